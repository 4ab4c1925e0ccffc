/- The plain laws of runs: which lists are runs, the deed before one, what is ahead of one. -/
import Derived.Test.YtbffhblebigcfaaCCaLBits
import Derived.Test.YtbffhblebigcfaaCCaS0
namespace Go.Proofs.Ytbffhblebigcfaa.Sk
open Go.RowKit Go.Proofs.YtbffhblebigcfaaW.PrintWords Go.Proofs.YtbffhblebigcfaaW.PrintLast Go.Proofs.YtbffhblebigcfaaW.PrintMore
set_option linter.unusedVariables false
set_option linter.unusedSimpArgs false
theorem drop71 (l : List S71) (i : Nat) (h : i < l.length) : l.drop i = rd_T71 l (i : Int) :: l.drop (i + 1) := by
  have er : rd_T71 l (i : Int) = l[i] := by simp [rd_T71, rdOf, List.getD_eq_getElem?_getD, h]
  rw [List.drop_eq_getElem_cons h, er]
theorem at71 (l : List S71) (d : S71) (h : d ∈ l) : ∃ i : Nat, i < l.length ∧ rd_T71 l (i : Int) = d := by
  obtain ⟨i, hi, he⟩ := List.getElem_of_mem h
  exact ⟨i, hi, by simp [rd_T71, rdOf, List.getD_eq_getElem?_getD, hi, he]⟩
def okD (d : S71) (i : Int) : Bool := decide (0 ≤ d.f0 ∧ d.f0 ≤ 5 ∧ 0 ≤ d.f1 ∧ d.f1 ≤ 100000 ∧ -1 ≤ d.f2 ∧ d.f2 ≤ i - 1)
def runGo : List S71 → Int → Bool
  | [], _ => true
  | d :: l, i => okD d i && runGo l (i + 1)
def runB (l : List S71) : Bool := decide (l.length ≤ 40) && runGo l 0
theorem within3 (n a b : Int) : skew_within.f n a b = some (decide (a ≤ n ∧ n ≤ b)) := by
  unfold skew_within.f
  by_cases h : n ≥ a
  · rw [if_pos h]; simp [show a ≤ n from h]
  · rw [if_neg h]; simp [show ¬ a ≤ n from h]
theorem isRun_go (l : List S71) (hl : l.length ≤ 9223372036854775807) : ∀ (d i : Nat), i + d = l.length → skew_isRun.l0 (d + 1) l l (l.length : Int) (i : Int) = some (runGo (l.drop i) i && decide ((l.length : Int) ≤ 40))
  | 0, i, h => by
    rw [List.drop_of_length_le (by omega)]
    simp only [skew_isRun.l0, runGo, Bool.true_and]
    rw [if_neg (by omega)]
  | d + 1, i, h => by
    rw [drop71 l i (by omega)]
    have ih := isRun_go l hl d (i + 1) (by omega)
    rw [show ((i + 1 : Nat) : Int) = (i : Int) + 1 by omega] at ih
    simp only [runGo]
    rw [skew_isRun.l0, if_pos (by omega), if_pos (by omega), if_pos (by omega), within3, within3, within3]
    simp only [Option.bind_some]
    rw [show wrap64 ((i : Int) - 1) = (i : Int) - 1 by unfold wrap64; omega, show wrap64 ((i : Int) + 1) = (i : Int) + 1 by unfold wrap64; omega, ih]
    have hT : (0 ≤ (rd_T71 l (i : Int)).f0 ∧ (rd_T71 l (i : Int)).f0 ≤ 5 ∧ 0 ≤ (rd_T71 l (i : Int)).f1 ∧ (rd_T71 l (i : Int)).f1 ≤ 100000 ∧ -1 ≤ (rd_T71 l (i : Int)).f2 ∧ (rd_T71 l (i : Int)).f2 ≤ (i : Int) - 1) → okD (rd_T71 l (i : Int)) i = true := fun h => decide_eq_true h
    have hF : ¬ (0 ≤ (rd_T71 l (i : Int)).f0 ∧ (rd_T71 l (i : Int)).f0 ≤ 5 ∧ 0 ≤ (rd_T71 l (i : Int)).f1 ∧ (rd_T71 l (i : Int)).f1 ≤ 100000 ∧ -1 ≤ (rd_T71 l (i : Int)).f2 ∧ (rd_T71 l (i : Int)).f2 ≤ (i : Int) - 1) → okD (rd_T71 l (i : Int)) i = false := fun h => decide_eq_false h
    by_cases h1 : 0 ≤ (rd_T71 l (i : Int)).f0 ∧ (rd_T71 l (i : Int)).f0 ≤ 5
    · by_cases h2 : 0 ≤ (rd_T71 l (i : Int)).f1 ∧ (rd_T71 l (i : Int)).f1 ≤ 100000
      · by_cases h3 : -1 ≤ (rd_T71 l (i : Int)).f2 ∧ (rd_T71 l (i : Int)).f2 ≤ (i : Int) - 1
        · rw [decide_eq_true h1, decide_eq_true h2, decide_eq_true h3, if_pos rfl, if_pos rfl, if_pos rfl, hT (by omega), Bool.true_and]
        · rw [decide_eq_true h1, decide_eq_true h2, decide_eq_false h3, if_pos rfl, if_pos rfl, if_neg (by simp), hF (by omega), Bool.false_and, Bool.false_and]
      · rw [decide_eq_true h1, decide_eq_false h2, if_pos rfl, if_neg (by simp), hF (by omega), Bool.false_and, Bool.false_and]
    · rw [decide_eq_false h1, if_neg (by simp), hF (by omega), Bool.false_and, Bool.false_and]
theorem isRun_b (l : List S71) (hl : l.length ≤ 9223372036854775807) : skew_isRun.f (l.length + 1) l = some (runB l) := by
  have h := isRun_go l hl l.length 0 (by omega)
  unfold skew_isRun.f runB
  rw [List.drop_zero] at h
  have : (((0 : Nat) : Int)) = 0 := rfl
  rw [this] at h
  rw [h, Bool.and_comm, show decide ((l.length : Int) ≤ 40) = decide (l.length ≤ 40) from decide_eq_decide.mpr (by omega)]
theorem ev_run (l : List S71) (hl : l.length ≤ 40) : ∀ (d i : Nat), i + d = l.length → Ev (fun k => afterwordref19_Run.l0 k l (i : Int)) (runGo (l.drop i) i)
  | 0, i, h => by
    rw [List.drop_of_length_le (by omega)]
    exact Ev.step (f := fun _ => some true) (fun k => by simp only [afterwordref19_Run.l0]; rw [if_neg (by omega)]) (Ev.now true)
  | d + 1, i, h => by
    rw [drop71 l i (by omega)]
    have ih := ev_run l hl d (i + 1) (by omega)
    simp only [runGo]
    have hno : ∀ p : Prop, (¬ (0 ≤ (rd_T71 l (i : Int)).f0 ∧ (rd_T71 l (i : Int)).f0 ≤ 5 ∧ 0 ≤ (rd_T71 l (i : Int)).f1 ∧ (rd_T71 l (i : Int)).f1 ≤ 100000 ∧ -1 ≤ (rd_T71 l (i : Int)).f2 ∧ (rd_T71 l (i : Int)).f2 ≤ (i : Int) - 1)) → (okD (rd_T71 l (i : Int)) i && runGo (l.drop (i + 1)) ((i : Int) + 1)) = false := fun _ h => by
      unfold okD; rw [decide_eq_false h, Bool.false_and]
    by_cases c1 : (rd_T71 l (i : Int)).f0 < 0
    · rw [hno True (by omega)]
      exact Ev.step (f := fun _ => some false) (fun k => by simp only [afterwordref19_Run.l0]; rw [if_pos (by omega), if_pos (by omega), if_pos c1]) (Ev.now false)
    by_cases c2 : (rd_T71 l (i : Int)).f0 ≥ 6
    · rw [hno True (by omega)]
      exact Ev.step (f := fun _ => some false) (fun k => by simp only [afterwordref19_Run.l0]; rw [if_pos (by omega), if_pos (by omega), if_neg c1, if_pos c2]) (Ev.now false)
    by_cases c3 : (rd_T71 l (i : Int)).f1 < 0
    · rw [hno True (by omega)]
      exact Ev.step (f := fun _ => some false) (fun k => by simp only [afterwordref19_Run.l0]; rw [if_pos (by omega), if_pos (by omega), if_neg c1, if_neg c2, if_pos c3]) (Ev.now false)
    by_cases c4 : (rd_T71 l (i : Int)).f1 > 100000
    · rw [hno True (by omega)]
      exact Ev.step (f := fun _ => some false) (fun k => by simp only [afterwordref19_Run.l0]; rw [if_pos (by omega), if_pos (by omega), if_neg c1, if_neg c2, if_neg c3, if_pos c4]) (Ev.now false)
    by_cases c5 : (rd_T71 l (i : Int)).f2 < -1
    · rw [hno True (by omega)]
      exact Ev.step (f := fun _ => some false) (fun k => by simp only [afterwordref19_Run.l0]; rw [if_pos (by omega), if_pos (by omega), if_neg c1, if_neg c2, if_neg c3, if_neg c4, if_pos c5]) (Ev.now false)
    by_cases c6 : (rd_T71 l (i : Int)).f2 ≥ (i : Int)
    · rw [hno True (by omega)]
      exact Ev.step (f := fun _ => some false) (fun k => by simp only [afterwordref19_Run.l0]; rw [if_pos (by omega), if_pos (by omega), if_neg c1, if_neg c2, if_neg c3, if_neg c4, if_neg c5, if_pos c6]) (Ev.now false)
    have hok : okD (rd_T71 l (i : Int)) i = true := by unfold okD; exact decide_eq_true (by omega)
    rw [hok, Bool.true_and, show ((i : Int) + 1) = ((i + 1 : Nat) : Int) by omega]
    refine Ev.step (f := fun k => afterwordref19_Run.l0 k l ((i + 1 : Nat) : Int)) (fun k => ?_) ih
    simp only [afterwordref19_Run.l0]
    rw [if_pos (by omega), if_pos (by omega), if_neg c1, if_neg c2, if_neg c3, if_neg c4, if_neg c5, if_neg c6, show wrap64 ((i : Int) + 1) = ((i + 1 : Nat) : Int) by unfold wrap64; omega]
theorem ev_Run (l : List S71) : Ev (fun k => afterwordref19_Run.f k l) (runB l) := by
  unfold runB
  by_cases h : l.length ≤ 40
  · have := ev_run l h l.length 0 (by omega)
    rw [List.drop_zero] at this
    rw [decide_eq_true h, Bool.true_and]
    exact Ev.congr (fun k => by unfold afterwordref19_Run.f; rw [if_neg (by omega)]; rfl) this
  · rw [decide_eq_false h, Bool.false_and]
    exact Ev.congr (f := fun _ => some false) (fun k => by unfold afterwordref19_Run.f; rw [if_pos (by omega)]) (Ev.now false)
structure RunIs (l : List S71) : Prop where
  len : l.length ≤ 40
  deed : ∀ i : Nat, i < l.length → (0 ≤ (rd_T71 l (i : Int)).f0 ∧ (rd_T71 l (i : Int)).f0 ≤ 5) ∧ (0 ≤ (rd_T71 l (i : Int)).f1 ∧ (rd_T71 l (i : Int)).f1 ≤ 100000) ∧ -1 ≤ (rd_T71 l (i : Int)).f2 ∧ (rd_T71 l (i : Int)).f2 < (i : Int)
theorem runGo_at (l : List S71) : ∀ (d i : Nat), i + d = l.length → runGo (l.drop i) i = true → ∀ j, i ≤ j → j < l.length → okD (rd_T71 l (j : Int)) j = true
  | 0, i, h, _, j, h1, h2 => by omega
  | d + 1, i, h, hr, j, h1, h2 => by
    rw [drop71 l i (by omega)] at hr
    simp only [runGo, Bool.and_eq_true] at hr
    by_cases hij : j = i
    · subst hij; exact hr.1
    · exact runGo_at l d (i + 1) (by omega) (by rw [show ((i + 1 : Nat) : Int) = (i : Int) + 1 by omega]; exact hr.2) j (by omega) h2
theorem runIs (l : List S71) (h : runB l = true) : RunIs l := by
  unfold runB at h
  rw [Bool.and_eq_true] at h
  refine ⟨of_decide_eq_true h.1, fun i hi => ?_⟩
  have := runGo_at l l.length 0 (by omega) (by rw [List.drop_zero]; exact h.2) i (by omega) hi
  unfold okD at this
  have := of_decide_eq_true this
  omega
def befS (l : List S71) (m : Int) : Nat → Int
  | 0 => -1
  | j + 1 => if (rd_T71 l (j : Int)).f0 = m then (j : Int) else befS l m j
def bef (l : List S71) (n : Nat) : Int := befS l (rd_T71 l (n : Int)).f0 n
theorem befS_lt (l : List S71) (m : Int) : ∀ n : Nat, -1 ≤ befS l m n ∧ befS l m n < n
  | 0 => ⟨by simp [befS], by simp [befS]⟩
  | n + 1 => by
    have := befS_lt l m n
    simp only [befS]
    split <;> omega
theorem befS_spec (l : List S71) (m : Int) : ∀ n : Nat, (0 ≤ befS l m n → (rd_T71 l (befS l m n)).f0 = m) ∧ ∀ j : Nat, j < n → (rd_T71 l (j : Int)).f0 = m → (j : Int) ≤ befS l m n
  | 0 => ⟨fun h => by simp [befS] at h, fun j hj => by omega⟩
  | n + 1 => by
    obtain ⟨h1, h2⟩ := befS_spec l m n
    simp only [befS]
    by_cases c : (rd_T71 l (n : Int)).f0 = m
    · rw [if_pos c]
      exact ⟨fun _ => c, fun j hj _ => by omega⟩
    · rw [if_neg c]
      refine ⟨h1, fun j hj hm => ?_⟩
      by_cases hjn : j = n
      · subst hjn; exact absurd hm c
      · exact h2 j (by omega) hm
theorem befGo_eq (l : List S71) : ∀ (d i : Nat) (f : Int → Option Int), i + d = l.length → (∀ m, f m = if befS l m i = -1 then none else some (befS l m i)) → befGo (l.drop i) f (i : Int) = (List.range d).map fun k => bef l (i + k)
  | 0, i, f, h, hf => by rw [List.drop_of_length_le (by omega)]; rfl
  | d + 1, i, f, h, hf => by
    rw [drop71 l i (by omega)]
    simp only [befGo]
    have ih := befGo_eq l d (i + 1) (upd f (rd_T71 l (i : Int)).f0 i) (by omega) (fun m => by
      have hb := befS_lt l m i
      by_cases c : m = (rd_T71 l (i : Int)).f0
      · have e1 : befS l m (i + 1) = i := if_pos c.symm
        have e2 : upd f (rd_T71 l (i : Int)).f0 (i : Int) m = some (i : Int) := if_pos c
        rw [e1, e2, if_neg (by omega)]
      · have e1 : befS l m (i + 1) = befS l m i := if_neg (fun e => c e.symm)
        have e2 : upd f (rd_T71 l (i : Int)).f0 (i : Int) m = f m := if_neg c
        rw [e1, e2, hf m])
    rw [show ((i + 1 : Nat) : Int) = (i : Int) + 1 by omega] at ih
    rw [ih, List.range_succ_eq_map, List.map_cons, List.map_map]
    congr 1
    · rw [hf]
      unfold bef
      have hb := befS_lt l (rd_T71 l (i : Int)).f0 i
      rw [Nat.add_zero]
      split
      · rename_i h0; rw [h0]; rfl
      · rfl
    · apply List.map_congr_left
      intro k _
      show bef l (i + 1 + k) = bef l (i + (k + 1))
      rw [show i + 1 + k = i + (k + 1) by omega]
def bsL (l : List S71) : List Int := (List.range l.length).map fun k => bef l k
theorem bef_list (l : List S71) (h : RunIs l) : skew_befores.f l = some (bsL l) := by
  unfold skew_befores.f
  have hl := h.len
  rw [if_pos ⟨fun d hd => by
    obtain ⟨i, hi, he⟩ := at71 l d hd
    have := h.deed i hi
    rw [he] at this
    omega, by omega⟩]
  have := befGo_eq l l.length 0 (fun _ => none) (by omega) (fun m => by simp [befS])
  rw [List.drop_zero] at this
  rw [show ((0 : Nat) : Int) = 0 from rfl] at this
  rw [this]
  unfold bsL
  simp
theorem ev_before (l : List S71) (n : Nat) (hn : n < l.length) (hl : l.length ≤ 40) : ∀ j : Nat, j ≤ n → Ev (fun k => afterwordref19_before.l0 k l (n : Int) ((j : Int) - 1)) (befS l (rd_T71 l (n : Int)).f0 j)
  | 0, _ => Ev.step (f := fun _ => some (-1)) (fun k => by simp only [afterwordref19_before.l0]; rw [if_neg (by omega)]) (Ev.now _)
  | j + 1, hj => by
    have ih := ev_before l n hn hl j (by omega)
    rw [show ((j + 1 : Nat) : Int) - 1 = (j : Int) by omega]
    simp only [befS]
    by_cases c : (rd_T71 l (j : Int)).f0 = (rd_T71 l (n : Int)).f0
    · rw [if_pos c]
      exact Ev.step (f := fun _ => some (j : Int)) (fun k => by simp only [afterwordref19_before.l0]; rw [if_pos (by omega), if_pos (by omega), if_pos (by omega), if_pos (by omega), if_pos (by omega), if_pos c]) (Ev.now _)
    · rw [if_neg c]
      refine Ev.step (f := fun k => afterwordref19_before.l0 k l (n : Int) ((j : Int) - 1)) (fun k => ?_) ih
      simp only [afterwordref19_before.l0]
      rw [if_pos (by omega), if_pos (by omega), if_pos (by omega), if_pos (by omega), if_pos (by omega), if_neg c, show wrap64 ((j : Int) - 1) = (j : Int) - 1 by unfold wrap64; omega]
theorem ev_Before (l : List S71) (n : Nat) (hn : n < l.length) (hl : l.length ≤ 40) : Ev (fun k => afterwordref19_before.f k l (n : Int)) (bef l n) := by
  have := ev_before l n hn hl n (Nat.le_refl _)
  exact Ev.congr (fun k => by unfold afterwordref19_before.f; rw [show wrap64 ((n : Int) - 1) = (n : Int) - 1 by unfold wrap64; omega]) this
end Go.Proofs.Ytbffhblebigcfaa.Sk
