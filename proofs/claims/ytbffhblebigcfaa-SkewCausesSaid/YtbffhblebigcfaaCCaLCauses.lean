/- The plain laws of runs: the order of causes: stamps grow along it, counts decide it, walls are its greatest clocks, and cuts at stamps are closed. -/
import Derived.Test.YtbffhblebigcfaaCCaLAt
namespace Go.Proofs.Ytbffhblebigcfaa.Sk
open Go.RowKit Go.Proofs.YtbffhblebigcfaaW.PrintWords Go.Proofs.YtbffhblebigcfaaW.PrintLast Go.Proofs.YtbffhblebigcfaaW.PrintMore
set_option linter.unusedVariables false
set_option linter.unusedSimpArgs false
theorem upAt_gt (s : List S47) (k : Int) (p : S47) (h : 0 ≤ k) : lt47 (rd_T47 s k) (upAt s k p) := by
  unfold upAt
  rw [if_pos h]
  exact upS_gt _ _
theorem stA_edge (l : List S71) (h : RunIs l) {i j : Nat} (hi : i < l.length) (hr : Rr l i j) : lt47 (stA l j) (stA l i) := by
  have hlt := hr.lt h hi
  rcases hr with hr | hr
  · exact stA_bef l i j hr
  · show lt47 (stA l j) (stOf l (stL l i) i)
    unfold stOf
    rw [hr, ← stL_get l i j hlt]
    exact upAt_gt _ _ _ (by omega)
theorem stA_ahead (l : List S71) (h : RunIs l) {i j : Nat} (hi : i < l.length) (hp : Pt l (-1) i j) : lt47 (stA l j) (stA l i) := by
  refine (Pt.ind (p := fun j => j < l.length ∧ lt47 (stA l j) (stA l i)) (fun j hr => ⟨by have := hr.lt h hi; omega, stA_edge l h hi hr⟩) (fun m j hpm ih _ hr => ?_) hp).2
  exact ⟨by have := hr.lt h ih.1; omega, (stA_edge l h ih.1 hr).trans ih.2⟩
theorem leB_lt {s0 s1 : Int} {x y : S47} (h : lt47 x y) (hy : leB s0 s1 y = true) : leB s0 s1 x = true := by
  rw [leB_iff] at *
  unfold lt47 at h
  omega
theorem cb_le_of_le (q : Nat → Bool) {a b : Nat} (h : a ≤ b) : cb q a ≤ cb q b := by
  obtain ⟨d, rfl⟩ : ∃ d, b = a + d := ⟨b - a, by omega⟩
  clear h
  induction d with
  | zero => exact Nat.le_refl _
  | succ d ih => refine Nat.le_trans ih ?_; show cb q (a + d) ≤ cb q ((a + d) + 1); simp only [cb]; omega
theorem cb_flat (q : Nat → Bool) {a b : Nat} (h : a ≤ b) (hq : ∀ j, a ≤ j → j < b → q j = false) : cb q b = cb q a := by
  obtain ⟨d, rfl⟩ : ∃ d, b = a + d := ⟨b - a, by omega⟩
  clear h
  induction d with
  | zero => rfl
  | succ d ih =>
    show cb q ((a + d) + 1) = _
    simp only [cb]
    rw [hq (a + d) (by omega) (by omega), ih (fun j h1 h2 => hq j h1 (by omega))]
    simp
theorem cb_rank (l : List S71) (q : Nat → Bool) (m : Int) (hq : ∀ j j' : Nat, q j = true → mq l m j = true → j' < j → mq l m j' = true → q j' = true) (n j : Nat) (hj : j < n) (hm : mq l m j = true) :
    cb (mq l m) j < cb (fun j => q j && mq l m j) n ↔ q j = true := by
  constructor
  · intro h
    cases hqj : q j with
    | true => rfl
    | false =>
      have h1 : cb (fun j => q j && mq l m j) n = cb (fun j => q j && mq l m j) j := cb_flat _ (by omega) fun j' h1 h2 => by
        cases hm' : mq l m j' with
        | false => exact Bool.and_false _
        | true =>
          rw [Bool.and_true]
          cases hq' : q j' with
          | false => rfl
          | true =>
            by_cases e : j' = j
            · rw [e] at hq'; rw [hqj] at hq'; cases hq'
            · have := hq j' j hq' hm' (by omega) hm
              rw [hqj] at this; cases this
      have h2 := cb_mono (q := fun j => q j && mq l m j) (r := mq l m) j (fun j _ hj => by rw [Bool.and_eq_true] at hj; exact hj.2)
      omega
  · intro hqj
    have e : cb (fun j => q j && mq l m j) j = cb (mq l m) j := cb_congr j fun j' hj' => by
      cases h3 : mq l m j' with
      | false => exact Bool.and_false _
      | true => rw [hq j j' hqj hm hj' h3]; rfl
    have e2 : cb (fun j => q j && mq l m j) (j + 1) = cb (mq l m) j + 1 := by
      simp only [cb, hqj, hm, Bool.and_self, if_true]
      rw [e]
    have e3 := cb_le_of_le (fun j => q j && mq l m j) (show j + 1 ≤ n by omega)
    omega
theorem atQ_swap (l : List S71) (s0 s1 : Int) (m n : Nat) : cb (atQ l s0 s1 m) n = cb (fun j => leB s0 s1 (stA l j) && mq l (m : Int) j) n :=
  cb_congr n fun j _ => by unfold atQ; exact Bool.and_comm _ _
theorem mq_eq {l : List S71} {m : Int} {j : Nat} (h : mq l m j = true) : (rd_T71 l (j : Int)).f0 = m := by unfold mq at h; exact of_decide_eq_true h
theorem inB_at (l : List S71) (h : RunIs l) (s0 s1 : Int) (j : Nat) (hj : j < l.length) : inB l (atL l s0 s1 l.length) j = true ↔ leB s0 s1 (stA l j) = true := by
  have hd := (h.deed j hj).1
  obtain ⟨k, hk⟩ : ∃ k : Nat, (rd_T71 l (j : Int)).f0 = (k : Int) := ⟨(rd_T71 l (j : Int)).f0.toNat, by omega⟩
  have hr := cb_rank l (fun j => leB s0 s1 (stA l j)) (k : Int) (fun j j' h1 h2 h3 h4 => leB_lt (stA_grow l j j' h3 (by rw [mq_eq h2, mq_eq h4])) h1) l.length j hj (by unfold mq; rw [hk]; simp)
  unfold inB rk
  rw [decide_eq_true_eq, hk, rd_atL _ _ _ _ _ (by omega), atQ_swap, ← hr]
  omega
theorem at_cut (l : List S71) (h : RunIs l) (s0 s1 : Int) : cutOk (mineF l) (atL l s0 s1 l.length) = true := by
  unfold cutOk
  rw [List.all_eq_true]
  intro m hm
  rw [List.mem_range] at hm
  unfold okC
  rw [mine_count l h m hm, rd_atL _ _ _ _ _ hm, decide_eq_true_eq]
  have := cb_mono (q := atQ l s0 s1 m) (r := mq l (m : Int)) l.length (fun j _ hj => by unfold atQ at hj; rw [Bool.and_eq_true] at hj; exact hj.1)
  omega
theorem at_closed (l : List S71) (h : RunIs l) (s0 s1 : Int) : allFrom (cnB l (atL l s0 s1 l.length)) l.length 0 = true := by
  rw [allFrom_iff]
  intro i _ hi
  have hi' : i < l.length := by omega
  unfold cnB
  rw [Bool.or_eq_true]
  cases hin : inB l (atL l s0 s1 l.length) i with
  | false => exact .inl rfl
  | true =>
    refine .inr ((allFrom_iff _ _ _).mpr fun m _ hm => decide_eq_true ?_)
    exact (row_iff l h _ (cut_bd l h _ (at_cut l h s0 s1)) i hi' hin).mpr (fun j hp => by
      have hlt := hp.lt h hi'
      rw [inB_at l h s0 s1 j (by omega)]
      exact leB_lt (stA_ahead l h hi' hp) ((inB_at l h s0 s1 i hi').mp hin)) m (by omega)
def rowOf (l : List S71) (i : Nat) : List Int := cntRow (aheadsF (bsL l) l) (mineF l) (i : Int)
def pastB (o : List Bool) (i j : Nat) : Bool := decide (j = i) || rdOf false o (j : Int)
theorem rowOf_count (l : List S71) (h : RunIs l) (i : Nat) (hi : i < l.length) (o : List Bool) (hM : Marks l (-1) i o) (m : Nat) (hm : m < 6) : rd (rowOf l i) (m : Int) = ((cb (fun j => pastB o i j && mq l (m : Int) j) l.length : Nat) : Int) := by
  unfold rowOf
  rw [cnt_eq l h i hi o hM, rd_cntL _ _ _ _ _ hm]
  congr 1
  exact cb_congr _ fun j hj => by
    unfold cntQ pastB mq
    congr 1
    exact decide_eq_decide.mpr ⟨fun h => h.2, fun h => ⟨hj, h⟩⟩
theorem pastB_iff {l : List S71} {i : Nat} {o : List Bool} (hM : Marks l (-1) i o) (j : Nat) : pastB o i j = true ↔ (j = i ∨ Pt l (-1) i j) := by
  unfold pastB
  rw [Bool.or_eq_true, decide_eq_true_eq, hM.2]
theorem pastB_back {l : List S71} {i : Nat} {o : List Bool} (hM : Marks l (-1) i o) (m : Int) (j j' : Nat) (h1 : pastB o i j = true) (h2 : mq l m j = true) (h3 : j' < j) (h4 : mq l m j' = true) : pastB o i j' = true := by
  rw [pastB_iff hM] at *
  have hc := chain l j j' h3 (by rw [mq_eq h2, mq_eq h4])
  rcases h1 with h1 | h1
  · subst h1; exact .inr hc
  · exact .inr (Pt.trans h1 hc)
theorem counts_decide (l : List S71) (h : RunIs l) (x y : Nat) (hx : x < l.length) (hy : y < l.length) : (∀ m : Nat, m < 6 → rd (rowOf l x) (m : Int) ≤ rd (rowOf l y) (m : Int)) ↔ (Pt l (-1) y x ∨ x = y) := by
  obtain ⟨o, _, hM⟩ := ev_AheadOf l h x hx
  obtain ⟨o', _, hM'⟩ := ev_AheadOf l h y hy
  constructor
  · intro hall
    have hd := (h.deed x hx).1
    obtain ⟨k, hk⟩ : ∃ k : Nat, (rd_T71 l (x : Int)).f0 = (k : Int) := ⟨(rd_T71 l (x : Int)).f0.toNat, by omega⟩
    have hm : mq l (k : Int) x = true := by unfold mq; rw [hk]; simp
    have h1 := hall k (by omega)
    rw [rowOf_count l h x hx o hM k (by omega), rowOf_count l h y hy o' hM' k (by omega)] at h1
    have h2 := (cb_rank l (pastB o x) (k : Int) (pastB_back hM (k : Int)) l.length x hx hm).mpr ((pastB_iff hM x).mpr (.inl rfl))
    have h3 := (cb_rank l (pastB o' y) (k : Int) (pastB_back hM' (k : Int)) l.length x hx hm).mp (by omega)
    exact ((pastB_iff hM' x).mp h3).symm
  · intro hp m hm
    rw [rowOf_count l h x hx o hM m hm, rowOf_count l h y hy o' hM' m hm]
    have := cb_mono (q := fun j => pastB o x j && mq l (m : Int) j) (r := fun j => pastB o' y j && mq l (m : Int) j) l.length (fun j _ hj => by
      rw [Bool.and_eq_true] at hj ⊢
      refine ⟨(pastB_iff hM' j).mpr ?_, hj.2⟩
      have := (pastB_iff hM j).mp hj.1
      rcases hp with hp | hp
      · rcases this with h1 | h1
        · subst h1; exact .inr hp
        · exact .inr (Pt.trans hp h1)
      · subst hp; exact this)
    omega
def leTo (xs ys : List Int) : Nat → Bool
  | 0 => true
  | m + 1 => leTo xs ys m && decide (rd xs (m : Int) ≤ rd ys (m : Int))
theorem leTo_iff (xs ys : List Int) : ∀ n, leTo xs ys n = true ↔ ∀ m : Nat, m < n → rd xs (m : Int) ≤ rd ys (m : Int)
  | 0 => ⟨fun _ m h => by omega, fun _ => rfl⟩
  | n + 1 => by
    simp only [leTo, Bool.and_eq_true, decide_eq_true_eq]
    rw [leTo_iff xs ys n]
    constructor
    · rintro ⟨h1, h2⟩ m hm
      by_cases e : m = n
      · subst e; exact h2
      · exact h1 m (by omega)
    · intro h
      exact ⟨fun m hm => h m (by omega), h n (by omega)⟩
theorem leTo_six (l : List S71) (h : RunIs l) (x y : Nat) (hx : x < l.length) (hy : y < l.length) : leTo (rowOf l x) (rowOf l y) 6 = true ↔ (Pt l (-1) y x ∨ x = y) := by
  rw [leTo_iff]
  exact counts_decide l h x y hx hy
theorem upAt_f0 (s : List S47) (k : Int) (p : S47) : (upAt s k p).f0 = if k ≥ 0 ∧ (rd_T47 s k).f0 > p.f0 then (rd_T47 s k).f0 else p.f0 := by
  unfold upAt upS
  by_cases c : k ≥ 0
  · rw [if_pos c]
    by_cases c2 : (rd_T47 s k).f0 > p.f0 ∨ ((rd_T47 s k).f0 = p.f0 ∧ (rd_T47 s k).f1 + 1 > p.f1)
    · rw [if_pos c2]
      by_cases c3 : k ≥ 0 ∧ (rd_T47 s k).f0 > p.f0
      · rw [if_pos c3]
      · rw [if_neg c3]; simp only; omega
    · rw [if_neg c2, if_neg (by omega)]
  · rw [if_neg c, if_neg (by omega)]
def WallIs (l : List S71) (y : Nat) (w : Int) : Prop := (rd_T71 l (y : Int)).f1 ≤ w ∧ (∀ j : Nat, Pt l (-1) y j → (rd_T71 l (j : Int)).f1 ≤ w) ∧ (w = (rd_T71 l (y : Int)).f1 ∨ ∃ j : Nat, Pt l (-1) y j ∧ w = (rd_T71 l (j : Int)).f1)
theorem wall_is (l : List S71) (h : RunIs l) : ∀ y : Nat, y < l.length → WallIs l y (stA l y).f0 := by
  intro y
  induction y using Nat.strongRecOn with
  | _ y ih =>
    intro hy
    have hd := h.deed y hy
    have hlt := befS_lt l (rd_T71 l (y : Int)).f0 y
    have hbe : befS l (rd_T71 l (y : Int)).f0 y = bef l y := rfl
    rw [hbe] at hlt
    have hf0 : (stA l y).f0 = (upAt (stL l y) (rd_T71 l (y : Int)).f2 (upAt (stL l y) (bef l y) ⟨(rd_T71 l (y : Int)).f1, 0⟩)).f0 := rfl
    rw [upAt_f0, upAt_f0] at hf0
    simp only at hf0
    have hedge : ∀ k : Nat, Rr l y k → (stA l k).f0 ≤ (stA l y).f0 := fun k hr => by
      have := stA_edge l h hy hr
      unfold lt47 at this
      omega
    have key : (stA l y).f0 = (rd_T71 l (y : Int)).f1 ∨ ∃ k : Nat, Rr l y k ∧ (stA l y).f0 = (stA l k).f0 := by
      by_cases c1 : (rd_T71 l (y : Int)).f2 ≥ 0
      · obtain ⟨k, hk⟩ : ∃ k : Nat, (rd_T71 l (y : Int)).f2 = (k : Int) := ⟨((rd_T71 l (y : Int)).f2).toNat, by omega⟩
        rw [hk, stL_get l y k (by omega)] at hf0
        by_cases c2 : bef l y ≥ 0
        · obtain ⟨b, hb⟩ : ∃ b : Nat, bef l y = (b : Int) := ⟨(bef l y).toNat, by omega⟩
          rw [hb, stL_get l y b (by omega)] at hf0
          by_cases c3 : (b : Int) ≥ 0 ∧ (stA l b).f0 > (rd_T71 l (y : Int)).f1
          · rw [if_pos c3] at hf0
            by_cases c4 : (k : Int) ≥ 0 ∧ (stA l k).f0 > (stA l b).f0
            · rw [if_pos c4] at hf0; exact .inr ⟨k, .inr hk, hf0⟩
            · rw [if_neg c4] at hf0; exact .inr ⟨b, .inl hb, hf0⟩
          · rw [if_neg c3] at hf0
            by_cases c4 : (k : Int) ≥ 0 ∧ (stA l k).f0 > (rd_T71 l (y : Int)).f1
            · rw [if_pos c4] at hf0; exact .inr ⟨k, .inr hk, hf0⟩
            · rw [if_neg c4] at hf0; exact .inl hf0
        · rw [if_neg (c := bef l y ≥ 0 ∧ _) (by omega)] at hf0
          by_cases c4 : (k : Int) ≥ 0 ∧ (stA l k).f0 > (rd_T71 l (y : Int)).f1
          · rw [if_pos c4] at hf0; exact .inr ⟨k, .inr hk, hf0⟩
          · rw [if_neg c4] at hf0; exact .inl hf0
      · rw [if_neg (c := (rd_T71 l (y : Int)).f2 ≥ 0 ∧ _) (by omega)] at hf0
        by_cases c2 : bef l y ≥ 0
        · obtain ⟨b, hb⟩ : ∃ b : Nat, bef l y = (b : Int) := ⟨(bef l y).toNat, by omega⟩
          rw [hb, stL_get l y b (by omega)] at hf0
          by_cases c3 : (b : Int) ≥ 0 ∧ (stA l b).f0 > (rd_T71 l (y : Int)).f1
          · rw [if_pos c3] at hf0; exact .inr ⟨b, .inl hb, hf0⟩
          · rw [if_neg c3] at hf0; exact .inl hf0
        · rw [if_neg (c := bef l y ≥ 0 ∧ _) (by omega)] at hf0; exact .inl hf0
    have hown : (rd_T71 l (y : Int)).f1 ≤ (stA l y).f0 := by
      rw [hf0]
      by_cases c3 : bef l y ≥ 0 ∧ (rd_T47 (stL l y) (bef l y)).f0 > (rd_T71 l (y : Int)).f1
      · rw [if_pos c3]
        by_cases c4 : (rd_T71 l (y : Int)).f2 ≥ 0 ∧ (rd_T47 (stL l y) (rd_T71 l (y : Int)).f2).f0 > (rd_T47 (stL l y) (bef l y)).f0
        · rw [if_pos c4]; omega
        · rw [if_neg c4]; omega
      · rw [if_neg c3]
        by_cases c4 : (rd_T71 l (y : Int)).f2 ≥ 0 ∧ (rd_T47 (stL l y) (rd_T71 l (y : Int)).f2).f0 > (rd_T71 l (y : Int)).f1
        · rw [if_pos c4]; omega
        · rw [if_neg c4]; omega
    refine ⟨hown, fun j hp => ?_, ?_⟩
    · obtain ⟨k, hr, hkj⟩ := (Pt.head y j).mp hp
      have hkl := hr.lt h hy
      have hI := ih k hkl (by omega)
      have hE := hedge k hr
      rcases hkj with hkj | hkj
      · subst hkj; have := hI.1; omega
      · have := hI.2.1 j hkj; omega
    · rcases key with key | ⟨k, hr, hk⟩
      · exact .inl key
      · have hkl := hr.lt h hy
        have hI := ih k hkl (by omega)
        rw [hk]
        rcases hI.2.2 with hw | ⟨j, hj, hw⟩
        · exact .inr ⟨k, .edge hr, hw⟩
        · exact .inr ⟨j, (Pt.head y j).mpr ⟨k, hr, .inr hj⟩, hw⟩
def wallTo (l : List S71) (y : Nat) : Nat → Int
  | 0 => (rd_T71 l (y : Int)).f1
  | n + 1 => if (ahR l (n : Int) (y : Int)).1 = true then mx (wallTo l y n) (rd_T71 l (n : Int)).f1 else wallTo l y n
theorem ahR_val (l : List S71) (hb : runB l = true) (x y : Nat) (hx : x < l.length) (hy : y < l.length) : (ahR l (x : Int) (y : Int)).2 = 0 ∧ ((ahR l (x : Int) (y : Int)).1 = true ↔ Pt l (-1) y x) := by
  have h := runIs l hb
  have hll := h.len
  unfold ahR
  rw [if_pos hb, if_pos (by omega), if_pos (by omega)]
  exact ⟨rfl, (aheads_set l h y hy).has x (by omega)⟩
theorem mx_spec (a b : Int) : a ≤ mx a b ∧ b ≤ mx a b ∧ (mx a b = a ∨ mx a b = b) := by
  obtain ⟨m, hm, c⟩ := mx_cases a b
  rw [hm]; omega
theorem wallTo_spec (l : List S71) (hb : runB l = true) (y : Nat) (hy : y < l.length) : ∀ n : Nat, n ≤ l.length → (rd_T71 l (y : Int)).f1 ≤ wallTo l y n ∧ (∀ j : Nat, j < n → Pt l (-1) y j → (rd_T71 l (j : Int)).f1 ≤ wallTo l y n) ∧ (wallTo l y n = (rd_T71 l (y : Int)).f1 ∨ ∃ j : Nat, Pt l (-1) y j ∧ wallTo l y n = (rd_T71 l (j : Int)).f1)
  | 0, _ => ⟨Int.le_refl _, fun j hj => by omega, .inl rfl⟩
  | n + 1, hn => by
    obtain ⟨h1, h2, h3⟩ := wallTo_spec l hb y hy n (by omega)
    have hA := (ahR_val l hb n y (by omega) hy).2
    simp only [wallTo]
    by_cases c : (ahR l (n : Int) (y : Int)).1 = true
    · rw [if_pos c]
      obtain ⟨m1, m2, m3⟩ := mx_spec (wallTo l y n) (rd_T71 l (n : Int)).f1
      refine ⟨by omega, fun j hj hp => ?_, ?_⟩
      · by_cases e : j = n
        · subst e; exact m2
        · have := h2 j (by omega) hp; omega
      · rcases m3 with m3 | m3
        · rw [m3]; exact h3
        · exact .inr ⟨n, hA.mp c, m3⟩
    · rw [if_neg c]
      refine ⟨h1, fun j hj hp => ?_, h3⟩
      by_cases e : j = n
      · subst e; exact absurd (hA.mpr hp) c
      · exact h2 j (by omega) hp
theorem wall_eq (l : List S71) (hb : runB l = true) (y : Nat) (hy : y < l.length) : (stA l y).f0 = wallTo l y y := by
  have h := runIs l hb
  obtain ⟨h1, h2, h3⟩ := wall_is l h y hy
  obtain ⟨k1, k2, k3⟩ := wallTo_spec l hb y hy y (by omega)
  have a : (stA l y).f0 ≤ wallTo l y y := by
    rcases h3 with h3 | ⟨j, hj, h3⟩
    · omega
    · have := k2 j (hj.lt h hy) hj; omega
  have b : wallTo l y y ≤ (stA l y).f0 := by
    rcases k3 with k3 | ⟨j, hj, k3⟩
    · omega
    · have := h2 j hj; omega
  omega
theorem stA_count (l : List S71) (h : RunIs l) (y : Nat) (hy : y < l.length) : 0 ≤ (stA l y).f1 ∧ (stA l y).f1 ≤ (y : Int) := by
  have := stL_bd l h (y + 1) (by omega) (stA l y) (by simp only [stL, List.mem_append, List.mem_cons, List.not_mem_nil, or_false]; exact .inr rfl)
  omega
end Go.Proofs.Ytbffhblebigcfaa.Sk
