/- The plain laws of runs: how many deeds of each machine have a stamp up to s, computed two ways. -/
import Derived.Test.YtbffhblebigcfaaCCaLClosed
import Derived.Test.YtbffhblebigcfaaCCaLStamps
import Derived.Test.YtbffhblebigcfaaCCaGAt
import Derived.Test.YtbffhblebigcfaaCCaS1
namespace Go.Proofs.Ytbffhblebigcfaa.Sk
open Go.RowKit Go.Proofs.YtbffhblebigcfaaW.PrintWords Go.Proofs.YtbffhblebigcfaaW.PrintLast Go.Proofs.YtbffhblebigcfaaW.PrintMore
set_option linter.unusedVariables false
set_option linter.unusedSimpArgs false
theorem bsr_spec (p : Int → Bool) (n : Int) (mono : ∀ x y, 0 ≤ x → x ≤ y → y < n → p x = true → p y = true) : ∀ (fuel : Nat) (i j : Int), 0 ≤ i → i ≤ j → j ≤ n → j - i ≤ fuel → (∀ x, 0 ≤ x → x < i → p x = false) → (∀ x, j ≤ x → x < n → p x = true) →
    (0 ≤ bsr p fuel i j ∧ bsr p fuel i j ≤ n) ∧ (∀ x, 0 ≤ x → x < bsr p fuel i j → p x = false) ∧ (∀ x, bsr p fuel i j ≤ x → x < n → p x = true)
  | 0, i, j, h0, h1, h2, h3, h4, h5 => by
    obtain rfl : i = j := by omega
    exact ⟨⟨h0, h2⟩, h4, h5⟩
  | k + 1, i, j, h0, h1, h2, h3, h4, h5 => by
    simp only [bsr]
    by_cases c : i < j
    · rw [if_pos c]
      by_cases c2 : p ((i + j) / 2) = true
      · rw [if_pos c2]
        exact bsr_spec p n mono k i ((i + j) / 2) h0 (by omega) (by omega) (by omega) h4 (fun x hx hn => mono _ x (by omega) hx hn c2)
      · rw [if_neg c2]
        rw [Bool.not_eq_true] at c2
        refine bsr_spec p n mono k ((i + j) / 2 + 1) j (by omega) (by omega) h2 (by omega) (fun x hx hn => ?_) h5
        cases hp : p x with
        | false => rfl
        | true =>
          have := mono x ((i + j) / 2) hx (by omega) (by omega) hp
          rw [c2] at this; cases this
    · rw [if_neg c]
      obtain rfl : i = j := by omega
      exact ⟨⟨h0, h2⟩, h4, h5⟩
theorem cmpF_cases (a t : S126) : (cmpF a t < 0 ↔ (a.f0 < t.f0 ∨ (a.f0 = t.f0 ∧ a.f1 < t.f1))) ∧ (cmpF a t = 0 ↔ (a.f0 = t.f0 ∧ a.f1 = t.f1)) := by
  unfold cmpF skew_stamp_compare.f
  by_cases h1 : (a.f0 == t.f0 && (a.f1 == t.f1)) = true
  · rw [if_pos h1]
    simp only [Bool.and_eq_true, beq_iff_eq] at h1
    show ((0 : Int) < 0 ↔ _) ∧ ((0 : Int) = 0 ↔ _)
    exact ⟨⟨fun h => absurd h (by decide), fun h => by omega⟩, ⟨fun _ => h1, fun _ => rfl⟩⟩
  · rw [if_neg h1]
    simp only [Bool.and_eq_true, beq_iff_eq] at h1
    by_cases h2 : a.f0 < t.f0
    · rw [if_pos h2]; simp only [Option.getD_some]; omega
    · rw [if_neg h2]
      by_cases h3 : a.f0 = t.f0
      · rw [if_pos h3]
        by_cases h4 : a.f1 < t.f1
        · rw [if_pos h4]; simp only [Option.getD_some]; omega
        · rw [if_neg h4]; simp only [Option.getD_some]; omega
      · rw [if_neg h3]; simp only [Option.getD_some]; omega
def leB (a0 a1 : Int) (x : S47) : Bool := !(decide (a0 < x.f0) || (decide (a0 = x.f0) && decide (a1 < x.f1)))
theorem leB_iff (a0 a1 : Int) (x : S47) : leB a0 a1 x = true ↔ (x.f0 < a0 ∨ (x.f0 = a0 ∧ x.f1 ≤ a1)) := by
  unfold leB
  simp only [Bool.not_eq_true', Bool.or_eq_false_iff, Bool.and_eq_false_iff, decide_eq_false_iff_not]
  omega
theorem countP_upto (q : S126 → Bool) : ∀ (xs : List S126) (r : Nat), r ≤ xs.length → (∀ k (h : k < xs.length), q xs[k] = true ↔ k < r) → xs.countP q = r
  | [], r, hr, _ => by simp at hr; simp [hr]
  | x :: xs, 0, hr, h => by
    have h0 := h 0 (by simp)
    simp only [List.getElem_cons_zero] at h0
    have ih := countP_upto q xs 0 (by omega) (fun k hk => by
      have := h (k + 1) (by simp; omega)
      simp only [List.getElem_cons_succ] at this
      rw [this]; omega)
    rw [List.countP_cons_of_neg (by intro hx; have := h0.mp hx; omega), ih]
  | x :: xs, r + 1, hr, h => by
    have h0 := h 0 (by simp)
    simp only [List.getElem_cons_zero] at h0
    have ih := countP_upto q xs r (by simp at hr; omega) (fun k hk => by
      have := h (k + 1) (by simp; omega)
      simp only [List.getElem_cons_succ] at this
      rw [this]; omega)
    rw [List.countP_cons_of_pos (h0.mpr (by omega)), ih]
def ltS (x y : S126) : Prop := x.f0 < y.f0 ∨ (x.f0 = y.f0 ∧ x.f1 < y.f1)
theorem rd126 (xs : List S126) (k : Nat) (h : k < xs.length) : rd_T126 xs (k : Int) = xs[k] := by simp [rd_T126, List.getD_eq_getElem?_getD, h]
theorem at_sorted (sub : List S126) (t : S126) (hs : sub.Pairwise ltS) : (if bsIs sub t = true then bsIdx sub t + 1 else bsIdx sub t) = ((sub.countP fun x => leB t.f0 t.f1 (toS47 x) : Nat) : Int) := by
  have hp := List.pairwise_iff_getElem.mp hs
  have hlt : ∀ a b : Nat, a < b → b < sub.length → ltS (rd_T126 sub (a : Int)) (rd_T126 sub (b : Int)) := fun a b h1 h2 => by
    rw [rd126 sub a (by omega), rd126 sub b h2]
    exact hp a b (by omega) h2 h1
  have hmono : ∀ x y : Int, 0 ≤ x → x ≤ y → y < (sub.length : Int) → (!decide (cmpF (rd_T126 sub x) t < 0)) = true → (!decide (cmpF (rd_T126 sub y) t < 0)) = true := fun x y h0 h1 h2 h3 => by
    by_cases e : x = y
    · subst e; exact h3
    · have := hlt x.toNat y.toNat (by omega) (by omega)
      rw [Int.toNat_of_nonneg h0, Int.toNat_of_nonneg (by omega)] at this
      unfold ltS at this
      rw [Bool.not_eq_true', decide_eq_false_iff_not, (cmpF_cases _ _).1] at h3 ⊢
      omega
  obtain ⟨hr, hlo, hhi⟩ := bsr_spec (fun h => !decide (cmpF (rd_T126 sub h) t < 0)) (sub.length : Int) hmono sub.length 0 (sub.length : Int) (by omega) (by omega) (by omega) (by omega) (fun x h0 h1 => by omega) (fun x h0 h1 => by omega)
  have er : bsr (fun h => !decide (cmpF (rd_T126 sub h) t < 0)) sub.length 0 (sub.length : Int) = bsIdx sub t := rfl
  rw [er] at hr hlo hhi
  obtain ⟨r, hrr⟩ : ∃ r : Nat, bsIdx sub t = (r : Int) := ⟨(bsIdx sub t).toNat, by omega⟩
  rw [hrr] at hr hlo hhi
  have hLo : ∀ k : Nat, k < r → ltS (rd_T126 sub (k : Int)) t := fun k hk => by
    have := hlo (k : Int) (by omega) (by omega)
    rw [Bool.not_eq_false', decide_eq_true_eq, (cmpF_cases _ _).1] at this
    exact this
  have hHi : ∀ k : Nat, r ≤ k → k < sub.length → ¬ ltS (rd_T126 sub (k : Int)) t := fun k hk hk2 => by
    have := hhi (k : Int) (by omega) (by omega)
    rw [Bool.not_eq_true', decide_eq_false_iff_not, (cmpF_cases _ _).1] at this
    exact this
  have hle : ∀ k (h : k < sub.length), leB t.f0 t.f1 (toS47 sub[k]) = true ↔ ((rd_T126 sub (k : Int)).f0 < t.f0 ∨ ((rd_T126 sub (k : Int)).f0 = t.f0 ∧ (rd_T126 sub (k : Int)).f1 ≤ t.f1)) := fun k h => by
    rw [leB_iff, rd126 sub k h]; rfl
  have hIs : bsIs sub t = true ↔ (r < sub.length ∧ (rd_T126 sub (r : Int)).f0 = t.f0 ∧ (rd_T126 sub (r : Int)).f1 = t.f1) := by
    unfold bsIs
    rw [Bool.and_eq_true, decide_eq_true_eq, beq_iff_eq, hrr, (cmpF_cases _ _).2]
    exact ⟨fun h => ⟨by omega, h.2⟩, fun h => ⟨by omega, h.2⟩⟩
  rw [hrr]
  unfold ltS at hlt hLo hHi
  by_cases c : bsIs sub t = true
  · rw [if_pos c]
    have c' := hIs.mp c
    rw [countP_upto (fun x => leB t.f0 t.f1 (toS47 x)) sub (r + 1) (by omega) (fun k hk => by
      rw [hle k hk]
      constructor
      · intro h
        apply Classical.byContradiction
        intro hn
        have := hlt r k (by omega) hk
        omega
      · intro h
        by_cases e : k = r
        · subst e; omega
        · have := hLo k (by omega); omega)]
    omega
  · rw [if_neg c]
    have c' : ¬ _ := fun h => c (hIs.mpr h)
    rw [countP_upto (fun x => leB t.f0 t.f1 (toS47 x)) sub r (by omega) (fun k hk => by
      rw [hle k hk]
      constructor
      · intro h
        apply Classical.byContradiction
        intro hn
        have h1 := hHi r (by omega) (by omega)
        by_cases e : k = r
        · subst e; exact c' ⟨hk, by omega, by omega⟩
        · have := hlt r k (by omega) hk
          omega
      · intro h
        have := hLo k h; omega)]
theorem countP_cb (q : Nat → Bool) : ∀ n, (List.range n).countP q = cb q n
  | 0 => rfl
  | n + 1 => by
    rw [List.range_succ, List.countP_append, countP_cb q n]
    simp only [cb, List.countP_cons, List.countP_nil, Nat.zero_add]
def stA (l : List S71) (i : Nat) : S47 := stOf l (stL l i) i
theorem stL_get (l : List S71) : ∀ (n i : Nat), i < n → rd_T47 (stL l n) (i : Int) = stA l i
  | n + 1, i, h => by
    simp only [stL]
    have hl := stL_length l n
    by_cases e : i = n
    · subst e
      simp [rd_T47, List.getD_eq_getElem?_getD, List.getElem?_append, hl, stA]
    · have ih := stL_get l n i (by omega)
      rw [← ih]
      simp [rd_T47, List.getD_eq_getElem?_getD, List.getElem?_append, hl, show i < n by omega]
def lt47 (x y : S47) : Prop := x.f0 < y.f0 ∨ (x.f0 = y.f0 ∧ x.f1 < y.f1)
theorem upS_gt (p x : S47) : lt47 x (upS p x) := by
  unfold upS lt47
  by_cases c : x.f0 > p.f0 ∨ (x.f0 = p.f0 ∧ x.f1 + 1 > p.f1)
  · rw [if_pos c]; exact .inr ⟨rfl, by show x.f1 < x.f1 + 1; omega⟩
  · rw [if_neg c]; omega
theorem upS_ge (p x : S47) {y : S47} (h : lt47 y p) : lt47 y (upS p x) := by
  unfold upS lt47 at *
  by_cases c : x.f0 > p.f0 ∨ (x.f0 = p.f0 ∧ x.f1 + 1 > p.f1)
  · rw [if_pos c]; simp only; omega
  · rw [if_neg c]; exact h
theorem upAt_ge (s : List S47) (k : Int) (p : S47) {y : S47} (h : lt47 y p) : lt47 y (upAt s k p) := by
  unfold upAt
  split
  · exact upS_ge _ _ h
  · exact h
theorem stA_bef (l : List S71) (j b : Nat) (hb : bef l j = (b : Int)) : lt47 (stA l b) (stA l j) := by
  have hlt := befS_lt l (rd_T71 l (j : Int)).f0 j
  have hbe : befS l (rd_T71 l (j : Int)).f0 j = bef l j := rfl
  rw [hbe, hb] at hlt
  show lt47 (stA l b) (stOf l (stL l j) j)
  unfold stOf
  refine upAt_ge _ _ _ ?_
  rw [hb]
  unfold upAt
  rw [if_pos (by omega), stL_get l j b (by omega)]
  exact upS_gt _ _
theorem lt47.trans {x y z : S47} (h1 : lt47 x y) (h2 : lt47 y z) : lt47 x z := by unfold lt47 at *; omega
theorem stA_grow (l : List S71) : ∀ (j j' : Nat), j' < j → (rd_T71 l (j' : Int)).f0 = (rd_T71 l (j : Int)).f0 → lt47 (stA l j') (stA l j) := by
  intro j
  induction j using Nat.strongRecOn with
  | _ j ih =>
    intro j' hj hm
    have hs := (befS_spec l (rd_T71 l (j : Int)).f0 j).2 j' hj hm
    have hlt := befS_lt l (rd_T71 l (j : Int)).f0 j
    have hf := (befS_spec l (rd_T71 l (j : Int)).f0 j).1 (by omega)
    have hbe : befS l (rd_T71 l (j : Int)).f0 j = bef l j := rfl
    rw [hbe] at hs hlt hf
    obtain ⟨b, hb⟩ : ∃ b : Nat, bef l j = (b : Int) := ⟨(bef l j).toNat, by omega⟩
    rw [hb] at hs hlt hf
    by_cases e : b = j'
    · subst e; exact stA_bef l j b hb
    · exact (ih b (by omega) j' (by omega) (by rw [hm, hf])).trans (stA_bef l j b hb)
def atQ (l : List S71) (s0 s1 : Int) (m : Nat) (j : Nat) : Bool := mq l (m : Int) j && leB s0 s1 (stA l j)
def atL (l : List S71) (s0 s1 : Int) (n : Nat) : List Int := (List.range 6).map fun (m : Nat) => ((cb (atQ l s0 s1 m) n : Nat) : Int)
theorem at_one (l : List S71) (h : RunIs l) (sts : List S126) (hst : sts.map toS47 = stL l l.length) (s0 s1 : Int) (m : Nat) (hm : m < 6) : atOne sts ⟨s0, s1⟩ (rd (mineF l) (m : Int)) = ((cb (atQ l s0 s1 m) l.length : Nat) : Int) := by
  have hll := h.len
  have hsl : sts.length = l.length := by rw [← List.length_map (f := toS47), hst, stL_length]
  have hget : ∀ i : Nat, i < l.length → toS47 (rd_T126 sts (i : Int)) = stA l i := fun i hi => by rw [← rd_toS47, hst, stL_get l _ i hi]
  have hms := (mine_set l h).2 m hm
  have e : rd (mineF l) (m : Int) = (mineF l).getD m 0 := by unfold rd; rw [Int.toNat_natCast]
  have hhas : ∀ i : Nat, i < l.length → (hasB (rd (mineF l) (m : Int)) (i : Int) = true ↔ (rd_T71 l (i : Int)).f0 = (m : Int)) := fun i hi => by
    rw [e]
    exact (hms.has i (by omega)).trans ⟨fun h => h.2, fun h => ⟨hi, h⟩⟩
  unfold atOne
  rw [at_sorted]
  · congr 1
    unfold subOf
    rw [List.countP_map, List.countP_filter, countP_cb, hsl]
    refine cb_congr _ fun j hj => ?_
    unfold atQ
    rw [Bool.eq_iff_iff, Bool.and_eq_true, Bool.and_eq_true, hhas j hj]
    simp only [Function.comp]
    rw [hget j hj]
    unfold mq
    rw [decide_eq_true_eq]
    exact and_comm
  · unfold subOf
    rw [List.pairwise_map]
    refine List.Pairwise.imp_of_mem ?_ (List.Pairwise.filter _ List.pairwise_lt_range)
    intro a b ha hb hab
    rw [List.mem_filter, List.mem_range, hsl] at ha hb
    have h1 := (hhas a ha.1).mp ha.2
    have h2 := (hhas b hb.1).mp hb.2
    have := stA_grow l b a hab (by rw [h1, h2])
    rw [← hget a ha.1, ← hget b hb.1] at this
    exact this
def atR (l : List S71) (s0 s1 : Int) : List Int × Int := if runB l = true then (atL l s0 s1 l.length, 0) else ([], 2)
theorem at_skew (l : List S71) (hl : l.length ≤ 9223372036854775807) (s0 s1 : Int) : skew_At.f l s0 s1 = some (atR l s0 s1) := by
  unfold skew_At.f atR
  rw [isRun_b l hl]
  simp only [Option.bind_some]
  by_cases c : runB l = true
  · rw [if_pos c, if_pos c]
    have h := runIs l c
    have hll := h.len
    obtain ⟨sts, h1, h2, h3⟩ := stamps_list l h
    have hsl : sts.length = l.length := by rw [← List.length_map (f := toS47), h2, stL_length]
    rw [h1]
    simp only [Option.bind_some]
    rw [if_pos ⟨by omega, hll, fun d hd => by
      obtain ⟨i, hi, rfl⟩ := at71 l d hd
      exact (h.deed i hi).1⟩]
    have e : ∀ m : Nat, m < 6 → atOne sts ⟨s0, s1⟩ (rd (mineF l) (m : Int)) = ((cb (atQ l s0 s1 m) l.length : Nat) : Int) := fun m hm => at_one l h sts h2 s0 s1 m hm
    have eo : outAt (fun m => atOne sts ⟨s0, s1⟩ (rd (mineF l) m)) 6 = atL l s0 s1 l.length := by
      unfold atL
      rw [show List.range 6 = [0, 1, 2, 3, 4, 5] by decide]
      simp only [List.map_cons, List.map_nil]
      rw [← e 0 (by omega), ← e 1 (by omega), ← e 2 (by omega), ← e 3 (by omega), ← e 4 (by omega), ← e 5 (by omega)]
      rfl
    rw [eo]
  · rw [if_neg c, if_neg c]
theorem atL_length (l : List S71) (s0 s1 : Int) (n : Nat) : (atL l s0 s1 n).length = 6 := by unfold atL; simp
theorem rd_atL (l : List S71) (s0 s1 : Int) (n m : Nat) (hm : m < 6) : rd (atL l s0 s1 n) (m : Int) = ((cb (atQ l s0 s1 m) n : Nat) : Int) := by
  unfold rd atL
  simp [List.getD_eq_getElem?_getD, hm]
end Go.Proofs.Ytbffhblebigcfaa.Sk
