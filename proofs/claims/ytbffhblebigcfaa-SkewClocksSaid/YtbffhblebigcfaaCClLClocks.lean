/- The plain laws of clocks: spans of readings, waiting, marks; no program in sight but for the printed functions. -/
import Derived.Test.YtbffhblebigcfaaCClGWait
import Derived.Test.YtbffhblebigcfaaCClS0
namespace Go.Proofs.Ytbffhblebigcfaa.Sk
open Go.RowKit Go.Proofs.YtbffhblebigcfaaW.PrintWords Go.Proofs.YtbffhblebigcfaaW.PrintLast Go.Proofs.YtbffhblebigcfaaW.PrintMore
set_option linter.unusedVariables false
set_option linter.unusedSimpArgs false
def clockB (a0 a1 a2 : Int) : Bool := decide (0 ≤ a0 ∧ a0 ≤ 100000 ∧ 0 ≤ a1 ∧ a1 ≤ 1000 ∧ 0 ≤ a2 ∧ a2 ≤ 100000)
def readB (a0 c : Int) : Bool := decide (a0 ≤ c ∧ c ≤ 100000)
theorem clock_b (a0 a1 a2 : Int) : afterwordref19_Clock.f a0 a1 a2 = some (clockB a0 a1 a2) := by
  unfold afterwordref19_Clock.f clockB
  by_cases h0 : a0 ≥ 0 <;> by_cases h1 : a0 ≤ 100000 <;> by_cases h2 : a1 ≥ 0 <;> by_cases h3 : a1 ≤ 1000 <;> by_cases h4 : a2 ≥ 0 <;> simp [h0, h1, h2, h3, h4]
theorem read_b (a0 a1 a2 c : Int) : afterwordref19_Read.f a0 a1 a2 c = some (readB a0 c) := by
  unfold afterwordref19_Read.f readB
  by_cases h0 : c ≥ a0 <;> simp [h0]
theorem time_b (t : Int) : afterwordref19_Time.f t = some (decide (-1000000 ≤ t ∧ t ≤ 1000000)) := by
  unfold afterwordref19_Time.f
  by_cases h0 : t ≥ -1000000
  · rw [if_pos h0]; simp [show (-1000000 : Int) ≤ t from h0]
  · rw [if_neg h0]; simp [show ¬ (-1000000 : Int) ≤ t from h0]
theorem readsB_eq (a0 a1 a2 c : Int) : readsB a0 a1 a2 c = (clockB a0 a1 a2 && readB a0 c) := by
  unfold readsB clockB readB
  by_cases h0 : 0 ≤ a0 <;> by_cases h1 : a0 ≤ 100000 <;> by_cases h2 : 0 ≤ a1 <;> by_cases h3 : a1 ≤ 1000 <;> by_cases h4 : 0 ≤ a2 <;> by_cases h5 : a2 ≤ 100000 <;> simp [h0, h1, h2, h3, h4, h5]
theorem of_eq (a0 a1 a2 c : Int) : skew_of.f a0 a1 a2 c = afterwordref19_SpanOf.f a0 a1 a2 c := rfl
theorem span_eq (a0 a1 a2 c : Int) : skew_Span.f a0 a1 a2 c = afterwordref19_Span.f a0 a1 a2 c := by
  unfold skew_Span.f afterwordref19_Span.f
  rw [reads_b, clock_b, readsB_eq]
  simp only [Option.bind_some, read_b, of_eq]
  cases clockB a0 a1 a2 <;> cases readB a0 c <;> simp
theorem mark_eq (a0 a1 a2 c d e : Int) : skew_Mark.f a0 a1 a2 c d e = afterwordref19_Mark.f a0 a1 a2 c d e := by
  unfold skew_Mark.f afterwordref19_Mark.f
  rw [reads_b, clock_b, readsB_eq]
  simp only [Option.bind_some, read_b, of_eq, within_b]
  cases clockB a0 a1 a2 <;> cases readB a0 c <;> simp
  by_cases h1 : d < 0
  · rw [if_neg (by omega), if_pos h1]
  · rw [if_neg h1]
    by_cases h2 : 100000 < d
    · rw [if_neg (by omega), if_pos h2]
    · rw [if_pos ⟨by omega, by omega⟩, if_neg h2]
      by_cases h3 : e < 0
      · rw [if_neg (by omega), if_pos h3]
      · rw [if_neg h3]
        by_cases h4 : 100000 < e
        · rw [if_neg (by omega), if_pos h4]
        · rw [if_pos ⟨by omega, by omega⟩, if_neg h4]
theorem bsr_spec (p : Int → Bool) (hm : ∀ a b, a ≤ b → p a = true → p b = true) : ∀ (k : Nat) (i j : Int), i ≤ j → (j - i).toNat ≤ k → (∀ t, i ≤ t → t < bsr p k i j → p t = false) ∧ (∀ t, bsr p k i j ≤ t → t < j → p t = true)
  | 0, i, j, h, hk => by
    have : bsr p 0 i j = i := rfl
    rw [this]
    exact ⟨fun t h1 h2 => by omega, fun t h1 h2 => by omega⟩
  | k + 1, i, j, h, hk => by
    simp only [bsr]
    split
    · rename_i hij
      split
      · rename_i hp
        obtain ⟨h1, h2⟩ := bsr_spec p hm k i ((i + j) / 2) (by omega) (by omega)
        refine ⟨h1, fun t ht htj => ?_⟩
        by_cases hlt : t < (i + j) / 2
        · exact h2 t ht hlt
        · exact hm _ _ (by omega) hp
      · rename_i hp
        obtain ⟨h1, h2⟩ := bsr_spec p hm k ((i + j) / 2 + 1) j (by omega) (by omega)
        refine ⟨fun t ht htb => ?_, h2⟩
        by_cases hlt : t < (i + j) / 2 + 1
        · cases hpt : p t with
          | false => rfl
          | true => exact absurd (hm t ((i + j) / 2) (by omega) hpt) hp
        · exact h1 t (by omega) htb
    · exact ⟨fun t h1 h2 => by omega, fun t h1 h2 => by omega⟩
theorem lowOf_mono (a0 a1 a2 : Int) (h2 : 0 ≤ a2) (c d : Int) (hcd : c ≤ d) : lowOf a0 a1 a2 c ≤ lowOf a0 a1 a2 d := by
  unfold lowOf
  by_cases h : a2 > 0
  · rw [if_pos h, if_pos h]
    have h3 : (d - a0 + a2 - 1) / a2 ≤ (c - a0 + a2 - 1) / a2 + (d - c) := by
      have e : d - a0 + a2 - 1 ≤ (c - a0 + a2 - 1) + (d - c) * a2 := by
        have : (d - c) * 1 ≤ (d - c) * a2 := Int.mul_le_mul_of_nonneg_left (by omega) (by omega)
        omega
      have := Int.ediv_le_ediv h e
      rw [Int.add_mul_ediv_right _ _ (by omega)] at this
      exact this
    omega
  · rw [if_neg h, if_neg h]; omega
theorem wait_scan (a0 a1 a2 un L R : Int) (hL : a0 ≤ L) (h0 : 0 ≤ a0) (h1 : 0 ≤ a1) (h2 : 0 ≤ a2) (g1 : a1 ≤ 1000) (g2 : a2 ≤ 100000) (hR : R ≤ 100001)
    (hlo : ∀ t, t < R → L ≤ t → ¬ lowOf a0 a1 a2 t > un) (hhi : R ≤ 100000 → lowOf a0 a1 a2 R > un) : ∀ (k : Nat) (x : Int), L ≤ x → x ≤ R → (R - x).toNat < k →
      afterwordref19_Wait.l0 k un x a0 a1 a2 = if R > 100000 then some (0, 5) else some (R, 0)
  | 0, x, _, _, hk => by omega
  | k + 1, x, hx, hxR, hk => by
    simp only [afterwordref19_Wait.l0]
    by_cases hx1 : x ≤ 100000
    · rw [if_pos hx1, ← of_eq, of_low a0 a1 a2 x h0 h1 h2 g1 g2 (by omega) hx1]
      simp only [Option.bind_some]
      by_cases he : x = R
      · subst he
        rw [if_pos (hhi hx1), if_neg (by omega)]
      · rw [if_neg (hlo x (by omega) hx)]
        rw [show wrap64 (x + 1) = x + 1 by unfold wrap64; omega]
        exact wait_scan a0 a1 a2 un L R hL h0 h1 h2 g1 g2 hR hlo hhi k (x + 1) (by omega) (by omega) (by omega)
    · rw [if_neg hx1, if_pos (by omega)]
theorem wait_eq (a0 a1 a2 c un : Int) (k : Nat) (hk : 100010 ≤ k) : afterwordref19_Wait.f k a0 a1 a2 c un = skew_Wait.f a0 a1 a2 c un := by
  obtain ⟨k, rfl⟩ : ∃ m, k = m + 1 := ⟨k - 1, by omega⟩
  unfold afterwordref19_Wait.f skew_Wait.f
  rw [clock_b, readsB_eq]
  simp only [Option.bind_some, read_b, time_b]
  cases hc : clockB a0 a1 a2 with
  | false => simp [afterwordref19_Wait.j0]
  | true =>
    cases hr : readB a0 c with
    | false => simp [afterwordref19_Wait.j0]
    | true =>
      by_cases ht : -1000000 ≤ un ∧ un ≤ 1000000
      · have ht2 : (decide (-1000000 ≤ un) && decide (un ≤ 1000000)) = true := by simp [ht.1, ht.2]
        simp only [Bool.and_self, if_true, decide_eq_true ht, ht2, Bool.not_true, afterwordref19_Wait.j0, if_false, Bool.false_eq_true]
        unfold clockB at hc
        unfold readB at hr
        obtain ⟨b0, b1, b2, b3, b4, b5⟩ := of_decide_eq_true hc
        obtain ⟨b6, b7⟩ := of_decide_eq_true hr
        have hm : ∀ a b : Int, a ≤ b → decide (un < lowOf a0 a1 a2 (c + a)) = true → decide (un < lowOf a0 a1 a2 (c + b)) = true := fun a b hab ha => by
          have := of_decide_eq_true ha
          exact decide_eq_true (Int.lt_of_lt_of_le this (lowOf_mono a0 a1 a2 b4 _ _ (by omega)))
        obtain ⟨s1, s2⟩ := bsr_spec (fun i => decide (un < lowOf a0 a1 a2 (c + i))) hm (100001 - c).toNat 0 (100001 - c) (by omega) (by omega)
        have hrg := bsr_range (fun i => decide (un < lowOf a0 a1 a2 (c + i))) (100001 - c).toNat 0 (100001 - c) (by omega)
        generalize bsr (fun i => decide (un < lowOf a0 a1 a2 (c + i))) (100001 - c).toNat 0 (100001 - c) = B at s1 s2 hrg ⊢
        refine wait_scan a0 a1 a2 un c (c + B) b6 b0 b2 b4 b3 b5 (by omega) (fun t h1 hct => ?_) (fun h => ?_) k c (by omega) (by omega) (by omega)
        · have := s1 (t - c) (by omega) (by omega)
          rw [show c + (t - c) = t by omega] at this
          exact of_decide_eq_false this
        · have := s2 B (by omega) (by omega)
          exact of_decide_eq_true this
      · have ht2 : (decide (-1000000 ≤ un) && decide (un ≤ 1000000)) = false := by
          rw [← Bool.decide_and]; exact decide_eq_false ht
        simp only [Bool.and_self, if_true, decide_eq_false ht, ht2, Bool.not_false, afterwordref19_Wait.j0, Bool.false_eq_true, if_false]
end Go.Proofs.Ytbffhblebigcfaa.Sk
