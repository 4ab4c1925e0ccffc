/- The plain laws of clocks: spans of readings, waiting, marks; no program in sight but for the printed functions. -/
import Derived.Test.YtbffhblebigcfaaCWaGWait
import Derived.Test.YtbffhblebigcfaaCWaS0
namespace Go.Proofs.Ytbffhblebigcfaa.Sk
open Go.RowKit Go.Proofs.YtbffhblebigcfaaW.PrintWords Go.Proofs.YtbffhblebigcfaaW.PrintLast Go.Proofs.YtbffhblebigcfaaW.PrintMore
set_option linter.unusedVariables false
set_option linter.unusedSimpArgs false
def clockB (a0 a1 a2 : Int) : Bool := decide (0 ≤ a0 ∧ a0 ≤ 100000 ∧ 0 ≤ a1 ∧ a1 ≤ 1000 ∧ 0 ≤ a2 ∧ a2 ≤ 100000)
def readB (a0 c : Int) : Bool := decide (a0 ≤ c ∧ c ≤ 100000)
theorem clock_b (a0 a1 a2 : Int) : afterwordref19_Clock.f a0 a1 a2 = some (clockB a0 a1 a2) := by
  unfold afterwordref19_Clock.f clockB
  by_cases h0 : a0 ≥ 0 <;> by_cases h1 : a0 ≤ 100000 <;> by_cases h2 : a1 ≥ 0 <;> by_cases h3 : a1 ≤ 1000 <;> by_cases h4 : a2 ≥ 0 <;> simp [h0, h1, h2, h3, h4]
theorem read_b (a0 a1 a2 c : Int) : afterwordref19_Read.f a0 a1 a2 c = some (readB a0 c) := by
  unfold afterwordref19_Read.f readB
  by_cases h0 : c ≥ a0 <;> simp [h0]
theorem of_eq (a0 a1 a2 c : Int) : skew_of.f a0 a1 a2 c = afterwordref19_SpanOf.f a0 a1 a2 c := rfl
theorem bsr_spec (p : Int → Bool) (hm : ∀ a b, a ≤ b → p a = true → p b = true) : ∀ (k : Nat) (i j : Int), i ≤ j → (j - i).toNat ≤ k → (∀ t, i ≤ t → t < bsr p k i j → p t = false) ∧ (∀ t, bsr p k i j ≤ t → t < j → p t = true)
  | 0, i, j, h, hk => by
    have : bsr p 0 i j = i := rfl
    rw [this]
    exact ⟨fun t h1 h2 => by omega, fun t h1 h2 => by omega⟩
  | k + 1, i, j, h, hk => by
    simp only [bsr]
    split
    · rename_i hij
      split
      · rename_i hp
        obtain ⟨h1, h2⟩ := bsr_spec p hm k i ((i + j) / 2) (by omega) (by omega)
        refine ⟨h1, fun t ht htj => ?_⟩
        by_cases hlt : t < (i + j) / 2
        · exact h2 t ht hlt
        · exact hm _ _ (by omega) hp
      · rename_i hp
        obtain ⟨h1, h2⟩ := bsr_spec p hm k ((i + j) / 2 + 1) j (by omega) (by omega)
        refine ⟨fun t ht htb => ?_, h2⟩
        by_cases hlt : t < (i + j) / 2 + 1
        · cases hpt : p t with
          | false => rfl
          | true => exact absurd (hm t ((i + j) / 2) (by omega) hpt) hp
        · exact h1 t (by omega) htb
    · exact ⟨fun t h1 h2 => by omega, fun t h1 h2 => by omega⟩
theorem lowOf_mono (a0 a1 a2 : Int) (h2 : 0 ≤ a2) (c d : Int) (hcd : c ≤ d) : lowOf a0 a1 a2 c ≤ lowOf a0 a1 a2 d := by
  unfold lowOf
  by_cases h : a2 > 0
  · rw [if_pos h, if_pos h]
    have h3 : (d - a0 + a2 - 1) / a2 ≤ (c - a0 + a2 - 1) / a2 + (d - c) := by
      have e : d - a0 + a2 - 1 ≤ (c - a0 + a2 - 1) + (d - c) * a2 := by
        have : (d - c) * 1 ≤ (d - c) * a2 := Int.mul_le_mul_of_nonneg_left (by omega) (by omega)
        omega
      have := Int.ediv_le_ediv h e
      rw [Int.add_mul_ediv_right _ _ (by omega)] at this
      exact this
    omega
  · rw [if_neg h, if_neg h]; omega
end Go.Proofs.Ytbffhblebigcfaa.Sk
