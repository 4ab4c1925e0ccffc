/- The walk of skew.Ahead: whether a deed is ahead of another one. -/
import Derived.Test.YtbffhblebigcfaaCPrS1
import Derived.Test.YtbffhblebigcfaaCPrS0
import Derived.Test.YtbffhblebigcfaaCPrGCounts
namespace Go.Proofs.Ytbffhblebigcfaa.Sk
open Go.RowKit Go.Proofs.YtbffhblebigcfaaW.PrintWords Go.Proofs.YtbffhblebigcfaaW.PrintLast Go.Proofs.YtbffhblebigcfaaW.PrintMore
set_option linter.unusedVariables false
set_option linter.unusedSimpArgs false
theorem within_calls (a b c : Int) (r : Bool) (h : decide (a ≥ b ∧ a ≤ c) = r) (w : World) : Calls Try.prog 72 #[.int .i64 a, .int .i64 b, .int .i64 c] w fun e w' => e = .returned (.bool r) ∧ Below w.heap.size w w' := by
 refine (skew_within.calls a b c r w ?_).mono fun e w' ⟨h1, h2⟩ => ⟨h1, h2.below⟩
 unfold skew_within.f
 subst h
 by_cases h1 : a ≥ b
 ·rw [if_pos h1]; simp [h1]
 ·rw [if_neg h1]; simp [h1]
end Go.Proofs.Ytbffhblebigcfaa.Sk
