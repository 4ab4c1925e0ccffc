/- Words and walks of this claim, merged. -/
import Derived.Test.YtbffhblebigcfaaCCaS0
import Derived.Test.YtbffhblebigcfaaCCaGAt
import Derived.Test.YtbffhblebigcfaaCCaGClosed
import Derived.Test.YtbffhblebigcfaaCCaGKnown
import Derived.Test.YtbffhblebigcfaaCCaS1
namespace Go.Proofs.Ytbffhblebigcfaa.Sk
open Go.RowKit Go.Proofs.YtbffhblebigcfaaW.PrintWords Go.Proofs.YtbffhblebigcfaaW.PrintLast Go.Proofs.YtbffhblebigcfaaW.PrintMore
attribute [local go_sem] max2_int min2_int max_two min_two
set_option linter.unusedVariables false
set_option linter.unusedSimpArgs false
def afterwordlaw19_SkewCuts.f (k : Nat) (l0 : List (S71)) (l1 : List Int) (a2_0 : Int) (a2_1 : Int) : Option (Bool) := (skew_Closed.f l0 l1).bind fun bt413 => ((afterwordref19_Closed.f k l0 l1).bind fun bt415 => ((skew_At.f l0 a2_0 a2_1).bind fun bt417 => ((afterwordref19_At.f k l0 a2_0 a2_1).bind fun bt421 => (if (bt413.1 == bt415.1) = true then (if bt413.2 = bt415.2 then (if bt417.2 = bt421.2 then ((afterwordref19_Same.f k bt417.1 bt421.1).bind fun t425 => (if t425 = true then ((afterwordlaw19_known.f).bind fun t426 => (some t426)) else (some false))) else (some false)) else (some false)) else (some false)))))
theorem afterwordlaw19_SkewCuts.mono : ∀ a0 a1 a2 a3 k, LeO (afterwordlaw19_SkewCuts.f k a0 a1 a2 a3) (afterwordlaw19_SkewCuts.f (k + 1) a0 a1 a2 a3) := by
  intro a0 a1 a2 a3 k
  unfold afterwordlaw19_SkewCuts.f
  repeat' first
      | (with_reducible exact afterwordref19_At.mono _ _ _ _)
      | (with_reducible exact afterwordref19_Closed.mono _ _ _)
      | (with_reducible exact afterwordref19_Same.mono _ _ _)
      | (with_reducible exact LeO.refl _)
      | (with_reducible exact LeO.none _)
      | (with_reducible refine LeO.ite ?_ ?_)
      | (with_reducible refine LeO.bind ?_ (fun _ => ?_))
      | exact afterwordref19_At.mono _ _ _ _
      | exact afterwordref19_Closed.mono _ _ _
      | exact afterwordref19_Same.mono _ _ _
      | exact LeO.none _
      | refine LeO.ite ?_ ?_
      | refine LeO.bind ?_ (fun _ => ?_)
end Go.Proofs.Ytbffhblebigcfaa.Sk
