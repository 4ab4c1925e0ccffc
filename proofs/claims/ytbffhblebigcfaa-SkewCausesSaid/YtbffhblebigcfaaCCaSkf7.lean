/- Words and walks of this claim, merged. -/
import Derived.Test.YtbffhblebigcfaaCCaS0
import Derived.Test.YtbffhblebigcfaaCCaGAhead
import Derived.Test.YtbffhblebigcfaaCCaGCounts
import Derived.Test.YtbffhblebigcfaaCCaGKnown
import Derived.Test.YtbffhblebigcfaaCCaGStamps
import Derived.Test.YtbffhblebigcfaaCCaS1
namespace Go.Proofs.Ytbffhblebigcfaa.Sk
open Go.RowKit Go.Proofs.YtbffhblebigcfaaW.PrintWords Go.Proofs.YtbffhblebigcfaaW.PrintLast Go.Proofs.YtbffhblebigcfaaW.PrintMore
attribute [local go_sem] max2_int min2_int max_two min_two
set_option linter.unusedVariables false
set_option linter.unusedSimpArgs false
def afterwordlaw19_SkewStamps.j0 : Nat → List (S71) → Int → Int → Bool → Option (Bool)
  | 0, _, _, _, _ => none
  | k + 1, x0, x1, x2, x35 => if x35 = true then (some false) else ((skew_Counts.f x0).bind fun bt484 => ((afterwordref19_Counts.f k x0).bind fun bt488 => ((skew_Ahead.f x0 x1 x2).bind fun bt492 => ((afterwordref19_Ahead.f k x0 x1 x2).bind fun bt494 => (if bt484.2 = bt488.2 then ((afterwordref19_SameCounts.f k bt484.1 bt488.1).bind fun t496 => (if t496 = true then (if (bt492.1 == bt494.1) = true then (if bt492.2 = bt494.2 then ((afterwordlaw19_known.f).bind fun t497 => (some t497)) else (some false)) else (some false)) else (some false))) else (some false))))))
def afterwordlaw19_SkewStamps.f (k : Nat) (l0 : List (S71)) (a1 : Int) (a2 : Int) : Option (Bool) := (skew_Stamps.f l0).bind fun bt475 => ((afterwordref19_Stamps.f k l0).bind fun bt479 => (if bt475.2 = bt479.2 then ((afterwordref19_SameStamps.f k bt475.1 bt479.1).bind fun t483 => (afterwordlaw19_SkewStamps.j0 k l0 a1 a2 (!t483))) else (afterwordlaw19_SkewStamps.j0 k l0 a1 a2 true)))
theorem afterwordlaw19_SkewStamps.mono_l : ∀ k, (∀ y0 y1 y2 y3, LeO (afterwordlaw19_SkewStamps.j0 k y0 y1 y2 y3) (afterwordlaw19_SkewStamps.j0 (k + 1) y0 y1 y2 y3))
  | 0 => fun _ _ _ _ r h => by simp [afterwordlaw19_SkewStamps.j0] at h
  | k + 1 => by
    have ih0 := afterwordlaw19_SkewStamps.mono_l k
    · intro y0 y1 y2 y3
      unfold afterwordlaw19_SkewStamps.j0
      repeat' first
      | (with_reducible exact ih0 _ _ _ _)
      | (with_reducible exact afterwordref19_Ahead.mono _ _ _ _)
      | (with_reducible exact afterwordref19_Counts.mono _ _)
      | (with_reducible exact afterwordref19_SameCounts.mono _ _ _)
      | (with_reducible exact afterwordref19_SameStamps.mono _ _ _)
      | (with_reducible exact afterwordref19_Stamps.mono _ _)
      | (with_reducible exact LeO.refl _)
      | (with_reducible exact LeO.none _)
      | (with_reducible refine LeO.ite ?_ ?_)
      | (with_reducible refine LeO.bind ?_ (fun _ => ?_))
      | exact ih0 _ _ _ _
      | exact afterwordref19_Ahead.mono _ _ _ _
      | exact afterwordref19_Counts.mono _ _
      | exact afterwordref19_SameCounts.mono _ _ _
      | exact afterwordref19_SameStamps.mono _ _ _
      | exact afterwordref19_Stamps.mono _ _
      | exact LeO.none _
      | refine LeO.ite ?_ ?_
      | refine LeO.bind ?_ (fun _ => ?_)
theorem afterwordlaw19_SkewStamps.mono : ∀ a0 a1 a2 k, LeO (afterwordlaw19_SkewStamps.f k a0 a1 a2) (afterwordlaw19_SkewStamps.f (k + 1) a0 a1 a2) := by
  intro a0 a1 a2 k
  have ih0 := afterwordlaw19_SkewStamps.mono_l k
  unfold afterwordlaw19_SkewStamps.f
  repeat' first
      | (with_reducible exact ih0 _ _ _ _)
      | (with_reducible exact afterwordref19_Ahead.mono _ _ _ _)
      | (with_reducible exact afterwordref19_Counts.mono _ _)
      | (with_reducible exact afterwordref19_SameCounts.mono _ _ _)
      | (with_reducible exact afterwordref19_SameStamps.mono _ _ _)
      | (with_reducible exact afterwordref19_Stamps.mono _ _)
      | (with_reducible exact LeO.refl _)
      | (with_reducible exact LeO.none _)
      | (with_reducible refine LeO.ite ?_ ?_)
      | (with_reducible refine LeO.bind ?_ (fun _ => ?_))
      | exact ih0 _ _ _ _
      | exact afterwordref19_Ahead.mono _ _ _ _
      | exact afterwordref19_Counts.mono _ _
      | exact afterwordref19_SameCounts.mono _ _ _
      | exact afterwordref19_SameStamps.mono _ _ _
      | exact afterwordref19_Stamps.mono _ _
      | exact LeO.none _
      | refine LeO.ite ?_ ?_
      | refine LeO.bind ?_ (fun _ => ?_)
end Go.Proofs.Ytbffhblebigcfaa.Sk
