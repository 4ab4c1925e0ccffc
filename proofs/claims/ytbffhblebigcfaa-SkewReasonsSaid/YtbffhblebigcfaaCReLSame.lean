/- Lists that are the same are told to be. -/
import Derived.Test.YtbffhblebigcfaaCReS2
namespace Go.Proofs.Ytbffhblebigcfaa.Sk
open Go.RowKit Go.Proofs.YtbffhblebigcfaaW.PrintWords Go.Proofs.YtbffhblebigcfaaW.PrintLast Go.Proofs.YtbffhblebigcfaaW.PrintMore
set_option linter.unusedVariables false
set_option linter.unusedSimpArgs false
theorem ev_sameI0 (x : List Int) (hx : x.length ≤ 1000) : ∀ (d i : Nat), i + d = x.length → Ev (fun k => afterwordref19_Same.l0 k x x (i : Int)) true
 | 0, i, hd => Ev.step (f := fun _ => some true) (fun k => by simp only [afterwordref19_Same.l0]; rw [if_neg (by omega)]) (Ev.now true)
 | d + 1, i, hd => by
  have ih := ev_sameI0 x hx d (i + 1) (by omega)
  refine Ev.step (fun k => ?_) ih
  simp only [afterwordref19_Same.l0]
  rw [if_pos (by omega), if_pos (by omega), if_pos (by omega), if_pos trivial, show wrap64 ((i : Int) + 1) = ((i + 1 : Nat) : Int) by unfold wrap64; omega]
theorem ev_SameI (x : List Int) (hx : x.length ≤ 1000) : Ev (fun k => afterwordref19_Same.f k x x) true := by
 unfold afterwordref19_Same.f
 exact Ev.congr (f := fun k => afterwordref19_Same.l0 k x x 0) (fun k => by rw [if_pos rfl]) (ev_sameI0 x hx x.length 0 (by omega))
end Go.Proofs.Ytbffhblebigcfaa.Sk
