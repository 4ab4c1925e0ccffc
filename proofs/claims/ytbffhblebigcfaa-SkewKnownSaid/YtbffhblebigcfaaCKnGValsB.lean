/- More closed values of the chapter's examples. -/
import Derived.Test.YtbffhblebigcfaaCKnGVals
import Derived.Test.YtbffhblebigcfaaCKnGMeet
import Derived.Test.YtbffhblebigcfaaCKnGAhead
import Derived.Test.YtbffhblebigcfaaCKnS0
namespace Go.Proofs.Ytbffhblebigcfaa.Sk
open Go.RowKit Go.Shelf Go.Proofs.YtbffhblebigcfaaW.PrintWords Go.Proofs.YtbffhblebigcfaaW.PrintLast Go.Proofs.YtbffhblebigcfaaW.PrintMore
set_option linter.unusedVariables false
set_option linter.unusedSimpArgs false
set_option maxRecDepth 100000
def exQ : List S27 := [⟨0, 5⟩, ⟨20, 30⟩, ⟨7, 9⟩]
def exH : List S86 := [⟨0, 1, 0, 10⟩]
theorem exb_span1 : skew_Span.f 100 3 50 100 = some (97, 103, 0) := by kernel_rfl
theorem exb_span2 : skew_Span.f 100 3 50 150 = some (146, 154, 0) := by kernel_rfl
theorem exb_span3 : skew_Span.f 100 3 50 151 = some (146, 156, 0) := by kernel_rfl
theorem exb_mark : skew_Mark.f 100 3 50 150 140 10 = some (0, 0) := by kernel_rfl
theorem exb_vote : skew_Vote.f [⟨1, 2⟩, ⟨5, 6⟩] = some (1, 2, 1, 0) := by kernel_rfl
theorem exb_sure : skew_Sure.f exE exG 1 2 = some (true, 0) := by
 obtain ⟨B, hB, hA⟩ := ex_B
 rw [sure_val ex_isHist hB hA 1 2 (of_decide_eq_true (by kernel_rfl)) (of_decide_eq_true (by kernel_rfl)) (by unfold inR; decide) (by unfold inR; decide) (by decide)]
 kernel_rfl
theorem exb_ahead1 : skew_Ahead.f exR 0 3 = some (true, 0) := by kernel_rfl
theorem exb_ahead2 : skew_Ahead.f exR 3 4 = some (false, 0) := by kernel_rfl
theorem exb_closed : skew_Closed.f exR [1, 1, 0, 0, 0, 0] = some (true, 0) := by kernel_rfl
theorem exb_reason1 : skew_Reason.f exE exG = some ([], 5) := by
 unfold skew_Reason.f
 rw [ex_isHist, Option.bind_some, if_pos rfl, if_pos ex_ok, tight_isSome ex_okL, ex_T]
 rfl
theorem exb_wait : skew_Wait.f 0 0 1 0 0 = some (0, 5) := by kernel_rfl
theorem exb_meet : skew_Meet.f [⟨1, 2⟩, ⟨3, 4⟩] = some (0, 0, 5) := by kernel_rfl
theorem exb_isHist : skew_isHist.f 1000 exQ exH = some true := by kernel_rfl
theorem exb_ok : histOk exQ exH := by decide
theorem exb_okL : okL (saidL exQ exH) := by decide
theorem exb_reason2 : skew_Reason.f exQ exH = some ([0, 1, 3], 0) := by
 rw [reason_val exb_isHist exb_ok exb_okL (by kernel_rfl)]
 kernel_rfl
theorem exb_isHist0 : skew_isHist.f 1000 [] [] = some true := by kernel_rfl
theorem exb_tight : skew_Tight.f [] [] = some ([], 0) := by
 have h0 : histOk ([] : List S27) ([] : List S86) := by decide
 obtain ⟨T, hT⟩ := Option.isSome_iff_exists.mp (show (tightT (bindT (fun _ => false) (saidL [] []))).isSome = true by kernel_rfl)
 obtain ⟨B, hB, _⟩ := tight_some (om := fun _ => false) (L := saidL [] []) (by decide) hT
 unfold skew_Tight.f tightR
 rw [exb_isHist0, Option.bind_some, if_pos rfl, if_pos h0, hB]
 rfl
theorem exb_equal : slices_Equal_int_int.f 10 [0, 1, 3] [0, 1, 3] = some true := by kernel_rfl
end Go.Proofs.Ytbffhblebigcfaa.Sk
