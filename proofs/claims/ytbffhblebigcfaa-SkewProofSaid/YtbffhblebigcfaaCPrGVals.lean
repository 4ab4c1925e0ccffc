/- The closed values of the chapter's examples. -/
import Derived.Test.YtbffhblebigcfaaCPrGReason
import Derived.Test.YtbffhblebigcfaaCPrGTab
import Derived.Test.YtbffhblebigcfaaCPrGWait
import Derived.Test.YtbffhblebigcfaaCPrGVote
import Derived.Test.YtbffhblebigcfaaCPrGSure
import Derived.Test.YtbffhblebigcfaaCPrGStamps
import Derived.Test.YtbffhblebigcfaaCPrGAt
import Derived.Test.YtbffhblebigcfaaCPrGClosed
import Derived.Test.YtbffhblebigcfaaCPrS1
import Derived.Test.YtbffhblebigcfaaCPrS0
namespace Go.Proofs.Ytbffhblebigcfaa.Sk
open Go.RowKit Go.Shelf Go.Proofs.YtbffhblebigcfaaW.PrintWords Go.Proofs.YtbffhblebigcfaaW.PrintLast Go.Proofs.YtbffhblebigcfaaW.PrintMore
set_option linter.unusedVariables false
set_option linter.unusedSimpArgs false
set_option maxRecDepth 100000
def exE : List S27 := [⟨10, 20⟩, ⟨0, 30⟩, ⟨15, 40⟩]
def exG : List S86 := [⟨0, 1, 5, 8⟩, ⟨1, 2, 1, 100⟩]
def exP : List S86 := [⟨0, 1, 5, 8⟩, ⟨1, 2, 1, 100⟩, ⟨2, 0, -3, 100⟩]
def exR : List S71 := [⟨0, 50, -1⟩, ⟨1, 10, 0⟩, ⟨1, 50, -1⟩, ⟨0, 40, 2⟩, ⟨2, 60, -1⟩]
theorem ex_hist : afterwordlaw19_Hist.f = some (exE, exG) := rfl
theorem ex_run : afterwordlaw19_Run.f = some exR := rfl
theorem ex_span : skew_Span.f 100 3 50 101 = some (97, 105, 0) := by kernel_rfl
theorem ex_wait : skew_Wait.f 100 3 50 100 110 = some (115, 0) := by kernel_rfl
theorem ex_mark : skew_Mark.f 100 3 50 150 20 5 = some (121, 0) := by kernel_rfl
theorem ex_vote : skew_Vote.f [⟨8, 12⟩, ⟨11, 13⟩, ⟨10, 12⟩] = some (11, 12, 3, 0) := by kernel_rfl
theorem ex_stamps : skew_Stamps.f exR = some ([⟨50, 0⟩, ⟨50, 1⟩, ⟨50, 2⟩, ⟨50, 3⟩, ⟨60, 0⟩], 0) := by kernel_rfl
theorem ex_counts : skew_Counts.f exR = some ([[1,0,0,0,0,0],[1,1,0,0,0,0],[1,2,0,0,0,0],[2,2,0,0,0,0],[0,0,1,0,0,0]], 0) := by kernel_rfl
theorem ex_at : skew_At.f exR 50 2 = some ([1, 2, 0, 0, 0, 0], 0) := by kernel_rfl
theorem ex_closed : skew_Closed.f exR [2, 1, 0, 0, 0, 0] = some (false, 0) := by kernel_rfl
theorem ex_isHist : skew_isHist.f 1000 exE exG = some true := by kernel_rfl
theorem ex_isHistP : skew_isHist.f 1000 exE exP = some true := by kernel_rfl
theorem ex_ok : histOk exE exG := by decide
theorem ex_okP : histOk exE exP := by decide
def exT : List Int := (tightT (bindT (fun _ => false) (saidL exE exG))).getD []
theorem ex_T : tightT (bindT (fun _ => false) (saidL exE exG)) = some exT := by kernel_rfl
theorem ex_okL : okL (saidL exE exG) := by decide
theorem ex_okLP : okL (saidL exE exP) := by decide
theorem ex_B : ∃ B, tightR exE exG = some (some B, 0) ∧ Ag B exT := by
 obtain ⟨B, hB, hA⟩ := tight_some ex_okL ex_T
 refine ⟨B, ?_, hA⟩
 unfold tightR
 rw [ex_isHist, Option.bind_some, if_pos rfl, if_pos ex_ok, hB]
theorem ex_tspans : tspans (tb exT) 3 = [⟨10, 20⟩, ⟨15, 28⟩, ⟨16, 40⟩] := by kernel_rfl
theorem tspans_ag {B : Int → Int → Int} {T : List Int} (h : Ag B T) (n : Nat) (hn : n ≤ 10) : tspans B n = tspans (tb T) n := by
 unfold tspans
 apply List.map_congr_left
 intro i hi
 have := List.mem_range.mp hi
 unfold tspan
 rw [h.eq i 10 ⟨by omega, by omega⟩ ⟨by omega, by omega⟩, h.eq 10 i ⟨by omega, by omega⟩ ⟨by omega, by omega⟩]
theorem ex_tight : skew_Tight.f exE exG = some ([⟨10, 20⟩, ⟨15, 28⟩, ⟨16, 40⟩], 0) := by
 obtain ⟨B, hB, hA⟩ := ex_B
 unfold skew_Tight.f
 rw [hB, Option.bind_some, if_pos (by decide)]
 show some (tspans B 3, (0 : Int)) = _
 rw [tspans_ag hA 3 (by omega), ex_tspans]
theorem sure_val {evs : List S27} {gaps : List S86} {B : Int → Int → Int} {T : List Int} (h1 : skew_isHist.f 1000 evs gaps = some true) (h2 : tightR evs gaps = some (some B, 0)) (hA : Ag B T) (x y : Int) (hx : x ≥ 0 ∧ x ≤ wrap64 ((evs.length : Int) - 1)) (hy : y ≥ 0 ∧ y ≤ wrap64 ((evs.length : Int) - 1)) (hx' : inR x) (hy' : inR y) (hl : evs.length ≤ 10) :
  skew_Sure.f evs gaps x y = some (decide (tb T y x < 0), 0) := by
 unfold skew_Sure.f
 rw [h1, Option.bind_some, if_pos rfl, if_pos hx, if_pos hy, h2, Option.bind_some, if_pos hl]
 simp only [hA.eq y x hy' hx']
theorem ex_sure1 : skew_Sure.f exE exG 0 1 = some (true, 0) := by
 obtain ⟨B, hB, hA⟩ := ex_B
 rw [sure_val ex_isHist hB hA 0 1 (of_decide_eq_true (by kernel_rfl)) (of_decide_eq_true (by kernel_rfl)) (by unfold inR; decide) (by unfold inR; decide) (by decide)]
 kernel_rfl
theorem ex_sure2 : skew_Sure.f exE exG 2 0 = some (false, 0) := by
 obtain ⟨B, hB, hA⟩ := ex_B
 rw [sure_val ex_isHist hB hA 2 0 (of_decide_eq_true (by kernel_rfl)) (of_decide_eq_true (by kernel_rfl)) (by unfold inR; decide) (by unfold inR; decide) (by decide)]
 kernel_rfl
theorem idxGo_congr {p q : Int → Bool} : ∀ (l : List Int) (i : Int), (∀ x ∈ l, p x = q x) → idxGo p l i = idxGo q l i
 | [], _, _ => rfl
 | x :: l, i, h => by
  simp only [idxGo]
  rw [h x List.mem_cons_self, idxGo_congr l (i + 1) (fun y hy => h y (List.mem_cons_of_mem _ hy))]
theorem hasBefore_ag {B : Int → Int → Int} {T : List Int} (hA : Ag B T) (l : List Int) (hl : ∀ x ∈ l, inR x) (y : Int) (hy : inR y) : hasBefore B l y = hasBefore (tb T) l y := by
 unfold hasBefore
 rw [idxGo_congr (p := fun x => decide (B y x < 0)) (q := fun x => decide (tb T y x < 0)) l 0 (fun x hx => by rw [hA.eq y x hy (hl x hx)])]
theorem orderGo_ag {B : Int → Int → Int} {T : List Int} (hA : Ag B T) : ∀ (n : Nat) (l out : List Int), (∀ x ∈ l, inR x) → orderGo B n l out = orderGo (tb T) n l out
 | 0, _, _, _ => rfl
 | n + 1, l, out, hl => by
  simp only [orderGo]
  have e : idxGo (fun y => !hasBefore B l y) l 0 = idxGo (fun y => !hasBefore (tb T) l y) l 0 := idxGo_congr l 0 (fun x hx => by rw [hasBefore_ag hA l hl x (hl x hx)])
  rw [e, orderGo_ag hA n _ _ (fun x hx => by
   rcases List.mem_append.mp hx with hx | hx
   ·exact hl x (List.mem_of_mem_take hx)
   ·exact hl x (List.mem_of_mem_drop hx))]
theorem ex_order : skew_Order.f exE exG = some ([0, 1, 2], 0) := by
 obtain ⟨B, hB, hA⟩ := ex_B
 unfold skew_Order.f
 rw [hB, Option.bind_some, if_pos (by decide)]
 show (orderGo B 10 (nums 3) []).map (fun l => (l, (0 : Int))) = _
 rw [orderGo_ag hA 10 _ _ (fun x hx => by have := nums_mem hx; exact ⟨this.1, by omega⟩)]
 kernel_rfl
def rstepT (L : List (Int × S153)) (st : (Int → Option Bool) × List Int) (x : Int × S153) : (Int → Option Bool) × List Int :=
 if (tightT (bindT (omF (upd st.1 x.1 true)) L)).isSome = true then (upd (upd st.1 x.1 true) x.1 false, st.2 ++ [x.1]) else (upd st.1 x.1 true, st.2)
theorem rstep_ag {L : List (Int × S153)} (ho : okL L) : rstep L = rstepT L := by
 funext st x
 unfold rstep rstepT
 rw [tight_isSome ho]
theorem reason_val {evs : List S27} {gaps : List S86} (h1 : skew_isHist.f 1000 evs gaps = some true) (h2 : histOk evs gaps) (ho : okL (saidL evs gaps)) (h3 : (tightT (bindT (fun _ => false) (saidL evs gaps))).isSome = false) :
  skew_Reason.f evs gaps = some (((saidL evs gaps).foldl (rstepT (saidL evs gaps)) (fun _ => none, [])).2, 0) := by
 unfold skew_Reason.f reasonP
 rw [h1, Option.bind_some, if_pos rfl, if_pos h2, tight_isSome ho, h3, if_neg (by simp), rstep_ag ho]
theorem ex_reason : skew_Reason.f exE exP = some ([3, 4, 5], 0) := by
 rw [reason_val ex_isHistP ex_okP ex_okLP (by kernel_rfl)]
 kernel_rfl
theorem ex_same1 : afterwordref19_SameSpans.f 10 [⟨10, 20⟩, ⟨15, 28⟩, ⟨16, 40⟩] [⟨10, 20⟩, ⟨15, 28⟩, ⟨16, 40⟩] = some true := by kernel_rfl
theorem ex_same2 : afterwordref19_Same.f 10 [0, 1, 2] [0, 1, 2] = some true := by kernel_rfl
theorem ex_same3 : afterwordref19_Same.f 10 [3, 4, 5] [3, 4, 5] = some true := by kernel_rfl
theorem ex_same4 : afterwordref19_Same.f 10 [2, 2, 0, 0, 0, 0] [2, 2, 0, 0, 0, 0] = some true := by kernel_rfl
theorem ex_same5 : afterwordref19_Same.f 10 [1, 2, 0, 0, 0, 0] [1, 2, 0, 0, 0, 0] = some true := by kernel_rfl
theorem ex_same6 : afterwordref19_SameStamps.f 10 [⟨50, 0⟩, ⟨50, 1⟩, ⟨50, 2⟩, ⟨50, 3⟩, ⟨60, 0⟩] [⟨50, 0⟩, ⟨50, 1⟩, ⟨50, 2⟩, ⟨50, 3⟩, ⟨60, 0⟩] = some true := by kernel_rfl
end Go.Proofs.Ytbffhblebigcfaa.Sk
