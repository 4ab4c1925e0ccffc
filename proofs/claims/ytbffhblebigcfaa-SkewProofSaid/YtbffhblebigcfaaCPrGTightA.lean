/- What Tight hands back, for any history. -/
import Derived.Test.YtbffhblebigcfaaCPrLTight
namespace Go.Proofs.Ytbffhblebigcfaa.Sk
open Go.RowKit Go.Proofs.YtbffhblebigcfaaW.PrintWords Go.Proofs.YtbffhblebigcfaaW.PrintLast Go.Proofs.YtbffhblebigcfaaW.PrintMore
set_option linter.unusedVariables false
set_option linter.unusedSimpArgs false
set_option maxHeartbeats 2000000 in
set_option maxRecDepth 100000 in
theorem skew_TightA.calls (A0 : Option Addr) (c0 : Nat) (evs : List S27) (A1 : Option Addr) (c1 : Nat) (gaps : List S86) (r1 : List S27) (r2 : Int) (w : World) (hC0 : Kd.C k27 w A0 evs.length evs) (hc0 : evs.length ≤ c0) (hC1 : Kd.C k86 w A1 gaps.length gaps) (hc1 : gaps.length ≤ c1) (h : tightA evs gaps = (r1, r2)) :
  Calls Try.prog 48 #[.agg #[.slice A0 evs.length c0, .slice A1 gaps.length c1]] w fun e w' => ∃ v0_ : Value, e = .returned (.tuple #[v0_, .int .i64 r2]) ∧ Kd.V k27 27 w' w.heap.size (fun k_ => (w.heap.size ≤ k_)) v0_ r1 ∧ Below w.heap.size w w' := by
 by_cases hn : evs.length ≤ 10
 ·exact skew_Tight.calls A0 c0 evs A1 c1 gaps r1 r2 w hC0 hc0 hC1 hc1 (by rw [tight_skew _ _ hn, h])
 ·have hb : ¬ histB evs gaps = true := fun hb => hn ((histIs _ _).mp hb).n
  have hr : tightA evs gaps = ([], 2) := by unfold tightA; rw [if_neg hb]
  rw [hr] at h
  injection h with h1 h2
  subst h1
  subst h2
  have hb0 := below_alloc (Below.refl w.heap.size w) (.cells #[.slice A0 evs.length c0, .slice A1 gaps.length c1] 39)
  have hk0 := blk_new w (.cells #[.slice A0 evs.length c0, .slice A1 gaps.length c1] 39)
  have HTn := Aa (tight_calls A0 A1 c0 c1 evs gaps none 2 _ (Kd.C_below hC0 hb0) hc0 (Kd.C_below hC1 hb0) hc1 (tightR_no hb))
  have x0 := cell_at hk0 0 (.slice A0 evs.length c0) rfl
  have x1 := cell_at hk0 1 (.slice A1 gaps.length c1) rfl
  have HB0 := Aa hb0
  clear hb0 hk0 hr hb hn
  go_enter Try.func48, Try.ntmps48
  go_wp2_with (go_at_call 108; refine HTn.out.mono ?_; rintro e w4 ⟨p, rfl, _, hn, _, hb⟩; have HB4 := Aa (below_step HB0.out hb); clear hb)
  go_ret2
  exact ⟨_, rfl, Kd.V_nil _ _ _ _ _, HB4.out⟩
end Go.Proofs.Ytbffhblebigcfaa.Sk
