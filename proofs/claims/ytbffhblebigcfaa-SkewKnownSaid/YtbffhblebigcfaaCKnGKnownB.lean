/- The walk of SkewKnown: the rest of the chapter's examples hold. -/
import Derived.BigQuiet
import Derived.Deep.QuietTactic
import Derived.Deep.RegionWith
import Derived.Deep.RegionHeld3
import Derived.Test.YtbffhblebigcfaaCKnGValsB
import Derived.Test.YtbffhblebigcfaaCKnGKnown
import Derived.Test.YtbffhblebigcfaaCKnS0
namespace Go.Proofs.Ytbffhblebigcfaa.Sk
open Go.RowKit Go.Shelf Go.Proofs.YtbffhblebigcfaaW.PrintWords Go.Proofs.YtbffhblebigcfaaW.PrintLast Go.Proofs.YtbffhblebigcfaaW.PrintMore
attribute [local go_sem high] eqA27
set_option linter.unusedVariables false
set_option linter.unusedSimpArgs false
set_option maxRecDepth 100000 in
set_option maxHeartbeats 8000000 in
theorem skewKnown_calls (w : World) : Calls Try.prog 14 #[] w fun e w' => e = .returned (.bool true) ∧ Below w.heap.size w w' := by
 have hu27 := Try.underlying27
 have hu39 := Try.underlying39
 have hu23 := Try.underlying23
 have hu86 := Try.underlying86
 have HB := Aside0.mk (Below.refl w.heap.size w)
 go_enter Try.func14, Try.ntmps14
 go_wp2_with fail
 refine (afterwordlaw19_Clock.calls 100 3 50 _ rfl).mono ?_
 rintro e w1 ⟨rfl, hb⟩
 replace HB := Aside0.mk (below_step HB.out hb)
 clear hb
 go_wp2_with fail
 refine (skew_Span.calls 100 3 50 100 97 103 0 _ exb_span1).mono ?_
 rintro e w2 ⟨rfl, hb⟩
 replace HB := Aside0.mk (below_step HB.out hb)
 clear hb
 have K0 := Aside0.mk (blk_new w2 (.cells #[.int .i64 97, .int .i64 103] 27))
 replace HB := Aside0.mk (below_alloc HB.out (.cells #[.int .i64 97, .int .i64 103] 27))
 go_wp2_with fail
 obtain ⟨nK0, hnK0⟩ : ∃ n, w2.heap.size = n := ⟨_, rfl⟩
 rw [hnK0] at K0 ⊢
 generalize w2.alloc (.cells #[.int .i64 97, .int .i64 103] 27) = w3 at HB K0 ⊢
 clear hnK0
 refine (afterwordlaw19_Clock.calls 100 3 50 _ rfl).mono ?_
 rintro e w4 ⟨rfl, hb⟩
 replace HB := Aside0.mk (below_step HB.out hb)
 replace K0 := Aside0.mk (blk_below K0.out hb)
 clear hb
 go_wp2_with fail
 refine (skew_Span.calls 100 3 50 150 146 154 0 _ exb_span2).mono ?_
 rintro e w5 ⟨rfl, hb⟩
 replace HB := Aside0.mk (below_step HB.out hb)
 replace K0 := Aside0.mk (blk_below K0.out hb)
 clear hb
 have K1 := Aside0.mk (blk_new w5 (.cells #[.int .i64 146, .int .i64 154] 27))
 replace HB := Aside0.mk (below_alloc HB.out (.cells #[.int .i64 146, .int .i64 154] 27))
 replace K0 := Aside0.mk (blk_alloc K0.out (.cells #[.int .i64 146, .int .i64 154] 27))
 go_wp2_with fail
 obtain ⟨nK1, hnK1⟩ : ∃ n, w5.heap.size = n := ⟨_, rfl⟩
 rw [hnK1] at K1 ⊢
 generalize w5.alloc (.cells #[.int .i64 146, .int .i64 154] 27) = w6 at HB K0 K1 ⊢
 clear hnK1
 refine (afterwordlaw19_Clock.calls 100 3 50 _ rfl).mono ?_
 rintro e w7 ⟨rfl, hb⟩
 replace HB := Aside0.mk (below_step HB.out hb)
 replace K0 := Aside0.mk (blk_below K0.out hb)
 replace K1 := Aside0.mk (blk_below K1.out hb)
 clear hb
 go_wp2_with fail
 refine (skew_Span.calls 100 3 50 151 146 156 0 _ exb_span3).mono ?_
 rintro e w8 ⟨rfl, hb⟩
 replace HB := Aside0.mk (below_step HB.out hb)
 replace K0 := Aside0.mk (blk_below K0.out hb)
 replace K1 := Aside0.mk (blk_below K1.out hb)
 clear hb
 have K2 := Aside0.mk (blk_new w8 (.cells #[.int .i64 146, .int .i64 156] 27))
 replace HB := Aside0.mk (below_alloc HB.out (.cells #[.int .i64 146, .int .i64 156] 27))
 replace K0 := Aside0.mk (blk_alloc K0.out (.cells #[.int .i64 146, .int .i64 156] 27))
 replace K1 := Aside0.mk (blk_alloc K1.out (.cells #[.int .i64 146, .int .i64 156] 27))
 go_wp2_with fail
 obtain ⟨nK2, hnK2⟩ : ∃ n, w8.heap.size = n := ⟨_, rfl⟩
 rw [hnK2] at K2 ⊢
 generalize w8.alloc (.cells #[.int .i64 146, .int .i64 156] 27) = w9 at HB K0 K1 K2 ⊢
 clear hnK2
 refine (afterwordlaw19_Clock.calls 100 3 50 _ rfl).mono ?_
 rintro e w10 ⟨rfl, hb⟩
 replace HB := Aside0.mk (below_step HB.out hb)
 replace K0 := Aside0.mk (blk_below K0.out hb)
 replace K1 := Aside0.mk (blk_below K1.out hb)
 replace K2 := Aside0.mk (blk_below K2.out hb)
 clear hb
 go_wp2_with fail
 refine (skew_Mark.calls 100 3 50 150 140 10 0 0 _ exb_mark).mono ?_
 rintro e w11 ⟨rfl, hb⟩
 replace HB := Aside0.mk (below_step HB.out hb)
 replace K0 := Aside0.mk (blk_below K0.out hb)
 replace K1 := Aside0.mk (blk_below K1.out hb)
 replace K2 := Aside0.mk (blk_below K2.out hb)
 clear hb
 go_wp2_with fail
 have yK00 := cell_at K0.out 0 (.int .i64 97) rfl
 have yK01 := cell_at K0.out 1 (.int .i64 103) rfl
 have yK10 := cell_at K1.out 0 (.int .i64 146) rfl
 have yK11 := cell_at K1.out 1 (.int .i64 154) rfl
 have yK20 := cell_at K2.out 0 (.int .i64 146) rfl
 have yK21 := cell_at K2.out 1 (.int .i64 156) rfl
 clear K0 K1 K2
 have HBd := Aside0.mk (below_drew1 (Below.refl w11.heap.size w11))
 go_region_held3 (fun W' => Below w11.heap.size w11 W' ∧ W'.cell? ⟨nK0, 0, none⟩ = some (.int .i64 97) ∧ W'.cell? ⟨nK0, 1, none⟩ = some (.int .i64 103) ∧ W'.cell? ⟨nK1, 0, none⟩ = some (.int .i64 146) ∧ W'.cell? ⟨nK1, 1, none⟩ = some (.int .i64 154) ∧ W'.cell? ⟨nK2, 0, none⟩ = some (.int .i64 146) ∧ W'.cell? ⟨nK2, 1, none⟩ = some (.int .i64 156))
  (first | (with_reducible (refine ⟨HBd.out, ?_, ?_, ?_, ?_, ?_, ?_⟩)) <;> (apply cell_drew; with_reducible assumption) | (go_split_ands; (with_reducible refine ⟨below_step (by assumption) hb, ?_, ?_, ?_, ?_, ?_, ?_⟩) <;> (apply pw_cell_below hb; with_reducible assumption)))
  (first | (go_at_call 55; (with_reducible refine (afterwordlaw19_Span.calls 97 103 97 103 _ rfl).mono ?_); rintro e w' ⟨rfl, hb⟩) | (go_at_call 55; (with_reducible refine (afterwordlaw19_Span.calls 146 154 146 154 _ rfl).mono ?_); rintro e w' ⟨rfl, hb⟩) | (go_at_call 55; (with_reducible refine (afterwordlaw19_Span.calls 146 156 146 156 _ rfl).mono ?_); rintro e w' ⟨rfl, hb⟩))
 rename_i hS
 have hb := hS.1
 replace HB := Aside0.mk (below_step HB.out hb)
 clear hS hb HBd
 clear yK00 yK01 yK10 yK11 yK20 yK21
 go_wp2_with fail
 refine (afterwordlaw19_Span.calls 1 2 1 2 _ rfl).mono ?_
 rintro e w13 ⟨rfl, hb⟩
 replace HB := Aside0.mk (below_step HB.out hb)
 clear hb
 go_wp2_with fail
 refine (afterwordlaw19_Span.calls 5 6 5 6 _ rfl).mono ?_
 rintro e w14 ⟨rfl, hb⟩
 replace HB := Aside0.mk (below_step HB.out hb)
 clear hb
 go_wp2_with fail
 have hv := blk_new w14 (.cells #[.int .i64 1, .int .i64 2, .int .i64 5, .int .i64 6] 27)
 replace HB := Aside0.mk (below_alloc HB.out (.cells #[.int .i64 1, .int .i64 2, .int .i64 5, .int .i64 6] 27))
 have hCv := C_lit27 [⟨1, 2⟩, ⟨5, 6⟩] hv (by decide)
 refine (skew_Vote.calls (some ⟨w14.heap.size, 0, none⟩) 2 [⟨1, 2⟩, ⟨5, 6⟩] 1 2 1 0 (w14.alloc (.cells #[.int .i64 1, .int .i64 2, .int .i64 5, .int .i64 6] 27)) hCv (by decide) exb_vote).mono ?_
 rintro e w15 ⟨rfl, hb⟩
 replace HB := Aside0.mk (below_step HB.out hb)
 clear hb hv hCv
 have K3 := Aside0.mk (blk_new w15 (.cells #[.int .i64 1, .int .i64 2] 27))
 replace HB := Aside0.mk (below_alloc HB.out (.cells #[.int .i64 1, .int .i64 2] 27))
 go_wp2_with fail
 obtain ⟨nK3, hnK3⟩ : ∃ n, w15.heap.size = n := ⟨_, rfl⟩
 rw [hnK3] at K3 ⊢
 generalize w15.alloc (.cells #[.int .i64 1, .int .i64 2] 27) = w16 at HB K3 ⊢
 clear hnK3
 refine (afterwordlaw19_Hist.calls exE exG _ ex_hist).mono ?_
 rintro e w17 ⟨v0, v1, rfl, ho0, ho1, hb⟩
 replace HB := Aside0.mk (below_step HB.out hb)
 replace K3 := Aside0.mk (blk_below K3.out hb)
 obtain ⟨A0, c0, rfl, hc0, hC0⟩ := Kd.R_reads ho0
 obtain ⟨A1, c1, rfl, hc1, hC1⟩ := Kd.R_reads ho1
 have HCa := Aside0.mk hC0
 have HCb := Aside0.mk hC1
 clear hb ho0 ho1 hC0 hC1
 go_wp2_with fail
 refine (skew_Sure.calls A0 c0 exE A1 c1 exG 1 2 true 0 _ HCa.out hc0 HCb.out hc1 exb_sure).mono ?_
 rintro e w18 ⟨rfl, hb⟩
 replace HB := Aside0.mk (below_step HB.out hb)
 replace K3 := Aside0.mk (blk_below K3.out hb)
 replace HCa := Aside0.mk (Kd.C_below HCa.out hb)
 replace HCb := Aside0.mk (Kd.C_below HCb.out hb)
 clear hb
 clear HCa HCb
 go_wp2_with fail
 refine (afterwordlaw19_Run.calls exR _ ex_run).mono ?_
 rintro e w19 ⟨v0, rfl, ho0, hb⟩
 replace HB := Aside0.mk (below_step HB.out hb)
 replace K3 := Aside0.mk (blk_below K3.out hb)
 obtain ⟨A2, c2, rfl, hc2, hC2⟩ := Kd.R_reads ho0
 have HC2 := Aside0.mk hC2
 clear hb ho0 hC2
 go_wp2_with fail
 refine (skew_Ahead.calls A2 c2 exR 0 3 true 0 _ HC2.out hc2 exb_ahead1).mono ?_
 rintro e w20 ⟨rfl, hb⟩
 replace HB := Aside0.mk (below_step HB.out hb)
 replace K3 := Aside0.mk (blk_below K3.out hb)
 replace HC2 := Aside0.mk (Kd.C_below HC2.out hb)
 clear hb
 clear HC2
 go_wp2_with fail
 refine (afterwordlaw19_Run.calls exR _ ex_run).mono ?_
 rintro e w21 ⟨v0, rfl, ho0, hb⟩
 replace HB := Aside0.mk (below_step HB.out hb)
 replace K3 := Aside0.mk (blk_below K3.out hb)
 obtain ⟨A2, c2, rfl, hc2, hC2⟩ := Kd.R_reads ho0
 have HC2 := Aside0.mk hC2
 clear hb ho0 hC2
 go_wp2_with fail
 refine (skew_Ahead.calls A2 c2 exR 3 4 false 0 _ HC2.out hc2 exb_ahead2).mono ?_
 rintro e w22 ⟨rfl, hb⟩
 replace HB := Aside0.mk (below_step HB.out hb)
 replace K3 := Aside0.mk (blk_below K3.out hb)
 replace HC2 := Aside0.mk (Kd.C_below HC2.out hb)
 clear hb
 clear HC2
 go_wp2_with fail
 have yK0 := cell_at K3.out 0 (.int .i64 1) rfl
 have yK1 := cell_at K3.out 1 (.int .i64 2) rfl
 clear K3
 have HBd := Aside0.mk (below_drew1 (Below.refl w22.heap.size w22))
 go_region_held3 (fun W' => Below w22.heap.size w22 W' ∧ W'.cell? ⟨nK3, 0, none⟩ = some (.int .i64 1) ∧ W'.cell? ⟨nK3, 1, none⟩ = some (.int .i64 2))
  (first | (with_reducible (refine ⟨HBd.out, ?_, ?_⟩)) <;> (apply cell_drew; with_reducible assumption) | (go_split_ands; (with_reducible refine ⟨below_step (by assumption) hb, ?_, ?_⟩) <;> (apply pw_cell_below hb; with_reducible assumption)))
  (first | (go_at_call 55; (with_reducible refine (afterwordlaw19_Span.calls 1 2 1 2 _ rfl).mono ?_); rintro e w' ⟨rfl, hb⟩))
 rename_i hS
 have hb := hS.1
 replace HB := Aside0.mk (below_step HB.out hb)
 clear hS hb HBd
 clear yK0 yK1
 go_wp2_with fail
 refine (afterwordlaw19_Run.calls exR _ ex_run).mono ?_
 rintro e w24 ⟨v0, rfl, ho0, hb⟩
 replace HB := Aside0.mk (below_step HB.out hb)
 obtain ⟨A2, c2, rfl, hc2, hC2⟩ := Kd.R_reads ho0
 have HC2 := Aside0.mk hC2
 clear hb ho0 hC2
 go_wp2_with fail
 have hv := blk_new w24 (.cells #[.int .i64 1, .int .i64 1, .int .i64 0, .int .i64 0, .int .i64 0, .int .i64 0] 3)
 replace HB := Aside0.mk (below_alloc HB.out (.cells #[.int .i64 1, .int .i64 1, .int .i64 0, .int .i64 0, .int .i64 0, .int .i64 0] 3))
 replace HC2 := Aside0.mk (Kd.C_alloc HC2.out (.cells #[.int .i64 1, .int .i64 1, .int .i64 0, .int .i64 0, .int .i64 0, .int .i64 0] 3))
 have hCv := C_lit3 [1, 1, 0, 0, 0, 0] hv (by decide)
 refine (skew_Closed.calls A2 c2 exR (some ⟨w24.heap.size, 0, none⟩) 6 [1, 1, 0, 0, 0, 0] true 0 (w24.alloc (.cells #[.int .i64 1, .int .i64 1, .int .i64 0, .int .i64 0, .int .i64 0, .int .i64 0] 3)) HC2.out hc2 hCv (by decide) exb_closed).mono ?_
 rintro e w25 ⟨rfl, hb⟩
 replace HB := Aside0.mk (below_step HB.out hb)
 replace HC2 := Aside0.mk (Kd.C_below HC2.out hb)
 clear hb hv hCv
 clear HC2
 go_wp2_with fail
 refine (afterwordlaw19_Hist.calls exE exG _ ex_hist).mono ?_
 rintro e w26 ⟨v0, v1, rfl, ho0, ho1, hb⟩
 replace HB := Aside0.mk (below_step HB.out hb)
 obtain ⟨A0, c0, rfl, hc0, hC0⟩ := Kd.R_reads ho0
 obtain ⟨A1, c1, rfl, hc1, hC1⟩ := Kd.R_reads ho1
 have HCa := Aside0.mk hC0
 have HCb := Aside0.mk hC1
 clear hb ho0 ho1 hC0 hC1
 go_wp2_with fail
 refine (skew_Reason.calls A0 c0 exE A1 c1 exG [] 5 _ HCa.out hc0 HCb.out hc1 exb_reason1).mono ?_
 rintro e w27 ⟨vr, rfl, hvr, hb⟩
 replace HB := Aside0.mk (below_step HB.out hb)
 replace HCa := Aside0.mk (Kd.C_below HCa.out hb)
 replace HCb := Aside0.mk (Kd.C_below HCb.out hb)
 clear hb hvr
 clear HCa HCb
 go_wp2_with fail
 refine (skew_Wait.calls 0 0 1 0 0 0 5 _ exb_wait).mono ?_
 rintro e w28 ⟨rfl, hb⟩
 replace HB := Aside0.mk (below_step HB.out hb)
 clear hb
 go_wp2_with fail
 refine (afterwordlaw19_Span.calls 1 2 1 2 _ rfl).mono ?_
 rintro e w29 ⟨rfl, hb⟩
 replace HB := Aside0.mk (below_step HB.out hb)
 clear hb
 go_wp2_with fail
 refine (afterwordlaw19_Span.calls 3 4 3 4 _ rfl).mono ?_
 rintro e w30 ⟨rfl, hb⟩
 replace HB := Aside0.mk (below_step HB.out hb)
 clear hb
 go_wp2_with fail
 have hv := blk_new w30 (.cells #[.int .i64 1, .int .i64 2, .int .i64 3, .int .i64 4] 27)
 replace HB := Aside0.mk (below_alloc HB.out (.cells #[.int .i64 1, .int .i64 2, .int .i64 3, .int .i64 4] 27))
 have hCv := C_lit27 [⟨1, 2⟩, ⟨3, 4⟩] hv (by decide)
 refine (skew_Meet.calls (some ⟨w30.heap.size, 0, none⟩) 2 [⟨1, 2⟩, ⟨3, 4⟩] 0 0 5 (w30.alloc (.cells #[.int .i64 1, .int .i64 2, .int .i64 3, .int .i64 4] 27)) hCv (by decide) exb_meet).mono ?_
 rintro e w31 ⟨rfl, hb⟩
 replace HB := Aside0.mk (below_step HB.out hb)
 clear hb hv hCv
 go_wp2_with fail
 refine (afterwordlaw19_Span.calls 0 5 0 5 _ rfl).mono ?_
 rintro e w32 ⟨rfl, hb⟩
 replace HB := Aside0.mk (below_step HB.out hb)
 clear hb
 go_wp2_with fail
 refine (afterwordlaw19_Span.calls 20 30 20 30 _ rfl).mono ?_
 rintro e w33 ⟨rfl, hb⟩
 replace HB := Aside0.mk (below_step HB.out hb)
 clear hb
 go_wp2_with fail
 refine (afterwordlaw19_Span.calls 7 9 7 9 _ rfl).mono ?_
 rintro e w34 ⟨rfl, hb⟩
 replace HB := Aside0.mk (below_step HB.out hb)
 clear hb
 go_wp2_with fail
 have HQ := Aside0.mk (C_lit27 exQ (blk_new w34 (.cells #[.int .i64 0, .int .i64 5, .int .i64 20, .int .i64 30, .int .i64 7, .int .i64 9] 27)) (by decide))
 replace HB := Aside0.mk (below_alloc HB.out (.cells #[.int .i64 0, .int .i64 5, .int .i64 20, .int .i64 30, .int .i64 7, .int .i64 9] 27))
 have HG := Aside0.mk (C_lit k86 exH (blk_new (w34.alloc (.cells #[.int .i64 0, .int .i64 5, .int .i64 20, .int .i64 30, .int .i64 7, .int .i64 9] 27)) (.cells #[.int .i64 0, .int .i64 1, .int .i64 0, .int .i64 10] 86)) (reps_flat (R := k86.K _) (fun x : S86 => [Value.int .i64 x.f0, Value.int .i64 x.f1, Value.int .i64 x.f2, Value.int .i64 x.f3]) (fun x => Kd.K_of_M k86 (k86_mkM _ 0 (fun _ => True) x)) (fun _ => rfl) exH) (by decide))
 replace HB := Aside0.mk (below_alloc HB.out (.cells #[.int .i64 0, .int .i64 1, .int .i64 0, .int .i64 10] 86))
 replace HQ := Aside0.mk (Kd.C_alloc HQ.out (.cells #[.int .i64 0, .int .i64 1, .int .i64 0, .int .i64 10] 86))
 replace HB := Aside0.mk (below_alloc HB.out (.cells #[.slice (some ⟨w34.heap.size, 0, none⟩) 3 3, .slice (some ⟨w34.heap.size + 1, 0, none⟩) 1 1] 39))
 replace HQ := Aside0.mk (Kd.C_alloc HQ.out (.cells #[.slice (some ⟨w34.heap.size, 0, none⟩) 3 3, .slice (some ⟨w34.heap.size + 1, 0, none⟩) 1 1] 39))
 replace HG := Aside0.mk (Kd.C_alloc HG.out (.cells #[.slice (some ⟨w34.heap.size, 0, none⟩) 3 3, .slice (some ⟨w34.heap.size + 1, 0, none⟩) 1 1] 39))
 go_wp2_with fail
 have HGs := HG.out
 rw [World.size_alloc] at HGs
 refine (skew_Reason.calls (some ⟨w34.heap.size, 0, none⟩) 3 exQ (some ⟨w34.heap.size + 1, 0, none⟩) 1 exH [0, 1, 3] 0 (((w34.alloc (.cells #[.int .i64 0, .int .i64 5, .int .i64 20, .int .i64 30, .int .i64 7, .int .i64 9] 27)).alloc (.cells #[.int .i64 0, .int .i64 1, .int .i64 0, .int .i64 10] 86)).alloc (.cells #[.slice (some ⟨w34.heap.size, 0, none⟩) 3 3, .slice (some ⟨w34.heap.size + 1, 0, none⟩) 1 1] 39)) HQ.out (by decide) HGs (by decide) exb_reason2).mono ?_
 rintro e w35 ⟨vr, rfl, hvr, hb⟩
 replace HB := Aside0.mk (below_step HB.out hb)
 replace HQ := Aside0.mk (Kd.C_below HQ.out hb)
 replace HG := Aside0.mk (Kd.C_below HG.out hb)
 obtain ⟨Ar, cr, rfl, hcr, hCr⟩ := V_read hvr
 have HCr := Aside0.mk hCr
 clear hb hvr hCr HGs
 clear HQ HG
 go_wp2_with fail
 refine (skew_Tight.calls none 0 [] none 0 [] [] 0 _ ⟨rfl, Nat.zero_le _, fun h => by simp at h⟩ (Nat.le_refl _) ⟨rfl, Nat.zero_le _, fun h => by simp at h⟩ (Nat.le_refl _) exb_tight).mono ?_
 rintro e w36 ⟨vt, rfl, hvt, hb⟩
 replace HB := Aside0.mk (below_step HB.out hb)
 replace HCr := Aside0.mk (Kd.C_below HCr.out hb)
 obtain ⟨At, ct, rfl, hct, hCt⟩ := V_read hvt
 clear hct hCt
 clear hb hvt
 go_wp2_with fail
 have hv := blk_new w36 (.cells #[.int .i64 0, .int .i64 1, .int .i64 3] 3)
 replace HB := Aside0.mk (below_alloc HB.out (.cells #[.int .i64 0, .int .i64 1, .int .i64 3] 3))
 replace HCr := Aside0.mk (Kd.C_alloc HCr.out (.cells #[.int .i64 0, .int .i64 1, .int .i64 3] 3))
 have hCv := C_lit3 [0, 1, 3] hv (by decide)
 refine (slices_Equal_int_int.calls 10 Ar cr [0, 1, 3] (some ⟨w36.heap.size, 0, none⟩) 3 [0, 1, 3] true (w36.alloc (.cells #[.int .i64 0, .int .i64 1, .int .i64 3] 3)) HCr.out hcr hCv (by decide) exb_equal).mono ?_
 rintro e w37 ⟨rfl, hd⟩
 have hb := hd.below
 clear HCr
 replace HB := Aside0.mk (below_step HB.out hb)
 clear hb hd hv hCv
 go_wp2_with fail
 refine (afterwordlaw19_known.calls true _ rfl).mono ?_
 rintro e w38 ⟨rfl, hb⟩
 replace HB := Aside0.mk (below_step HB.out hb)
 clear hb
 go_wp2_with fail
 go_ret
 exact ⟨rfl, HB.out⟩
end Go.Proofs.Ytbffhblebigcfaa.Sk
