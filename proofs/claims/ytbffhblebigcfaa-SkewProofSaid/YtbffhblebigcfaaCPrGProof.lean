/- The walk of SkewProof. -/
import Derived.BigQuiet
import Derived.Deep.QuietTactic
import Derived.Deep.RegionHeld3
import Derived.IntWalk
import Derived.Test.YtbffhblebigcfaaCPrLProofE
import Derived.Test.YtbffhblebigcfaaCPrGTightA
import Derived.Test.YtbffhblebigcfaaCPrGCloneI
import Derived.Test.YtbffhblebigcfaaCPrGDelFn
import Derived.Test.YtbffhblebigcfaaCPrGKnown
import Derived.Test.YtbffhblebigcfaaCPrS0
namespace Go.Proofs.Ytbffhblebigcfaa.Sk
open Go.RowKit Go.Proofs.YtbffhblebigcfaaW.PrintWords Go.Proofs.YtbffhblebigcfaaW.PrintLast Go.Proofs.YtbffhblebigcfaaW.PrintMore
attribute [local go_sem] max2_int min2_int max_two min_two
set_option linter.unusedVariables false
set_option linter.unusedSimpArgs false
structure PT (evs : List S27) (gaps : List S86) (A0 A1 : Option Addr) (c0 c1 n0 : Nat) (w W : World) : Prop where
 bel : Below w.heap.size w W
 k0 : W.heap[n0]? = some (.cells #[.slice A0 evs.length c0, .slice A1 gaps.length c1] 39 (0, 0))
 a0 : Kd.C k27 W A0 evs.length evs
 a1 : Kd.C k86 W A1 gaps.length gaps
theorem PT.below {evs : List S27} {gaps : List S86} {A0 A1 : Option Addr} {c0 c1 n0 : Nat} {w W W' : World} (h : PT evs gaps A0 A1 c0 c1 n0 w W) (hb : Below W.heap.size W W') : PT evs gaps A0 A1 c0 c1 n0 w W' :=
 ⟨below_step h.bel hb, blk_below h.k0 hb, Kd.C_below h.a0 hb, Kd.C_below h.a1 hb⟩
set_option maxHeartbeats 8000000 in
set_option maxRecDepth 100000 in
theorem proof_arg (A0 : Option Addr) (c0 : Nat) (evs : List S27) (A1 : Option Addr) (c1 : Nat) (gaps : List S86) (w : World) (hr0 : Kd.C k27 w A0 evs.length evs) (hc0 : evs.length ≤ c0) (hr1 : Kd.C k86 w A1 gaps.length gaps) (hc1 : gaps.length ≤ c1)  (hRe : skew_Reason.f evs gaps = some ([], 2)) (m : List S27) (hTi : tightA evs gaps = (m, 2)) :
  Calls Try.prog 13 #[.agg #[.slice A0 evs.length c0, .slice A1 gaps.length c1]] w fun e w' => e = .returned (.bool true) ∧ Below w.heap.size w w' := by
 have hu39 := Try.underlying39
 have hu27 := Try.underlying27
 have HC0 := Aa hc0
 have HC1 := Aa hc1
 have HRe := Aa hRe
 have HTi := Aa hTi
 obtain ⟨n0, hn0⟩ : ∃ n0, w.heap.size = n0 := ⟨_, rfl⟩
 have HT := Aa (show PT evs gaps A0 A1 c0 c1 n0 w (w.alloc (.cells #[.slice A0 evs.length c0, .slice A1 gaps.length c1] 39)) from ⟨below_alloc (Below.refl w.heap.size w) _, by rw [← hn0]; exact blk_new _ _, Kd.C_alloc hr0 _, Kd.C_alloc hr1 _⟩)
 clear hr0 hr1 hc0 hc1 hRe hTi
 go_enter Try.func13, Try.ntmps13
 have x0 := cell_at HT.out.k0 0 (.slice A0 evs.length c0) rfl
 have x1 := cell_at HT.out.k0 1 (.slice A1 gaps.length c1) rfl
 go_wp2_with fail
 refine (skew_Reason.calls A0 c0 evs A1 c1 gaps [] 2 _ HT.out.a0 HC0.out HT.out.a1 HC1.out HRe.out).mono ?_
 rintro e_ w1 ⟨v1, rfl, hV1, hb⟩
 obtain ⟨At, ct, rfl, hct, hCt⟩ := V_read hV1
 have HL := Aa hCt
 have HLc := Aa hct
 replace HT := Aa (HT.out.below hb)
 clear hb hV1 hCt hct x0 x1
 have x0 := cell_at HT.out.k0 0 (.slice A0 evs.length c0) rfl
 have x1 := cell_at HT.out.k0 1 (.slice A1 gaps.length c1) rfl
 go_wp2_with fail
 refine (skew_TightA.calls A0 c0 evs A1 c1 gaps m 2 _ HT.out.a0 HC0.out HT.out.a1 HC1.out HTi.out).mono ?_
 rintro e_ w2 ⟨v2, rfl, hV2, hb⟩
 obtain ⟨Am, cm, rfl, hcm, hCm⟩ := V_read hV2
 replace HT := Aa (HT.out.below hb)
 replace HL := Aa (Kd.C_below HL.out hb)
 clear hb hV2 hCm hcm x0 x1
 have x0 := cell_at HT.out.k0 0 (.slice A0 evs.length c0) rfl
 have x1 := cell_at HT.out.k0 1 (.slice A1 gaps.length c1) rfl
 go_wp2_with fail
 refine (afterwordlaw19_known.calls true _ rfl).mono ?_
 rintro e_ wz ⟨rfl, hb⟩
 replace HT := Aa (HT.out.below hb)
 clear hb
 go_wp2_with fail
 go_ret
 exact ⟨rfl, HT.out.bel⟩
set_option maxHeartbeats 8000000 in
set_option maxRecDepth 100000 in
theorem proof_none (A0 : Option Addr) (c0 : Nat) (evs : List S27) (A1 : Option Addr) (c1 : Nat) (gaps : List S86) (w : World) (hr0 : Kd.C k27 w A0 evs.length evs) (hc0 : evs.length ≤ c0) (hr1 : Kd.C k86 w A1 gaps.length gaps) (hc1 : gaps.length ≤ c1) (kh : Nat) (hh : afterwordref19_Hist.f kh evs gaps = some true) (hRe : skew_Reason.f evs gaps = some ([], 5)) (m : List S27) (hTi : tightA evs gaps = (m, 0)) :
  Calls Try.prog 13 #[.agg #[.slice A0 evs.length c0, .slice A1 gaps.length c1]] w fun e w' => e = .returned (.bool true) ∧ Below w.heap.size w w' := by
 have hu39 := Try.underlying39
 have hu27 := Try.underlying27
 have HC0 := Aa hc0
 have HC1 := Aa hc1
 have HRe := Aa hRe
 have HTi := Aa hTi
 obtain ⟨n0, hn0⟩ : ∃ n0, w.heap.size = n0 := ⟨_, rfl⟩
 have HT := Aa (show PT evs gaps A0 A1 c0 c1 n0 w (w.alloc (.cells #[.slice A0 evs.length c0, .slice A1 gaps.length c1] 39)) from ⟨below_alloc (Below.refl w.heap.size w) _, by rw [← hn0]; exact blk_new _ _, Kd.C_alloc hr0 _, Kd.C_alloc hr1 _⟩)
 clear hr0 hr1 hc0 hc1 hRe hTi
 go_enter Try.func13, Try.ntmps13
 have x0 := cell_at HT.out.k0 0 (.slice A0 evs.length c0) rfl
 have x1 := cell_at HT.out.k0 1 (.slice A1 gaps.length c1) rfl
 go_wp2_with fail
 refine (skew_Reason.calls A0 c0 evs A1 c1 gaps [] 5 _ HT.out.a0 HC0.out HT.out.a1 HC1.out HRe.out).mono ?_
 rintro e_ w1 ⟨v1, rfl, hV1, hb⟩
 obtain ⟨At, ct, rfl, hct, hCt⟩ := V_read hV1
 have HL := Aa hCt
 have HLc := Aa hct
 replace HT := Aa (HT.out.below hb)
 clear hb hV1 hCt hct x0 x1
 have x0 := cell_at HT.out.k0 0 (.slice A0 evs.length c0) rfl
 have x1 := cell_at HT.out.k0 1 (.slice A1 gaps.length c1) rfl
 go_wp2_with fail
 refine (skew_TightA.calls A0 c0 evs A1 c1 gaps m 0 _ HT.out.a0 HC0.out HT.out.a1 HC1.out HTi.out).mono ?_
 rintro e_ w2 ⟨v2, rfl, hV2, hb⟩
 obtain ⟨Am, cm, rfl, hcm, hCm⟩ := V_read hV2
 replace HT := Aa (HT.out.below hb)
 replace HL := Aa (Kd.C_below HL.out hb)
 clear hb hV2 hCm hcm x0 x1
 have x0 := cell_at HT.out.k0 0 (.slice A0 evs.length c0) rfl
 have x1 := cell_at HT.out.k0 1 (.slice A1 gaps.length c1) rfl
 go_wp2_with fail
 refine (afterwordref19_Hist.calls kh A0 c0 evs A1 c1 gaps true _ HT.out.a0 HC0.out HT.out.a1 HC1.out hh).mono ?_
 rintro e_ w3 ⟨rfl, hb⟩
 replace HT := Aa (HT.out.below hb)
 replace HL := Aa (Kd.C_below HL.out hb)
 clear hb x0 x1
 have x0 := cell_at HT.out.k0 0 (.slice A0 evs.length c0) rfl
 have x1 := cell_at HT.out.k0 1 (.slice A1 gaps.length c1) rfl
 go_wp2_with fail
 refine (afterwordlaw19_known.calls true _ rfl).mono ?_
 rintro e_ wz ⟨rfl, hb⟩
 replace HT := Aa (HT.out.below hb)
 clear hb
 go_wp2_with fail
 go_ret
 exact ⟨rfl, HT.out.bel⟩
set_option maxHeartbeats 8000000 in
set_option maxRecDepth 100000 in
theorem proof_big (A0 : Option Addr) (c0 : Nat) (evs : List S27) (A1 : Option Addr) (c1 : Nat) (gaps : List S86) (w : World) (hr0 : Kd.C k27 w A0 evs.length evs) (hc0 : evs.length ≤ c0) (hr1 : Kd.C k86 w A1 gaps.length gaps) (hc1 : gaps.length ≤ c1) (kh : Nat) (hh : afterwordref19_Hist.f kh evs gaps = some true) (l : List Int) (hl0 : l.length ≠ 0) (hl1 : l.length ≤ evs.length + gaps.length) (hn : evs.length ≤ 1000) (hw : gaps.length ≤ 1000) (ks : Nat) (hs : afterwordlaw19_small.f ks evs gaps = some false) (hRe : skew_Reason.f evs gaps = some (l, 0)) (m : List S27) (hTi : tightA evs gaps = (m, 5)) :
  Calls Try.prog 13 #[.agg #[.slice A0 evs.length c0, .slice A1 gaps.length c1]] w fun e w' => e = .returned (.bool true) ∧ Below w.heap.size w w' := by
 have hu39 := Try.underlying39
 have hu27 := Try.underlying27
 have HC0 := Aa hc0
 have HC1 := Aa hc1
 have HRe := Aa hRe
 have HTi := Aa hTi
 obtain ⟨n0, hn0⟩ : ∃ n0, w.heap.size = n0 := ⟨_, rfl⟩
 have HT := Aa (show PT evs gaps A0 A1 c0 c1 n0 w (w.alloc (.cells #[.slice A0 evs.length c0, .slice A1 gaps.length c1] 39)) from ⟨below_alloc (Below.refl w.heap.size w) _, by rw [← hn0]; exact blk_new _ _, Kd.C_alloc hr0 _, Kd.C_alloc hr1 _⟩)
 clear hr0 hr1 hc0 hc1 hRe hTi
 have hz : ((l.length : Int) == 0) = false := beq_eq_false_iff_ne.mpr (by omega)
 have hgt : decide ((l.length : Int) > (evs.length : Int) + (gaps.length : Int)) = false := decide_eq_false (by omega)
 go_enter Try.func13, Try.ntmps13
 have x0 := cell_at HT.out.k0 0 (.slice A0 evs.length c0) rfl
 have x1 := cell_at HT.out.k0 1 (.slice A1 gaps.length c1) rfl
 go_wp2_with fail
 refine (skew_Reason.calls A0 c0 evs A1 c1 gaps l 0 _ HT.out.a0 HC0.out HT.out.a1 HC1.out HRe.out).mono ?_
 rintro e_ w1 ⟨v1, rfl, hV1, hb⟩
 obtain ⟨At, ct, rfl, hct, hCt⟩ := V_read hV1
 have HL := Aa hCt
 have HLc := Aa hct
 replace HT := Aa (HT.out.below hb)
 clear hb hV1 hCt hct x0 x1
 have x0 := cell_at HT.out.k0 0 (.slice A0 evs.length c0) rfl
 have x1 := cell_at HT.out.k0 1 (.slice A1 gaps.length c1) rfl
 go_wp2_with fail
 refine (skew_TightA.calls A0 c0 evs A1 c1 gaps m 5 _ HT.out.a0 HC0.out HT.out.a1 HC1.out HTi.out).mono ?_
 rintro e_ w2 ⟨v2, rfl, hV2, hb⟩
 obtain ⟨Am, cm, rfl, hcm, hCm⟩ := V_read hV2
 replace HT := Aa (HT.out.below hb)
 replace HL := Aa (Kd.C_below HL.out hb)
 clear hb hV2 hCm hcm x0 x1
 have x0 := cell_at HT.out.k0 0 (.slice A0 evs.length c0) rfl
 have x1 := cell_at HT.out.k0 1 (.slice A1 gaps.length c1) rfl
 go_wp2_with fail
 refine (afterwordref19_Hist.calls kh A0 c0 evs A1 c1 gaps true _ HT.out.a0 HC0.out HT.out.a1 HC1.out hh).mono ?_
 rintro e_ w3 ⟨rfl, hb⟩
 replace HT := Aa (HT.out.below hb)
 replace HL := Aa (Kd.C_below HL.out hb)
 clear hb x0 x1
 have x0 := cell_at HT.out.k0 0 (.slice A0 evs.length c0) rfl
 have x1 := cell_at HT.out.k0 1 (.slice A1 gaps.length c1) rfl
 go_wp2_with fail
 refine (afterwordlaw19_small.calls ks A0 c0 evs A1 c1 gaps false _ HT.out.a0 HC0.out HT.out.a1 HC1.out hs).mono ?_
 rintro e_ w4 ⟨rfl, hb⟩
 replace HT := Aa (HT.out.below hb)
 replace HL := Aa (Kd.C_below HL.out hb)
 clear hb x0 x1
 have x0 := cell_at HT.out.k0 0 (.slice A0 evs.length c0) rfl
 have x1 := cell_at HT.out.k0 1 (.slice A1 gaps.length c1) rfl
 go_wp2_with fail
 refine (afterwordlaw19_known.calls true _ rfl).mono ?_
 rintro e_ wz ⟨rfl, hb⟩
 replace HT := Aa (HT.out.below hb)
 clear hb
 go_wp2_with fail
 go_ret
 exact ⟨rfl, HT.out.bel⟩
set_option maxHeartbeats 8000000 in
set_option maxRecDepth 100000 in
theorem proof_all (A0 : Option Addr) (c0 : Nat) (evs : List S27) (A1 : Option Addr) (c1 : Nat) (gaps : List S86) (w : World) (hr0 : Kd.C k27 w A0 evs.length evs) (hc0 : evs.length ≤ c0) (hr1 : Kd.C k86 w A1 gaps.length gaps) (hc1 : gaps.length ≤ c1) (kh : Nat) (hh : afterwordref19_Hist.f kh evs gaps = some true) (l : List Int) (hl0 : l.length ≠ 0) (hl1 : l.length ≤ evs.length + gaps.length) (hn : evs.length ≤ 1000) (hw : gaps.length ≤ 1000) (ks : Nat) (hs : afterwordlaw19_small.f ks evs gaps = some true) (KE : List S27) (KG : List S86) (kk : Nat) (hk : afterwordlaw19_kept.f kk evs gaps l = some (KE, KG)) (m2 : List S27) (hT2 : tightA KE KG = (m2, 5)) (hall : ∀ i : Nat, i < l.length → ∃ k KE KG m3, afterwordlaw19_kept.f k evs gaps (l.filter fun x => !(x == rd l (i : Int))) = some (KE, KG) ∧ tightA KE KG = (m3, 0)) (hRe : skew_Reason.f evs gaps = some (l, 0)) (m : List S27) (hTi : tightA evs gaps = (m, 5)) :
  Calls Try.prog 13 #[.agg #[.slice A0 evs.length c0, .slice A1 gaps.length c1]] w fun e w' => e = .returned (.bool true) ∧ Below w.heap.size w w' := by
 have hu39 := Try.underlying39
 have hu27 := Try.underlying27
 have HC0 := Aa hc0
 have HC1 := Aa hc1
 have HRe := Aa hRe
 have HTi := Aa hTi
 obtain ⟨n0, hn0⟩ : ∃ n0, w.heap.size = n0 := ⟨_, rfl⟩
 have HT := Aa (show PT evs gaps A0 A1 c0 c1 n0 w (w.alloc (.cells #[.slice A0 evs.length c0, .slice A1 gaps.length c1] 39)) from ⟨below_alloc (Below.refl w.heap.size w) _, by rw [← hn0]; exact blk_new _ _, Kd.C_alloc hr0 _, Kd.C_alloc hr1 _⟩)
 clear hr0 hr1 hc0 hc1 hRe hTi
 have hz : ((l.length : Int) == 0) = false := beq_eq_false_iff_ne.mpr (by omega)
 have hgt : decide ((l.length : Int) > (evs.length : Int) + (gaps.length : Int)) = false := decide_eq_false (by omega)
 have HK := Aa hk
 have HT2 := Aa hT2
 have HALL := Aa hall
 clear hk hT2 hall
 go_enter Try.func13, Try.ntmps13
 have x0 := cell_at HT.out.k0 0 (.slice A0 evs.length c0) rfl
 have x1 := cell_at HT.out.k0 1 (.slice A1 gaps.length c1) rfl
 go_wp2_with fail
 refine (skew_Reason.calls A0 c0 evs A1 c1 gaps l 0 _ HT.out.a0 HC0.out HT.out.a1 HC1.out HRe.out).mono ?_
 rintro e_ w1 ⟨v1, rfl, hV1, hb⟩
 obtain ⟨At, ct, rfl, hct, hCt⟩ := V_read hV1
 have HL := Aa hCt
 have HLc := Aa hct
 replace HT := Aa (HT.out.below hb)
 clear hb hV1 hCt hct x0 x1
 have x0 := cell_at HT.out.k0 0 (.slice A0 evs.length c0) rfl
 have x1 := cell_at HT.out.k0 1 (.slice A1 gaps.length c1) rfl
 go_wp2_with fail
 refine (skew_TightA.calls A0 c0 evs A1 c1 gaps m 5 _ HT.out.a0 HC0.out HT.out.a1 HC1.out HTi.out).mono ?_
 rintro e_ w2 ⟨v2, rfl, hV2, hb⟩
 obtain ⟨Am, cm, rfl, hcm, hCm⟩ := V_read hV2
 replace HT := Aa (HT.out.below hb)
 replace HL := Aa (Kd.C_below HL.out hb)
 clear hb hV2 hCm hcm x0 x1
 have x0 := cell_at HT.out.k0 0 (.slice A0 evs.length c0) rfl
 have x1 := cell_at HT.out.k0 1 (.slice A1 gaps.length c1) rfl
 go_wp2_with fail
 refine (afterwordref19_Hist.calls kh A0 c0 evs A1 c1 gaps true _ HT.out.a0 HC0.out HT.out.a1 HC1.out hh).mono ?_
 rintro e_ w3 ⟨rfl, hb⟩
 replace HT := Aa (HT.out.below hb)
 replace HL := Aa (Kd.C_below HL.out hb)
 clear hb x0 x1
 have x0 := cell_at HT.out.k0 0 (.slice A0 evs.length c0) rfl
 have x1 := cell_at HT.out.k0 1 (.slice A1 gaps.length c1) rfl
 go_wp2_with fail
 refine (afterwordlaw19_small.calls ks A0 c0 evs A1 c1 gaps true _ HT.out.a0 HC0.out HT.out.a1 HC1.out hs).mono ?_
 rintro e_ w4 ⟨rfl, hb⟩
 replace HT := Aa (HT.out.below hb)
 replace HL := Aa (Kd.C_below HL.out hb)
 clear hb x0 x1
 have x0 := cell_at HT.out.k0 0 (.slice A0 evs.length c0) rfl
 have x1 := cell_at HT.out.k0 1 (.slice A1 gaps.length c1) rfl
 go_wp2_with fail
 refine (afterwordlaw19_kept.calls kk A0 c0 evs A1 c1 gaps At ct l KE KG _ HT.out.a0 HC0.out HT.out.a1 HC1.out HL.out HLc.out HK.out).mono ?_
 rintro e_ w5 ⟨u0, u1, rfl, hR0, hR1, hb⟩
 obtain ⟨B0, d0, rfl⟩ := Kd.R_slice hR0
 obtain ⟨B1, d1, rfl⟩ := Kd.R_slice hR1
 have HD0 := Aa (Kd.R_reads' hR0).2.1
 have HB0 := Aa (Kd.R_reads' hR0).2.2
 have HD1 := Aa (Kd.R_reads' hR1).2.1
 have HB1 := Aa (Kd.R_reads' hR1).2.2
 replace HT := Aa (HT.out.below hb)
 replace HL := Aa (Kd.C_below HL.out hb)
 clear hb x0 x1 hR0 hR1
 have x0 := cell_at HT.out.k0 0 (.slice A0 evs.length c0) rfl
 have x1 := cell_at HT.out.k0 1 (.slice A1 gaps.length c1) rfl
 go_wp2_with fail
 refine (skew_TightA.calls B0 d0 KE B1 d1 KG m2 5 _ HB0.out HD0.out HB1.out HD1.out HT2.out).mono ?_
 rintro e_ w6 ⟨v6, rfl, hV6, hb⟩
 obtain ⟨Aq, cq, rfl, hcq, hCq⟩ := V_read hV6
 replace HT := Aa (HT.out.below hb)
 replace HL := Aa (Kd.C_below HL.out hb)
 clear hb hV6 hCq hcq x0 x1 HB0 HB1 HD0 HD1
 have x0 := cell_at HT.out.k0 0 (.slice A0 evs.length c0) rfl
 have x1 := cell_at HT.out.k0 1 (.slice A1 gaps.length c1) rfl
 go_wp2_with fail
 clear x0 x1
 go_loopw [89] (fun v89 W => ∃ i : Nat, i ≤ l.length ∧ v89 = .int .i64 (i : Int) ∧ Aside0 (Below w6.heap.size w6 W)) (fun v _ => l.length - (intOf v).toNat)
 case atStart => exact ⟨0, Nat.zero_le _, rfl, ⟨Below.refl _ _⟩⟩
 case round =>
  obtain ⟨i, hi, rfl, HW⟩ := hrel
  by_cases hlt : i < l.length
  ·have hlt' : (i : Int) < (l.length : Int) := by omega
   have hiz : (0 : Int) ≤ (i : Int) := by omega
   have HTr := Aa (HT.out.below HW.out)
   have HLr := Aa (Kd.C_below HL.out HW.out)
   obtain ⟨ad, ea, q0⟩ := Kd.at_int HLr.out (i : Int) hiz hlt'
   rw [Int.toNat_natCast] at q0
   obtain ⟨k3, KE3, KG3, m3, hk3, hT3⟩ := HALL.out i hlt
   obtain ⟨n, hnn⟩ : ∃ n, rd l (i : Int) = n := ⟨_, rfl⟩
   rw [hnn] at q0 hk3
   have HK3 := Aa hk3
   have HT3 := Aa hT3
   have HWr := Aa HW.out
   clear hk3 hT3 hnn HW
   subst ea
   go_wp2_with fail
   refine (cloneI_calls (some ad) ct l _ (Kd.C_alloc HLr.out _) HLc.out (by omega)).mono ?_
   rintro e_ w7 ⟨v7, rfl, hR7, hb7⟩
   obtain ⟨g, cap, rfl, hbg⟩ : ∃ g cap, v7 = .slice (some ⟨g, 0, none⟩) l.length cap ∧ wr.heap.size + 1 ≤ g := by
    obtain ⟨hll, ⟨hx, hn0⟩ | ⟨g, cap, cur, hv, hbg, _⟩⟩ := Kd.own_of_R (enc := Value.int .i64) (h1 := fun _ => rfl) hR7
    ·exact absurd hn0 hl0
    ·exact ⟨g, cap, hv, by rw [World.size_alloc] at hbg; exact hbg⟩
   have hN7 := Aa (pw_cell_below hb7 (cell_at (blk_new wr (.cells #[.int .i64 n] 3)) 0 (.int .i64 n) rfl))
   have hsz7 : wr.heap.size < w7.heap.size := by have := hb7.size; rw [World.size_alloc] at this; omega
   have HB7 := Aa (below_step (below_alloc (Below.refl wr.heap.size wr) (.cells #[.int .i64 n] 3)) hb7)
   have HR7 := Aa hR7
   clear hb7 hR7
   go_wp2_with fail
   refine (delFn_calls _ _ g cap l wr.heap.size n w7 (fun e => hl0 (by rw [e]; rfl)) HR7.out hN7.out (by omega) hsz7).mono ?_
   rintro e_ w8 ⟨v8, rfl, hR8, hg8⟩
   have HB8 := Aa (Below.grown HB7.out hg8 (by omega) (fun r hr => by injection hr; omega))
   obtain ⟨B8, d8, rfl⟩ := Kd.R_slice hR8
   have HE8 := Aa (Kd.R_reads' hR8).2.1
   have HC8 := Aa (Kd.R_reads' hR8).2.2
   have HT8 := Aa (HTr.out.below HB8.out)
   clear hR8 hg8 HR7 hN7 HB7 q0
   have x0 := cell_at HT8.out.k0 0 (.slice A0 evs.length c0) rfl
   have x1 := cell_at HT8.out.k0 1 (.slice A1 gaps.length c1) rfl
   go_wp2_with fail
   refine (afterwordlaw19_kept.calls k3 A0 c0 evs A1 c1 gaps B8 d8 _ KE3 KG3 _ HT8.out.a0 HC0.out HT8.out.a1 HC1.out HC8.out HE8.out HK3.out).mono ?_
   rintro e_ w9 ⟨u0, u1, rfl, hR0, hR1, hb⟩
   obtain ⟨B0, d0, rfl⟩ := Kd.R_slice hR0
   obtain ⟨B1, d1, rfl⟩ := Kd.R_slice hR1
   have HD0 := Aa (Kd.R_reads' hR0).2.1
   have HB0 := Aa (Kd.R_reads' hR0).2.2
   have HD1 := Aa (Kd.R_reads' hR1).2.1
   have HB1 := Aa (Kd.R_reads' hR1).2.2
   have HB9 := Aa (below_step HB8.out hb)
   clear hb hR0 hR1 x0 x1
   go_wp2_with fail
   refine (skew_TightA.calls B0 d0 KE3 B1 d1 KG3 m3 0 _ HB0.out HD0.out HB1.out HD1.out HT3.out).mono ?_
   rintro e_ w10 ⟨v10, rfl, hV10, hb⟩
   obtain ⟨Aq, cq, rfl, hcq, hCq⟩ := V_read hV10
   have HB10 := Aa (below_step HB9.out hb)
   clear hb hV10 hCq hcq
   go_wp2_with fail
   go_roundw
   case rel => exact ⟨i + 1, hlt, by simp, ⟨below_step HWr.out HB10.out⟩⟩
   case measure => simp [intOf]; omega
  ·obtain rfl : i = l.length := by omega
   replace HT := Aa (HT.out.below HW.out)
   clear HW
   go_wp2_with fail
   refine (afterwordlaw19_known.calls true _ rfl).mono ?_
   rintro e_ wz ⟨rfl, hb⟩
   replace HT := Aa (HT.out.below hb)
   clear hb
   go_wp2_with fail
   go_ret
   exact ⟨rfl, HT.out.bel⟩
theorem skewProof_calls (A0 : Option Addr) (c0 : Nat) (evs : List S27) (A1 : Option Addr) (c1 : Nat) (gaps : List S86) (w : World) (hr0 : Kd.C k27 w A0 evs.length evs) (hc0 : evs.length ≤ c0) (hr1 : Kd.C k86 w A1 gaps.length gaps) (hc1 : gaps.length ≤ c1) :
  Calls Try.prog 13 #[.agg #[.slice A0 evs.length c0, .slice A1 gaps.length c1]] w fun e w' => e = .returned (.bool true) ∧ Below w.heap.size w w' := by
 by_cases c : histB evs gaps = true
 ·have h := (histIs evs gaps).mp c
  have hn := h.n
  have hw := h.w
  obtain ⟨kh, hh⟩ := Ev.rounds (ev_Hist evs gaps)
  rw [c] at hh
  by_cases d : (solveR evs gaps).2 = true
  ·exact proof_none A0 c0 evs A1 c1 gaps w hr0 hc0 hr1 hc1 kh hh (by rw [reason_skew]; unfold reasonR; rw [if_pos c, if_pos d]) (solveR evs gaps).1 (by unfold tightA; rw [if_pos c, if_pos d])
  ·obtain ⟨hin, hno, hyes, hne, hlen⟩ := reason_is h d
   have hR : skew_Reason.f evs gaps = some (reasonP (saidL evs gaps), 0) := by rw [reason_skew]; unfold reasonR; rw [if_pos c, if_neg d]
   have hT : tightA evs gaps = ([], 5) := by unfold tightA; rw [if_pos c, if_neg d]
   obtain ⟨l, hl⟩ : ∃ l, reasonP (saidL evs gaps) = l := ⟨_, rfl⟩
   rw [hl] at hin hno hyes hne hlen hR
   have hl0 : l.length ≠ 0 := fun e => hne (List.length_eq_zero_iff.mp e)
   obtain ⟨ks, hs⟩ := Ev.rounds (ev_Small h)
   cases hsm : smallB evs gaps with
   | false =>
    rw [hsm] at hs
    exact proof_big A0 c0 evs A1 c1 gaps w hr0 hc0 hr1 hc1 kh hh l hl0 hlen (by omega) (by omega) ks hs hR [] hT
   | true =>
    rw [hsm] at hs
    obtain ⟨kk, hk⟩ := Ev.rounds (ev_Kept h l (by omega))
    refine proof_all A0 c0 evs A1 c1 gaps w hr0 hc0 hr1 hc1 kh hh l hl0 hlen (by omega) (by omega) ks hs _ _ kk hk [] (kept_no h l hin hno) (fun i hi => ?_) hR [] hT
    have er : rd l (i : Int) = l[i] := by simp [rd, List.getD_eq_getElem?_getD, hi]
    have hmem : rd l (i : Int) ∈ l := by rw [er]; exact List.getElem_mem hi
    obtain ⟨n, hnn⟩ : ∃ n, rd l (i : Int) = n := ⟨_, rfl⟩
    rw [hnn] at hmem ⊢
    have ef : (l.filter fun x => !(x == n)) = l.filter fun v => decide (v ≠ n) := by
     refine List.filter_congr fun x _ => ?_
     by_cases e : x = n <;> simp [e]
    rw [ef]
    have hfl := List.length_filter_le (fun v => decide (v ≠ n)) l
    obtain ⟨k, hk⟩ := Ev.rounds (ev_Kept h (l.filter fun v => decide (v ≠ n)) (by omega))
    obtain ⟨m, hm⟩ := kept_yes h hsm (l.filter fun v => decide (v ≠ n)) (fun v hv => hin v (List.mem_filter.mp hv).1) (hyes n hmem)
    exact ⟨k, _, _, m, hk, hm⟩
 ·refine proof_arg A0 c0 evs A1 c1 gaps w hr0 hc0 hr1 hc1 (by rw [reason_skew]; unfold reasonR; rw [if_neg c]) [] (by unfold tightA; rw [if_neg c])
end Go.Proofs.Ytbffhblebigcfaa.Sk
