/- The walk of SkewTights. -/
import Derived.BigQuiet
import Derived.Deep.QuietTactic
import Derived.Deep.RegionHeld3
import Derived.Test.YtbffhblebigcfaaCTiGTightA
import Derived.Test.YtbffhblebigcfaaCTiLFits
import Derived.Test.YtbffhblebigcfaaCTiLSameL
import Derived.Test.YtbffhblebigcfaaCTiGNilApp
import Derived.Test.YtbffhblebigcfaaCTiGKnown
namespace Go.Proofs.Ytbffhblebigcfaa.Sk
open Go.RowKit Go.Proofs.YtbffhblebigcfaaW.PrintWords Go.Proofs.YtbffhblebigcfaaW.PrintLast Go.Proofs.YtbffhblebigcfaaW.PrintMore
attribute [local go_sem] max2_int min2_int max_two min_two
set_option linter.unusedVariables false
set_option linter.unusedSimpArgs false
theorem eqA86 (d : Nat) (w : World) (x0 y0 x1 y1 x2 y2 x3 y3 : Int) :
  (Op.equalIn (d + 2) 86 (.agg #[.int .i64 x0, .int .i64 x1, .int .i64 x2, .int .i64 x3]) (.agg #[.int .i64 y0, .int .i64 y1, .int .i64 y2, .int .i64 y3])).run Try.prog w = .ok (x0 == y0 && (x1 == y1 && (x2 == y2 && (x3 == y3)))) w := by
 refine eqA_of Try.underlying86 (by kernel_rfl) ?_
 refine eqf_cons (by rfl) (by go_simp; rfl) (by go_simp; rfl) (by go_simp) ?_
 refine eqf_cons (by rfl) (by go_simp; rfl) (by go_simp; rfl) (by go_simp) ?_
 refine eqf_cons (by rfl) (by go_simp; rfl) (by go_simp; rfl) (by go_simp) ?_
 exact eqf_last (by rfl) (by go_simp; rfl) (by go_simp; rfl) (by go_simp)
attribute [local go_sem high] eqA86
structure TS (evs : List S27) (gaps : List S86) (ts : List Int) (A0 A1 A2 B0 B1 B2 : Option Addr) (c0 c1 c2 d0 d1 d2 n0 n5 : Nat) (w W : World) : Prop where
 bel : Below w.heap.size w W
 k0 : W.heap[n0]? = some (.cells #[.slice A0 evs.length c0, .slice A1 gaps.length c1] 39 (0, 0))
 k5 : W.heap[n5]? = some (.cells #[.slice B0 evs.length d0, .slice B1 gaps.length d1] 39 (0, 0))
 a0 : Kd.C k27 W A0 evs.length evs
 a1 : Kd.C k86 W A1 gaps.length gaps
 a2 : Kd.C (Kd.int .i64) W A2 ts.length ts
 b0 : Kd.C k27 W B0 evs.length evs
 b1 : Kd.C k86 W B1 gaps.length gaps
 b2 : Kd.C (Kd.int .i64) W B2 ts.length ts
theorem TS.below {evs : List S27} {gaps : List S86} {ts : List Int} {A0 A1 A2 B0 B1 B2 : Option Addr} {c0 c1 c2 d0 d1 d2 n0 n5 : Nat} {w W W' : World} (h : TS evs gaps ts A0 A1 A2 B0 B1 B2 c0 c1 c2 d0 d1 d2 n0 n5 w W) (hb : Below W.heap.size W W') :
  TS evs gaps ts A0 A1 A2 B0 B1 B2 c0 c1 c2 d0 d1 d2 n0 n5 w W' :=
 ⟨below_step h.bel hb, blk_below h.k0 hb, blk_below h.k5 hb, Kd.C_below h.a0 hb, Kd.C_below h.a1 hb, Kd.C_below h.a2 hb, Kd.C_below h.b0 hb, Kd.C_below h.b1 hb, Kd.C_below h.b2 hb⟩
set_option maxHeartbeats 8000000 in
set_option maxRecDepth 100000 in
theorem tights_all (A0 : Option Addr) (c0 : Nat) (evs : List S27) (A1 : Option Addr) (c1 : Nat) (gaps : List S86) (A2 : Option Addr) (c2 : Nat) (ts : List Int) (w : World) (hr0 : Kd.C k27 w A0 evs.length evs) (hc0 : evs.length ≤ c0) (hr1 : Kd.C k86 w A1 gaps.length gaps) (hc1 : gaps.length ≤ c1) (hr2 : Kd.C (Kd.int .i64) w A2 ts.length ts) (hc2 : ts.length ≤ c2)
  (hs0 : evs.length * 16 ≤ 140737488355328) (hs1 : gaps.length * 32 ≤ 140737488355328) (hs2 : ts.length * 8 ≤ 140737488355328) :
  Calls Try.prog 10 #[.agg #[.slice A0 evs.length c0, .slice A1 gaps.length c1], .slice A2 ts.length c2] w fun e w' => e = .returned (.bool true) ∧ Below w.heap.size w w' := by
 have hu39 := Try.underlying39
 have hu86 := Try.underlying86
 obtain ⟨l, e, hA⟩ : ∃ l e, tightA evs gaps = (l, e) := ⟨_, _, rfl⟩
 obtain ⟨kt, ht⟩ := Ev.rounds (ev_Tight evs gaps)
 rw [hA] at ht
 obtain ⟨b, e2, hF⟩ : ∃ b e2, fitsR evs gaps ts = (b, e2) := ⟨_, _, rfl⟩
 obtain ⟨kf, hf⟩ := Ev.rounds (ev_Fits evs gaps ts)
 obtain ⟨kg, hg⟩ := Ev.rounds (ev_RefFits evs gaps ts)
 rw [hF] at hf hg
 clear hF
 obtain ⟨k1, h1⟩ := Ev.rounds (ev_SamePL evs (by omega))
 obtain ⟨k2, h2⟩ := Ev.rounds (ev_SameIL ts (by omega))
 have hll : l.length ≤ 10 := by
  have e0 : l = (tightA evs gaps).1 := by rw [hA]
  rw [e0]
  unfold tightA
  by_cases c : histB evs gaps = true
  ·have h := (histIs evs gaps).mp c
   rw [if_pos c]
   by_cases d : (solveR evs gaps).2 = true
   ·rw [if_pos d]
    have := ((solve_spec evs gaps h.gap).2 (solveR evs gaps).1 (by rw [← d])).len
    have := h.n
    show (solveR evs gaps).1.length ≤ 10
    omega
   ·rw [if_neg d]; simp
  ·rw [if_neg c]; simp
 obtain ⟨k3, h3⟩ := Ev.rounds (ev_SamePL l (by omega))
 have HT1 := Aa ht
 have HF1 := Aa hf
 have HF2 := Aa hg
 have HS1 := Aa h1
 have HS2 := Aa h2
 have HS3 := Aa h3
 have HAA := Aa hA
 clear ht hf hg h1 h2 h3 hA hll
 have HR0 := Aa hr0
 have HC0 := Aa hc0
 have HR1 := Aa hr1
 have HC1 := Aa hc1
 have HR2 := Aa hr2
 have HC2 := Aa hc2
 have HB := Aa (Below.refl w.heap.size w)
 have HK := Aa (blk_new w (.cells #[.slice A0 evs.length c0, .slice A1 gaps.length c1] 39))
 replace HB := Aa (below_alloc HB.out (.cells #[.slice A0 evs.length c0, .slice A1 gaps.length c1] 39))
 replace HR0 := Aa (Kd.C_alloc HR0.out (.cells #[.slice A0 evs.length c0, .slice A1 gaps.length c1] 39))
 replace HR1 := Aa (Kd.C_alloc HR1.out (.cells #[.slice A0 evs.length c0, .slice A1 gaps.length c1] 39))
 replace HR2 := Aa (Kd.C_alloc HR2.out (.cells #[.slice A0 evs.length c0, .slice A1 gaps.length c1] 39))
 obtain ⟨n0, hn0⟩ : ∃ n0, w.heap.size = n0 := ⟨_, rfl⟩
 rw [hn0] at HK
 clear hr0 hc0 hr1 hc1 hr2 hc2
 go_enter Try.func10, Try.ntmps10
 go_upto_region 1 with (fail)
 clear hn0
 generalize w.alloc (.cells #[.slice A0 evs.length c0, .slice A1 gaps.length c1] 39) = w1 at HB HK HR0 HR1 HR2 ⊢
 go_cut [5] (fun v5 W => ∃ (n5 : Nat) (B0 B1 : Option Addr) (d0 d1 : Nat), v5 = .pointer (some ⟨n5, 0, none⟩) ∧ Aside0 (Copied evs gaps w1 W n5 B0 B1 d0 d1))
 case first =>
  have z0 := cell_at HK.out 0 (.slice A0 evs.length c0) rfl
  have z1 := cell_at HK.out 1 (.slice A1 gaps.length c1) rfl
  have HZ0 := Aa z0
  have HZ1 := Aa z1
  have HBd := Aa (Dn (Below.refl w1.heap.size w1))
  have S0 : ∀ {W : World}, Below w1.heap.size w1 W → Below w1.heap.size w1 W ∧ W.cell? ⟨n0, 0, none⟩ = some (.slice A0 evs.length c0) ∧ W.cell? ⟨n0, 1, none⟩ = some (.slice A1 gaps.length c1) := fun h => ⟨h, pw_cell_below h HZ0.out, pw_cell_below h HZ1.out⟩
  go_region_held3 (fun W' => Below w1.heap.size w1 W' ∧ W'.cell? ⟨n0, 0, none⟩ = some (.slice A0 evs.length c0) ∧ W'.cell? ⟨n0, 1, none⟩ = some (.slice A1 gaps.length c1))
   (first | exact S0 HBd.out | (go_split_ands; first | exact S0 (below_step (by assumption) hb) | exact S0 (below_alloc (by assumption) _) | exact S0 (below_alloc (below_step (by assumption) hb) _) | (refine S0 (below_set (below_set (below_step (by assumption) hb) ?_) ?_) <;> (first | exact Nat.le_refl _ | assumption | (trace_state; fail))) | (trace_state; fail)))
   (first | (go_split_ands; refine nil_append_step k27 (by rfl) (.const (.slice none 0 0)) (.tmp 17) 36 27 (.agg #[.int .i64 0, .int .i64 0]) 16 rfl rfl Try.underlying36 info27 rfl (by decide) (by decide) evs A0 c0 rfl (Kd.C_below HR0.out (by assumption)) (km27 _ _) hs0 ?_; intro v1 w5 ho1 hb; obtain ⟨B0, d0, e1⟩ := Kd.R_slice ho1; subst e1; have hA5 : Below w1.heap.size w1 w5 := below_step (by assumption) hb; have hz1 := hA5.size; (try (have hk : w5.heap[w1.heap.size]? = some (.cells #[.slice none 0 0, .slice none 0 0] 39 (0, 0)) := blk_below (blk_new w1.drew (.cells #[.slice none 0 0, .slice none 0 0] 39)) hb; have q0 := cell_at hk 0 _ rfl; have q1 := cell_at hk 1 _ rfl; have f0 := blk_frozen hk 0; have f1 := blk_frozen hk 1))) | (go_split_ands; refine nil_append_step k86 (by rfl) (.const (.slice none 0 0)) (.tmp 20) 37 86 (.agg #[.int .i64 0, .int .i64 0, .int .i64 0, .int .i64 0]) 32 rfl rfl Try.underlying37 info86 rfl (by decide) (by decide) gaps A1 c1 rfl (Kd.C_below HR1.out (by assumption)) (km86 _ _) hs1 ?_; intro v2 w6 ho2 hb; obtain ⟨B1, d1, e2⟩ := Kd.R_slice ho2; subst e2; have hA6 : Below w1.heap.size w1 w6 := below_step (by assumption) hb; have hz2 := hA6.size; (try (have hk := blk_below (blk_new _ (.cells #[.slice none 0 0, .slice none 0 0] 39)) hb; have q0 := cell_at hk 0 _ rfl; have q1 := cell_at hk 1 _ rfl; have f0 := blk_frozen hk 0; have f1 := blk_frozen hk 1)); (try (have hkk := blk_below hk hb; have q0 := cell_at hkk 0 _ rfl; have q1 := cell_at hkk 1 _ rfl; have f0 := blk_frozen hkk 0; have f1 := blk_frozen hkk 1))))
  ·try go_wp2
   go_meet
   case rel => exact ⟨_, B0, B1, d0, d1, rfl, ⟨copied_last hA5 hb ho1 ho2⟩⟩
  ·try go_wp2
   go_meet
   case rel => exact ⟨_, B0, B1, d0, d1, rfl, ⟨copied_set hz1 hk hA6 (Kd.R_below ho1 (below_step (below_alloc (Below.refl w5.heap.size w5) _) hb)) ho2⟩⟩
  ·try go_wp2
   go_meet
   case rel => exact ⟨_, B0, B1, d0, d1, rfl, ⟨copied_set (Nat.le_refl _) hkk hA6 (Kd.R_below ho1 hb) ho2⟩⟩
 case rest =>
  obtain ⟨n5, B0, B1, d0, d1, rfl, HCp⟩ := hcut
  have hbc := HCp.out.bel
  have HBc := Aa (below_step HB.out hbc)
  have HRc := Aa (Kd.C_below HR2.out hbc)
  have HK5 := Aa (blk_below HK.out hbc)
  have HRa := Aa (Kd.C_below HR0.out hbc)
  have HRb := Aa (Kd.C_below HR1.out hbc)
  clear hbc HB HR2 HK HR0 HR1
  go_wp2_with (at_builtin; (refine nil_append (Kd.int .i64) rfl (.const (.slice none 0 0)) (.tmp 23) 40 3 (.int .i64 0) 8 rfl rfl Try.underlying40 info3 rfl (by decide) (by decide) ts A2 c2 rfl HRc.out (kmI _ _) hs2 ?_); intro v6 w6 ho hb; obtain ⟨B2, d2, e6⟩ := Kd.R_slice ho; subst e6; have HT := Aa (show TS evs gaps ts A0 A1 A2 B0 B1 B2 c0 c1 c2 d0 d1 d2 n0 n5 w w6 from ⟨below_step HBc.out hb, blk_below HK5.out hb, blk_below HCp.out.blk hb, Kd.C_below HRa.out hb, Kd.C_below HRb.out hb, Kd.C_below HRc.out hb, Kd.C_below HCp.out.r0 hb, Kd.C_below HCp.out.r1 hb, (Kd.R_reads' ho).2.2⟩); have HD2 := Aa (Kd.R_reads' ho).2.1; have HD0 := Aa HCp.out.l0; have HD1 := Aa HCp.out.l1; clear ho hb HBc HK5 HRa HRb HRc HCp; have x0 := cell_at HT.out.k0 0 (.slice A0 evs.length c0) rfl; have x1 := cell_at HT.out.k0 1 (.slice A1 gaps.length c1) rfl; have y0 := cell_at HT.out.k5 0 (.slice B0 evs.length d0) rfl; have y1 := cell_at HT.out.k5 1 (.slice B1 gaps.length d1) rfl)
  refine (skew_TightA.calls B0 d0 evs B1 d1 gaps l e _ HT.out.b0 HD0.out HT.out.b1 HD1.out HAA.out).mono ?_
  rintro e_ w7 ⟨v7, rfl, hV7, hb⟩
  replace HT := Aa (HT.out.below hb)
  obtain ⟨At, ct, rfl, hct, hCt⟩ := V_read hV7
  have HC7 := Aa hCt
  have HL7 := Aa hct
  clear hV7 hCt hct
  clear hb x0 x1 y0 y1
  have x0 := cell_at HT.out.k0 0 (.slice A0 evs.length c0) rfl
  have x1 := cell_at HT.out.k0 1 (.slice A1 gaps.length c1) rfl
  have y0 := cell_at HT.out.k5 0 (.slice B0 evs.length d0) rfl
  have y1 := cell_at HT.out.k5 1 (.slice B1 gaps.length d1) rfl
  go_wp2_with fail
  refine (afterwordref19_Tight.calls kt A0 c0 evs A1 c1 gaps l e _ HT.out.a0 HC0.out HT.out.a1 HC1.out HT1.out).mono ?_
  rintro e_ w8 ⟨v8, rfl, hV8, hb⟩
  replace HT := Aa (HT.out.below hb)
  obtain ⟨Am, cm, rfl, hcm, hCm⟩ := Kd.R_reads hV8
  have HC8 := Aa hCm
  have HL8 := Aa hcm
  replace HC7 := Aa (Kd.C_below HC7.out hb)
  clear hV8 hCm hcm
  clear hb x0 x1 y0 y1
  have x0 := cell_at HT.out.k0 0 (.slice A0 evs.length c0) rfl
  have x1 := cell_at HT.out.k0 1 (.slice A1 gaps.length c1) rfl
  have y0 := cell_at HT.out.k5 0 (.slice B0 evs.length d0) rfl
  have y1 := cell_at HT.out.k5 1 (.slice B1 gaps.length d1) rfl
  go_wp2_with fail
  refine (skew_Fits.calls kf B0 d0 evs B1 d1 gaps B2 d2 ts b e2 _ HT.out.b0 HD0.out HT.out.b1 HD1.out HT.out.b2 HD2.out HF1.out).mono ?_
  rintro e_ w9 ⟨rfl, hb⟩
  replace HT := Aa (HT.out.below hb)
  replace HC7 := Aa (Kd.C_below HC7.out hb)
  replace HC8 := Aa (Kd.C_below HC8.out hb)
  clear hb x0 x1 y0 y1
  have x0 := cell_at HT.out.k0 0 (.slice A0 evs.length c0) rfl
  have x1 := cell_at HT.out.k0 1 (.slice A1 gaps.length c1) rfl
  have y0 := cell_at HT.out.k5 0 (.slice B0 evs.length d0) rfl
  have y1 := cell_at HT.out.k5 1 (.slice B1 gaps.length d1) rfl
  go_wp2_with fail
  refine (afterwordref19_Fits.calls kg A0 c0 evs A1 c1 gaps A2 c2 ts b e2 _ HT.out.a0 HC0.out HT.out.a1 HC1.out HT.out.a2 HC2.out HF2.out).mono ?_
  rintro e_ w10 ⟨rfl, hb⟩
  replace HT := Aa (HT.out.below hb)
  replace HC7 := Aa (Kd.C_below HC7.out hb)
  replace HC8 := Aa (Kd.C_below HC8.out hb)
  clear hb x0 x1 y0 y1
  have x0 := cell_at HT.out.k0 0 (.slice A0 evs.length c0) rfl
  have x1 := cell_at HT.out.k0 1 (.slice A1 gaps.length c1) rfl
  have y0 := cell_at HT.out.k5 0 (.slice B0 evs.length d0) rfl
  have y1 := cell_at HT.out.k5 1 (.slice B1 gaps.length d1) rfl
  go_wp2_with fail
  refine (afterwordref19_SameSpans.calls k1 B0 d0 evs A0 c0 evs true _ HT.out.b0 HD0.out HT.out.a0 HC0.out HS1.out).mono ?_
  rintro e_ w11 ⟨rfl, hd⟩
  have hb := hd.below
  clear hd
  replace HT := Aa (HT.out.below hb)
  replace HC7 := Aa (Kd.C_below HC7.out hb)
  replace HC8 := Aa (Kd.C_below HC8.out hb)
  clear hb x0 x1 y0 y1
  have x0 := cell_at HT.out.k0 0 (.slice A0 evs.length c0) rfl
  have x1 := cell_at HT.out.k0 1 (.slice A1 gaps.length c1) rfl
  have y0 := cell_at HT.out.k5 0 (.slice B0 evs.length d0) rfl
  have y1 := cell_at HT.out.k5 1 (.slice B1 gaps.length d1) rfl
  go_wp2_with fail
  refine (afterwordref19_Same.calls k2 B2 d2 ts A2 c2 ts true _ HT.out.b2 HD2.out HT.out.a2 HC2.out HS2.out).mono ?_
  rintro e_ w12 ⟨rfl, hd⟩
  have hb := hd.below
  clear hd
  replace HT := Aa (HT.out.below hb)
  replace HC7 := Aa (Kd.C_below HC7.out hb)
  replace HC8 := Aa (Kd.C_below HC8.out hb)
  clear hb x0 x1 y0 y1
  have x0 := cell_at HT.out.k0 0 (.slice A0 evs.length c0) rfl
  have x1 := cell_at HT.out.k0 1 (.slice A1 gaps.length c1) rfl
  have y0 := cell_at HT.out.k5 0 (.slice B0 evs.length d0) rfl
  have y1 := cell_at HT.out.k5 1 (.slice B1 gaps.length d1) rfl
  go_wp2_with fail
  clear x0 x1 y0 y1
  go_loopw [15] (fun v15 W => ∃ j : Nat, j ≤ gaps.length ∧ v15 = .int .i64 (j : Int) ∧ Aside0 (TS evs gaps ts A0 A1 A2 B0 B1 B2 c0 c1 c2 d0 d1 d2 n0 n5 w W) ∧ Aside0 (Below w12.heap.size w12 W)) (fun v _ => gaps.length - (intOf v).toNat)
  case atStart => exact ⟨0, Nat.zero_le _, rfl, HT, ⟨Below.refl _ _⟩⟩
  case round =>
   clear HT
   obtain ⟨j, hj, rfl, HT, HL⟩ := hrel
   have x0 := cell_at HT.out.k0 0 (.slice A0 evs.length c0) rfl
   have x1 := cell_at HT.out.k0 1 (.slice A1 gaps.length c1) rfl
   have y0 := cell_at HT.out.k5 0 (.slice B0 evs.length d0) rfl
   have y1 := cell_at HT.out.k5 1 (.slice B1 gaps.length d1) rfl
   have hgl : gaps.length ≤ 4398046511104 := by omega
   by_cases hlt : j < gaps.length
   ·have hlt' : (j : Int) < (gaps.length : Int) := by omega
    have hjz : (0 : Int) ≤ (j : Int) := by omega
    obtain ⟨ad, ea, p0, p1, p2, p3⟩ := at_T86 HT.out.a1 (j : Int) hjz hlt'
    obtain ⟨bd, eb, q0, q1, q2, q3⟩ := at_T86 HT.out.b1 (j : Int) hjz hlt'
    rw [Int.toNat_natCast] at p0 p1 p2 p3 q0 q1 q2 q3
    subst ea eb
    go_wp2_with fail
    have HBd := Aa (Dn (Below.refl wr.heap.size wr))
    go_region_held3 (fun W' => W'.cell? ⟨n5, 1, none⟩ = some (.slice (some bd) gaps.length d1) ∧ W'.cell? ⟨n0, 1, none⟩ = some (.slice (some ad) gaps.length c1) ∧ W'.cell? (bd.add (j * 4)) = some (.int .i64 (rd_T86 gaps (j : Int)).f0) ∧ W'.cell? ⟨(bd.add (j * 4)).block, (bd.add (j * 4)).off + 1, none⟩ = some (.int .i64 (rd_T86 gaps (j : Int)).f1) ∧ W'.cell? ⟨(bd.add (j * 4)).block, (bd.add (j * 4)).off + 2, none⟩ = some (.int .i64 (rd_T86 gaps (j : Int)).f2) ∧ W'.cell? ⟨(bd.add (j * 4)).block, (bd.add (j * 4)).off + 3, none⟩ = some (.int .i64 (rd_T86 gaps (j : Int)).f3) ∧ W'.cell? (ad.add (j * 4)) = some (.int .i64 (rd_T86 gaps (j : Int)).f0) ∧ W'.cell? ⟨(ad.add (j * 4)).block, (ad.add (j * 4)).off + 1, none⟩ = some (.int .i64 (rd_T86 gaps (j : Int)).f1) ∧ W'.cell? ⟨(ad.add (j * 4)).block, (ad.add (j * 4)).off + 2, none⟩ = some (.int .i64 (rd_T86 gaps (j : Int)).f2) ∧ W'.cell? ⟨(ad.add (j * 4)).block, (ad.add (j * 4)).off + 3, none⟩ = some (.int .i64 (rd_T86 gaps (j : Int)).f3))
     (first | (with_reducible (refine ⟨?_, ?_, ?_, ?_, ?_, ?_, ?_, ?_, ?_, ?_⟩)) <;> (apply cell_drew; with_reducible assumption))
     (fail)
    have hb := HBd.out
    clear x0 x1 y0 y1 p0 p1 p2 p3 q0 q1 q2 q3 HBd
    replace HT := Aa (HT.out.below hb)
    replace HL := Aa (below_step HL.out hb)
    clear hb
    go_wp2_with fail
    go_roundw
    case rel => exact ⟨j + 1, by omega, by simp, HT, HL⟩
    case measure => simp [intOf]; omega
   ·obtain rfl : j = gaps.length := by omega
    go_wp2_with fail
    refine (afterwordref19_SameSpans.calls k3 At ct l Am cm l true _ (Kd.C_below HC7.out HL.out) HL7.out (Kd.C_below HC8.out HL.out) HL8.out HS3.out).mono ?_
    rintro e_ w13 ⟨rfl, hd⟩
    replace HT := Aa (HT.out.below hd.below)
    clear hd x0 x1 y0 y1 HC7 HC8
    go_wp2_with fail
    refine (afterwordlaw19_known.calls true _ rfl).mono ?_
    rintro e_ wz ⟨rfl, hb⟩
    replace HT := Aa (HT.out.below hb)
    clear hb
    go_wp2_with fail
    go_ret
    exact ⟨rfl, HT.out.bel⟩
end Go.Proofs.Ytbffhblebigcfaa.Sk
