/- The walk of SkewSure. -/
import Derived.BigQuiet
import Derived.Deep.QuietTactic
import Derived.Deep.RegionHeld3
import Derived.Deep.DeepCutAuto
import Derived.Deep.DeepMust
import Derived.Test.YtobcecgcegoooaaCSrV4
import Derived.Test.YtobcecgcegoooaaCSrV7
import Derived.Test.YtobcecgcegoooaaCSrV5
namespace Go.Proofs.Ytobcecgcegoooaa.Sk
open Go.RowKit Go.Proofs.YtobcecgcegoooaaW.PrintWords Go.Proofs.YtobcecgcegoooaaW.PrintLast Go.Proofs.YtobcecgcegoooaaW.PrintMore
attribute [local go_sem] max2_int min2_int max_two min_two
set_option linter.unusedVariables false
set_option linter.unusedSimpArgs false
def sure_T18 : Bool × List (List Nat × List Nat) := (true, [([], []), ([0], [0]), ([], []), ([2], [2]), ([3], [3]), ([], []), ([], []), ([5, 6], [5, 6]), ([7], [7]), ([4, 8, 4], [4, 8]), ([1, 9], [1, 9]), ([], []), ([11, 10, 9, 0, 1, 2, 3, 4, 5, 6, 7, 8, 9, 10, 11], [10, 11])])
def sure_B18 : List Nat := [0, 1, 0, 4, 12, 0, 0, 96, 224, 508, 1023, 0, 4095]
theorem sure_tab18 : rtab .any (opsOf Try.f13 18) = sure_T18 := by kernel_rfl
theorem sure_bits18 : waitsOk sure_T18.2 sure_B18 = true := by kernel_rfl
set_option maxHeartbeats 8000000 in
set_option maxRecDepth 100000 in
theorem sure_all (A0 : Option Addr) (c0 : Nat) (evs : List S27) (A1 : Option Addr) (c1 : Nat) (gaps : List S86) (a b c : Int) (A4 : Option Addr) (c4 : Nat) (bys : List Int) (w : World) (hr0 : Kd.C k27 w A0 evs.length evs) (hc0 : evs.length ≤ c0) (hr1 : Kd.C k86 w A1 gaps.length gaps) (hc1 : gaps.length ≤ c1) (hr4 : Kd.C (Kd.int .u8) w A4 bys.length bys) (hc4 : bys.length ≤ c4)
  (hh : histB evs gaps = true) (hn : evs.length ≠ 0) (ha : 0 ≤ a ∧ a ≤ 255) (hb : 0 ≤ b ∧ b ≤ 255) (hcc : 0 ≤ c ∧ c ≤ 255) (hby : ∀ x ∈ bys, 0 ≤ x ∧ x ≤ 255) (hs : (solveR evs gaps).2 = true) :
  Calls Try.prog 13 #[.agg #[.slice A0 evs.length c0, .slice A1 gaps.length c1], .int .u8 a, .int .u8 b, .int .u8 c, .slice A4 bys.length c4] w fun e w' => e = .returned (.bool true) ∧ Below w.heap.size w w' := by
 obtain ⟨kh, hkh⟩ := Ev.rounds (ev_Hist evs gaps); rw [hh] at hkh; have hI := (histIs evs gaps).mp hh
 have hS0 : US evs gaps bys A0 A1 A4 c0 c1 c4 w.heap.size w (w.alloc (.cells #[.slice A0 evs.length c0, .slice A1 gaps.length c1] 39)) := ⟨Ba (Below.refl _ _) _, blk_new w _, Kd.C_alloc hr0 _, Kd.C_alloc hr1 _, Kd.C_alloc hr4 _⟩
 have HS := Aa hS0; have HKH := Aa hkh; have HIs := Aa hI; have HN := Aa (show 1 ≤ evs.length ∧ evs.length ≤ 10 by have := hI.n; omega); have Hc0 := Aa hc0; have Hc1 := Aa hc1; have Hc4 := Aa hc4; have HA := Aa ha; have HB := Aa hb; have HC := Aa hcc; have HBy := Aa hby; have HSv := Aa hs; have HHb := Aa hh; have HR0_0 := Aa hr0; have HR0_1 := Aa hr1; have HC0_1 := Aa hc1; have HR0_4 := Aa hr4; have x0 := cell_at hS0.k0 0 (.slice A0 evs.length c0) rfl; have x1 := cell_at hS0.k0 1 (.slice A1 gaps.length c1) rfl; clear hr0 hc0 hr1 hc1 hr4 hc4 hh ha hb hcc hby hs hkh hI hS0
 go_enter Try.func13, Try.ntmps13
 go_wp2_with fail
 generalize w.alloc (.cells #[.slice A0 evs.length c0, .slice A1 gaps.length c1] 39) = w0 at HS x0 x1 ⊢; refine (rf_Hist.calls kh A0 c0 evs A1 c1 gaps true w0 HS.out.a0 Hc0.out HS.out.a1 Hc1.out HKH.out).mono ?_; rintro e w1 ⟨rfl, hb⟩; replace HS := Aa (HS.out.below hb); have y0 := cell_at HS.out.k0 0 (.slice A0 evs.length c0) rfl; have y1 := cell_at HS.out.k0 1 (.slice A1 gaps.length c1) rfl
 have hne : ((evs.length : Int) == 0) = false := by rw [beq_eq_false_iff_ne]; omega
 have hne0 : (0 : Int) < evs.length := by have := HN.out; omega
 clear hb x0 x1 hn w0
 go_wp2_with fail
 have ewa : IntKind.i64.wrap a = a := IntWalk.i64_in _ (by have := HA.out; omega); have ewb : IntKind.i64.wrap b = b := IntWalk.i64_in _ (by have := HB.out; omega); have ewc : IntKind.i64.wrap c = c := IntWalk.i64_in _ (by have := HC.out; omega)
 obtain ⟨x, hx⟩ : ∃ x, (IntKind.i64.wrap a).tmod (evs.length : Int) = x := ⟨_, rfl⟩
 obtain ⟨y, hy⟩ : ∃ y, (IntKind.i64.wrap b).tmod (evs.length : Int) = y := ⟨_, rfl⟩
 obtain ⟨z, hz⟩ : ∃ z, (IntKind.i64.wrap c).tmod (evs.length : Int) = z := ⟨_, rfl⟩
 have hx01 : 0 ≤ x ∧ x < evs.length := by rw [← hx, ewa, Int.tmod_eq_emod_of_nonneg HA.out.1]; exact ⟨Int.emod_nonneg _ (by omega), Int.emod_lt_of_pos _ (by omega)⟩
 have hy01 : 0 ≤ y ∧ y < evs.length := by rw [← hy, ewb, Int.tmod_eq_emod_of_nonneg HB.out.1]; exact ⟨Int.emod_nonneg _ (by omega), Int.emod_lt_of_pos _ (by omega)⟩
 have hz01 : 0 ≤ z ∧ z < evs.length := by rw [← hz, ewc, Int.tmod_eq_emod_of_nonneg HC.out.1]; exact ⟨Int.emod_nonneg _ (by omega), Int.emod_lt_of_pos _ (by omega)⟩
 have HX := Aa hx01; have HY := Aa hy01; have HZ := Aa hz01; have ha0 := HA.out.1; have ha1 := HA.out.2; have hb0 := HB.out.1; have hb1 := HB.out.2; have hcc0 := HC.out.1; have hcc1 := HC.out.2
 have hn10 : (evs.length : Int) ≤ 10 := by have := HN.out.2; omega
 have hnz : ¬ ((evs.length : Int) = 0) := by omega
 have hnz2 : ¬ (evs.length = 0) := by omega
 clear hx01 hy01 hz01 y0 y1 ewa ewb ewc
 go_region_held3 (fun W => True)
  (first | trivial | (trace_state; fail))
  (fail)
 replace HS := Aa (HS.out.below (Dn (Below.refl w1.heap.size w1))); clear hx hy hz ha0 ha1 hb0 hb1 hcc0 hcc1 hn10 hnz hnz2 hne hne0 HA HB HC; generalize w1.drew = w2 at HS ⊢; have y0 := cell_at HS.out.k0 0 (.slice A0 evs.length c0) rfl; have y1 := cell_at HS.out.k0 1 (.slice A1 gaps.length c1) rfl
 have sq : ∀ u v : Int, (0 ≤ u ∧ u < evs.length) → (0 ≤ v ∧ v < evs.length) → skew_Sure.f evs gaps u v = some (sureB evs gaps u v, 0) := fun u v hu hv => by
  rw [sure_skew_f]; unfold sureQ; rw [if_pos ⟨HHb.out, hu, hv⟩, if_pos HSv.out]
 obtain ⟨xy, hxy⟩ : ∃ q, sureB evs gaps x y = q := ⟨_, rfl⟩
 obtain ⟨yz, hyz⟩ : ∃ q, sureB evs gaps y z = q := ⟨_, rfl⟩
 obtain ⟨xz, hxz⟩ : ∃ q, sureB evs gaps x z = q := ⟨_, rfl⟩
 have h1 := sq x y HX.out HY.out; have h2 := sq y z HY.out HZ.out; have h3 := sq x z HX.out HZ.out; have h4 := sq x x HX.out HX.out; rw [hxy] at h1; rw [hyz] at h2; rw [hxz] at h3; rw [sureB_self] at h4; have H1 := Aa h1; have H2 := Aa h2; have H3 := Aa h3; have H4 := Aa h4; have HXY := Aa hxy; have HYZ := Aa hyz; have HXZ := Aa hxz; clear sq h1 h2 h3 h4 hxy hyz hxz
 go_wp2_with fail
 refine (skew_Sure.calls A0 c0 evs A1 c1 gaps x y xy 0 w2 HS.out.a0 Hc0.out HS.out.a1 Hc1.out H1.out).mono ?_; rintro e w3 ⟨rfl, hb⟩; replace HS := Aa (HS.out.below hb); clear hb y0 y1 w2; have y0 := cell_at HS.out.k0 0 (.slice A0 evs.length c0) rfl; have y1 := cell_at HS.out.k0 1 (.slice A1 gaps.length c1) rfl
 go_wp2_with fail
 refine (skew_Sure.calls A0 c0 evs A1 c1 gaps y z yz 0 w3 HS.out.a0 Hc0.out HS.out.a1 Hc1.out H2.out).mono ?_; rintro e w4 ⟨rfl, hb⟩; replace HS := Aa (HS.out.below hb); clear hb y0 y1 w3; have y0 := cell_at HS.out.k0 0 (.slice A0 evs.length c0) rfl; have y1 := cell_at HS.out.k0 1 (.slice A1 gaps.length c1) rfl
 go_wp2_with fail
 refine (skew_Sure.calls A0 c0 evs A1 c1 gaps x z xz 0 w4 HS.out.a0 Hc0.out HS.out.a1 Hc1.out H3.out).mono ?_; rintro e w5 ⟨rfl, hb⟩; replace HS := Aa (HS.out.below hb); clear hb y0 y1 w4; have y0 := cell_at HS.out.k0 0 (.slice A0 evs.length c0) rfl; have y1 := cell_at HS.out.k0 1 (.slice A1 gaps.length c1) rfl
 go_wp2_with fail
 refine (skew_Sure.calls A0 c0 evs A1 c1 gaps x x false 0 w5 HS.out.a0 Hc0.out HS.out.a1 Hc1.out H4.out).mono ?_; rintro e w6 ⟨rfl, hb⟩; replace HS := Aa (HS.out.below hb); clear hb y0 y1 w5; have y0 := cell_at HS.out.k0 0 (.slice A0 evs.length c0) rfl; have y1 := cell_at HS.out.k0 1 (.slice A1 gaps.length c1) rfl
 obtain ⟨l, hl⟩ : ∃ l, (solveR evs gaps).1 = l := ⟨_, rfl⟩
 have ht : tightA evs gaps = (l, 0) := by unfold tightA; rw [if_pos HHb.out, if_pos HSv.out, hl]
 have HL := Aa hl; have HT := Aa ht; clear hl ht
 go_wp2_with fail
 refine (skew_TightA.calls A0 c0 evs A1 c1 gaps l 0 w6 HS.out.a0 Hc0.out HS.out.a1 Hc1.out HT.out).mono ?_; rintro e w7 ⟨vl, rfl, hv, hb⟩; replace HS := Aa (HS.out.below hb); obtain ⟨Al, cl, rfl, hcl, hCl⟩ := V_read hv
 have hll : l.length = evs.length := by rw [← HL.out]; exact ((solve_spec evs gaps HIs.out.gap).2 _ (by rw [← HSv.out])).len
 have hbl : ((l.length : Int) != (evs.length : Int)) = false := by rw [hll]; simp
 have HLl := Aa hll; have HCl := Aa hCl; clear hb y0 y1 hv hcl hCl hll
 go_upto_region 13 with (fail)
 go_cut [145] (fun v145 W => v145 = .bool false ∧ W = w7)
 case first => as_aux_lemma =>
  have htr : ¬ (xy = true ∧ yz = true ∧ xz = false) := fun ⟨e1, e2, e3⟩ => by
   obtain ⟨t0, ht0⟩ := (solve_spec evs gaps HIs.out.gap).1.mp HSv.out; have := sureB_trans HIs.out ht0 x y z HX.out.1 HX.out.2 HY.out.1 HY.out.2 HZ.out.1 HZ.out.2 (HXY.out.trans e1) (HYZ.out.trans e2); rw [HXZ.out, e3] at this; cases this
  clear HXY HYZ HXZ H1 H2 H3 H4; cases xy <;> cases yz <;> cases xz
  all_goals first
   | (exfalso; exact htr ⟨rfl, rfl, rfl⟩)
   | (clear htr; go_wp2; go_meet; case rel => exact ⟨rfl, rfl⟩)
 case rest => as_aux_lemma =>
  obtain ⟨rfl, rfl⟩ := hcut; clear hbl H2 H3 H4 HYZ HXZ
  go_wp2_with fail
  go_cut [160] (fun v160 W => v160 = .bool false ∧ Aside0 (Below wc.heap.size wc W))
  case first => as_aux_lemma =>
   obtain ⟨bd, e1, p0, p1⟩ := at_T27 HCl.out x HX.out.1 (by rw [HLl.out]; exact HX.out.2); obtain ⟨bd', e2, q0, q1⟩ := at_T27 HCl.out y HY.out.1 (by rw [HLl.out]; exact HY.out.2); subst e1
   injection e2 with e2
   subst e2; have hx0 : 0 ≤ x := HX.out.1
   have hx1 : x < l.length := by rw [HLl.out]; exact HX.out.2
   have hy0 : 0 ≤ y := HY.out.1
   have hy1 : y < l.length := by rw [HLl.out]; exact HY.out.2
   have hpq : (rd_T27 l x).f1 < (rd_T27 l y).f0 → xy = true := fun h => by
    rw [← HXY.out]; refine spans_sure HIs.out HSv.out x y HX.out.1 HX.out.2 HY.out.1 HY.out.2 ?_; rw [HL.out]; exact h
   obtain ⟨p, hp⟩ : ∃ p, (rd_T27 l x).f1 = p := ⟨_, rfl⟩
   obtain ⟨q, hq⟩ : ∃ q, (rd_T27 l y).f0 = q := ⟨_, rfl⟩
   rw [hp] at p1 hpq; rw [hq] at q0 hpq; clear hp hq p0 q1
   by_cases hc : p < q
   ·have hd : decide (p < q) = true := decide_eq_true hc; have hxy := hpq hc; clear hpq hc HXY; subst hxy
    go_region_held3 (fun W' => W'.cell? ⟨(bd.add (x.toNat * 2)).block, (bd.add (x.toNat * 2)).off + 1, none⟩ = some (.int .i64 p) ∧ W'.cell? (bd.add (y.toNat * 2)) = some (.int .i64 q))
     (first | (with_reducible (refine ⟨?_, ?_⟩)) <;> (apply cell_drew; with_reducible assumption))
     (fail)
    try go_wp2
    go_meet
    case rel => exact ⟨rfl, ⟨Dn (Below.refl _ _)⟩⟩
   ·have hd : decide (p < q) = false := decide_eq_false hc; clear hpq hc HXY
    go_quiet (fail)
    try go_wp2
    go_meet
    case rel => exact ⟨rfl, ⟨Pn (Below.refl _ _) _⟩⟩
  case rest => as_aux_lemma =>
   obtain ⟨rfl, hw⟩ := hcut; replace HS := Aa (HS.out.below hw.out); clear HCl hw
   obtain ⟨bx, hbx⟩ : ∃ bx, ((x : Int) != y) = bx := ⟨_, rfl⟩
   go_upto_region 17 with (fail)
   go_cut [163] (fun v163 W => v163 = .bool bx ∧ W = wc)
   case first => as_aux_lemma =>
    go_wp2
    go_meet
    case rel => exact ⟨rfl, rfl⟩
   case rest => as_aux_lemma =>
    obtain ⟨rfl, hw⟩ := hcut; replace HS := Aa (show US evs gaps bys A0 A1 A4 c0 c1 c4 w.heap.size w wc by rw [hw]; exact HS.out); clear hw
    rename_i K1 hK1
    refine hK1 _ _ ?_; clear hK1 K1
    go_cut [28] (fun _ W => Aside0 (US evs gaps bys A0 A1 A4 c0 c1 c4 w.heap.size w W))
    case first => as_aux_lemma =>
     cases bx with
     | false =>
      go_wp2
      go_meet
      case rel => exact HS
     | true =>
      have hxne : x ≠ y := by have h := hbx; rw [bne_iff_ne] at h; exact h
      have HXne := Aa hxne
      obtain ⟨gp, hgp⟩ : ∃ gp, gaps ++ [(⟨y, x, 0, 2000000⟩ : S86)] = gp := ⟨_, rfl⟩
      have HGp := Aa hgp; have HG20 := Aa (show gaps.length ≤ 1000000 by have := HIs.out.w; omega); clear hbx hxne hgp
      go_wp2_with fail
      go_cut [26] (fun v26 W => ∃ (n26 dg : Nat) (Bg : Option Addr), v26 = .pointer (some ⟨n26, 0, none⟩) ∧ Aside0 (US evs gaps bys A0 A1 A4 c0 c1 c4 w.heap.size w W) ∧ Aside0 (Plus evs gp A0 c0 w W n26 Bg dg))
      case first => as_aux_lemma =>
       obtain ⟨y856, hy856⟩ : ∃ y_ : List S86, y_ = ([(⟨y, x, 0, 2000000⟩ : S86)] : List S86) := ⟨_, rfl⟩
       have Ny856 := Aa hy856; have LMc68 := Aa (show gaps.length + y856.length < 4398046511104 by have := HG20.out; rw [hy856]; simp only [List.length_cons, List.length_nil]; omega); have Ny859 := Aa (show gp = gaps ++ y856 by rw [hy856]; exact HGp.out.symm); clear hy856 H1 HXY HXne HKH HN HBy HSv HHb HIs HX HY HZ; have n0_ := Aa (Kw HS.out.k0); have n1_ := Aa (Dn HS.out.bel); have BK831 := n0_; have HB := n1_; have GE831 := Aa (Nat.le_refl w.heap.size); clear n0_ n1_ HS; refine start_ (n := 13) (S := fun w' => w'.cell? ⟨w.heap.size, 0, none⟩ = some (.slice A0 evs.length c0) ∧ w'.cell? ⟨w.heap.size, 1, none⟩ = some (.slice A1 gaps.length c1)) (ds := []) #[false, false, false, false, false, false, false, false, false, false, false, false, false] (by kernel_rfl) rfl rfl ⟨(Bc BK831.out 0).trans rfl, (Bc BK831.out 1).trans rfl⟩ (fun hHeld => ?_); refine with_tabW sure_tab18 sure_bits18 (fun HT_ HW_ => ?_); generalize wc.drew = w73 at BK831 HB hHeld ⊢; refine pure_ (i := 0) (N := some 164) (v := ?_) (a' := ?_) #[true, false, false, false, false, false, false, false, false, false, false, false, false] rfl rfl (any_of HT_.out (by kernel_rfl)) (fun _ _ _ h => h) (Or.inl ⟨by rfl, ?_⟩) ?_ ?_; rotate_left
       ·intro w'; go_simp; with_reducible rfl
       rotate_left
       ·simp only [Act.put, Sa, Sb, Sc, i64_w, i32_w]; rfl
       refine pure_ (i := 2) (N := some 166) (v := ?_) (a' := ?_) #[true, false, true, false, false, false, false, false, false, false, false, false, false] rfl rfl (any_of HT_.out (by kernel_rfl)) (fun _ _ _ h => h) (Or.inl ⟨by rfl, ?_⟩) ?_ ?_; rotate_left
       ·intro w'; go_simp; with_reducible rfl
       rotate_left
       ·simp only [Act.put, Sa, Sb, Sc, i64_w, i32_w]; rfl
       refine pure_ (i := 5) (N := some 169) (v := ?_) (a' := ?_) #[true, false, true, false, false, true, false, false, false, false, false, false, false] rfl rfl (any_of HT_.out (by kernel_rfl)) (fun _ _ _ h => h) (Or.inl ⟨by rfl, ?_⟩) ?_ ?_; rotate_left
       ·intro w'; go_simp; with_reducible rfl
       rotate_left
       ·simp only [Act.put, Sa, Sb, Sc, i64_w, i32_w]; rfl
       refine pure_ (i := 6) (N := some 170) (v := ?_) (a' := ?_) #[true, false, true, false, false, true, true, false, false, false, false, false, false] rfl rfl (any_of HT_.out (by kernel_rfl)) (fun _ _ _ h => h) (Or.inl ⟨by rfl, ?_⟩) ?_ ?_; rotate_left
       ·intro w'; go_simp; with_reducible rfl
       rotate_left
       ·simp only [Act.put, Sa, Sb, Sc, i64_w, i32_w]; rfl
       refine pure_ (i := 7) (N := some 171) (v := ?_) (a' := ?_) #[true, false, true, false, false, true, true, true, false, false, false, false, false] rfl rfl (any_of HT_.out (by kernel_rfl)) (fun _ _ _ h => h) (Or.inl ⟨by rfl, ?_⟩) ?_ ?_; rotate_left
       ·intro w'; go_simp; with_reducible rfl
       rotate_left
       ·simp only [Act.put, Sa, Sb, Sc, i64_w, i32_w]; rfl
       refine take_ (i := 1) (N := some 165) (v := ?_) (a' := ?_) #[true, true, true, false, false, true, true, true, false, false, false, false, false] rfl rfl (take_ofW HT_.out HW_.out (by kernel_rfl)) (fun _ _ _ h => h) (Or.inl ⟨by rfl, ?_⟩) hHeld ?_ ?_; rotate_left
       ·rintro w' ⟨s0, s1⟩; go_simp; with_reducible rfl
       rotate_left
       ·simp only [Act.put, Sa, Sb, Sc, i64_w, i32_w]; rfl
       refine take_ (i := 3) (N := some 167) (v := ?_) (a' := ?_) #[true, true, true, true, false, true, true, true, false, false, false, false, false] rfl rfl (take_ofW HT_.out HW_.out (by kernel_rfl)) (fun _ _ _ h => h) (Or.inl ⟨by rfl, ?_⟩) hHeld ?_ ?_; rotate_left
       ·rintro w' ⟨s0, s1⟩; go_simp; with_reducible rfl
       rotate_left
       ·simp only [Act.put, Sa, Sb, Sc, i64_w, i32_w]; rfl
       refine join_ (σ := Value × Value × Value × Nat) 1 #[true, true, true, true, true, true, true, true, true, true, true, true, false] (fun s_ => [(168, s_.1), (172, s_.2.1), (173, s_.2.2.1), (26, .pointer (some ⟨s_.2.2.2, 0, none⟩)), (174, .agg #[.slice A0 evs.length c0, s_.2.2.1])]) (fun s_ w' => (w'.cell? ⟨w.heap.size, 0, none⟩ = some (.slice A0 evs.length c0) ∧ w'.cell? ⟨w.heap.size, 1, none⟩ = some (.slice A1 gaps.length c1)) ∧ (Kd.R k86 86 w' w.heap.size (fun k_ => some k_ ≠ (s_.2.2.1 : Value).ownBlock) s_.2.1 y856) ∧ (Kd.R k86 86 w' w.heap.size (fun k_ => some k_ ≠ (s_.2.1 : Value).ownBlock) s_.2.2.1 gp) ∧ (w'.heap[w.heap.size]? = some (.cells #[.slice A0 evs.length c0, .slice A1 gaps.length c1] 39 (0, 0))) ∧ (w'.heap[s_.2.2.2]? = some (.cells #[.slice none 0 0, .slice none 0 0] 39 (0, 0))) ∧ (w.heap.size ≤ s_.2.2.2) ∧ (w.heap.size ≤ s_.2.2.2) ∧ (w.heap.size ≠ s_.2.2.2) ∧ (s_.2.2.2 ≠ w.heap.size) ∧ (Below w.heap.size w w')) ?_ ?_; rotate_left
       ·intro hJ4_8_9_11; refine join_ (σ := Value × Value × Value) 2 #[true, true, true, true, true, true, true, true, true, true, true, false, false] (fun s_ => [(168, s_.1), (172, s_.2.1), (173, s_.2.2), (174, .agg #[.slice A0 evs.length c0, s_.2.2])]) (fun s_ w' => (w'.cell? ⟨w.heap.size, 0, none⟩ = some (.slice A0 evs.length c0) ∧ w'.cell? ⟨w.heap.size, 1, none⟩ = some (.slice A1 gaps.length c1)) ∧ (Kd.R k86 86 w' w.heap.size (fun k_ => some k_ ≠ (s_.2.2 : Value).ownBlock) s_.2.1 y856) ∧ (Kd.R k86 86 w' w.heap.size (fun k_ => some k_ ≠ (s_.2.1 : Value).ownBlock) s_.2.2 gp) ∧ (w'.heap[w.heap.size]? = some (.cells #[.slice A0 evs.length c0, .slice A1 gaps.length c1] 39 (0, 0))) ∧ (Below w.heap.size w w')) ?_ ?_; rotate_left
        ·intro hJ4_8_9; refine join_ (σ := Value × Value × Nat) 3 #[true, true, true, true, true, true, true, true, true, false, false, true, false] (fun s_ => [(168, s_.1), (172, s_.2.1), (26, .pointer (some ⟨s_.2.2, 0, none⟩))]) (fun s_ w' => (w'.cell? ⟨w.heap.size, 0, none⟩ = some (.slice A0 evs.length c0) ∧ w'.cell? ⟨w.heap.size, 1, none⟩ = some (.slice A1 gaps.length c1)) ∧ (Kd.R k86 86 w' w.heap.size (fun k_ => some k_ ≠ (s_.2.1 : Value).ownBlock) s_.1 gaps) ∧ (Kd.R k86 86 w' w.heap.size (fun k_ => some k_ ≠ (s_.1 : Value).ownBlock) s_.2.1 y856) ∧ (w'.heap[w.heap.size]? = some (.cells #[.slice A0 evs.length c0, .slice A1 gaps.length c1] 39 (0, 0))) ∧ (w'.heap[s_.2.2]? = some (.cells #[.slice none 0 0, .slice none 0 0] 39 (0, 0))) ∧ (w.heap.size ≤ s_.2.2) ∧ (w.heap.size ≤ s_.2.2) ∧ (w.heap.size ≠ s_.2.2) ∧ (s_.2.2 ≠ w.heap.size) ∧ (Below w.heap.size w w')) ?_ ?_; rotate_left
         ·intro hJ4_8_11; refine join_ (σ := Value × Value) 4 #[true, true, true, true, true, true, true, true, true, false, false, false, false] (fun s_ => [(168, s_.1), (172, s_.2)]) (fun s_ w' => (w'.cell? ⟨w.heap.size, 0, none⟩ = some (.slice A0 evs.length c0) ∧ w'.cell? ⟨w.heap.size, 1, none⟩ = some (.slice A1 gaps.length c1)) ∧ (Kd.R k86 86 w' w.heap.size (fun k_ => some k_ ≠ (s_.2 : Value).ownBlock) s_.1 gaps) ∧ (Kd.R k86 86 w' w.heap.size (fun k_ => some k_ ≠ (s_.1 : Value).ownBlock) s_.2 y856) ∧ (w'.heap[w.heap.size]? = some (.cells #[.slice A0 evs.length c0, .slice A1 gaps.length c1] 39 (0, 0))) ∧ (Below w.heap.size w w')) ?_ ?_; rotate_left
          ·intro hJ4_8; refine join_ (σ := Value × Nat) 4 #[true, true, true, true, true, true, true, true, false, false, false, true, false] (fun s_ => [(168, s_.1), (26, .pointer (some ⟨s_.2, 0, none⟩))]) (fun s_ w' => (w'.cell? ⟨w.heap.size, 0, none⟩ = some (.slice A0 evs.length c0) ∧ w'.cell? ⟨w.heap.size, 1, none⟩ = some (.slice A1 gaps.length c1)) ∧ (Kd.R k86 86 w' w.heap.size (fun _ => True) s_.1 gaps) ∧ (w'.heap[w.heap.size]? = some (.cells #[.slice A0 evs.length c0, .slice A1 gaps.length c1] 39 (0, 0))) ∧ (w'.heap[s_.2]? = some (.cells #[.slice none 0 0, .slice none 0 0] 39 (0, 0))) ∧ (w.heap.size ≤ s_.2) ∧ (w.heap.size ≤ s_.2) ∧ (w.heap.size ≠ s_.2) ∧ (s_.2 ≠ w.heap.size) ∧ (Below w.heap.size w w')) ?_ ?_; rotate_left
           ·intro hJ4_11; refine join_ (σ := Value × Nat) 4 #[true, true, true, true, false, true, true, true, true, false, false, true, false] (fun s_ => [(172, s_.1), (26, .pointer (some ⟨s_.2, 0, none⟩))]) (fun s_ w' => (w'.cell? ⟨w.heap.size, 0, none⟩ = some (.slice A0 evs.length c0) ∧ w'.cell? ⟨w.heap.size, 1, none⟩ = some (.slice A1 gaps.length c1)) ∧ (Kd.R k86 86 w' w.heap.size (fun _ => True) s_.1 y856) ∧ (w'.heap[w.heap.size]? = some (.cells #[.slice A0 evs.length c0, .slice A1 gaps.length c1] 39 (0, 0))) ∧ (w'.heap[s_.2]? = some (.cells #[.slice none 0 0, .slice none 0 0] 39 (0, 0))) ∧ (w.heap.size ≤ s_.2) ∧ (w.heap.size ≤ s_.2) ∧ (w.heap.size ≠ s_.2) ∧ (s_.2 ≠ w.heap.size) ∧ (Below w.heap.size w w')) ?_ ?_; rotate_left
            ·intro hJ8_11; refine join_ (σ := Value) 5 #[true, true, true, true, true, true, true, true, false, false, false, false, false] (fun s_ => [(168, s_)]) (fun s_ w' => (w'.cell? ⟨w.heap.size, 0, none⟩ = some (.slice A0 evs.length c0) ∧ w'.cell? ⟨w.heap.size, 1, none⟩ = some (.slice A1 gaps.length c1)) ∧ (Kd.R k86 86 w' w.heap.size (fun _ => True) s_ gaps) ∧ (w'.heap[w.heap.size]? = some (.cells #[.slice A0 evs.length c0, .slice A1 gaps.length c1] 39 (0, 0))) ∧ (Below w.heap.size w w')) ?_ ?_; rotate_left
             ·intro hJ4; refine join_ (σ := Value) 5 #[true, true, true, true, false, true, true, true, true, false, false, false, false] (fun s_ => [(172, s_)]) (fun s_ w' => (w'.cell? ⟨w.heap.size, 0, none⟩ = some (.slice A0 evs.length c0) ∧ w'.cell? ⟨w.heap.size, 1, none⟩ = some (.slice A1 gaps.length c1)) ∧ (Kd.R k86 86 w' w.heap.size (fun _ => True) s_ y856) ∧ (w'.heap[w.heap.size]? = some (.cells #[.slice A0 evs.length c0, .slice A1 gaps.length c1] 39 (0, 0))) ∧ (Below w.heap.size w w')) ?_ ?_; rotate_left
              ·intro hJ8; refine join_ (σ := Nat) 5 #[true, true, true, true, false, true, true, true, false, false, false, true, false] (fun s_ => [(26, .pointer (some ⟨s_, 0, none⟩))]) (fun s_ w' => (w'.cell? ⟨w.heap.size, 0, none⟩ = some (.slice A0 evs.length c0) ∧ w'.cell? ⟨w.heap.size, 1, none⟩ = some (.slice A1 gaps.length c1)) ∧ (w'.heap[w.heap.size]? = some (.cells #[.slice A0 evs.length c0, .slice A1 gaps.length c1] 39 (0, 0))) ∧ (w'.heap[s_]? = some (.cells #[.slice none 0 0, .slice none 0 0] 39 (0, 0))) ∧ (w.heap.size ≤ s_) ∧ (w.heap.size ≤ s_) ∧ (w.heap.size ≠ s_) ∧ (s_ ≠ w.heap.size) ∧ (Below w.heap.size w w')) ?_ ?_; rotate_left
               ·intro hJ11; refine three_ (i := 4) (j := 8) (k := 11) (Ni := some 168) (Nj := some 172) (Nk := some 26) #[true, true, true, true, true, true, true, true, false, false, false, false, false] #[true, true, true, true, false, true, true, true, true, false, false, false, false] #[true, true, true, true, false, true, true, true, false, false, false, true, false] rfl rfl rfl rfl rfl rfl (three_of HT_.out (by kernel_rfl)) (by decide) (by decide) (by decide) (fun K hK => ?_) (fun K hK => ?_) (fun K hK => ?_)
                ·skip
                 refine goes_ Try.func60 (by kernel_rfl) rfl #[.slice A1 gaps.length c1] (by rfl) rfl rfl (by (try simp only [List.map_toArray, List.map_cons, List.map_nil]); first | done | rfl | (simp only [List.length_drop, List.length_take]; rfl)) ?_; with_reducible refine (cloneG_calls _ _ gaps _ ?side1 ?side2 HG20.out).mono ?_
                 (case side1 => repeat (first | exact (Kd.C_below HR0_1.out HB.out) | (with_reducible refine Kd.C_alloc ?_ _) | (with_reducible refine Kd.C_drewN ?_ _) | (with_reducible refine Kd.C_drew ?_)))
                 (case side2 => exact HC0_1.out)
                 rintro e w74 ⟨v854, rfl, ho0, hb⟩; refine ⟨_, rfl, ?_⟩; have n0_ := Aa (Kd.R_lower ho0 (below_size (by repeat (first | (with_reducible first | exact HB.out | apply Ba | apply Pn | apply Dn | refine Bz ?_ GE831.out) | exact HB.out)))); have n1_ := Aa (blk_below (g := w.heap.size) (o := .cells #[.slice A0 evs.length c0, .slice A1 gaps.length c1] 39 (0, 0)) (by (with_reducible repeat (first | refine Kn ?_ _ | refine Kw ?_ | refine Ka ?_ _)); exact BK831.out) hb); have n2_ := Aa (Bp (by repeat (first | (with_reducible first | exact HB.out | apply Ba | apply Pn | apply Dn | refine Bz ?_ GE831.out) | exact HB.out)) hb); clear BK831; clear HB; have HO855 := n0_; have BK831 := n1_; have HB := n2_; clear n0_ n1_ n2_
                 (try clear hb)
                 (try clear hb2)
                 (try clear hk)
                 (try clear hi)
                 (try clear ho0)
                 refine hK.out _ _ ⟨(Bc BK831.out 0).trans rfl, (Bc BK831.out 1).trans rfl⟩ (fun hHeld => ?_); clear hK K; refine norm_ (a' := ?_) ?_ ?_; rotate_left
                 ·show Act.put _ (some 168) _ = _; simp only [Act.put, Sa, Sb, Sc, i64_w, i32_w]; rfl
                 exact norm_ (by first | (simp only [putAll, Act.put, Sa, Sb, Sc]; done) | (simp only [putAll, Act.put, Sa, Sb, Sc]; rfl)) (hJ4 (v854) _ ⟨hHeld, (by (with_reducible repeat (first | apply Kd.R_alloc | apply Kd.R_drewN | apply Kd.R_drew)); exact HO855.out), (by (with_reducible repeat (first | refine Kn ?_ _ | refine Kw ?_ | refine Ka ?_ _)); exact BK831.out), (by repeat (first | (with_reducible first | exact HB.out | apply Ba | apply Pn | apply Dn | refine Bz ?_ GE831.out) | exact HB.out))⟩)
                ·skip
                 refine Kd.R_lit_step k86 _ 86 ?hg (N := 172) ?hd (xs := ([(⟨y, x, 0, 2000000⟩ : S86)] : List (S86))) (inner := [.int .i64 y, .int .i64 x, .int .i64 0, .int .i64 2000000]) (ok := fun _ => True) (okp := fun _ => True) ?hr ?hp (fun _ hk => hk) trivial (Below.refl _ _) (Nat.le_refl _) (by simp) ?_; (case hd => rfl); (case hg => rfl); (case hr => first | (go_simp; done) | (go_simp; rfl)); (case hp => exact (Reps.c4 (show Kd.M k86 _ _ _ (⟨y, x, 0, 2000000⟩ : S86) [.int .i64 y, .int .i64 x, .int .i64 0, .int .i64 2000000] from (k86_mkM _ _ _ (⟨y, x, 0, 2000000⟩ : S86) )) (Reps.none _ _))); intro v857 w74 ho75 hb hg_ hnew_; clear hg_ hnew_
                 (first | rw [← Ny856.out] at ho75 | (simp only [Int.reduceToNat] at ho75; rw [← Ny856.out] at ho75))
                 have n0_ := Aa (Kd.R_lower ho75 (below_size (by repeat (first | (with_reducible first | exact HB.out | apply Ba | apply Pn | apply Dn | refine Bz ?_ GE831.out) | exact HB.out)))); have n1_ := Aa (blk_below (g := w.heap.size) (o := .cells #[.slice A0 evs.length c0, .slice A1 gaps.length c1] 39 (0, 0)) (by (with_reducible repeat (first | refine Kn ?_ _ | refine Kw ?_ | refine Ka ?_ _)); exact BK831.out) hb); have n2_ := Aa (Bp (by repeat (first | (with_reducible first | exact HB.out | apply Ba | apply Pn | apply Dn | refine Bz ?_ GE831.out) | exact HB.out)) hb); clear BK831; clear HB; have HO858 := n0_; have BK831 := n1_; have HB := n2_; clear n0_ n1_ n2_; clear hb ho75; refine hK.out _ _ ⟨(Bc BK831.out 0).trans rfl, (Bc BK831.out 1).trans rfl⟩ (fun hHeld => ?_); clear hK K; refine norm_ (a' := ?_) ?_ ?_; rotate_left
                 ·show Act.put _ (some 172) _ = _; simp only [Act.put, Sa, Sb, Sc, i64_w, i32_w]; rfl
                 exact norm_ (by first | (simp only [putAll, Act.put, Sa, Sb, Sc]; done) | (simp only [putAll, Act.put, Sa, Sb, Sc]; rfl)) (hJ8 (v857) _ ⟨hHeld, (by (with_reducible repeat (first | apply Kd.R_alloc | apply Kd.R_drewN | apply Kd.R_drew)); exact HO858.out), (by (with_reducible repeat (first | refine Kn ?_ _ | refine Kw ?_ | refine Ka ?_ _)); exact BK831.out), (by repeat (first | (with_reducible first | exact HB.out | apply Ba | apply Pn | apply Dn | refine Bz ?_ GE831.out) | exact HB.out))⟩)
                ·skip
                 refine box_step ?hg (N := 26) ?hd (cs := #[.slice none 0 0, .slice none 0 0]) (t := 39) ?hr ?_; (case hd => rfl); (case hg => rfl); (case hr => first | (go_simp; done) | (go_simp; rfl)); intro gb862 hg w74 hbox hb; have n0_ := Aa (blk_below (g := w.heap.size) (o := .cells #[.slice A0 evs.length c0, .slice A1 gaps.length c1] 39 (0, 0)) (by (with_reducible repeat (first | refine Kn ?_ _ | refine Kw ?_ | refine Ka ?_ _)); exact BK831.out) hb); have n1_ := Aa (Bp (by repeat (first | (with_reducible first | exact HB.out | apply Ba | apply Pn | apply Dn | refine Bz ?_ GE831.out) | exact HB.out)) hb); have n2_ := Aa (hbox); have n3_ := Aa ((by rw [hg]; exact (below_size (by repeat (first | (with_reducible first | exact HB.out | apply Ba | apply Pn | apply Dn | refine Bz ?_ GE831.out) | exact HB.out))) : w.heap.size ≤ gb862)); have n4_ := Aa ((by rw [hg]; exact (below_size (by repeat (first | (with_reducible first | exact HB.out | apply Ba | apply Pn | apply Dn | refine Bz ?_ GE831.out) | exact HB.out))) : w.heap.size ≤ gb862)); have n5_ := Aa ((by rw [hg]; exact Nat.ne_of_lt (blk_lt (g := w.heap.size) (o := .cells #[.slice A0 evs.length c0, .slice A1 gaps.length c1] 39 (0, 0)) (by (with_reducible repeat (first | refine Kn ?_ _ | refine Kw ?_ | refine Ka ?_ _)); exact BK831.out)) : w.heap.size ≠ gb862)); have n6_ := Aa ((by rw [hg]; exact Nat.ne_of_gt (blk_lt (g := w.heap.size) (o := .cells #[.slice A0 evs.length c0, .slice A1 gaps.length c1] 39 (0, 0)) (by (with_reducible repeat (first | refine Kn ?_ _ | refine Kw ?_ | refine Ka ?_ _)); exact BK831.out)) : gb862 ≠ w.heap.size)); clear BK831; clear HB; have BK831 := n0_; have HB := n1_; have BK862 := n2_; have GW862 := n3_; have GE862 := n4_; have NB831_862 := n5_; have NB862_831 := n6_; clear n0_ n1_ n2_ n3_ n4_ n5_ n6_; clear hb hbox hg; refine hK.out _ _ ⟨(Bc BK831.out 0).trans rfl, (Bc BK831.out 1).trans rfl⟩ (fun hHeld => ?_); clear hK K; refine norm_ (a' := ?_) ?_ ?_; rotate_left
                 ·show Act.put _ (some 26) _ = _; simp only [Act.put, Sa, Sb, Sc, i64_w, i32_w]; rfl
                 exact norm_ (by first | (simp only [putAll, Act.put, Sa, Sb, Sc]; done) | (simp only [putAll, Act.put, Sa, Sb, Sc]; rfl)) (hJ11 (gb862) _ ⟨hHeld, (by (with_reducible repeat (first | refine Kn ?_ _ | refine Kw ?_ | refine Ka ?_ _)); exact BK831.out), (by (with_reducible repeat (first | refine Kn ?_ _ | refine Kw ?_ | refine Ka ?_ _)); exact BK862.out), GW862.out, GE862.out, NB831_862.out, NB862_831.out, (by repeat (first | (with_reducible first | exact HB.out | apply Ba | apply Pn | apply Dn | refine Bz ?_ GE831.out | refine Bz ?_ GE862.out) | exact HB.out))⟩)
               ·skip
                rintro gb862 w75 ⟨hS_, h0_, h1_, h2_, h3_, h4_, h5_, h6_⟩
                have n0_ : Aside0 (w75.heap[w.heap.size]? = some (.cells #[.slice A0 evs.length c0, .slice A1 gaps.length c1] 39 (0, 0))) := ⟨h0_⟩
                have n1_ : Aside0 (w75.heap[gb862]? = some (.cells #[.slice none 0 0, .slice none 0 0] 39 (0, 0))) := ⟨h1_⟩
                have n2_ : Aside0 (w.heap.size ≤ gb862) := ⟨h2_⟩
                have n3_ : Aside0 (w.heap.size ≤ gb862) := ⟨h3_⟩
                have n4_ : Aside0 (w.heap.size ≠ gb862) := ⟨h4_⟩
                have n5_ : Aside0 (gb862 ≠ w.heap.size) := ⟨h5_⟩
                have n6_ : Aside0 (Below w.heap.size w w75) := ⟨h6_⟩
                clear BK831; clear HB; clear h0_ h1_ h2_ h3_ h4_ h5_ h6_; have BK831 := n0_; have BK862 := n1_; have GW862 := n2_; have GE862 := n3_; have NB831_862 := n4_; have NB862_831 := n5_; have HB := n6_; clear n0_ n1_ n2_ n3_ n4_ n5_ n6_; have hHeld : w75.cell? ⟨w.heap.size, 0, none⟩ = some (.slice A0 evs.length c0) ∧ w75.cell? ⟨w.heap.size, 1, none⟩ = some (.slice A1 gaps.length c1) := hS_; refine norm_ (a' := ?_) ?_ ?_; rotate_left
                ·simp only [putAll, Act.put, Sa, Sb, Sc]; rfl
                refine two_ (i := 4) (j := 8) (Ni := some 168) (Nj := some 172) #[true, true, true, true, true, true, true, true, false, false, false, true, false] #[true, true, true, true, false, true, true, true, true, false, false, true, false] rfl rfl rfl rfl (Go.Proofs.YtobcecgcegoooaaW.PrintLast.two_of HT_.out (by kernel_rfl)) (by decide) (by decide) (fun K hK => ?_) (fun K hK => ?_)
                ·skip
                 refine goes_ Try.func60 (by kernel_rfl) rfl #[.slice A1 gaps.length c1] (by rfl) rfl rfl (by (try simp only [List.map_toArray, List.map_cons, List.map_nil]); first | done | rfl | (simp only [List.length_drop, List.length_take]; rfl)) ?_; with_reducible refine (cloneG_calls _ _ gaps _ ?side1 ?side2 HG20.out).mono ?_
                 (case side1 => repeat (first | exact (Kd.C_below HR0_1.out HB.out) | (with_reducible refine Kd.C_alloc ?_ _) | (with_reducible refine Kd.C_drewN ?_ _) | (with_reducible refine Kd.C_drew ?_)))
                 (case side2 => exact HC0_1.out)
                 rintro e w76 ⟨v854, rfl, ho0, hb⟩; refine ⟨_, rfl, ?_⟩; have n0_ := Aa (Kd.R_lower ho0 (below_size (by repeat (first | (with_reducible first | exact HB.out | apply Ba | apply Pn | apply Dn | refine Bz ?_ GE831.out | refine Bz ?_ GE862.out) | exact HB.out)))); have n1_ := Aa (blk_below (g := w.heap.size) (o := .cells #[.slice A0 evs.length c0, .slice A1 gaps.length c1] 39 (0, 0)) (by (with_reducible repeat (first | refine Kn ?_ _ | refine Kw ?_ | refine Ka ?_ _)); exact BK831.out) hb); have n2_ := Aa (blk_below (g := gb862) (o := .cells #[.slice none 0 0, .slice none 0 0] 39 (0, 0)) (by (with_reducible repeat (first | refine Kn ?_ _ | refine Kw ?_ | refine Ka ?_ _)); exact BK862.out) hb); have n3_ := Aa (Bp (by repeat (first | (with_reducible first | exact HB.out | apply Ba | apply Pn | apply Dn | refine Bz ?_ GE831.out | refine Bz ?_ GE862.out) | exact HB.out)) hb); clear BK831; clear BK862; clear HB; have HO855 := n0_; have BK831 := n1_; have BK862 := n2_; have HB := n3_; clear n0_ n1_ n2_ n3_
                 (try clear hb)
                 (try clear hb2)
                 (try clear hk)
                 (try clear hi)
                 (try clear ho0)
                 refine hK.out _ _ ⟨(Bc BK831.out 0).trans rfl, (Bc BK831.out 1).trans rfl⟩ (fun hHeld => ?_); clear hK K; refine norm_ (a' := ?_) ?_ ?_; rotate_left
                 ·show Act.put _ (some 168) _ = _; simp only [Act.put, Sa, Sb, Sc, i64_w, i32_w]; rfl
                 exact norm_ (by first | (simp only [putAll, Act.put, Sa, Sb, Sc]; done) | (simp only [putAll, Act.put, Sa, Sb, Sc]; rfl)) (hJ4_11 (v854, gb862) _ ⟨hHeld, (by (with_reducible repeat (first | apply Kd.R_alloc | apply Kd.R_drewN | apply Kd.R_drew)); exact HO855.out), (by (with_reducible repeat (first | refine Kn ?_ _ | refine Kw ?_ | refine Ka ?_ _)); exact BK831.out), (by (with_reducible repeat (first | refine Kn ?_ _ | refine Kw ?_ | refine Ka ?_ _)); exact BK862.out), GW862.out, GE862.out, NB831_862.out, NB862_831.out, (by repeat (first | (with_reducible first | exact HB.out | apply Ba | apply Pn | apply Dn | refine Bz ?_ GE831.out | refine Bz ?_ GE862.out) | exact HB.out))⟩)
                ·skip
                 refine Kd.R_lit_step k86 _ 86 ?hg (N := 172) ?hd (xs := ([(⟨y, x, 0, 2000000⟩ : S86)] : List (S86))) (inner := [.int .i64 y, .int .i64 x, .int .i64 0, .int .i64 2000000]) (ok := fun _ => True) (okp := fun _ => True) ?hr ?hp (fun _ hk => hk) trivial (Below.refl _ _) (Nat.le_refl _) (by simp) ?_; (case hd => rfl); (case hg => rfl); (case hr => first | (go_simp; done) | (go_simp; rfl)); (case hp => exact (Reps.c4 (show Kd.M k86 _ _ _ (⟨y, x, 0, 2000000⟩ : S86) [.int .i64 y, .int .i64 x, .int .i64 0, .int .i64 2000000] from (k86_mkM _ _ _ (⟨y, x, 0, 2000000⟩ : S86) )) (Reps.none _ _))); intro v857 w76 ho77 hb hg_ hnew_; clear hg_ hnew_
                 (first | rw [← Ny856.out] at ho77 | (simp only [Int.reduceToNat] at ho77; rw [← Ny856.out] at ho77))
                 have n0_ := Aa (Kd.R_lower ho77 (below_size (by repeat (first | (with_reducible first | exact HB.out | apply Ba | apply Pn | apply Dn | refine Bz ?_ GE831.out | refine Bz ?_ GE862.out) | exact HB.out)))); have n1_ := Aa (blk_below (g := w.heap.size) (o := .cells #[.slice A0 evs.length c0, .slice A1 gaps.length c1] 39 (0, 0)) (by (with_reducible repeat (first | refine Kn ?_ _ | refine Kw ?_ | refine Ka ?_ _)); exact BK831.out) hb); have n2_ := Aa (blk_below (g := gb862) (o := .cells #[.slice none 0 0, .slice none 0 0] 39 (0, 0)) (by (with_reducible repeat (first | refine Kn ?_ _ | refine Kw ?_ | refine Ka ?_ _)); exact BK862.out) hb); have n3_ := Aa (Bp (by repeat (first | (with_reducible first | exact HB.out | apply Ba | apply Pn | apply Dn | refine Bz ?_ GE831.out | refine Bz ?_ GE862.out) | exact HB.out)) hb); clear BK831; clear BK862; clear HB; have HO858 := n0_; have BK831 := n1_; have BK862 := n2_; have HB := n3_; clear n0_ n1_ n2_ n3_; clear hb ho77; refine hK.out _ _ ⟨(Bc BK831.out 0).trans rfl, (Bc BK831.out 1).trans rfl⟩ (fun hHeld => ?_); clear hK K; refine norm_ (a' := ?_) ?_ ?_; rotate_left
                 ·show Act.put _ (some 172) _ = _; simp only [Act.put, Sa, Sb, Sc, i64_w, i32_w]; rfl
                 exact norm_ (by first | (simp only [putAll, Act.put, Sa, Sb, Sc]; done) | (simp only [putAll, Act.put, Sa, Sb, Sc]; rfl)) (hJ8_11 (v857, gb862) _ ⟨hHeld, (by (with_reducible repeat (first | apply Kd.R_alloc | apply Kd.R_drewN | apply Kd.R_drew)); exact HO858.out), (by (with_reducible repeat (first | refine Kn ?_ _ | refine Kw ?_ | refine Ka ?_ _)); exact BK831.out), (by (with_reducible repeat (first | refine Kn ?_ _ | refine Kw ?_ | refine Ka ?_ _)); exact BK862.out), GW862.out, GE862.out, NB831_862.out, NB862_831.out, (by repeat (first | (with_reducible first | exact HB.out | apply Ba | apply Pn | apply Dn | refine Bz ?_ GE831.out | refine Bz ?_ GE862.out) | exact HB.out))⟩)
              ·skip
               rintro v857 w76 ⟨hS_, h0_, h1_, h2_⟩
               have n0_ : Aside0 (Kd.R k86 86 w76 w.heap.size (fun _ => True) v857 y856) := ⟨h0_⟩
               have n1_ : Aside0 (w76.heap[w.heap.size]? = some (.cells #[.slice A0 evs.length c0, .slice A1 gaps.length c1] 39 (0, 0))) := ⟨h1_⟩
               have n2_ : Aside0 (Below w.heap.size w w76) := ⟨h2_⟩
               clear BK831; clear HB; clear h0_ h1_ h2_; have HO858 := n0_; have BK831 := n1_; have HB := n2_; clear n0_ n1_ n2_; have hHeld : w76.cell? ⟨w.heap.size, 0, none⟩ = some (.slice A0 evs.length c0) ∧ w76.cell? ⟨w.heap.size, 1, none⟩ = some (.slice A1 gaps.length c1) := hS_; refine norm_ (a' := ?_) ?_ ?_; rotate_left
               ·simp only [putAll, Act.put, Sa, Sb, Sc]; rfl
               refine two_ (i := 4) (j := 11) (Ni := some 168) (Nj := some 26) #[true, true, true, true, true, true, true, true, true, false, false, false, false] #[true, true, true, true, false, true, true, true, true, false, false, true, false] rfl rfl rfl rfl (Go.Proofs.YtobcecgcegoooaaW.PrintLast.two_of HT_.out (by kernel_rfl)) (by decide) (by decide) (fun K hK => ?_) (fun K hK => ?_)
               ·skip
                refine goes_ Try.func60 (by kernel_rfl) rfl #[.slice A1 gaps.length c1] (by rfl) rfl rfl (by (try simp only [List.map_toArray, List.map_cons, List.map_nil]); first | done | rfl | (simp only [List.length_drop, List.length_take]; rfl)) ?_; with_reducible refine (cloneG_calls _ _ gaps _ ?side1 ?side2 HG20.out).mono ?_
                (case side1 => repeat (first | exact (Kd.C_below HR0_1.out HB.out) | (with_reducible refine Kd.C_alloc ?_ _) | (with_reducible refine Kd.C_drewN ?_ _) | (with_reducible refine Kd.C_drew ?_)))
                (case side2 => exact HC0_1.out)
                rintro e w77 ⟨v854, rfl, ho0, hb⟩; refine ⟨_, rfl, ?_⟩; have n0_ := Aa (Kd.R_elder' (by (with_reducible repeat (first | apply Kd.R_alloc | apply Kd.R_drewN | apply Kd.R_drew)); exact HO858.out) (Kd.R_base ho0) hb); have n1_ := Aa (Kd.R_lower (Kd.R_new' ho0 (Kd.R_lt (by (with_reducible repeat (first | apply Kd.R_alloc | apply Kd.R_drewN | apply Kd.R_drew)); exact HO858.out))) (below_size (by repeat (first | (with_reducible first | exact HB.out | apply Ba | apply Pn | apply Dn | refine Bz ?_ GE831.out) | exact HB.out)))); have n2_ := Aa (blk_below (g := w.heap.size) (o := .cells #[.slice A0 evs.length c0, .slice A1 gaps.length c1] 39 (0, 0)) (by (with_reducible repeat (first | refine Kn ?_ _ | refine Kw ?_ | refine Ka ?_ _)); exact BK831.out) hb); have n3_ := Aa (Bp (by repeat (first | (with_reducible first | exact HB.out | apply Ba | apply Pn | apply Dn | refine Bz ?_ GE831.out) | exact HB.out)) hb); clear HO858; clear BK831; clear HB; have HO858 := n0_; have HO855 := n1_; have BK831 := n2_; have HB := n3_; clear n0_ n1_ n2_ n3_
                (try clear hb)
                (try clear hb2)
                (try clear hk)
                (try clear hi)
                (try clear ho0)
                refine hK.out _ _ ⟨(Bc BK831.out 0).trans rfl, (Bc BK831.out 1).trans rfl⟩ (fun hHeld => ?_); clear hK K; refine norm_ (a' := ?_) ?_ ?_; rotate_left
                ·show Act.put _ (some 168) _ = _; simp only [Act.put, Sa, Sb, Sc, i64_w, i32_w]; rfl
                exact norm_ (by first | (simp only [putAll, Act.put, Sa, Sb, Sc]; done) | (simp only [putAll, Act.put, Sa, Sb, Sc]; rfl)) (hJ4_8 (v854, v857) _ ⟨hHeld, (by (with_reducible repeat (first | apply Kd.R_alloc | apply Kd.R_drewN | apply Kd.R_drew)); exact Kd.R_mono HO855.out (fun _ hk => hk.2)), (by (with_reducible repeat (first | apply Kd.R_alloc | apply Kd.R_drewN | apply Kd.R_drew)); exact Kd.R_mono HO858.out (fun _ hk => hk.2)), (by (with_reducible repeat (first | refine Kn ?_ _ | refine Kw ?_ | refine Ka ?_ _)); exact BK831.out), (by repeat (first | (with_reducible first | exact HB.out | apply Ba | apply Pn | apply Dn | refine Bz ?_ GE831.out) | exact HB.out))⟩)
               ·skip
                refine box_step ?hg (N := 26) ?hd (cs := #[.slice none 0 0, .slice none 0 0]) (t := 39) ?hr ?_; (case hd => rfl); (case hg => rfl); (case hr => first | (go_simp; done) | (go_simp; rfl)); intro gb862 hg w77 hbox hb; have n0_ := Aa (Kd.R_below (by (with_reducible repeat (first | apply Kd.R_alloc | apply Kd.R_drewN | apply Kd.R_drew)); exact HO858.out) hb); have n1_ := Aa (blk_below (g := w.heap.size) (o := .cells #[.slice A0 evs.length c0, .slice A1 gaps.length c1] 39 (0, 0)) (by (with_reducible repeat (first | refine Kn ?_ _ | refine Kw ?_ | refine Ka ?_ _)); exact BK831.out) hb); have n2_ := Aa (Bp (by repeat (first | (with_reducible first | exact HB.out | apply Ba | apply Pn | apply Dn | refine Bz ?_ GE831.out) | exact HB.out)) hb); have n3_ := Aa (hbox); have n4_ := Aa ((by rw [hg]; exact (below_size (by repeat (first | (with_reducible first | exact HB.out | apply Ba | apply Pn | apply Dn | refine Bz ?_ GE831.out) | exact HB.out))) : w.heap.size ≤ gb862)); have n5_ := Aa ((by rw [hg]; exact (below_size (by repeat (first | (with_reducible first | exact HB.out | apply Ba | apply Pn | apply Dn | refine Bz ?_ GE831.out) | exact HB.out))) : w.heap.size ≤ gb862)); have n6_ := Aa ((by rw [hg]; exact Nat.ne_of_lt (blk_lt (g := w.heap.size) (o := .cells #[.slice A0 evs.length c0, .slice A1 gaps.length c1] 39 (0, 0)) (by (with_reducible repeat (first | refine Kn ?_ _ | refine Kw ?_ | refine Ka ?_ _)); exact BK831.out)) : w.heap.size ≠ gb862)); have n7_ := Aa ((by rw [hg]; exact Nat.ne_of_gt (blk_lt (g := w.heap.size) (o := .cells #[.slice A0 evs.length c0, .slice A1 gaps.length c1] 39 (0, 0)) (by (with_reducible repeat (first | refine Kn ?_ _ | refine Kw ?_ | refine Ka ?_ _)); exact BK831.out)) : gb862 ≠ w.heap.size)); clear HO858; clear BK831; clear HB; have HO858 := n0_; have BK831 := n1_; have HB := n2_; have BK862 := n3_; have GW862 := n4_; have GE862 := n5_; have NB831_862 := n6_; have NB862_831 := n7_; clear n0_ n1_ n2_ n3_ n4_ n5_ n6_ n7_; clear hb hbox hg; refine hK.out _ _ ⟨(Bc BK831.out 0).trans rfl, (Bc BK831.out 1).trans rfl⟩ (fun hHeld => ?_); clear hK K; refine norm_ (a' := ?_) ?_ ?_; rotate_left
                ·show Act.put _ (some 26) _ = _; simp only [Act.put, Sa, Sb, Sc, i64_w, i32_w]; rfl
                exact norm_ (by first | (simp only [putAll, Act.put, Sa, Sb, Sc]; done) | (simp only [putAll, Act.put, Sa, Sb, Sc]; rfl)) (hJ8_11 (v857, gb862) _ ⟨hHeld, (by (with_reducible repeat (first | apply Kd.R_alloc | apply Kd.R_drewN | apply Kd.R_drew)); exact HO858.out), (by (with_reducible repeat (first | refine Kn ?_ _ | refine Kw ?_ | refine Ka ?_ _)); exact BK831.out), (by (with_reducible repeat (first | refine Kn ?_ _ | refine Kw ?_ | refine Ka ?_ _)); exact BK862.out), GW862.out, GE862.out, NB831_862.out, NB862_831.out, (by repeat (first | (with_reducible first | exact HB.out | apply Ba | apply Pn | apply Dn | refine Bz ?_ GE831.out | refine Bz ?_ GE862.out) | exact HB.out))⟩)
             ·skip
              rintro v854 w75 ⟨hS_, h0_, h1_, h2_⟩
              have n0_ : Aside0 (Kd.R k86 86 w75 w.heap.size (fun _ => True) v854 gaps) := ⟨h0_⟩
              have n1_ : Aside0 (w75.heap[w.heap.size]? = some (.cells #[.slice A0 evs.length c0, .slice A1 gaps.length c1] 39 (0, 0))) := ⟨h1_⟩
              have n2_ : Aside0 (Below w.heap.size w w75) := ⟨h2_⟩
              clear BK831; clear HB; clear h0_ h1_ h2_; have HO855 := n0_; have BK831 := n1_; have HB := n2_; clear n0_ n1_ n2_; have hHeld : w75.cell? ⟨w.heap.size, 0, none⟩ = some (.slice A0 evs.length c0) ∧ w75.cell? ⟨w.heap.size, 1, none⟩ = some (.slice A1 gaps.length c1) := hS_; refine norm_ (a' := ?_) ?_ ?_; rotate_left
              ·simp only [putAll, Act.put, Sa, Sb, Sc]; rfl
              refine two_ (i := 8) (j := 11) (Ni := some 172) (Nj := some 26) #[true, true, true, true, true, true, true, true, true, false, false, false, false] #[true, true, true, true, true, true, true, true, false, false, false, true, false] rfl rfl rfl rfl (Go.Proofs.YtobcecgcegoooaaW.PrintLast.two_of HT_.out (by kernel_rfl)) (by decide) (by decide) (fun K hK => ?_) (fun K hK => ?_)
              ·skip
               refine Kd.R_lit_step k86 _ 86 ?hg (N := 172) ?hd (xs := ([(⟨y, x, 0, 2000000⟩ : S86)] : List (S86))) (inner := [.int .i64 y, .int .i64 x, .int .i64 0, .int .i64 2000000]) (ok := fun _ => True) (okp := fun _ => True) ?hr ?hp (fun _ hk => hk) trivial (Below.refl _ _) (Nat.le_refl _) (by simp) ?_; (case hd => rfl); (case hg => rfl); (case hr => first | (go_simp; done) | (go_simp; rfl)); (case hp => exact (Reps.c4 (show Kd.M k86 _ _ _ (⟨y, x, 0, 2000000⟩ : S86) [.int .i64 y, .int .i64 x, .int .i64 0, .int .i64 2000000] from (k86_mkM _ _ _ (⟨y, x, 0, 2000000⟩ : S86) )) (Reps.none _ _))); intro v857 w76 ho77 hb hg_ hnew_; clear hg_ hnew_
               (first | rw [← Ny856.out] at ho77 | (simp only [Int.reduceToNat] at ho77; rw [← Ny856.out] at ho77))
               have n0_ := Aa (Kd.R_elder' (by (with_reducible repeat (first | apply Kd.R_alloc | apply Kd.R_drewN | apply Kd.R_drew)); exact HO855.out) (Kd.R_base ho77) hb); have n1_ := Aa (Kd.R_lower (Kd.R_new' ho77 (Kd.R_lt (by (with_reducible repeat (first | apply Kd.R_alloc | apply Kd.R_drewN | apply Kd.R_drew)); exact HO855.out))) (below_size (by repeat (first | (with_reducible first | exact HB.out | apply Ba | apply Pn | apply Dn | refine Bz ?_ GE831.out) | exact HB.out)))); have n2_ := Aa (blk_below (g := w.heap.size) (o := .cells #[.slice A0 evs.length c0, .slice A1 gaps.length c1] 39 (0, 0)) (by (with_reducible repeat (first | refine Kn ?_ _ | refine Kw ?_ | refine Ka ?_ _)); exact BK831.out) hb); have n3_ := Aa (Bp (by repeat (first | (with_reducible first | exact HB.out | apply Ba | apply Pn | apply Dn | refine Bz ?_ GE831.out) | exact HB.out)) hb); clear HO855; clear BK831; clear HB; have HO855 := n0_; have HO858 := n1_; have BK831 := n2_; have HB := n3_; clear n0_ n1_ n2_ n3_; clear hb ho77; refine hK.out _ _ ⟨(Bc BK831.out 0).trans rfl, (Bc BK831.out 1).trans rfl⟩ (fun hHeld => ?_); clear hK K; refine norm_ (a' := ?_) ?_ ?_; rotate_left
               ·show Act.put _ (some 172) _ = _; simp only [Act.put, Sa, Sb, Sc, i64_w, i32_w]; rfl
               exact norm_ (by first | (simp only [putAll, Act.put, Sa, Sb, Sc]; done) | (simp only [putAll, Act.put, Sa, Sb, Sc]; rfl)) (hJ4_8 (v854, v857) _ ⟨hHeld, (by (with_reducible repeat (first | apply Kd.R_alloc | apply Kd.R_drewN | apply Kd.R_drew)); exact Kd.R_mono HO855.out (fun _ hk => hk.2)), (by (with_reducible repeat (first | apply Kd.R_alloc | apply Kd.R_drewN | apply Kd.R_drew)); exact Kd.R_mono HO858.out (fun _ hk => hk.2)), (by (with_reducible repeat (first | refine Kn ?_ _ | refine Kw ?_ | refine Ka ?_ _)); exact BK831.out), (by repeat (first | (with_reducible first | exact HB.out | apply Ba | apply Pn | apply Dn | refine Bz ?_ GE831.out) | exact HB.out))⟩)
              ·skip
               refine box_step ?hg (N := 26) ?hd (cs := #[.slice none 0 0, .slice none 0 0]) (t := 39) ?hr ?_; (case hd => rfl); (case hg => rfl); (case hr => first | (go_simp; done) | (go_simp; rfl)); intro gb862 hg w76 hbox hb; have n0_ := Aa (Kd.R_below (by (with_reducible repeat (first | apply Kd.R_alloc | apply Kd.R_drewN | apply Kd.R_drew)); exact HO855.out) hb); have n1_ := Aa (blk_below (g := w.heap.size) (o := .cells #[.slice A0 evs.length c0, .slice A1 gaps.length c1] 39 (0, 0)) (by (with_reducible repeat (first | refine Kn ?_ _ | refine Kw ?_ | refine Ka ?_ _)); exact BK831.out) hb); have n2_ := Aa (Bp (by repeat (first | (with_reducible first | exact HB.out | apply Ba | apply Pn | apply Dn | refine Bz ?_ GE831.out) | exact HB.out)) hb); have n3_ := Aa (hbox); have n4_ := Aa ((by rw [hg]; exact (below_size (by repeat (first | (with_reducible first | exact HB.out | apply Ba | apply Pn | apply Dn | refine Bz ?_ GE831.out) | exact HB.out))) : w.heap.size ≤ gb862)); have n5_ := Aa ((by rw [hg]; exact (below_size (by repeat (first | (with_reducible first | exact HB.out | apply Ba | apply Pn | apply Dn | refine Bz ?_ GE831.out) | exact HB.out))) : w.heap.size ≤ gb862)); have n6_ := Aa ((by rw [hg]; exact Nat.ne_of_lt (blk_lt (g := w.heap.size) (o := .cells #[.slice A0 evs.length c0, .slice A1 gaps.length c1] 39 (0, 0)) (by (with_reducible repeat (first | refine Kn ?_ _ | refine Kw ?_ | refine Ka ?_ _)); exact BK831.out)) : w.heap.size ≠ gb862)); have n7_ := Aa ((by rw [hg]; exact Nat.ne_of_gt (blk_lt (g := w.heap.size) (o := .cells #[.slice A0 evs.length c0, .slice A1 gaps.length c1] 39 (0, 0)) (by (with_reducible repeat (first | refine Kn ?_ _ | refine Kw ?_ | refine Ka ?_ _)); exact BK831.out)) : gb862 ≠ w.heap.size)); clear HO855; clear BK831; clear HB; have HO855 := n0_; have BK831 := n1_; have HB := n2_; have BK862 := n3_; have GW862 := n4_; have GE862 := n5_; have NB831_862 := n6_; have NB862_831 := n7_; clear n0_ n1_ n2_ n3_ n4_ n5_ n6_ n7_; clear hb hbox hg; refine hK.out _ _ ⟨(Bc BK831.out 0).trans rfl, (Bc BK831.out 1).trans rfl⟩ (fun hHeld => ?_); clear hK K; refine norm_ (a' := ?_) ?_ ?_; rotate_left
               ·show Act.put _ (some 26) _ = _; simp only [Act.put, Sa, Sb, Sc, i64_w, i32_w]; rfl
               exact norm_ (by first | (simp only [putAll, Act.put, Sa, Sb, Sc]; done) | (simp only [putAll, Act.put, Sa, Sb, Sc]; rfl)) (hJ4_11 (v854, gb862) _ ⟨hHeld, (by (with_reducible repeat (first | apply Kd.R_alloc | apply Kd.R_drewN | apply Kd.R_drew)); exact HO855.out), (by (with_reducible repeat (first | refine Kn ?_ _ | refine Kw ?_ | refine Ka ?_ _)); exact BK831.out), (by (with_reducible repeat (first | refine Kn ?_ _ | refine Kw ?_ | refine Ka ?_ _)); exact BK862.out), GW862.out, GE862.out, NB831_862.out, NB862_831.out, (by repeat (first | (with_reducible first | exact HB.out | apply Ba | apply Pn | apply Dn | refine Bz ?_ GE831.out | refine Bz ?_ GE862.out) | exact HB.out))⟩)
            ·skip
             rintro ⟨v857, gb862⟩ w77 ⟨hS_, h0_, h1_, h2_, h3_, h4_, h5_, h6_, h7_⟩
             have n0_ : Aside0 (Kd.R k86 86 w77 w.heap.size (fun _ => True) v857 y856) := ⟨h0_⟩
             have n1_ : Aside0 (w77.heap[w.heap.size]? = some (.cells #[.slice A0 evs.length c0, .slice A1 gaps.length c1] 39 (0, 0))) := ⟨h1_⟩
             have n2_ : Aside0 (w77.heap[gb862]? = some (.cells #[.slice none 0 0, .slice none 0 0] 39 (0, 0))) := ⟨h2_⟩
             have n3_ : Aside0 (w.heap.size ≤ gb862) := ⟨h3_⟩
             have n4_ : Aside0 (w.heap.size ≤ gb862) := ⟨h4_⟩
             have n5_ : Aside0 (w.heap.size ≠ gb862) := ⟨h5_⟩
             have n6_ : Aside0 (gb862 ≠ w.heap.size) := ⟨h6_⟩
             have n7_ : Aside0 (Below w.heap.size w w77) := ⟨h7_⟩
             clear BK831; clear HB; clear h0_ h1_ h2_ h3_ h4_ h5_ h6_ h7_; have HO858 := n0_; have BK831 := n1_; have BK862 := n2_; have GW862 := n3_; have GE862 := n4_; have NB831_862 := n5_; have NB862_831 := n6_; have HB := n7_; clear n0_ n1_ n2_ n3_ n4_ n5_ n6_ n7_; have hHeld : w77.cell? ⟨w.heap.size, 0, none⟩ = some (.slice A0 evs.length c0) ∧ w77.cell? ⟨w.heap.size, 1, none⟩ = some (.slice A1 gaps.length c1) := hS_; refine norm_ (a' := ?_) ?_ ?_; rotate_left
             ·simp only [putAll, Act.put, Sa, Sb, Sc]; rfl
             refine one_ (i := 4) (N := some 168) #[true, true, true, true, true, true, true, true, true, false, false, true, false] rfl rfl (one_of HT_.out (by kernel_rfl)) (by decide) (fun K hK => ?_); refine goes_ Try.func60 (by kernel_rfl) rfl #[.slice A1 gaps.length c1] (by rfl) rfl rfl (by (try simp only [List.map_toArray, List.map_cons, List.map_nil]); first | done | rfl | (simp only [List.length_drop, List.length_take]; rfl)) ?_; with_reducible refine (cloneG_calls _ _ gaps _ ?side1 ?side2 HG20.out).mono ?_
             (case side1 => repeat (first | exact (Kd.C_below HR0_1.out HB.out) | (with_reducible refine Kd.C_alloc ?_ _) | (with_reducible refine Kd.C_drewN ?_ _) | (with_reducible refine Kd.C_drew ?_)))
             (case side2 => exact HC0_1.out)
             rintro e w78 ⟨v854, rfl, ho0, hb⟩; refine ⟨_, rfl, ?_⟩; have n0_ := Aa (Kd.R_elder' (by (with_reducible repeat (first | apply Kd.R_alloc | apply Kd.R_drewN | apply Kd.R_drew)); exact HO858.out) (Kd.R_base ho0) hb); have n1_ := Aa (Kd.R_lower (Kd.R_new' ho0 (Kd.R_lt (by (with_reducible repeat (first | apply Kd.R_alloc | apply Kd.R_drewN | apply Kd.R_drew)); exact HO858.out))) (below_size (by repeat (first | (with_reducible first | exact HB.out | apply Ba | apply Pn | apply Dn | refine Bz ?_ GE831.out | refine Bz ?_ GE862.out) | exact HB.out)))); have n2_ := Aa (blk_below (g := w.heap.size) (o := .cells #[.slice A0 evs.length c0, .slice A1 gaps.length c1] 39 (0, 0)) (by (with_reducible repeat (first | refine Kn ?_ _ | refine Kw ?_ | refine Ka ?_ _)); exact BK831.out) hb); have n3_ := Aa (blk_below (g := gb862) (o := .cells #[.slice none 0 0, .slice none 0 0] 39 (0, 0)) (by (with_reducible repeat (first | refine Kn ?_ _ | refine Kw ?_ | refine Ka ?_ _)); exact BK862.out) hb); have n4_ := Aa (Bp (by repeat (first | (with_reducible first | exact HB.out | apply Ba | apply Pn | apply Dn | refine Bz ?_ GE831.out | refine Bz ?_ GE862.out) | exact HB.out)) hb); clear HO858; clear BK831; clear BK862; clear HB; have HO858 := n0_; have HO855 := n1_; have BK831 := n2_; have BK862 := n3_; have HB := n4_; clear n0_ n1_ n2_ n3_ n4_
             (try clear hb)
             (try clear hb2)
             (try clear hk)
             (try clear hi)
             (try clear ho0)
             refine hK.out _ _ ⟨(Bc BK831.out 0).trans rfl, (Bc BK831.out 1).trans rfl⟩ (fun hHeld => ?_); clear hK K; refine norm_ (a' := ?_) ?_ ?_; rotate_left
             ·show Act.put _ (some 168) _ = _; simp only [Act.put, Sa, Sb, Sc, i64_w, i32_w]; rfl
             exact norm_ (by first | (simp only [putAll, Act.put, Sa, Sb, Sc]; done) | (simp only [putAll, Act.put, Sa, Sb, Sc]; rfl)) (hJ4_8_11 (v854, v857, gb862) _ ⟨hHeld, (by (with_reducible repeat (first | apply Kd.R_alloc | apply Kd.R_drewN | apply Kd.R_drew)); exact Kd.R_mono HO855.out (fun _ hk => hk.2)), (by (with_reducible repeat (first | apply Kd.R_alloc | apply Kd.R_drewN | apply Kd.R_drew)); exact Kd.R_mono HO858.out (fun _ hk => hk.2)), (by (with_reducible repeat (first | refine Kn ?_ _ | refine Kw ?_ | refine Ka ?_ _)); exact BK831.out), (by (with_reducible repeat (first | refine Kn ?_ _ | refine Kw ?_ | refine Ka ?_ _)); exact BK862.out), GW862.out, GE862.out, NB831_862.out, NB862_831.out, (by repeat (first | (with_reducible first | exact HB.out | apply Ba | apply Pn | apply Dn | refine Bz ?_ GE831.out | refine Bz ?_ GE862.out) | exact HB.out))⟩)
           ·skip
            rintro ⟨v854, gb862⟩ w76 ⟨hS_, h0_, h1_, h2_, h3_, h4_, h5_, h6_, h7_⟩
            have n0_ : Aside0 (Kd.R k86 86 w76 w.heap.size (fun _ => True) v854 gaps) := ⟨h0_⟩
            have n1_ : Aside0 (w76.heap[w.heap.size]? = some (.cells #[.slice A0 evs.length c0, .slice A1 gaps.length c1] 39 (0, 0))) := ⟨h1_⟩
            have n2_ : Aside0 (w76.heap[gb862]? = some (.cells #[.slice none 0 0, .slice none 0 0] 39 (0, 0))) := ⟨h2_⟩
            have n3_ : Aside0 (w.heap.size ≤ gb862) := ⟨h3_⟩
            have n4_ : Aside0 (w.heap.size ≤ gb862) := ⟨h4_⟩
            have n5_ : Aside0 (w.heap.size ≠ gb862) := ⟨h5_⟩
            have n6_ : Aside0 (gb862 ≠ w.heap.size) := ⟨h6_⟩
            have n7_ : Aside0 (Below w.heap.size w w76) := ⟨h7_⟩
            clear BK831; clear HB; clear h0_ h1_ h2_ h3_ h4_ h5_ h6_ h7_; have HO855 := n0_; have BK831 := n1_; have BK862 := n2_; have GW862 := n3_; have GE862 := n4_; have NB831_862 := n5_; have NB862_831 := n6_; have HB := n7_; clear n0_ n1_ n2_ n3_ n4_ n5_ n6_ n7_; have hHeld : w76.cell? ⟨w.heap.size, 0, none⟩ = some (.slice A0 evs.length c0) ∧ w76.cell? ⟨w.heap.size, 1, none⟩ = some (.slice A1 gaps.length c1) := hS_; refine norm_ (a' := ?_) ?_ ?_; rotate_left
            ·simp only [putAll, Act.put, Sa, Sb, Sc]; rfl
            refine one_ (i := 8) (N := some 172) #[true, true, true, true, true, true, true, true, true, false, false, true, false] rfl rfl (one_of HT_.out (by kernel_rfl)) (by decide) (fun K hK => ?_); refine Kd.R_lit_step k86 _ 86 ?hg (N := 172) ?hd (xs := ([(⟨y, x, 0, 2000000⟩ : S86)] : List (S86))) (inner := [.int .i64 y, .int .i64 x, .int .i64 0, .int .i64 2000000]) (ok := fun _ => True) (okp := fun _ => True) ?hr ?hp (fun _ hk => hk) trivial (Below.refl _ _) (Nat.le_refl _) (by simp) ?_; (case hd => rfl); (case hg => rfl); (case hr => first | (go_simp; done) | (go_simp; rfl)); (case hp => exact (Reps.c4 (show Kd.M k86 _ _ _ (⟨y, x, 0, 2000000⟩ : S86) [.int .i64 y, .int .i64 x, .int .i64 0, .int .i64 2000000] from (k86_mkM _ _ _ (⟨y, x, 0, 2000000⟩ : S86) )) (Reps.none _ _))); intro v857 w77 ho78 hb hg_ hnew_; clear hg_ hnew_
            (first | rw [← Ny856.out] at ho78 | (simp only [Int.reduceToNat] at ho78; rw [← Ny856.out] at ho78))
            have n0_ := Aa (Kd.R_elder' (by (with_reducible repeat (first | apply Kd.R_alloc | apply Kd.R_drewN | apply Kd.R_drew)); exact HO855.out) (Kd.R_base ho78) hb); have n1_ := Aa (Kd.R_lower (Kd.R_new' ho78 (Kd.R_lt (by (with_reducible repeat (first | apply Kd.R_alloc | apply Kd.R_drewN | apply Kd.R_drew)); exact HO855.out))) (below_size (by repeat (first | (with_reducible first | exact HB.out | apply Ba | apply Pn | apply Dn | refine Bz ?_ GE831.out | refine Bz ?_ GE862.out) | exact HB.out)))); have n2_ := Aa (blk_below (g := w.heap.size) (o := .cells #[.slice A0 evs.length c0, .slice A1 gaps.length c1] 39 (0, 0)) (by (with_reducible repeat (first | refine Kn ?_ _ | refine Kw ?_ | refine Ka ?_ _)); exact BK831.out) hb); have n3_ := Aa (blk_below (g := gb862) (o := .cells #[.slice none 0 0, .slice none 0 0] 39 (0, 0)) (by (with_reducible repeat (first | refine Kn ?_ _ | refine Kw ?_ | refine Ka ?_ _)); exact BK862.out) hb); have n4_ := Aa (Bp (by repeat (first | (with_reducible first | exact HB.out | apply Ba | apply Pn | apply Dn | refine Bz ?_ GE831.out | refine Bz ?_ GE862.out) | exact HB.out)) hb); clear HO855; clear BK831; clear BK862; clear HB; have HO855 := n0_; have HO858 := n1_; have BK831 := n2_; have BK862 := n3_; have HB := n4_; clear n0_ n1_ n2_ n3_ n4_; clear hb ho78; refine hK.out _ _ ⟨(Bc BK831.out 0).trans rfl, (Bc BK831.out 1).trans rfl⟩ (fun hHeld => ?_); clear hK K; refine norm_ (a' := ?_) ?_ ?_; rotate_left
            ·show Act.put _ (some 172) _ = _; simp only [Act.put, Sa, Sb, Sc, i64_w, i32_w]; rfl
            exact norm_ (by first | (simp only [putAll, Act.put, Sa, Sb, Sc]; done) | (simp only [putAll, Act.put, Sa, Sb, Sc]; rfl)) (hJ4_8_11 (v854, v857, gb862) _ ⟨hHeld, (by (with_reducible repeat (first | apply Kd.R_alloc | apply Kd.R_drewN | apply Kd.R_drew)); exact Kd.R_mono HO855.out (fun _ hk => hk.2)), (by (with_reducible repeat (first | apply Kd.R_alloc | apply Kd.R_drewN | apply Kd.R_drew)); exact Kd.R_mono HO858.out (fun _ hk => hk.2)), (by (with_reducible repeat (first | refine Kn ?_ _ | refine Kw ?_ | refine Ka ?_ _)); exact BK831.out), (by (with_reducible repeat (first | refine Kn ?_ _ | refine Kw ?_ | refine Ka ?_ _)); exact BK862.out), GW862.out, GE862.out, NB831_862.out, NB862_831.out, (by repeat (first | (with_reducible first | exact HB.out | apply Ba | apply Pn | apply Dn | refine Bz ?_ GE831.out | refine Bz ?_ GE862.out) | exact HB.out))⟩)
          ·skip
           rintro ⟨v854, v857⟩ w77 ⟨hS_, h0_, h1_, h2_, h3_⟩
           have n0_ : Aside0 (Kd.R k86 86 w77 w.heap.size (fun k_ => some k_ ≠ (v857 : Value).ownBlock) v854 gaps) := ⟨h0_⟩
           have n1_ : Aside0 (Kd.R k86 86 w77 w.heap.size (fun k_ => some k_ ≠ (v854 : Value).ownBlock) v857 y856) := ⟨h1_⟩
           have n2_ : Aside0 (w77.heap[w.heap.size]? = some (.cells #[.slice A0 evs.length c0, .slice A1 gaps.length c1] 39 (0, 0))) := ⟨h2_⟩
           have n3_ : Aside0 (Below w.heap.size w w77) := ⟨h3_⟩
           clear BK831; clear HB; clear h0_ h1_ h2_ h3_; have HO855 := n0_; have HO858 := n1_; have BK831 := n2_; have HB := n3_; clear n0_ n1_ n2_ n3_; have hHeld : w77.cell? ⟨w.heap.size, 0, none⟩ = some (.slice A0 evs.length c0) ∧ w77.cell? ⟨w.heap.size, 1, none⟩ = some (.slice A1 gaps.length c1) := hS_; obtain ⟨Ao79, co79, eo79⟩ := Kd.R_slice HO858.out
           (first | subst eo79 | (injection eo79 with f1_ f2_ f3_; have f4_ := f1_.symm; have f5_ := f3_.symm; clear f1_ f2_ f3_; subst f4_; subst f5_))
           refine norm_ (a' := ?_) ?_ ?_; rotate_left
           ·simp only [putAll, Act.put, Sa, Sb, Sc]; rfl
           refine two_ (i := 9) (j := 11) (Ni := some 173) (Nj := some 26) #[true, true, true, true, true, true, true, true, true, true, false, false, false] #[true, true, true, true, true, true, true, true, true, false, false, true, false] rfl rfl rfl rfl (Go.Proofs.YtobcecgcegoooaaW.PrintLast.two_of HT_.out (by kernel_rfl)) (by decide) (by decide) (fun K hK => ?_) (fun K hK => ?_)
           ·skip
            refine gap_append2 (w0 := w) (base := w.heap.size) (v0 := v854) (gaps := gaps) (ys := y856) (ok := (fun k_ => some k_ ≠ (.slice Ao79 y856.length co79 : Value).ownBlock)) (by rfl) rfl rfl rfl ?aO ?aR ?aF ?aB ?aS ?aL ?_
            (case aR => repeat (first | exact (Kd.R_reads' HO858.out).2.2 | (with_reducible refine Kd.C_alloc ?_ _) | (with_reducible refine Kd.C_drewN ?_ _) | (with_reducible refine Kd.C_drew ?_)))
            (case aB => exact (by repeat (first | (with_reducible first | exact HB.out | apply Ba | apply Pn | apply Dn | refine Bz ?_ GE831.out) | exact HB.out)))
            (case aF => exact (fun k_ hk => Kd.fresh' (Kd.R_lt (by (with_reducible repeat (first | apply Kd.R_alloc | apply Kd.R_drewN | apply Kd.R_drew)); exact HO858.out)) k_ hk))
            (case aO => exact (by (with_reducible repeat (first | apply Kd.R_alloc | apply Kd.R_drewN | apply Kd.R_drew)); exact HO855.out))
            (case aS => exact (below_size (by repeat (first | (with_reducible first | exact HB.out | apply Ba | apply Pn | apply Dn | refine Bz ?_ GE831.out) | exact HB.out))))
            (case aL => have := LMc68.out; omega)
            intro v860 w78 ho hb hg hat; rw [← Ny859.out] at ho; have n0_ := Aa (blk_grown (g := w.heap.size) (o := .cells #[.slice A0 evs.length c0, .slice A1 gaps.length c1] 39 (0, 0)) (by (with_reducible repeat (first | refine Kn ?_ _ | refine Kw ?_ | refine Ka ?_ _)); exact BK831.out) hg (Kd.R_ne HO855.out BK831.out (by decide))); have n1_ := Aa (Kd.R_after (ok := (fun _ => True)) (by (with_reducible repeat (first | apply Kd.R_alloc | apply Kd.R_drewN | apply Kd.R_drew)); exact Kd.R_mono HO858.out (fun _ hk => ⟨trivial, hk⟩)) hg hat); have n2_ := Aa (hb); have n3_ := Aa (ho); clear BK831; clear HO858; clear HB; clear HO855; have BK831 := n0_; have HO858 := n1_; have HB := n2_; have HO861 := n3_; clear n0_ n1_ n2_ n3_; clear ho hb hg hat; obtain ⟨Ao80, co80, eo80⟩ := Kd.R_slice HO861.out
            (first | subst eo80 | (injection eo80 with f1_ f2_ f3_; have f4_ := f1_.symm; have f5_ := f3_.symm; clear f1_ f2_ f3_; subst f4_; subst f5_))
            refine hK.out _ _ ⟨(Bc BK831.out 0).trans rfl, (Bc BK831.out 1).trans rfl⟩ (fun hHeld => ?_); clear hK K; refine norm_ (a' := ?_) ?_ ?_; rotate_left
            ·show Act.put _ (some 173) _ = _; simp only [Act.put, Sa, Sb, Sc, i64_w, i32_w]; rfl
            refine pure_ (i := 10) (N := some 174) (v := ?_) (a' := ?_) #[true, true, true, true, true, true, true, true, true, true, true, false, false] rfl rfl (any_of HT_.out (by kernel_rfl)) (fun _ _ _ h => h) (Or.inl ⟨by rfl, ?_⟩) ?_ ?_; rotate_left
            ·intro w'; go_simp; with_reducible rfl
            rotate_left
            ·simp only [Act.put, Sa, Sb, Sc, i64_w, i32_w]; rfl
            exact norm_ (by first | (simp only [putAll, Act.put, Sa, Sb, Sc]; done) | (simp only [putAll, Act.put, Sa, Sb, Sc]; rfl)) (hJ4_8_9 (v854, .slice Ao79 y856.length co79, .slice Ao80 gp.length co80) _ ⟨hHeld, (by (with_reducible repeat (first | apply Kd.R_alloc | apply Kd.R_drewN | apply Kd.R_drew)); exact Kd.R_mono HO858.out (fun _ hk => hk.2)), (by (with_reducible repeat (first | apply Kd.R_alloc | apply Kd.R_drewN | apply Kd.R_drew)); exact HO861.out), (by (with_reducible repeat (first | refine Kn ?_ _ | refine Kw ?_ | refine Ka ?_ _)); exact BK831.out), (by repeat (first | (with_reducible first | exact HB.out | apply Ba | apply Pn | apply Dn | refine Bz ?_ GE831.out) | exact HB.out))⟩)
           ·skip
            refine box_step ?hg (N := 26) ?hd (cs := #[.slice none 0 0, .slice none 0 0]) (t := 39) ?hr ?_; (case hd => rfl); (case hg => rfl); (case hr => first | (go_simp; done) | (go_simp; rfl)); intro gb862 hg w78 hbox hb; have n0_ := Aa (Kd.R_below (by (with_reducible repeat (first | apply Kd.R_alloc | apply Kd.R_drewN | apply Kd.R_drew)); exact HO855.out) hb); have n1_ := Aa (Kd.R_below (by (with_reducible repeat (first | apply Kd.R_alloc | apply Kd.R_drewN | apply Kd.R_drew)); exact HO858.out) hb); have n2_ := Aa (blk_below (g := w.heap.size) (o := .cells #[.slice A0 evs.length c0, .slice A1 gaps.length c1] 39 (0, 0)) (by (with_reducible repeat (first | refine Kn ?_ _ | refine Kw ?_ | refine Ka ?_ _)); exact BK831.out) hb); have n3_ := Aa (Bp (by repeat (first | (with_reducible first | exact HB.out | apply Ba | apply Pn | apply Dn | refine Bz ?_ GE831.out) | exact HB.out)) hb); have n4_ := Aa (hbox); have n5_ := Aa ((by rw [hg]; exact (below_size (by repeat (first | (with_reducible first | exact HB.out | apply Ba | apply Pn | apply Dn | refine Bz ?_ GE831.out) | exact HB.out))) : w.heap.size ≤ gb862)); have n6_ := Aa ((by rw [hg]; exact (below_size (by repeat (first | (with_reducible first | exact HB.out | apply Ba | apply Pn | apply Dn | refine Bz ?_ GE831.out) | exact HB.out))) : w.heap.size ≤ gb862)); have n7_ := Aa ((by rw [hg]; exact Nat.ne_of_lt (blk_lt (g := w.heap.size) (o := .cells #[.slice A0 evs.length c0, .slice A1 gaps.length c1] 39 (0, 0)) (by (with_reducible repeat (first | refine Kn ?_ _ | refine Kw ?_ | refine Ka ?_ _)); exact BK831.out)) : w.heap.size ≠ gb862)); have n8_ := Aa ((by rw [hg]; exact Nat.ne_of_gt (blk_lt (g := w.heap.size) (o := .cells #[.slice A0 evs.length c0, .slice A1 gaps.length c1] 39 (0, 0)) (by (with_reducible repeat (first | refine Kn ?_ _ | refine Kw ?_ | refine Ka ?_ _)); exact BK831.out)) : gb862 ≠ w.heap.size)); clear HO855; clear HO858; clear BK831; clear HB; have HO855 := n0_; have HO858 := n1_; have BK831 := n2_; have HB := n3_; have BK862 := n4_; have GW862 := n5_; have GE862 := n6_; have NB831_862 := n7_; have NB862_831 := n8_; clear n0_ n1_ n2_ n3_ n4_ n5_ n6_ n7_ n8_; clear hb hbox hg; refine hK.out _ _ ⟨(Bc BK831.out 0).trans rfl, (Bc BK831.out 1).trans rfl⟩ (fun hHeld => ?_); clear hK K; refine norm_ (a' := ?_) ?_ ?_; rotate_left
            ·show Act.put _ (some 26) _ = _; simp only [Act.put, Sa, Sb, Sc, i64_w, i32_w]; rfl
            exact norm_ (by first | (simp only [putAll, Act.put, Sa, Sb, Sc]; done) | (simp only [putAll, Act.put, Sa, Sb, Sc]; rfl)) (hJ4_8_11 (v854, .slice Ao79 y856.length co79, gb862) _ ⟨hHeld, (by (with_reducible repeat (first | apply Kd.R_alloc | apply Kd.R_drewN | apply Kd.R_drew)); exact HO855.out), (by (with_reducible repeat (first | apply Kd.R_alloc | apply Kd.R_drewN | apply Kd.R_drew)); exact HO858.out), (by (with_reducible repeat (first | refine Kn ?_ _ | refine Kw ?_ | refine Ka ?_ _)); exact BK831.out), (by (with_reducible repeat (first | refine Kn ?_ _ | refine Kw ?_ | refine Ka ?_ _)); exact BK862.out), GW862.out, GE862.out, NB831_862.out, NB862_831.out, (by repeat (first | (with_reducible first | exact HB.out | apply Ba | apply Pn | apply Dn | refine Bz ?_ GE831.out | refine Bz ?_ GE862.out) | exact HB.out))⟩)
         ·skip
          rintro ⟨v854, v857, gb862⟩ w78 ⟨hS_, h0_, h1_, h2_, h3_, h4_, h5_, h6_, h7_, h8_⟩
          have n0_ : Aside0 (Kd.R k86 86 w78 w.heap.size (fun k_ => some k_ ≠ (v857 : Value).ownBlock) v854 gaps) := ⟨h0_⟩
          have n1_ : Aside0 (Kd.R k86 86 w78 w.heap.size (fun k_ => some k_ ≠ (v854 : Value).ownBlock) v857 y856) := ⟨h1_⟩
          have n2_ : Aside0 (w78.heap[w.heap.size]? = some (.cells #[.slice A0 evs.length c0, .slice A1 gaps.length c1] 39 (0, 0))) := ⟨h2_⟩
          have n3_ : Aside0 (w78.heap[gb862]? = some (.cells #[.slice none 0 0, .slice none 0 0] 39 (0, 0))) := ⟨h3_⟩
          have n4_ : Aside0 (w.heap.size ≤ gb862) := ⟨h4_⟩
          have n5_ : Aside0 (w.heap.size ≤ gb862) := ⟨h5_⟩
          have n6_ : Aside0 (w.heap.size ≠ gb862) := ⟨h6_⟩
          have n7_ : Aside0 (gb862 ≠ w.heap.size) := ⟨h7_⟩
          have n8_ : Aside0 (Below w.heap.size w w78) := ⟨h8_⟩
          clear BK831; clear HB; clear h0_ h1_ h2_ h3_ h4_ h5_ h6_ h7_ h8_; have HO855 := n0_; have HO858 := n1_; have BK831 := n2_; have BK862 := n3_; have GW862 := n4_; have GE862 := n5_; have NB831_862 := n6_; have NB862_831 := n7_; have HB := n8_; clear n0_ n1_ n2_ n3_ n4_ n5_ n6_ n7_ n8_; have hHeld : w78.cell? ⟨w.heap.size, 0, none⟩ = some (.slice A0 evs.length c0) ∧ w78.cell? ⟨w.heap.size, 1, none⟩ = some (.slice A1 gaps.length c1) := hS_; obtain ⟨Ao80, co80, eo80⟩ := Kd.R_slice HO858.out
          (first | subst eo80 | (injection eo80 with f1_ f2_ f3_; have f4_ := f1_.symm; have f5_ := f3_.symm; clear f1_ f2_ f3_; subst f4_; subst f5_))
          refine norm_ (a' := ?_) ?_ ?_; rotate_left
          ·simp only [putAll, Act.put, Sa, Sb, Sc]; rfl
          refine one_ (i := 9) (N := some 173) #[true, true, true, true, true, true, true, true, true, true, false, true, false] rfl rfl (one_of HT_.out (by kernel_rfl)) (by decide) (fun K hK => ?_); refine gap_append2 (w0 := w) (base := w.heap.size) (v0 := v854) (gaps := gaps) (ys := y856) (ok := (fun k_ => some k_ ≠ (.slice Ao80 y856.length co80 : Value).ownBlock)) (by rfl) rfl rfl rfl ?aO ?aR ?aF ?aB ?aS ?aL ?_
          (case aR => repeat (first | exact (Kd.R_reads' HO858.out).2.2 | (with_reducible refine Kd.C_alloc ?_ _) | (with_reducible refine Kd.C_drewN ?_ _) | (with_reducible refine Kd.C_drew ?_)))
          (case aB => exact (by repeat (first | (with_reducible first | exact HB.out | apply Ba | apply Pn | apply Dn | refine Bz ?_ GE831.out | refine Bz ?_ GE862.out) | exact HB.out)))
          (case aF => exact (fun k_ hk => Kd.fresh' (Kd.R_lt (by (with_reducible repeat (first | apply Kd.R_alloc | apply Kd.R_drewN | apply Kd.R_drew)); exact HO858.out)) k_ hk))
          (case aO => exact (by (with_reducible repeat (first | apply Kd.R_alloc | apply Kd.R_drewN | apply Kd.R_drew)); exact HO855.out))
          (case aS => exact (below_size (by repeat (first | (with_reducible first | exact HB.out | apply Ba | apply Pn | apply Dn | refine Bz ?_ GE831.out | refine Bz ?_ GE862.out) | exact HB.out))))
          (case aL => have := LMc68.out; omega)
          intro v860 w79 ho hb hg hat; rw [← Ny859.out] at ho; have n0_ := Aa (blk_grown (g := w.heap.size) (o := .cells #[.slice A0 evs.length c0, .slice A1 gaps.length c1] 39 (0, 0)) (by (with_reducible repeat (first | refine Kn ?_ _ | refine Kw ?_ | refine Ka ?_ _)); exact BK831.out) hg (Kd.R_ne HO855.out BK831.out (by decide))); have n1_ := Aa (Kd.R_after (ok := (fun _ => True)) (by (with_reducible repeat (first | apply Kd.R_alloc | apply Kd.R_drewN | apply Kd.R_drew)); exact Kd.R_mono HO858.out (fun _ hk => ⟨trivial, hk⟩)) hg hat); have n2_ := Aa (blk_grown (g := gb862) (o := .cells #[.slice none 0 0, .slice none 0 0] 39 (0, 0)) (by (with_reducible repeat (first | refine Kn ?_ _ | refine Kw ?_ | refine Ka ?_ _)); exact BK862.out) hg (Kd.R_ne HO855.out BK862.out (by decide))); have n3_ := Aa (hb); have n4_ := Aa (ho); clear BK831; clear HO858; clear BK862; clear HB; clear HO855; have BK831 := n0_; have HO858 := n1_; have BK862 := n2_; have HB := n3_; have HO861 := n4_; clear n0_ n1_ n2_ n3_ n4_; clear ho hb hg hat; obtain ⟨Ao81, co81, eo81⟩ := Kd.R_slice HO861.out
          (first | subst eo81 | (injection eo81 with f1_ f2_ f3_; have f4_ := f1_.symm; have f5_ := f3_.symm; clear f1_ f2_ f3_; subst f4_; subst f5_))
          refine hK.out _ _ ⟨(Bc BK831.out 0).trans rfl, (Bc BK831.out 1).trans rfl⟩ (fun hHeld => ?_); clear hK K; refine norm_ (a' := ?_) ?_ ?_; rotate_left
          ·show Act.put _ (some 173) _ = _; simp only [Act.put, Sa, Sb, Sc, i64_w, i32_w]; rfl
          refine pure_ (i := 10) (N := some 174) (v := ?_) (a' := ?_) #[true, true, true, true, true, true, true, true, true, true, true, true, false] rfl rfl (any_of HT_.out (by kernel_rfl)) (fun _ _ _ h => h) (Or.inl ⟨by rfl, ?_⟩) ?_ ?_; rotate_left
          ·intro w'; go_simp; with_reducible rfl
          rotate_left
          ·simp only [Act.put, Sa, Sb, Sc, i64_w, i32_w]; rfl
          exact norm_ (by first | (simp only [putAll, Act.put, Sa, Sb, Sc]; done) | (simp only [putAll, Act.put, Sa, Sb, Sc]; rfl)) (hJ4_8_9_11 (v854, .slice Ao80 y856.length co80, .slice Ao81 gp.length co81, gb862) _ ⟨hHeld, (by (with_reducible repeat (first | apply Kd.R_alloc | apply Kd.R_drewN | apply Kd.R_drew)); exact Kd.R_mono HO858.out (fun _ hk => hk.2)), (by (with_reducible repeat (first | apply Kd.R_alloc | apply Kd.R_drewN | apply Kd.R_drew)); exact HO861.out), (by (with_reducible repeat (first | refine Kn ?_ _ | refine Kw ?_ | refine Ka ?_ _)); exact BK831.out), (by (with_reducible repeat (first | refine Kn ?_ _ | refine Kw ?_ | refine Ka ?_ _)); exact BK862.out), GW862.out, GE862.out, NB831_862.out, NB862_831.out, (by repeat (first | (with_reducible first | exact HB.out | apply Ba | apply Pn | apply Dn | refine Bz ?_ GE831.out | refine Bz ?_ GE862.out) | exact HB.out))⟩)
        ·skip
         rintro ⟨v854, v857, v860⟩ w80 ⟨hS_, h0_, h1_, h2_, h3_⟩
         have n0_ : Aside0 (Kd.R k86 86 w80 w.heap.size (fun k_ => some k_ ≠ (v860 : Value).ownBlock) v857 y856) := ⟨h0_⟩
         have n1_ : Aside0 (Kd.R k86 86 w80 w.heap.size (fun k_ => some k_ ≠ (v857 : Value).ownBlock) v860 gp) := ⟨h1_⟩
         have n2_ : Aside0 (w80.heap[w.heap.size]? = some (.cells #[.slice A0 evs.length c0, .slice A1 gaps.length c1] 39 (0, 0))) := ⟨h2_⟩
         have n3_ : Aside0 (Below w.heap.size w w80) := ⟨h3_⟩
         clear BK831; clear HB; clear h0_ h1_ h2_ h3_; have HO858 := n0_; have HO861 := n1_; have BK831 := n2_; have HB := n3_; clear n0_ n1_ n2_ n3_; have hHeld : w80.cell? ⟨w.heap.size, 0, none⟩ = some (.slice A0 evs.length c0) ∧ w80.cell? ⟨w.heap.size, 1, none⟩ = some (.slice A1 gaps.length c1) := hS_; obtain ⟨Ao81, co81, eo81⟩ := Kd.R_slice HO861.out
         (first | subst eo81 | (injection eo81 with f1_ f2_ f3_; have f4_ := f1_.symm; have f5_ := f3_.symm; clear f1_ f2_ f3_; subst f4_; subst f5_))
         refine norm_ (a' := ?_) ?_ ?_; rotate_left
         ·simp only [putAll, Act.put, Sa, Sb, Sc]; rfl
         refine one_ (i := 11) (N := some 26) #[true, true, true, true, true, true, true, true, true, true, true, true, false] rfl rfl (one_of HT_.out (by kernel_rfl)) (by decide) (fun K hK => ?_); refine box_step ?hg (N := 26) ?hd (cs := #[.slice none 0 0, .slice none 0 0]) (t := 39) ?hr ?_; (case hd => rfl); (case hg => rfl); (case hr => first | (go_simp; done) | (go_simp; rfl)); intro gb862 hg w82 hbox hb; have n0_ := Aa (Kd.R_below (by (with_reducible repeat (first | apply Kd.R_alloc | apply Kd.R_drewN | apply Kd.R_drew)); exact HO858.out) hb); have n1_ := Aa (Kd.R_below (by (with_reducible repeat (first | apply Kd.R_alloc | apply Kd.R_drewN | apply Kd.R_drew)); exact HO861.out) hb); have n2_ := Aa (blk_below (g := w.heap.size) (o := .cells #[.slice A0 evs.length c0, .slice A1 gaps.length c1] 39 (0, 0)) (by (with_reducible repeat (first | refine Kn ?_ _ | refine Kw ?_ | refine Ka ?_ _)); exact BK831.out) hb); have n3_ := Aa (Bp (by repeat (first | (with_reducible first | exact HB.out | apply Ba | apply Pn | apply Dn | refine Bz ?_ GE831.out) | exact HB.out)) hb); have n4_ := Aa (hbox); have n5_ := Aa ((by rw [hg]; exact (below_size (by repeat (first | (with_reducible first | exact HB.out | apply Ba | apply Pn | apply Dn | refine Bz ?_ GE831.out) | exact HB.out))) : w.heap.size ≤ gb862)); have n6_ := Aa ((by rw [hg]; exact (below_size (by repeat (first | (with_reducible first | exact HB.out | apply Ba | apply Pn | apply Dn | refine Bz ?_ GE831.out) | exact HB.out))) : w.heap.size ≤ gb862)); have n7_ := Aa ((by rw [hg]; exact Nat.ne_of_lt (blk_lt (g := w.heap.size) (o := .cells #[.slice A0 evs.length c0, .slice A1 gaps.length c1] 39 (0, 0)) (by (with_reducible repeat (first | refine Kn ?_ _ | refine Kw ?_ | refine Ka ?_ _)); exact BK831.out)) : w.heap.size ≠ gb862)); have n8_ := Aa ((by rw [hg]; exact Nat.ne_of_gt (blk_lt (g := w.heap.size) (o := .cells #[.slice A0 evs.length c0, .slice A1 gaps.length c1] 39 (0, 0)) (by (with_reducible repeat (first | refine Kn ?_ _ | refine Kw ?_ | refine Ka ?_ _)); exact BK831.out)) : gb862 ≠ w.heap.size)); clear HO858; clear HO861; clear BK831; clear HB; have HO858 := n0_; have HO861 := n1_; have BK831 := n2_; have HB := n3_; have BK862 := n4_; have GW862 := n5_; have GE862 := n6_; have NB831_862 := n7_; have NB862_831 := n8_; clear n0_ n1_ n2_ n3_ n4_ n5_ n6_ n7_ n8_; clear hb hbox hg; refine hK.out _ _ ⟨(Bc BK831.out 0).trans rfl, (Bc BK831.out 1).trans rfl⟩ (fun hHeld => ?_); clear hK K; refine norm_ (a' := ?_) ?_ ?_; rotate_left
         ·show Act.put _ (some 26) _ = _; simp only [Act.put, Sa, Sb, Sc, i64_w, i32_w]; rfl
         exact norm_ (by first | (simp only [putAll, Act.put, Sa, Sb, Sc]; done) | (simp only [putAll, Act.put, Sa, Sb, Sc]; rfl)) (hJ4_8_9_11 (v854, v857, .slice Ao81 gp.length co81, gb862) _ ⟨hHeld, (by (with_reducible repeat (first | apply Kd.R_alloc | apply Kd.R_drewN | apply Kd.R_drew)); exact HO858.out), (by (with_reducible repeat (first | apply Kd.R_alloc | apply Kd.R_drewN | apply Kd.R_drew)); exact HO861.out), (by (with_reducible repeat (first | refine Kn ?_ _ | refine Kw ?_ | refine Ka ?_ _)); exact BK831.out), (by (with_reducible repeat (first | refine Kn ?_ _ | refine Kw ?_ | refine Ka ?_ _)); exact BK862.out), GW862.out, GE862.out, NB831_862.out, NB862_831.out, (by repeat (first | (with_reducible first | exact HB.out | apply Ba | apply Pn | apply Dn | refine Bz ?_ GE831.out | refine Bz ?_ GE862.out) | exact HB.out))⟩)
       rintro ⟨v854, v857, v860, gb862⟩ w81 ⟨hS_, h0_, h1_, h2_, h3_, h4_, h5_, h6_, h7_, h8_⟩
       have n0_ : Aside0 (Kd.R k86 86 w81 w.heap.size (fun k_ => some k_ ≠ (v860 : Value).ownBlock) v857 y856) := ⟨h0_⟩
       have n1_ : Aside0 (Kd.R k86 86 w81 w.heap.size (fun k_ => some k_ ≠ (v857 : Value).ownBlock) v860 gp) := ⟨h1_⟩
       have n2_ : Aside0 (w81.heap[w.heap.size]? = some (.cells #[.slice A0 evs.length c0, .slice A1 gaps.length c1] 39 (0, 0))) := ⟨h2_⟩
       have n3_ : Aside0 (w81.heap[gb862]? = some (.cells #[.slice none 0 0, .slice none 0 0] 39 (0, 0))) := ⟨h3_⟩
       have n4_ : Aside0 (w.heap.size ≤ gb862) := ⟨h4_⟩
       have n5_ : Aside0 (w.heap.size ≤ gb862) := ⟨h5_⟩
       have n6_ : Aside0 (w.heap.size ≠ gb862) := ⟨h6_⟩
       have n7_ : Aside0 (gb862 ≠ w.heap.size) := ⟨h7_⟩
       have n8_ : Aside0 (Below w.heap.size w w81) := ⟨h8_⟩
       clear BK831; clear HB; clear h0_ h1_ h2_ h3_ h4_ h5_ h6_ h7_ h8_; have HO858 := n0_; have HO861 := n1_; have BK831 := n2_; have BK862 := n3_; have GW862 := n4_; have GE862 := n5_; have NB831_862 := n6_; have NB862_831 := n7_; have HB := n8_; clear n0_ n1_ n2_ n3_ n4_ n5_ n6_ n7_ n8_; have hHeld : w81.cell? ⟨w.heap.size, 0, none⟩ = some (.slice A0 evs.length c0) ∧ w81.cell? ⟨w.heap.size, 1, none⟩ = some (.slice A1 gaps.length c1) := hS_; obtain ⟨Ao82, co82, eo82⟩ := Kd.R_slice HO861.out
       (first | subst eo82 | (injection eo82 with f1_ f2_ f3_; have f4_ := f1_.symm; have f5_ := f3_.symm; clear f1_ f2_ f3_; subst f4_; subst f5_))
       refine norm_ (a' := ?_) ?_ ?_; rotate_left
       ·simp only [putAll, Act.put, Sa, Sb, Sc]; rfl
       refine one_ (i := 12) (N := none) #[true, true, true, true, true, true, true, true, true, true, true, true, true] rfl rfl (one_of HT_.out (by kernel_rfl)) (by decide) (fun K hK => ?_); have hs83 : w81.cell? ⟨gb862, 0, none⟩ = some (.slice none 0 0) := (Bc BK862.out 0).trans rfl; have hfs83 := Bf BK862.out 0; have hns83_0 := NB831_862.out; have hms83_0 := NB862_831.out; have hs84 : w81.cell? ⟨gb862, 1, none⟩ = some (.slice none 0 0) := (Bc BK862.out 1).trans rfl; have hfs84 := Bf BK862.out 1; have hns84_0 := NB831_862.out; have hms84_0 := NB862_831.out; refine skip_ (w1 := ?_) (by rfl) rfl ?_ ?_; rotate_left
       ·go_simp; rfl
       refine hK.out _ _ ⟨((cell_far (p := ⟨gb862, _, none⟩) NB831_862.out _).trans (((cell_far (p := ⟨gb862, _, none⟩) NB831_862.out _).trans (hHeld.1)))), ((cell_far (p := ⟨gb862, _, none⟩) NB831_862.out _).trans (((cell_far (p := ⟨gb862, _, none⟩) NB831_862.out _).trans (hHeld.2))))⟩ (fun hHeld => ?_); clear hK K; refine done_ (done_of HT_.out (by kernel_rfl)) ?_; have HPl := Aa (plus_set (w1 := w) HB.out GE862.out BK862.out HO861.out (x := .slice none 0 0) (y := .slice none 0 0) (A0 := A0) (evs := evs) (c0 := c0)); have HUS := Aa (show US evs gaps bys A0 A1 A4 c0 c1 c4 w.heap.size w _ from ⟨HPl.out.bel, blk_far (blk_far BK831.out NB831_862.out _) NB831_862.out _, Kd.C_below HR0_0.out HPl.out.bel, Kd.C_below HR0_1.out HPl.out.bel, Kd.C_below HR0_4.out HPl.out.bel⟩); try go_wp2
       go_meet
       case rel => exact ⟨gb862, co82, Ao82, rfl, HUS, HPl⟩
      case rest => as_aux_lemma =>
       obtain ⟨n26, dg, Bg, rfl, HS, HPl⟩ := hcut; have q0 := cell_at HPl.out.blk 0 (.slice A0 evs.length c0) rfl; have q1 := cell_at HPl.out.blk 1 (.slice Bg gp.length dg) rfl; obtain ⟨kg, hkg⟩ := Ev.rounds (ev_Hist evs gp); have HKg := Aa hkg
       obtain ⟨r, e2, ht⟩ : ∃ r e2, tightA evs gp = (r, e2) := ⟨_, _, rfl⟩
       have HTg := Aa ht
       have hfin : histB evs gp = true → (e2 = 0 ∧ xy = false) ∨ (e2 = 5 ∧ xy = true) := fun hh => by
        have h1 := HTg.out; unfold tightA at h1; rw [if_pos hh] at h1; have h2 := HXY.out; unfold sureB at h2; rw [if_neg HXne.out, HGp.out] at h2
        cases hq : (solveR evs gp).2 with
        | true =>
         rw [hq] at h1 h2; rw [if_pos rfl] at h1
         injection h1 with _ h3
         exact Or.inl ⟨h3.symm, h2.symm⟩
        | false =>
         rw [hq] at h1 h2; rw [if_neg (by decide)] at h1
         injection h1 with _ h3
         exact Or.inr ⟨h3.symm, h2.symm⟩
       clear hkg ht
       go_wp2_with fail
       refine (skew_TightA.calls A0 c0 evs Bg dg gp r e2 wc HS.out.a0 Hc0.out HPl.out.rd HPl.out.le HTg.out).mono ?_; rintro e w8 ⟨v8, rfl, _, hb⟩; have HS8 := Aa (HS.out.below hb); have HRd8 := Aa (Kd.C_below HPl.out.rd hb); have HBk8 := Aa (blk_below HPl.out.blk hb); have HLe := Aa HPl.out.le; have z0 := cell_at HBk8.out 0 (.slice A0 evs.length c0) rfl; have z1 := cell_at HBk8.out 1 (.slice Bg gp.length dg) rfl; clear hb q0 q1 HS HPl
       cases hq : histB evs gp with
       | false =>
        rw [hq] at HKg; clear hfin
        go_wp2_with fail
        refine (rf_Hist.calls kg A0 c0 evs Bg dg gp false w8 HS8.out.a0 Hc0.out HRd8.out HLe.out HKg.out).mono ?_; rintro e w9 ⟨rfl, hb⟩; have HS9 := Aa (HS8.out.below hb); clear hb; go_wp2
        go_meet
        case rel => exact HS9
       | true =>
        rw [hq] at HKg; have hfin := hfin hq; clear HXY H1
        rcases hfin with ⟨rfl, rfl⟩ | ⟨rfl, rfl⟩
        all_goals
         go_wp2_with fail
         refine (rf_Hist.calls kg A0 c0 evs Bg dg gp true w8 HS8.out.a0 Hc0.out HRd8.out HLe.out HKg.out).mono ?_; rintro e w9 ⟨rfl, hb⟩; have HS9 := Aa (HS8.out.below hb); clear hb; go_wp2
         go_meet
         case rel => exact HS9
    case rest => as_aux_lemma =>
     replace HS := hcut; clear hcut
     have hn0 : (0 : Int) ≤ evs.length := by omega
     go_wp2_with fail
     go_loopw [29, 189] (fun v29 v189 W => ∃ (k : Nat) (o : List Int), k ≤ evs.length ∧ v189 = .int .i64 (k : Int) ∧ Aside0 (o.Perm (nums k)) ∧ Aside0 (Kd.R (Kd.int .i64) 3 W wc.heap.size (fun _ => True) v29 o) ∧ Aside0 (Below wc.heap.size wc W)) (fun _ v _ => evs.length - (intOf v).toNat)
     case atStart => exact ⟨0, [], Nat.zero_le _, rfl, ⟨List.Perm.refl _⟩, ⟨Kd.R_nil _ _ _ _ _⟩, ⟨Below.refl _ _⟩⟩
     case round =>
      obtain ⟨k, o, hk, rfl, HP, HR, HBr⟩ := hrel; obtain ⟨Ao, co, hvo⟩ := Kd.R_slice HR.out; subst hvo
      by_cases hlt : (k : Int) < evs.length
      ·have hk1000 : (k : Int) < 1000 := by have := HN.out; omega
       have hol : o.length = k := HP.out.length_eq.trans (nums_len k)
       have hne : (Value.slice Ao o.length co).ownBlock ≠ some wr.heap.size := fun e => by have := ((Kd.R_bound HR.out).1 _ e).2.2.1; omega
       have HIns := Aa (fun (q : Nat) (hq : q ≤ k) => ins_calls (wr.alloc (.cells #[.int .i64 (k : Int)] 3)) wc.heap.size (fun _ => True) (.slice Ao o.length co) o q (k : Int) wr.heap.size (by omega) (by have := HN.out; omega) (Kd.R_alloc HR.out _) (blk_new wr _) hne (by rw [World.size_alloc]; have := HBr.out.size; omega) (fun _ _ => trivial)); have HBx := Aa (show Below wc.heap.size wc wr from HBr.out); have HPx := Aa HP.out; have HLt := Aa (show k + 1 ≤ evs.length by omega); have HOw := Aa (show ∀ r, (Value.slice Ao o.length co).ownBlock = some r → wc.heap.size ≤ r from fun r e => ((Kd.R_bound HR.out).1 _ e).2.1); clear hne HBr HR
       by_cases hby : (k : Int) < bys.length
       ·obtain ⟨ad, e1, hx0⟩ := Kd.at_int (Kd.C_below HS.out.a4 HBx.out) (k : Int) (by omega) hby; subst e1; rw [Int.toNat_natCast] at hx0; have hbv := HBy.out _ (rdi_mem bys k (by omega))
        obtain ⟨v, hv⟩ : ∃ v, rd bys (k : Int) = v := ⟨_, rfl⟩
        rw [hv] at hx0 hbv; have ew : wrap64 v = v := w64_mid (by omega) (by omega)
        obtain ⟨q, hq, hqk⟩ : ∃ q : Nat, (wrap64 v).tmod ((k : Int) + 1) = (q : Int) ∧ q ≤ k := by
         have h1 := Int.emod_nonneg v (show (k : Int) + 1 ≠ 0 by omega); have h2 := Int.emod_lt_of_pos v (show 0 < (k : Int) + 1 by omega); refine ⟨(v % ((k : Int) + 1)).toNat, ?_, by omega⟩; rw [ew, Int.tmod_eq_emod_of_nonneg hbv.1]; omega
        have hnz : ¬ ((k : Int) + 1 = 0) := by omega
        have HQ := Aa (HIns.out q hqk); clear hv hbv HIns ew hol
        go_wp2_with fail
        refine HQ.out.mono ?_; rintro e w2 ⟨v2, rfl, hR2, hg2, _⟩; have HB2 := Aa (Below.grown (Ba HBx.out _) hg2 (by rw [World.size_alloc]; have := HBx.out.size; omega) (fun r e => HOw.out r e)); have HR2 := Aa hR2; have HP2 := Aa (ins_perm o q k HPx.out); obtain ⟨A2, c2, e2⟩ := Kd.R_slice hR2
        obtain ⟨n2, hn2⟩ : ∃ n2, (o.take q ++ (k : Int) :: o.drop q).length = n2 := ⟨_, rfl⟩
        rw [hn2] at e2; clear hn2 hR2 hg2; subst e2; go_wp2
        go_roundw
        case rel => exact ⟨k + 1, _, HLt.out, by simp, HP2, HR2, HB2⟩
        case measure => have := HLt.out; simp [intOf]; omega
       ·have HQ := Aa (HIns.out 0 (Nat.zero_le _)); clear HIns hol
        go_wp2_with fail
        refine HQ.out.mono ?_; rintro e w2 ⟨v2, rfl, hR2, hg2, _⟩; have HB2 := Aa (Below.grown (Ba HBx.out _) hg2 (by rw [World.size_alloc]; have := HBx.out.size; omega) (fun r e => HOw.out r e)); have HR2 := Aa hR2; have HP2 := Aa (ins_perm o 0 k HPx.out); obtain ⟨A2, c2, e2⟩ := Kd.R_slice hR2
        obtain ⟨n2, hn2⟩ : ∃ n2, (o.take 0 ++ (k : Int) :: o.drop 0).length = n2 := ⟨_, rfl⟩
        rw [hn2] at e2; clear hn2 hR2 hg2; subst e2; go_wp2
        go_roundw
        case rel => exact ⟨k + 1, _, HLt.out, by simp, HP2, HR2, HB2⟩
        case measure => have := HLt.out; simp [intOf]; omega
      ·obtain rfl : k = evs.length := by omega
       have HSr := Aa (HS.out.below HBr.out); have hord : isOrdB evs.length o = true := (isOrdB_iff _ _).mpr HP.out
       obtain ⟨can, hcan⟩ : ∃ can, canB evs gaps o = can := ⟨_, rfl⟩
       have hcq : skew_Can.f evs gaps o = some (can, 0) := by unfold skew_Can.f canQ; rw [if_pos ⟨HHb.out, hord⟩, if_pos HSv.out, hcan]
       obtain ⟨A9, c9, e9, hc9, hC9⟩ := Kd.R_reads HR.out
       injection e9 with e9 _ e10
       subst e9; subst e10; have HCn := Aa (skew_Can.calls A0 c0 evs A1 c1 gaps Ao co o can 0 wr HSr.out.a0 Hc0.out HSr.out.a1 Hc1.out hC9 hc9 hcq); have HOd := Aa hord; have HCb := Aa hcan; have HCo := Aa hC9; have Hco := Aa hc9; have y0 := cell_at HSr.out.k0 0 (.slice A0 evs.length c0) rfl; have y1 := cell_at HSr.out.k0 1 (.slice A1 gaps.length c1) rfl
       have hol : o.length ≤ 10 := by have := HP.out.length_eq; rw [nums_len] at this; have := HN.out; omega
       have hox : x ∈ o := HP.out.mem_iff.mpr (numsI_mem.mpr HX.out); have hoy : y ∈ o := HP.out.mem_iff.mpr (numsI_mem.mpr HY.out); have HIx := Aa (Ev.rounds (ev_Index o x (by omega) hox)); have HIy := Aa (Ev.rounds (ev_Index o y (by omega) hoy)); clear hord hcan hcq hC9 hc9 hol hox hoy HP HR HBr HS
       go_wp2_with fail
       refine HCn.out.mono ?_; rintro e w2 ⟨rfl, hb⟩; have HS2 := Aa (HSr.out.below hb); have HCo2 := Aa (Kd.C_below HCo.out hb); clear hb HCn y0 y1 HSr HCo
       go_upto_region 34 with (fail)
       go_cut [230] (fun v230 W => v230 = .bool false ∧ Aside0 (US evs gaps bys A0 A1 A4 c0 c1 c4 w.heap.size w W))
       case first => as_aux_lemma =>
        obtain ⟨ki, hki⟩ := HIx.out; obtain ⟨kj, hkj⟩ := HIy.out
        have hlt2 : can = true → xy = true → o.idxOf x < o.idxOf y := fun e1 e2 => can_ahead HIs.out HOd.out (HCb.out.trans e1) x y HX.out.1 HX.out.2 HY.out.1 HY.out.2 (HXY.out.trans e2)
        clear HXY HCb H1
        cases can with
        | false =>
         go_wp2
         go_meet
         case rel => exact ⟨rfl, HS2⟩
        | true =>
         cases xy with
         | false =>
          go_wp2
          go_meet
          case rel => exact ⟨rfl, HS2⟩
         | true =>
          have hl3 := hlt2 rfl rfl; have hgt : decide ((o.idxOf x : Int) > (o.idxOf y : Int)) = false := decide_eq_false (by omega); have hgt2 : decide ((o.idxOf y : Int) < (o.idxOf x : Int)) = false := decide_eq_false (by omega)
          obtain ⟨jx, hjx⟩ : ∃ jx, (o.idxOf x : Int) = jx := ⟨_, rfl⟩
          obtain ⟨jy, hjy⟩ : ∃ jy, (o.idxOf y : Int) = jy := ⟨_, rfl⟩
          rw [hjx] at hki; rw [hjy] at hkj; rw [hjx, hjy] at hgt hgt2; clear hjx hjy hl3 hlt2
          go_wp2_with fail
          refine (slices_Index_int_int.calls ki Ao co o x jx _ HCo2.out Hco.out hki).mono ?_; rintro e w3 ⟨rfl, hd⟩; have HS3 := Aa (HS2.out.below hd.below); have HCo3 := Aa (Kd.C_below HCo2.out hd.below); clear hd hki
          go_wp2_with fail
          refine (slices_Index_int_int.calls kj Ao co o y jy _ HCo3.out Hco.out hkj).mono ?_; rintro e w4 ⟨rfl, hd⟩; have HS4 := Aa (HS3.out.below hd.below); clear hd hkj; go_wp2
          go_meet
          case rel => exact ⟨rfl, HS4⟩
       case rest => as_aux_lemma =>
        obtain ⟨rfl, HS⟩ := hcut; clear HCo2 HIx HIy HS2 HCb HOd; have hof := order_facts HIs.out HSv.out
        obtain ⟨fo, hfo⟩ : ∃ fo, orderL (sureB evs gaps) evs.length (nums evs.length) = fo := ⟨_, rfl⟩
        rw [hfo] at hof
        have hoq : skew_Order.f evs gaps = some (fo, 0) := by rw [order_skew evs gaps HN.out.2]; unfold orderR; rw [if_pos HHb.out, if_pos HSv.out, hfo]
        obtain ⟨ko, hko⟩ := Ev.rounds (ev_IsOrder evs.length fo (by have := HN.out; omega)); rw [hof.1] at hko; have HOf := Aa hof; have HOq := Aa hoq; have HKo := Aa hko; have y0 := cell_at HS.out.k0 0 (.slice A0 evs.length c0) rfl; have y1 := cell_at HS.out.k0 1 (.slice A1 gaps.length c1) rfl; clear hof hfo hoq hko
        go_wp2_with fail
        refine (skew_Order.calls A0 c0 evs A1 c1 gaps fo 0 wc HS.out.a0 Hc0.out HS.out.a1 Hc1.out HOq.out).mono ?_; rintro e w5 ⟨vf, rfl, hvf, hb⟩; obtain ⟨Af, cf, rfl, hcf, hCf⟩ := V_read hvf; have HS5 := Aa (HS.out.below hb); have HCf := Aa hCf; have Hcf := Aa hcf; clear hvf hcf hCf hb y0 y1
        go_wp2_with fail
        refine (rf_IsOrder.calls ko Af cf fo evs.length true w5 HCf.out Hcf.out HKo.out).mono ?_; rintro e w6' ⟨rfl, hb⟩; have HS6 := Aa (HS5.out.below hb); have HCf6 := Aa (Kd.C_below HCf.out hb); clear hb HS5 HCf HS HOq HKo
        have hfl : fo.length ≤ 10 := by have := ((isOrdB_iff _ _).mp HOf.out.1).length_eq; rw [nums_len] at this; have := HN.out; omega
        have hfx : x ∈ fo := ((isOrdB_iff _ _).mp HOf.out.1).mem_iff.mpr (numsI_mem.mpr HX.out); have hfy : y ∈ fo := ((isOrdB_iff _ _).mp HOf.out.1).mem_iff.mpr (numsI_mem.mpr HY.out); obtain ⟨ki, hki⟩ := Ev.rounds (ev_Index fo x (by omega) hfx); obtain ⟨kj, hkj⟩ := Ev.rounds (ev_Index fo y (by omega) hfy)
        have hlt2 : xy = true → fo.idxOf x < fo.idxOf y := fun e2 => HOf.out.2 x y HX.out.1 HX.out.2 HY.out.1 HY.out.2 (HXY.out.trans e2)
        clear HXY H1 HOf hfl hfx hfy
        cases xy with
        | false =>
         clear hlt2 hki hkj
         go_wp2_with fail
         refine (lw_known.calls true w6' rfl).mono ?_; rintro e w9 ⟨rfl, hb⟩; have HS9 := Aa (HS6.out.below hb); clear hb HS6; go_wp2; go_ret
         exact ⟨rfl, HS9.out.bel⟩
        | true =>
         have hl3 := hlt2 rfl; have hgt : decide ((fo.idxOf x : Int) < (fo.idxOf y : Int)) = true := decide_eq_true (by omega)
         obtain ⟨jx, hjx⟩ : ∃ jx, (fo.idxOf x : Int) = jx := ⟨_, rfl⟩
         obtain ⟨jy, hjy⟩ : ∃ jy, (fo.idxOf y : Int) = jy := ⟨_, rfl⟩
         rw [hjx] at hki; rw [hjy] at hkj; rw [hjx, hjy] at hgt; clear hjx hjy hl3 hlt2
         go_wp2_with fail
         refine (slices_Index_int_int.calls ki Af cf fo x jx _ HCf6.out Hcf.out hki).mono ?_; rintro e w7' ⟨rfl, hd⟩; have HS7 := Aa (HS6.out.below hd.below); have HCf7 := Aa (Kd.C_below HCf6.out hd.below); clear hd hki HS6
         go_wp2_with fail
         refine (slices_Index_int_int.calls kj Af cf fo y jy _ HCf7.out Hcf.out hkj).mono ?_; rintro e w8 ⟨rfl, hd⟩; have HS8 := Aa (HS7.out.below hd.below); clear hd hkj HS7
         go_wp2_with fail
         refine (lw_known.calls true w8 rfl).mono ?_; rintro e w9 ⟨rfl, hb⟩; have HS9 := Aa (HS8.out.below hb); clear hb HS8; go_wp2; go_ret; exact ⟨rfl, HS9.out.bel⟩
end Go.Proofs.Ytobcecgcegoooaa.Sk
