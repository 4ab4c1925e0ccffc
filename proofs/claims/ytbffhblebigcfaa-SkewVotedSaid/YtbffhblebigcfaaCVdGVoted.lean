/- The walk of SkewVoted. -/
import Derived.BigQuiet
import Derived.Deep.QuietTactic
import Derived.Deep.RegionHeld3
import Derived.IntWalk
import Derived.Test.YtbffhblebigcfaaCVdLVoted
import Derived.Test.YtbffhblebigcfaaCVdGKnown
import Derived.Test.YtbffhblebigcfaaCVdS1
namespace Go.Proofs.Ytbffhblebigcfaa.Sk
open Go.RowKit Go.Proofs.YtbffhblebigcfaaW.PrintWords Go.Proofs.YtbffhblebigcfaaW.PrintLast Go.Proofs.YtbffhblebigcfaaW.PrintMore
attribute [local go_sem] max2_int min2_int max_two min_two
attribute [local go_sem high] eqA27
set_option linter.unusedVariables false
set_option linter.unusedSimpArgs false
set_option maxHeartbeats 8000000 in
set_option maxRecDepth 100000 in
theorem voted_2 (A0 : Option Addr) (c0 : Nat) (l0 : List S27) (a1 a2 : Int) (w : World) (hr0 : Kd.C k27 w A0 l0.length l0) (hc0 : l0.length ≤ c0) (hv0 : skew_Vote.f l0 = some (0, 0, 0, 2)) (x y f : Int) (hm0 : skew_Meet.f l0 = some (x, y, f)) :
    Calls Try.prog 9 #[.slice A0 l0.length c0, .int .i64 a1, .int .u16 a2] w fun e w' => e = .returned (.bool true) ∧ Below w.heap.size w w' := by
  have hu27 := Try.underlying27
  have HR := Aside0.mk hr0
  have HC := Aside0.mk hc0
  have HB := Aside0.mk (Below.refl w.heap.size w)
  go_enter Try.func9, Try.ntmps9
  go_wp2_with fail
  refine (skew_Vote.calls A0 c0 l0 0 0 0 2 _ HR.out HC.out hv0).mono ?_
  rintro e w1 ⟨rfl, hb⟩
  replace HB := Aside0.mk (below_step HB.out hb)
  replace HR := Aside0.mk (Kd.C_below HR.out hb)
  clear hb
  replace HB := Aside0.mk (below_alloc HB.out (.cells #[.int .i64 0, .int .i64 0] 27))
  replace HR := Aside0.mk (Kd.C_alloc HR.out (.cells #[.int .i64 0, .int .i64 0] 27))
  have HV := Aside0.mk (blk_new w1 (.cells #[.int .i64 0, .int .i64 0] 27))
  go_wp2_with fail
  obtain ⟨n1, hn1⟩ : ∃ n1, w1.heap.size = n1 := ⟨_, rfl⟩
  rw [hn1] at HV ⊢
  clear hn1
  refine (skew_Meet.calls A0 c0 l0 x y f _ HR.out HC.out hm0).mono ?_
  rintro e w2 ⟨rfl, hb⟩
  replace HB := Aside0.mk (below_step HB.out hb)
  replace HR := Aside0.mk (Kd.C_below HR.out hb)
  replace HV := Aside0.mk (blk_below HV.out hb)
  clear hb
  replace HB := Aside0.mk (below_alloc HB.out (.cells #[.int .i64 x, .int .i64 y] 27))
  replace HR := Aside0.mk (Kd.C_alloc HR.out (.cells #[.int .i64 x, .int .i64 y] 27))
  replace HV := Aside0.mk (blk_alloc HV.out (.cells #[.int .i64 x, .int .i64 y] 27))
  have HM := Aside0.mk (blk_new w2 (.cells #[.int .i64 x, .int .i64 y] 27))
  obtain ⟨n2, hn2⟩ : ∃ n2, w2.heap.size = n2 := ⟨_, rfl⟩
  rw [hn2] at HM
  have z0 := cell_at HV.out 0 (.int .i64 0) rfl
  have z1 := cell_at HV.out 1 (.int .i64 0) rfl
  have z2 := cell_at HM.out 0 (.int .i64 x) rfl
  have z3 := cell_at HM.out 1 (.int .i64 y) rfl
  go_wp2_with fail
  refine (afterwordlaw19_known.calls true _ rfl).mono ?_
  rintro e wz ⟨rfl, hb⟩
  replace HB := Aside0.mk (below_step HB.out hb)
  clear hb
  go_wp2_with fail
  go_ret
  exact ⟨rfl, HB.out⟩
set_option maxHeartbeats 8000000 in
set_option maxRecDepth 100000 in
theorem voted_5 (A0 : Option Addr) (c0 : Nat) (l0 : List S27) (a1 a2 : Int) (w : World) (hr0 : Kd.C k27 w A0 l0.length l0) (hc0 : l0.length ≤ c0) (hv0 : skew_Vote.f l0 = some (0, 0, 0, 5)) (x y f : Int) (hm0 : skew_Meet.f l0 = some (x, y, f)) (h0 : l0.length = 0) :
    Calls Try.prog 9 #[.slice A0 l0.length c0, .int .i64 a1, .int .u16 a2] w fun e w' => e = .returned (.bool true) ∧ Below w.heap.size w w' := by
  have hu27 := Try.underlying27
  have HR := Aside0.mk hr0
  have HC := Aside0.mk hc0
  have HB := Aside0.mk (Below.refl w.heap.size w)
  have hz : ((l0.length : Int) == 0) = true := beq_iff_eq.mpr (by omega)
  clear h0
  go_enter Try.func9, Try.ntmps9
  go_wp2_with fail
  refine (skew_Vote.calls A0 c0 l0 0 0 0 5 _ HR.out HC.out hv0).mono ?_
  rintro e w1 ⟨rfl, hb⟩
  replace HB := Aside0.mk (below_step HB.out hb)
  replace HR := Aside0.mk (Kd.C_below HR.out hb)
  clear hb
  replace HB := Aside0.mk (below_alloc HB.out (.cells #[.int .i64 0, .int .i64 0] 27))
  replace HR := Aside0.mk (Kd.C_alloc HR.out (.cells #[.int .i64 0, .int .i64 0] 27))
  have HV := Aside0.mk (blk_new w1 (.cells #[.int .i64 0, .int .i64 0] 27))
  go_wp2_with fail
  obtain ⟨n1, hn1⟩ : ∃ n1, w1.heap.size = n1 := ⟨_, rfl⟩
  rw [hn1] at HV ⊢
  clear hn1
  refine (skew_Meet.calls A0 c0 l0 x y f _ HR.out HC.out hm0).mono ?_
  rintro e w2 ⟨rfl, hb⟩
  replace HB := Aside0.mk (below_step HB.out hb)
  replace HR := Aside0.mk (Kd.C_below HR.out hb)
  replace HV := Aside0.mk (blk_below HV.out hb)
  clear hb
  replace HB := Aside0.mk (below_alloc HB.out (.cells #[.int .i64 x, .int .i64 y] 27))
  replace HR := Aside0.mk (Kd.C_alloc HR.out (.cells #[.int .i64 x, .int .i64 y] 27))
  replace HV := Aside0.mk (blk_alloc HV.out (.cells #[.int .i64 x, .int .i64 y] 27))
  have HM := Aside0.mk (blk_new w2 (.cells #[.int .i64 x, .int .i64 y] 27))
  obtain ⟨n2, hn2⟩ : ∃ n2, w2.heap.size = n2 := ⟨_, rfl⟩
  rw [hn2] at HM
  have z0 := cell_at HV.out 0 (.int .i64 0) rfl
  have z1 := cell_at HV.out 1 (.int .i64 0) rfl
  have z2 := cell_at HM.out 0 (.int .i64 x) rfl
  have z3 := cell_at HM.out 1 (.int .i64 y) rfl
  go_wp2_with fail
  refine (afterwordlaw19_known.calls true _ rfl).mono ?_
  rintro e wz ⟨rfl, hb⟩
  replace HB := Aside0.mk (below_step HB.out hb)
  clear hb
  go_wp2_with fail
  go_ret
  exact ⟨rfl, HB.out⟩
set_option maxHeartbeats 8000000 in
set_option maxRecDepth 100000 in
theorem voted_all (A0 : Option Addr) (c0 : Nat) (l0 : List S27) (a1 a2 : Int) (w : World) (hr0 : Kd.C k27 w A0 l0.length l0) (hc0 : l0.length ≤ c0) (lo hi m q ka : Int) (kg k1 k2 k4 k5 : Nat) (hv0 : skew_Vote.f l0 = some (lo, hi, m, 0)) (hm0 : skew_Meet.f l0 = some (lo, hi, 0)) (hgs : afterwordref19_Goods.f kg l0 40 = some true) (hgo : afterwordref19_Good.f lo hi = some true) (h1 : afterwordref19_Have.f k1 l0 lo = some m) (h2 : afterwordref19_Have.f k2 l0 hi = some m) (h3 : ∀ t, lo ≤ t → t ≤ hi → ∃ k, afterwordref19_Have.f k l0 t = some m) (h4 : afterwordref19_Have.f k4 l0 (hi + 1) = some q) (h5 : afterwordref19_Have.f k5 l0 a1 = some ka) (hle : lo ≤ hi) (b0 : -1000000 ≤ lo) (b1 : hi ≤ 1000000) (m1 : 1 ≤ m) (ml : m ≤ l0.length) (hq : hi = 1000000 ∨ q < m) (hk : ka ≤ m) (hka : ka = m → lo ≤ a1) (ha2 : 0 ≤ a2 ∧ a2 ≤ 65535) (hmf : m = l0.length) :
    Calls Try.prog 9 #[.slice A0 l0.length c0, .int .i64 a1, .int .u16 a2] w fun e w' => e = .returned (.bool true) ∧ Below w.heap.size w w' := by
  have hu27 := Try.underlying27
  have HR := Aside0.mk hr0
  have HC := Aside0.mk hc0
  have HB := Aside0.mk (Below.refl w.heap.size w)
  obtain ⟨q1, q2⟩ := ha2
  have g1 : decide (m < 1) = false := decide_eq_false (by omega)
  have g2 : decide (m > (l0.length : Int)) = false := decide_eq_false (by omega)
  have g3 : (m == (l0.length : Int)) = true := beq_iff_eq.mpr hmf
  have HMF := Aside0.mk hmf
  have H1 := Aside0.mk h1
  have H2 := Aside0.mk h2
  have H3 := Aside0.mk h3
  have H4 := Aside0.mk h4
  have H5 := Aside0.mk h5
  have HQ := Aside0.mk hq
  have HKA := Aside0.mk hka
  have HK := Aside0.mk hk
  have ML := Aside0.mk ml
  have M1 := Aside0.mk m1
  clear h1 h2 h3 h4 h5 hq hka hmf hk ml m1 hr0 hc0
  go_enter Try.func9, Try.ntmps9
  go_wp2_with fail
  refine (skew_Vote.calls A0 c0 l0 lo hi m 0 _ HR.out HC.out hv0).mono ?_
  rintro e w1 ⟨rfl, hb⟩
  replace HB := Aside0.mk (below_step HB.out hb)
  replace HR := Aside0.mk (Kd.C_below HR.out hb)
  clear hb
  replace HB := Aside0.mk (below_alloc HB.out (.cells #[.int .i64 lo, .int .i64 hi] 27))
  replace HR := Aside0.mk (Kd.C_alloc HR.out (.cells #[.int .i64 lo, .int .i64 hi] 27))
  have HV := Aside0.mk (blk_new w1 (.cells #[.int .i64 lo, .int .i64 hi] 27))
  go_wp2_with fail
  obtain ⟨n1, hn1⟩ : ∃ n1, w1.heap.size = n1 := ⟨_, rfl⟩
  rw [hn1] at HV ⊢
  clear hn1
  refine (skew_Meet.calls A0 c0 l0 lo hi 0 _ HR.out HC.out hm0).mono ?_
  rintro e w2 ⟨rfl, hb⟩
  replace HB := Aside0.mk (below_step HB.out hb)
  replace HR := Aside0.mk (Kd.C_below HR.out hb)
  replace HV := Aside0.mk (blk_below HV.out hb)
  clear hb
  replace HB := Aside0.mk (below_alloc HB.out (.cells #[.int .i64 lo, .int .i64 hi] 27))
  replace HR := Aside0.mk (Kd.C_alloc HR.out (.cells #[.int .i64 lo, .int .i64 hi] 27))
  replace HV := Aside0.mk (blk_alloc HV.out (.cells #[.int .i64 lo, .int .i64 hi] 27))
  have HM := Aside0.mk (blk_new w2 (.cells #[.int .i64 lo, .int .i64 hi] 27))
  obtain ⟨n2, hn2⟩ : ∃ n2, w2.heap.size = n2 := ⟨_, rfl⟩
  rw [hn2] at HM
  have z0 := cell_at HV.out 0 (.int .i64 lo) rfl
  have z1 := cell_at HV.out 1 (.int .i64 hi) rfl
  have z2 := cell_at HM.out 0 (.int .i64 lo) rfl
  have z3 := cell_at HM.out 1 (.int .i64 hi) rfl
  go_wp2_with fail
  refine (afterwordref19_Goods.calls kg A0 c0 l0 40 true _ HR.out HC.out hgs).mono ?_
  rintro e w3 ⟨rfl, hb⟩
  clear z0 z1 z2 z3
  replace HB := Aside0.mk (below_step HB.out hb)
  replace HR := Aside0.mk (Kd.C_below HR.out hb)
  replace HV := Aside0.mk (blk_below HV.out hb)
  replace HM := Aside0.mk (blk_below HM.out hb)
  clear hb
  have z0 := cell_at HV.out 0 (.int .i64 lo) rfl
  have z1 := cell_at HV.out 1 (.int .i64 hi) rfl
  have z2 := cell_at HM.out 0 (.int .i64 lo) rfl
  have z3 := cell_at HM.out 1 (.int .i64 hi) rfl
  go_wp2_with fail
  refine (afterwordref19_Good.calls lo hi true _ hgo).mono ?_
  rintro e w4 ⟨rfl, hb⟩
  clear z0 z1 z2 z3
  replace HB := Aside0.mk (below_step HB.out hb)
  replace HR := Aside0.mk (Kd.C_below HR.out hb)
  replace HV := Aside0.mk (blk_below HV.out hb)
  replace HM := Aside0.mk (blk_below HM.out hb)
  clear hb
  have z0 := cell_at HV.out 0 (.int .i64 lo) rfl
  have z1 := cell_at HV.out 1 (.int .i64 hi) rfl
  have z2 := cell_at HM.out 0 (.int .i64 lo) rfl
  have z3 := cell_at HM.out 1 (.int .i64 hi) rfl
  go_wp2_with fail
  have e3 : IntKind.i64.wrap (hi - lo) = hi - lo := IntWalk.i64_in _ (by omega)
  have e4 : IntKind.i64.wrap (hi - lo + 1) = hi - lo + 1 := IntWalk.i64_in _ (by omega)
  have e5 : decide (hi - lo + 1 = 0) = false := decide_eq_false (by omega)
  have e6 : ¬ hi - lo + 1 = 0 := by omega
  have e2 : IntKind.i64.wrap a2 = a2 := IntWalk.i64_in _ (by omega)
  have HBd := Aside0.mk (below_drew1 (Below.refl w4.heap.size w4))
  go_region_held3 (fun W' => Below w4.heap.size w4 W' ∧ W'.cell? ⟨n1, 0, none⟩ = some (.int .i64 lo) ∧ W'.cell? ⟨n1, 1, none⟩ = some (.int .i64 hi))
    (first | (with_reducible (refine ⟨HBd.out, ?_, ?_⟩)) <;> (apply cell_drew; with_reducible assumption))
    (fail)
  have hb := HBd.out
  clear z0 z1 z2 z3 HBd
  generalize w4.drew = w5 at hb ⊢
  clear e2 e3 e4 e5 e6
  try simp only [i64_w, i32_w]
  replace HB := Aside0.mk (below_step HB.out hb)
  replace HR := Aside0.mk (Kd.C_below HR.out hb)
  replace HV := Aside0.mk (blk_below HV.out hb)
  replace HM := Aside0.mk (blk_below HM.out hb)
  clear hb
  have z0 := cell_at HV.out 0 (.int .i64 lo) rfl
  have z1 := cell_at HV.out 1 (.int .i64 hi) rfl
  have z2 := cell_at HM.out 0 (.int .i64 lo) rfl
  have z3 := cell_at HM.out 1 (.int .i64 hi) rfl
  obtain ⟨t1, ht1, r1, r2⟩ : ∃ t1, wrap64 (lo + Int.tmod a2 (hi - lo + 1)) = t1 ∧ lo ≤ t1 ∧ t1 ≤ hi := by
    have h1 := Int.emod_nonneg a2 (show hi - lo + 1 ≠ 0 by omega)
    have h2 := Int.emod_lt_of_pos a2 (show 0 < hi - lo + 1 by omega)
    rw [Int.tmod_eq_emod_of_nonneg (by omega)]
    exact ⟨_, rfl, by unfold wrap64; omega, by unfold wrap64; omega⟩
  try rw [ht1]
  clear ht1
  obtain ⟨k3, h3⟩ := H3.out t1 r1 r2
  replace H3 := Aside0.mk h3
  clear h3
  go_wp2_with fail
  refine (afterwordref19_Have.calls k1 A0 c0 l0 lo m _ HR.out HC.out H1.out).mono ?_
  rintro e w6 ⟨rfl, hd⟩
  have hb := hd.below
  clear hd
  clear z0 z1 z2 z3
  replace HB := Aside0.mk (below_step HB.out hb)
  replace HR := Aside0.mk (Kd.C_below HR.out hb)
  replace HV := Aside0.mk (blk_below HV.out hb)
  replace HM := Aside0.mk (blk_below HM.out hb)
  clear hb
  have z0 := cell_at HV.out 0 (.int .i64 lo) rfl
  have z1 := cell_at HV.out 1 (.int .i64 hi) rfl
  have z2 := cell_at HM.out 0 (.int .i64 lo) rfl
  have z3 := cell_at HM.out 1 (.int .i64 hi) rfl
  go_wp2_with fail
  refine (afterwordref19_Have.calls k2 A0 c0 l0 hi m _ HR.out HC.out H2.out).mono ?_
  rintro e w7 ⟨rfl, hd⟩
  have hb := hd.below
  clear hd
  clear z0 z1 z2 z3
  replace HB := Aside0.mk (below_step HB.out hb)
  replace HR := Aside0.mk (Kd.C_below HR.out hb)
  replace HV := Aside0.mk (blk_below HV.out hb)
  replace HM := Aside0.mk (blk_below HM.out hb)
  clear hb
  have z0 := cell_at HV.out 0 (.int .i64 lo) rfl
  have z1 := cell_at HV.out 1 (.int .i64 hi) rfl
  have z2 := cell_at HM.out 0 (.int .i64 lo) rfl
  have z3 := cell_at HM.out 1 (.int .i64 hi) rfl
  go_wp2_with fail
  refine (afterwordref19_Have.calls k3 A0 c0 l0 t1 m _ HR.out HC.out H3.out).mono ?_
  rintro e w8 ⟨rfl, hd⟩
  have hb := hd.below
  clear hd
  clear z0 z1 z2 z3
  replace HB := Aside0.mk (below_step HB.out hb)
  replace HR := Aside0.mk (Kd.C_below HR.out hb)
  replace HV := Aside0.mk (blk_below HV.out hb)
  replace HM := Aside0.mk (blk_below HM.out hb)
  clear hb
  have z0 := cell_at HV.out 0 (.int .i64 lo) rfl
  have z1 := cell_at HV.out 1 (.int .i64 hi) rfl
  have z2 := cell_at HM.out 0 (.int .i64 lo) rfl
  have z3 := cell_at HM.out 1 (.int .i64 hi) rfl
  go_wp2_with fail
  refine (afterwordref19_Have.calls k4 A0 c0 l0 (hi + 1) q _ HR.out HC.out H4.out).mono ?_
  rintro e w9 ⟨rfl, hd⟩
  have hb := hd.below
  clear hd
  clear z0 z1 z2 z3
  replace HB := Aside0.mk (below_step HB.out hb)
  replace HR := Aside0.mk (Kd.C_below HR.out hb)
  replace HV := Aside0.mk (blk_below HV.out hb)
  replace HM := Aside0.mk (blk_below HM.out hb)
  clear hb
  have z0 := cell_at HV.out 0 (.int .i64 lo) rfl
  have z1 := cell_at HV.out 1 (.int .i64 hi) rfl
  have z2 := cell_at HM.out 0 (.int .i64 lo) rfl
  have z3 := cell_at HM.out 1 (.int .i64 hi) rfl
  by_cases hqm : q ≥ m
  · have c1 : decide (q ≥ m) = true := decide_eq_true hqm
    have c2 : decide (hi < 1000000) = false := decide_eq_false (by have := HQ.out; omega)
    clear hqm
    go_wp2_with fail
    refine (afterwordref19_Have.calls k5 A0 c0 l0 a1 ka _ HR.out HC.out H5.out).mono ?_
    rintro e w10 ⟨rfl, hd⟩
    have hb := hd.below
    clear hd
    clear z0 z1 z2 z3
    replace HB := Aside0.mk (below_step HB.out hb)
    replace HR := Aside0.mk (Kd.C_below HR.out hb)
    replace HV := Aside0.mk (blk_below HV.out hb)
    replace HM := Aside0.mk (blk_below HM.out hb)
    clear hb
    have z0 := cell_at HV.out 0 (.int .i64 lo) rfl
    have z1 := cell_at HV.out 1 (.int .i64 hi) rfl
    have z2 := cell_at HM.out 0 (.int .i64 lo) rfl
    have z3 := cell_at HM.out 1 (.int .i64 hi) rfl
    by_cases hkm : ka = m
    · have d1 : decide (ka > m) = false := decide_eq_false (by omega)
      have d2 : (ka == m) = true := beq_iff_eq.mpr hkm
      have d3 : decide (a1 < lo) = false := decide_eq_false (by have := HKA.out hkm; omega)
      clear hkm
      go_wp2_with fail
      refine (afterwordlaw19_known.calls true _ rfl).mono ?_
      rintro e wz ⟨rfl, hb⟩
      replace HB := Aside0.mk (below_step HB.out hb)
      clear hb
      go_wp2_with fail
      go_ret
      exact ⟨rfl, HB.out⟩
    · have d1 : decide (ka > m) = false := decide_eq_false (by have := HK.out; omega)
      have d2 : (ka == m) = false := beq_eq_false_iff_ne.mpr hkm
      clear hkm
      go_wp2_with fail
      refine (afterwordlaw19_known.calls true _ rfl).mono ?_
      rintro e wz ⟨rfl, hb⟩
      replace HB := Aside0.mk (below_step HB.out hb)
      clear hb
      go_wp2_with fail
      go_ret
      exact ⟨rfl, HB.out⟩
  · have c1 : decide (q ≥ m) = false := decide_eq_false hqm
    clear hqm
    go_wp2_with fail
    refine (afterwordref19_Have.calls k5 A0 c0 l0 a1 ka _ HR.out HC.out H5.out).mono ?_
    rintro e w10 ⟨rfl, hd⟩
    have hb := hd.below
    clear hd
    clear z0 z1 z2 z3
    replace HB := Aside0.mk (below_step HB.out hb)
    replace HR := Aside0.mk (Kd.C_below HR.out hb)
    replace HV := Aside0.mk (blk_below HV.out hb)
    replace HM := Aside0.mk (blk_below HM.out hb)
    clear hb
    have z0 := cell_at HV.out 0 (.int .i64 lo) rfl
    have z1 := cell_at HV.out 1 (.int .i64 hi) rfl
    have z2 := cell_at HM.out 0 (.int .i64 lo) rfl
    have z3 := cell_at HM.out 1 (.int .i64 hi) rfl
    by_cases hkm : ka = m
    · have d1 : decide (ka > m) = false := decide_eq_false (by omega)
      have d2 : (ka == m) = true := beq_iff_eq.mpr hkm
      have d3 : decide (a1 < lo) = false := decide_eq_false (by have := HKA.out hkm; omega)
      clear hkm
      go_wp2_with fail
      refine (afterwordlaw19_known.calls true _ rfl).mono ?_
      rintro e wz ⟨rfl, hb⟩
      replace HB := Aside0.mk (below_step HB.out hb)
      clear hb
      go_wp2_with fail
      go_ret
      exact ⟨rfl, HB.out⟩
    · have d1 : decide (ka > m) = false := decide_eq_false (by have := HK.out; omega)
      have d2 : (ka == m) = false := beq_eq_false_iff_ne.mpr hkm
      clear hkm
      go_wp2_with fail
      refine (afterwordlaw19_known.calls true _ rfl).mono ?_
      rintro e wz ⟨rfl, hb⟩
      replace HB := Aside0.mk (below_step HB.out hb)
      clear hb
      go_wp2_with fail
      go_ret
      exact ⟨rfl, HB.out⟩
set_option maxHeartbeats 8000000 in
set_option maxRecDepth 100000 in
theorem voted_most (A0 : Option Addr) (c0 : Nat) (l0 : List S27) (a1 a2 : Int) (w : World) (hr0 : Kd.C k27 w A0 l0.length l0) (hc0 : l0.length ≤ c0) (lo hi m x y q ka : Int) (kg k1 k2 k4 k5 : Nat) (hv0 : skew_Vote.f l0 = some (lo, hi, m, 0)) (hm0 : skew_Meet.f l0 = some (x, y, 5)) (hgs : afterwordref19_Goods.f kg l0 40 = some true) (hgo : afterwordref19_Good.f lo hi = some true) (h1 : afterwordref19_Have.f k1 l0 lo = some m) (h2 : afterwordref19_Have.f k2 l0 hi = some m) (h3 : ∀ t, lo ≤ t → t ≤ hi → ∃ k, afterwordref19_Have.f k l0 t = some m) (h4 : afterwordref19_Have.f k4 l0 (hi + 1) = some q) (h5 : afterwordref19_Have.f k5 l0 a1 = some ka) (hle : lo ≤ hi) (b0 : -1000000 ≤ lo) (b1 : hi ≤ 1000000) (m1 : 1 ≤ m) (ml : m ≤ l0.length) (hq : hi = 1000000 ∨ q < m) (hk : ka ≤ m) (hka : ka = m → lo ≤ a1) (ha2 : 0 ≤ a2 ∧ a2 ≤ 65535) (hmf : ¬ m = l0.length) :
    Calls Try.prog 9 #[.slice A0 l0.length c0, .int .i64 a1, .int .u16 a2] w fun e w' => e = .returned (.bool true) ∧ Below w.heap.size w w' := by
  have hu27 := Try.underlying27
  have HR := Aside0.mk hr0
  have HC := Aside0.mk hc0
  have HB := Aside0.mk (Below.refl w.heap.size w)
  obtain ⟨q1, q2⟩ := ha2
  have g1 : decide (m < 1) = false := decide_eq_false (by omega)
  have g2 : decide (m > (l0.length : Int)) = false := decide_eq_false (by omega)
  have g3 : (m == (l0.length : Int)) = false := beq_eq_false_iff_ne.mpr hmf
  have HMF := Aside0.mk hmf
  have H1 := Aside0.mk h1
  have H2 := Aside0.mk h2
  have H3 := Aside0.mk h3
  have H4 := Aside0.mk h4
  have H5 := Aside0.mk h5
  have HQ := Aside0.mk hq
  have HKA := Aside0.mk hka
  have HK := Aside0.mk hk
  have ML := Aside0.mk ml
  have M1 := Aside0.mk m1
  clear h1 h2 h3 h4 h5 hq hka hmf hk ml m1 hr0 hc0
  go_enter Try.func9, Try.ntmps9
  go_wp2_with fail
  refine (skew_Vote.calls A0 c0 l0 lo hi m 0 _ HR.out HC.out hv0).mono ?_
  rintro e w1 ⟨rfl, hb⟩
  replace HB := Aside0.mk (below_step HB.out hb)
  replace HR := Aside0.mk (Kd.C_below HR.out hb)
  clear hb
  replace HB := Aside0.mk (below_alloc HB.out (.cells #[.int .i64 lo, .int .i64 hi] 27))
  replace HR := Aside0.mk (Kd.C_alloc HR.out (.cells #[.int .i64 lo, .int .i64 hi] 27))
  have HV := Aside0.mk (blk_new w1 (.cells #[.int .i64 lo, .int .i64 hi] 27))
  go_wp2_with fail
  obtain ⟨n1, hn1⟩ : ∃ n1, w1.heap.size = n1 := ⟨_, rfl⟩
  rw [hn1] at HV ⊢
  clear hn1
  refine (skew_Meet.calls A0 c0 l0 x y 5 _ HR.out HC.out hm0).mono ?_
  rintro e w2 ⟨rfl, hb⟩
  replace HB := Aside0.mk (below_step HB.out hb)
  replace HR := Aside0.mk (Kd.C_below HR.out hb)
  replace HV := Aside0.mk (blk_below HV.out hb)
  clear hb
  replace HB := Aside0.mk (below_alloc HB.out (.cells #[.int .i64 x, .int .i64 y] 27))
  replace HR := Aside0.mk (Kd.C_alloc HR.out (.cells #[.int .i64 x, .int .i64 y] 27))
  replace HV := Aside0.mk (blk_alloc HV.out (.cells #[.int .i64 x, .int .i64 y] 27))
  have HM := Aside0.mk (blk_new w2 (.cells #[.int .i64 x, .int .i64 y] 27))
  obtain ⟨n2, hn2⟩ : ∃ n2, w2.heap.size = n2 := ⟨_, rfl⟩
  rw [hn2] at HM
  have z0 := cell_at HV.out 0 (.int .i64 lo) rfl
  have z1 := cell_at HV.out 1 (.int .i64 hi) rfl
  have z2 := cell_at HM.out 0 (.int .i64 x) rfl
  have z3 := cell_at HM.out 1 (.int .i64 y) rfl
  go_wp2_with fail
  refine (afterwordref19_Goods.calls kg A0 c0 l0 40 true _ HR.out HC.out hgs).mono ?_
  rintro e w3 ⟨rfl, hb⟩
  clear z0 z1 z2 z3
  replace HB := Aside0.mk (below_step HB.out hb)
  replace HR := Aside0.mk (Kd.C_below HR.out hb)
  replace HV := Aside0.mk (blk_below HV.out hb)
  replace HM := Aside0.mk (blk_below HM.out hb)
  clear hb
  have z0 := cell_at HV.out 0 (.int .i64 lo) rfl
  have z1 := cell_at HV.out 1 (.int .i64 hi) rfl
  have z2 := cell_at HM.out 0 (.int .i64 x) rfl
  have z3 := cell_at HM.out 1 (.int .i64 y) rfl
  go_wp2_with fail
  refine (afterwordref19_Good.calls lo hi true _ hgo).mono ?_
  rintro e w4 ⟨rfl, hb⟩
  clear z0 z1 z2 z3
  replace HB := Aside0.mk (below_step HB.out hb)
  replace HR := Aside0.mk (Kd.C_below HR.out hb)
  replace HV := Aside0.mk (blk_below HV.out hb)
  replace HM := Aside0.mk (blk_below HM.out hb)
  clear hb
  have z0 := cell_at HV.out 0 (.int .i64 lo) rfl
  have z1 := cell_at HV.out 1 (.int .i64 hi) rfl
  have z2 := cell_at HM.out 0 (.int .i64 x) rfl
  have z3 := cell_at HM.out 1 (.int .i64 y) rfl
  go_wp2_with fail
  have e3 : IntKind.i64.wrap (hi - lo) = hi - lo := IntWalk.i64_in _ (by omega)
  have e4 : IntKind.i64.wrap (hi - lo + 1) = hi - lo + 1 := IntWalk.i64_in _ (by omega)
  have e5 : decide (hi - lo + 1 = 0) = false := decide_eq_false (by omega)
  have e6 : ¬ hi - lo + 1 = 0 := by omega
  have e2 : IntKind.i64.wrap a2 = a2 := IntWalk.i64_in _ (by omega)
  have HBd := Aside0.mk (below_drew1 (Below.refl w4.heap.size w4))
  go_region_held3 (fun W' => Below w4.heap.size w4 W' ∧ W'.cell? ⟨n1, 0, none⟩ = some (.int .i64 lo) ∧ W'.cell? ⟨n1, 1, none⟩ = some (.int .i64 hi))
    (first | (with_reducible (refine ⟨HBd.out, ?_, ?_⟩)) <;> (apply cell_drew; with_reducible assumption))
    (fail)
  have hb := HBd.out
  clear z0 z1 z2 z3 HBd
  generalize w4.drew = w5 at hb ⊢
  clear e2 e3 e4 e5 e6
  try simp only [i64_w, i32_w]
  replace HB := Aside0.mk (below_step HB.out hb)
  replace HR := Aside0.mk (Kd.C_below HR.out hb)
  replace HV := Aside0.mk (blk_below HV.out hb)
  replace HM := Aside0.mk (blk_below HM.out hb)
  clear hb
  have z0 := cell_at HV.out 0 (.int .i64 lo) rfl
  have z1 := cell_at HV.out 1 (.int .i64 hi) rfl
  have z2 := cell_at HM.out 0 (.int .i64 x) rfl
  have z3 := cell_at HM.out 1 (.int .i64 y) rfl
  obtain ⟨t1, ht1, r1, r2⟩ : ∃ t1, wrap64 (lo + Int.tmod a2 (hi - lo + 1)) = t1 ∧ lo ≤ t1 ∧ t1 ≤ hi := by
    have h1 := Int.emod_nonneg a2 (show hi - lo + 1 ≠ 0 by omega)
    have h2 := Int.emod_lt_of_pos a2 (show 0 < hi - lo + 1 by omega)
    rw [Int.tmod_eq_emod_of_nonneg (by omega)]
    exact ⟨_, rfl, by unfold wrap64; omega, by unfold wrap64; omega⟩
  try rw [ht1]
  clear ht1
  obtain ⟨k3, h3⟩ := H3.out t1 r1 r2
  replace H3 := Aside0.mk h3
  clear h3
  go_wp2_with fail
  refine (afterwordref19_Have.calls k1 A0 c0 l0 lo m _ HR.out HC.out H1.out).mono ?_
  rintro e w6 ⟨rfl, hd⟩
  have hb := hd.below
  clear hd
  clear z0 z1 z2 z3
  replace HB := Aside0.mk (below_step HB.out hb)
  replace HR := Aside0.mk (Kd.C_below HR.out hb)
  replace HV := Aside0.mk (blk_below HV.out hb)
  replace HM := Aside0.mk (blk_below HM.out hb)
  clear hb
  have z0 := cell_at HV.out 0 (.int .i64 lo) rfl
  have z1 := cell_at HV.out 1 (.int .i64 hi) rfl
  have z2 := cell_at HM.out 0 (.int .i64 x) rfl
  have z3 := cell_at HM.out 1 (.int .i64 y) rfl
  go_wp2_with fail
  refine (afterwordref19_Have.calls k2 A0 c0 l0 hi m _ HR.out HC.out H2.out).mono ?_
  rintro e w7 ⟨rfl, hd⟩
  have hb := hd.below
  clear hd
  clear z0 z1 z2 z3
  replace HB := Aside0.mk (below_step HB.out hb)
  replace HR := Aside0.mk (Kd.C_below HR.out hb)
  replace HV := Aside0.mk (blk_below HV.out hb)
  replace HM := Aside0.mk (blk_below HM.out hb)
  clear hb
  have z0 := cell_at HV.out 0 (.int .i64 lo) rfl
  have z1 := cell_at HV.out 1 (.int .i64 hi) rfl
  have z2 := cell_at HM.out 0 (.int .i64 x) rfl
  have z3 := cell_at HM.out 1 (.int .i64 y) rfl
  go_wp2_with fail
  refine (afterwordref19_Have.calls k3 A0 c0 l0 t1 m _ HR.out HC.out H3.out).mono ?_
  rintro e w8 ⟨rfl, hd⟩
  have hb := hd.below
  clear hd
  clear z0 z1 z2 z3
  replace HB := Aside0.mk (below_step HB.out hb)
  replace HR := Aside0.mk (Kd.C_below HR.out hb)
  replace HV := Aside0.mk (blk_below HV.out hb)
  replace HM := Aside0.mk (blk_below HM.out hb)
  clear hb
  have z0 := cell_at HV.out 0 (.int .i64 lo) rfl
  have z1 := cell_at HV.out 1 (.int .i64 hi) rfl
  have z2 := cell_at HM.out 0 (.int .i64 x) rfl
  have z3 := cell_at HM.out 1 (.int .i64 y) rfl
  go_wp2_with fail
  refine (afterwordref19_Have.calls k4 A0 c0 l0 (hi + 1) q _ HR.out HC.out H4.out).mono ?_
  rintro e w9 ⟨rfl, hd⟩
  have hb := hd.below
  clear hd
  clear z0 z1 z2 z3
  replace HB := Aside0.mk (below_step HB.out hb)
  replace HR := Aside0.mk (Kd.C_below HR.out hb)
  replace HV := Aside0.mk (blk_below HV.out hb)
  replace HM := Aside0.mk (blk_below HM.out hb)
  clear hb
  have z0 := cell_at HV.out 0 (.int .i64 lo) rfl
  have z1 := cell_at HV.out 1 (.int .i64 hi) rfl
  have z2 := cell_at HM.out 0 (.int .i64 x) rfl
  have z3 := cell_at HM.out 1 (.int .i64 y) rfl
  by_cases hqm : q ≥ m
  · have c1 : decide (q ≥ m) = true := decide_eq_true hqm
    have c2 : decide (hi < 1000000) = false := decide_eq_false (by have := HQ.out; omega)
    clear hqm
    go_wp2_with fail
    refine (afterwordref19_Have.calls k5 A0 c0 l0 a1 ka _ HR.out HC.out H5.out).mono ?_
    rintro e w10 ⟨rfl, hd⟩
    have hb := hd.below
    clear hd
    clear z0 z1 z2 z3
    replace HB := Aside0.mk (below_step HB.out hb)
    replace HR := Aside0.mk (Kd.C_below HR.out hb)
    replace HV := Aside0.mk (blk_below HV.out hb)
    replace HM := Aside0.mk (blk_below HM.out hb)
    clear hb
    have z0 := cell_at HV.out 0 (.int .i64 lo) rfl
    have z1 := cell_at HV.out 1 (.int .i64 hi) rfl
    have z2 := cell_at HM.out 0 (.int .i64 x) rfl
    have z3 := cell_at HM.out 1 (.int .i64 y) rfl
    by_cases hkm : ka = m
    · have d1 : decide (ka > m) = false := decide_eq_false (by omega)
      have d2 : (ka == m) = true := beq_iff_eq.mpr hkm
      have d3 : decide (a1 < lo) = false := decide_eq_false (by have := HKA.out hkm; omega)
      clear hkm
      go_wp2_with fail
      refine (afterwordlaw19_known.calls true _ rfl).mono ?_
      rintro e wz ⟨rfl, hb⟩
      replace HB := Aside0.mk (below_step HB.out hb)
      clear hb
      go_wp2_with fail
      go_ret
      exact ⟨rfl, HB.out⟩
    · have d1 : decide (ka > m) = false := decide_eq_false (by have := HK.out; omega)
      have d2 : (ka == m) = false := beq_eq_false_iff_ne.mpr hkm
      clear hkm
      go_wp2_with fail
      refine (afterwordlaw19_known.calls true _ rfl).mono ?_
      rintro e wz ⟨rfl, hb⟩
      replace HB := Aside0.mk (below_step HB.out hb)
      clear hb
      go_wp2_with fail
      go_ret
      exact ⟨rfl, HB.out⟩
  · have c1 : decide (q ≥ m) = false := decide_eq_false hqm
    clear hqm
    go_wp2_with fail
    refine (afterwordref19_Have.calls k5 A0 c0 l0 a1 ka _ HR.out HC.out H5.out).mono ?_
    rintro e w10 ⟨rfl, hd⟩
    have hb := hd.below
    clear hd
    clear z0 z1 z2 z3
    replace HB := Aside0.mk (below_step HB.out hb)
    replace HR := Aside0.mk (Kd.C_below HR.out hb)
    replace HV := Aside0.mk (blk_below HV.out hb)
    replace HM := Aside0.mk (blk_below HM.out hb)
    clear hb
    have z0 := cell_at HV.out 0 (.int .i64 lo) rfl
    have z1 := cell_at HV.out 1 (.int .i64 hi) rfl
    have z2 := cell_at HM.out 0 (.int .i64 x) rfl
    have z3 := cell_at HM.out 1 (.int .i64 y) rfl
    by_cases hkm : ka = m
    · have d1 : decide (ka > m) = false := decide_eq_false (by omega)
      have d2 : (ka == m) = true := beq_iff_eq.mpr hkm
      have d3 : decide (a1 < lo) = false := decide_eq_false (by have := HKA.out hkm; omega)
      clear hkm
      go_wp2_with fail
      refine (afterwordlaw19_known.calls true _ rfl).mono ?_
      rintro e wz ⟨rfl, hb⟩
      replace HB := Aside0.mk (below_step HB.out hb)
      clear hb
      go_wp2_with fail
      go_ret
      exact ⟨rfl, HB.out⟩
    · have d1 : decide (ka > m) = false := decide_eq_false (by have := HK.out; omega)
      have d2 : (ka == m) = false := beq_eq_false_iff_ne.mpr hkm
      clear hkm
      go_wp2_with fail
      refine (afterwordlaw19_known.calls true _ rfl).mono ?_
      rintro e wz ⟨rfl, hb⟩
      replace HB := Aside0.mk (below_step HB.out hb)
      clear hb
      go_wp2_with fail
      go_ret
      exact ⟨rfl, HB.out⟩
end Go.Proofs.Ytbffhblebigcfaa.Sk
