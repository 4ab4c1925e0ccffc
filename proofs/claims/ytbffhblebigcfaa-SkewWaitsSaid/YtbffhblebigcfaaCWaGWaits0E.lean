/- The walk of SkewWaits where waiting ends with 0 (0e). -/
import Derived.BigQuiet
import Derived.Deep.QuietTactic
import Derived.Deep.RegionHeld3
import Derived.IntWalk
import Derived.Test.YtbffhblebigcfaaCWaLClocks
import Derived.Test.YtbffhblebigcfaaCWaGKnown
import Derived.Test.YtbffhblebigcfaaCWaS0
namespace Go.Proofs.Ytbffhblebigcfaa.Sk
open Go.RowKit Go.Proofs.YtbffhblebigcfaaW.PrintWords Go.Proofs.YtbffhblebigcfaaW.PrintLast Go.Proofs.YtbffhblebigcfaaW.PrintMore
attribute [local go_sem] max2_int min2_int max_two min_two
attribute [local go_sem high] eqA27
set_option linter.unusedVariables false
set_option linter.unusedSimpArgs false
set_option maxHeartbeats 8000000 in
set_option maxRecDepth 100000 in
theorem waits_0e (g0 g1 g2 g3 g4 g5 g6 a1 a2 a3 lo hi : Int) (w : World) (hs : skew_Span.f g0 g1 g2 g3 = some (lo, hi, 0)) (hc : afterwordref19_Clock.f g0 g1 g2 = some true) (hr : afterwordref19_Read.f g0 g1 g2 g3 = some true) (ho : afterwordref19_SpanOf.f g0 g1 g2 g3 = some (lo, hi))
    (hw : skew_Wait.f g0 g1 g2 g3 g4 = some (g3, 0)) (xl xh : Int) (hx : skew_Span.f g0 g1 g2 g3 = some (xl, xh, 0)) (hxl : g4 < xl) (hw1 : g3 ≤ 100000) (m : Int) (hm : skew_Mark.f g0 g1 g2 g3 g5 g6 = some (m, 0)) (hlo : -300000 ≤ lo) (hhi : hi ≤ 300000) (hlh : lo ≤ hi) (hg5 : 0 ≤ g5 ∧ g5 ≤ 100000) (hg6 : 0 ≤ g6 ∧ g6 ≤ 100000) (hm0 : 0 ≤ m) (hmx : m = 0 ∨ m = lo - g5 - g6) (ha1 : -32768 ≤ a1 ∧ a1 ≤ 32767) (ha2 : -32768 ≤ a2 ∧ a2 ≤ 32767) (ha3 : -32768 ≤ a3 ∧ a3 ≤ 32767) :
    Calls Try.prog 6 #[.agg #[.int .i64 g0, .int .i64 g1, .int .i64 g2, .int .i64 g3, .int .i64 g4, .int .i64 g5, .int .i64 g6], .int .i16 a1, .int .i16 a2, .int .i16 a3] w fun e w' => e = .returned (.bool true) ∧ Below w.heap.size w w' := by
  have hu25 := Try.underlying25
  have hu23 := Try.underlying23
  have hu27 := Try.underlying27
  have HB := Aside0.mk (Below.refl w.heap.size w)
  have HK := Aside0.mk (blk_new w (.cells #[.int .i64 g0, .int .i64 g1, .int .i64 g2, .int .i64 g3, .int .i64 g4, .int .i64 g5, .int .i64 g6] 25))
  replace HB := Aside0.mk (below_alloc HB.out (.cells #[.int .i64 g0, .int .i64 g1, .int .i64 g2, .int .i64 g3, .int .i64 g4, .int .i64 g5, .int .i64 g6] 25))
  obtain ⟨n0, hn0⟩ : ∃ n0, w.heap.size = n0 := ⟨_, rfl⟩
  obtain ⟨q1, q2⟩ := hg5
  obtain ⟨q3, q4⟩ := hg6
  have d1 : decide (g5 < 0) = false := decide_eq_false (by omega)
  have d2 : decide (g5 > 100000) = false := decide_eq_false (by omega)
  have d3 : decide (g6 < 0) = false := decide_eq_false (by omega)
  have d4 : decide (g6 > 100000) = false := decide_eq_false (by omega)
  have d5 : decide (m ≥ 0) = true := decide_eq_true hm0
  have gx : decide (xl ≤ g4) = false := decide_eq_false (by omega)
  have gw : decide (g3 < g3) = false := decide_eq_false (by omega)
  have gw1 : decide (g3 > 100000) = false := decide_eq_false (by omega)
  have gw2 : decide (g3 > g3) = false := decide_eq_false (by omega)
  go_enter Try.func6, Try.ntmps6
  go_wp2_with fail
  refine (skew_Span.calls g0 g1 g2 g3 lo hi 0 _ hs).mono ?_
  rintro e w1 ⟨rfl, hb⟩
  replace HB := Aside0.mk (below_step HB.out hb)
  replace HK := Aside0.mk (blk_below HK.out hb)
  clear hb
  have HS := Aside0.mk (blk_new w1 (.cells #[.int .i64 lo, .int .i64 hi] 27))
  replace HB := Aside0.mk (below_alloc HB.out (.cells #[.int .i64 lo, .int .i64 hi] 27))
  replace HK := Aside0.mk (blk_alloc HK.out (.cells #[.int .i64 lo, .int .i64 hi] 27))
  go_wp2_with fail
  rw [hn0] at HK
  clear hn0
  obtain ⟨n1, hn1⟩ : ∃ n1, w1.heap.size = n1 := ⟨_, rfl⟩
  rw [hn1] at HS ⊢
  generalize w1.alloc (.cells #[.int .i64 lo, .int .i64 hi] 27) = w2 at HS HB HK ⊢
  clear hn1
  have z0 := cell_at HK.out 0 (.int .i64 g0) rfl
  have z1 := cell_at HK.out 1 (.int .i64 g1) rfl
  have z2 := cell_at HK.out 2 (.int .i64 g2) rfl
  have z3 := cell_at HK.out 3 (.int .i64 g3) rfl
  have z4 := cell_at HS.out 0 (.int .i64 lo) rfl
  have z5 := cell_at HS.out 1 (.int .i64 hi) rfl
  have HBd := Aside0.mk (below_drew1 (Below.refl w2.heap.size w2))
  go_region_held3 (fun W' => Below w2.heap.size w2 W' ∧ W'.cell? ⟨n0, 0, none⟩ = some (.int .i64 g0) ∧ W'.cell? ⟨n0, 1, none⟩ = some (.int .i64 g1) ∧ W'.cell? ⟨n0, 2, none⟩ = some (.int .i64 g2) ∧ W'.cell? ⟨n0, 3, none⟩ = some (.int .i64 g3) ∧ W'.cell? ⟨n1, 0, none⟩ = some (.int .i64 lo) ∧ W'.cell? ⟨n1, 1, none⟩ = some (.int .i64 hi))
    (first | (with_reducible (refine ⟨HBd.out, ?_, ?_, ?_, ?_, ?_, ?_⟩)) <;> (apply cell_drew; with_reducible assumption) | (go_split_ands; (with_reducible refine ⟨below_step (by assumption) hb, ?_, ?_, ?_, ?_, ?_, ?_⟩) <;> (apply pw_cell_below hb; with_reducible assumption)))
    (first | (go_at_call 29; (with_reducible refine (afterwordref19_Clock.calls g0 g1 g2 true _ hc).mono ?_); rintro e w' ⟨rfl, hb⟩) | (go_at_call 30; (with_reducible refine (afterwordref19_Read.calls g0 g1 g2 g3 true _ hr).mono ?_); rintro e w' ⟨rfl, hb⟩) | (go_at_call 31; (with_reducible refine (afterwordref19_SpanOf.calls g0 g1 g2 g3 lo hi _ ho).mono ?_); rintro e w' ⟨rfl, hb⟩))
  rename_i w3 hS
  obtain ⟨hb, _⟩ := hS
  clear z0 z1 z2 z3 z4 z5 HBd
  replace HB := Aside0.mk (below_step HB.out hb)
  replace HK := Aside0.mk (blk_below HK.out hb)
  replace HS := Aside0.mk (blk_below HS.out hb)
  clear hb
  have z0 := cell_at HK.out 0 (.int .i64 g0) rfl
  have z1 := cell_at HK.out 1 (.int .i64 g1) rfl
  have z2 := cell_at HK.out 2 (.int .i64 g2) rfl
  have z3 := cell_at HK.out 3 (.int .i64 g3) rfl
  have z4 := cell_at HK.out 4 (.int .i64 g4) rfl
  have z5 := cell_at HK.out 5 (.int .i64 g5) rfl
  have z6 := cell_at HK.out 6 (.int .i64 g6) rfl
  have z7 := cell_at HS.out 0 (.int .i64 lo) rfl
  have z8 := cell_at HS.out 1 (.int .i64 hi) rfl
  go_wp2_with fail
  refine (skew_Wait.calls g0 g1 g2 g3 g4 g3 0 _ hw).mono ?_
  rintro e w4 ⟨rfl, hb⟩
  clear z0 z1 z2 z3 z4 z5 z6 z7 z8
  replace HB := Aside0.mk (below_step HB.out hb)
  replace HK := Aside0.mk (blk_below HK.out hb)
  replace HS := Aside0.mk (blk_below HS.out hb)
  clear hb
  have z0 := cell_at HK.out 0 (.int .i64 g0) rfl
  have z1 := cell_at HK.out 1 (.int .i64 g1) rfl
  have z2 := cell_at HK.out 2 (.int .i64 g2) rfl
  have z3 := cell_at HK.out 3 (.int .i64 g3) rfl
  have z4 := cell_at HK.out 4 (.int .i64 g4) rfl
  have z5 := cell_at HK.out 5 (.int .i64 g5) rfl
  have z6 := cell_at HK.out 6 (.int .i64 g6) rfl
  have z7 := cell_at HS.out 0 (.int .i64 lo) rfl
  have z8 := cell_at HS.out 1 (.int .i64 hi) rfl
  go_wp2_with fail
  refine (skew_Span.calls g0 g1 g2 g3 xl xh 0 _ hx).mono ?_
  rintro e w5 ⟨rfl, hb⟩
  clear z0 z1 z2 z3 z4 z5 z6 z7 z8
  replace HB := Aside0.mk (below_step HB.out hb)
  replace HK := Aside0.mk (blk_below HK.out hb)
  replace HS := Aside0.mk (blk_below HS.out hb)
  clear hb
  have Hn5 := Aside0.mk (blk_new w5 (.cells #[.int .i64 xl, .int .i64 xh] 27))
  replace HB := Aside0.mk (below_alloc HB.out (.cells #[.int .i64 xl, .int .i64 xh] 27))
  replace HK := Aside0.mk (blk_alloc HK.out (.cells #[.int .i64 xl, .int .i64 xh] 27))
  replace HS := Aside0.mk (blk_alloc HS.out (.cells #[.int .i64 xl, .int .i64 xh] 27))
  obtain ⟨n5, hn5⟩ : ∃ n, w5.heap.size = n := ⟨_, rfl⟩
  have z0 := cell_at HK.out 0 (.int .i64 g0) rfl
  have z1 := cell_at HK.out 1 (.int .i64 g1) rfl
  have z2 := cell_at HK.out 2 (.int .i64 g2) rfl
  have z3 := cell_at HK.out 3 (.int .i64 g3) rfl
  have z4 := cell_at HK.out 4 (.int .i64 g4) rfl
  have z5 := cell_at HK.out 5 (.int .i64 g5) rfl
  have z6 := cell_at HK.out 6 (.int .i64 g6) rfl
  have z7 := cell_at HS.out 0 (.int .i64 lo) rfl
  have z8 := cell_at HS.out 1 (.int .i64 hi) rfl
  have yw5 := cell_at Hn5.out 0 (.int .i64 xl) rfl
  rw [hn5] at yw5
  go_wp2_with fail
  clear yw5
  refine (skew_Mark.calls g0 g1 g2 g3 g5 g6 m 0 _ hm).mono ?_
  rintro e w8 ⟨rfl, hb⟩
  clear z0 z1 z2 z3 z4 z5 z6 z7 z8
  replace HB := Aside0.mk (below_step HB.out hb)
  replace HK := Aside0.mk (blk_below HK.out hb)
  replace HS := Aside0.mk (blk_below HS.out hb)
  clear hb
  have z0 := cell_at HK.out 0 (.int .i64 g0) rfl
  have z1 := cell_at HK.out 1 (.int .i64 g1) rfl
  have z2 := cell_at HK.out 2 (.int .i64 g2) rfl
  have z3 := cell_at HK.out 3 (.int .i64 g3) rfl
  have z4 := cell_at HK.out 4 (.int .i64 g4) rfl
  have z5 := cell_at HK.out 5 (.int .i64 g5) rfl
  have z6 := cell_at HK.out 6 (.int .i64 g6) rfl
  have z7 := cell_at HS.out 0 (.int .i64 lo) rfl
  have z8 := cell_at HS.out 1 (.int .i64 hi) rfl
  go_wp2_with fail
  have e1 : IntKind.i64.wrap a3 = a3 := IntWalk.i64_in _ (by omega)
  have e2 : IntKind.i64.wrap (a3 + 32768) = a3 + 32768 := IntWalk.i64_in _ (by omega)
  have e3 : IntKind.i64.wrap (hi - lo) = hi - lo := IntWalk.i64_in _ (by omega)
  have e4 : IntKind.i64.wrap (hi - lo + 1) = hi - lo + 1 := IntWalk.i64_in _ (by omega)
  have e5 : decide (hi - lo + 1 = 0) = false := decide_eq_false (by omega)
  have e6 : ¬ hi - lo + 1 = 0 := by omega
  have HBd := Aside0.mk (below_drew1 (Below.refl w8.heap.size w8))
  go_region_held3 (fun W' => Below w8.heap.size w8 W' ∧ W'.cell? ⟨n1, 0, none⟩ = some (.int .i64 lo) ∧ W'.cell? ⟨n1, 1, none⟩ = some (.int .i64 hi))
    (first | (with_reducible (refine ⟨HBd.out, ?_, ?_⟩)) <;> (apply cell_drew; with_reducible assumption))
    (fail)
  have hb := HBd.out
  clear z0 z1 z2 z3 z4 z5 z6 z7 z8 HBd
  generalize w8.drew = w9 at hb ⊢
  clear e1 e2 e3 e4 e5 e6
  try simp only [i64_w, i32_w]
  replace HB := Aside0.mk (below_step HB.out hb)
  replace HK := Aside0.mk (blk_below HK.out hb)
  replace HS := Aside0.mk (blk_below HS.out hb)
  clear hb
  have z0 := cell_at HK.out 0 (.int .i64 g0) rfl
  have z1 := cell_at HK.out 1 (.int .i64 g1) rfl
  have z2 := cell_at HK.out 2 (.int .i64 g2) rfl
  have z3 := cell_at HK.out 3 (.int .i64 g3) rfl
  have z4 := cell_at HK.out 4 (.int .i64 g4) rfl
  have z5 := cell_at HK.out 5 (.int .i64 g5) rfl
  have z6 := cell_at HK.out 6 (.int .i64 g6) rfl
  have z7 := cell_at HS.out 0 (.int .i64 lo) rfl
  have z8 := cell_at HS.out 1 (.int .i64 hi) rfl
  obtain ⟨t1, ht1, r1, r2⟩ : ∃ t1, wrap64 (lo + Int.tmod (a3 + 32768) (hi - lo + 1)) = t1 ∧ lo ≤ t1 ∧ t1 ≤ 300000 := by
    have h1 := Int.emod_nonneg (a3 + 32768) (show hi - lo + 1 ≠ 0 by omega)
    have h2 := Int.emod_lt_of_pos (a3 + 32768) (show 0 < hi - lo + 1 by omega)
    rw [Int.tmod_eq_emod_of_nonneg (by omega)]
    exact ⟨_, rfl, by unfold wrap64; omega, by unfold wrap64; omega⟩
  rw [ht1]
  obtain ⟨t2, ht2, r3, r4⟩ : ∃ t2, Int.tmod (a1 + 32768) (g5 + 1) = t2 ∧ 0 ≤ t2 ∧ t2 ≤ g5 := by
    have h1 := Int.emod_nonneg (a1 + 32768) (show g5 + 1 ≠ 0 by omega)
    have h2 := Int.emod_lt_of_pos (a1 + 32768) (show 0 < g5 + 1 by omega)
    rw [Int.tmod_eq_emod_of_nonneg (by omega)]
    exact ⟨_, rfl, by omega, by omega⟩
  obtain ⟨t3, ht3, r5, r6⟩ : ∃ t3, Int.tmod (a2 + 32768) (g6 + 1) = t3 ∧ 0 ≤ t3 ∧ t3 ≤ g6 := by
    have h1 := Int.emod_nonneg (a2 + 32768) (show g6 + 1 ≠ 0 by omega)
    have h2 := Int.emod_lt_of_pos (a2 + 32768) (show 0 < g6 + 1 by omega)
    rw [Int.tmod_eq_emod_of_nonneg (by omega)]
    exact ⟨_, rfl, by omega, by omega⟩
  clear ht1
  have e7 : ¬ g5 + 1 = 0 := by omega
  have e8 : ¬ g6 + 1 = 0 := by omega
  have e9 : decide (g5 + 1 = 0) = false := decide_eq_false e7
  have e10 : decide (g6 + 1 = 0) = false := decide_eq_false e8
  have hEnd : t1 - t2 < t3 ∨ ¬ t1 - t2 < t3 ∧ m ≤ t1 - t2 - t3 := by omega
  clear hmx
  rcases hEnd with hA | ⟨hA, hA2⟩
  · have f1 : decide (t1 - t2 - t3 < 0) = true := decide_eq_true (by omega)
    have f2 : decide (t1 - t2 < t3) = true := decide_eq_true hA
    go_wp2_with fail
    refine (afterwordlaw19_known.calls true _ rfl).mono ?_
    rintro e wz ⟨rfl, hb⟩
    replace HB := Aside0.mk (below_step HB.out hb)
    go_wp2_with fail
    go_ret
    exact ⟨rfl, HB.out⟩
  · have f1 : decide (t1 - t2 - t3 < 0) = false := decide_eq_false (by omega)
    have f2 : decide (t1 - t2 < t3) = false := decide_eq_false hA
    have f3 : decide (t1 - t2 - t3 ≥ m) = true := decide_eq_true (by omega)
    go_wp2_with fail
    refine (afterwordlaw19_known.calls true _ rfl).mono ?_
    rintro e wz ⟨rfl, hb⟩
    replace HB := Aside0.mk (below_step HB.out hb)
    go_wp2_with fail
    go_ret
    exact ⟨rfl, HB.out⟩
set_option maxHeartbeats 8000000 in
set_option maxRecDepth 100000 in
theorem waits_0en (g0 g1 g2 g3 g4 g5 g6 a1 a2 a3 lo hi : Int) (w : World) (hs : skew_Span.f g0 g1 g2 g3 = some (lo, hi, 0)) (hc : afterwordref19_Clock.f g0 g1 g2 = some true) (hr : afterwordref19_Read.f g0 g1 g2 g3 = some true) (ho : afterwordref19_SpanOf.f g0 g1 g2 g3 = some (lo, hi))
    (hw : skew_Wait.f g0 g1 g2 g3 g4 = some (g3, 0)) (xl xh : Int) (hx : skew_Span.f g0 g1 g2 g3 = some (xl, xh, 0)) (hxl : g4 < xl) (hw1 : g3 ≤ 100000) (hm : skew_Mark.f g0 g1 g2 g3 g5 g6 = some (0, 2)) :
    Calls Try.prog 6 #[.agg #[.int .i64 g0, .int .i64 g1, .int .i64 g2, .int .i64 g3, .int .i64 g4, .int .i64 g5, .int .i64 g6], .int .i16 a1, .int .i16 a2, .int .i16 a3] w fun e w' => e = .returned (.bool true) ∧ Below w.heap.size w w' := by
  have hu25 := Try.underlying25
  have hu23 := Try.underlying23
  have hu27 := Try.underlying27
  have HB := Aside0.mk (Below.refl w.heap.size w)
  have HK := Aside0.mk (blk_new w (.cells #[.int .i64 g0, .int .i64 g1, .int .i64 g2, .int .i64 g3, .int .i64 g4, .int .i64 g5, .int .i64 g6] 25))
  replace HB := Aside0.mk (below_alloc HB.out (.cells #[.int .i64 g0, .int .i64 g1, .int .i64 g2, .int .i64 g3, .int .i64 g4, .int .i64 g5, .int .i64 g6] 25))
  obtain ⟨n0, hn0⟩ : ∃ n0, w.heap.size = n0 := ⟨_, rfl⟩
  have gx : decide (xl ≤ g4) = false := decide_eq_false (by omega)
  have gw : decide (g3 < g3) = false := decide_eq_false (by omega)
  have gw1 : decide (g3 > 100000) = false := decide_eq_false (by omega)
  have gw2 : decide (g3 > g3) = false := decide_eq_false (by omega)
  go_enter Try.func6, Try.ntmps6
  go_wp2_with fail
  refine (skew_Span.calls g0 g1 g2 g3 lo hi 0 _ hs).mono ?_
  rintro e w1 ⟨rfl, hb⟩
  replace HB := Aside0.mk (below_step HB.out hb)
  replace HK := Aside0.mk (blk_below HK.out hb)
  clear hb
  have HS := Aside0.mk (blk_new w1 (.cells #[.int .i64 lo, .int .i64 hi] 27))
  replace HB := Aside0.mk (below_alloc HB.out (.cells #[.int .i64 lo, .int .i64 hi] 27))
  replace HK := Aside0.mk (blk_alloc HK.out (.cells #[.int .i64 lo, .int .i64 hi] 27))
  go_wp2_with fail
  rw [hn0] at HK
  clear hn0
  obtain ⟨n1, hn1⟩ : ∃ n1, w1.heap.size = n1 := ⟨_, rfl⟩
  rw [hn1] at HS ⊢
  generalize w1.alloc (.cells #[.int .i64 lo, .int .i64 hi] 27) = w2 at HS HB HK ⊢
  clear hn1
  have z0 := cell_at HK.out 0 (.int .i64 g0) rfl
  have z1 := cell_at HK.out 1 (.int .i64 g1) rfl
  have z2 := cell_at HK.out 2 (.int .i64 g2) rfl
  have z3 := cell_at HK.out 3 (.int .i64 g3) rfl
  have z4 := cell_at HS.out 0 (.int .i64 lo) rfl
  have z5 := cell_at HS.out 1 (.int .i64 hi) rfl
  have HBd := Aside0.mk (below_drew1 (Below.refl w2.heap.size w2))
  go_region_held3 (fun W' => Below w2.heap.size w2 W' ∧ W'.cell? ⟨n0, 0, none⟩ = some (.int .i64 g0) ∧ W'.cell? ⟨n0, 1, none⟩ = some (.int .i64 g1) ∧ W'.cell? ⟨n0, 2, none⟩ = some (.int .i64 g2) ∧ W'.cell? ⟨n0, 3, none⟩ = some (.int .i64 g3) ∧ W'.cell? ⟨n1, 0, none⟩ = some (.int .i64 lo) ∧ W'.cell? ⟨n1, 1, none⟩ = some (.int .i64 hi))
    (first | (with_reducible (refine ⟨HBd.out, ?_, ?_, ?_, ?_, ?_, ?_⟩)) <;> (apply cell_drew; with_reducible assumption) | (go_split_ands; (with_reducible refine ⟨below_step (by assumption) hb, ?_, ?_, ?_, ?_, ?_, ?_⟩) <;> (apply pw_cell_below hb; with_reducible assumption)))
    (first | (go_at_call 29; (with_reducible refine (afterwordref19_Clock.calls g0 g1 g2 true _ hc).mono ?_); rintro e w' ⟨rfl, hb⟩) | (go_at_call 30; (with_reducible refine (afterwordref19_Read.calls g0 g1 g2 g3 true _ hr).mono ?_); rintro e w' ⟨rfl, hb⟩) | (go_at_call 31; (with_reducible refine (afterwordref19_SpanOf.calls g0 g1 g2 g3 lo hi _ ho).mono ?_); rintro e w' ⟨rfl, hb⟩))
  rename_i w3 hS
  obtain ⟨hb, _⟩ := hS
  clear z0 z1 z2 z3 z4 z5 HBd
  replace HB := Aside0.mk (below_step HB.out hb)
  replace HK := Aside0.mk (blk_below HK.out hb)
  replace HS := Aside0.mk (blk_below HS.out hb)
  clear hb
  have z0 := cell_at HK.out 0 (.int .i64 g0) rfl
  have z1 := cell_at HK.out 1 (.int .i64 g1) rfl
  have z2 := cell_at HK.out 2 (.int .i64 g2) rfl
  have z3 := cell_at HK.out 3 (.int .i64 g3) rfl
  have z4 := cell_at HK.out 4 (.int .i64 g4) rfl
  have z5 := cell_at HK.out 5 (.int .i64 g5) rfl
  have z6 := cell_at HK.out 6 (.int .i64 g6) rfl
  have z7 := cell_at HS.out 0 (.int .i64 lo) rfl
  have z8 := cell_at HS.out 1 (.int .i64 hi) rfl
  go_wp2_with fail
  refine (skew_Wait.calls g0 g1 g2 g3 g4 g3 0 _ hw).mono ?_
  rintro e w4 ⟨rfl, hb⟩
  clear z0 z1 z2 z3 z4 z5 z6 z7 z8
  replace HB := Aside0.mk (below_step HB.out hb)
  replace HK := Aside0.mk (blk_below HK.out hb)
  replace HS := Aside0.mk (blk_below HS.out hb)
  clear hb
  have z0 := cell_at HK.out 0 (.int .i64 g0) rfl
  have z1 := cell_at HK.out 1 (.int .i64 g1) rfl
  have z2 := cell_at HK.out 2 (.int .i64 g2) rfl
  have z3 := cell_at HK.out 3 (.int .i64 g3) rfl
  have z4 := cell_at HK.out 4 (.int .i64 g4) rfl
  have z5 := cell_at HK.out 5 (.int .i64 g5) rfl
  have z6 := cell_at HK.out 6 (.int .i64 g6) rfl
  have z7 := cell_at HS.out 0 (.int .i64 lo) rfl
  have z8 := cell_at HS.out 1 (.int .i64 hi) rfl
  go_wp2_with fail
  refine (skew_Span.calls g0 g1 g2 g3 xl xh 0 _ hx).mono ?_
  rintro e w5 ⟨rfl, hb⟩
  clear z0 z1 z2 z3 z4 z5 z6 z7 z8
  replace HB := Aside0.mk (below_step HB.out hb)
  replace HK := Aside0.mk (blk_below HK.out hb)
  replace HS := Aside0.mk (blk_below HS.out hb)
  clear hb
  have Hn5 := Aside0.mk (blk_new w5 (.cells #[.int .i64 xl, .int .i64 xh] 27))
  replace HB := Aside0.mk (below_alloc HB.out (.cells #[.int .i64 xl, .int .i64 xh] 27))
  replace HK := Aside0.mk (blk_alloc HK.out (.cells #[.int .i64 xl, .int .i64 xh] 27))
  replace HS := Aside0.mk (blk_alloc HS.out (.cells #[.int .i64 xl, .int .i64 xh] 27))
  obtain ⟨n5, hn5⟩ : ∃ n, w5.heap.size = n := ⟨_, rfl⟩
  have z0 := cell_at HK.out 0 (.int .i64 g0) rfl
  have z1 := cell_at HK.out 1 (.int .i64 g1) rfl
  have z2 := cell_at HK.out 2 (.int .i64 g2) rfl
  have z3 := cell_at HK.out 3 (.int .i64 g3) rfl
  have z4 := cell_at HK.out 4 (.int .i64 g4) rfl
  have z5 := cell_at HK.out 5 (.int .i64 g5) rfl
  have z6 := cell_at HK.out 6 (.int .i64 g6) rfl
  have z7 := cell_at HS.out 0 (.int .i64 lo) rfl
  have z8 := cell_at HS.out 1 (.int .i64 hi) rfl
  have yw5 := cell_at Hn5.out 0 (.int .i64 xl) rfl
  rw [hn5] at yw5
  go_wp2_with fail
  clear yw5
  refine (skew_Mark.calls g0 g1 g2 g3 g5 g6 0 2 _ hm).mono ?_
  rintro e w8 ⟨rfl, hb⟩
  clear z0 z1 z2 z3 z4 z5 z6 z7 z8
  replace HB := Aside0.mk (below_step HB.out hb)
  replace HK := Aside0.mk (blk_below HK.out hb)
  replace HS := Aside0.mk (blk_below HS.out hb)
  clear hb
  have z0 := cell_at HK.out 0 (.int .i64 g0) rfl
  have z1 := cell_at HK.out 1 (.int .i64 g1) rfl
  have z2 := cell_at HK.out 2 (.int .i64 g2) rfl
  have z3 := cell_at HK.out 3 (.int .i64 g3) rfl
  have z4 := cell_at HK.out 4 (.int .i64 g4) rfl
  have z5 := cell_at HK.out 5 (.int .i64 g5) rfl
  have z6 := cell_at HK.out 6 (.int .i64 g6) rfl
  have z7 := cell_at HS.out 0 (.int .i64 lo) rfl
  have z8 := cell_at HS.out 1 (.int .i64 hi) rfl
  go_wp2_with fail
  refine (afterwordlaw19_known.calls true _ rfl).mono ?_
  rintro e wz ⟨rfl, hb⟩
  replace HB := Aside0.mk (below_step HB.out hb)
  go_wp2_with fail
  go_ret
  exact ⟨rfl, HB.out⟩
end Go.Proofs.Ytbffhblebigcfaa.Sk
