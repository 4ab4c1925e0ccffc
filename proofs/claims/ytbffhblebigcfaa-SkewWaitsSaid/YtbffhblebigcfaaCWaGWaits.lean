/- What law SkewWaits returns, for any clock and numbers. -/
import Derived.Test.YtbffhblebigcfaaCWaGWaits2
import Derived.Test.YtbffhblebigcfaaCWaGWaits5
import Derived.Test.YtbffhblebigcfaaCWaGWaits0E
import Derived.Test.YtbffhblebigcfaaCWaGWaits0G
namespace Go.Proofs.Ytbffhblebigcfaa.Sk
open Go.RowKit Go.Proofs.YtbffhblebigcfaaW.PrintWords Go.Proofs.YtbffhblebigcfaaW.PrintLast Go.Proofs.YtbffhblebigcfaaW.PrintMore
set_option linter.unusedVariables false
set_option linter.unusedSimpArgs false
set_option maxHeartbeats 8000000 in
set_option maxRecDepth 100000 in
theorem waits_no (g0 g1 g2 g3 g4 g5 g6 a1 a2 a3 : Int) (w : World) (hs : skew_Span.f g0 g1 g2 g3 = some (0, 0, 2)) :
    Calls Try.prog 6 #[.agg #[.int .i64 g0, .int .i64 g1, .int .i64 g2, .int .i64 g3, .int .i64 g4, .int .i64 g5, .int .i64 g6], .int .i16 a1, .int .i16 a2, .int .i16 a3] w fun e w' => e = .returned (.bool true) ∧ Below w.heap.size w w' := by
  have hu25 := Try.underlying25
  have hu23 := Try.underlying23
  have hu27 := Try.underlying27
  have HB := Aside0.mk (Below.refl w.heap.size w)
  replace HB := Aside0.mk (below_alloc HB.out (.cells #[.int .i64 g0, .int .i64 g1, .int .i64 g2, .int .i64 g3, .int .i64 g4, .int .i64 g5, .int .i64 g6] 25))
  go_enter Try.func6, Try.ntmps6
  go_wp2_with fail
  refine (skew_Span.calls g0 g1 g2 g3 0 0 2 _ hs).mono ?_
  rintro e w1 ⟨rfl, hb⟩
  replace HB := Aside0.mk (below_step HB.out hb)
  clear hb
  replace HB := Aside0.mk (below_alloc HB.out (.cells #[.int .i64 0, .int .i64 0] 27))
  go_wp2_with fail
  refine (afterwordlaw19_known.calls true _ rfl).mono ?_
  rintro e wz ⟨rfl, hb⟩
  replace HB := Aside0.mk (below_step HB.out hb)
  go_wp2_with fail
  go_ret
  exact ⟨rfl, HB.out⟩
theorem ceil_bd (x a : Int) (hx : 0 ≤ x) (ha : 0 < a) : 0 ≤ (x + a - 1) / a ∧ (x + a - 1) / a ≤ x := by
  refine ⟨Int.ediv_nonneg (by omega) (by omega), ?_⟩
  have h : x * 1 ≤ x * a := Int.mul_le_mul_of_nonneg_left (by omega) hx
  have : (x + a - 1) / a < x + 1 := Int.ediv_lt_of_lt_mul ha (by rw [Int.add_mul, Int.one_mul]; omega)
  omega
theorem span_yes (g0 g1 g2 c : Int) (h : readsB g0 g1 g2 c = true) : skew_Span.f g0 g1 g2 c = some (lowOf g0 g1 g2 c, highOf g0 g1 g2 c, 0) ∧ -300000 ≤ lowOf g0 g1 g2 c ∧ highOf g0 g1 g2 c ≤ 300000 ∧ lowOf g0 g1 g2 c ≤ highOf g0 g1 g2 c := by
  have hb := h
  unfold readsB at hb
  simp only [Bool.and_eq_true, decide_eq_true_eq] at hb
  obtain ⟨⟨b0, b1⟩, ⟨b2, b3⟩, ⟨b4, b5⟩, b6, b7⟩ := hb
  refine ⟨?_, ?_⟩
  · unfold skew_Span.f
    rw [reads_b, h, Option.bind_some, if_pos rfl, of_low g0 g1 g2 c b0 b2 b4 b3 b5 b6 b7]
    rfl
  · unfold lowOf highOf
    by_cases hg : g2 > 0
    · have := ceil_bd (c - g0) g2 (by omega) hg
      rw [if_pos hg, if_pos hg]
      omega
    · rw [if_neg hg, if_neg hg]; omega
theorem reads_at {g0 g1 g2 c d : Int} (h : readsB g0 g1 g2 c = true) (h1 : c ≤ d) (h2 : d ≤ 100000) : readsB g0 g1 g2 d = true := by
  unfold readsB at h ⊢
  simp only [Bool.and_eq_true, decide_eq_true_eq] at h ⊢
  obtain ⟨⟨b0, b1⟩, ⟨b2, b3⟩, ⟨b4, b5⟩, b6, b7⟩ := h
  exact ⟨⟨b0, b1⟩, ⟨b2, b3⟩, ⟨b4, b5⟩, by omega, h2⟩
theorem wait_spec (g0 g1 g2 c un : Int) (h : readsB g0 g1 g2 c = true) :
    skew_Wait.f g0 g1 g2 c un = some (0, 2) ∨ (skew_Wait.f g0 g1 g2 c un = some (0, 5) ∧ lowOf g0 g1 g2 100000 ≤ un) ∨
    ∃ v, skew_Wait.f g0 g1 g2 c un = some (v, 0) ∧ c ≤ v ∧ v ≤ 100000 ∧ un < lowOf g0 g1 g2 v ∧ (c < v → lowOf g0 g1 g2 (v - 1) ≤ un) := by
  have hb := h
  unfold readsB at hb
  simp only [Bool.and_eq_true, decide_eq_true_eq] at hb
  obtain ⟨⟨b0, b1⟩, ⟨b2, b3⟩, ⟨b4, b5⟩, b6, b7⟩ := hb
  unfold skew_Wait.f
  rw [if_pos h]
  by_cases hu : (decide (-1000000 ≤ un) && decide (un ≤ 1000000)) = true
  · rw [if_pos hu]
    right
    have hm : ∀ a b : Int, a ≤ b → decide (un < lowOf g0 g1 g2 (c + a)) = true → decide (un < lowOf g0 g1 g2 (c + b)) = true := fun a b hab ha => by
      have := of_decide_eq_true ha
      exact decide_eq_true (Int.lt_of_lt_of_le this (lowOf_mono g0 g1 g2 b4 _ _ (by omega)))
    obtain ⟨s1, s2⟩ := bsr_spec (fun i => decide (un < lowOf g0 g1 g2 (c + i))) hm (100001 - c).toNat 0 (100001 - c) (by omega) (by omega)
    have hrg := bsr_range (fun i => decide (un < lowOf g0 g1 g2 (c + i))) (100001 - c).toNat 0 (100001 - c) (by omega)
    generalize bsr (fun i => decide (un < lowOf g0 g1 g2 (c + i))) (100001 - c).toNat 0 (100001 - c) = B at s1 s2 hrg ⊢
    by_cases hB : c + B > 100000
    · rw [if_pos hB]
      left
      refine ⟨rfl, ?_⟩
      have := of_decide_eq_false (s1 (100000 - c) (by omega) (by omega))
      rw [show c + (100000 - c) = 100000 by omega] at this
      omega
    · rw [if_neg hB]
      right
      refine ⟨c + B, rfl, by omega, by omega, ?_, fun hlt => ?_⟩
      · exact of_decide_eq_true (s2 B (by omega) (by omega))
      · have := of_decide_eq_false (s1 (B - 1) (by omega) (by omega))
        rw [show c + (B - 1) = c + B - 1 by omega] at this
        omega
  · rw [if_neg hu]; exact .inl rfl
theorem mark_spec (g0 g1 g2 c d e : Int) (h : readsB g0 g1 g2 c = true) :
    skew_Mark.f g0 g1 g2 c d e = some (0, 2) ∨ ∃ m, skew_Mark.f g0 g1 g2 c d e = some (m, 0) ∧ (0 ≤ d ∧ d ≤ 100000) ∧ (0 ≤ e ∧ e ≤ 100000) ∧ 0 ≤ m ∧ (m = 0 ∨ m = lowOf g0 g1 g2 c - d - e) := by
  obtain ⟨hs, hl1, hl2, hl3⟩ := span_yes g0 g1 g2 c h
  have hb := h
  unfold readsB at hb
  simp only [Bool.and_eq_true, decide_eq_true_eq] at hb
  obtain ⟨⟨b0, b1⟩, ⟨b2, b3⟩, ⟨b4, b5⟩, b6, b7⟩ := hb
  unfold skew_Mark.f
  rw [reads_b, h, Option.bind_some, if_pos rfl, within_b, Option.bind_some]
  by_cases c1 : (decide (0 ≤ d) && decide (d ≤ 100000)) = true
  · rw [if_pos c1, within_b, Option.bind_some]
    by_cases c2 : (decide (0 ≤ e) && decide (e ≤ 100000)) = true
    · rw [if_pos c2, of_low g0 g1 g2 c b0 b2 b4 b3 b5 b6 b7, Option.bind_some]
      simp only [Bool.and_eq_true, decide_eq_true_eq] at c1 c2
      right
      have e1 : wrap64 (lowOf g0 g1 g2 c - d) = lowOf g0 g1 g2 c - d := by
        have : lowOf g0 g1 g2 c ≤ 300000 := by omega
        unfold wrap64; omega
      have e2 : wrap64 (lowOf g0 g1 g2 c - d - e) = lowOf g0 g1 g2 c - d - e := by
        have : lowOf g0 g1 g2 c ≤ 300000 := by omega
        unfold wrap64; omega
      refine ⟨mx 0 (lowOf g0 g1 g2 c - d - e), by show some (mx 0 (wrap64 (wrap64 (lowOf g0 g1 g2 c - d) - e)), 0) = _; rw [e1, e2], c1, c2, ?_, ?_⟩
      · unfold mx; split <;> omega
      · unfold mx; split <;> omega
    · rw [if_neg c2]; exact .inl rfl
  · rw [if_neg c1]; exact .inl rfl
theorem skewWaits_calls (g0 g1 g2 g3 g4 g5 g6 a1 a2 a3 : Int) (w : World) (ha1 : -32768 ≤ a1 ∧ a1 ≤ 32767) (ha2 : -32768 ≤ a2 ∧ a2 ≤ 32767) (ha3 : -32768 ≤ a3 ∧ a3 ≤ 32767) :
    Calls Try.prog 6 #[.agg #[.int .i64 g0, .int .i64 g1, .int .i64 g2, .int .i64 g3, .int .i64 g4, .int .i64 g5, .int .i64 g6], .int .i16 a1, .int .i16 a2, .int .i16 a3] w fun e w' => e = .returned (.bool true) ∧ Below w.heap.size w w' := by
  by_cases h : readsB g0 g1 g2 g3 = true
  · obtain ⟨hs, hl1, hl2, hl3⟩ := span_yes g0 g1 g2 g3 h
    have hb := h
    unfold readsB at hb
    simp only [Bool.and_eq_true, decide_eq_true_eq] at hb
    obtain ⟨⟨b0, b1⟩, ⟨b2, b3⟩, ⟨b4, b5⟩, b6, b7⟩ := hb
    have hc : afterwordref19_Clock.f g0 g1 g2 = some true := by rw [clock_b]; unfold clockB; rw [decide_eq_true ⟨b0, b1, b2, b3, b4, b5⟩]
    have hr : afterwordref19_Read.f g0 g1 g2 g3 = some true := by rw [read_b]; unfold readB; rw [decide_eq_true ⟨b6, b7⟩]
    have ho : afterwordref19_SpanOf.f g0 g1 g2 g3 = some (lowOf g0 g1 g2 g3, highOf g0 g1 g2 g3) := by rw [← of_eq]; exact of_low g0 g1 g2 g3 b0 b2 b4 b3 b5 b6 b7
    have hx := fun d h1 h2 => (span_yes g0 g1 g2 d (reads_at h h1 h2)).1
    rcases wait_spec g0 g1 g2 g3 g4 h with hw | ⟨hw, hw5⟩ | ⟨v, hw, v1, v2, v3, v4⟩
    · rcases mark_spec g0 g1 g2 g3 g5 g6 h with hm | ⟨m, hm, m1, m2, m3, m4⟩
      · exact waits_2n g0 g1 g2 g3 g4 g5 g6 a1 a2 a3 _ _ 0 w hs hc hr ho hw hm
      · exact waits_2 g0 g1 g2 g3 g4 g5 g6 a1 a2 a3 _ _ 0 w hs hc hr ho hw m hm hl1 hl2 hl3 m1 m2 m3 m4 ha1 ha2 ha3
    · have hx5 := hx 100000 (by omega) (by omega)
      rcases mark_spec g0 g1 g2 g3 g5 g6 h with hm | ⟨m, hm, m1, m2, m3, m4⟩
      · exact waits_5n g0 g1 g2 g3 g4 g5 g6 a1 a2 a3 _ _ 0 w hs hc hr ho hw _ _ hx5 hw5 hm
      · exact waits_5 g0 g1 g2 g3 g4 g5 g6 a1 a2 a3 _ _ 0 w hs hc hr ho hw _ _ hx5 hw5 m hm hl1 hl2 hl3 m1 m2 m3 m4 ha1 ha2 ha3
    · by_cases e : v = g3
      · subst e
        rcases mark_spec g0 g1 g2 v g5 g6 h with hm | ⟨m, hm, m1, m2, m3, m4⟩
        · exact waits_0en g0 g1 g2 v g4 g5 g6 a1 a2 a3 _ _ w hs hc hr ho hw _ _ hs v3 v2 hm
        · exact waits_0e g0 g1 g2 v g4 g5 g6 a1 a2 a3 _ _ w hs hc hr ho hw _ _ hs v3 v2 m hm hl1 hl2 hl3 m1 m2 m3 m4 ha1 ha2 ha3
      · have hxv := hx v v1 v2
        have hxy := hx (v - 1) (by omega) (by omega)
        rcases mark_spec g0 g1 g2 g3 g5 g6 h with hm | ⟨m, hm, m1, m2, m3, m4⟩
        · exact waits_0gn g0 g1 g2 g3 g4 g5 g6 a1 a2 a3 _ _ v w hs hc hr ho hw _ _ _ _ hxv v3 (by omega) v2 (by omega) hxy (v4 (by omega)) hm
        · exact waits_0g g0 g1 g2 g3 g4 g5 g6 a1 a2 a3 _ _ v w hs hc hr ho hw _ _ _ _ hxv v3 (by omega) v2 (by omega) hxy (v4 (by omega)) m hm hl1 hl2 hl3 m1 m2 m3 m4 ha1 ha2 ha3
  · have hs : skew_Span.f g0 g1 g2 g3 = some (0, 0, 2) := by unfold skew_Span.f; rw [reads_b, Option.bind_some, if_neg h]
    exact waits_no g0 g1 g2 g3 g4 g5 g6 a1 a2 a3 w hs
end Go.Proofs.Ytbffhblebigcfaa.Sk
