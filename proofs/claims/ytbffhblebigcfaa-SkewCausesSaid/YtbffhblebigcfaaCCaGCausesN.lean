/- What law 8 returns where the run is none. -/
import Derived.Test.YtbffhblebigcfaaCCaGCauses
namespace Go.Proofs.Ytbffhblebigcfaa.Sk
open Go.RowKit Go.Proofs.YtbffhblebigcfaaW.PrintWords Go.Proofs.YtbffhblebigcfaaW.PrintLast Go.Proofs.YtbffhblebigcfaaW.PrintMore
set_option linter.unusedVariables false
set_option linter.unusedSimpArgs false
set_option maxHeartbeats 8000000 in
set_option maxRecDepth 100000 in
theorem causes_none (A0 : Option Addr) (c0 : Nat) (l0 : List S71) (a1 a2 s0 s1 : Int) (w : World) (hr0 : Kd.C k71 w A0 l0.length l0) (hc0 : l0.length ≤ c0) (hl : l0.length ≤ 9223372036854775807) (hb : runB l0 = false) :
    Calls Try.prog 8 #[.slice A0 l0.length c0, .int .u8 a1, .int .u8 a2, .agg #[.int .i64 s0, .int .i64 s1]] w fun e w' => e = .returned (.bool true) ∧ Below w.heap.size w w' := by
  have hu47 := Try.underlying47
  have HR0 := Aside0.mk hr0
  have HC0 := Aside0.mk hc0
  have hst : skew_Stamps.f l0 = some ([], 2) := by rw [stamps_skew l0 hl]; unfold stR; rw [if_neg (by rw [hb]; simp)]
  have hco : skew_Counts.f l0 = some ([], 2) := by rw [counts_skew l0 hl]; unfold coR; rw [if_neg (by rw [hb]; simp)]
  have HB := Aside0.mk (Below.refl w.heap.size w)
  go_enter Try.func8, Try.ntmps8
  go_wp2_with fail
  refine (skew_Stamps.calls A0 c0 l0 _ 2 _ (Kd.C_alloc HR0.out _) HC0.out hst).mono ?_
  rintro e w1 ⟨v1, rfl, hV1, hb1⟩
  obtain ⟨A1, c1, e1⟩ := Kd.V_slice hV1
  subst e1
  have HL1 := Aside0.mk (Kd.V_reads' hV1).2.1
  replace HB := Aside0.mk (below_step (below_alloc HB.out (.cells #[.int .i64 s0, .int .i64 s1] 47)) hb1)
  replace HR0 := Aside0.mk (Kd.C_below (Kd.C_alloc HR0.out _) hb1)
  clear hb1 hV1
  go_wp2_with fail
  refine (skew_Counts.calls A0 c0 l0 _ 2 _ HR0.out HC0.out hco).mono ?_
  rintro e w2 ⟨v2, rfl, hV2, hb2⟩
  obtain ⟨A2, c2, e2⟩ := Kd.V_slice hV2
  subst e2
  have HL2 := Aside0.mk (Kd.V_reads' hV2).2.1
  replace HB := Aside0.mk (below_step HB.out hb2)
  clear hb2 hV2
  try simp only [List.length_nil]
  go_wp2_with fail
  refine (afterwordlaw19_known.calls true _ rfl).mono ?_
  rintro e wz ⟨rfl, hbz⟩
  go_wp2_with fail
  go_ret
  exact ⟨rfl, below_step HB.out hbz⟩
theorem skewCauses_calls (A0 : Option Addr) (c0 : Nat) (l0 : List S71) (a1 a2 s0 s1 : Int) (w : World) (hr0 : Kd.C k71 w A0 l0.length l0) (hc0 : l0.length ≤ c0) (hl : l0.length ≤ 9223372036854775807) (ha1 : 0 ≤ a1 ∧ a1 ≤ 255) (ha2 : 0 ≤ a2 ∧ a2 ≤ 255) :
    Calls Try.prog 8 #[.slice A0 l0.length c0, .int .u8 a1, .int .u8 a2, .agg #[.int .i64 s0, .int .i64 s1]] w fun e w' => e = .returned (.bool true) ∧ Below w.heap.size w w' := by
  cases hb : runB l0 with
  | true => exact causes_calls A0 c0 l0 a1 a2 s0 s1 w hr0 hc0 hl ha1 ha2 hb
  | false => exact causes_none A0 c0 l0 a1 a2 s0 s1 w hr0 hc0 hl hb
end Go.Proofs.Ytbffhblebigcfaa.Sk
