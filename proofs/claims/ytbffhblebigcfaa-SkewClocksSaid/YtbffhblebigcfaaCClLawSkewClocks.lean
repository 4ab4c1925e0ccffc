/- Spans of readings, waiting and marks are as stated, for every clock and all numbers: the law SkewClocks. -/
import Derived.Test.YtbffhblebigcfaaCClGRow
import Derived.Test.YtbffhblebigcfaaCClLClocks
import Derived.Test.YtbffhblebigcfaaCClSkf3
namespace Go.Proofs.Ytbffhblebigcfaa.Sk
set_option linter.unusedVariables false
set_option linter.unusedSimpArgs false
set_option maxRecDepth 100000
open Go.RowKit Go.ChangeShapes Go.WideShapes Go.ChangeAt Go.Proofs.YtbffhblebigcfaaW.PrintWords Go.Proofs.YtbffhblebigcfaaW.PrintLast Go.Proofs.YtbffhblebigcfaaW.PrintMore
theorem spanOf_some (a0 a1 a2 c : Int) : ∃ R, afterwordref19_SpanOf.f a0 a1 a2 c = some R := by
  unfold afterwordref19_SpanOf.f
  by_cases h : a2 > 0
  · rw [if_pos h, if_neg (by omega)]; exact ⟨_, rfl⟩
  · rw [if_neg h]; exact ⟨_, rfl⟩
theorem span_some (a0 a1 a2 c : Int) : ∃ R, afterwordref19_Span.f a0 a1 a2 c = some R := by
  unfold afterwordref19_Span.f
  obtain ⟨Q, hQ⟩ := spanOf_some a0 a1 a2 c
  rw [clock_b]
  simp only [Option.bind_some, read_b, hQ]
  cases clockB a0 a1 a2 <;> cases readB a0 c <;> exact ⟨_, rfl⟩
theorem mark_some (a0 a1 a2 c d e : Int) : ∃ R, afterwordref19_Mark.f a0 a1 a2 c d e = some R := by
  unfold afterwordref19_Mark.f
  obtain ⟨Q, hQ⟩ := spanOf_some a0 a1 a2 c
  rw [clock_b]
  simp only [Option.bind_some, read_b, hQ]
  by_cases h1 : d < 0 <;> by_cases h2 : d > 100000 <;> by_cases h3 : e < 0 <;> by_cases h4 : e > 100000 <;> cases clockB a0 a1 a2 <;> cases readB a0 c <;> simp [h1, h2, h3, h4]
theorem wait_some (a0 a1 a2 c un : Int) : ∃ R, skew_Wait.f a0 a1 a2 c un = some R := by
  unfold skew_Wait.f
  split
  · split
    · split <;> exact ⟨_, rfl⟩
    · exact ⟨_, rfl⟩
  · exact ⟨_, rfl⟩
theorem skewClocks_pure (a0 a1 a2 c un de wr : Int) : ∃ k, afterwordlaw19_SkewClocks.f k a0 a1 a2 c un de wr = some true := by
  refine ⟨100012, ?_⟩
  unfold afterwordlaw19_SkewClocks.f
  rw [span_eq]
  obtain ⟨R, hR⟩ := span_some a0 a1 a2 c
  obtain ⟨M, hM⟩ := mark_some a0 a1 a2 c de wr
  obtain ⟨W, hW⟩ := wait_some a0 a1 a2 c un
  rw [hR]
  simp only [Option.bind_some, beq_self_eq_true, bne_self_eq_false, Bool.not_true, Bool.or_self, Bool.false_eq_true, if_false]
  rw [show (100012 : Nat) = 100011 + 1 from rfl]
  simp only [afterwordlaw19_SkewClocks.j0, Bool.false_eq_true, if_false]
  rw [wait_eq a0 a1 a2 c un 100011 (by decide), hW, mark_eq, hM]
  simp only [Option.bind_some, if_true]
  rfl
theorem given_row (os : Os) (started : os.Started) (H : Type) (enc : TypeId × Value → H) :
    ReturnsInHanded {} Try.checked os 3 .any (Rows.skewClocksSpec.pre6 enc Try.prog Try.f3 Rows.skewClocksRow.domain false) (Rows.skewClocksSpec.post enc Try.prog Try.f3 false true false false) := by
  refine returnsInHanded_of_change_sized (C := Try.checked) own' started (by kernel_rfl) Try.func3
    (ChangeSpec.witness6 (enc := enc) (C := Try.checked) false ⟨#[], #[.agg #[.int .i64 0, .int .i64 0, .int .i64 0, .int .i64 0, .int .i64 0, .int .i64 0, .int .i64 0]], []⟩ 8 (by kernel_rfl) (by kernel_rfl) (by kernel_rfl) (by kernel_rfl)) ?_
  intro W base args ds gs before hval0 hW hcnd hsz0 _
  have hval : ∀ (j : Nat) t v, Try.f3.params[j]? = some t → args[j]? = some v → Value.okWide Try.prog W .any base t v := hval0
  have hW' := hW
  obtain ⟨p, q, hA0, hV, rfl, hfz, hnd⟩ := hW
  have hA : DataW.TrodAll enc Try.prog W 0 (fun _ => true) true Try.f3.params.toList args.toList ds p := hA0
  rw [Try.params3] at hA hval
  obtain ⟨v0, vs0, d0, ds0, p0, q0, hargs, rfl, rfl, h0, r0⟩ := trodAll_cons hA
  obtain ⟨rfl, rfl, rfl⟩ := trodAll_nil r0
  obtain rfl : args = #[v0] := by cases args; simp_all
  obtain ⟨rfl, rfl⟩ := trodVars_none hV
  have lt0 : ∀ x ∈ p0, x.block < W.heap.size := by obtain ⟨m, hm⟩ := h0; exact DataW.trod_lt m _ _ _ hm
  have k0 := h0
  obtain ⟨cs, rfl, _⟩ := okWide_struct Try.underlying25 (hval 0 25 v0 rfl rfl)
  obtain ⟨fuel, hf⟩ := h0
  obtain ⟨a, b, c, d, e, f, g, hcs, wa, wb, wc, wd, we, wf, wg⟩ := given_of hf
  have hcs2 : cs = #[.int .i64 a, .int .i64 b, .int .i64 c, .int .i64 d, .int .i64 e, .int .i64 f, .int .i64 g] := by
    have : cs.toList = [.int .i64 a, .int .i64 b, .int .i64 c, .int .i64 d, .int .i64 e, .int .i64 f, .int .i64 g] := by simpa [Value.cells] using hcs
    exact Array.toList_inj.mp (by rw [this])
  subst hcs2
  clear hA0 hval0 hsz0 hcs hf
  obtain ⟨k, hk⟩ := skewClocks_pure a b c d e f g
  refine (afterwordlaw19_SkewClocks.calls k a b c d e f g true W hk).mono fun e' W' ⟨he, bel⟩ => ?_
  subst he
  exact ⟨_, rfl, _, _, _, [], _, [], hW', trodAll_mk1 (shut_bool Try.underlying4 _), (trodAll_cons_mk (Below.trod laidOut' (by kernel_rfl) (of_decide_eq_true (by kernel_rfl)) k0 bel lt0) trodAll_mk0), rfl, bel.frame _, fun h => by cases h⟩
end Go.Proofs.Ytbffhblebigcfaa.Sk
namespace Go.Proofs.Ytbffhblebigcfaa
theorem skewClocks_holds : Rows.SkewClocksSaid :=
  OpenClaim.holds_of_wide 3 Try.f3 rfl rfl rfl rfl rfl rfl rfl ⟨rfl, rfl, rfl, rfl, rfl⟩ rfl rfl rfl rfl rfl (by kernel_rfl) Try.func3 (by kernel_rfl)
    (of_decide_eq_true (by kernel_rfl)) (by unfold Func.isWrapper; first | (rw [if_pos (by decide +kernel)]; kernel_rfl) | (rw [if_neg (by decide +kernel)]; exact ⟨rfl, rfl⟩))
    (fun os started H enc _ => Sk.given_row os started H enc)
end Go.Proofs.Ytbffhblebigcfaa
