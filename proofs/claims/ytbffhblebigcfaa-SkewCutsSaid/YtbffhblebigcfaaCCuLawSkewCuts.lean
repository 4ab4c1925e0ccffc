/- Whether a cut is closed, and how far each machine is at a stamp, are as stated, for any run: the law SkewCuts. -/
import Derived.Test.YtbffhblebigcfaaCCuGRow
import Derived.Test.YtbffhblebigcfaaCCuLAt
import Derived.Test.YtbffhblebigcfaaCCuSkf5
namespace Go.Proofs.Ytbffhblebigcfaa.Sk
set_option linter.unusedVariables false
set_option linter.unusedSimpArgs false
set_option maxRecDepth 100000
open Go.RowKit Go.ChangeShapes Go.WideShapes Go.ChangeAt Go.Proofs.YtbffhblebigcfaaW.PrintWords Go.Proofs.YtbffhblebigcfaaW.PrintLast Go.Proofs.YtbffhblebigcfaaW.PrintMore
theorem skewCuts_pure (l : List S71) (cut : List Int) (a b : Int) (ok : ∀ x ∈ l, ok71 x) (hl : l.length ≤ 9223372036854775807) (okc : ∀ x ∈ cut, I64 x) (wa : I64 a) (wb : I64 b) : ∃ k, afterwordlaw19_SkewCuts.f k l cut a b = some true := by
  refine Ev.rounds ?_
  unfold afterwordlaw19_SkewCuts.f
  rw [closed_skew l hl, at_skew l hl]
  refine Ev.congr (f := fun k => (afterwordref19_Closed.f k l cut).bind fun bt415 => ((afterwordref19_At.f k l a b).bind fun bt421 => (if ((clR l cut).1 == bt415.1) = true then (if (clR l cut).2 = bt415.2 then (if (atR l a b).2 = bt421.2 then ((afterwordref19_Same.f k (atR l a b).1 bt421.1).bind fun t425 => (if t425 = true then ((afterwordlaw19_known.f).bind fun t426 => (some t426)) else (some false))) else (some false)) else (some false)) else (some false)))) (fun k => by simp only [Option.bind_some]) ?_
  refine Ev.bind (ev_Closed l cut) (Ev.bind (ev_AtR l a b) ?_)
  refine Ev.congr (f := fun k => (afterwordref19_Same.f k (atR l a b).1 (atR l a b).1).bind fun t425 => (if t425 = true then some true else some false)) (fun k => ?_) ?_
  · rw [if_pos (by simp), if_pos rfl, if_pos rfl]
    congr 1
  · refine Ev.bind (ev_Same _ (atR_len l a b)) ?_
    exact Ev.congr (f := fun _ => some true) (fun k => by simp) (Ev.now true)
theorem skewCuts_lifted (os : Os) (started : os.Started) (H : Type) (enc : TypeId × Value → H) :
    ReturnsInHanded {} Try.checked os 5 .any (Rows.skewCutsSpec.pre6 enc Try.prog Try.f5 Rows.skewCutsRow.domain false) (Rows.skewCutsSpec.post enc Try.prog Try.f5 false true false false) := by
  refine returnsInHanded_of_change_sized (C := Try.checked) own' started (by kernel_rfl) Try.func5
    (ChangeSpec.witness6 (enc := enc) (C := Try.checked) false ⟨#[], #[.slice none 0 0, .slice none 0 0, .agg #[.int .i64 0, .int .i64 0]], []⟩ 8 (by kernel_rfl) (by kernel_rfl) (by kernel_rfl) (by kernel_rfl)) ?_
  intro W base args ds gs before hval0 hW hcnd hsz0 _
  have hval : ∀ (j : Nat) t v, Try.f5.params[j]? = some t → args[j]? = some v → Value.okWide Try.prog W .any base t v := hval0
  have hW' := hW
  obtain ⟨p, q, hA0, hV, rfl, hfz, hnd⟩ := hW
  have hA : DataW.TrodAll enc Try.prog W 0 (fun _ => true) true Try.f5.params.toList args.toList ds p := hA0
  rw [Try.params5] at hA hval
  obtain ⟨v0, vs0, d0, ds0, p0, q0, hargs, rfl, rfl, h0, r0⟩ := trodAll_cons hA
  obtain ⟨v1, vs1, d1, ds1, p1, q1, rfl, rfl, rfl, h1, r1⟩ := trodAll_cons r0
  obtain ⟨v2, vs2, d2, ds2, p2, q2, rfl, rfl, rfl, h2, r2⟩ := trodAll_cons r1
  obtain ⟨rfl, rfl, rfl⟩ := trodAll_nil r2
  obtain rfl : args = #[v0, v1, v2] := by cases args; simp_all
  obtain ⟨rfl, rfl⟩ := trodVars_none hV
  have k0 := h0
  have lt0 : ∀ x ∈ p0, x.block < W.heap.size := by obtain ⟨m, hm⟩ := k0; exact DataW.trod_lt m _ _ _ hm
  obtain ⟨A0, n0, c0, rfl⟩ := okWide_slice Try.underlying45 (hval 0 45 v0 rfl rfl)
  obtain ⟨f0, hf0⟩ := h0
  obtain ⟨A0', c0', l0, hcs0, hc0, hC0, ok0⟩ := Rd.slice (d := k71) Try.underlying45 (by kernel_rfl) (Rd.s71 W) hf0
  simp only [Value.cells] at hcs0
  obtain ⟨rfl, rfl, rfl⟩ : A0 = A0' ∧ n0 = l0.length ∧ c0 = c0' := by simpa using hcs0
  have k1 := h1
  have lt1 : ∀ x ∈ p1, x.block < W.heap.size := by obtain ⟨m, hm⟩ := k1; exact DataW.trod_lt m _ _ _ hm
  obtain ⟨A1, n1, c1, rfl⟩ := okWide_slice Try.underlying40 (hval 1 40 v1 rfl rfl)
  obtain ⟨f1, hf1⟩ := h1
  obtain ⟨A1', c1', l1, hcs1, hc1, hC1, ok1⟩ := Rd.slice (d := (Kd.int .i64)) Try.underlying40 (by kernel_rfl) (Rd.int W Try.underlying3) hf1
  simp only [Value.cells] at hcs1
  obtain ⟨rfl, rfl, rfl⟩ : A1 = A1' ∧ n1 = l1.length ∧ c1 = c1' := by simpa using hcs1
  have k2 := h2
  have lt2 : ∀ x ∈ p2, x.block < W.heap.size := by obtain ⟨m, hm⟩ := k2; exact DataW.trod_lt m _ _ _ hm
  obtain ⟨s2, rfl, _⟩ := okWide_struct Try.underlying47 (hval 2 47 v2 rfl rfl)
  obtain ⟨f2, hf2⟩ := h2
  obtain ⟨a2, b2, hs2, wa2, wb2⟩ := two_of Try.underlying47 (by kernel_rfl) (by kernel_rfl) hf2
  obtain rfl : s2 = #[.int .i64 a2, .int .i64 b2] := by
    have : s2.toList = [.int .i64 a2, .int .i64 b2] := by simpa [Value.cells] using hs2
    exact Array.toList_inj.mp (by rw [this])
  clear hA0 hval0 hsz0
  obtain ⟨k, hk⟩ := skewCuts_pure l0 l1 a2 b2 ok0 hC0.2.1 ok1 wa2 wb2
  refine (afterwordlaw19_SkewCuts.calls k _ _ l0 _ _ l1 a2 b2 true W hC0 hc0 hC1 hc1 hk).mono fun e' W' ⟨he, bel⟩ => ?_
  subst he
  exact ⟨_, rfl, _, _, _, [], _, [], hW', trodAll_mk1 (shut_bool Try.underlying4 _), (trodAll_cons_mk (Below.trod laidOut' (by kernel_rfl) (of_decide_eq_true (by kernel_rfl)) k0 bel lt0) (trodAll_cons_mk (Below.trod laidOut' (by kernel_rfl) (of_decide_eq_true (by kernel_rfl)) k1 bel lt1) (trodAll_cons_mk (Below.trod laidOut' (by kernel_rfl) (of_decide_eq_true (by kernel_rfl)) k2 bel lt2) trodAll_mk0))), rfl, bel.frame _, fun h => by cases h⟩
end Go.Proofs.Ytbffhblebigcfaa.Sk
namespace Go.Proofs.Ytbffhblebigcfaa
theorem skewCuts_holds : Rows.SkewCutsSaid :=
  OpenClaim.holds_of_wide 5 Try.f5 rfl rfl rfl rfl rfl rfl rfl ⟨rfl, rfl, rfl, rfl, rfl⟩ rfl rfl rfl rfl rfl (by kernel_rfl) Try.func5 (by kernel_rfl)
    (of_decide_eq_true (by kernel_rfl)) (by unfold Func.isWrapper; first | (rw [if_pos (by decide +kernel)]; kernel_rfl) | (rw [if_neg (by decide +kernel)]; exact ⟨rfl, rfl⟩))
    (fun os started H enc _ => Sk.skewCuts_lifted os started H enc)
end Go.Proofs.Ytbffhblebigcfaa
