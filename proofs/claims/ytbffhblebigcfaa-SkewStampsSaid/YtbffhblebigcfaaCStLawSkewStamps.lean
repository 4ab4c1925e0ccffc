/- The stamps of all deeds, what is ahead, and the counts, are as stated, for any run: the law SkewStamps. -/
import Derived.Test.YtbffhblebigcfaaCStGRow
import Derived.Test.YtbffhblebigcfaaCStLStamps
import Derived.Test.YtbffhblebigcfaaCStLCounts
import Derived.Test.YtbffhblebigcfaaCStSkf7
namespace Go.Proofs.Ytbffhblebigcfaa.Sk
set_option linter.unusedVariables false
set_option linter.unusedSimpArgs false
set_option maxRecDepth 100000
open Go.RowKit Go.ChangeShapes Go.WideShapes Go.ChangeAt Go.Proofs.YtbffhblebigcfaaW.PrintWords Go.Proofs.YtbffhblebigcfaaW.PrintLast Go.Proofs.YtbffhblebigcfaaW.PrintMore
theorem stR_len (l : List S71) : (stR l).1.length ≤ 1000 := by
  unfold stR
  by_cases c : runB l = true
  · rw [if_pos c]; have := (runIs l c).len; simp only; rw [stL_length]; omega
  · rw [if_neg c]; simp
theorem skewStamps_pure (l : List S71) (a b : Int) (ok : ∀ x ∈ l, ok71 x) (hl : l.length ≤ 9223372036854775807) (wa : I64 a) (wb : I64 b) : ∃ k, afterwordlaw19_SkewStamps.f k l a b = some true := by
  refine Ev.rounds ?_
  unfold afterwordlaw19_SkewStamps.f
  rw [stamps_skew l hl]
  refine Ev.congr (f := fun k => (afterwordref19_Stamps.f k l).bind fun bt479 => (if (stR l).2 = bt479.2 then ((afterwordref19_SameStamps.f k (stR l).1 bt479.1).bind fun t483 => (afterwordlaw19_SkewStamps.j0 k l a b (!t483))) else (afterwordlaw19_SkewStamps.j0 k l a b true))) (fun k => by simp only [Option.bind_some]) ?_
  refine Ev.bind (ev_Stamps l) ?_
  refine Ev.congr (f := fun k => (afterwordref19_SameStamps.f k (stR l).1 (stR l).1).bind fun t483 => (afterwordlaw19_SkewStamps.j0 k l a b (!t483))) (fun k => by rw [if_pos rfl]) ?_
  refine Ev.bind (ev_SameStamps _ (stR_len l)) ?_
  refine Ev.step (f := fun k => (afterwordref19_Counts.f k l).bind fun bt488 => ((afterwordref19_Ahead.f k l a b).bind fun bt494 => (if (coR l).2 = bt488.2 then ((afterwordref19_SameCounts.f k (coR l).1 bt488.1).bind fun t496 => (if t496 = true then (if ((ahR l a b).1 == bt494.1) = true then (if (ahR l a b).2 = bt494.2 then ((afterwordlaw19_known.f).bind fun t497 => (some t497)) else (some false)) else (some false)) else (some false))) else (some false)))) (fun k => ?_) ?_
  · simp only [afterwordlaw19_SkewStamps.j0, Bool.not_true, Bool.false_eq_true, if_false]
    rw [counts_skew l hl, ahead_skew l hl]
    simp only [Option.bind_some]
  · refine Ev.bind (ev_Counts l) (Ev.bind (ev_AheadR l a b) ?_)
    refine Ev.congr (f := fun k => (afterwordref19_SameCounts.f k (coR l).1 (coR l).1).bind fun t496 => (if t496 = true then some true else some false)) (fun k => ?_) ?_
    · rw [if_pos rfl]
      congr 1
      funext t
      cases t <;> simp [afterwordlaw19_known.f]
    · refine Ev.bind (ev_SameCounts _ (coR_len l).1 (coR_len l).2) ?_
      exact Ev.congr (f := fun _ => some true) (fun k => by simp) (Ev.now true)
theorem skewStamps_lifted (os : Os) (started : os.Started) (H : Type) (enc : TypeId × Value → H) :
    ReturnsInHanded {} Try.checked os 7 .any (Rows.skewStampsSpec.pre6 enc Try.prog Try.f7 Rows.skewStampsRow.domain false) (Rows.skewStampsSpec.post enc Try.prog Try.f7 false true false false) := by
  refine returnsInHanded_of_change_sized (C := Try.checked) own' started (by kernel_rfl) Try.func7
    (ChangeSpec.witness6 (enc := enc) (C := Try.checked) false ⟨#[], #[.slice none 0 0, .int .i64 0, .int .i64 0], []⟩ 8 (by kernel_rfl) (by kernel_rfl) (by kernel_rfl) (by kernel_rfl)) ?_
  intro W base args ds gs before hval0 hW hcnd hsz0 _
  have hval : ∀ (j : Nat) t v, Try.f7.params[j]? = some t → args[j]? = some v → Value.okWide Try.prog W .any base t v := hval0
  have hW' := hW
  obtain ⟨p, q, hA0, hV, rfl, hfz, hnd⟩ := hW
  have hA : DataW.TrodAll enc Try.prog W 0 (fun _ => true) true Try.f7.params.toList args.toList ds p := hA0
  rw [Try.params7] at hA hval
  obtain ⟨v0, vs0, d0, ds0, p0, q0, hargs, rfl, rfl, h0, r0⟩ := trodAll_cons hA
  obtain ⟨v1, vs1, d1, ds1, p1, q1, rfl, rfl, rfl, h1, r1⟩ := trodAll_cons r0
  obtain ⟨v2, vs2, d2, ds2, p2, q2, rfl, rfl, rfl, h2, r2⟩ := trodAll_cons r1
  obtain ⟨rfl, rfl, rfl⟩ := trodAll_nil r2
  obtain rfl : args = #[v0, v1, v2] := by cases args; simp_all
  obtain ⟨rfl, rfl⟩ := trodVars_none hV
  have k0 := h0
  have lt0 : ∀ x ∈ p0, x.block < W.heap.size := by obtain ⟨m, hm⟩ := k0; exact DataW.trod_lt m _ _ _ hm
  obtain ⟨A0, n0, c0, rfl⟩ := okWide_slice Try.underlying45 (hval 0 45 v0 rfl rfl)
  obtain ⟨f0, hf0⟩ := h0
  obtain ⟨A0', c0', l0, hcs0, hc0, hC0, ok0⟩ := Rd.slice (d := k71) Try.underlying45 (by kernel_rfl) (Rd.s71 W) hf0
  simp only [Value.cells] at hcs0
  obtain ⟨rfl, rfl, rfl⟩ : A0 = A0' ∧ n0 = l0.length ∧ c0 = c0' := by simpa using hcs0
  have k1 := h1
  have lt1 : ∀ x ∈ p1, x.block < W.heap.size := by obtain ⟨m, hm⟩ := k1; exact DataW.trod_lt m _ _ _ hm
  obtain ⟨a1, rfl, rfl, rfl, w1⟩ := open_int Try.underlying3 (hval 1 3 v1 rfl rfl) h1
  have k2 := h2
  have lt2 : ∀ x ∈ p2, x.block < W.heap.size := by obtain ⟨m, hm⟩ := k2; exact DataW.trod_lt m _ _ _ hm
  obtain ⟨a2, rfl, rfl, rfl, w2⟩ := open_int Try.underlying3 (hval 2 3 v2 rfl rfl) h2
  clear hA0 hval0 hsz0
  obtain ⟨k, hk⟩ := skewStamps_pure l0 a1 a2 ok0 hC0.2.1 w1 w2
  refine (afterwordlaw19_SkewStamps.calls k _ _ l0 a1 a2 true W hC0 hc0 hk).mono fun e' W' ⟨he, bel⟩ => ?_
  subst he
  exact ⟨_, rfl, _, _, _, [], _, [], hW', trodAll_mk1 (shut_bool Try.underlying4 _), (trodAll_cons_mk (Below.trod laidOut' (by kernel_rfl) (of_decide_eq_true (by kernel_rfl)) k0 bel lt0) (trodAll_cons_mk (Below.trod laidOut' (by kernel_rfl) (of_decide_eq_true (by kernel_rfl)) k1 bel lt1) (trodAll_cons_mk (Below.trod laidOut' (by kernel_rfl) (of_decide_eq_true (by kernel_rfl)) k2 bel lt2) trodAll_mk0))), rfl, bel.frame _, fun h => by cases h⟩
end Go.Proofs.Ytbffhblebigcfaa.Sk
namespace Go.Proofs.Ytbffhblebigcfaa
theorem skewStamps_holds : Rows.SkewStampsSaid :=
  OpenClaim.holds_of_wide 7 Try.f7 rfl rfl rfl rfl rfl rfl rfl ⟨rfl, rfl, rfl, rfl, rfl⟩ rfl rfl rfl rfl rfl (by kernel_rfl) Try.func7 (by kernel_rfl)
    (of_decide_eq_true (by kernel_rfl)) (by unfold Func.isWrapper; first | (rw [if_pos (by decide +kernel)]; kernel_rfl) | (rw [if_neg (by decide +kernel)]; exact ⟨rfl, rfl⟩))
    (fun os started H enc _ => Sk.skewStamps_lifted os started H enc)
end Go.Proofs.Ytbffhblebigcfaa
