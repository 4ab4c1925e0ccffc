/- Which spans are earlier, what they have together, and their vote, are as stated, for any spans: the law SkewVotes. -/
import Derived.Test.YtbffhblebigcfaaCVoGRow
import Derived.Test.YtbffhblebigcfaaCVoLVotes
import Derived.Test.YtbffhblebigcfaaCVoSkf12
namespace Go.Proofs.Ytbffhblebigcfaa.Sk
set_option linter.unusedVariables false
set_option linter.unusedSimpArgs false
set_option maxRecDepth 100000
open Go.RowKit Go.ChangeShapes Go.WideShapes Go.ChangeAt Go.Proofs.YtbffhblebigcfaaW.PrintWords Go.Proofs.YtbffhblebigcfaaW.PrintLast Go.Proofs.YtbffhblebigcfaaW.PrintMore
theorem before_some (a b c d : Int) : ∃ R, afterwordref19_Before.f a b c d = some R := by
  unfold afterwordref19_Before.f
  rw [good_b]
  simp only [Option.bind_some, good_b]
  cases good27 ⟨a, b⟩ <;> cases good27 ⟨c, d⟩ <;> exact ⟨_, rfl⟩
theorem skewVotes_pure (l : List S27) (a b c d : Int) (ok : ∀ x ∈ l, ok27 x) (wa : I64 a) (wb : I64 b) (wc : I64 c) (wd : I64 d) : ∃ k, afterwordlaw19_SkewVotes.f k l a b c d = some true := by
  refine Ev.rounds ?_
  unfold afterwordlaw19_SkewVotes.f
  rw [before_eq]
  obtain ⟨R, hR⟩ := before_some a b c d
  rw [hR]
  refine Ev.congr (f := fun k => afterwordlaw19_SkewVotes.j0 k l false) (fun k => by simp) ?_
  refine Ev.step (f := fun k => (afterwordref19_Meet.f k l).bind fun m => (afterwordref19_Vote.f k l).bind fun v => if ((meetR l).1 == m.1 && ((meetR l).2.1 == m.2.1)) = true then (if (meetR l).2.2 = m.2.2 then (if ((voteR l).1 == v.1 && ((voteR l).2.1 == v.2.1)) = true then (if (voteR l).2.2.1 = v.2.2.1 then (if (voteR l).2.2.2 = v.2.2.2 then some true else some false) else some false) else some false) else some false) else some false) (fun k => ?_) ?_
  · simp only [afterwordlaw19_SkewVotes.j0, Bool.false_eq_true, if_false]
    rw [meet_skew, vote_skew]
    simp only [Option.bind_some]
    rfl
  · refine Ev.bind (ev_Meet l) (Ev.bind (ev_Vote l) ?_)
    exact Ev.congr (f := fun _ => some true) (fun k => by simp) (Ev.now true)
theorem skewVotes_lifted (os : Os) (started : os.Started) (H : Type) (enc : TypeId × Value → H) :
    ReturnsInHanded {} Try.checked os 12 .any (Rows.skewVotesSpec.pre6 enc Try.prog Try.f12 Rows.skewVotesRow.domain false) (Rows.skewVotesSpec.post enc Try.prog Try.f12 false true false false) := by
  refine returnsInHanded_of_change_sized (C := Try.checked) own' started (by kernel_rfl) Try.func12
    (ChangeSpec.witness6 (enc := enc) (C := Try.checked) false ⟨#[], #[.slice none 0 0, .agg #[.int .i64 0, .int .i64 0], .agg #[.int .i64 0, .int .i64 0]], []⟩ 8 (by kernel_rfl) (by kernel_rfl) (by kernel_rfl) (by kernel_rfl)) ?_
  intro W base args ds gs before hval0 hW hcnd hsz0 _
  have hval : ∀ (j : Nat) t v, Try.f12.params[j]? = some t → args[j]? = some v → Value.okWide Try.prog W .any base t v := hval0
  have hW' := hW
  obtain ⟨p, q, hA0, hV, rfl, hfz, hnd⟩ := hW
  have hA : DataW.TrodAll enc Try.prog W 0 (fun _ => true) true Try.f12.params.toList args.toList ds p := hA0
  rw [Try.params12] at hA hval
  obtain ⟨v0, vs0, d0, ds0, p0, q0, hargs, rfl, rfl, h0, r0⟩ := trodAll_cons hA
  obtain ⟨v1, vs1, d1, ds1, p1, q1, rfl, rfl, rfl, h1, r1⟩ := trodAll_cons r0
  obtain ⟨v2, vs2, d2, ds2, p2, q2, rfl, rfl, rfl, h2, r2⟩ := trodAll_cons r1
  obtain ⟨rfl, rfl, rfl⟩ := trodAll_nil r2
  obtain rfl : args = #[v0, v1, v2] := by cases args; simp_all
  obtain ⟨rfl, rfl⟩ := trodVars_none hV
  have k0 := h0
  have lt0 : ∀ x ∈ p0, x.block < W.heap.size := by obtain ⟨m, hm⟩ := k0; exact DataW.trod_lt m _ _ _ hm
  obtain ⟨A0, n0, c0, rfl⟩ := okWide_slice Try.underlying36 (hval 0 36 v0 rfl rfl)
  obtain ⟨f0, hf0⟩ := h0
  obtain ⟨A0', c0', l0, hcs0, hc0, hC0, ok0⟩ := Rd.slice (d := k27) Try.underlying36 (by kernel_rfl) (Rd.s27 W) hf0
  simp only [Value.cells] at hcs0
  obtain ⟨rfl, rfl, rfl⟩ : A0 = A0' ∧ n0 = l0.length ∧ c0 = c0' := by simpa using hcs0
  have k1 := h1
  have lt1 : ∀ x ∈ p1, x.block < W.heap.size := by obtain ⟨m, hm⟩ := k1; exact DataW.trod_lt m _ _ _ hm
  obtain ⟨s1, rfl, _⟩ := okWide_struct Try.underlying27 (hval 1 27 v1 rfl rfl)
  obtain ⟨f1, hf1⟩ := h1
  obtain ⟨a1, b1, hs1, wa1, wb1⟩ := two_of Try.underlying27 (by kernel_rfl) (by kernel_rfl) hf1
  obtain rfl : s1 = #[.int .i64 a1, .int .i64 b1] := by
    have : s1.toList = [.int .i64 a1, .int .i64 b1] := by simpa [Value.cells] using hs1
    exact Array.toList_inj.mp (by rw [this])
  have k2 := h2
  have lt2 : ∀ x ∈ p2, x.block < W.heap.size := by obtain ⟨m, hm⟩ := k2; exact DataW.trod_lt m _ _ _ hm
  obtain ⟨s2, rfl, _⟩ := okWide_struct Try.underlying27 (hval 2 27 v2 rfl rfl)
  obtain ⟨f2, hf2⟩ := h2
  obtain ⟨a2, b2, hs2, wa2, wb2⟩ := two_of Try.underlying27 (by kernel_rfl) (by kernel_rfl) hf2
  obtain rfl : s2 = #[.int .i64 a2, .int .i64 b2] := by
    have : s2.toList = [.int .i64 a2, .int .i64 b2] := by simpa [Value.cells] using hs2
    exact Array.toList_inj.mp (by rw [this])
  clear hA0 hval0 hsz0
  obtain ⟨k, hk⟩ := skewVotes_pure l0 a1 b1 a2 b2 ok0 wa1 wb1 wa2 wb2
  refine (afterwordlaw19_SkewVotes.calls k _ _ l0 a1 b1 a2 b2 true W hC0 hc0 hk).mono fun e' W' ⟨he, bel⟩ => ?_
  subst he
  exact ⟨_, rfl, _, _, _, [], _, [], hW', trodAll_mk1 (shut_bool Try.underlying4 _), (trodAll_cons_mk (Below.trod laidOut' (by kernel_rfl) (of_decide_eq_true (by kernel_rfl)) k0 bel lt0) (trodAll_cons_mk (Below.trod laidOut' (by kernel_rfl) (of_decide_eq_true (by kernel_rfl)) k1 bel lt1) (trodAll_cons_mk (Below.trod laidOut' (by kernel_rfl) (of_decide_eq_true (by kernel_rfl)) k2 bel lt2) trodAll_mk0))), rfl, bel.frame _, fun h => by cases h⟩
end Go.Proofs.Ytbffhblebigcfaa.Sk
namespace Go.Proofs.Ytbffhblebigcfaa
theorem skewVotes_holds : Rows.SkewVotesSaid :=
  OpenClaim.holds_of_wide 12 Try.f12 rfl rfl rfl rfl rfl rfl rfl ⟨rfl, rfl, rfl, rfl, rfl⟩ rfl rfl rfl rfl rfl (by kernel_rfl) Try.func12 (by kernel_rfl)
    (of_decide_eq_true (by kernel_rfl)) (by unfold Func.isWrapper; first | (rw [if_pos (by decide +kernel)]; kernel_rfl) | (rw [if_neg (by decide +kernel)]; exact ⟨rfl, rfl⟩))
    (fun os started H enc _ => Sk.skewVotes_lifted os started H enc)
end Go.Proofs.Ytbffhblebigcfaa
