/- A vote is had by most and begins first, and all have it just if there is a time that all have, for any spans: the law SkewVoted. -/
import Derived.Test.YtbffhblebigcfaaCVdGRow
import Derived.Test.YtbffhblebigcfaaCVdGVoted
namespace Go.Proofs.Ytbffhblebigcfaa.Sk
set_option linter.unusedVariables false
set_option linter.unusedSimpArgs false
set_option maxRecDepth 100000
open Go.RowKit Go.ChangeShapes Go.WideShapes Go.ChangeAt Go.Proofs.YtbffhblebigcfaaW.PrintWords Go.Proofs.YtbffhblebigcfaaW.PrintLast Go.Proofs.YtbffhblebigcfaaW.PrintMore
def votedOk (r : Bool) (a2 : Int) : Prop := r = true ∧ 0 ≤ a2 ∧ a2 ≤ 65535
theorem votedW.calls (A0 : Option Addr) (c0 : Nat) (l0 : List S27) (a1 a2 : Int) (r : Bool) (w : World) (hr0 : Kd.C k27 w A0 l0.length l0) (hc0 : l0.length ≤ c0) (h : votedOk r a2) :
    Calls Try.prog 9 #[.slice A0 l0.length c0, .int .i64 a1, .int .u16 a2] w fun e w' => e = .returned (.bool r) ∧ Below w.heap.size w w' := by
  obtain ⟨rfl, ha2⟩ := h
  have hm0 : skew_Meet.f l0 = some ((meetR l0).1, (meetR l0).2.1, (meetR l0).2.2) := meet_skew l0
  have hv0 := vote_skew l0
  by_cases hg : goodsB l0 = true
  · by_cases h0 : l0.length = 0
    · have e : voteR l0 = (0, 0, 0, 5) := by unfold voteR; rw [if_pos hg, if_pos h0]
      rw [e] at hv0
      exact voted_5 A0 c0 l0 a1 a2 w hr0 hc0 hv0 _ _ _ hm0 h0
    · obtain ⟨hl0, hl1⟩ := Bool.and_eq_true_iff.mp hg
      have hl := of_decide_eq_true hl0
      have V := voted_is l0 hl hl1 h0
      have e4 : (voteR l0).2.2.2 = 0 := by unfold voteR; rw [if_pos hg, if_neg h0]
      have hv1 : skew_Vote.f l0 = some ((voteR l0).1, (voteR l0).2.1, (voteR l0).2.2.1, 0) := by rw [hv0, ← e4]
      obtain ⟨kg, hgs⟩ := Ev.rounds (ev_Goods l0)
      rw [hg] at hgs
      have hgo : afterwordref19_Good.f (voteR l0).1 (voteR l0).2.1 = some true := by rw [good_b, V.good]
      have hh := fun t => Ev.rounds (ev_Have l0 hl t)
      obtain ⟨k1, h1⟩ := hh (voteR l0).1
      rw [V.all _ (Int.le_refl _) V.le] at h1
      obtain ⟨k2, h2⟩ := hh (voteR l0).2.1
      rw [V.all _ V.le (Int.le_refl _)] at h2
      have h3 : ∀ t, (voteR l0).1 ≤ t → t ≤ (voteR l0).2.1 → ∃ k, afterwordref19_Have.f k l0 t = some (voteR l0).2.2.1 := fun t p q => by
        obtain ⟨k, hk⟩ := hh t
        rw [V.all t p q] at hk
        exact ⟨k, hk⟩
      obtain ⟨k4, h4⟩ := hh ((voteR l0).2.1 + 1)
      obtain ⟨k5, h5⟩ := hh a1
      by_cases hf : (meetR l0).2.2 = 0
      · obtain ⟨ex, ey⟩ := V.same hf
        rw [ex, ey, hf] at hm0
        exact voted_all A0 c0 l0 a1 a2 w hr0 hc0 _ _ _ _ _ kg k1 k2 k4 k5 hv1 hm0 hgs hgo h1 h2 h3 h4 h5 V.le V.b0 V.b1 V.m1 V.ml V.stop (V.top a1) (V.first a1) ha2 (V.meet.mpr hf)
      · have hf5 : (meetR l0).2.2 = 5 := V.fz.resolve_left hf
        rw [hf5] at hm0
        exact voted_most A0 c0 l0 a1 a2 w hr0 hc0 _ _ _ _ _ _ _ kg k1 k2 k4 k5 hv1 hm0 hgs hgo h1 h2 h3 h4 h5 V.le V.b0 V.b1 V.m1 V.ml V.stop (V.top a1) (V.first a1) ha2 (fun hm => hf (V.meet.mp hm))
  · have e : voteR l0 = (0, 0, 0, 2) := by unfold voteR; rw [if_neg hg]
    rw [e] at hv0
    exact voted_2 A0 c0 l0 a1 a2 w hr0 hc0 hv0 _ _ _ hm0
theorem skewVoted_pure (l : List S27) (a1 a2 : Int) (ok : ∀ x ∈ l, ok27 x) (wa : I64 a1) (wb : (Lit.int .u16 a2).wf = true) : votedOk true a2 := ⟨rfl, bounds_u16 wb⟩
theorem skewVoted_lifted (os : Os) (started : os.Started) (H : Type) (enc : TypeId × Value → H) :
    ReturnsInHanded {} Try.checked os 9 .any (Rows.skewVotedSpec.pre6 enc Try.prog Try.f9 Rows.skewVotedRow.domain false) (Rows.skewVotedSpec.post enc Try.prog Try.f9 false true false false) := by
  refine returnsInHanded_of_change_sized (C := Try.checked) own' started (by kernel_rfl) Try.func9
    (ChangeSpec.witness6 (enc := enc) (C := Try.checked) false ⟨#[], #[.slice none 0 0, .int .i64 0, .int .u16 0], []⟩ 8 (by kernel_rfl) (by kernel_rfl) (by kernel_rfl) (by kernel_rfl)) ?_
  intro W base args ds gs before hval0 hW hcnd hsz0 _
  have hval : ∀ (j : Nat) t v, Try.f9.params[j]? = some t → args[j]? = some v → Value.okWide Try.prog W .any base t v := hval0
  have hW' := hW
  obtain ⟨p, q, hA0, hV, rfl, hfz, hnd⟩ := hW
  have hA : DataW.TrodAll enc Try.prog W 0 (fun _ => true) true Try.f9.params.toList args.toList ds p := hA0
  rw [Try.params9] at hA hval
  obtain ⟨v0, vs0, d0, ds0, p0, q0, hargs, rfl, rfl, h0, r0⟩ := trodAll_cons hA
  obtain ⟨v1, vs1, d1, ds1, p1, q1, rfl, rfl, rfl, h1, r1⟩ := trodAll_cons r0
  obtain ⟨v2, vs2, d2, ds2, p2, q2, rfl, rfl, rfl, h2, r2⟩ := trodAll_cons r1
  obtain ⟨rfl, rfl, rfl⟩ := trodAll_nil r2
  obtain rfl : args = #[v0, v1, v2] := by cases args; simp_all
  obtain ⟨rfl, rfl⟩ := trodVars_none hV
  have k0 := h0
  have lt0 : ∀ x ∈ p0, x.block < W.heap.size := by obtain ⟨m, hm⟩ := k0; exact DataW.trod_lt m _ _ _ hm
  obtain ⟨A0, n0, c0, rfl⟩ := okWide_slice Try.underlying36 (hval 0 36 v0 rfl rfl)
  obtain ⟨f0, hf0⟩ := h0
  obtain ⟨A0', c0', l0, hcs0, hc0, hC0, ok0⟩ := Rd.slice (d := k27) Try.underlying36 (by kernel_rfl) (Rd.s27 W) hf0
  simp only [Value.cells] at hcs0
  obtain ⟨rfl, rfl, rfl⟩ : A0 = A0' ∧ n0 = l0.length ∧ c0 = c0' := by simpa using hcs0
  have k1 := h1
  have lt1 : ∀ x ∈ p1, x.block < W.heap.size := by obtain ⟨m, hm⟩ := k1; exact DataW.trod_lt m _ _ _ hm
  obtain ⟨a1, rfl, rfl, rfl, w1⟩ := open_int Try.underlying3 (hval 1 3 v1 rfl rfl) h1
  have k2 := h2
  have lt2 : ∀ x ∈ p2, x.block < W.heap.size := by obtain ⟨m, hm⟩ := k2; exact DataW.trod_lt m _ _ _ hm
  obtain ⟨a2, rfl, rfl, rfl, w2⟩ := open_int Try.underlying73 (hval 2 73 v2 rfl rfl) h2
  clear hA0 hval0 hsz0
  have hk := skewVoted_pure l0 a1 a2 ok0 w1 w2
  refine (votedW.calls _ _ l0 a1 a2 true W hC0 hc0 hk).mono fun e' W' ⟨he, bel⟩ => ?_
  subst he
  exact ⟨_, rfl, _, _, _, [], _, [], hW', trodAll_mk1 (shut_bool Try.underlying4 _), (trodAll_cons_mk (Below.trod laidOut' (by kernel_rfl) (of_decide_eq_true (by kernel_rfl)) k0 bel lt0) (trodAll_cons_mk (Below.trod laidOut' (by kernel_rfl) (of_decide_eq_true (by kernel_rfl)) k1 bel lt1) (trodAll_cons_mk (Below.trod laidOut' (by kernel_rfl) (of_decide_eq_true (by kernel_rfl)) k2 bel lt2) trodAll_mk0))), rfl, bel.frame _, fun h => by cases h⟩
end Go.Proofs.Ytbffhblebigcfaa.Sk
namespace Go.Proofs.Ytbffhblebigcfaa
theorem skewVoted_holds : Rows.SkewVotedSaid :=
  OpenClaim.holds_of_wide 9 Try.f9 rfl rfl rfl rfl rfl rfl rfl ⟨rfl, rfl, rfl, rfl, rfl⟩ rfl rfl rfl rfl rfl (by kernel_rfl) Try.func9 (by kernel_rfl)
    (of_decide_eq_true (by kernel_rfl)) (by unfold Func.isWrapper; first | (rw [if_pos (by decide +kernel)]; kernel_rfl) | (rw [if_neg (by decide +kernel)]; exact ⟨rfl, rfl⟩))
    (fun os started H enc _ => Sk.skewVoted_lifted os started H enc)
end Go.Proofs.Ytbffhblebigcfaa
