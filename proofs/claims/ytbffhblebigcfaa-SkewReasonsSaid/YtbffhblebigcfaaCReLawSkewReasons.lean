/- The reason why no times fit is as stated, for any history: the law SkewReasons. -/
import Derived.Test.YtbffhblebigcfaaCReGRowH
import Derived.Test.YtbffhblebigcfaaCReLReason
import Derived.Test.YtbffhblebigcfaaCReLSame
import Derived.Test.YtbffhblebigcfaaCReSkf4
namespace Go.Proofs.Ytbffhblebigcfaa.Sk
set_option linter.unusedVariables false
set_option linter.unusedSimpArgs false
set_option maxRecDepth 100000
open Go.RowKit Go.ChangeShapes Go.WideShapes Go.ChangeAt Go.Proofs.YtbffhblebigcfaaW.PrintWords Go.Proofs.YtbffhblebigcfaaW.PrintLast Go.Proofs.YtbffhblebigcfaaW.PrintMore
theorem reasonR_len (l : List S27) (g : List S86) : (reasonR l g).1.length ≤ 1000 := by
 unfold reasonR
 by_cases c : histB l g = true
 ·rw [if_pos c]
  by_cases d : (solveR l g).2 = true
  ·rw [if_pos d]; simp
  ·rw [if_neg d]
   have h := (histIs l g).mp c
   obtain ⟨fs, _, _, h3, h4⟩ := facts_ex' l g h.ok
   have h5 := reasonS_len (saidL l g) fs
   rw [h3] at h5
   have := h.n
   have := h.w
   show (reasonP (saidL l g)).length ≤ 1000
   omega
 ·rw [if_neg c]; simp
theorem skewReasons_pure (l : List S27) (g : List S86) (ok : ∀ x ∈ l, ok27 x) (okg : ∀ x ∈ g, ok86 x) : ∃ k, afterwordlaw19_SkewReasons.f k l g = some true := by
 refine Ev.rounds ?_
 unfold afterwordlaw19_SkewReasons.f
 rw [reason_skew]
 refine Ev.congr (f := fun k => (afterwordref19_Reason.f k l g).bind fun bt318 => (if (reasonR l g).2 = bt318.2 then ((afterwordref19_Same.f k (reasonR l g).1 bt318.1).bind fun t322 => (if t322 = true then ((afterwordlaw19_known.f).bind fun t323 => (some t323)) else (some false))) else (some false))) (fun k => by simp only [Option.bind_some]) ?_
 refine Ev.bind (ev_Reason l g) ?_
 refine Ev.congr (f := fun k => (afterwordref19_Same.f k (reasonR l g).1 (reasonR l g).1).bind fun t322 => (if t322 = true then some true else some false)) (fun k => ?_) ?_
 ·rw [if_pos rfl]
  congr 1
 ·refine Ev.bind (ev_SameI _ (reasonR_len l g)) ?_
  exact Ev.congr (f := fun _ => some true) (fun k => by simp) (Ev.now true)
theorem skewReasons_lifted (os : Os) (started : os.Started) (H : Type) (enc : TypeId × Value → H) :
  ReturnsInHanded {} Try.checked os 4 .any (Rows.skewReasonsSpec.pre6 enc Try.prog Try.f4 Rows.skewReasonsRow.domain false) (Rows.skewReasonsSpec.post enc Try.prog Try.f4 false true false false) := by
 refine returnsInHanded_of_change_sized (C := Try.checked) own' started (by kernel_rfl) Try.func4
  (ChangeSpec.witness6 (enc := enc) (C := Try.checked) false ⟨#[], #[.agg #[.slice none 0 0, .slice none 0 0]], []⟩ 8 (by kernel_rfl) (by kernel_rfl) (by kernel_rfl) (by kernel_rfl)) ?_
 intro W base args ds gs before hval0 hW hcnd hsz0 _
 have hval : ∀ (j : Nat) t v, Try.f4.params[j]? = some t → args[j]? = some v → Value.okWide Try.prog W .any base t v := hval0
 have hW' := hW
 obtain ⟨p, q, hA0, hV, rfl, hfz, hnd⟩ := hW
 have hA : DataW.TrodAll enc Try.prog W 0 (fun _ => true) true Try.f4.params.toList args.toList ds p := hA0
 rw [Try.params4] at hA hval
 obtain ⟨v0, vs0, d0, ds0, p0, q0, hargs, rfl, rfl, h0, r0⟩ := trodAll_cons hA
 obtain ⟨rfl, rfl, rfl⟩ := trodAll_nil r0
 obtain rfl : args = #[v0] := by cases args; simp_all
 obtain ⟨rfl, rfl⟩ := trodVars_none hV
 have k0 := h0
 have lt0 : ∀ x ∈ p0, x.block < W.heap.size := by obtain ⟨m, hm⟩ := k0; exact DataW.trod_lt m _ _ _ hm
 obtain ⟨s0, rfl, _⟩ := okWide_struct Try.underlying39 (hval 0 39 v0 rfl rfl)
 obtain ⟨f0, hf0⟩ := h0
 obtain ⟨A0, c0, l0, B0, e0, g0, hs0, hc0, hC0, ok0, hd0, hD0, okg0⟩ := hist_of hf0
 obtain rfl : s0 = #[.slice A0 l0.length c0, .slice B0 g0.length e0] := by
  have : s0.toList = [.slice A0 l0.length c0, .slice B0 g0.length e0] := by simpa [Value.cells] using hs0
  exact Array.toList_inj.mp (by rw [this])
 clear hA0 hval0 hsz0
 obtain ⟨k, hk⟩ := skewReasons_pure l0 g0 ok0 okg0
 refine (afterwordlaw19_SkewReasons.calls k _ _ l0 _ _ g0 true W hC0 hc0 hD0 hd0 hk).mono fun e' W' ⟨he, bel⟩ => ?_
 subst he
 exact ⟨_, rfl, _, _, _, [], _, [], hW', trodAll_mk1 (shut_bool Try.underlying4 _), (trodAll_cons_mk (Below.trod laidOut' (by kernel_rfl) (of_decide_eq_true (by kernel_rfl)) k0 bel lt0) trodAll_mk0), rfl, bel.frame _, fun h => by cases h⟩
end Go.Proofs.Ytbffhblebigcfaa.Sk
namespace Go.Proofs.Ytbffhblebigcfaa
theorem skewReasons_holds : Rows.SkewReasonsSaid :=
 OpenClaim.holds_of_wide 4 Try.f4 rfl rfl rfl rfl rfl rfl rfl ⟨rfl, rfl, rfl, rfl, rfl⟩ rfl rfl rfl rfl rfl (by kernel_rfl) Try.func4 (by kernel_rfl)
  (of_decide_eq_true (by kernel_rfl)) (by unfold Func.isWrapper; first | (rw [if_pos (by decide +kernel)]; kernel_rfl) | (rw [if_neg (by decide +kernel)]; exact ⟨rfl, rfl⟩))
  (fun os started H enc _ => Sk.skewReasons_lifted os started H enc)
end Go.Proofs.Ytbffhblebigcfaa
