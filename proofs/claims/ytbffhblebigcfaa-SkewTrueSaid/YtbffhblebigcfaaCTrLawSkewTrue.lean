/- Times that fit are in tight spans, and each time of one is one of some that fit, for any history and numbers: the law SkewTrue. -/
import Derived.Test.YtbffhblebigcfaaCTrGRowH
import Derived.Test.YtbffhblebigcfaaCTrGTrue
namespace Go.Proofs.Ytbffhblebigcfaa.Sk
set_option linter.unusedVariables false
set_option linter.unusedSimpArgs false
set_option maxRecDepth 100000
open Go.RowKit Go.ChangeShapes Go.WideShapes Go.ChangeAt Go.Proofs.YtbffhblebigcfaaW.PrintWords Go.Proofs.YtbffhblebigcfaaW.PrintLast Go.Proofs.YtbffhblebigcfaaW.PrintMore
def trueOk (r : Bool) (bys : List Int) (a2 a3 : Int) : Prop := r = true ∧ (∀ x ∈ bys, 0 ≤ x ∧ x ≤ 65535) ∧ bys.length ≤ 9223372036854775807 ∧ (0 ≤ a2 ∧ a2 ≤ 255) ∧ (0 ≤ a3 ∧ a3 ≤ 65535)
theorem trueW.calls (A0 : Option Addr) (c0 : Nat) (evs : List S27) (A1 : Option Addr) (c1 : Nat) (gaps : List S86) (A2 : Option Addr) (c2 : Nat) (bys : List Int) (a2 a3 : Int) (r : Bool) (w : World) (hr0 : Kd.C k27 w A0 evs.length evs) (hc0 : evs.length ≤ c0) (hr1 : Kd.C k86 w A1 gaps.length gaps) (hc1 : gaps.length ≤ c1) (hr2 : Kd.C (Kd.int .u16) w A2 bys.length bys) (hc2 : bys.length ≤ c2) (h : trueOk r bys a2 a3) :
  Calls Try.prog 11 #[.agg #[.slice A0 evs.length c0, .slice A1 gaps.length c1], .slice A2 bys.length c2, .int .u8 a2, .int .u16 a3] w fun e w' => e = .returned (.bool r) ∧ Below w.heap.size w w' := by
 obtain ⟨rfl, h1, h2, h3, h4⟩ := h
 exact skewTrue_calls A0 c0 evs A1 c1 gaps A2 c2 bys a2 a3 w hr0 hc0 hr1 hc1 hr2 hc2 h1 h2 h3 h4
theorem skewTrue_pure (l : List S27) (g : List S86) (bys : List Int) (a2 a3 : Int) (ok : ∀ x ∈ l, ok27 x) (okg : ∀ x ∈ g, ok86 x) (okb : ∀ x ∈ bys, (Lit.int .u16 x).wf = true) (hl : bys.length ≤ 9223372036854775807) (w2 : (Lit.int .u8 a2).wf = true) (w3 : (Lit.int .u16 a3).wf = true) : trueOk true bys a2 a3 := ⟨rfl, fun x hx => bounds_u16 (okb x hx), hl, bounds_u8 w2, bounds_u16 w3⟩
theorem skewTrue_lifted (os : Os) (started : os.Started) (H : Type) (enc : TypeId × Value → H) :
  ReturnsInHanded {} Try.checked os 11 .any (Rows.skewTrueSpec.pre6 enc Try.prog Try.f11 Rows.skewTrueRow.domain false) (Rows.skewTrueSpec.post enc Try.prog Try.f11 false true false false) := by
 refine returnsInHanded_of_change_sized (C := Try.checked) own' started (by kernel_rfl) Try.func11
  (ChangeSpec.witness6 (enc := enc) (C := Try.checked) false ⟨#[], #[.agg #[.slice none 0 0, .slice none 0 0], .slice none 0 0, .int .u8 0, .int .u16 0], []⟩ 8 (by kernel_rfl) (by kernel_rfl) (by kernel_rfl) (by kernel_rfl)) ?_
 intro W base args ds gs before hval0 hW hcnd hsz0 _
 have hval : ∀ (j : Nat) t v, Try.f11.params[j]? = some t → args[j]? = some v → Value.okWide Try.prog W .any base t v := hval0
 have hW' := hW
 obtain ⟨p, q, hA0, hV, rfl, hfz, hnd⟩ := hW
 have hA : DataW.TrodAll enc Try.prog W 0 (fun _ => true) true Try.f11.params.toList args.toList ds p := hA0
 rw [Try.params11] at hA hval
 obtain ⟨v0, vs0, d0, ds0, p0, q0, hargs, rfl, rfl, h0, r0⟩ := trodAll_cons hA
 obtain ⟨v1, vs1, d1, ds1, p1, q1, rfl, rfl, rfl, h1, r1⟩ := trodAll_cons r0
 obtain ⟨v2, vs2, d2, ds2, p2, q2, rfl, rfl, rfl, h2, r2⟩ := trodAll_cons r1
 obtain ⟨v3, vs3, d3, ds3, p3, q3, rfl, rfl, rfl, h3, r3⟩ := trodAll_cons r2
 obtain ⟨rfl, rfl, rfl⟩ := trodAll_nil r3
 obtain rfl : args = #[v0, v1, v2, v3] := by cases args; simp_all
 obtain ⟨rfl, rfl⟩ := trodVars_none hV
 have k0 := h0
 have lt0 : ∀ x ∈ p0, x.block < W.heap.size := by obtain ⟨m, hm⟩ := k0; exact DataW.trod_lt m _ _ _ hm
 obtain ⟨s0, rfl, _⟩ := okWide_struct Try.underlying39 (hval 0 39 v0 rfl rfl)
 obtain ⟨f0, hf0⟩ := h0
 obtain ⟨A0, c0, l0, B0, e0, g0, hs0, hc0, hC0, ok0, hd0, hD0, okg0⟩ := hist_of hf0
 obtain rfl : s0 = #[.slice A0 l0.length c0, .slice B0 g0.length e0] := by
  have : s0.toList = [.slice A0 l0.length c0, .slice B0 g0.length e0] := by simpa [Value.cells] using hs0
  exact Array.toList_inj.mp (by rw [this])
 have k1 := h1
 have lt1 : ∀ x ∈ p1, x.block < W.heap.size := by obtain ⟨m, hm⟩ := k1; exact DataW.trod_lt m _ _ _ hm
 obtain ⟨A1, n1, c1, rfl⟩ := okWide_slice Try.underlying88 (hval 1 88 v1 rfl rfl)
 obtain ⟨f1, hf1⟩ := h1
 obtain ⟨A1', c1', l1, hcs1, hc1, hC1, ok1⟩ := Rd.slice (d := (Kd.int .u16)) Try.underlying88 (by kernel_rfl) (Rd.int W Try.underlying73) hf1
 simp only [Value.cells] at hcs1
 obtain ⟨rfl, rfl, rfl⟩ : A1 = A1' ∧ n1 = l1.length ∧ c1 = c1' := by simpa using hcs1
 have k2 := h2
 have lt2 : ∀ x ∈ p2, x.block < W.heap.size := by obtain ⟨m, hm⟩ := k2; exact DataW.trod_lt m _ _ _ hm
 obtain ⟨a2, rfl, rfl, rfl, w2⟩ := open_int Try.underlying5 (hval 2 5 v2 rfl rfl) h2
 have k3 := h3
 have lt3 : ∀ x ∈ p3, x.block < W.heap.size := by obtain ⟨m, hm⟩ := k3; exact DataW.trod_lt m _ _ _ hm
 obtain ⟨a3, rfl, rfl, rfl, w3⟩ := open_int Try.underlying73 (hval 3 73 v3 rfl rfl) h3
 clear hA0 hval0 hsz0
 have hk := skewTrue_pure l0 g0 l1 a2 a3 ok0 okg0 ok1 hC1.2.1 w2 w3
 refine (trueW.calls _ _ l0 _ _ g0 _ _ l1 a2 a3 true W hC0 hc0 hD0 hd0 hC1 hc1 hk).mono fun e' W' ⟨he, bel⟩ => ?_
 subst he
 exact ⟨_, rfl, _, _, _, [], _, [], hW', trodAll_mk1 (shut_bool Try.underlying4 _), (trodAll_cons_mk (Below.trod laidOut' (by kernel_rfl) (of_decide_eq_true (by kernel_rfl)) k0 bel lt0) (trodAll_cons_mk (Below.trod laidOut' (by kernel_rfl) (of_decide_eq_true (by kernel_rfl)) k1 bel lt1) (trodAll_cons_mk (Below.trod laidOut' (by kernel_rfl) (of_decide_eq_true (by kernel_rfl)) k2 bel lt2) (trodAll_cons_mk (Below.trod laidOut' (by kernel_rfl) (of_decide_eq_true (by kernel_rfl)) k3 bel lt3) trodAll_mk0)))), rfl, bel.frame _, fun h => by cases h⟩
end Go.Proofs.Ytbffhblebigcfaa.Sk
namespace Go.Proofs.Ytbffhblebigcfaa
theorem skewTrue_holds : Rows.SkewTrueSaid :=
 OpenClaim.holds_of_wide 11 Try.f11 rfl rfl rfl rfl rfl rfl rfl ⟨rfl, rfl, rfl, rfl, rfl⟩ rfl rfl rfl rfl rfl (by kernel_rfl) Try.func11 (by kernel_rfl)
  (of_decide_eq_true (by kernel_rfl)) (by unfold Func.isWrapper; first | (rw [if_pos (by decide +kernel)]; kernel_rfl) | (rw [if_neg (by decide +kernel)]; exact ⟨rfl, rfl⟩))
  (fun os started H enc _ => Sk.skewTrue_lifted os started H enc)
end Go.Proofs.Ytbffhblebigcfaa
