/- What is certain is a strict order, so in all orders that can be, and only that is, for any history, three numbers, and an order by numbers: the law SkewSure. -/
import Derived.Test.YtobcecgcegoooaaCSrV0
import Derived.Test.YtobcecgcegoooaaCSrV8
namespace Go.Proofs.Ytobcecgcegoooaa.Sk
set_option linter.unusedVariables false
set_option linter.unusedSimpArgs false
set_option maxRecDepth 100000
open Go.RowKit Go.ChangeShapes Go.WideShapes Go.ChangeAt Go.Proofs.YtobcecgcegoooaaW.PrintWords Go.Proofs.YtobcecgcegoooaaW.PrintLast Go.Proofs.YtobcecgcegoooaaW.PrintMore
def sureOk (r : Bool) (a b c : Int) (bys : List Int) : Prop := r = true ∧ (0 ≤ a ∧ a ≤ 255) ∧ (0 ≤ b ∧ b ≤ 255) ∧ (0 ≤ c ∧ c ≤ 255) ∧ ∀ x ∈ bys, 0 ≤ x ∧ x ≤ 255
theorem sureW.calls (A0 : Option Addr) (c0 : Nat) (evs : List S27) (A1 : Option Addr) (c1 : Nat) (gaps : List S86) (a b c : Int) (A4 : Option Addr) (c4 : Nat) (bys : List Int) (r : Bool) (w : World) (hr0 : Kd.C k27 w A0 evs.length evs) (hc0 : evs.length ≤ c0) (hr1 : Kd.C k86 w A1 gaps.length gaps) (hc1 : gaps.length ≤ c1) (hr4 : Kd.C (Kd.int .u8) w A4 bys.length bys) (hc4 : bys.length ≤ c4) (h : sureOk r a b c bys) :
  Calls Try.prog 13 #[.agg #[.slice A0 evs.length c0, .slice A1 gaps.length c1], .int .u8 a, .int .u8 b, .int .u8 c, .slice A4 bys.length c4] w fun e w' => e = .returned (.bool r) ∧ Below w.heap.size w w' := by
 obtain ⟨rfl, ha, hb, hcc, hby⟩ := h
 cases hh : histB evs gaps with
 | false => exact sure_no A0 c0 evs A1 c1 gaps a b c A4 c4 bys w hr0 hc0 hr1 hc1 hr4 hc4 (.inl hh)
 | true =>
  by_cases hn : evs.length = 0
  ·exact sure_no A0 c0 evs A1 c1 gaps a b c A4 c4 bys w hr0 hc0 hr1 hc1 hr4 hc4 (.inr (List.length_eq_zero_iff.mp hn))
  ·cases hs : (solveR evs gaps).2 with
   | false => exact sure_none A0 c0 evs A1 c1 gaps a b c A4 c4 bys w hr0 hc0 hr1 hc1 hr4 hc4 hh hn ha hb hcc hby hs
   | true => exact sure_all A0 c0 evs A1 c1 gaps a b c A4 c4 bys w hr0 hc0 hr1 hc1 hr4 hc4 hh hn ha hb hcc hby hs
theorem skewSure_pure (l : List S27) (g : List S86) (a b c : Int) (bys : List Int) (ok : ∀ x ∈ l, ok27 x) (okg : ∀ x ∈ g, ok86 x) (wa : (Lit.int .u8 a).wf = true) (wb : (Lit.int .u8 b).wf = true) (wc : (Lit.int .u8 c).wf = true) (okb : ∀ x ∈ bys, (Lit.int .u8 x).wf = true) : sureOk true a b c bys :=
 ⟨rfl, bounds_u8 wa, bounds_u8 wb, bounds_u8 wc, fun x hx => bounds_u8 (okb x hx)⟩
theorem skewSure_lifted (os : Os) (started : os.Started) (H : Type) (enc : TypeId × Value → H) :
  ReturnsInHanded {} Try.checked os 13 .any (Rows.skewSureSpec.pre6 enc Try.prog Try.f13 Rows.skewSureRow.domain false) (Rows.skewSureSpec.post enc Try.prog Try.f13 false true false false) := by
 refine returnsInHanded_of_change_sized (C := Try.checked) own' started (by kernel_rfl) Try.func13
  (ChangeSpec.witness6 (enc := enc) (C := Try.checked) false ⟨#[], #[.agg #[.slice none 0 0, .slice none 0 0], .int .u8 0, .int .u8 0, .int .u8 0, .slice none 0 0], []⟩ 8 (by kernel_rfl) (by kernel_rfl) (by kernel_rfl) (by kernel_rfl)) ?_
 intro W base args ds gs before hval0 hW hcnd hsz0 _; have hval : ∀ (j : Nat) t v, Try.f13.params[j]? = some t → args[j]? = some v → Value.okWide Try.prog W .any base t v := hval0; have hW' := hW; obtain ⟨p, q, hA0, hV, rfl, hfz, hnd⟩ := hW; have hA : DataW.TrodAll enc Try.prog W 0 (fun _ => true) true Try.f13.params.toList args.toList ds p := hA0; rw [Try.params13] at hA hval; obtain ⟨v0, vs0, d0, ds0, p0, q0, hargs, rfl, rfl, h0, r0⟩ := trodAll_cons hA; obtain ⟨v1, vs1, d1, ds1, p1, q1, rfl, rfl, rfl, h1, r1⟩ := trodAll_cons r0; obtain ⟨v2, vs2, d2, ds2, p2, q2, rfl, rfl, rfl, h2, r2⟩ := trodAll_cons r1; obtain ⟨v3, vs3, d3, ds3, p3, q3, rfl, rfl, rfl, h3, r3⟩ := trodAll_cons r2; obtain ⟨v4, vs4, d4, ds4, p4, q4, rfl, rfl, rfl, h4, r4⟩ := trodAll_cons r3; obtain ⟨rfl, rfl, rfl⟩ := trodAll_nil r4
 obtain rfl : args = #[v0, v1, v2, v3, v4] := by cases args; simp_all
 obtain ⟨rfl, rfl⟩ := trodVars_none hV; have k0 := h0
 have lt0 : ∀ x ∈ p0, x.block < W.heap.size := by obtain ⟨m, hm⟩ := k0; exact DataW.trod_lt m _ _ _ hm
 obtain ⟨s0, rfl, _⟩ := okWide_struct Try.underlying39 (hval 0 39 v0 rfl rfl); obtain ⟨f0, hf0⟩ := h0; obtain ⟨A0, c0, l0, B0, e0, g0, hs0, hc0, hC0, ok0, hd0, hD0, okg0⟩ := hist_of hf0
 obtain rfl : s0 = #[.slice A0 l0.length c0, .slice B0 g0.length e0] := by
  have : s0.toList = [.slice A0 l0.length c0, .slice B0 g0.length e0] := by simpa [Value.cells] using hs0
  exact Array.toList_inj.mp (by rw [this])
 have k1 := h1
 have lt1 : ∀ x ∈ p1, x.block < W.heap.size := by obtain ⟨m, hm⟩ := k1; exact DataW.trod_lt m _ _ _ hm
 obtain ⟨a1, rfl, rfl, rfl, w1⟩ := open_int Try.underlying5 (hval 1 5 v1 rfl rfl) h1; have k2 := h2
 have lt2 : ∀ x ∈ p2, x.block < W.heap.size := by obtain ⟨m, hm⟩ := k2; exact DataW.trod_lt m _ _ _ hm
 obtain ⟨a2, rfl, rfl, rfl, w2⟩ := open_int Try.underlying5 (hval 2 5 v2 rfl rfl) h2; have k3 := h3
 have lt3 : ∀ x ∈ p3, x.block < W.heap.size := by obtain ⟨m, hm⟩ := k3; exact DataW.trod_lt m _ _ _ hm
 obtain ⟨a3, rfl, rfl, rfl, w3⟩ := open_int Try.underlying5 (hval 3 5 v3 rfl rfl) h3; have k4 := h4
 have lt4 : ∀ x ∈ p4, x.block < W.heap.size := by obtain ⟨m, hm⟩ := k4; exact DataW.trod_lt m _ _ _ hm
 obtain ⟨A4, n4, c4, rfl⟩ := okWide_slice Try.underlying94 (hval 4 94 v4 rfl rfl); obtain ⟨f4, hf4⟩ := h4; obtain ⟨A4', c4', l4, hcs4, hc4, hC4, ok4⟩ := Rd.slice (d := (Kd.int .u8)) Try.underlying94 (by kernel_rfl) (Rd.int W Try.underlying5) hf4; simp only [Value.cells] at hcs4
 obtain ⟨rfl, rfl, rfl⟩ : A4 = A4' ∧ n4 = l4.length ∧ c4 = c4' := by simpa using hcs4
 clear hA0 hval0 hsz0; have hk := skewSure_pure l0 g0 a1 a2 a3 l4 ok0 okg0 w1 w2 w3 ok4
 refine (sureW.calls _ _ l0 _ _ g0 a1 a2 a3 _ _ l4 true W hC0 hc0 hD0 hd0 hC4 hc4 hk).mono fun e' W' ⟨he, bel⟩ => ?_
 subst he; exact ⟨_, rfl, _, _, _, [], _, [], hW', trodAll_mk1 (shut_bool Try.underlying4 _), (trodAll_cons_mk (Below.trod laidOut' (by kernel_rfl) (of_decide_eq_true (by kernel_rfl)) k0 bel lt0) (trodAll_cons_mk (Below.trod laidOut' (by kernel_rfl) (of_decide_eq_true (by kernel_rfl)) k1 bel lt1) (trodAll_cons_mk (Below.trod laidOut' (by kernel_rfl) (of_decide_eq_true (by kernel_rfl)) k2 bel lt2) (trodAll_cons_mk (Below.trod laidOut' (by kernel_rfl) (of_decide_eq_true (by kernel_rfl)) k3 bel lt3) (trodAll_cons_mk (Below.trod laidOut' (by kernel_rfl) (of_decide_eq_true (by kernel_rfl)) k4 bel lt4) trodAll_mk0))))), rfl, bel.frame _, fun h => by cases h⟩
end Go.Proofs.Ytobcecgcegoooaa.Sk
namespace Go.Proofs.Ytobcecgcegoooaa
theorem skewSure_holds : Rows.SkewSureSaid :=
 OpenClaim.holds_of_wide 13 Try.f13 rfl rfl rfl rfl rfl rfl rfl ⟨rfl, rfl, rfl, rfl, rfl⟩ rfl rfl rfl rfl rfl (by kernel_rfl) Try.func13 (by kernel_rfl)
  (of_decide_eq_true (by kernel_rfl)) (by unfold Func.isWrapper; first | (rw [if_pos (by decide +kernel)]; kernel_rfl) | (rw [if_neg (by decide +kernel)]; exact ⟨rfl, rfl⟩))
  (fun os started H enc _ => Sk.skewSure_lifted os started H enc)
end Go.Proofs.Ytobcecgcegoooaa
