/- Tight spans and which times fit are as stated, and what is handed in stays as it is, for any history and list: the law SkewTights. -/
import Derived.Test.YtbffhblebigcfaaCTiGRowS
import Derived.Test.YtbffhblebigcfaaCTiW0
import Derived.Test.YtbffhblebigcfaaCTiGTights
namespace Go.Proofs.Ytbffhblebigcfaa.Sk
set_option linter.unusedVariables false
set_option linter.unusedSimpArgs false
set_option maxRecDepth 100000
open Go.RowKit Go.ChangeShapes Go.WideShapes Go.ChangeAt Go.Proofs.YtbffhblebigcfaaW.PrintWords Go.Proofs.YtbffhblebigcfaaW.PrintLast Go.Proofs.YtbffhblebigcfaaW.PrintMore
def tightsOk (r : Bool) (l : List S27) (g : List S86) (ts : List Int) : Prop := r = true ∧ l.length * 16 ≤ 140737488355328 ∧ g.length * 32 ≤ 140737488355328 ∧ ts.length * 8 ≤ 140737488355328
theorem tightsW.calls (A0 : Option Addr) (c0 : Nat) (evs : List S27) (A1 : Option Addr) (c1 : Nat) (gaps : List S86) (A2 : Option Addr) (c2 : Nat) (ts : List Int) (r : Bool) (w : World) (hr0 : Kd.C k27 w A0 evs.length evs) (hc0 : evs.length ≤ c0) (hr1 : Kd.C k86 w A1 gaps.length gaps) (hc1 : gaps.length ≤ c1) (hr2 : Kd.C (Kd.int .i64) w A2 ts.length ts) (hc2 : ts.length ≤ c2) (h : tightsOk r evs gaps ts) :
  Calls Try.prog 10 #[.agg #[.slice A0 evs.length c0, .slice A1 gaps.length c1], .slice A2 ts.length c2] w fun e w' => e = .returned (.bool r) ∧ Below w.heap.size w w' := by
 obtain ⟨rfl, h1, h2, h3⟩ := h
 exact tights_all A0 c0 evs A1 c1 gaps A2 c2 ts w hr0 hc0 hr1 hc1 hr2 hc2 h1 h2 h3
theorem skewTights_pure (l : List S27) (g : List S86) (ts : List Int) (ok : ∀ x ∈ l, ok27 x) (okg : ∀ x ∈ g, ok86 x) (s0 : l.length * 16 ≤ 140737488351232) (s1 : g.length * 32 ≤ 140737488351232) (okt : ∀ x ∈ ts, (Lit.int .i64 x).wf = true) (s2 : ts.length * 8 ≤ 140737488351232) : tightsOk true l g ts := ⟨rfl, by omega, by omega, by omega⟩
theorem skewTights_lifted (os : Os) (started : os.Started) (H : Type) (enc : TypeId × Value → H) :
  ReturnsInHanded {} Try.checked os 10 .any (Rows.skewTightsSpec.pre6 enc Try.prog Try.f10 Rows.skewTightsRow.domain false) (Rows.skewTightsSpec.post enc Try.prog Try.f10 false true false false) := by
 refine returnsInHanded_of_change_sized (C := Try.checked) own' started (by kernel_rfl) Try.func10
  (ChangeSpec.witness6 (enc := enc) (C := Try.checked) false ⟨#[], #[.agg #[.slice none 0 0, .slice none 0 0], .slice none 0 0], []⟩ 8 (by kernel_rfl) (by kernel_rfl) (by kernel_rfl) (by kernel_rfl)) ?_
 intro W base args ds gs before hval0 hW hcnd hsz0 _
 have hval : ∀ (j : Nat) t v, Try.f10.params[j]? = some t → args[j]? = some v → Value.okWide Try.prog W .any base t v := hval0
 have hW' := hW
 obtain ⟨p, q, hA0, hV, rfl, hfz, hnd⟩ := hW
 have hA : DataW.TrodAll enc Try.prog W 0 (fun _ => true) true Try.f10.params.toList args.toList ds p := hA0
 rw [Try.params10] at hA hval
 obtain ⟨v0, vs0, d0, ds0, p0, q0, hargs, rfl, rfl, h0, r0⟩ := trodAll_cons hA
 obtain ⟨v1, vs1, d1, ds1, p1, q1, rfl, rfl, rfl, h1, r1⟩ := trodAll_cons r0
 obtain ⟨rfl, rfl, rfl⟩ := trodAll_nil r1
 obtain rfl : args = #[v0, v1] := by cases args; simp_all
 obtain ⟨rfl, rfl⟩ := trodVars_none hV
 have k0 := h0
 have lt0 : ∀ x ∈ p0, x.block < W.heap.size := by obtain ⟨m, hm⟩ := k0; exact DataW.trod_lt m _ _ _ hm
 obtain ⟨s0, rfl, _⟩ := okWide_struct Try.underlying39 (hval 0 39 v0 rfl rfl)
 obtain ⟨f0, hf0⟩ := h0
 obtain ⟨A0, c0, l0, B0, e0, g0, hs0, hc0, hC0, ok0, hd0, hD0, okg0⟩ := hist_of hf0
 obtain rfl : s0 = #[.slice A0 l0.length c0, .slice B0 g0.length e0] := by
  have : s0.toList = [.slice A0 l0.length c0, .slice B0 g0.length e0] := by simpa [Value.cells] using hs0
  exact Array.toList_inj.mp (by rw [this])
 obtain ⟨sz0a, sz0b⟩ := hist_sized hsz0 (j := 0) rfl rfl hf0
 have k1 := h1
 have lt1 : ∀ x ∈ p1, x.block < W.heap.size := by obtain ⟨m, hm⟩ := k1; exact DataW.trod_lt m _ _ _ hm
 obtain ⟨A1, n1, c1, rfl⟩ := okWide_slice Try.underlying40 (hval 1 40 v1 rfl rfl)
 obtain ⟨f1, hf1⟩ := h1
 obtain ⟨A1', c1', l1, hcs1, hc1, hC1, ok1⟩ := Rd.slice (d := (Kd.int .i64)) Try.underlying40 (by kernel_rfl) (Rd.int W Try.underlying3) hf1
 simp only [Value.cells] at hcs1
 obtain ⟨rfl, rfl, rfl⟩ : A1 = A1' ∧ n1 = l1.length ∧ c1 = c1' := by simpa using hcs1
 have sz1 := sized_ints hsz0 (j := 1) rfl rfl Try.underlying40 Try.underlying3 (by kernel_rfl) (B := 8) (by kernel_rfl) k1
 clear hA0 hval0 hsz0
 have hk := skewTights_pure l0 g0 l1 ok0 okg0 sz0a sz0b ok1 sz1
 refine (tightsW.calls _ _ l0 _ _ g0 _ _ l1 true W hC0 hc0 hD0 hd0 hC1 hc1 hk).mono fun e' W' ⟨he, bel⟩ => ?_
 subst he
 exact ⟨_, rfl, _, _, _, [], _, [], hW', trodAll_mk1 (shut_bool Try.underlying4 _), (trodAll_cons_mk (Below.trod laidOut' (by kernel_rfl) (of_decide_eq_true (by kernel_rfl)) k0 bel lt0) (trodAll_cons_mk (Below.trod laidOut' (by kernel_rfl) (of_decide_eq_true (by kernel_rfl)) k1 bel lt1) trodAll_mk0)), rfl, bel.frame _, fun h => by cases h⟩
end Go.Proofs.Ytbffhblebigcfaa.Sk
namespace Go.Proofs.Ytbffhblebigcfaa
theorem skewTights_holds : Rows.SkewTightsSaid :=
 OpenClaim.holds_of_wide 10 Try.f10 rfl rfl rfl rfl rfl rfl rfl ⟨rfl, rfl, rfl, rfl, rfl⟩ rfl rfl rfl rfl rfl (by kernel_rfl) Try.func10 (by kernel_rfl)
  (of_decide_eq_true (by kernel_rfl)) (by unfold Func.isWrapper; first | (rw [if_pos (by decide +kernel)]; kernel_rfl) | (rw [if_neg (by decide +kernel)]; exact ⟨rfl, rfl⟩))
  (fun os started H enc _ => Sk.skewTights_lifted os started H enc)
end Go.Proofs.Ytbffhblebigcfaa
