/- What is certain, the first order, and which orders can be, are as stated, for any history, two numbers, and list: the law SkewSures. -/
import Derived.Test.YtobcecgcegoooaaGreatCSuV0
import Derived.Test.YtobcecgcegoooaaGreatCSuV5
import Derived.Test.YtobcecgcegoooaaGreatCSuV8
namespace Go.Proofs.YtobcecgcegoooaaGreat.Sk
set_option linter.unusedVariables false
set_option linter.unusedSimpArgs false
set_option maxRecDepth 100000
open Go.RowKit Go.ChangeShapes Go.WideShapes Go.ChangeAt Go.Proofs.YtobcecgcegoooaaGreatW.PrintWords Go.Proofs.YtobcecgcegoooaaGreatW.PrintLast Go.Proofs.YtobcecgcegoooaaGreatW.PrintMore
theorem orderR_len (l : List S65) (g : List S82) : (orderR l g).1.length ≤ 1000 := by
 unfold orderR
 by_cases c : histB l g = true
 ·rw [if_pos c]
  by_cases d : (solveR l g).2 = true
  ·rw [if_pos d]; have h := (histIs l g).mp c; have := h.n; have e := ((isOrdB_iff _ _).mp (order_facts h d).1).length_eq; rw [nums_len] at e; show (orderL (sureB l g) l.length (nums l.length)).length ≤ 1000; omega
  ·rw [if_neg d]; simp
 ·rw [if_neg c]; simp
theorem skewSures_pure (l : List S65) (g : List S82) (x y : Int) (o : List Int) (ok : ∀ x ∈ l, ok65 x) (okg : ∀ x ∈ g, ok82 x) (wx : (Lit.int .i64 x).wf = true) (wy : (Lit.int .i64 y).wf = true) (oko : ∀ x ∈ o, (Lit.int .i64 x).wf = true) : ∃ k, lw_SkewSures.f k l g x y o = some true := by
 refine Ev.rounds ?_; refine Ev.congr (f := fun k => (rf_Sure.f k l g x y).bind fun bt421 => if ((sureQ l g x y).1 != bt421.1) = true then lw_SkewSures.j0 k o true l g else lw_SkewSures.j0 k o ((sureQ l g x y).2 != bt421.2) l g) (fun k => by unfold lw_SkewSures.f; rw [sure_skew_f, Option.bind_some]) ?_; refine Ev.bind (f := fun k bt421 => if ((sureQ l g x y).1 != bt421.1) = true then lw_SkewSures.j0 k o true l g else lw_SkewSures.j0 k o ((sureQ l g x y).2 != bt421.2) l g) (ev_Sure l g x y) ?_; refine Ev.congr (f := fun k => lw_SkewSures.j0 k o false l g) (fun k => by rw [if_neg (by simp), show ((sureQ l g x y).2 != (sureQ l g x y).2) = false by simp]) ?_; refine Ev.step (f := fun k => (rf_Order.f k l g).bind fun bt427 => (rf_Can.f k l g o).bind fun bt433 => if (orderR l g).2 = bt427.2 then (rf_Same.f k (orderR l g).1 bt427.1).bind fun t435 => (if t435 = true then (if ((canQ l g o).1 == bt433.1) = true then (if (canQ l g o).2 = bt433.2 then ((lw_known.f).bind fun t436 => some t436) else some false) else some false) else some false) else some false) (fun k => by simp only [lw_SkewSures.j0]; rw [if_neg (by simp)]; rfl) ?_; refine Ev.bind (f := fun k bt427 => (rf_Can.f k l g o).bind fun bt433 => if (orderR l g).2 = bt427.2 then (rf_Same.f k (orderR l g).1 bt427.1).bind fun t435 => (if t435 = true then (if ((canQ l g o).1 == bt433.1) = true then (if (canQ l g o).2 = bt433.2 then ((lw_known.f).bind fun t436 => some t436) else some false) else some false) else some false) else some false) (ev_Order l g) ?_; refine Ev.bind (f := fun k bt433 => if (orderR l g).2 = (orderR l g).2 then (rf_Same.f k (orderR l g).1 (orderR l g).1).bind fun t435 => (if t435 = true then (if ((canQ l g o).1 == bt433.1) = true then (if (canQ l g o).2 = bt433.2 then ((lw_known.f).bind fun t436 => some t436) else some false) else some false) else some false) else some false) (ev_Can l g o) ?_
 refine Ev.congr (f := fun k => (rf_Same.f k (orderR l g).1 (orderR l g).1).bind fun t435 => if t435 = true then some true else some false) (fun k => by
  rw [if_pos rfl, if_pos rfl, if_pos (by simp)]
  rfl) ?_
 exact Ev.bind (f := fun _ t435 => if t435 = true then some true else some false) (ev_SameIL _ (by have := orderR_len l g; omega)) (Ev.congr (f := fun _ => some true) (fun k => if_pos rfl) (Ev.now _))
theorem skewSures_lifted (os : Os) (started : os.Started) (H : Type) (enc : TypeId × Value → H) :
  ReturnsInHanded {} Tryz.checked os 3 .any (Rows.skewSuresSpec.pre6 enc Tryz.prog Tryz.f3 Rows.skewSuresRow.domain false) (Rows.skewSuresSpec.post enc Tryz.prog Tryz.f3 false true false false) := by
 refine returnsInHanded_of_change_sized (C := Tryz.checked) own' started (by kernel_rfl) Tryz.func3
  (ChangeSpec.witness6 (enc := enc) (C := Tryz.checked) false ⟨#[], #[.agg #[.slice none 0 0, .slice none 0 0], .int .i64 0, .int .i64 0, .slice none 0 0], []⟩ 8 (by kernel_rfl) (by kernel_rfl) (by kernel_rfl) (by kernel_rfl)) ?_
 intro W base args ds gs before hval0 hW hcnd hsz0 _; have hval : ∀ (j : Nat) t v, Tryz.f3.params[j]? = some t → args[j]? = some v → Value.okWide Tryz.prog W .any base t v := hval0; have hW' := hW; obtain ⟨p, q, hA0, hV, rfl, hfz, hnd⟩ := hW; have hA : DataW.TrodAll enc Tryz.prog W 0 (fun _ => true) true Tryz.f3.params.toList args.toList ds p := hA0; rw [Tryz.params3] at hA hval; obtain ⟨v0, vs0, d0, ds0, p0, q0, hargs, rfl, rfl, h0, r0⟩ := trodAll_cons hA; obtain ⟨v1, vs1, d1, ds1, p1, q1, rfl, rfl, rfl, h1, r1⟩ := trodAll_cons r0; obtain ⟨v2, vs2, d2, ds2, p2, q2, rfl, rfl, rfl, h2, r2⟩ := trodAll_cons r1; obtain ⟨v3, vs3, d3, ds3, p3, q3, rfl, rfl, rfl, h3, r3⟩ := trodAll_cons r2; obtain ⟨rfl, rfl, rfl⟩ := trodAll_nil r3
 obtain rfl : args = #[v0, v1, v2, v3] := by cases args; simp_all
 obtain ⟨rfl, rfl⟩ := trodVars_none hV; have k0 := h0
 have lt0 : ∀ x ∈ p0, x.block < W.heap.size := by obtain ⟨m, hm⟩ := k0; exact DataW.trod_lt m _ _ _ hm
 obtain ⟨s0, rfl, _⟩ := okWide_struct Tryz.underlying25 (hval 0 25 v0 rfl rfl); obtain ⟨f0, hf0⟩ := h0; obtain ⟨A0, c0, l0, B0, e0, g0, hs0, hc0, hC0, ok0, hd0, hD0, okg0⟩ := hist_of hf0
 obtain rfl : s0 = #[.slice A0 l0.length c0, .slice B0 g0.length e0] := by
  have : s0.toList = [.slice A0 l0.length c0, .slice B0 g0.length e0] := by simpa [Value.cells] using hs0
  exact Array.toList_inj.mp (by rw [this])
 have k1 := h1
 have lt1 : ∀ x ∈ p1, x.block < W.heap.size := by obtain ⟨m, hm⟩ := k1; exact DataW.trod_lt m _ _ _ hm
 obtain ⟨a1, rfl, rfl, rfl, w1⟩ := open_int Tryz.underlying3 (hval 1 3 v1 rfl rfl) h1; have k2 := h2
 have lt2 : ∀ x ∈ p2, x.block < W.heap.size := by obtain ⟨m, hm⟩ := k2; exact DataW.trod_lt m _ _ _ hm
 obtain ⟨a2, rfl, rfl, rfl, w2⟩ := open_int Tryz.underlying3 (hval 2 3 v2 rfl rfl) h2; have k3 := h3
 have lt3 : ∀ x ∈ p3, x.block < W.heap.size := by obtain ⟨m, hm⟩ := k3; exact DataW.trod_lt m _ _ _ hm
 obtain ⟨A3, n3, c3, rfl⟩ := okWide_slice Tryz.underlying26 (hval 3 26 v3 rfl rfl); obtain ⟨f3, hf3⟩ := h3; obtain ⟨A3', c3', l3, hcs3, hc3, hC3, ok3⟩ := Rd.slice (d := (Kd.int .i64)) Tryz.underlying26 (by kernel_rfl) (Rd.int W Tryz.underlying3) hf3; simp only [Value.cells] at hcs3
 obtain ⟨rfl, rfl, rfl⟩ : A3 = A3' ∧ n3 = l3.length ∧ c3 = c3' := by simpa using hcs3
 clear hA0 hval0 hsz0; obtain ⟨k, hk⟩ := skewSures_pure l0 g0 a1 a2 l3 ok0 okg0 w1 w2 ok3
 refine (lw_SkewSures.calls k _ _ l0 _ _ g0 a1 a2 _ _ l3 true W hC0 hc0 hD0 hd0 hC3 hc3 hk).mono fun e' W' ⟨he, bel⟩ => ?_
 subst he; exact ⟨_, rfl, _, _, _, [], _, [], hW', trodAll_mk1 (shut_bool Tryz.underlying4 _), (trodAll_cons_mk (Below.trod laidOut' (by kernel_rfl) (of_decide_eq_true (by kernel_rfl)) k0 bel lt0) (trodAll_cons_mk (Below.trod laidOut' (by kernel_rfl) (of_decide_eq_true (by kernel_rfl)) k1 bel lt1) (trodAll_cons_mk (Below.trod laidOut' (by kernel_rfl) (of_decide_eq_true (by kernel_rfl)) k2 bel lt2) (trodAll_cons_mk (Below.trod laidOut' (by kernel_rfl) (of_decide_eq_true (by kernel_rfl)) k3 bel lt3) trodAll_mk0)))), rfl, bel.frame _, fun h => by cases h⟩
end Go.Proofs.YtobcecgcegoooaaGreat.Sk
namespace Go.Proofs.YtobcecgcegoooaaGreat
theorem skewSures_holds : Rows.SkewSuresSaid :=
 OpenClaim.holds_of_wide 3 Tryz.f3 rfl rfl rfl rfl rfl rfl rfl ⟨rfl, rfl, rfl, rfl, rfl⟩ rfl rfl rfl rfl rfl (by kernel_rfl) Tryz.func3 (by kernel_rfl)
  (of_decide_eq_true (by kernel_rfl)) (by unfold Func.isWrapper; first | (rw [if_pos (by decide +kernel)]; kernel_rfl) | (rw [if_neg (by decide +kernel)]; exact ⟨rfl, rfl⟩))
  (fun os started H enc _ => Sk.skewSures_lifted os started H enc)
end Go.Proofs.YtobcecgcegoooaaGreat
