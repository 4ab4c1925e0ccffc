/- Tight spans, and which times fit: told two ways the same. -/
import Derived.Test.YtbffhblebigcfaaCPrLHistB
import Derived.Test.YtbffhblebigcfaaCPrGTightS
import Derived.Test.YtbffhblebigcfaaCPrS0
namespace Go.Proofs.Ytbffhblebigcfaa.Sk
open Go.RowKit Go.Proofs.YtbffhblebigcfaaW.PrintWords Go.Proofs.YtbffhblebigcfaaW.PrintLast Go.Proofs.YtbffhblebigcfaaW.PrintMore
set_option linter.unusedVariables false
set_option linter.unusedSimpArgs false
theorem kN_fin {M : Int} {B : Int → Int → Int} (h : BInv M B) (h0 : 0 ≤ M) (hM : M ≤ 134217728) : ∀ n : Nat, n ≤ 11 → ∀ C, kN B n = some C → ∀ i j, In i → In j → B i j ≠ FREE → C i j ≠ FREE
 | 0, _, C, hC, i, j, _, _, hf => by
  injection hC with hC
  rw [← hC]; exact hf
 | n + 1, hn, C, hC, i, j, hi, hj, hf => by
  have hkn : (kN B n).bind (fun C => iN n C 11) = some C := hC
  obtain ⟨D, hD, hC'⟩ := Option.bind_eq_some_iff.mp hkn
  have ih := kN_fin h h0 hM n (by omega) D hD i j hi hj hf
  obtain ⟨a1, _, _⟩ := (kN_spec h h0 hM n (by omega)).1 D hD
  have hnI : In (n : Int) := ⟨by omega, by omega⟩
  have hMn : pow2 n * M ≤ 274877906944 := by
   have : n = 0 ∨ n = 1 ∨ n = 2 ∨ n = 3 ∨ n = 4 ∨ n = 5 ∨ n = 6 ∨ n = 7 ∨ n = 8 ∨ n = 9 ∨ n = 10 := by omega
   rcases this with e | e | e | e | e | e | e | e | e | e | e <;> subst e <;> simp only [pow2] <;> omega
  have hp := iN_nonneg a1 hMn hnI 11 C (Nat.le_refl _) hC'
  have e := iN_eq a1 hMn hnI 11 (Nat.le_refl _) hp
  rw [hC'] at e
  injection e with e
  have e2 : C i j = ph n D i j := by
   rw [e]; show (if _ then _ else _) = _
   rw [if_pos ⟨⟨hi.1, by have := hi.2; omega⟩, hj⟩]
  rw [e2]
  exact fun hh => ih ((ph_free a1 hMn hnI hi hj).mp hh).1
theorem say_fin {B : Int → Int → Int} {f : S153} (hf : FactOk f) (i j : Int) (h : B i j ≠ FREE) : sayF B f i j ≠ FREE := by
 have hlo := hf.lo
 have hhi := hf.hi
 rw [say_at hf]
 split
 ·rw [mn_eq]; unfold FREE; omega
 ·split
  ·rw [mn_eq]; unfold FREE; omega
  ·exact h
theorem say_fin2 {B : Int → Int → Int} {f : S153} (hf : FactOk f) : sayF B f f.f0 f.f1 ≠ FREE ∧ sayF B f f.f1 f.f0 ≠ FREE := by
 have hlo := hf.lo
 have hhi := hf.hi
 have hne := hf.ne
 constructor
 ·rw [say_at hf, if_neg (by omega), if_pos ⟨rfl, rfl⟩, mn_eq]; unfold FREE; omega
 ·rw [say_at hf, if_pos ⟨rfl, rfl⟩, mn_eq]; unfold FREE; omega
theorem fold_fin (om : Int → Bool) : ∀ (L : List (Int × S153)) (B : Int → Int → Int), (∀ x ∈ L, FactOk x.2) → (∀ i j, B i j ≠ FREE → (L.foldl (fun B x => if om x.1 = true then B else sayF B x.2) B) i j ≠ FREE) ∧
  ∀ x ∈ L, om x.1 = false → (L.foldl (fun B x => if om x.1 = true then B else sayF B x.2) B) x.2.f0 x.2.f1 ≠ FREE ∧ (L.foldl (fun B x => if om x.1 = true then B else sayF B x.2) B) x.2.f1 x.2.f0 ≠ FREE
 | [], B, _ => ⟨fun i j h => h, fun x hx => by cases hx⟩
 | x :: L, B, h => by
  have hx := h x List.mem_cons_self
  have hr := fun y hy => h y (List.mem_cons_of_mem x hy)
  rw [List.foldl_cons]
  obtain ⟨a, b⟩ := fold_fin om L (if om x.1 = true then B else sayF B x.2) hr
  refine ⟨fun i j hf => a i j ?_, fun y hy ho => ?_⟩
  ·split
   ·exact hf
   ·exact say_fin hx i j hf
  ·rcases List.mem_cons.mp hy with rfl | hy
   ·have e : (if om y.1 = true then B else sayF B y.2) = sayF B y.2 := if_neg (by rw [ho]; simp)
    rw [e] at a ⊢
    have := say_fin2 (B := B) hx
    exact ⟨a _ _ this.1, a _ _ this.2⟩
   ·exact b y hy ho
theorem tight_spans {evs : List S27} {gaps : List S86} (h : HistIs evs gaps) {C : Int → Int → Int} (hC : tightenF (bindP (fun _ => false) (saidL evs gaps)) = some C) {l : List S27} (hl : Tightest evs gaps l) : tspans C evs.length = l := by
 have hn := h.n
 obtain ⟨b1, b2⟩ := bind_spec (fun _ => false) (saidL evs gaps) h.facts
 obtain ⟨c1, c2, c3⟩ := tighten_some b1 hC
 have i10 : In 10 := ⟨by omega, by omega⟩
 have sat : ∀ t, Sat C t → Fit evs gaps fun j => t j - t 10 := fun t ht => (keeps_fit h t).mp fun x hx => (b2 t).mp ((c2 t).mp ht) x hx rfl
 have unsat : ∀ t, Fit evs gaps t → ∃ t', Sat C t' ∧ t' 10 = 0 ∧ ∀ j : Int, j < evs.length → t' j = t j := fun t ht => by
  refine ⟨fun j => if j = 10 then 0 else t j, (c2 _).mpr ((b2 _).mpr fun x hx _ => (keeps_fit h _).mpr ?_ x hx), if_pos rfl, fun j hj => if_neg (by omega)⟩
  have e : ∀ j : Int, j < evs.length → (if j = 10 then 0 else t j) - (if (10 : Int) = 10 then 0 else t 10) = t j := fun j hj => by
   rw [if_neg (by omega), if_pos rfl]; omega
  refine ⟨fun g hg => ?_, fun j h0 h1 => ?_⟩
  ·have hi := h.gap g hg
   have := ht.1 g hg
   unfold GapSat at this ⊢
   show g.f2 ≤ ((if g.f1 = 10 then 0 else t g.f1) - (if (10 : Int) = 10 then 0 else t 10)) - ((if g.f0 = 10 then 0 else t g.f0) - (if (10 : Int) = 10 then 0 else t 10)) ∧ ((if g.f1 = 10 then 0 else t g.f1) - (if (10 : Int) = 10 then 0 else t 10)) - ((if g.f0 = 10 then 0 else t g.f0) - (if (10 : Int) = 10 then 0 else t 10)) ≤ g.f3
   rw [e _ hi.a1, e _ hi.b1]
   exact this
  ·show _ ≤ (if j = 10 then 0 else t j) - (if (10 : Int) = 10 then 0 else t 10) ∧ (if j = 10 then 0 else t j) - (if (10 : Int) = 10 then 0 else t 10) ≤ _
   rw [e j h1]; exact ht.2 j h0 h1
 have fin : ∀ j : Nat, j < evs.length → C 10 j ≠ FREE ∧ C j 10 ≠ FREE := fun j hj => by
  have := (fold_fin (fun _ => false) (saidL evs gaps) (fillN 11) h.facts).2 _ (mem_said1 evs gaps j hj) rfl
  have jI : In (j : Int) := ⟨by omega, by omega⟩
  exact ⟨kN_fin b1 (by omega) (by omega) 11 (Nat.le_refl _) C hC 10 j i10 jI this.1, kN_fin b1 (by omega) (by omega) 11 (Nat.le_refl _) C hC j 10 jI i10 this.2⟩
 apply List.ext_getElem
 ·unfold tspans; rw [List.length_map, List.length_range, hl.len]
 ·intro j h1 h2
  have hj : j < evs.length := by unfold tspans at h1; simpa using h1
  have e1 : (tspans C evs.length)[j] = tspan C j := by simp [tspans]
  have e2 : l[j] = rd_T27 l (j : Int) := by simp [rd_T27, List.getD_eq_getElem?_getD, h2]
  rw [e1, e2]
  have jI : In (j : Int) := ⟨by omega, by omega⟩
  obtain ⟨f1, f2⟩ := fin j hj
  have bd1 := (c1.bd 10 j i10 jI).resolve_left f1
  have bd2 := (c1.bd j 10 jI i10).resolve_left f2
  obtain ⟨t, t1, t2, t3⟩ := clo_last c1 c3 i10
  obtain ⟨u, u1, u2, u3⟩ := clo_first c1 c3 i10
  have A1 := (hl.all _ (sat t t1) (j : Int) (by omega) (by omega)).2
  have A2 := (hl.all _ (sat u u1) (j : Int) (by omega) (by omega)).1
  have A1 : t j - t 10 ≤ (rd_T27 l (j : Int)).f1 := A1
  have A2 : (rd_T27 l (j : Int)).f0 ≤ u j - u 10 := A2
  rw [t2, t3 j jI f1] at A1
  rw [u2, u3 j jI f2] at A2
  obtain ⟨v, v1, v2, v3⟩ := unsat _ hl.last
  obtain ⟨x, x1, x2, x3⟩ := unsat _ hl.first
  have B1 := v1 10 j i10 jI f1
  have B2 := x1 j 10 jI i10 f2
  rw [v2, v3 j (by omega)] at B1
  rw [x2, x3 j (by omega)] at B2
  have w1 : wrap64 (-(C j 10)) = -(C j 10) := w64_mid (by omega) (by omega)
  unfold tspan
  rw [w1]
  have p1 : -(C j 10) = (rd_T27 l (j : Int)).f0 := by omega
  have p2 : C 10 j = (rd_T27 l (j : Int)).f1 := by omega
  rw [p1, p2]
def tightA (evs : List S27) (gaps : List S86) : List S27 × Int :=
 if histB evs gaps = true then if (solveR evs gaps).2 = true then ((solveR evs gaps).1, 0) else ([], 5) else ([], 2)
theorem tightR_no {evs : List S27} {gaps : List S86} (h : ¬ histB evs gaps = true) : tightR evs gaps = some (none, 2) := by
 unfold tightR
 rw [isHist_1000, Option.bind_some, if_neg h]
theorem tight_skew (evs : List S27) (gaps : List S86) (hn : evs.length ≤ 10) : skew_Tight.f evs gaps = some (tightA evs gaps) := by
 unfold skew_Tight.f tightA
 by_cases c : histB evs gaps = true
 ·have h := (histIs evs gaps).mp c
  have ht := tighten_solve h
  unfold tightR
  rw [isHist_1000, Option.bind_some, if_pos c, if_pos h.ok, if_pos c]
  cases hC : tightenF (bindP (fun _ => false) (saidL evs gaps)) with
  | none =>
   rw [hC] at ht
   rw [if_neg (by rw [← ht]; simp), Option.bind_some, if_pos hn]
  | some C =>
   rw [hC] at ht
   have ht : (solveR evs gaps).2 = true := ht.symm
   have hl := (solve_spec evs gaps h.gap).2 (solveR evs gaps).1 (by rw [← ht])
   rw [if_pos ht, Option.bind_some, if_pos hn]
   show some (tspans C evs.length, (0 : Int)) = _
   rw [tight_spans h hC hl]
 ·rw [tightR_no c, Option.bind_some, if_pos hn, if_neg c]
end Go.Proofs.Ytbffhblebigcfaa.Sk
