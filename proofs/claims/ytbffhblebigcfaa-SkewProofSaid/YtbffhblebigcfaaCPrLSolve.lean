/- The reference's tight spans: the least and the greatest of all times that fit. -/
import Derived.Test.YtbffhblebigcfaaCPrLLeast
import Derived.Test.YtbffhblebigcfaaCPrS0
namespace Go.Proofs.Ytbffhblebigcfaa.Sk
open Go.RowKit Go.Proofs.YtbffhblebigcfaaW.PrintWords Go.Proofs.YtbffhblebigcfaaW.PrintLast Go.Proofs.YtbffhblebigcfaaW.PrintMore
set_option linter.unusedVariables false
set_option linter.unusedSimpArgs false
theorem drop86 (l : List S86) (i : Nat) (h : i < l.length) : l.drop i = rd_T86 l (i : Int) :: l.drop (i + 1) := by
 have er : rd_T86 l (i : Int) = l[i] := by simp [rd_T86, rdOf, List.getD_eq_getElem?_getD, h]
 rw [List.drop_eq_getElem_cons h, er]
theorem mem86 (l : List S86) (i : Nat) (h : i < l.length) : rd_T86 l (i : Int) ∈ l := by
 have er : rd_T86 l (i : Int) = l[i] := by simp [rd_T86, rdOf, List.getD_eq_getElem?_getD, h]
 rw [er]; exact List.getElem_mem h
theorem w64_mid {z : Int} (h : -4000000000000000000 ≤ z) (h' : z ≤ 4000000000000000000) : wrap64 z = z := by unfold wrap64; omega
def turn86 (g : S86) : S86 := ⟨g.f1, g.f0, g.f2, g.f3⟩
theorem turn_in {n : Nat} {g : S86} (h : GapIn n g) : GapIn n (turn86 g) := ⟨h.b0, h.b1, h.a0, h.a1, fun e => h.ne e.symm, h.le, h.lo, h.hi⟩
theorem turn_sat (g : S86) (t : Int → Int) : GapSat (turn86 g) t ↔ GapSat g (fun j => -(t j)) := by
 show (g.f2 ≤ t g.f0 - t g.f1 ∧ t g.f0 - t g.f1 ≤ g.f3) ↔ (g.f2 ≤ -(t g.f1) - -(t g.f0) ∧ -(t g.f1) - -(t g.f0) ≤ g.f3)
 constructor <;> rintro ⟨a, b⟩ <;> exact ⟨by omega, by omega⟩
def lows (evs : List S27) : List Int := evs.map (·.f0)
def highs (evs : List S27) : List Int := evs.map fun s => -s.f1
def spanAt (a b : List Int) (j : Nat) : S27 := ⟨rd a (j : Int), -(rd b (j : Int))⟩
def spansOf (a b : List Int) (n : Nat) : List S27 := (List.range n).map (spanAt a b)
def okAt (evs : List S27) (a : List Int) (j : Nat) : Bool := decide (rd a (j : Int) ≤ (rd_T27 evs (j : Int)).f1)
def solveR (evs : List S27) (gaps : List S86) : List S27 × Bool :=
 if (leastR gaps (lows evs)).2 = true ∧ (leastR (gaps.map turn86) (highs evs)).2 = true then
  if (List.range evs.length).all (okAt evs (leastR gaps (lows evs)).1) = true then (spansOf (leastR gaps (lows evs)).1 (leastR (gaps.map turn86) (highs evs)).1 evs.length, true) else ([], false)
 else ([], false)
theorem rd_map27 (f : S27 → Int) (evs : List S27) (j : Int) (h0 : 0 ≤ j) (h1 : j < evs.length) : rd (evs.map f) j = f (rd_T27 evs j) := by
 unfold rd rd_T27
 have : j.toNat < evs.length := by omega
 simp [List.getD_eq_getElem?_getD, this]
def Fit (evs : List S27) (gaps : List S86) (t : Int → Int) : Prop := (∀ g ∈ gaps, GapSat g t) ∧ ∀ j : Int, 0 ≤ j → j < evs.length → (rd_T27 evs j).f0 ≤ t j ∧ t j ≤ (rd_T27 evs j).f1
theorem lows_len (evs : List S27) : (lows evs).length = evs.length := List.length_map ..
theorem highs_len (evs : List S27) : (highs evs).length = evs.length := List.length_map ..
theorem lows_at (evs : List S27) (j : Int) (h0 : 0 ≤ j) (h1 : j < evs.length) : rd (lows evs) j = (rd_T27 evs j).f0 := rd_map27 _ evs j h0 h1
theorem highs_at (evs : List S27) (j : Int) (h0 : 0 ≤ j) (h1 : j < evs.length) : rd (highs evs) j = -(rd_T27 evs j).f1 := rd_map27 _ evs j h0 h1
theorem rd_spans (a b : List Int) (n : Nat) (j : Int) (h0 : 0 ≤ j) (h1 : j < n) : rd_T27 (spansOf a b n) j = ⟨rd a j, -(rd b j)⟩ := by
 obtain ⟨m, rfl⟩ : ∃ m : Nat, j = m := ⟨j.toNat, by omega⟩
 have : m < n := by omega
 simp [rd_T27, spansOf, List.getD_eq_getElem?_getD, this, spanAt]
structure Tightest (evs : List S27) (gaps : List S86) (l : List S27) : Prop where
 len : l.length = evs.length
 all : ∀ t, Fit evs gaps t → ∀ j : Int, 0 ≤ j → j < evs.length → (rd_T27 l j).f0 ≤ t j ∧ t j ≤ (rd_T27 l j).f1
 first : Fit evs gaps fun j => (rd_T27 l j).f0
 last : Fit evs gaps fun j => (rd_T27 l j).f1
theorem solve_spec (evs : List S27) (gaps : List S86) (hg : ∀ g ∈ gaps, GapIn evs.length g) :
  ((solveR evs gaps).2 = true ↔ ∃ t, Fit evs gaps t) ∧ ∀ l, solveR evs gaps = (l, true) → Tightest evs gaps l := by
 obtain ⟨a1, a2⟩ := least_spec (gaps := gaps) (lows evs) (by rw [lows_len]; exact hg)
 obtain ⟨b1, b2⟩ := least_spec (gaps := gaps.map turn86) (highs evs) (by
  rw [highs_len]; intro g h
  obtain ⟨g', h', rfl⟩ := List.mem_map.mp h
  exact turn_in (hg g' h'))
 rw [lows_len] at a1 a2
 rw [highs_len] at b1 b2
 have turnS : ∀ t : Int → Int, (∀ g ∈ gaps.map turn86, GapSat g t) ↔ ∀ g ∈ gaps, GapSat g (fun j => -(t j)) := fun t => by
  constructor
  ·intro h g hg'
   exact (turn_sat g t).mp (h _ (List.mem_map.mpr ⟨g, hg', rfl⟩))
  ·intro h g hg'
   obtain ⟨g', h', rfl⟩ := List.mem_map.mp hg'
   exact (turn_sat g' t).mpr (h g' h')
 have fitA : ∀ t, Fit evs gaps t → (∀ g ∈ gaps, GapSat g t) ∧ LeAt evs.length (lows evs) t := fun t h => ⟨h.1, fun j x y => by rw [lows_at evs j x y]; exact (h.2 j x y).1⟩
 have fitB : ∀ t, Fit evs gaps t → (∀ g ∈ gaps.map turn86, GapSat g fun j => -(t j)) ∧ LeAt evs.length (highs evs) fun j => -(t j) := fun t h => by
  refine ⟨(turnS _).mpr fun g hg' => ?_, fun j x y => ?_⟩
  ·have : (fun j => - -(t j)) = t := by funext j; omega
   rw [this]; exact h.1 g hg'
  ·rw [highs_at evs j x y]
   have := (h.2 j x y).2
   show -(rd_T27 evs j).f1 ≤ -(t j)
   omega
 have pairs : ∀ x y, leastR gaps (lows evs) = (x, true) → leastR (gaps.map turn86) (highs evs) = (y, true) → (List.range evs.length).all (okAt evs x) = true → Fit evs gaps (rd x) ∧ Fit evs gaps (fun j => -(rd y j)) ∧ ∀ t, Fit evs gaps t → ∀ j : Int, 0 ≤ j → j < evs.length → rd x j ≤ t j ∧ t j ≤ -(rd y j) := by
  intro x y hx hy hok
  obtain ⟨x1, x2, x3, x4⟩ := a1 x hx
  obtain ⟨y1, y2, y3, y4⟩ := b1 y hy
  have okA : ∀ j : Int, 0 ≤ j → j < evs.length → rd x j ≤ (rd_T27 evs j).f1 := fun j p q => by
   have := List.all_eq_true.mp hok j.toNat (List.mem_range.mpr (by omega))
   unfold okAt at this
   have := of_decide_eq_true this
   rwa [show ((j.toNat : Nat) : Int) = j by omega] at this
  have F1 : Fit evs gaps (rd x) := ⟨x3, fun j p q => ⟨by have := x2 j p q; rw [lows_at evs j p q] at this; exact this, okA j p q⟩⟩
  have bnd : ∀ t, Fit evs gaps t → ∀ j : Int, 0 ≤ j → j < evs.length → rd x j ≤ t j ∧ t j ≤ -(rd y j) := fun t ht j p q => by
   obtain ⟨c1, c2⟩ := fitA t ht
   obtain ⟨d1, d2⟩ := fitB t ht
   have e1 := x4 t c1 c2 j p q
   have e2 : rd y j ≤ -(t j) := y4 _ d1 d2 j p q
   exact ⟨e1, by omega⟩
  refine ⟨F1, ⟨(turnS _).mp y3, fun j p q => ?_⟩, bnd⟩
  have e1 := (F1.2 j p q).1
  have e2 := (bnd _ F1 j p q).2
  have e3 := y2 j p q
  rw [highs_at evs j p q] at e3
  show (rd_T27 evs j).f0 ≤ -(rd y j) ∧ -(rd y j) ≤ (rd_T27 evs j).f1
  exact ⟨by omega, by omega⟩
 unfold solveR
 by_cases c : (leastR gaps (lows evs)).2 = true ∧ (leastR (gaps.map turn86) (highs evs)).2 = true
 ·rw [if_pos c]
  have hx : leastR gaps (lows evs) = ((leastR gaps (lows evs)).1, true) := by rw [← c.1]
  have hy : leastR (gaps.map turn86) (highs evs) = ((leastR (gaps.map turn86) (highs evs)).1, true) := by rw [← c.2]
  by_cases hok : (List.range evs.length).all (okAt evs (leastR gaps (lows evs)).1) = true
  ·rw [if_pos hok]
   obtain ⟨F1, F2, F3⟩ := pairs _ _ hx hy hok
   refine ⟨⟨fun _ => ⟨_, F1⟩, fun _ => rfl⟩, fun l hl => ?_⟩
   injection hl with hl _
   subst hl
   have ext : ∀ (f g : Int → Int), (∀ j : Int, 0 ≤ j → j < evs.length → f j = g j) → Fit evs gaps f → Fit evs gaps g := fun f g e h => ⟨fun k hk => by
    have hs := h.1 k hk
    have hi := hg k hk
    unfold GapSat at hs ⊢
    rw [← e _ hi.a0 hi.a1, ← e _ hi.b0 hi.b1]; exact hs, fun j p q => by rw [← e j p q]; exact h.2 j p q⟩
   refine ⟨by unfold spansOf; rw [List.length_map, List.length_range], fun t ht j p q => ?_, ext _ _ (fun j p q => ?_) F1, ext _ _ (fun j p q => ?_) F2⟩
   ·rw [rd_spans _ _ _ j p q]; exact F3 t ht j p q
   ·rw [rd_spans _ _ _ j p q]
   ·rw [rd_spans _ _ _ j p q]
  ·rw [if_neg hok]
   refine ⟨⟨fun h => (by cases h), fun ⟨t, ht⟩ => ?_⟩, fun l hl => (by cases hl)⟩
   exfalso
   apply hok
   rw [List.all_eq_true]
   intro m hm
   have hm := List.mem_range.mp hm
   obtain ⟨x1, x2, x3, x4⟩ := a1 _ hx
   obtain ⟨c1, c2⟩ := fitA t ht
   have := x4 t c1 c2 (m : Int) (by omega) (by omega)
   have := (ht.2 (m : Int) (by omega) (by omega)).2
   exact decide_eq_true (by omega)
 ·rw [if_neg c]
  refine ⟨⟨fun h => (by cases h), fun ⟨t, ht⟩ => ?_⟩, fun l hl => (by cases hl)⟩
  exact absurd ⟨a2.mpr ⟨t, fitA t ht⟩, b2.mpr ⟨_, fitB t ht⟩⟩ c
end Go.Proofs.Ytbffhblebigcfaa.Sk
