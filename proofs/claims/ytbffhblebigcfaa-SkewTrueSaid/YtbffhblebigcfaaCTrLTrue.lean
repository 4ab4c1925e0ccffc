/- Tight spans: what is so of times in them. -/
import Derived.Test.YtbffhblebigcfaaCTrLTight
import Derived.Test.YtbffhblebigcfaaCTrLFits
namespace Go.Proofs.Ytbffhblebigcfaa.Sk
open Go.RowKit Go.Proofs.YtbffhblebigcfaaW.PrintWords Go.Proofs.YtbffhblebigcfaaW.PrintLast Go.Proofs.YtbffhblebigcfaaW.PrintMore
set_option linter.unusedVariables false
set_option linter.unusedSimpArgs false
theorem fits_iff {evs : List S27} {gaps : List S86} (h : HistIs evs gaps) (ts : List Int) : fitsB evs gaps ts = true ↔ Fit evs gaps (rd ts) := by
 have key : (∀ j : Int, 0 ≤ j → j < evs.length → (rd_T27 evs j).f0 ≤ rd ts j ∧ rd ts j ≤ (rd_T27 evs j).f1) → ∀ g ∈ gaps, wrap64 (rd ts g.f1 - rd ts g.f0) = rd ts g.f1 - rd ts g.f0 := fun hs g hg => by
  have hi := h.gap g hg
  have a := hs g.f0 hi.a0 hi.a1
  have b := hs g.f1 hi.b0 hi.b1
  have c := h.evAt g.f0 hi.a0 hi.a1
  have d := h.evAt g.f1 hi.b0 hi.b1
  exact w64_mid (by omega) (by omega)
 have spans : (List.range evs.length).all (fitE evs ts) = true ↔ ∀ j : Int, 0 ≤ j → j < evs.length → (rd_T27 evs j).f0 ≤ rd ts j ∧ rd ts j ≤ (rd_T27 evs j).f1 := by
  rw [List.all_eq_true]
  constructor
  ·intro hh j j0 j1
   have := of_decide_eq_true (hh j.toNat (List.mem_range.mpr (by omega)))
   rwa [show ((j.toNat : Nat) : Int) = j by omega] at this
  ·intro hh m hm
   have := List.mem_range.mp hm
   exact decide_eq_true (hh m (by omega) (by omega))
 unfold fitsB
 rw [Bool.and_eq_true_iff, spans]
 constructor
 ·rintro ⟨hs, hg⟩
  refine ⟨fun g hgm => ?_, hs⟩
  have := of_decide_eq_true (List.all_eq_true.mp hg g hgm)
  rw [key hs g hgm] at this
  exact this
 ·rintro ⟨hg, hs⟩
  refine ⟨hs, List.all_eq_true.mpr fun g hgm => decide_eq_true ?_⟩
  rw [key hs g hgm]
  exact hg g hgm
theorem fitsR_ok {evs : List S27} {gaps : List S86} (h : HistIs evs gaps) (ts : List Int) (hl : ts.length = evs.length) : fitsR evs gaps ts = (fitsB evs gaps ts, 0) := by
 unfold fitsR
 rw [if_pos ((histIs _ _).mpr h), if_pos hl]
theorem tight_good {evs : List S27} {gaps : List S86} (h : HistIs evs gaps) {l : List S27} (hl : Tightest evs gaps l) (j : Int) (h0 : 0 ≤ j) (h1 : j < evs.length) : (rd_T27 l j).f0 ≤ (rd_T27 l j).f1 ∧ (rd_T27 evs j).f0 ≤ (rd_T27 l j).f0 ∧ (rd_T27 l j).f1 ≤ (rd_T27 evs j).f1 :=
 ⟨(hl.all _ hl.first j h0 h1).2, (hl.first.2 j h0 h1).1, (hl.last.2 j h0 h1).2⟩
theorem tight_goods {evs : List S27} {gaps : List S86} (h : HistIs evs gaps) {l : List S27} (hl : Tightest evs gaps l) : (decide (l.length ≤ 10) && l.all good27) = true := by
 have hn := h.n
 have hll := hl.len
 rw [decide_eq_true (by omega), Bool.true_and, List.all_eq_true]
 intro s hs
 obtain ⟨j, hj, rfl⟩ := List.mem_iff_getElem.mp hs
 have e : rd_T27 l (j : Int) = l[j] := by simp [rd_T27, List.getD_eq_getElem?_getD, hj]
 obtain ⟨a, b, c⟩ := tight_good h hl (j : Int) (by omega) (by omega)
 have d := h.evAt (j : Int) (by omega) (by omega)
 rw [e] at a b c
 unfold good27
 simp only [Bool.and_eq_true, decide_eq_true_eq]
 exact ⟨a, by omega, by omega⟩
theorem rd_set27 (l : List S27) (k : Nat) (j : Int) (v : S27) (hk : k < l.length) (hj : 0 ≤ j) : rd_T27 (l.set k v) j = if j = k then v else rd_T27 l j := by
 unfold rd_T27
 rw [List.getD_eq_getElem?_getD, List.getD_eq_getElem?_getD, List.getElem?_set]
 by_cases e : j = k
 ·subst e; rw [if_pos rfl, Int.toNat_natCast, if_pos rfl, if_pos hk]; rfl
 ·rw [if_neg (by omega), if_neg e]
structure HeldIs (evs : List S27) (gaps : List S86) (l : List S27) (n : Nat) (t : Int) (m : List S27) : Prop where
 val : tightA (evs.set n ⟨t, t⟩) gaps = (m, 0)
 len : m.length = evs.length
 inn : ∀ j : Int, 0 ≤ j → j < evs.length → (rd_T27 l j).f0 ≤ (rd_T27 m j).f0 ∧ (rd_T27 m j).f1 ≤ (rd_T27 l j).f1
 fit : Fit evs gaps fun j => (rd_T27 m j).f0
 at_n : (rd_T27 m n).f0 = t
theorem held_is {evs : List S27} {gaps : List S86} (h : HistIs evs gaps) {l : List S27} (hl : Tightest evs gaps l) (n : Nat) (hn : n < evs.length) (t : Int) (h0 : (rd_T27 l n).f0 ≤ t) (h1 : t ≤ (rd_T27 l n).f1) : ∃ m, HeldIs evs gaps l n t m := by
 have hn10 := h.n
 have rs := fun (j : Int) (hj : 0 ≤ j) => rd_set27 evs n j ⟨t, t⟩ hn hj
 obtain ⟨g1, g2, g3⟩ := tight_good h hl (n : Int) (by omega) (by omega)
 have ge := h.evAt (n : Int) (by omega) (by omega)
 have hp : HistIs (evs.set n ⟨t, t⟩) gaps := by
  refine ⟨by rw [List.length_set]; exact h.n, h.w, fun s hs => ?_, by rw [List.length_set]; exact h.gap⟩
  rcases List.mem_or_eq_of_mem_set hs with hs | rfl
  ·exact h.ev s hs
  ·exact ⟨Int.le_refl _, by show -1000000 ≤ t; omega, by show t ≤ 1000000; omega⟩
 have sub : ∀ x, Fit (evs.set n ⟨t, t⟩) gaps x → Fit evs gaps x := fun x hx => by
  refine ⟨hx.1, fun j j0 j1 => ?_⟩
  have := hx.2 j j0 (by rw [List.length_set]; exact j1)
  rw [rs j j0] at this
  by_cases e : j = n
  ·rw [if_pos e] at this
   subst e
   have a : t ≤ x n := this.1
   have b : x n ≤ t := this.2
   exact ⟨by omega, by omega⟩
  ·rw [if_neg e] at this; exact this
 have ex : ∃ x, Fit (evs.set n ⟨t, t⟩) gaps x := by
  refine ⟨fun j => min (rd_T27 l j).f1 ((rd_T27 l j).f0 + (t - (rd_T27 l n).f0)), fun g hg => ?_, fun j j0 j1 => ?_⟩
  ·have a := hl.first.1 g hg
   have b := hl.last.1 g hg
   obtain ⟨a1, a2⟩ := a
   obtain ⟨b1, b2⟩ := b
   have a1 : g.f2 ≤ (rd_T27 l g.f1).f0 - (rd_T27 l g.f0).f0 := a1
   have a2 : (rd_T27 l g.f1).f0 - (rd_T27 l g.f0).f0 ≤ g.f3 := a2
   have b1 : g.f2 ≤ (rd_T27 l g.f1).f1 - (rd_T27 l g.f0).f1 := b1
   have b2 : (rd_T27 l g.f1).f1 - (rd_T27 l g.f0).f1 ≤ g.f3 := b2
   show g.f2 ≤ min (rd_T27 l g.f1).f1 ((rd_T27 l g.f1).f0 + (t - (rd_T27 l n).f0)) - min (rd_T27 l g.f0).f1 ((rd_T27 l g.f0).f0 + (t - (rd_T27 l n).f0)) ∧ min (rd_T27 l g.f1).f1 ((rd_T27 l g.f1).f0 + (t - (rd_T27 l n).f0)) - min (rd_T27 l g.f0).f1 ((rd_T27 l g.f0).f0 + (t - (rd_T27 l n).f0)) ≤ g.f3
   omega
  ·rw [List.length_set] at j1
   rw [rs j j0]
   have a := hl.first.2 j j0 j1
   have b := hl.last.2 j j0 j1
   have c := (tight_good h hl j j0 j1).1
   have a : (rd_T27 evs j).f0 ≤ (rd_T27 l j).f0 ∧ (rd_T27 l j).f0 ≤ (rd_T27 evs j).f1 := a
   have b : (rd_T27 evs j).f0 ≤ (rd_T27 l j).f1 ∧ (rd_T27 l j).f1 ≤ (rd_T27 evs j).f1 := b
   by_cases e : j = n
   ·subst e
    rw [if_pos rfl]
    show t ≤ min (rd_T27 l n).f1 ((rd_T27 l n).f0 + (t - (rd_T27 l n).f0)) ∧ min (rd_T27 l n).f1 ((rd_T27 l n).f0 + (t - (rd_T27 l n).f0)) ≤ t
    omega
   ·rw [if_neg e]
    show (rd_T27 evs j).f0 ≤ min (rd_T27 l j).f1 ((rd_T27 l j).f0 + (t - (rd_T27 l n).f0)) ∧ min (rd_T27 l j).f1 ((rd_T27 l j).f0 + (t - (rd_T27 l n).f0)) ≤ (rd_T27 evs j).f1
    omega
 obtain ⟨s1, s2⟩ := solve_spec (evs.set n ⟨t, t⟩) gaps hp.gap
 have hs : (solveR (evs.set n ⟨t, t⟩) gaps).2 = true := s1.mpr ex
 have hm := s2 (solveR (evs.set n ⟨t, t⟩) gaps).1 (by rw [← hs])
 refine ⟨(solveR (evs.set n ⟨t, t⟩) gaps).1, ?_, ?_, fun j j0 j1 => ?_, sub _ hm.first, ?_⟩
 ·unfold tightA
  rw [if_pos ((histIs _ _).mpr hp), if_pos hs]
 ·rw [hm.len, List.length_set]
 ·have a := hl.all _ (sub _ hm.first) j j0 j1
  have b := hl.all _ (sub _ hm.last) j j0 j1
  exact ⟨a.1, b.2⟩
 ·have := hm.first.2 (n : Int) (by omega) (by rw [List.length_set]; omega)
  rw [rs n (by omega), if_pos rfl] at this
  have a : t ≤ (rd_T27 (solveR (evs.set n ⟨t, t⟩) gaps).1 n).f0 := this.1
  have b : (rd_T27 (solveR (evs.set n ⟨t, t⟩) gaps).1 n).f0 ≤ t := this.2
  omega
end Go.Proofs.Ytbffhblebigcfaa.Sk
