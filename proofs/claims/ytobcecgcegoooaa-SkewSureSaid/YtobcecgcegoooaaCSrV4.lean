/- What Tight hands back, for any history. -/
import Derived.BigQuiet
import Derived.Deep.QuietTactic
import Derived.Deep.RegionHeld3
import Derived.Test.YtobcecgcegoooaaCSrV3
import Derived.Test.YtobcecgcegoooaaCSrS0
import Derived.Test.YtobcecgcegoooaaCSrV2
import Derived.Test.YtobcecgcegoooaaCSrV0
namespace Go.Proofs.Ytobcecgcegoooaa.Sk
open Go.RowKit Go.Proofs.YtobcecgcegoooaaW.PrintWords Go.Proofs.YtobcecgcegoooaaW.PrintLast Go.Proofs.YtobcecgcegoooaaW.PrintMore
set_option linter.unusedVariables false
set_option linter.unusedSimpArgs false
def gapB (n : Int) (g : S86) : Bool := decide (0 ≤ g.f0 ∧ g.f0 < n ∧ 0 ≤ g.f1 ∧ g.f1 < n ∧ g.f0 ≠ g.f1 ∧ g.f2 ≤ g.f3 ∧ -2000000 ≤ g.f2 ∧ g.f3 ≤ 2000000)
def histB (evs : List S27) (gaps : List S86) : Bool := decide (evs.length ≤ 10) && (decide (gaps.length ≤ 20) && (evs.all good27 && gaps.all (gapB evs.length)))
theorem within_f (a b c : Int) : skew_within.f a b c = some (decide (b ≤ a ∧ a ≤ c)) := by
 unfold skew_within.f
 by_cases h : a ≥ b
 ·rw [if_pos h]; simp [show b ≤ a from h]
 ·rw [if_neg h]; simp [show ¬ b ≤ a from h]
theorem isHist_l0 (evs : List S27) (gaps : List S86) (hn : evs.length ≤ 10) (hw : gaps.length ≤ 20) : ∀ (d i k : Nat), i + d = gaps.length → d < k → skew_isHist.l0 k gaps (gaps.length : Int) (i : Int) evs gaps = some ((gaps.drop i).all (gapB evs.length))
 | 0, i, k, h, hk => by
  obtain ⟨k, rfl⟩ : ∃ k', k = k' + 1 := ⟨k - 1, by omega⟩
  rw [List.drop_of_length_le (by omega)]; simp only [skew_isHist.l0]
  rw [if_neg (by omega)]; rfl
 | d + 1, i, k, h, hk => by
  obtain ⟨k, rfl⟩ : ∃ k', k = k' + 1 := ⟨k - 1, by omega⟩
  rw [drop86 gaps i (by omega), List.all_cons]
  obtain ⟨g, hg⟩ : ∃ g, rd_T86 gaps (i : Int) = g := ⟨_, rfl⟩
  simp only [skew_isHist.l0, hg]; have hwr : wrap64 ((evs.length : Int) - 1) = (evs.length : Int) - 1 := w64_mid (by omega) (by omega); rw [if_pos (by omega), if_pos (by omega), if_pos (by omega), within_f, within_f, hwr, wrapS (by omega), isHist_l0 evs gaps hn hw d (i + 1) k (by omega) (by omega)]; simp only [Option.bind_some]
  by_cases c1 : 0 ≤ g.f0 ∧ g.f0 ≤ (evs.length : Int) - 1
  ·rw [decide_eq_true c1, if_pos rfl]
   by_cases c2 : 0 ≤ g.f1 ∧ g.f1 ≤ (evs.length : Int) - 1
   ·rw [decide_eq_true c2, if_pos rfl]
    by_cases c3 : g.f0 = g.f1
    ·rw [if_pos c3, show gapB evs.length g = false from decide_eq_false (by omega)]; rfl
    ·rw [if_neg c3]
     by_cases c4 : g.f2 > g.f3
     ·rw [if_pos c4, show gapB evs.length g = false from decide_eq_false (by omega)]; rfl
     ·rw [if_neg c4]
      by_cases c5 : g.f2 < -2000000
      ·rw [if_pos c5, show gapB evs.length g = false from decide_eq_false (by omega)]; rfl
      ·rw [if_neg c5]
       by_cases c6 : g.f3 > 2000000
       ·rw [if_pos c6, show gapB evs.length g = false from decide_eq_false (by omega)]; rfl
       ·rw [if_neg c6, show gapB evs.length g = true from decide_eq_true (by omega)]; rfl
   ·rw [decide_eq_false c2, if_neg (by simp), show gapB evs.length g = false from decide_eq_false (by omega)]; rfl
  ·rw [decide_eq_false c1, if_neg (by simp), show gapB evs.length g = false from decide_eq_false (by omega)]; rfl
theorem isHist_eq (evs : List S27) (gaps : List S86) (k : Nat) (hk : 30 ≤ k) : skew_isHist.f k evs gaps = some (histB evs gaps) := by
 obtain ⟨k, rfl⟩ : ∃ k', k = k' + 1 := ⟨k - 1, by omega⟩
 unfold skew_isHist.f histB
 by_cases c1 : evs.length ≤ 10
 ·rw [if_neg (by omega)]
  by_cases c2 : gaps.length ≤ 20
  ·rw [if_neg (by omega)]; unfold skew_all.f; rw [Option.bind_some, decide_eq_true c1, decide_eq_true c2, Bool.true_and, Bool.true_and]; simp only [skew_isHist.j0]
   cases evs.all good27 with
   | true =>
    rw [if_neg (by simp), Bool.true_and]
    exact isHist_l0 evs gaps c1 c2 gaps.length 0 k (by omega) (by omega)
   | false => rw [if_pos (by simp)]; rfl
  ·rw [if_pos (by omega), decide_eq_false c2]; simp only [skew_isHist.j0]; rw [if_pos trivial, Bool.false_and, Bool.and_false]
 ·rw [if_pos (by omega), decide_eq_false c1]; simp only [skew_isHist.j0]; rw [if_pos trivial, Bool.false_and]
theorem isHist_1000 (evs : List S27) (gaps : List S86) : skew_isHist.f 1000 evs gaps = some (histB evs gaps) := isHist_eq evs gaps 1000 (by omega)
theorem ev_Goods10 (l : List S27) : Ev (fun k => rf_Goods.f k l 10) (decide (l.length ≤ 10) && l.all good27) := by
 by_cases h : l.length ≤ 10
 ·rw [decide_eq_true h, Bool.true_and]; have := ev_goods l (by omega) l.length 0 (by omega); rw [List.drop_zero] at this; exact Ev.congr (fun k => by unfold rf_Goods.f; rw [if_neg (by omega)]; rfl) this
 ·rw [decide_eq_false h, Bool.false_and]; exact Ev.congr (f := fun _ => some false) (fun k => by unfold rf_Goods.f; rw [if_pos (by omega)]) (Ev.now false)
theorem ev_hist0 (evs : List S27) (gaps : List S86) (hn : evs.length ≤ 10) (hw : gaps.length ≤ 20) : ∀ (d i : Nat), i + d = gaps.length → Ev (fun k => rf_Hist.l0 k (i : Int) evs gaps) ((gaps.drop i).all (gapB evs.length))
 | 0, i, h => by
  rw [List.drop_of_length_le (by omega)]
  exact Ev.step (f := fun _ => some true) (fun k => by simp only [rf_Hist.l0]; rw [if_neg (by omega)]) (Ev.now _)
 | d + 1, i, h => by
  rw [drop86 gaps i (by omega), List.all_cons]
  obtain ⟨g, hg⟩ : ∃ g, rd_T86 gaps (i : Int) = g := ⟨_, rfl⟩
  rw [hg]; have ih := ev_hist0 evs gaps hn hw d (i + 1) (by omega)
  have bad : ∀ (x : Bool), gapB evs.length g = false → (x = true ∨ x = false ∧ (g.f2 > g.f3 ∨ g.f2 < -2000000 ∨ g.f3 > 2000000)) → Ev (fun k => rf_Hist.j2 k (i : Int) x evs gaps g.f0 g.f1 g.f2 g.f3) (gapB evs.length g && (gaps.drop (i + 1)).all (gapB evs.length)) := fun x hb hx => by
   rw [hb, Bool.false_and]; refine Ev.step (f := fun _ => some false) (fun k => ?_) (Ev.now _); simp only [rf_Hist.j2]
   rcases hx with hx | ⟨hx, hx'⟩
   ·rw [if_pos hx]
   ·rw [if_neg (by rw [hx]; simp)]
    by_cases c4 : g.f2 > g.f3
    ·rw [if_pos c4]
    ·rw [if_neg c4]
     by_cases c5 : g.f2 < -2000000
     ·rw [if_pos c5]
     ·rw [if_neg c5, if_pos (by omega)]
  have st : ∀ (x : Bool), (∀ k, rf_Hist.l0 (k + 1) (i : Int) evs gaps = rf_Hist.j2 k (i : Int) x evs gaps g.f0 g.f1 g.f2 g.f3) → Ev (fun k => rf_Hist.j2 k (i : Int) x evs gaps g.f0 g.f1 g.f2 g.f3) (gapB evs.length g && (gaps.drop (i + 1)).all (gapB evs.length)) → Ev (fun k => rf_Hist.l0 k (i : Int) evs gaps) (gapB evs.length g && (gaps.drop (i + 1)).all (gapB evs.length)) := fun x h1 h2 => Ev.step h1 h2
  by_cases c1 : g.f0 < 0
  ·refine st true (fun k => by simp only [rf_Hist.l0, hg]; rw [if_pos (by omega), if_pos (by omega), if_pos c1]) (bad true (decide_eq_false (by omega)) (.inl rfl))
  ·by_cases c2 : g.f0 ≥ evs.length
   ·refine st true (fun k => by simp only [rf_Hist.l0, hg]; rw [if_pos (by omega), if_pos (by omega), if_neg c1, if_pos c2]) (bad true (decide_eq_false (by omega)) (.inl rfl))
   ·by_cases c3 : g.f1 < 0
    ·refine st true (fun k => by simp only [rf_Hist.l0, hg]; rw [if_pos (by omega), if_pos (by omega), if_neg c1, if_neg c2, if_pos c3]) (bad true (decide_eq_false (by omega)) (.inl rfl))
    ·by_cases c4 : g.f1 ≥ evs.length
     ·refine st true (fun k => by simp only [rf_Hist.l0, hg]; rw [if_pos (by omega), if_pos (by omega), if_neg c1, if_neg c2, if_neg c3, if_pos c4]) (bad true (decide_eq_false (by omega)) (.inl rfl))
     ·refine st (g.f0 == g.f1) (fun k => by simp only [rf_Hist.l0, hg]; rw [if_pos (by omega), if_pos (by omega), if_neg c1, if_neg c2, if_neg c3, if_neg c4]) ?_
      by_cases c5 : g.f0 = g.f1
      ·exact bad _ (decide_eq_false (by omega)) (.inl (beq_iff_eq.mpr c5))
      ·have e5 : (g.f0 == g.f1) = false := beq_eq_false_iff_ne.mpr c5
       by_cases c6 : g.f2 > g.f3 ∨ g.f2 < -2000000 ∨ g.f3 > 2000000
       ·exact bad _ (decide_eq_false (by omega)) (.inr ⟨e5, c6⟩)
       ·rw [show gapB evs.length g = true from decide_eq_true (by omega), Bool.true_and, e5]; refine Ev.step (f := fun k => rf_Hist.l0 k ((i + 1 : Nat) : Int) evs gaps) (fun k => ?_) ih; simp only [rf_Hist.j2]; rw [if_neg (by simp), if_neg (by omega), if_neg (by omega), if_neg (by omega), wrapS (by omega)]
theorem ev_Hist (evs : List S27) (gaps : List S86) : Ev (fun k => rf_Hist.f k evs gaps) (histB evs gaps) := by
 refine Ev.bind (ev_Goods10 evs) ?_; unfold histB
 by_cases c1 : evs.length ≤ 10
 ·rw [decide_eq_true c1, Bool.true_and, Bool.true_and]
  cases evs.all good27 with
  | false =>
   refine Ev.congr (f := fun k => rf_Hist.j0 k true evs gaps) (fun k => by rw [if_neg (by simp)]) ?_; refine Ev.step (f := fun _ => some false) (fun k => by simp only [rf_Hist.j0]; rfl) ?_; rw [Bool.false_and, Bool.and_false]
   exact Ev.now _
  | true =>
   refine Ev.congr (f := fun k => rf_Hist.j0 k (decide ((gaps.length : Int) > 20)) evs gaps) (fun k => by rw [if_pos rfl]) ?_
   by_cases c2 : gaps.length ≤ 20
   ·rw [decide_eq_true c2, Bool.true_and, Bool.true_and, decide_eq_false (by omega)]; refine Ev.step (f := fun k => rf_Hist.l0 k ((0 : Nat) : Int) evs gaps) (fun k => by simp only [rf_Hist.j0]; rfl) ?_; exact ev_hist0 evs gaps c1 c2 gaps.length 0 (by omega)
   ·rw [decide_eq_false c2, Bool.false_and, decide_eq_true (by omega)]; exact Ev.step (f := fun _ => some false) (fun k => by simp only [rf_Hist.j0]; rfl) (Ev.now _)
 ·rw [decide_eq_false c1, Bool.false_and, Bool.false_and]; refine Ev.congr (f := fun k => rf_Hist.j0 k true evs gaps) (fun k => by rw [if_neg (by simp)]) ?_; exact Ev.step (f := fun _ => some false) (fun k => by simp only [rf_Hist.j0]; rfl) (Ev.now _)
structure HistIs (evs : List S27) (gaps : List S86) : Prop where
 n : evs.length ≤ 10
 w : gaps.length ≤ 20
 ev : ∀ s ∈ evs, s.f0 ≤ s.f1 ∧ -1000000 ≤ s.f0 ∧ s.f1 ≤ 1000000
 gap : ∀ g ∈ gaps, GapIn evs.length g
theorem histIs (evs : List S27) (gaps : List S86) : histB evs gaps = true ↔ HistIs evs gaps := by
 unfold histB; constructor
 ·intro h; obtain ⟨a, h⟩ := Bool.and_eq_true_iff.mp h; obtain ⟨b, h⟩ := Bool.and_eq_true_iff.mp h; obtain ⟨c, d⟩ := Bool.and_eq_true_iff.mp h; rw [List.all_eq_true] at c d; refine ⟨Od a, Od b, fun s hs => ?_, fun g hg => ?_⟩
  ·have := c s hs; unfold good27 at this; simp only [Bool.and_eq_true, decide_eq_true_eq] at this; exact ⟨this.1, this.2.1, this.2.2⟩
  ·have := Od (d g hg); obtain ⟨h0, h1, h2, h3, h4, h5, h6, h7⟩ := this; exact ⟨h0, h1, h2, h3, h4, h5, h6, h7⟩
 ·rintro ⟨a, b, c, d⟩; rw [decide_eq_true a, decide_eq_true b, Bool.true_and, Bool.true_and, Bool.and_eq_true_iff, List.all_eq_true, List.all_eq_true]; refine ⟨fun s hs => ?_, fun g hg => ?_⟩
  ·have := c s hs; unfold good27; simp only [Bool.and_eq_true, decide_eq_true_eq]; exact ⟨this.1, this.2.1, this.2.2⟩
  ·obtain ⟨h0, h1, h2, h3, h4, h5, h6, h7⟩ := d g hg; exact decide_eq_true ⟨h0, h1, h2, h3, h4, h5, h6, h7⟩
theorem HistIs.evAt {evs : List S27} {gaps : List S86} (h : HistIs evs gaps) (j : Int) (h0 : 0 ≤ j) (h1 : j < evs.length) : (rd_T27 evs j).f0 ≤ (rd_T27 evs j).f1 ∧ -1000000 ≤ (rd_T27 evs j).f0 ∧ (rd_T27 evs j).f1 ≤ 1000000 := by
 have := h.ev _ (mem27 evs j.toNat (by omega))
 rwa [show ((j.toNat : Nat) : Int) = j by omega] at this
theorem HistIs.ok {evs : List S27} {gaps : List S86} (h : HistIs evs gaps) : histOk evs gaps := ⟨h.n, h.w, fun g hg => by
 have h1 := h.gap g hg; have h2 := h.n
 have := h1.a0; have := h1.a1; have := h1.b0; have := h1.b1
 exact ⟨⟨by omega, by omega⟩, by omega, by omega⟩⟩
theorem said_mem {evs : List S27} {gaps : List S86} {x : Int × S158} (h : x ∈ saidL evs gaps) : (∃ i : Nat, i < evs.length ∧ x = ((i : Int), ⟨10, (i : Int), (rd_T27 evs i).f0, (rd_T27 evs i).f1⟩)) ∨ ∃ i : Nat, i < gaps.length ∧ x = ((evs.length : Int) + i, ⟨(rd_T86 gaps i).f0, (rd_T86 gaps i).f1, (rd_T86 gaps i).f2, (rd_T86 gaps i).f3⟩) := by
 unfold saidL at h
 rcases List.mem_append.mp h with h | h
 ·obtain ⟨i, hi, rfl⟩ := List.mem_map.mp h; exact .inl ⟨i, List.mem_range.mp hi, rfl⟩
 ·obtain ⟨i, hi, rfl⟩ := List.mem_map.mp h; exact .inr ⟨i, List.mem_range.mp hi, rfl⟩
theorem mem_said1 (evs : List S27) (gaps : List S86) (i : Nat) (h : i < evs.length) : ((i : Int), (⟨10, (i : Int), (rd_T27 evs i).f0, (rd_T27 evs i).f1⟩ : S158)) ∈ saidL evs gaps :=
 List.mem_append.mpr (.inl (List.mem_map.mpr ⟨i, List.mem_range.mpr h, rfl⟩))
theorem mem_said2 (evs : List S27) (gaps : List S86) (i : Nat) (h : i < gaps.length) : ((evs.length : Int) + i, (⟨(rd_T86 gaps i).f0, (rd_T86 gaps i).f1, (rd_T86 gaps i).f2, (rd_T86 gaps i).f3⟩ : S158)) ∈ saidL evs gaps :=
 List.mem_append.mpr (.inr (List.mem_map.mpr ⟨i, List.mem_range.mpr h, rfl⟩))
theorem HistIs.facts {evs : List S27} {gaps : List S86} (h : HistIs evs gaps) : ∀ x ∈ saidL evs gaps, FactOk x.2 := fun x hx => by
 have hn := h.n
 rcases said_mem hx with ⟨i, hi, rfl⟩ | ⟨i, hi, rfl⟩
 ·have := h.evAt (i : Int) (by omega) (by omega); exact ⟨⟨by show (0 : Int) ≤ 10; omega, by show (10 : Int) < 11; omega⟩, ⟨by show (0 : Int) ≤ i; omega, by show (i : Int) < 11; omega⟩, by show (10 : Int) ≠ i; omega, ⟨by show -2000000 ≤ (rd_T27 evs i).f0; omega, by show (rd_T27 evs i).f0 ≤ 2000000; omega⟩, ⟨by show -2000000 ≤ (rd_T27 evs i).f1; omega, by show (rd_T27 evs i).f1 ≤ 2000000; omega⟩⟩
 ·have := h.gap _ (mem86 gaps i hi); obtain ⟨h0, h1, h2, h3, h4, h5, h6, h7⟩ := this; exact ⟨⟨h0, by show (rd_T86 gaps i).f0 < 11; omega⟩, ⟨h2, by show (rd_T86 gaps i).f1 < 11; omega⟩, h4, ⟨h6, by show (rd_T86 gaps i).f2 ≤ 2000000; omega⟩, ⟨by show -2000000 ≤ (rd_T86 gaps i).f3; omega, h7⟩⟩
theorem keeps_fit {evs : List S27} {gaps : List S86} (h : HistIs evs gaps) (t : Int → Int) : (∀ x ∈ saidL evs gaps, Keeps x.2 t) ↔ Fit evs gaps fun j => t j - t 10 := by
 have hn := h.n; constructor
 ·intro hk; refine ⟨fun g hg => ?_, fun j h0 h1 => ?_⟩
  ·obtain ⟨i, hi, rfl⟩ := List.mem_iff_getElem.mp hg; have := hk _ (mem_said2 evs gaps i hi)
   have er : rd_T86 gaps (i : Int) = gaps[i] := by simp [rd_T86, rdOf, List.getD_eq_getElem?_getD, hi]
   rw [er] at this; obtain ⟨a, b⟩ := this; have a : (gaps[i]).f2 ≤ t (gaps[i]).f1 - t (gaps[i]).f0 := a; have b : t (gaps[i]).f1 - t (gaps[i]).f0 ≤ (gaps[i]).f3 := b; exact ⟨by show (gaps[i]).f2 ≤ (t (gaps[i]).f1 - t 10) - (t (gaps[i]).f0 - t 10); omega, by show (t (gaps[i]).f1 - t 10) - (t (gaps[i]).f0 - t 10) ≤ (gaps[i]).f3; omega⟩
  ·have := hk _ (mem_said1 evs gaps j.toNat (by omega)); rw [show ((j.toNat : Nat) : Int) = j by omega] at this; exact this
 ·rintro ⟨a, b⟩ x hx
  rcases said_mem hx with ⟨i, hi, rfl⟩ | ⟨i, hi, rfl⟩
  ·exact b (i : Int) (by omega) (by omega)
  ·have := a _ (mem86 gaps i hi); obtain ⟨c, d⟩ := this; have c : (rd_T86 gaps i).f2 ≤ (t (rd_T86 gaps i).f1 - t 10) - (t (rd_T86 gaps i).f0 - t 10) := c; have d : (t (rd_T86 gaps i).f1 - t 10) - (t (rd_T86 gaps i).f0 - t 10) ≤ (rd_T86 gaps i).f3 := d; exact ⟨by show (rd_T86 gaps i).f2 ≤ t (rd_T86 gaps i).f1 - t (rd_T86 gaps i).f0; omega, by show t (rd_T86 gaps i).f1 - t (rd_T86 gaps i).f0 ≤ (rd_T86 gaps i).f3; omega⟩
theorem tighten_solve {evs : List S27} {gaps : List S86} (h : HistIs evs gaps) : (tightenF (bindP (fun _ => false) (saidL evs gaps))).isSome = (solveR evs gaps).2 := by
 obtain ⟨b1, b2⟩ := bind_spec (fun _ => false) (saidL evs gaps) h.facts; rw [Bool.eq_iff_iff, tighten_iff b1, (solve_spec evs gaps h.gap).1]; constructor
 ·rintro ⟨t, ht⟩; exact ⟨_, (keeps_fit h t).mp fun x hx => (b2 t).mp ht x hx rfl⟩
 ·rintro ⟨t, ht⟩; refine ⟨fun j => if j = 10 then 0 else t j, (b2 _).mpr fun x hx _ => (keeps_fit h _).mpr ?_ x hx⟩; have hn := h.n
  have e : ∀ j : Int, j < evs.length → (if j = 10 then 0 else t j) - (if (10 : Int) = 10 then 0 else t 10) = t j := fun j hj => by
   rw [if_neg (by omega), if_pos rfl]; omega
  refine ⟨fun g hg => ?_, fun j h0 h1 => ?_⟩
  ·have hi := h.gap g hg; have := ht.1 g hg; unfold GapSat at this ⊢; show g.f2 ≤ ((if g.f1 = 10 then 0 else t g.f1) - (if (10 : Int) = 10 then 0 else t 10)) - ((if g.f0 = 10 then 0 else t g.f0) - (if (10 : Int) = 10 then 0 else t 10)) ∧ ((if g.f1 = 10 then 0 else t g.f1) - (if (10 : Int) = 10 then 0 else t 10)) - ((if g.f0 = 10 then 0 else t g.f0) - (if (10 : Int) = 10 then 0 else t 10)) ≤ g.f3; rw [e _ hi.a1, e _ hi.b1]; exact this
  ·show _ ≤ (if j = 10 then 0 else t j) - (if (10 : Int) = 10 then 0 else t 10) ∧ (if j = 10 then 0 else t j) - (if (10 : Int) = 10 then 0 else t 10) ≤ _; rw [e j h1]; exact ht.2 j h0 h1
end Go.Proofs.Ytobcecgcegoooaa.Sk
namespace Go.Proofs.Ytobcecgcegoooaa.Sk
open Go.RowKit Go.Proofs.YtobcecgcegoooaaW.PrintWords Go.Proofs.YtobcecgcegoooaaW.PrintLast Go.Proofs.YtobcecgcegoooaaW.PrintMore
set_option linter.unusedVariables false
set_option linter.unusedSimpArgs false
theorem kN_fin {M : Int} {B : Int → Int → Int} (h : BInv M B) (h0 : 0 ≤ M) (hM : M ≤ 134217728) : ∀ n : Nat, n ≤ 11 → ∀ C, kN B n = some C → ∀ i j, In i → In j → B i j ≠ FREE → C i j ≠ FREE
 | 0, _, C, hC, i, j, _, _, hf => by
  injection hC with hC
  rw [← hC]; exact hf
 | n + 1, hn, C, hC, i, j, hi, hj, hf => by
  have hkn : (kN B n).bind (fun C => iN n C 11) = some C := hC; obtain ⟨D, hD, hC'⟩ := Option.bind_eq_some_iff.mp hkn; have ih := kN_fin h h0 hM n (by omega) D hD i j hi hj hf; obtain ⟨a1, _, _⟩ := (kN_spec h h0 hM n (by omega)).1 D hD
  have hnI : In (n : Int) := ⟨by omega, by omega⟩
  have hMn : pow2 n * M ≤ 274877906944 := by
   have : n = 0 ∨ n = 1 ∨ n = 2 ∨ n = 3 ∨ n = 4 ∨ n = 5 ∨ n = 6 ∨ n = 7 ∨ n = 8 ∨ n = 9 ∨ n = 10 := by omega
   rcases this with e | e | e | e | e | e | e | e | e | e | e <;> subst e <;> simp only [pow2] <;> omega
  have hp := iN_nonneg a1 hMn hnI 11 C (Nat.le_refl _) hC'; have e := iN_eq a1 hMn hnI 11 (Nat.le_refl _) hp; rw [hC'] at e
  injection e with e
  have e2 : C i j = ph n D i j := by
   rw [e]; show (if _ then _ else _) = _; rw [if_pos ⟨⟨hi.1, by have := hi.2; omega⟩, hj⟩]
  rw [e2]
  exact fun hh => ih ((ph_free a1 hMn hnI hi hj).mp hh).1
theorem say_fin {B : Int → Int → Int} {f : S158} (hf : FactOk f) (i j : Int) (h : B i j ≠ FREE) : sayF B f i j ≠ FREE := by
 have hlo := hf.lo; have hhi := hf.hi; rw [say_at hf]
 split
 ·rw [mn_eq]; unfold FREE; omega
 ·split
  ·rw [mn_eq]; unfold FREE; omega
  ·exact h
theorem say_fin2 {B : Int → Int → Int} {f : S158} (hf : FactOk f) : sayF B f f.f0 f.f1 ≠ FREE ∧ sayF B f f.f1 f.f0 ≠ FREE := by
 have hlo := hf.lo; have hhi := hf.hi; have hne := hf.ne; constructor
 ·rw [say_at hf, if_neg (by omega), if_pos ⟨rfl, rfl⟩, mn_eq]; unfold FREE; omega
 ·rw [say_at hf, if_pos ⟨rfl, rfl⟩, mn_eq]; unfold FREE; omega
theorem fold_fin (om : Int → Bool) : ∀ (L : List (Int × S158)) (B : Int → Int → Int), (∀ x ∈ L, FactOk x.2) → (∀ i j, B i j ≠ FREE → (L.foldl (fun B x => if om x.1 = true then B else sayF B x.2) B) i j ≠ FREE) ∧
  ∀ x ∈ L, om x.1 = false → (L.foldl (fun B x => if om x.1 = true then B else sayF B x.2) B) x.2.f0 x.2.f1 ≠ FREE ∧ (L.foldl (fun B x => if om x.1 = true then B else sayF B x.2) B) x.2.f1 x.2.f0 ≠ FREE
 | [], B, _ => ⟨fun i j h => h, fun x hx => by cases hx⟩
 | x :: L, B, h => by
  have hx := h x List.mem_cons_self
  have hr := fun y hy => h y (List.mem_cons_of_mem x hy)
  rw [List.foldl_cons]; obtain ⟨a, b⟩ := fold_fin om L (if om x.1 = true then B else sayF B x.2) hr; refine ⟨fun i j hf => a i j ?_, fun y hy ho => ?_⟩
  ·split
   ·exact hf
   ·exact say_fin hx i j hf
  ·rcases List.mem_cons.mp hy with rfl | hy
   ·have e : (if om y.1 = true then B else sayF B y.2) = sayF B y.2 := if_neg (by rw [ho]; simp); rw [e] at a ⊢; have := say_fin2 (B := B) hx; exact ⟨a _ _ this.1, a _ _ this.2⟩
   ·exact b y hy ho
theorem tight_spans {evs : List S27} {gaps : List S86} (h : HistIs evs gaps) {C : Int → Int → Int} (hC : tightenF (bindP (fun _ => false) (saidL evs gaps)) = some C) {l : List S27} (hl : Tightest evs gaps l) : tspans C evs.length = l := by
 have hn := h.n; obtain ⟨b1, b2⟩ := bind_spec (fun _ => false) (saidL evs gaps) h.facts; obtain ⟨c1, c2, c3⟩ := tighten_some b1 hC
 have i10 : In 10 := ⟨by omega, by omega⟩
 have sat : ∀ t, Sat C t → Fit evs gaps fun j => t j - t 10 := fun t ht => (keeps_fit h t).mp fun x hx => (b2 t).mp ((c2 t).mp ht) x hx rfl
 have unsat : ∀ t, Fit evs gaps t → ∃ t', Sat C t' ∧ t' 10 = 0 ∧ ∀ j : Int, j < evs.length → t' j = t j := fun t ht => by
  refine ⟨fun j => if j = 10 then 0 else t j, (c2 _).mpr ((b2 _).mpr fun x hx _ => (keeps_fit h _).mpr ?_ x hx), if_pos rfl, fun j hj => if_neg (by omega)⟩
  have e : ∀ j : Int, j < evs.length → (if j = 10 then 0 else t j) - (if (10 : Int) = 10 then 0 else t 10) = t j := fun j hj => by
   rw [if_neg (by omega), if_pos rfl]; omega
  refine ⟨fun g hg => ?_, fun j h0 h1 => ?_⟩
  ·have hi := h.gap g hg; have := ht.1 g hg; unfold GapSat at this ⊢; show g.f2 ≤ ((if g.f1 = 10 then 0 else t g.f1) - (if (10 : Int) = 10 then 0 else t 10)) - ((if g.f0 = 10 then 0 else t g.f0) - (if (10 : Int) = 10 then 0 else t 10)) ∧ ((if g.f1 = 10 then 0 else t g.f1) - (if (10 : Int) = 10 then 0 else t 10)) - ((if g.f0 = 10 then 0 else t g.f0) - (if (10 : Int) = 10 then 0 else t 10)) ≤ g.f3; rw [e _ hi.a1, e _ hi.b1]; exact this
  ·show _ ≤ (if j = 10 then 0 else t j) - (if (10 : Int) = 10 then 0 else t 10) ∧ (if j = 10 then 0 else t j) - (if (10 : Int) = 10 then 0 else t 10) ≤ _; rw [e j h1]; exact ht.2 j h0 h1
 have fin : ∀ j : Nat, j < evs.length → C 10 j ≠ FREE ∧ C j 10 ≠ FREE := fun j hj => by
  have := (fold_fin (fun _ => false) (saidL evs gaps) (fillN 11) h.facts).2 _ (mem_said1 evs gaps j hj) rfl
  have jI : In (j : Int) := ⟨by omega, by omega⟩
  exact ⟨kN_fin b1 (by omega) (by omega) 11 (Nat.le_refl _) C hC 10 j i10 jI this.1, kN_fin b1 (by omega) (by omega) 11 (Nat.le_refl _) C hC j 10 jI i10 this.2⟩
 apply List.ext_getElem
 ·unfold tspans; rw [List.length_map, List.length_range, hl.len]
 ·intro j h1 h2
  have hj : j < evs.length := by unfold tspans at h1; simpa using h1
  have e1 : (tspans C evs.length)[j] = tspan C j := by simp [tspans]
  have e2 : l[j] = rd_T27 l (j : Int) := by simp [rd_T27, List.getD_eq_getElem?_getD, h2]
  rw [e1, e2]
  have jI : In (j : Int) := ⟨by omega, by omega⟩
  obtain ⟨f1, f2⟩ := fin j hj; have bd1 := (c1.bd 10 j i10 jI).resolve_left f1; have bd2 := (c1.bd j 10 jI i10).resolve_left f2; obtain ⟨t, t1, t2, t3⟩ := clo_last c1 c3 i10; obtain ⟨u, u1, u2, u3⟩ := clo_first c1 c3 i10; have A1 := (hl.all _ (sat t t1) (j : Int) (by omega) (by omega)).2; have A2 := (hl.all _ (sat u u1) (j : Int) (by omega) (by omega)).1; have A1 : t j - t 10 ≤ (rd_T27 l (j : Int)).f1 := A1; have A2 : (rd_T27 l (j : Int)).f0 ≤ u j - u 10 := A2; rw [t2, t3 j jI f1] at A1; rw [u2, u3 j jI f2] at A2; obtain ⟨v, v1, v2, v3⟩ := unsat _ hl.last; obtain ⟨x, x1, x2, x3⟩ := unsat _ hl.first; have B1 := v1 10 j i10 jI f1; have B2 := x1 j 10 jI i10 f2; rw [v2, v3 j (by omega)] at B1; rw [x2, x3 j (by omega)] at B2; have w1 : wrap64 (-(C j 10)) = -(C j 10) := w64_mid (by omega) (by omega); unfold tspan; rw [w1]
  have p1 : -(C j 10) = (rd_T27 l (j : Int)).f0 := by omega
  have p2 : C 10 j = (rd_T27 l (j : Int)).f1 := by omega
  rw [p1, p2]
def tightA (evs : List S27) (gaps : List S86) : List S27 × Int :=
 if histB evs gaps = true then if (solveR evs gaps).2 = true then ((solveR evs gaps).1, 0) else ([], 5) else ([], 2)
theorem tightR_no {evs : List S27} {gaps : List S86} (h : ¬ histB evs gaps = true) : tightR evs gaps = some (none, 2) := by
 unfold tightR; rw [isHist_1000, Option.bind_some, if_neg h]
theorem tight_skew (evs : List S27) (gaps : List S86) (hn : evs.length ≤ 10) : skew_Tight.f evs gaps = some (tightA evs gaps) := by
 unfold skew_Tight.f tightA
 by_cases c : histB evs gaps = true
 ·have h := (histIs evs gaps).mp c; have ht := tighten_solve h; unfold tightR; rw [isHist_1000, Option.bind_some, if_pos c, if_pos h.ok, if_pos c]
  cases hC : tightenF (bindP (fun _ => false) (saidL evs gaps)) with
  | none =>
   rw [hC] at ht
   rw [if_neg (by rw [← ht]; simp), Option.bind_some, if_pos hn]
  | some C =>
   rw [hC] at ht; have ht : (solveR evs gaps).2 = true := ht.symm; have hl := (solve_spec evs gaps h.gap).2 (solveR evs gaps).1 (by rw [← ht]); rw [if_pos ht, Option.bind_some, if_pos hn]; show some (tspans C evs.length, (0 : Int)) = _; rw [tight_spans h hC hl]
 ·rw [tightR_no c, Option.bind_some, if_pos hn, if_neg c]
end Go.Proofs.Ytobcecgcegoooaa.Sk
namespace Go.Proofs.Ytobcecgcegoooaa.Sk
open Go.RowKit Go.Proofs.YtobcecgcegoooaaW.PrintWords Go.Proofs.YtobcecgcegoooaaW.PrintLast Go.Proofs.YtobcecgcegoooaaW.PrintMore
set_option linter.unusedVariables false
set_option linter.unusedSimpArgs false
section
variable {evs : List S27} {gaps : List S86} (h : HistIs evs gaps) {C : Int → Int → Int} (hC : tightenF (bindP (fun _ => false) (saidL evs gaps)) = some C)
include h hC
theorem sure_sat (t : Int → Int) (ht : Sat C t) : Fit evs gaps fun j => t j - t 10 := by
 obtain ⟨b1, b2⟩ := bind_spec (fun _ => false) (saidL evs gaps) h.facts; obtain ⟨c1, c2, c3⟩ := tighten_some b1 hC
 exact (keeps_fit h t).mp fun x hx => (b2 t).mp ((c2 t).mp ht) x hx rfl
theorem sure_unsat (t : Int → Int) (ht : Fit evs gaps t) : Sat C fun j => if j = 10 then 0 else t j := by
 have hn := h.n; obtain ⟨b1, b2⟩ := bind_spec (fun _ => false) (saidL evs gaps) h.facts; obtain ⟨c1, c2, c3⟩ := tighten_some b1 hC; refine (c2 _).mpr ((b2 _).mpr fun x hx _ => (keeps_fit h _).mpr ?_ x hx)
 have e : ∀ j : Int, j < evs.length → (if j = 10 then 0 else t j) - (if (10 : Int) = 10 then 0 else t 10) = t j := fun j hj => by
  rw [if_neg (by omega), if_pos rfl]; omega
 refine ⟨fun g hg => ?_, fun j h0 h1 => ?_⟩
 ·have hi := h.gap g hg; have := ht.1 g hg; unfold GapSat at this ⊢; show g.f2 ≤ ((if g.f1 = 10 then 0 else t g.f1) - (if (10 : Int) = 10 then 0 else t 10)) - ((if g.f0 = 10 then 0 else t g.f0) - (if (10 : Int) = 10 then 0 else t 10)) ∧ ((if g.f1 = 10 then 0 else t g.f1) - (if (10 : Int) = 10 then 0 else t 10)) - ((if g.f0 = 10 then 0 else t g.f0) - (if (10 : Int) = 10 then 0 else t 10)) ≤ g.f3; rw [e _ hi.a1, e _ hi.b1]; exact this
 ·show _ ≤ (if j = 10 then 0 else t j) - (if (10 : Int) = 10 then 0 else t 10) ∧ (if j = 10 then 0 else t j) - (if (10 : Int) = 10 then 0 else t 10) ≤ _; rw [e j h1]; exact ht.2 j h0 h1
theorem sure_fin10 (j : Int) (j0 : 0 ≤ j) (j1 : j < evs.length) : C 10 j ≠ FREE ∧ C j 10 ≠ FREE := by
 have hn := h.n; obtain ⟨b1, b2⟩ := bind_spec (fun _ => false) (saidL evs gaps) h.facts
 have i10 : In 10 := ⟨by omega, by omega⟩
 have := (fold_fin (fun _ => false) (saidL evs gaps) (fillN 11) h.facts).2 _ (mem_said1 evs gaps j.toNat (by omega)) rfl; rw [show ((j.toNat : Nat) : Int) = j by omega] at this
 have jI : In j := ⟨by omega, by omega⟩
 exact ⟨kN_fin b1 (by omega) (by omega) 11 (Nat.le_refl _) C hC 10 j i10 jI this.1, kN_fin b1 (by omega) (by omega) 11 (Nat.le_refl _) C hC j 10 jI i10 this.2⟩
theorem sure_iso (i j : Int) (hi : In i) (hj : In j) (ij : i ≠ j) (hn : evs.length ≤ i) (h10 : i ≠ 10) : C i j = FREE := by
 obtain ⟨b1, b2⟩ := bind_spec (fun _ => false) (saidL evs gaps) h.facts; obtain ⟨c1, c2, c3⟩ := tighten_some b1 hC
 by_cases e : C i j = FREE
 ·exact e
 ·exfalso; obtain ⟨t, t1, t2, t3⟩ := clo_last c1 c3 hi; have k := (b2 t).mp ((c2 t).mp t1)
  have key : Sat C fun m => if m = i then t j - C i j - 1 else t m := (c2 _).mpr ((b2 _).mpr fun x hx ho => by
   have kx := k x hx ho
   rcases said_mem hx with ⟨m, hm, rfl⟩ | ⟨m, hm, rfl⟩
   ·have a : (rd_T27 evs m).f0 ≤ t (m : Int) - t 10 ∧ t (m : Int) - t 10 ≤ (rd_T27 evs m).f1 := kx; show (rd_T27 evs m).f0 ≤ (if (m : Int) = i then t j - C i j - 1 else t m) - (if (10 : Int) = i then t j - C i j - 1 else t 10) ∧ (if (m : Int) = i then t j - C i j - 1 else t m) - (if (10 : Int) = i then t j - C i j - 1 else t 10) ≤ (rd_T27 evs m).f1; rw [if_neg (by omega), if_neg (by omega)]; exact a
   ·have hg := h.gap _ (mem86 gaps m hm); have g1 := hg.a1; have g2 := hg.b1; have a : (rd_T86 gaps m).f2 ≤ t (rd_T86 gaps m).f1 - t (rd_T86 gaps m).f0 ∧ t (rd_T86 gaps m).f1 - t (rd_T86 gaps m).f0 ≤ (rd_T86 gaps m).f3 := kx; show (rd_T86 gaps m).f2 ≤ (if (rd_T86 gaps m).f1 = i then t j - C i j - 1 else t (rd_T86 gaps m).f1) - (if (rd_T86 gaps m).f0 = i then t j - C i j - 1 else t (rd_T86 gaps m).f0) ∧ (if (rd_T86 gaps m).f1 = i then t j - C i j - 1 else t (rd_T86 gaps m).f1) - (if (rd_T86 gaps m).f0 = i then t j - C i j - 1 else t (rd_T86 gaps m).f0) ≤ (rd_T86 gaps m).f3; rw [if_neg (by omega), if_neg (by omega)]
    exact a)
  have := key i j hi hj e; have this : (if j = i then t j - C i j - 1 else t j) - (if i = i then t j - C i j - 1 else t i) ≤ C i j := this; rw [if_neg (fun e => ij e.symm), if_pos rfl] at this; omega
theorem sure_inv : BInv 2000000 C ∧ Clo C 11 := by
 have hn := h.n; obtain ⟨b1, b2⟩ := bind_spec (fun _ => false) (saidL evs gaps) h.facts; obtain ⟨c1, c2, c3⟩ := tighten_some b1 hC; refine ⟨⟨c1.diag, fun i j hi hj => ?_, c1.sym⟩, c3⟩
 by_cases ij : i = j
 ·subst ij; right; rw [c1.diag i hi]; omega
 ·by_cases fr : C i j = FREE
  ·exact .inl fr
  ·right
   have ui : i < evs.length ∨ i = 10 := by
    by_cases a : i < evs.length
    ·exact .inl a
    ·by_cases b : i = 10
     ·exact .inr b
     ·exact absurd (sure_iso h hC i j hi hj ij (by omega) b) fr
   have uj : j < evs.length ∨ j = 10 := by
    by_cases a : j < evs.length
    ·exact .inl a
    ·by_cases b : j = 10
     ·exact .inr b
     ·exact absurd (sure_iso h hC j i hj hi (fun e => ij e.symm) (by omega) b) (c1.sym i j hi hj fr)
   obtain ⟨t, t1, t2, t3⟩ := clo_last c1 c3 hi; have f := sure_sat h hC t t1
   have bd : ∀ k : Int, In k → (k < evs.length ∨ k = 10) → -1000000 ≤ t k - t 10 ∧ t k - t 10 ≤ 1000000 := fun k hk u => by
    rcases u with u | rfl
    ·have a := f.2 k hk.1 u; have b := h.evAt k hk.1 u; have a : (rd_T27 evs k).f0 ≤ t k - t 10 ∧ t k - t 10 ≤ (rd_T27 evs k).f1 := a; omega
    ·omega
   have p := bd i hi ui; have q := bd j hj uj; have e := t3 j hj fr; omega
theorem sure_iff (x y : Int) (x0 : 0 ≤ x) (x1 : x < evs.length) (y0 : 0 ≤ y) (y1 : y < evs.length) : C y x < 0 ↔ ¬ ∃ t, Fit evs gaps t ∧ t y ≤ t x := by
 have hn := h.n; obtain ⟨c1, c3⟩ := sure_inv h hC
 have i10 : In 10 := ⟨by omega, by omega⟩
 have ix : In x := ⟨by omega, by omega⟩
 have iy : In y := ⟨by omega, by omega⟩
 have fr : C y x ≠ FREE := (c3 10 y x i10 (by omega) iy ix (sure_fin10 h hC y y0 y1).2 (sure_fin10 h hC x x0 x1).1).1; constructor
 ·rintro hlt ⟨t, ht, hle⟩; have := sure_unsat h hC t ht y x iy ix fr; have this : (if x = 10 then 0 else t x) - (if y = 10 then 0 else t y) ≤ C y x := this; rw [if_neg (by omega), if_neg (by omega)] at this; omega
 ·intro hno
  by_cases c : C y x < 0
  ·exact c
  ·exfalso; obtain ⟨t, t1, t2, t3⟩ := clo_last c1 c3 iy; refine hno ⟨_, sure_sat h hC t t1, ?_⟩; have := t3 x ix fr; show t y - t 10 ≤ t x - t 10; omega
end
def sureB (evs : List S27) (gaps : List S86) (x y : Int) : Bool := if x = y then false else !(solveR evs (gaps ++ [⟨y, x, 0, 2000000⟩])).2
theorem gap_more {evs : List S27} {gaps : List S86} (h : HistIs evs gaps) (x y : Int) (x0 : 0 ≤ x) (x1 : x < evs.length) (y0 : 0 ≤ y) (y1 : y < evs.length) (xy : x ≠ y) : ∀ g ∈ gaps ++ [(⟨y, x, 0, 2000000⟩ : S86)], GapIn evs.length g := fun g hg => by
 rcases List.mem_append.mp hg with hg | hg
 ·exact h.gap g hg
 ·rw [List.mem_singleton] at hg; subst hg; exact ⟨y0, y1, x0, x1, fun e => xy e.symm, by show (0 : Int) ≤ 2000000; omega, by show (-2000000 : Int) ≤ 0; omega, by show (2000000 : Int) ≤ 2000000; omega⟩
theorem sure_solve {evs : List S27} {gaps : List S86} (h : HistIs evs gaps) (x y : Int) (x0 : 0 ≤ x) (x1 : x < evs.length) (y0 : 0 ≤ y) (y1 : y < evs.length) : sureB evs gaps x y = true ↔ (x ≠ y ∧ ¬ ∃ t, Fit evs gaps t ∧ t y ≤ t x) := by
 unfold sureB
 by_cases xy : x = y
 ·rw [if_pos xy]; exact ⟨fun h => (by cases h), fun h => absurd xy h.1⟩
 ·rw [if_neg xy, Bool.not_eq_true', Bool.eq_false_iff, Ne, (solve_spec evs _ (gap_more h x y x0 x1 y0 y1 xy)).1]; refine ⟨fun hno => ⟨xy, fun ⟨t, ht, hle⟩ => hno ⟨t, fun g hg => ?_, ht.2⟩⟩, fun hno => fun ⟨t, h1, h2⟩ => hno.2 ⟨t, ⟨fun g hg => h1 g (List.mem_append.mpr (.inl hg)), h2⟩, ?_⟩⟩
  ·rcases List.mem_append.mp hg with hg | hg
   ·exact ht.1 g hg
   ·rw [List.mem_singleton] at hg; subst hg; have a := ht.2 x x0 x1; have b := ht.2 y y0 y1; have c := h.evAt x x0 x1; have d := h.evAt y y0 y1; show (0 : Int) ≤ t x - t y ∧ t x - t y ≤ 2000000; omega
  ·have : (0 : Int) ≤ t x - t y ∧ t x - t y ≤ 2000000 := h1 ⟨y, x, 0, 2000000⟩ (List.mem_append.mpr (.inr (List.mem_singleton.mpr rfl))); omega
theorem sure_skew {evs : List S27} {gaps : List S86} (h : HistIs evs gaps) {C : Int → Int → Int} (hC : tightenF (bindP (fun _ => false) (saidL evs gaps)) = some C) (x y : Int) (x0 : 0 ≤ x) (x1 : x < evs.length) (y0 : 0 ≤ y) (y1 : y < evs.length) : decide (C y x < 0) = sureB evs gaps x y := by
 have a := sure_iff h hC x y x0 x1 y0 y1; have b := sure_solve h x y x0 x1 y0 y1; rw [Bool.eq_iff_iff, decide_eq_true_iff, b, a]; refine ⟨fun hno => ⟨fun e => ?_, hno⟩, fun h => h.2⟩; subst e; obtain ⟨t, t1, t2, t3⟩ := clo_last (sure_inv h hC).1 (sure_inv h hC).2 (r := x) ⟨x0, by have := h.n; omega⟩; exact hno ⟨_, sure_sat h hC t t1, Int.le_refl _⟩
end Go.Proofs.Ytobcecgcegoooaa.Sk
namespace Go.Proofs.Ytobcecgcegoooaa.Sk
open Go.RowKit Go.Proofs.YtobcecgcegoooaaW.PrintWords Go.Proofs.YtobcecgcegoooaaW.PrintLast Go.Proofs.YtobcecgcegoooaaW.PrintMore
set_option linter.unusedVariables false
set_option linter.unusedSimpArgs false
section
variable {B : Int → Int → Int} {x y : Int}
theorem free_at (xy : x ≠ y) (a c : Int) : sayF B ⟨x, y, 0, FREE⟩ a c = if a = y ∧ c = x then mn (B y x) 0 else if a = x ∧ c = y then mn (B x y) FREE else B a c := by
 have e : sayF B ⟨x, y, 0, FREE⟩ = set2 (set2 B x y (mn (B x y) FREE)) y x (mn (set2 B x y (mn (B x y) FREE) y x) (wrap64 (-0))) := rfl; have e2 : set2 B x y (mn (B x y) FREE) y x = B y x := if_neg (by omega); have e3 : wrap64 (-(0 : Int)) = 0 := w64_mid (by omega) (by omega); rw [e, e2, e3]; rfl
theorem free_say (h : BInv 2000000 B) (ix : In x) (iy : In y) (xy : x ≠ y) (fx : B x y ≠ FREE) : BInv 2000000 (sayF B ⟨x, y, 0, FREE⟩) ∧ (∀ t, Sat (sayF B ⟨x, y, 0, FREE⟩) t ↔ Sat B t ∧ t x ≤ t y) ∧ ∀ i j, B i j ≠ FREE → sayF B ⟨x, y, 0, FREE⟩ i j ≠ FREE := by
 have fy := h.sym x y ix iy fx; have bx := (h.bd x y ix iy).resolve_left fx; have b0 := (h.bd y x iy ix).resolve_left fy
 have e1 : mn (B x y) FREE = B x y := by rw [mn_eq]; unfold FREE; omega
 have v0 : -2000000 ≤ mn (B y x) 0 ∧ mn (B y x) 0 ≤ 2000000 := by rw [mn_eq]; omega
 have n0 : mn (B y x) 0 ≠ FREE := by unfold FREE; omega
 have at1 : ∀ a c : Int, sayF B ⟨x, y, 0, FREE⟩ a c = if a = y ∧ c = x then mn (B y x) 0 else B a c := fun a c => by
  rw [free_at xy]
  by_cases c1 : a = y ∧ c = x
  ·rw [if_pos c1, if_pos c1]
  ·rw [if_neg c1, if_neg c1]
   by_cases c2 : a = x ∧ c = y
   ·rw [if_pos c2, e1, c2.1, c2.2]
   ·rw [if_neg c2]
 have keep : ∀ i j, B i j ≠ FREE → sayF B ⟨x, y, 0, FREE⟩ i j ≠ FREE := fun i j hf => by
  rw [at1]
  split
  ·exact n0
  ·exact hf
 refine ⟨⟨fun i hi => ?_, fun i j hi hj => ?_, fun i j hi hj hf => ?_⟩, fun t => ⟨fun ht => ⟨fun i j hi hj hf => ?_, ?_⟩, fun ⟨ht, hle⟩ i j hi hj hf => ?_⟩, keep⟩
 ·rw [at1, if_neg (by omega)]; exact h.diag i hi
 ·rw [at1]
  split
  ·exact .inr v0
  ·exact h.bd i j hi hj
 ·rw [at1] at hf
  by_cases c1 : i = y ∧ j = x
  ·obtain ⟨rfl, rfl⟩ := c1; exact keep _ _ fx
  ·rw [if_neg c1] at hf; exact keep _ _ (h.sym i j hi hj hf)
 ·have := ht i j hi hj (keep i j hf); rw [at1] at this
  by_cases c1 : i = y ∧ j = x
  ·rw [if_pos c1] at this; have l := mn_le1 (B y x) 0; obtain ⟨rfl, rfl⟩ := c1; omega
  ·rw [if_neg c1] at this; exact this
 ·have := ht y x iy ix (keep y x fy); rw [at1, if_pos ⟨rfl, rfl⟩] at this; have l := mn_le2 (B y x) 0; omega
 ·rw [at1] at hf ⊢
  by_cases c1 : i = y ∧ j = x
  ·rw [if_pos c1]; obtain ⟨rfl, rfl⟩ := c1; have := ht i j hi hj fy; rw [mn_eq]; omega
  ·rw [if_neg c1] at hf ⊢; exact ht i j hi hj hf
end
def sayC (C : Int → Int → Int) (l : List Int) : Nat → Int → Int → Int
 | 0 => C
 | n + 1 => sayF (sayC C l n) ⟨rd l (n : Int), rd l ((n + 1 : Nat) : Int), 0, FREE⟩
def stepG (l : List Int) (n : Nat) : S86 := ⟨rd l (n : Int), rd l ((n + 1 : Nat) : Int), 0, 2000000⟩
def gapsC (gaps : List S86) (l : List Int) (n : Nat) : List S86 := gaps ++ (List.range n).map (stepG l)
structure StepsOk (n : Nat) (l : List Int) : Prop where
 at0 : ∀ i : Nat, i < l.length → 0 ≤ rd l (i : Int)
 at1 : ∀ i : Nat, i < l.length → rd l (i : Int) < n
 ne : ∀ i : Nat, i + 1 < l.length → rd l (i : Int) ≠ rd l ((i + 1 : Nat) : Int)
theorem gapsC_in {evs : List S27} {gaps : List S86} (h : HistIs evs gaps) {l : List Int} (hl : StepsOk evs.length l) (n : Nat) (hn : n < l.length ∨ n = 0) : ∀ g ∈ gapsC gaps l n, GapIn evs.length g := fun g hg => by
 rcases List.mem_append.mp hg with hg | hg
 ·exact h.gap g hg
 ·obtain ⟨i, hi, rfl⟩ := List.mem_map.mp hg; have hi := List.mem_range.mp hi; have hn := hn.resolve_right (by omega); exact ⟨hl.at0 i (by omega), hl.at1 i (by omega), hl.at0 (i + 1) (by omega), hl.at1 (i + 1) (by omega), hl.ne i (by omega), by show (0 : Int) ≤ 2000000; omega, by show (-2000000 : Int) ≤ 0; omega, by show (2000000 : Int) ≤ 2000000; omega⟩
section
variable {evs : List S27} {gaps : List S86} (h : HistIs evs gaps) {C : Int → Int → Int} (hC : tightenF (bindP (fun _ => false) (saidL evs gaps)) = some C) {l : List Int} (hl : StepsOk evs.length l)
include h hC hl
theorem sayC_spec : ∀ n : Nat, n < l.length ∨ n = 0 → BInv 2000000 (sayC C l n) ∧ (∀ t, Sat (sayC C l n) t ↔ Sat C t ∧ ∀ i : Nat, i < n → t (rd l (i : Int)) ≤ t (rd l ((i + 1 : Nat) : Int))) ∧ ∀ i j, C i j ≠ FREE → sayC C l n i j ≠ FREE
 | 0, _ => ⟨(sure_inv h hC).1, fun t => ⟨fun ht => ⟨ht, fun i hi => by omega⟩, fun ht => ht.1⟩, fun i j hf => hf⟩
 | n + 1, hn => by
  have hn' : n + 1 < l.length := hn.resolve_right (by omega); obtain ⟨a, b, c⟩ := sayC_spec n (.inl (by omega)); have hev := h.n
  have i10 : In 10 := ⟨by omega, by omega⟩
  have x0 := hl.at0 n (by omega); have x1 := hl.at1 n (by omega); have y0 := hl.at0 (n + 1) hn'; have y1 := hl.at1 (n + 1) hn'
  have ix : In (rd l (n : Int)) := ⟨x0, by omega⟩
  have iy : In (rd l ((n + 1 : Nat) : Int)) := ⟨y0, by omega⟩
  have fr := ((sure_inv h hC).2 10 _ _ i10 (by omega) ix iy (sure_fin10 h hC _ x0 x1).2 (sure_fin10 h hC _ y0 y1).1).1; obtain ⟨d, e, f⟩ := free_say a ix iy (hl.ne n hn') (c _ _ fr); refine ⟨d, fun t => ?_, fun i j hf => f i j (c i j hf)⟩; show Sat (sayF (sayC C l n) ⟨rd l (n : Int), rd l ((n + 1 : Nat) : Int), 0, FREE⟩) t ↔ _; rw [e t, b t]; constructor
  ·rintro ⟨⟨p, q⟩, r⟩; refine ⟨p, fun i hi => ?_⟩
   by_cases ii : i = n
   ·subst ii; exact r
   ·exact q i (by omega)
  ·rintro ⟨p, q⟩; exact ⟨⟨p, fun i hi => q i (by omega)⟩, q n (by omega)⟩
theorem can_skew (n : Nat) (hn : n < l.length ∨ n = 0) : (tightenF (sayC C l n)).isSome = (solveR evs (gapsC gaps l n)).2 := by
 obtain ⟨a, b, _⟩ := sayC_spec h hC hl n hn; rw [Bool.eq_iff_iff, tighten_iff a, (solve_spec evs _ (gapsC_in h hl n hn)).1]; have hev := h.n; constructor
 ·rintro ⟨t, ht⟩; obtain ⟨p, q⟩ := (b t).mp ht; have f := sure_sat h hC t p; refine ⟨_, fun g hg => ?_, f.2⟩
  rcases List.mem_append.mp hg with hg | hg
  ·exact f.1 g hg
  ·obtain ⟨i, hi, rfl⟩ := List.mem_map.mp hg; have hi := List.mem_range.mp hi; have hn := hn.resolve_right (by omega); have r := q i hi; have e1 : _ ≤ t (rd l (i : Int)) - t 10 ∧ t (rd l (i : Int)) - t 10 ≤ _ := f.2 _ (hl.at0 i (by omega)) (hl.at1 i (by omega)); have e2 : _ ≤ t (rd l ((i + 1 : Nat) : Int)) - t 10 ∧ t (rd l ((i + 1 : Nat) : Int)) - t 10 ≤ _ := f.2 _ (hl.at0 (i + 1) (by omega)) (hl.at1 (i + 1) (by omega)); have e3 := h.evAt _ (hl.at0 i (by omega)) (hl.at1 i (by omega)); have e4 := h.evAt _ (hl.at0 (i + 1) (by omega)) (hl.at1 (i + 1) (by omega)); show (0 : Int) ≤ (t (rd l ((i + 1 : Nat) : Int)) - t 10) - (t (rd l (i : Int)) - t 10) ∧ (t (rd l ((i + 1 : Nat) : Int)) - t 10) - (t (rd l (i : Int)) - t 10) ≤ 2000000; omega
 ·rintro ⟨t, h1, h2⟩; refine ⟨_, (b _).mpr ⟨sure_unsat h hC t ⟨fun g hg => h1 g (List.mem_append.mpr (.inl hg)), h2⟩, fun i hi => ?_⟩⟩; have hn := hn.resolve_right (by omega); have r : (0 : Int) ≤ t (rd l ((i + 1 : Nat) : Int)) - t (rd l (i : Int)) ∧ _ := h1 (stepG l i) (List.mem_append.mpr (.inr (List.mem_map.mpr ⟨i, List.mem_range.mpr hi, rfl⟩))); have e1 := hl.at1 i (by omega); have e2 := hl.at1 (i + 1) (by omega)
  show (if rd l (i : Int) = 10 then 0 else t (rd l (i : Int))) ≤ (if rd l ((i + 1 : Nat) : Int) = 10 then 0 else t (rd l ((i + 1 : Nat) : Int)))
  rw [if_neg (by omega), if_neg (by omega)]; omega
end
end Go.Proofs.Ytobcecgcegoooaa.Sk
namespace Go.Proofs.Ytobcecgcegoooaa.Sk
open Go.RowKit Go.Proofs.YtobcecgcegoooaaW.PrintWords Go.Proofs.YtobcecgcegoooaaW.PrintLast Go.Proofs.YtobcecgcegoooaaW.PrintMore
set_option linter.unusedVariables false
set_option linter.unusedSimpArgs false
def freeOf (S : Int → Int → Bool) (left : List Int) : Option Int := left.find? fun y => !(left.any fun x => S x y)
def orderL (S : Int → Int → Bool) : Nat → List Int → List Int
 | 0, _ => []
 | n + 1, left => match freeOf S left with
  | none => []
  | some y => y :: orderL S n (left.erase y)
theorem free_mem {S : Int → Int → Bool} {left : List Int} {y : Int} (h : freeOf S left = some y) : y ∈ left ∧ ∀ x ∈ left, S x y = false := by
 refine ⟨List.mem_of_find?_eq_some h, fun x hx => ?_⟩; have := List.find?_some h; rw [Bool.not_eq_true', Bool.eq_false_iff] at this; rw [Bool.eq_false_iff]
 exact fun hs => this (List.any_eq_true.mpr ⟨x, hx, hs⟩)
theorem least_in (t : Int → Int) : ∀ left : List Int, left ≠ [] → ∃ y ∈ left, ∀ x ∈ left, t y ≤ t x
 | [], h => absurd rfl h
 | [a], _ => ⟨a, List.mem_singleton.mpr rfl, fun x hx => by rw [List.mem_singleton.mp hx]; exact Int.le_refl _⟩
 | a :: b :: l, _ => by
  obtain ⟨y, hy, hm⟩ := least_in t (b :: l) (by simp)
  by_cases c : t y ≤ t a
  ·refine ⟨y, List.mem_cons_of_mem _ hy, fun x hx => ?_⟩
   rcases List.mem_cons.mp hx with rfl | hx
   ·exact c
   ·exact hm x hx
  ·refine ⟨a, List.mem_cons_self, fun x hx => ?_⟩
   rcases List.mem_cons.mp hx with rfl | hx
   ·exact Int.le_refl _
   ·have := hm x hx; omega
theorem free_some {S : Int → Int → Bool} (t : Int → Int) {left : List Int} (hS : ∀ x ∈ left, ∀ y ∈ left, S x y = true → t x < t y) (hl : left ≠ []) : ∃ y, freeOf S left = some y := by
 obtain ⟨y, hy, hm⟩ := least_in t left hl
 cases hf : freeOf S left with
 | some z => exact ⟨z, rfl⟩
 | none =>
  exfalso; have := List.find?_eq_none.mp hf y hy; refine this ?_; rw [Bool.not_eq_true', Bool.eq_false_iff]; intro ha; obtain ⟨x, hx, hs⟩ := List.any_eq_true.mp ha; have := hS x hx y hy hs; have := hm x hx; omega
theorem idx_ne {z x : Int} (l : List Int) (h : z ≠ x) : (z :: l).idxOf x = l.idxOf x + 1 := by rw [List.idxOf_cons, show (z == x) = false from beq_eq_false_iff_ne.mpr h]; rfl
section
variable {S : Int → Int → Bool} (t : Int → Int)
theorem order_perm : ∀ (n : Nat) (left : List Int), left.length = n → (∀ x ∈ left, ∀ y ∈ left, S x y = true → t x < t y) → (orderL S n left).Perm left
 | 0, left, hl, _ => by rw [List.length_eq_zero_iff.mp hl]; exact List.Perm.refl _
 | n + 1, left, hl, hS => by
  obtain ⟨y, hy⟩ := free_some t hS (fun e => by rw [e] at hl; cases hl); have hm := (free_mem hy).1; show (match freeOf S left with | none => [] | some y => y :: orderL S n (left.erase y)).Perm left; rw [hy]
  have sub : ∀ x ∈ left.erase y, x ∈ left := fun x hx => List.mem_of_mem_erase hx
  exact (List.Perm.cons y (order_perm n (left.erase y) (by rw [List.length_erase_of_mem hm, hl]; rfl) fun a ha b hb => hS a (sub a ha) b (sub b hb))).trans (List.perm_cons_erase hm).symm
theorem order_ahead : ∀ (n : Nat) (left : List Int), left.length = n → (∀ x ∈ left, ∀ y ∈ left, S x y = true → t x < t y) → ∀ x ∈ left, ∀ y ∈ left, S x y = true → (orderL S n left).idxOf x < (orderL S n left).idxOf y
 | 0, left, hl, _, x, hx, _, _, _ => by rw [List.length_eq_zero_iff.mp hl] at hx; cases hx
 | n + 1, left, hl, hS, x, hx, y, hy, hs => by
  obtain ⟨z, hz⟩ := free_some t hS (fun e => by rw [e] at hl; cases hl); obtain ⟨hm, hno⟩ := free_mem hz
  have e : orderL S (n + 1) left = z :: orderL S n (left.erase z) := by
   show (match freeOf S left with | none => [] | some y => y :: orderL S n (left.erase y)) = _; rw [hz]
  have hxy : x ≠ y := fun e => by have := hS x hx y hy hs; rw [e] at this; omega
  have hyz : y ≠ z := fun e => by rw [e, hno x hx] at hs; cases hs
  rw [e]
  have sub : ∀ x ∈ left.erase z, x ∈ left := fun x hx => List.mem_of_mem_erase hx
  by_cases hxz : x = z
  ·subst hxz; rw [List.idxOf_cons_self, idx_ne _ (fun e => hyz e.symm)]; omega
  ·rw [idx_ne _ (fun e => hxz e.symm), idx_ne _ (fun e => hyz e.symm)]; have := order_ahead n (left.erase z) (by rw [List.length_erase_of_mem hm, hl]; rfl) (fun a ha b hb => hS a (sub a ha) b (sub b hb)) x ((List.mem_erase_of_ne hxz).mpr hx) y ((List.mem_erase_of_ne hyz).mpr hy) hs; omega
end
section
variable {evs : List S27} {gaps : List S86} (h : HistIs evs gaps)
include h
theorem sureB_lt {t : Int → Int} (ht : Fit evs gaps t) (x y : Int) (x0 : 0 ≤ x) (x1 : x < evs.length) (y0 : 0 ≤ y) (y1 : y < evs.length) (hs : sureB evs gaps x y = true) : t x < t y := by
 have := ((sure_solve h x y x0 x1 y0 y1).mp hs).2
 by_cases c : t x < t y
 ·exact c
 ·exact absurd ⟨t, ht, by omega⟩ this
theorem sureB_of {t0 : Int → Int} (ht0 : Fit evs gaps t0) (x y : Int) (x0 : 0 ≤ x) (x1 : x < evs.length) (y0 : 0 ≤ y) (y1 : y < evs.length) (hs : ∀ t, Fit evs gaps t → t x < t y) : sureB evs gaps x y = true := by
 refine (sure_solve h x y x0 x1 y0 y1).mpr ⟨fun e => ?_, fun ⟨t, ht, hle⟩ => ?_⟩
 ·have := hs t0 ht0; rw [e] at this; omega
 ·have := hs t ht; omega
theorem sureB_trans {t0 : Int → Int} (ht0 : Fit evs gaps t0) (x y z : Int) (x0 : 0 ≤ x) (x1 : x < evs.length) (y0 : 0 ≤ y) (y1 : y < evs.length) (z0 : 0 ≤ z) (z1 : z < evs.length) (hs : sureB evs gaps x y = true) (hs' : sureB evs gaps y z = true) : sureB evs gaps x z = true :=
 sureB_of h ht0 x z x0 x1 z0 z1 fun t ht => Int.lt_trans (sureB_lt h ht x y x0 x1 y0 y1 hs) (sureB_lt h ht y z y0 y1 z0 z1 hs')
end
end Go.Proofs.Ytobcecgcegoooaa.Sk
namespace Go.Proofs.Ytobcecgcegoooaa.Sk
open Go.RowKit Go.Proofs.YtobcecgcegoooaaW.PrintWords Go.Proofs.YtobcecgcegoooaaW.PrintLast Go.Proofs.YtobcecgcegoooaaW.PrintMore
set_option linter.unusedVariables false
set_option linter.unusedSimpArgs false
theorem rd_cons0 (x : Int) (l : List Int) : rd (x :: l) ((0 : Nat) : Int) = x := rfl
theorem rd_consS (x : Int) (l : List Int) (k : Nat) (hk : k < l.length) : rd (x :: l) ((k + 1 : Nat) : Int) = rd l (k : Int) := by
 have e1 : rd (x :: l) ((k + 1 : Nat) : Int) = (x :: l)[k + 1]'(by simp; omega) := by
  have h1 : k + 1 < (x :: l).length := by simp; omega
  have h2 : ((k + 1 : Nat) : Int).toNat = k + 1 := Int.toNat_natCast _; show (x :: l).getD ((k + 1 : Nat) : Int).toNat 0 = _; rw [h2, List.getD_eq_getElem?_getD, List.getElem?_eq_getElem h1]; rfl
 have e2 : rd l (k : Int) = l[k] := by simp [rd, List.getD_eq_getElem?_getD, hk]
 rw [e1, e2, List.getElem_cons_succ]
theorem idxGo_find (p : Int → Bool) : ∀ (l : List Int) (i : Int), (l.find? p = none ∧ idxGo p l i = -1) ∨ ∃ k : Nat, k < l.length ∧ idxGo p l i = i + k ∧ l.find? p = some (rd l (k : Int)) ∧ l.erase (rd l (k : Int)) = l.take k ++ l.drop (k + 1)
 | [], i => .inl ⟨rfl, rfl⟩
 | x :: l, i => by
  cases hp : p x with
  | true =>
   refine .inr ⟨0, by simp, ?_, ?_, ?_⟩
   ·show (if p x = true then i else _) = _; rw [if_pos hp]; simp
   ·rw [List.find?_cons, hp, rd_cons0]
   ·rw [rd_cons0, List.erase_cons_head]; rfl
  | false =>
   have e : idxGo p (x :: l) i = idxGo p l (i + 1) := by
    show (if p x = true then i else _) = _; rw [if_neg (by rw [hp]; simp)]
   have e2 : (x :: l).find? p = l.find? p := by rw [List.find?_cons, hp]
   rw [e, e2]
   rcases idxGo_find p l (i + 1) with ⟨a, b⟩ | ⟨k, hk, a, b, c⟩
   ·exact .inl ⟨a, b⟩
   ·have hpy := List.find?_some b
    have hne : ¬ (x == rd l (k : Int)) = true := by
     intro h; rw [beq_iff_eq] at h; rw [← h, hp] at hpy; cases hpy
    refine .inr ⟨k + 1, by simp; omega, by rw [a]; omega, by rw [rd_consS x l k hk, b], ?_⟩; rw [rd_consS x l k hk, List.erase_cons_tail hne, c]; rfl
def aheadS (C : Int → Int → Int) (x y : Int) : Bool := decide (C y x < 0)
theorem hasBefore_any (C : Int → Int → Int) (l : List Int) (y : Int) : hasBefore C l y = l.any fun x => aheadS C x y := by
 unfold hasBefore
 rcases idxGo_find (fun x => decide (C y x < 0)) l 0 with ⟨a, b⟩ | ⟨k, hk, a, b, c⟩
 ·rw [b, decide_eq_false (by omega)]; symm; rw [List.any_eq_false]; intro x hx; have := List.find?_eq_none.mp a x hx; exact this
 ·rw [a, decide_eq_true (by omega)]; symm; rw [List.any_eq_true]; refine ⟨_, List.mem_of_find?_eq_some b, ?_⟩; have := List.find?_some b; exact this
theorem orderGo_spec (C : Int → Int → Int) (t : Int → Int) : ∀ (n : Nat) (l out : List Int), l.length ≤ n → (∀ x ∈ l, ∀ y ∈ l, aheadS C x y = true → t x < t y) → orderGo C n l out = some (out ++ orderL (aheadS C) l.length l)
 | 0, l, out, hl, hS => by
  have : l = [] := List.length_eq_zero_iff.mp (by omega); subst this
  exact congrArg some (List.append_nil out).symm
 | n + 1, l, out, hl, hS => by
  by_cases h0 : l.length = 0
  ·have : l = [] := List.length_eq_zero_iff.mp h0; subst this; exact congrArg some (List.append_nil out).symm
  ·obtain ⟨y, hy⟩ := free_some t hS (fun e => h0 (by rw [e]; rfl))
   have ef : (fun y => !hasBefore C l y) = fun y => !(l.any fun x => aheadS C x y) := funext fun y => by rw [hasBefore_any]
   have hm := (free_mem hy).1
   have hi : l.find? (fun y => !hasBefore C l y) = some y := by rw [ef]; exact hy
   rcases idxGo_find (fun y => !hasBefore C l y) l 0 with ⟨a, b⟩ | ⟨k, hk, a, b, c⟩
   ·rw [hi] at a; cases a
   ·rw [hi] at b
    injection b with b
    have ek : idxGo (fun y => !hasBefore C l y) l 0 = (k : Int) := by rw [a]; omega
    simp only [orderGo]; rw [if_neg h0, ek, if_pos ⟨by omega, by omega⟩, Int.toNat_natCast, ← c, ← b]
    have sub : ∀ x ∈ l.erase y, x ∈ l := fun x hx => List.mem_of_mem_erase hx
    have hle := List.length_erase_of_mem hm; rw [orderGo_spec C t n (l.erase y) (out ++ [y]) (by omega) fun a ha b hb => hS a (sub a ha) b (sub b hb)]
    obtain ⟨m, hm2⟩ : ∃ m, l.length = m + 1 := ⟨l.length - 1, by omega⟩
    rw [hle, hm2]
    have e : orderL (aheadS C) (m + 1) l = y :: orderL (aheadS C) m (l.erase y) := by
     show (match freeOf (aheadS C) l with | none => [] | some y => y :: orderL (aheadS C) m (l.erase y)) = _; rw [hy]
    rw [e, Nat.add_sub_cancel, List.append_assoc]; rfl
theorem find_congr {p q : Int → Bool} : ∀ l : List Int, (∀ x ∈ l, p x = q x) → l.find? p = l.find? q
 | [], _ => rfl
 | x :: l, h => by
  rw [List.find?_cons, List.find?_cons, h x List.mem_cons_self, find_congr l fun y hy => h y (List.mem_cons_of_mem _ hy)]
theorem anyI_congr {p q : Int → Bool} : ∀ l : List Int, (∀ x ∈ l, p x = q x) → l.any p = l.any q
 | [], _ => rfl
 | x :: l, h => by
  rw [List.any_cons, List.any_cons, h x List.mem_cons_self, anyI_congr l fun y hy => h y (List.mem_cons_of_mem _ hy)]
theorem orderL_congr {S S' : Int → Int → Bool} : ∀ (n : Nat) (l : List Int), (∀ x ∈ l, ∀ y ∈ l, S x y = S' x y) → orderL S n l = orderL S' n l
 | 0, _, _ => rfl
 | n + 1, l, h => by
  have e : freeOf S l = freeOf S' l := find_congr l fun y hy => by rw [anyI_congr l fun x hx => h x hx y hy]
  show (match freeOf S l with | none => [] | some y => y :: orderL S n (l.erase y)) = (match freeOf S' l with | none => [] | some y => y :: orderL S' n (l.erase y))
  rw [e]
  cases freeOf S' l with
  | none => rfl
  | some y =>
   have sub : ∀ x ∈ l.erase y, x ∈ l := fun x hx => List.mem_of_mem_erase hx
   show y :: _ = y :: _; rw [orderL_congr n (l.erase y) fun a ha b hb => h a (sub a ha) b (sub b hb)]
theorem numsI_mem {n : Nat} {x : Int} : x ∈ nums n ↔ 0 ≤ x ∧ x < n := by
 unfold nums; rw [List.mem_map]; constructor
 ·rintro ⟨i, hi, rfl⟩; have := List.mem_range.mp hi; omega
 ·intro h; exact ⟨x.toNat, List.mem_range.mpr (by omega), by omega⟩
theorem nums_len (n : Nat) : (nums n).length = n := by unfold nums; rw [List.length_map, List.length_range]
theorem nums_nodup (n : Nat) : (nums n).Nodup := by
 unfold nums; refine List.pairwise_map.mpr ((List.nodup_range (n := n)).imp fun h e => h ?_); omega
theorem nums_sorted (n : Nat) : (nums n).Pairwise fun x y => decide (x ≤ y) = true := by
 unfold nums; refine List.pairwise_map.mpr ((List.pairwise_lt_range (n := n)).imp fun h => ?_); rw [decide_eq_true_iff]; omega
def orderR (evs : List S27) (gaps : List S86) : List Int × Int :=
 if histB evs gaps = true then if (solveR evs gaps).2 = true then (orderL (sureB evs gaps) evs.length (nums evs.length), 0) else ([], 5) else ([], 2)
theorem order_skew (evs : List S27) (gaps : List S86) (hn : evs.length ≤ 10) : skew_Order.f evs gaps = some (orderR evs gaps) := by
 unfold skew_Order.f orderR
 by_cases c : histB evs gaps = true
 ·have h := (histIs evs gaps).mp c; have ht := tighten_solve h; unfold tightR; rw [isHist_1000, Option.bind_some, if_pos c, if_pos h.ok, if_pos c]
  cases hC : tightenF (bindP (fun _ => false) (saidL evs gaps)) with
  | none =>
   rw [hC] at ht
   rw [if_neg (by rw [← ht]; simp), Option.bind_some, if_pos hn]
  | some C =>
   rw [hC] at ht; have ht : (solveR evs gaps).2 = true := ht.symm
   obtain ⟨t, hfit⟩ := ((solve_spec evs gaps h.gap).1.mp ht)
   rw [if_pos ht, Option.bind_some, if_pos hn]
   have eS : ∀ x ∈ nums evs.length, ∀ y ∈ nums evs.length, aheadS C x y = sureB evs gaps x y := fun x hx y hy => sure_skew h hC x y (numsI_mem.mp hx).1 (numsI_mem.mp hx).2 (numsI_mem.mp hy).1 (numsI_mem.mp hy).2
   have hS : ∀ x ∈ nums evs.length, ∀ y ∈ nums evs.length, aheadS C x y = true → t x < t y := fun x hx y hy hs => sureB_lt h hfit x y (numsI_mem.mp hx).1 (numsI_mem.mp hx).2 (numsI_mem.mp hy).1 (numsI_mem.mp hy).2 (by rw [← eS x hx y hy]; exact hs)
   show (orderGo C 10 (nums evs.length) []).map (fun l => (l, (0 : Int))) = _; rw [orderGo_spec C t 10 (nums evs.length) [] (by rw [nums_len]; exact hn) hS, nums_len, orderL_congr _ _ eS]; rfl
 ·rw [tightR_no c, Option.bind_some, if_pos hn, if_neg c]
theorem perm_of_sub : ∀ (l m : List Int), l.Nodup → (∀ x ∈ l, x ∈ m) → ∃ r, m.Perm (l ++ r)
 | [], m, _, _ => ⟨m, List.Perm.refl _⟩
 | x :: l, m, hn, hs => by
  obtain ⟨h1, h2⟩ := List.nodup_cons.mp hn
  obtain ⟨r, hr⟩ := perm_of_sub l (m.erase x) h2 fun y hy => (List.mem_erase_of_ne (fun e => h1 (by rw [← e]; exact hy))).mpr (hs y (List.mem_cons_of_mem _ hy))
  exact ⟨r, (List.perm_cons_erase (hs x List.mem_cons_self)).trans (List.Perm.cons x hr)⟩
theorem perm_nums {n : Nat} {l : List Int} (hl : l.length = n) (hn : l.Nodup) (hr : ∀ x ∈ l, 0 ≤ x ∧ x < n) : l.Perm (nums n) := by
 obtain ⟨r, h⟩ := perm_of_sub l (nums n) hn fun x hx => numsI_mem.mpr (hr x hx)
 have := h.length_eq; rw [nums_len, List.length_append] at this; have : r = [] := List.length_eq_zero_iff.mp (by omega); subst this; rw [List.append_nil] at h; exact h.symm
def ordB (n : Nat) : List Int → List Int → Bool
 | _, [] => true
 | seen, x :: l => if 0 ≤ x ∧ x < n ∧ x ∉ seen then ordB n (seen ++ [x]) l else false
theorem ordB_iff (n : Nat) : ∀ (l seen : List Int), ordB n seen l = true ↔ (l.Nodup ∧ (∀ x ∈ l, 0 ≤ x ∧ x < n) ∧ ∀ x ∈ l, x ∉ seen)
 | [], seen => ⟨fun _ => ⟨List.nodup_nil, fun x hx => (by cases hx), fun x hx => (by cases hx)⟩, fun _ => rfl⟩
 | x :: l, seen => by
  show (if 0 ≤ x ∧ x < n ∧ x ∉ seen then ordB n (seen ++ [x]) l else false) = true ↔ _
  by_cases c : 0 ≤ x ∧ x < n ∧ x ∉ seen
  ·rw [if_pos c, ordB_iff n l (seen ++ [x]), List.nodup_cons]; constructor
   ·rintro ⟨a, b, d⟩; refine ⟨⟨fun hx => d x hx (List.mem_append.mpr (.inr (List.mem_singleton.mpr rfl))), a⟩, fun y hy => ?_, fun y hy hs => ?_⟩
    ·rcases List.mem_cons.mp hy with rfl | hy
     ·exact ⟨c.1, c.2.1⟩
     ·exact b y hy
    ·rcases List.mem_cons.mp hy with rfl | hy
     ·exact c.2.2 hs
     ·exact d y hy (List.mem_append.mpr (.inl hs))
   ·rintro ⟨⟨a, a'⟩, b, d⟩; refine ⟨a', fun y hy => b y (List.mem_cons_of_mem _ hy), fun y hy hs => ?_⟩
    rcases List.mem_append.mp hs with hs | hs
    ·exact d y (List.mem_cons_of_mem _ hy) hs
    ·rw [List.mem_singleton] at hs; exact a (hs ▸ hy)
  ·rw [if_neg c]; refine ⟨fun h => (by cases h), fun ⟨_, b, d⟩ => absurd ⟨(b x List.mem_cons_self).1, (b x List.mem_cons_self).2, d x List.mem_cons_self⟩ c⟩
def isOrdB (n : Nat) (l : List Int) : Bool := decide (l.length = n) && ordB n [] l
theorem isOrdB_iff (n : Nat) (l : List Int) : isOrdB n l = true ↔ l.Perm (nums n) := by
 unfold isOrdB; rw [Bool.and_eq_true, decide_eq_true_iff, ordB_iff]; constructor
 ·rintro ⟨a, b, c, _⟩; exact perm_nums a b c
 ·intro h; exact ⟨h.length_eq.trans (nums_len n), (h.nodup_iff).mpr (nums_nodup n), fun x hx => numsI_mem.mp (h.mem_iff.mp hx), fun x _ hx => by cases hx⟩
theorem sorted_iff (n : Nat) (l : List Int) : (l.mergeSort fun x y => decide (x ≤ y)) = nums n ↔ isOrdB n l = true := by
 rw [isOrdB_iff]; constructor
 ·intro h; rw [← h]; exact (List.mergeSort_perm l _).symm
 ·intro h; have hp : (l.mergeSort fun x y => decide (x ≤ y)).Perm (nums n) := (List.mergeSort_perm l _).trans h; refine hp.eq_of_pairwise (le := fun x y => decide (x ≤ y) = true) (fun a b _ _ h1 h2 => ?_) (List.pairwise_mergeSort (fun a b c h1 h2 => ?_) (fun a b => ?_) l) (nums_sorted n)
  ·have h1 := Od h1; have h2 := Od h2; omega
  ·have h1 := Od h1; have h2 := Od h2; exact decide_eq_true (by omega)
  ·rw [Bool.or_eq_true, decide_eq_true_iff, decide_eq_true_iff]; omega
theorem steps_ok {n : Nat} {l : List Int} (h : isOrdB n l = true) : StepsOk n l := by
 have hp := (isOrdB_iff n l).mp h
 have hm : ∀ i : Nat, i < l.length → 0 ≤ rd l (i : Int) ∧ rd l (i : Int) < n := fun i hi => numsI_mem.mp (hp.mem_iff.mp (rdi_mem l i hi))
 have hnd := (hp.nodup_iff).mpr (nums_nodup n); refine ⟨fun i hi => (hm i hi).1, fun i hi => (hm i hi).2, fun i hi => ?_⟩
 have e1 : rd l (i : Int) = l[i] := by simp [rd, List.getD_eq_getElem?_getD, show i < l.length by omega]
 have e2 : rd l ((i + 1 : Nat) : Int) = l[i + 1] := by
  have hi' := hi
  simp [rd, List.getD_eq_getElem?_getD, hi']
 rw [e1, e2]; intro e; have := (List.pairwise_iff_getElem.mp hnd) i (i + 1) (by omega) hi (by omega); exact this e
end Go.Proofs.Ytobcecgcegoooaa.Sk
namespace Go.Proofs.Ytobcecgcegoooaa.Sk
open Go.RowKit Go.Proofs.YtobcecgcegoooaaW.PrintWords Go.Proofs.YtobcecgcegoooaaW.PrintLast Go.Proofs.YtobcecgcegoooaaW.PrintMore
set_option linter.unusedVariables false
set_option linter.unusedSimpArgs false
def sureQ (evs : List S27) (gaps : List S86) (x y : Int) : Bool × Int :=
 if histB evs gaps = true ∧ (0 ≤ x ∧ x < evs.length) ∧ 0 ≤ y ∧ y < evs.length then if (solveR evs gaps).2 = true then (sureB evs gaps x y, 0) else (false, 5) else (false, 2)
def canB (evs : List S27) (gaps : List S86) (l : List Int) : Bool := (solveR evs (gapsC gaps l (l.length - 1))).2
def canQ (evs : List S27) (gaps : List S86) (l : List Int) : Bool × Int :=
 if histB evs gaps = true ∧ isOrdB evs.length l = true then if (solveR evs gaps).2 = true then (canB evs gaps l, 0) else (false, 5) else (false, 2)
theorem within_iff (x : Int) (n : Nat) (hn : n ≤ 10) : (x ≥ 0 ∧ x ≤ wrap64 ((n : Int) - 1)) ↔ (0 ≤ x ∧ x < n) := by
 rw [show wrap64 ((n : Int) - 1) = (n : Int) - 1 from w64_mid (by omega) (by omega)]; omega
theorem sure_skew_f (evs : List S27) (gaps : List S86) (x y : Int) : skew_Sure.f evs gaps x y = some (sureQ evs gaps x y) := by
 unfold skew_Sure.f sureQ; rw [isHist_1000, Option.bind_some]
 by_cases c : histB evs gaps = true
 ·have h := (histIs evs gaps).mp c; rw [if_pos c]
  by_cases a : x ≥ 0 ∧ x ≤ wrap64 ((evs.length : Int) - 1)
  ·have a' := (within_iff x _ h.n).mp a; rw [if_pos a]
   by_cases b : y ≥ 0 ∧ y ≤ wrap64 ((evs.length : Int) - 1)
   ·have b' := (within_iff y _ h.n).mp b; rw [if_pos b, if_pos ⟨c, a', b'⟩]; have ht := tighten_solve h; unfold tightR; rw [isHist_1000, Option.bind_some, if_pos c, if_pos h.ok]
    cases hC : tightenF (bindP (fun _ => false) (saidL evs gaps)) with
    | none =>
     rw [hC] at ht
     rw [if_neg (show ¬ (solveR evs gaps).2 = true by rw [← ht]; simp), Option.bind_some, if_pos h.n]
    | some C =>
     rw [hC] at ht; have ht : (solveR evs gaps).2 = true := ht.symm; rw [if_pos ht, Option.bind_some, if_pos h.n]; show some (decide (C y x < 0), (0 : Int)) = _; rw [sure_skew h hC x y a'.1 a'.2 b'.1 b'.2]
   ·rw [if_neg b, if_neg (fun q => b ((within_iff y _ h.n).mpr q.2.2))]
  ·rw [if_neg a, if_neg (fun q => a ((within_iff x _ h.n).mpr q.2.1))]
 ·rw [if_neg c, if_neg (fun q => c q.1)]
theorem rd_idx {l : List Int} {x : Int} (hx : x ∈ l) : rd l (l.idxOf x : Int) = x := by
 have h1 := List.idxOf_lt_length_of_mem hx
 have e : rd l (l.idxOf x : Int) = l[l.idxOf x] := by simp [rd, List.getD_eq_getElem?_getD, h1]
 rw [e]; exact List.getElem_idxOf h1
theorem sureB_self (evs : List S27) (gaps : List S86) (x : Int) : sureB evs gaps x x = false := if_pos rfl
section
variable {evs : List S27} {gaps : List S86} (h : HistIs evs gaps)
include h
theorem can_mono {l : List Int} (hl : StepsOk evs.length l) (hc : canB evs gaps l = true) : ∃ t, Fit evs gaps t ∧ ∀ i d : Nat, i + d < l.length → t (rd l (i : Int)) ≤ t (rd l ((i + d : Nat) : Int)) := by
 have hw : l.length - 1 < l.length ∨ l.length - 1 = 0 := by omega
 have hin : ∀ g ∈ gapsC gaps l (l.length - 1), GapIn evs.length g := fun g hg => by
  rcases List.mem_append.mp hg with hg | hg
  ·exact h.gap g hg
  ·obtain ⟨i, hi, rfl⟩ := List.mem_map.mp hg; have hi := List.mem_range.mp hi; exact ⟨hl.at0 i (by omega), hl.at1 i (by omega), hl.at0 (i + 1) (by omega), hl.at1 (i + 1) (by omega), hl.ne i (by omega), by show (0 : Int) ≤ 2000000; omega, by show (-2000000 : Int) ≤ 0; omega, by show (2000000 : Int) ≤ 2000000; omega⟩
 obtain ⟨t, h1, h2⟩ := (solve_spec evs _ hin).1.mp hc; refine ⟨t, ⟨fun g hg => h1 g (List.mem_append.mpr (.inl hg)), h2⟩, ?_⟩; intro i d
 induction d with
 | zero => intro _; exact Int.le_refl _
 | succ d ih =>
  intro hd; have a := ih (by omega); have r : (0 : Int) ≤ t (rd l ((i + d + 1 : Nat) : Int)) - t (rd l ((i + d : Nat) : Int)) ∧ _ := h1 (stepG l (i + d)) (List.mem_append.mpr (.inr (List.mem_map.mpr ⟨i + d, List.mem_range.mpr (by omega), rfl⟩))); have e : i + (d + 1) = i + d + 1 := rfl; rw [e]; omega
theorem can_ahead {l : List Int} (hl : isOrdB evs.length l = true) (hc : canB evs gaps l = true) (x y : Int) (x0 : 0 ≤ x) (x1 : x < evs.length) (y0 : 0 ≤ y) (y1 : y < evs.length) (hs : sureB evs gaps x y = true) : l.idxOf x < l.idxOf y := by
 obtain ⟨t, ht, hm⟩ := can_mono h (steps_ok hl) hc; have hp := (isOrdB_iff evs.length l).mp hl; have hx : x ∈ l := hp.mem_iff.mpr (numsI_mem.mpr ⟨x0, x1⟩); have hy : y ∈ l := hp.mem_iff.mpr (numsI_mem.mpr ⟨y0, y1⟩); have hlt := sureB_lt h ht x y x0 x1 y0 y1 hs
 by_cases c : l.idxOf x < l.idxOf y
 ·exact c
 ·exfalso; have := hm (l.idxOf y) (l.idxOf x - l.idxOf y) (by have := List.idxOf_lt_length_of_mem hx; omega); rw [show l.idxOf y + (l.idxOf x - l.idxOf y) = l.idxOf x by omega, rd_idx hx, rd_idx hy] at this; omega
theorem order_facts (hs : (solveR evs gaps).2 = true) : isOrdB evs.length (orderL (sureB evs gaps) evs.length (nums evs.length)) = true ∧
  ∀ x y : Int, 0 ≤ x → x < evs.length → 0 ≤ y → y < evs.length → sureB evs gaps x y = true → (orderL (sureB evs gaps) evs.length (nums evs.length)).idxOf x < (orderL (sureB evs gaps) evs.length (nums evs.length)).idxOf y := by
 obtain ⟨t, ht⟩ := (solve_spec evs gaps h.gap).1.mp hs
 have hS : ∀ x ∈ nums evs.length, ∀ y ∈ nums evs.length, sureB evs gaps x y = true → t x < t y := fun x hx y hy hq => sureB_lt h ht x y (numsI_mem.mp hx).1 (numsI_mem.mp hx).2 (numsI_mem.mp hy).1 (numsI_mem.mp hy).2 hq
 refine ⟨(isOrdB_iff _ _).mpr (order_perm t _ _ (nums_len _) hS), fun x y x0 x1 y0 y1 hq => order_ahead t _ _ (nums_len _) hS x (numsI_mem.mpr ⟨x0, x1⟩) y (numsI_mem.mpr ⟨y0, y1⟩) hq⟩
theorem spans_sure (hs : (solveR evs gaps).2 = true) (x y : Int) (x0 : 0 ≤ x) (x1 : x < evs.length) (y0 : 0 ≤ y) (y1 : y < evs.length) (hl : (rd_T27 (solveR evs gaps).1 x).f1 < (rd_T27 (solveR evs gaps).1 y).f0) : sureB evs gaps x y = true := by
 obtain ⟨t0, ht0⟩ := (solve_spec evs gaps h.gap).1.mp hs; have T := (solve_spec evs gaps h.gap).2 (solveR evs gaps).1 (by rw [← hs])
 refine sureB_of h ht0 x y x0 x1 y0 y1 fun t ht => ?_
 have a := (T.all t ht x x0 x1).2; have b := (T.all t ht y y0 y1).1; omega
end
theorem ins_perm (l : List Int) (k : Nat) (n : Nat) (h : l.Perm (nums n)) : (l.take k ++ (n : Int) :: l.drop k).Perm (nums (n + 1)) := by
 have e : nums (n + 1) = nums n ++ [(n : Int)] := by unfold nums; rw [List.range_succ, List.map_append]; rfl
 rw [e]; refine List.perm_middle.trans ?_; rw [List.take_append_drop]; exact (List.Perm.cons _ h).trans (List.perm_append_singleton _ _).symm
end Go.Proofs.Ytobcecgcegoooaa.Sk
namespace Go.Proofs.Ytobcecgcegoooaa.Sk
open Go.RowKit Go.Proofs.YtobcecgcegoooaaW.PrintWords Go.Proofs.YtobcecgcegoooaaW.PrintLast Go.Proofs.YtobcecgcegoooaaW.PrintMore
set_option linter.unusedVariables false
set_option linter.unusedSimpArgs false
def skew_Can.f (evs : List S27) (gaps : List S86) (l : List Int) : Option (Bool × Int) := some (canQ evs gaps l)
theorem tightR_yes {evs : List S27} {gaps : List S86} (c : histB evs gaps = true) : (∃ C, tightenF (bindP (fun _ => false) (saidL evs gaps)) = some C ∧ tightR evs gaps = some (some C, 0) ∧ (solveR evs gaps).2 = true) ∨ (tightR evs gaps = some (none, 5) ∧ (solveR evs gaps).2 = false) := by
 have h := (histIs evs gaps).mp c; have ht := tighten_solve h; unfold tightR; rw [isHist_1000, Option.bind_some, if_pos c, if_pos h.ok]
 cases hC : tightenF (bindP (fun _ => false) (saidL evs gaps)) with
 | none => exact .inr ⟨rfl, by rw [← ht, hC]; rfl⟩
 | some C => exact .inl ⟨C, rfl, rfl, by rw [← ht, hC]; rfl⟩
theorem srt_nums {n : Nat} {l : List Int} (hl : l.length = n) (h : ∀ j : Nat, j < n → rd (srt l) (j : Int) = j) : srt l = nums n := by
 apply List.ext_getElem
 ·rw [srt_len, hl, nums_len]
 ·intro i h1 h2
  have hi : i < n := by rw [nums_len] at h2; exact h2
  have e1 : rd (srt l) (i : Int) = (srt l)[i] := by simp [rd, List.getD_eq_getElem?_getD, h1]
  rw [← e1, h i hi]
  simp [nums]
theorem nums_rd {n j : Nat} (h : j < n) : rd (nums n) (j : Int) = j := by simp [rd, nums, List.getD_eq_getElem?_getD, h]
theorem canQ_no1 {evs : List S27} {gaps : List S86} {l : List Int} (h : histB evs gaps = false) : canQ evs gaps l = (false, 2) := if_neg (fun q => by rw [h] at q; exact absurd q.1 (by simp))
theorem canQ_no2 {evs : List S27} {gaps : List S86} {l : List Int} (h : isOrdB evs.length l = false) : canQ evs gaps l = (false, 2) := if_neg (fun q => by rw [h] at q; exact absurd q.2 (by simp))
theorem ordB_len {n : Nat} {l : List Int} (h : l.length ≠ n) : isOrdB n l = false := by unfold isOrdB; rw [decide_eq_false h]; rfl
theorem canQ_none {evs : List S27} {gaps : List S86} {l : List Int} (c : histB evs gaps = true) (h : isOrdB evs.length l = true) (s : (solveR evs gaps).2 = false) : canQ evs gaps l = (false, 5) := by
 unfold canQ; rw [if_pos ⟨c, h⟩, if_neg (by rw [s]; simp)]
theorem canQ_some {evs : List S27} {gaps : List S86} {l : List Int} {C : Int → Int → Int} (c : histB evs gaps = true) (h : isOrdB evs.length l = true) (s : (solveR evs gaps).2 = true) (hC : tightenF (bindP (fun _ => false) (saidL evs gaps)) = some C) : canQ evs gaps l = ((tightenF (sayC C l (l.length - 1))).isSome, 0) := by
 unfold canQ canB; rw [if_pos ⟨c, h⟩, if_pos s, can_skew ((histIs evs gaps).mp c) hC (steps_ok h) (l.length - 1) (by omega)]
set_option maxHeartbeats 4000000 in
set_option maxRecDepth 100000 in
theorem skew_Can.calls (A0 : Option Addr) (c0 : Nat) (evs : List S27) (A1 : Option Addr) (c1 : Nat) (gaps : List S86) (A2 : Option Addr) (c2 : Nat) (l : List Int) (r1 : Bool) (r2 : Int) (w : World) (hC0 : Kd.C k27 w A0 evs.length evs) (hc0 : evs.length ≤ c0) (hC1 : Kd.C k86 w A1 gaps.length gaps) (hc1 : gaps.length ≤ c1) (hC2 : Kd.C (Kd.int .i64) w A2 l.length l) (hc2 : l.length ≤ c2) (h : skew_Can.f evs gaps l = some (r1, r2)) :
  Calls Try.prog 62 #[.agg #[.slice A0 evs.length c0, .slice A1 gaps.length c1], .slice A2 l.length c2] w fun e w' => e = .returned (.tuple #[.bool r1, .int .i64 r2]) ∧ Below w.heap.size w w' := by
 have h : canQ evs gaps l = (r1, r2) := Option.some.inj h; have hb0 := Ba (Below.refl w.heap.size w) (.cells #[.slice A0 evs.length c0, .slice A1 gaps.length c1] 39); have hk0 := blk_new w (.cells #[.slice A0 evs.length c0, .slice A1 gaps.length c1] 39); have HIs := Aa (skew_isHist.calls 1000 A0 c0 evs A1 c1 gaps _ _ (Kd.C_below hC0 hb0) hc0 (Kd.C_below hC1 hb0) hc1 (isHist_1000 evs gaps)); have x0 := cell_at hk0 0 (.slice A0 evs.length c0) rfl; have x1 := cell_at hk0 1 (.slice A1 gaps.length c1) rfl; have HB0 := Aa hb0; have HK0 := Aa hk0; have HC0 := Aa hC0; have HC1 := Aa hC1; have HC2 := Aa hC2; have Hc0 := Aa hc0; have Hc1 := Aa hc1; have Hc2 := Aa hc2; have H := Aa h; clear hb0 hk0 hC0 hC1 hC2 hc0 hc1 hc2 h
 cases hh : histB evs gaps with
 | false =>
  have h := H.out; rw [canQ_no1 hh] at h
  injection h with h1 h2
  subst h1; subst h2; have HI2 := Aa HIs.out; rw [hh] at HI2; clear HIs hh H
  go_enter Try.func62, Try.ntmps62
  go_wp2_with (go_at_call 75; refine HI2.out.mono ?_; rintro e w1 ⟨rfl, hb⟩; have HB1 := Aa (Bp HB0.out hb); clear hb)
  go_ret2
  exact ⟨rfl, HB1.out⟩
 | true =>
  have HH := Aa hh; have HI2 := Aa HIs.out; rw [hh] at HI2; clear HIs hh; have HN10 := Aa ((histIs evs gaps).mp HH.out).n
  by_cases hlen : l.length = evs.length
  ·have hlb : ((l.length : Int) != (evs.length : Int)) = false := by rw [hlen]; simp
   have HL := Aa hlen; clear hlen
   go_enter Try.func62, Try.ntmps62
   go_wp2_with fail
   refine HI2.out.mono ?_; rintro e w1 ⟨rfl, hb⟩; have HB1 := Aa (Bp HB0.out hb); have hk1 := blk_below HK0.out hb; have HK1 := Aa hk1; have y0 := cell_at hk1 0 (.slice A0 evs.length c0) rfl; clear hb HI2 x0 x1 hk1 HK0
   go_wp2_with fail
   refine (values_calls A2 l.length c2 _).mono ?_; rintro e w2 ⟨rfl, rfl⟩; clear y0 hlb; have HS := Aa (sorted_calls A2 c2 l w1.heap.size (w1.alloc (.cells #[.slice A2 l.length c2] 40)) (Kd.C_alloc (Kd.C_below HC2.out HB1.out) _) (by rw [World.size_alloc]; omega) (blk_new w1 _) (by have := HN10.out; have := HL.out; omega))
   go_wp2_with fail
   refine HS.out.mono ?_; rintro e w3 ⟨A3, c3, rfl, hC3, hb⟩; have HB3 := Aa (Bp HB1.out (Bp (Ba (Below.refl w1.heap.size w1) (.cells #[.slice A2 l.length c2] 40)) hb)); have HK3 := Aa (blk_below (Ka HK1.out (.cells #[.slice A2 l.length c2] 40)) hb); have HC3 := Aa hC3; clear hb HS hC3 HK1 HB1
   go_wp2_with fail
   go_loopw [28] (fun v W => ∃ i : Nat, i ≤ l.length ∧ v = .int .i64 (i : Int) ∧ Aside0 (∀ j : Nat, j < i → rd (srt l) (j : Int) = j) ∧ Aside0 (Below w3.heap.size w3 W)) (fun v _ => l.length - (intOf v).toNat)
   case atStart => exact ⟨0, Nat.zero_le _, rfl, ⟨fun j hj => by omega⟩, ⟨Below.refl _ _⟩⟩
   case round =>
    obtain ⟨i, hi, rfl, HJ, HBi⟩ := hrel
    by_cases hlt : (i : Int) < l.length
    ·obtain ⟨ad, e1, hx0⟩ := Kd.at_int (Kd.C_below HC3.out HBi.out) (i : Int) (by omega) hlt; cases e1; rw [Int.toNat_natCast] at hx0
     obtain ⟨x, hx⟩ : ∃ x, rd (srt l) (i : Int) = x := ⟨_, rfl⟩
     rw [hx] at hx0; have HX := Aa hx; have HBx := Aa (show Below w3.heap.size w3 wr from HBi.out); clear HBi hx
     have hi1000 : (i : Int) < 1000 := by have := HN10.out; have := HL.out; omega
     by_cases hix : (i : Int) = x
     ·have hb1 : ((i : Int) != x) = false := by rw [hix]; simp
      have HJ2 := Aa (show ∀ j : Nat, j < i + 1 → rd (srt l) (j : Int) = j from fun j hj => by
       by_cases e : j = i
       ·subst e; rw [HX.out, hix]
       ·exact HJ.out j (by omega))
      clear hix HJ; go_wp2
      go_roundw
      case rel => exact ⟨i + 1, by omega, by simp, HJ2, HBx⟩
      case measure => simp [intOf]; omega
     ·have hb1 : ((i : Int) != x) = true := by rw [bne_iff_ne]; exact hix
      have hno : isOrdB evs.length l = false := by
       cases ho : isOrdB evs.length l with
       | false => rfl
       | true =>
        exfalso; have e := (sorted_iff evs.length l).mpr ho; have e : srt l = nums evs.length := e; have h2 := HX.out; rw [e, nums_rd (by have := HL.out; omega)] at h2; exact hix h2
      have h := H.out; rw [canQ_no2 hno] at h
      injection h with h1 h2
      subst h1; subst h2; clear hix hno H HJ; go_wp2; go_ret2; exact ⟨rfl, Bp HB3.out HBx.out⟩
    ·obtain rfl : i = l.length := by omega
     have hord : isOrdB evs.length l = true := (sorted_iff evs.length l).mp (srt_nums HL.out (fun j hj => HJ.out j (by have := HL.out; omega))); have HO := Aa hord; have hb4 : Below w.heap.size w wr := Bp HB3.out HBi.out; have HB4 := Aa hb4; have hk4 := blk_below HK3.out HBi.out; have y0 := cell_at hk4 0 (.slice A0 evs.length c0) rfl; have y1 := cell_at hk4 1 (.slice A1 gaps.length c1) rfl; clear hord HJ HBi hb4 hk4 HK3 HB3 HC3
     rcases tightR_yes HH.out with ⟨C, hC, hT, hs⟩ | ⟨hT, hs⟩
     ·have HT := Aa (tight_calls A0 A1 c0 c1 evs gaps (some C) 0 wr (Kd.C_below HC0.out HB4.out) Hc0.out (Kd.C_below HC1.out HB4.out) Hc1.out hT); have HQ := Aa ((canQ_some HH.out HO.out hs hC).symm.trans H.out); have HSt := Aa (steps_ok HO.out); clear hC hT hs H
      go_wp2_with fail
      refine HT.out.mono ?_; rintro e w5 ⟨p, rfl, hs, _, hz, hb⟩; obtain ⟨b, rfl, hbl, hbd⟩ := hs C rfl; have HB5 := Aa (Bp HB4.out hb); have HBd := Aa hbd; have HBl := Aa (show w.heap.size ≤ b by have := HB4.out.size; omega); clear hb hs hz HT hbd hbl y0 y1; have hB1 := HBd.out; clear hB1
      go_wp2_with fail
      go_loopw [11] (fun v W => ∃ k : Nat, 1 ≤ k ∧ (k ≤ l.length ∨ k = 1) ∧ v = .int .i64 (k : Int) ∧ Aside0 (Bd W b (.slice A0 evs.length c0) (.slice A1 gaps.length c1) (sayC C l (k - 1))) ∧ Aside0 (w.heap.size ≤ b) ∧ Aside0 (Below w.heap.size w W)) (fun v _ => l.length - (intOf v).toNat)
      case atStart => exact ⟨1, by omega, .inr rfl, rfl, HBd, HBl, HB5⟩
      case round =>
       clear HBd HB5; obtain ⟨k, hk1, hk2, rfl, HBd, _, HB⟩ := hrel
       by_cases hlt : (k : Int) < l.length
       ·have hB : Below w.heap.size w wr := HB.out; obtain ⟨ad, e1, hx0⟩ := Kd.at_int (Kd.C_below HC2.out hB) ((k : Int) - 1) (by omega) (by omega); obtain ⟨ad', e2, hx1⟩ := Kd.at_int (Kd.C_below HC2.out hB) (k : Int) (by omega) hlt; subst e1
        injection e2 with e2
        subst e2; rw [Int.toNat_natCast] at hx1
        have em : ((k : Int) - 1) = ((k - 1 : Nat) : Int) := by omega
        have hst : sayC C l (k - 1 + 1) = sayF (sayC C l (k - 1)) ⟨rd l ((k - 1 : Nat) : Int), rd l ((k - 1 + 1 : Nat) : Int), 0, FREE⟩ := rfl; rw [show k - 1 + 1 = k by omega, ← em] at hst
        have px : 0 ≤ rd l ((k : Int) - 1) ∧ rd l ((k : Int) - 1) < 11 := by
         rw [em]; have a := HSt.out.at0 (k - 1) (by omega); have b := HSt.out.at1 (k - 1) (by omega); have := HN10.out; omega
        have py : 0 ≤ rd l (k : Int) ∧ rd l (k : Int) < 11 := by
         have a := HSt.out.at0 k (by omega); have b := HSt.out.at1 k (by omega); have := HN10.out; omega
        obtain ⟨x, hx⟩ : ∃ x, rd l ((k : Int) - 1) = x := ⟨_, rfl⟩
        obtain ⟨y, hy⟩ : ∃ y, rd l (k : Int) = y := ⟨_, rfl⟩
        rw [hx] at hx0 px hst; rw [hy] at hx1 py hst; have PX := Aa px; have PY := Aa py; have HSt2 := Aa hst
        have hk1000 : (k : Int) < 1000 := by have := HN10.out; have := HL.out; omega
        have hz : ∃ z : Int, IntKind.i64.wrap ((k : Int) - 1) = z ∧ z = (k : Int) - 1 := ⟨_, i64wrap _, w64_mid (by omega) (by omega)⟩
        obtain ⟨z, hz, hze⟩ := hz
        have hz0 : 0 ≤ z := by omega
        have hz1 : z < l.length := by omega
        rw [← hze] at hx0; have HBr := Aa hB; have HX0 := Aa hx0; have HX1 := Aa hx1; have HBx := Aa (show Bd wr b (.slice A0 evs.length c0) (.slice A1 gaps.length c1) (sayC C l (k - 1)) from HBd.out); obtain ⟨_, e3, hw0⟩ := Kd.at_int HC2.out z hz0 hz1; obtain ⟨_, e4, hw1⟩ := Kd.at_int HC2.out (k : Int) (by omega) hlt; cases e3; cases e4; rw [Int.toNat_natCast] at hw1; rw [hze, hx, ← hze] at hw0; rw [hy] at hw1
        have S0 : ∀ {W : World}, Below w.heap.size w W → Below w.heap.size w W ∧ W.cell? (ad.add z.toNat) = some (.int .i64 x) ∧ W.cell? (ad.add k) = some (.int .i64 y) := fun h => ⟨h, pw_cell_below h hw0, pw_cell_below h hw1⟩
        clear hst px py em hx hy hB hx0 hx1 HB HBd hze hw0 hw1
        go_wp2_with fail
        go_region_held3 (fun W => Below w.heap.size w W ∧ W.cell? (ad.add z.toNat) = some (.int .i64 x) ∧ W.cell? (ad.add k) = some (.int .i64 y))
         (first | exact S0 (Dn HBr.out) | (go_split_ands; first | exact S0 (Dn (by assumption)) | exact S0 (Below.grown (by assumption) hgr (by have := HBr.out.size; simp; omega) (fun r e => by injection e with e; have := HBl.out; omega))) | (trace_state; fail))
         (first | (go_at_call 117; go_split_ands; (with_reducible refine (say_calls b _ _ (sayC C l (k - 1)) ⟨x, y, 0, 1099511627776⟩ _ HBx.out.drew PX.out PY.out).mono ?_); rintro e w' ⟨rfl, hbd, hgr⟩))
        rename_i hS
        have HB2 := Aa (show Below w.heap.size w w' from hS.1); have HBd2 := Aa (show Bd w' b (.slice A0 evs.length c0) (.slice A1 gaps.length c1) (sayC C l (k + 1 - 1)) by rw [show k + 1 - 1 = k from rfl, HSt2.out]; exact hbd); clear hbd hgr hS; go_wp2
        go_roundw
        case rel => exact ⟨k + 1, by omega, .inl (by omega), by simp, HBd2, HBl, HB2⟩
        case measure => simp [intOf]; omega
       ·have e1 : k - 1 = l.length - 1 := by omega
        have HBr := Aa (show Below w.heap.size w wr from HB.out)
        have hbd : Bd wr b (.slice A0 evs.length c0) (.slice A1 gaps.length c1) (sayC C l (l.length - 1)) := by rw [← e1]; exact HBd.out
        have HT := Aa (tighten_calls b w.heap.size _ _ _ _ hbd HBl.out); have h := HQ.out
        injection h with h1 h2
        subst h1; subst h2; have z1 := hbd.c0; clear hbd e1 HB HBd HQ
        go_wp2_with fail
        refine HT.out.mono ?_; rintro e w6 ⟨rfl, _, hb⟩; have HB6 := Aa (HBr.out.trans hb); clear hb HT z1; go_wp2; go_ret2; exact ⟨rfl, HB6.out⟩
     ·have HT := Aa (tight_calls A0 A1 c0 c1 evs gaps none 5 wr (Kd.C_below HC0.out HB4.out) Hc0.out (Kd.C_below HC1.out HB4.out) Hc1.out hT); have h := (canQ_none HH.out HO.out hs).symm.trans H.out
      injection h with h1 h2
      subst h1; subst h2; clear hT hs H
      go_wp2_with (go_at_call 107; refine HT.out.mono ?_; rintro e w5 ⟨p, rfl, _, hn, _, hb⟩; have HB5 := Aa (Bp HB4.out hb); clear hb hn)
      go_ret2; exact ⟨rfl, HB5.out⟩
  ·have hlb : ((l.length : Int) != (evs.length : Int)) = true := by rw [bne_iff_ne]; omega
   have h := H.out; rw [canQ_no2 (ordB_len hlen)] at h
   injection h with h1 h2
   subst h1; subst h2; clear hlen H
   go_enter Try.func62, Try.ntmps62
   go_wp2_with fail
   refine HI2.out.mono ?_; rintro e w1 ⟨rfl, hb⟩; have HB1 := Aa (Bp HB0.out hb); have y0 := cell_at (blk_below HK0.out hb) 0 (.slice A0 evs.length c0) rfl; clear hb HI2 x0 x1 HK0; go_wp2; go_ret2; exact ⟨rfl, HB1.out⟩
end Go.Proofs.Ytobcecgcegoooaa.Sk
namespace Go.Proofs.Ytobcecgcegoooaa.Sk
open Go.RowKit Go.Shelf Go.Proofs.YtobcecgcegoooaaW.PrintWords Go.Proofs.YtobcecgcegoooaaW.PrintLast Go.Proofs.YtobcecgcegoooaaW.PrintMore
set_option linter.unusedVariables false
set_option linter.unusedSimpArgs false
theorem put_blk {b : Nat} {t : TypeId} : ∀ (vs : List Value) (o : Nat) (W : World) (cur : Array Value), W.heap[b]? = some (.cells cur t (0, 0)) → o + vs.length ≤ cur.size →
  ∃ cur' : Array Value, (W.setCells b o vs).heap[b]? = some (.cells cur' t (0, 0)) ∧ cur'.size = cur.size ∧ ∀ j, cur'[j]? = if o ≤ j ∧ j < o + vs.length then vs[j - o]? else cur[j]?
 | [], o, W, cur, h, _ => ⟨cur, h, rfl, fun j => (if_neg (by intro ⟨a, b⟩; rw [List.length_nil] at b; omega)).symm⟩
 | v :: r, o, W, cur, h, hs => by
  have hs : o + (r.length + 1) ≤ cur.size := hs; obtain ⟨cur', h1, h2, h3⟩ := put_blk r (o + 1) (W.setCell ⟨b, o, none⟩ v) (cur.setIfInBounds o v) (blk_put h o v rfl) (by rw [Array.size_setIfInBounds]; omega); refine ⟨cur', h1, by rw [h2, Array.size_setIfInBounds], fun j => ?_⟩; rw [h3 j, List.length_cons]
  by_cases c : j = o
  ·subst c; rw [if_neg (by omega), if_pos ⟨by omega, by omega⟩, Nat.sub_self, Array.getElem?_setIfInBounds_self_of_lt (by omega)]; rfl
  ·rw [Array.getElem?_setIfInBounds_ne (by omega)]
   by_cases d : o + 1 ≤ j ∧ j < o + 1 + r.length
   ·rw [if_pos d, if_pos ⟨by omega, by omega⟩, show j - o = (j - (o + 1)) + 1 by omega]; rfl
   ·rw [if_neg d, if_neg (by omega)]
theorem put_far {b : Nat} : ∀ (vs : List Value) (o : Nat) (W : World) (k : Nat), k ≠ b → (W.setCells b o vs).heap[k]? = W.heap[k]?
 | [], _, _, _, _ => rfl
 | v :: r, o, W, k, h => (put_far r (o + 1) (W.setCell ⟨b, o, none⟩ v) k h).trans (Below.heap_setCell _ _ _ _ h)
theorem put_grown {b : Nat} : ∀ (vs : List Value) (o : Nat) (W : World), W.grownBy (W.setCells b o vs) (some b)
 | [], _, _ => World.grownBy.refl _ _
 | v :: r, o, W => (gb_put (World.grownBy.refl W (some b)) o v).trans (put_grown r (o + 1) _)
theorem grown_drew {w W : World} {r : Option Nat} (h : w.drew.grownBy W r) : w.grownBy W r := ⟨h.os, h.tape, h.output, h.size, h.block⟩
theorem zc_size (n : Nat) : (Builtin.zeroCells (Value.int .i64 0).cells n).size = n := by
 unfold Builtin.zeroCells; rw [Array.size_map, Array.size_range]; exact Nat.mul_one n
theorem ins_enc (l : List Int) (i : Nat) (x : Int) : encs (Value.int .i64) (l.take i ++ x :: l.drop i) = (encs (Value.int .i64) l).take i ++ Value.int .i64 x :: (encs (Value.int .i64) l).drop i := by
 simp [encs, List.map_take, List.map_drop]
theorem ins_at (cs : List Value) (i : Nat) (X : Value) (hi : i ≤ cs.length) (j : Nat) : (cs.take i ++ X :: cs.drop i)[j]? = if j < i then cs[j]? else if j = i then some X else cs[j - 1]? := by
 rw [List.getElem?_append]
 by_cases c : j < i
 ·rw [if_pos (by rw [List.length_take]; omega), if_pos c, List.getElem?_take, if_pos c]
 ·rw [if_neg (by rw [List.length_take]; omega), if_neg c, List.length_take, Nat.min_eq_left hi]
  by_cases d : j = i
  ·rw [if_pos d, d, Nat.sub_self]; rfl
  ·rw [if_neg d, show j - i = (j - i - 1) + 1 by omega, List.getElem?_cons_succ, List.getElem?_drop, show i + (j - i - 1) = j - 1 by omega]
theorem ins_own {w' : World} {base g cap : Nat} {cur : Array Value} {ok : Nat → Prop} (l : List Int) (i : Nat) (x : Int) (hi : i ≤ l.length) (hbg : base ≤ g) (hh : w'.heap[g]? = some (.cells cur 3 (0, 0))) (hcap : l.length + 1 ≤ cap) (hmax : cap ≤ maxLen) (hsz : cur.size = cap)
  (hat : ∀ j, j < l.length + 1 → cur[j]? = if j < i then (encs (Value.int .i64) l)[j]? else if j = i then some (Value.int .i64 x) else (encs (Value.int .i64) l)[j - 1]?) (hok : ok g) :
  (Kd.int .i64).R 3 w' base ok (.slice (some ⟨g, 0, none⟩) (l.length + 1) cap) (l.take i ++ x :: l.drop i) := by
 have hlen : (l.take i ++ x :: l.drop i).length = l.length + 1 := by simp; omega
 refine Kd.R_of_own (enc := Value.int .i64) (h1 := fun _ => rfl) ?_ (fun k hk => by cases hk; exact hok); refine ⟨by rw [encs_length, Nat.mul_one], .inr ⟨g, cap, cur, by rw [hlen], hbg, hh, by omega, hmax, by omega, ?_⟩⟩; rw [Nat.mul_one, hlen, ins_enc]; apply List.ext_getElem?; intro j; rw [List.getElem?_take, ins_at _ _ _ (by rw [encs_length]; exact hi)]
 by_cases c : j < l.length + 1
 ·rw [if_pos c, Array.getElem?_toList, hat j c]
 ·rw [if_neg c, if_neg (by omega), if_neg (by omega), List.getElem?_eq_none (by rw [encs_length]; omega)]
set_option maxHeartbeats 2000000 in
theorem ins_calls (w : World) (base : Nat) (ok : Nat → Prop) (v : Value) (l : List Int) (i : Nat) (x : Int) (vb : Nat) (hi : i ≤ l.length) (hl : l.length ≤ 100) (h : (Kd.int .i64).R 3 w base ok v l) (hv : w.heap[vb]? = some (.cells #[.int .i64 x] 3 (0, 0))) (hne : v.ownBlock ≠ some vb) (hbs : base ≤ w.heap.size) (hokf : ∀ k, w.heap.size ≤ k → ok k) :
  Calls Try.prog 61 #[v, .int .i64 (i : Int), .slice (some ⟨vb, 0, none⟩) 1 1] w fun e w' => ∃ v', e = .returned v' ∧ (Kd.int .i64).R 3 w' base ok v' (l.take i ++ x :: l.drop i) ∧ w.grownBy w' v.ownBlock ∧ (v'.ownBlock = v.ownBlock ∨ ∃ b, v'.ownBlock = some b ∧ w.heap.size ≤ b) := by
 have hown := Kd.own_of_R (enc := Value.int .i64) (h1 := fun _ => rfl) h; have hok := h.1; have ef : Try.lays2_21_ren.f 21 = 61 := rfl; have et : Try.lays2_21_ren.t 3 = 3 := rfl
 have hvs : ∀ (j : Nat) (u : Value), ([Value.int .i64 x] : List Value)[j]? = some u → w.cell? ⟨vb, 0 + j, none⟩ = some u := fun j u hj => by
  rw [Nat.zero_add]; refine cell_at hv j u ?_
  cases j with
  | zero => exact hj
  | succ j => simp at hj
 have h1v : ∀ u ∈ ([Value.int .i64 x] : List Value), u.oneCell' = true := fun u hu => by rw [List.mem_singleton] at hu; subst hu; rfl
 have h1c : ∀ u ∈ encs (Value.int .i64) l, u.oneCell' = true := fun u hu => by
  obtain ⟨y, _, rfl⟩ := List.mem_map.mp hu; rfl
 have hcl : (encs (Value.int .i64) l).length = l.length := encs_length _; obtain ⟨hll, ⟨rfl, hn⟩ | ⟨g, cap, cur, rfl, hbg, hh, hcap, hmax, hsz, htk⟩⟩ := hown
 ·have hl0 : l = [] := List.length_eq_zero_iff.mp hn; subst hl0; obtain rfl : i = 0 := Nat.le_zero.mp hi; have hC := Any2.slices_Insert_int_end_grow Try.lays2_21 none 0 0 vb 0 1 1 [] [.int .i64 x] w (by omega) (by omega) (by omega) (by omega) rfl rfl (fun _ => rfl) (fun a e => by cases e) hvs h1v; rw [ef, et] at hC; refine hC.mono ?_; rintro e w' ⟨rfl, rfl⟩; have hgc := grownCap_ge w 1 0 3; have hgm := grownCap_le_maxLen w 1 0 3 (by unfold maxLen; omega); refine ⟨_, rfl, ?_, grown_drew (World.grownBy_alloc _ _ _), .inr ⟨_, rfl, Nat.le_refl _⟩⟩
  exact ins_own (cap := grownCap w 1 0 3) [] 0 x (Nat.le_refl _) hbs (heap_alloc_new w.drew _) hgc hgm (by rw [Array.size_append, zc_size]; simp; omega) (fun j hj => by
   obtain rfl : j = 0 := by simp at hj; exact hj
   rw [Array.getElem?_append_left (by simp)]
   rfl) (hokf _ (Nat.le_refl _))
 ·rw [Nat.mul_one] at hsz htk
  have hcs : ∀ (j : Nat) (u : Value), (encs (Value.int .i64) l)[j]? = some u → w.cell? ⟨g, 0 + j, none⟩ = some u := fun j u hj => by
   rw [Nat.zero_add]; refine cell_at hh j u ?_; rw [← htk, List.getElem?_take] at hj
   by_cases c : j < l.length
   ·rw [if_pos c] at hj; rw [← Array.getElem?_toList]; exact hj
   ·rw [if_neg c] at hj; cases hj
  have hcur : ∀ j, j < l.length → cur[j]? = (encs (Value.int .i64) l)[j]? := fun j hj => by
   rw [← htk, List.getElem?_take, if_pos hj, Array.getElem?_toList]
  have hvb : vb ≠ g := fun e => hne (by rw [e]; rfl)
  have hcell : ∀ j, j < cap → (w.cell? ⟨g, j, none⟩).isSome = true := fun j hj => by
   rw [cell_at hh j _ (Array.getElem?_eq_getElem (by omega))]; rfl
  by_cases hin : i = l.length
  ·subst hin
   by_cases hr : l.length + 1 ≤ cap
   ·have hC := Any2.slices_Insert_int_end_room Try.lays2_21 g 0 l.length cap vb 0 1 1 [.int .i64 x] w (by omega) hr (by simpa [maxLen] using hmax) rfl (fun j hj => by rw [Nat.zero_add]; exact hcell _ (by omega)) (fun j hj => Bf hh _) hvs h1v; rw [ef] at hC; refine hC.mono ?_; rintro e w' ⟨rfl, rfl⟩; obtain ⟨cur', q1, q2, q3⟩ := put_blk [.int .i64 x] (0 + l.length) w cur hh (by simp; omega); refine ⟨_, rfl, ins_own l l.length x hi hbg q1 hr hmax (by omega) (fun j hj => ?_) (hok g rfl), put_grown _ _ _, .inl rfl⟩; rw [q3 j]
    by_cases c : j < l.length
    ·rw [if_neg (by omega), if_pos c, hcur j c]
    ·obtain rfl : j = l.length := by omega
     rw [if_pos ⟨by omega, by simp⟩, if_neg c, if_pos rfl, Nat.zero_add, Nat.sub_self]; rfl
   ·have hC := Any2.slices_Insert_int_end_grow Try.lays2_21 (some ⟨g, 0, none⟩) l.length cap vb 0 1 1 (encs (Value.int .i64) l) [.int .i64 x] w (by omega) hcap (by omega) (by omega) hcl rfl (fun e => by cases e) (fun a e j u hj => by cases e; rw [Addr.add_lit]; exact hcs j u hj) hvs h1v; rw [ef, et] at hC; refine hC.mono ?_; rintro e w' ⟨rfl, rfl⟩; have hgc := grownCap_ge w (l.length + 1) cap 3; have hgm := grownCap_le_maxLen w (l.length + 1) cap 3 (by unfold maxLen; omega); refine ⟨_, rfl, ?_, grown_drew (World.grownBy_alloc _ _ _), .inr ⟨_, rfl, Nat.le_refl _⟩⟩; refine ins_own (cap := grownCap w (l.length + 1) cap 3) l l.length x hi hbs (heap_alloc_new w.drew _) hgc hgm (by rw [Array.size_append, zc_size]; simp [hcl]; omega) (fun j hj => ?_) (hokf _ (Nat.le_refl _)); rw [Array.getElem?_append_left (by simp [hcl]; omega)]; simp only [List.getElem?_toArray]; rw [List.getElem?_append]
    by_cases c : j < l.length
    ·rw [if_pos (by omega), if_pos c]
    ·obtain rfl : j = l.length := by omega
     rw [if_neg (by omega), if_neg c, if_pos rfl, hcl, Nat.sub_self]; rfl
  ·have hlt : i < l.length := by omega
   by_cases hr : l.length + 1 ≤ cap
   ·have hC := Any2.slices_Insert_int_shift Try.lays2_21 g 0 l.length cap i vb 0 1 1 (encs (Value.int .i64) l) [.int .i64 x] w hlt (by omega) hr (by simpa [maxLen] using hmax) hvb hcl rfl hcs (fun j hj => by rw [Nat.zero_add]; exact hcell _ (by omega)) (fun j hj => Bf hh _) hvs h1c h1v 3 3 1 cur.size (by simp [World.shape?, hv]) (by simp [World.shape?, hh]) (by omega) (Bf hv _) (Bf hv _); rw [ef] at hC; refine hC.mono ?_; rintro e w' ⟨rfl, rfl⟩
    have hld : ((encs (Value.int .i64) l).drop i).length = l.length - i := by rw [List.length_drop, hcl]
    obtain ⟨cur1, p1, p2, p3⟩ := put_blk ((encs (Value.int .i64) l).drop i) (0 + (i + 1)) w.drew cur (Kw hh) (by omega); obtain ⟨cur', q1, q2, q3⟩ := put_blk [.int .i64 x] (0 + i) _ cur1 p1 (by simp; omega); refine ⟨_, rfl, ins_own l i x hi hbg q1 hr hmax (by omega) (fun j hj => ?_) (hok g rfl), (show w.grownBy _ (some g) from grown_drew (World.grownBy.trans (put_grown _ _ _) (put_grown _ _ _))), .inl rfl⟩; rw [q3 j, p3 j, hld]
    by_cases c : j < i
    ·rw [if_neg (by omega), if_neg (by omega), if_pos c, hcur j (by omega)]
    ·by_cases d : j = i
     ·subst d; rw [if_pos ⟨by omega, by simp⟩, if_neg c, if_pos rfl, Nat.zero_add, Nat.sub_self]; rfl
     ·rw [if_neg (by simp; omega), if_pos ⟨by omega, by omega⟩, if_neg c, if_neg d, List.getElem?_drop, show i + (j - (0 + (i + 1))) = j - 1 by omega]
   ·have hC := Any2.slices_Insert_int_grow Try.lays2_21 g 0 l.length cap i vb 0 1 1 (encs (Value.int .i64) l) [.int .i64 x] w hlt (by omega) hcap (by omega) (by omega) hcl rfl hcs hvs h1c h1v; rw [ef, et] at hC; refine hC.mono ?_; rintro e w' ⟨rfl, rfl⟩; have hgc := grownCap_ge w (l.length + 1) cap 3; have hgm := grownCap_le_maxLen w (l.length + 1) cap 3 (by unfold maxLen; omega)
    have hld : ((encs (Value.int .i64) l).drop i).length = l.length - i := by rw [List.length_drop, hcl]
    have hlt2 : ((encs (Value.int .i64) l).take i).length = i := by rw [List.length_take, hcl]; omega
    obtain ⟨Z, hZ⟩ : ∃ Z, ((encs (Value.int .i64) l).take i).toArray ++ Builtin.zeroCells (Value.int .i64 0).cells (l.length + 1 - i) ++ Builtin.zeroCells (Value.int .i64 0).cells (grownCap w (l.length + 1) cap 3 - (l.length + 1)) = Z := ⟨_, rfl⟩
    have hZs : Z.size = grownCap w (l.length + 1) cap 3 := by rw [← hZ, Array.size_append, Array.size_append, zc_size, zc_size, List.size_toArray, hlt2]; omega
    have hZa : ∀ j, j < i → Z[j]? = (encs (Value.int .i64) l)[j]? := fun j hj => by
     rw [← hZ, Array.append_assoc, Array.getElem?_append_left (by simp [hcl]; omega)]; simp only [List.getElem?_toArray]; rw [List.getElem?_take, if_pos hj]
    rw [hZ]; obtain ⟨cur1, p1, p2, p3⟩ := put_blk [.int .i64 x] i (w.alloc (.cells Z 3)).drew Z (Kw (blk_new w _)) (by simp; omega); obtain ⟨cur', q1, q2, q3⟩ := put_blk ((encs (Value.int .i64) l).drop i) (i + 1) _ cur1 (Kw p1) (by omega)
    have hgr : w.grownBy (((((w.alloc (.cells Z 3)).drew.setCells w.heap.size i [.int .i64 x]).drew).setCells w.heap.size (i + 1) ((encs (Value.int .i64) l).drop i))) (some g) := by
     refine ⟨?_, ?_, ?_, ?_, fun k hk _ => ?_⟩
     ·exact ((put_grown _ _ _).os.trans (put_grown _ _ _).os)
     ·exact ((put_grown _ _ _).tape.trans (put_grown _ _ _).tape)
     ·exact ((put_grown _ _ _).output.trans (put_grown _ _ _).output)
     ·have a := (put_grown (b := w.heap.size) [.int .i64 x] i (w.alloc (.cells Z 3)).drew).size; have b := (put_grown (b := w.heap.size) ((encs (Value.int .i64) l).drop i) (i + 1) ((w.alloc (.cells Z 3)).drew.setCells w.heap.size i [.int .i64 x]).drew).size
      have c : w.heap.size ≤ (w.alloc (.cells Z 3)).drew.heap.size := by show _ ≤ (w.alloc (.cells Z 3)).heap.size; rw [World.size_alloc]; omega
      exact Nat.le_trans c (Nat.le_trans a b)
     ·rw [put_far _ _ _ k (by omega)]; show ((w.alloc (.cells Z 3)).drew.setCells w.heap.size i [.int .i64 x]).heap[k]? = _; rw [put_far _ _ _ k (by omega)]; exact Below.heap_alloc _ _ k hk
    refine ⟨_, rfl, ins_own l i x hi hbs q1 hgc hgm (by omega) (fun j hj => ?_) (hokf _ (Nat.le_refl _)), hgr, .inr ⟨_, rfl, Nat.le_refl _⟩⟩; rw [q3 j, p3 j, hld]
    by_cases c : j < i
    ·rw [if_neg (by omega), if_neg (by omega), if_pos c, hZa j c]
    ·by_cases d : j = i
     ·subst d; rw [if_neg (by omega), if_pos ⟨by omega, by simp⟩, if_neg c, if_pos rfl, Nat.sub_self]; rfl
     ·rw [if_pos ⟨by omega, by omega⟩, if_neg c, if_neg d, List.getElem?_drop, show i + (j - (i + 1)) = j - 1 by omega]
end Go.Proofs.Ytobcecgcegoooaa.Sk
namespace Go.Proofs.Ytobcecgcegoooaa.Sk
open Go.RowKit Go.Proofs.YtobcecgcegoooaaW.PrintWords Go.Proofs.YtobcecgcegoooaaW.PrintLast Go.Proofs.YtobcecgcegoooaaW.PrintMore
set_option linter.unusedVariables false
set_option linter.unusedSimpArgs false
theorem C_none_86 {w : World} {l : List S86} (h : Kd.C k86 w none l.length l) : l = [] := by
 cases l with
 | nil => rfl
 | cons x l =>
  obtain ⟨ad, e, _⟩ := at_T86 h 0 (by omega) (by rw [List.length_cons]; omega); cases e
theorem kmG86 (W : World) (b : Nat) (x : S86) (cs : List Value) (h : k86.K W x cs) : k86.M W b (fun _ => False) x cs := by
 rw [k86_open h]; exact k86_mkM W b _ x
set_option maxHeartbeats 4000000 in
set_option maxRecDepth 100000 in
theorem cloneG_calls (A0 : Option Addr) (c0 : Nat) (l0 : List S86) (w : World) (hr0 : Kd.C k86 w A0 l0.length l0) (hc0 : l0.length ≤ c0) (hl : l0.length ≤ 1000000) :
  Calls Try.prog 60 #[.slice A0 l0.length c0] w fun e w' => ∃ v, e = .returned v ∧ Kd.R k86 86 w' w.heap.size (fun _ => True) v l0 ∧ Below w.heap.size w w' := by
 cases A0 with
 | none =>
  obtain rfl := C_none_86 hr0
  have q : ∀ (W : World) (n c : Nat), (binOp .eql 37 (.slice none n c) (.slice none 0 0)).run Try.prog W = .ok (.bool true) W := fun W n c => by kernel_rfl
  go_enter Try.func60, Try.ntmps60
  go_wp2; go_ret
  exact ⟨_, rfl, Kd.R_nil _ _ _ _ _, Below.refl _ _⟩
 | some ad =>
  have HR0 := Aa hr0; have HL := Aa hl
  have q : ∀ (W : World) (n c : Nat), (binOp .eql 37 (.slice (some ad) n c) (.slice none 0 0)).run Try.prog W = .ok (.bool false) W := fun W n c => by kernel_rfl
  clear hr0 hl
  go_enter Try.func60, Try.ntmps60
  go_wp2_with (first
   | ((with_reducible refine gate_dst (N := 5) rfl ?_); refine Kd.R_lit (w0 := w) k86 _ 86 ?hg (N := 5) ?hd (xs := ([] : List S86)) (inner := []) (ok := fun _ => True) (okp := fun _ => True) ?hr ?hp (fun _ hk => hk) trivial (Below.refl _ _) (Nat.le_refl _) (by simp) ?_; (case hd => rfl); (case hg => rfl); (case hr => first | (go_simp; done) | (go_simp; rfl)); (case hp => exact (Reps.none _ _)); intro v1 w1 ho hb hg_ hn_; have HO1 := Aa ho; have HB1 := Aa hb; clear ho hb hg_ hn_)
   | ((with_reducible refine gate_builtin (b := .append) (xs := #[.tmp 5, .tmp 6]) rfl ?_); at_builtin; refine Kd.R_append_rows k86 (Rr := k86.K w1) (w0 := w) w.heap.size rfl (.tmp 5) (.tmp 6) 37 86 (.agg #[.int .i64 0, .int .i64 0, .int .i64 0, .int .i64 0]) 32 rfl Try.underlying37 info86 rfl (by decide) (by omega) v1 [] l0 _ _ _ (fun _ => True) (fun _ => False) rfl rfl ?aO ?aR ?aK (fun _ h => h.elim) ?aF ?aB ?aS ?aL ?_; (case aR => exact Kd.C_below HR0.out HB1.out); (case aK => exact kmG86 _ _); (case aB => exact HB1.out); (case aF => exact (fun _ _ => trivial)); (case aO => exact HO1.out); (case aS => exact HB1.out.size); (case aL => have := HL.out; simp only [List.length_nil]; omega); intro v2 w2 ho hb hg hat; have HO2 := Aa ho; have HB2 := Aa hb; clear ho hb hg hat))
  go_ret; exact ⟨_, rfl, HO2.out, HB2.out⟩
end Go.Proofs.Ytobcecgcegoooaa.Sk
namespace Go.Proofs.Ytobcecgcegoooaa.Sk
open Go.RowKit Go.Proofs.YtobcecgcegoooaaW.PrintWords Go.Proofs.YtobcecgcegoooaaW.PrintLast Go.Proofs.YtobcecgcegoooaaW.PrintMore
set_option linter.unusedVariables false
set_option linter.unusedSimpArgs false
structure Plus (evs : List S27) (gp : List S86) (A0 : Option Addr) (c0 : Nat) (w1 W : World) (n26 : Nat) (Bg : Option Addr) (dg : Nat) : Prop where
 bel : Below w1.heap.size w1 W
 blk : W.heap[n26]? = some (.cells #[.slice A0 evs.length c0, .slice Bg gp.length dg] 39 (0, 0))
 le : gp.length ≤ dg
 rd : Kd.C k86 W Bg gp.length gp
section
variable {evs : List S27} {gp : List S86} {A0 Bg : Option Addr} {c0 dg b : Nat} {w1 w7 : World} {ok : Nat → Prop}
theorem plus_set {n5 : Nat} {x y : Value} (h : Below w1.heap.size w1 w7) (hn : w1.heap.size ≤ n5) (hk : w7.heap[n5]? = some (.cells #[x, y] 39 (0, 0))) (ho : k86.R 86 w7 b ok (.slice Bg gp.length dg) gp) :
  Plus evs gp A0 c0 w1 ((w7.setCell ⟨n5, 0, none⟩ (.slice A0 evs.length c0)).setCell ⟨n5, 1, none⟩ (.slice Bg gp.length dg)) n5 Bg dg := by
 have k1 := blk_put hk 0 (.slice A0 evs.length c0) (cs' := #[.slice A0 evs.length c0, y]) rfl; have k2 := blk_put k1 1 (.slice Bg gp.length dg) (cs' := #[.slice A0 evs.length c0, .slice Bg gp.length dg]) rfl; have r1 := Kd.R_set (Kd.R_set ho hk (by decide) 0 (.slice A0 evs.length c0)) k1 (by decide) 1 (.slice Bg gp.length dg); exact ⟨Bz (Bz h hn) hn, k2, (Kd.R_reads' r1).2.1, (Kd.R_reads' r1).2.2⟩
end
section
variable {ops : Array Oper} {o : Oper} {a : Act} {Q : Exit → Act → World → Prop} {Kc : Act → World → Prop}
theorem gap_append2 {W w0 : World} {base : Nat} {v0 : Value} {gaps ys : List S86} {A : Option Addr} {m c : Nat} {ok : Nat → Prop} (hw : Region.wanted o (yielded ops a.tmps) = true)
  (ho : o.op = .call { callee := .builtin .append, args := #[.tmp 168, .tmp 172], argTypes := #[37, 37] }) (hs : a.eval (.tmp 168) = v0) (hx : a.eval (.tmp 172) = .slice A m c)
  (hO : Kd.R k86 86 W base ok v0 gaps) (hR : Kd.C k86 W A m ys) (hfresh : ∀ k, W.heap.size ≤ k → ok k) (HB : Below base w0 W) (hbase : base ≤ W.heap.size) (hl : gaps.length + m < 4398046511104)
  (h : ∀ v1 w1, Kd.R k86 86 w1 base ok v1 (gaps ++ ys) → Below base w0 w1 → W.grownBy w1 v0.ownBlock → (v1.ownBlock = v0.ownBlock ∨ ∃ b, v1.ownBlock = some b ∧ W.heap.size ≤ b) → Kc (a.put o.dst v1) w1) :
  if Region.wanted o (yielded ops a.tmps) = true then Oper.wp Try.prog o a W Kc Q else Kc (a.put o.dst undef) W :=
 Kd.R_append_rows_step k86 (Rr := k86.K W) (w0 := w0) (W := W) base hw (.tmp 168) (.tmp 172) 37 86 (.agg #[.int .i64 0, .int .i64 0, .int .i64 0, .int .i64 0]) 32 ho Try.underlying37 info86 rfl (by decide) (by decide) v0 gaps ys A m c ok (fun _ => False) hs hx hO hR (kmG86 _ _) (fun _ hk => hk.elim) hfresh HB hbase (by omega) h
end
end Go.Proofs.Ytobcecgcegoooaa.Sk
namespace Go.Proofs.Ytobcecgcegoooaa.Sk
open Go.RowKit Go.Proofs.YtobcecgcegoooaaW.PrintWords Go.Proofs.YtobcecgcegoooaaW.PrintLast Go.Proofs.YtobcecgcegoooaaW.PrintMore
set_option linter.unusedVariables false
set_option linter.unusedSimpArgs false
set_option maxHeartbeats 2000000 in
set_option maxRecDepth 100000 in
theorem skew_TightA.calls (A0 : Option Addr) (c0 : Nat) (evs : List S27) (A1 : Option Addr) (c1 : Nat) (gaps : List S86) (r1 : List S27) (r2 : Int) (w : World) (hC0 : Kd.C k27 w A0 evs.length evs) (hc0 : evs.length ≤ c0) (hC1 : Kd.C k86 w A1 gaps.length gaps) (hc1 : gaps.length ≤ c1) (h : tightA evs gaps = (r1, r2)) :
  Calls Try.prog 47 #[.agg #[.slice A0 evs.length c0, .slice A1 gaps.length c1]] w fun e w' => ∃ v0_ : Value, e = .returned (.tuple #[v0_, .int .i64 r2]) ∧ Kd.V k27 27 w' w.heap.size (fun k_ => (w.heap.size ≤ k_)) v0_ r1 ∧ Below w.heap.size w w' := by
 by_cases hn : evs.length ≤ 10
 ·exact skew_Tight.calls A0 c0 evs A1 c1 gaps r1 r2 w hC0 hc0 hC1 hc1 (by rw [tight_skew _ _ hn, h])
 ·have hb : ¬ histB evs gaps = true := fun hb => hn ((histIs _ _).mp hb).n
  have hr : tightA evs gaps = ([], 2) := by unfold tightA; rw [if_neg hb]
  rw [hr] at h
  injection h with h1 h2
  subst h1; subst h2; have hb0 := Ba (Below.refl w.heap.size w) (.cells #[.slice A0 evs.length c0, .slice A1 gaps.length c1] 39); have hk0 := blk_new w (.cells #[.slice A0 evs.length c0, .slice A1 gaps.length c1] 39); have HTn := Aa (tight_calls A0 A1 c0 c1 evs gaps none 2 _ (Kd.C_below hC0 hb0) hc0 (Kd.C_below hC1 hb0) hc1 (tightR_no hb)); have x0 := cell_at hk0 0 (.slice A0 evs.length c0) rfl; have x1 := cell_at hk0 1 (.slice A1 gaps.length c1) rfl; have HB0 := Aa hb0; clear hb0 hk0 hr hb hn
  go_enter Try.func47, Try.ntmps47
  go_wp2_with (go_at_call 107; refine HTn.out.mono ?_; rintro e w4 ⟨p, rfl, _, hn, _, hb⟩; have HB4 := Aa (Bp HB0.out hb); clear hb)
  go_ret2; exact ⟨_, rfl, Kd.V_nil _ _ _ _ _, HB4.out⟩
end Go.Proofs.Ytobcecgcegoooaa.Sk
