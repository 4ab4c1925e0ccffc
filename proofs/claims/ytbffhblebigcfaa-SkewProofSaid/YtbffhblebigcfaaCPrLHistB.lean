/- Formed histories: told two ways the same; what is said in them. -/
import Derived.Test.YtbffhblebigcfaaCPrLHist
import Derived.Test.YtbffhblebigcfaaCPrLSolve
import Derived.Test.YtbffhblebigcfaaCPrS0
namespace Go.Proofs.Ytbffhblebigcfaa.Sk
open Go.RowKit Go.Proofs.YtbffhblebigcfaaW.PrintWords Go.Proofs.YtbffhblebigcfaaW.PrintLast Go.Proofs.YtbffhblebigcfaaW.PrintMore
set_option linter.unusedVariables false
set_option linter.unusedSimpArgs false
def gapB (n : Int) (g : S86) : Bool := decide (0 ≤ g.f0 ∧ g.f0 < n ∧ 0 ≤ g.f1 ∧ g.f1 < n ∧ g.f0 ≠ g.f1 ∧ g.f2 ≤ g.f3 ∧ -2000000 ≤ g.f2 ∧ g.f3 ≤ 2000000)
def histB (evs : List S27) (gaps : List S86) : Bool := decide (evs.length ≤ 10) && (decide (gaps.length ≤ 20) && (evs.all good27 && gaps.all (gapB evs.length)))
theorem within_f (a b c : Int) : skew_within.f a b c = some (decide (b ≤ a ∧ a ≤ c)) := by
 unfold skew_within.f
 by_cases h : a ≥ b
 ·rw [if_pos h]; simp [show b ≤ a from h]
 ·rw [if_neg h]; simp [show ¬ b ≤ a from h]
theorem isHist_l0 (evs : List S27) (gaps : List S86) (hn : evs.length ≤ 10) (hw : gaps.length ≤ 20) : ∀ (d i k : Nat), i + d = gaps.length → d < k → skew_isHist.l0 k gaps (gaps.length : Int) (i : Int) evs gaps = some ((gaps.drop i).all (gapB evs.length))
 | 0, i, k, h, hk => by
  obtain ⟨k, rfl⟩ : ∃ k', k = k' + 1 := ⟨k - 1, by omega⟩
  rw [List.drop_of_length_le (by omega)]
  simp only [skew_isHist.l0]
  rw [if_neg (by omega)]; rfl
 | d + 1, i, k, h, hk => by
  obtain ⟨k, rfl⟩ : ∃ k', k = k' + 1 := ⟨k - 1, by omega⟩
  rw [drop86 gaps i (by omega), List.all_cons]
  obtain ⟨g, hg⟩ : ∃ g, rd_T86 gaps (i : Int) = g := ⟨_, rfl⟩
  simp only [skew_isHist.l0, hg]
  have hwr : wrap64 ((evs.length : Int) - 1) = (evs.length : Int) - 1 := w64_mid (by omega) (by omega)
  rw [if_pos (by omega), if_pos (by omega), if_pos (by omega), within_f, within_f, hwr, wrapS (by omega), isHist_l0 evs gaps hn hw d (i + 1) k (by omega) (by omega)]
  simp only [Option.bind_some]
  by_cases c1 : 0 ≤ g.f0 ∧ g.f0 ≤ (evs.length : Int) - 1
  ·rw [decide_eq_true c1, if_pos rfl]
   by_cases c2 : 0 ≤ g.f1 ∧ g.f1 ≤ (evs.length : Int) - 1
   ·rw [decide_eq_true c2, if_pos rfl]
    by_cases c3 : g.f0 = g.f1
    ·rw [if_pos c3, show gapB evs.length g = false from decide_eq_false (by omega)]; rfl
    ·rw [if_neg c3]
     by_cases c4 : g.f2 > g.f3
     ·rw [if_pos c4, show gapB evs.length g = false from decide_eq_false (by omega)]; rfl
     ·rw [if_neg c4]
      by_cases c5 : g.f2 < -2000000
      ·rw [if_pos c5, show gapB evs.length g = false from decide_eq_false (by omega)]; rfl
      ·rw [if_neg c5]
       by_cases c6 : g.f3 > 2000000
       ·rw [if_pos c6, show gapB evs.length g = false from decide_eq_false (by omega)]; rfl
       ·rw [if_neg c6, show gapB evs.length g = true from decide_eq_true (by omega)]; rfl
   ·rw [decide_eq_false c2, if_neg (by simp), show gapB evs.length g = false from decide_eq_false (by omega)]; rfl
  ·rw [decide_eq_false c1, if_neg (by simp), show gapB evs.length g = false from decide_eq_false (by omega)]; rfl
theorem isHist_eq (evs : List S27) (gaps : List S86) (k : Nat) (hk : 30 ≤ k) : skew_isHist.f k evs gaps = some (histB evs gaps) := by
 obtain ⟨k, rfl⟩ : ∃ k', k = k' + 1 := ⟨k - 1, by omega⟩
 unfold skew_isHist.f histB
 by_cases c1 : evs.length ≤ 10
 ·rw [if_neg (by omega)]
  by_cases c2 : gaps.length ≤ 20
  ·rw [if_neg (by omega)]
   unfold skew_all.f
   rw [Option.bind_some, decide_eq_true c1, decide_eq_true c2, Bool.true_and, Bool.true_and]
   simp only [skew_isHist.j0]
   cases evs.all good27 with
   | true =>
    rw [if_neg (by simp), Bool.true_and]
    exact isHist_l0 evs gaps c1 c2 gaps.length 0 k (by omega) (by omega)
   | false => rw [if_pos (by simp)]; rfl
  ·rw [if_pos (by omega), decide_eq_false c2]
   simp only [skew_isHist.j0]
   rw [if_pos trivial, Bool.false_and, Bool.and_false]
 ·rw [if_pos (by omega), decide_eq_false c1]
  simp only [skew_isHist.j0]
  rw [if_pos trivial, Bool.false_and]
theorem isHist_1000 (evs : List S27) (gaps : List S86) : skew_isHist.f 1000 evs gaps = some (histB evs gaps) := isHist_eq evs gaps 1000 (by omega)
theorem ev_Goods10 (l : List S27) : Ev (fun k => afterwordref19_Goods.f k l 10) (decide (l.length ≤ 10) && l.all good27) := by
 by_cases h : l.length ≤ 10
 ·rw [decide_eq_true h, Bool.true_and]
  have := ev_goods l (by omega) l.length 0 (by omega)
  rw [List.drop_zero] at this
  exact Ev.congr (fun k => by unfold afterwordref19_Goods.f; rw [if_neg (by omega)]; rfl) this
 ·rw [decide_eq_false h, Bool.false_and]
  exact Ev.congr (f := fun _ => some false) (fun k => by unfold afterwordref19_Goods.f; rw [if_pos (by omega)]) (Ev.now false)
theorem ev_hist0 (evs : List S27) (gaps : List S86) (hn : evs.length ≤ 10) (hw : gaps.length ≤ 20) : ∀ (d i : Nat), i + d = gaps.length → Ev (fun k => afterwordref19_Hist.l0 k (i : Int) evs gaps) ((gaps.drop i).all (gapB evs.length))
 | 0, i, h => by
  rw [List.drop_of_length_le (by omega)]
  exact Ev.step (f := fun _ => some true) (fun k => by simp only [afterwordref19_Hist.l0]; rw [if_neg (by omega)]) (Ev.now _)
 | d + 1, i, h => by
  rw [drop86 gaps i (by omega), List.all_cons]
  obtain ⟨g, hg⟩ : ∃ g, rd_T86 gaps (i : Int) = g := ⟨_, rfl⟩
  rw [hg]
  have ih := ev_hist0 evs gaps hn hw d (i + 1) (by omega)
  have bad : ∀ (x : Bool), gapB evs.length g = false → (x = true ∨ x = false ∧ (g.f2 > g.f3 ∨ g.f2 < -2000000 ∨ g.f3 > 2000000)) → Ev (fun k => afterwordref19_Hist.j2 k (i : Int) x evs gaps g.f0 g.f1 g.f2 g.f3) (gapB evs.length g && (gaps.drop (i + 1)).all (gapB evs.length)) := fun x hb hx => by
   rw [hb, Bool.false_and]
   refine Ev.step (f := fun _ => some false) (fun k => ?_) (Ev.now _)
   simp only [afterwordref19_Hist.j2]
   rcases hx with hx | ⟨hx, hx'⟩
   ·rw [if_pos hx]
   ·rw [if_neg (by rw [hx]; simp)]
    by_cases c4 : g.f2 > g.f3
    ·rw [if_pos c4]
    ·rw [if_neg c4]
     by_cases c5 : g.f2 < -2000000
     ·rw [if_pos c5]
     ·rw [if_neg c5, if_pos (by omega)]
  have st : ∀ (x : Bool), (∀ k, afterwordref19_Hist.l0 (k + 1) (i : Int) evs gaps = afterwordref19_Hist.j2 k (i : Int) x evs gaps g.f0 g.f1 g.f2 g.f3) → Ev (fun k => afterwordref19_Hist.j2 k (i : Int) x evs gaps g.f0 g.f1 g.f2 g.f3) (gapB evs.length g && (gaps.drop (i + 1)).all (gapB evs.length)) → Ev (fun k => afterwordref19_Hist.l0 k (i : Int) evs gaps) (gapB evs.length g && (gaps.drop (i + 1)).all (gapB evs.length)) := fun x h1 h2 => Ev.step h1 h2
  by_cases c1 : g.f0 < 0
  ·refine st true (fun k => by simp only [afterwordref19_Hist.l0, hg]; rw [if_pos (by omega), if_pos (by omega), if_pos c1]) (bad true (decide_eq_false (by omega)) (.inl rfl))
  ·by_cases c2 : g.f0 ≥ evs.length
   ·refine st true (fun k => by simp only [afterwordref19_Hist.l0, hg]; rw [if_pos (by omega), if_pos (by omega), if_neg c1, if_pos c2]) (bad true (decide_eq_false (by omega)) (.inl rfl))
   ·by_cases c3 : g.f1 < 0
    ·refine st true (fun k => by simp only [afterwordref19_Hist.l0, hg]; rw [if_pos (by omega), if_pos (by omega), if_neg c1, if_neg c2, if_pos c3]) (bad true (decide_eq_false (by omega)) (.inl rfl))
    ·by_cases c4 : g.f1 ≥ evs.length
     ·refine st true (fun k => by simp only [afterwordref19_Hist.l0, hg]; rw [if_pos (by omega), if_pos (by omega), if_neg c1, if_neg c2, if_neg c3, if_pos c4]) (bad true (decide_eq_false (by omega)) (.inl rfl))
     ·refine st (g.f0 == g.f1) (fun k => by simp only [afterwordref19_Hist.l0, hg]; rw [if_pos (by omega), if_pos (by omega), if_neg c1, if_neg c2, if_neg c3, if_neg c4]) ?_
      by_cases c5 : g.f0 = g.f1
      ·exact bad _ (decide_eq_false (by omega)) (.inl (beq_iff_eq.mpr c5))
      ·have e5 : (g.f0 == g.f1) = false := beq_eq_false_iff_ne.mpr c5
       by_cases c6 : g.f2 > g.f3 ∨ g.f2 < -2000000 ∨ g.f3 > 2000000
       ·exact bad _ (decide_eq_false (by omega)) (.inr ⟨e5, c6⟩)
       ·rw [show gapB evs.length g = true from decide_eq_true (by omega), Bool.true_and, e5]
        refine Ev.step (f := fun k => afterwordref19_Hist.l0 k ((i + 1 : Nat) : Int) evs gaps) (fun k => ?_) ih
        simp only [afterwordref19_Hist.j2]
        rw [if_neg (by simp), if_neg (by omega), if_neg (by omega), if_neg (by omega), wrapS (by omega)]
theorem ev_Hist (evs : List S27) (gaps : List S86) : Ev (fun k => afterwordref19_Hist.f k evs gaps) (histB evs gaps) := by
 refine Ev.bind (ev_Goods10 evs) ?_
 unfold histB
 by_cases c1 : evs.length ≤ 10
 ·rw [decide_eq_true c1, Bool.true_and, Bool.true_and]
  cases evs.all good27 with
  | false =>
   refine Ev.congr (f := fun k => afterwordref19_Hist.j0 k true evs gaps) (fun k => by rw [if_neg (by simp)]) ?_
   refine Ev.step (f := fun _ => some false) (fun k => by simp only [afterwordref19_Hist.j0]; rfl) ?_
   rw [Bool.false_and, Bool.and_false]
   exact Ev.now _
  | true =>
   refine Ev.congr (f := fun k => afterwordref19_Hist.j0 k (decide ((gaps.length : Int) > 20)) evs gaps) (fun k => by rw [if_pos rfl]) ?_
   by_cases c2 : gaps.length ≤ 20
   ·rw [decide_eq_true c2, Bool.true_and, Bool.true_and, decide_eq_false (by omega)]
    refine Ev.step (f := fun k => afterwordref19_Hist.l0 k ((0 : Nat) : Int) evs gaps) (fun k => by simp only [afterwordref19_Hist.j0]; rfl) ?_
    exact ev_hist0 evs gaps c1 c2 gaps.length 0 (by omega)
   ·rw [decide_eq_false c2, Bool.false_and, decide_eq_true (by omega)]
    exact Ev.step (f := fun _ => some false) (fun k => by simp only [afterwordref19_Hist.j0]; rfl) (Ev.now _)
 ·rw [decide_eq_false c1, Bool.false_and, Bool.false_and]
  refine Ev.congr (f := fun k => afterwordref19_Hist.j0 k true evs gaps) (fun k => by rw [if_neg (by simp)]) ?_
  exact Ev.step (f := fun _ => some false) (fun k => by simp only [afterwordref19_Hist.j0]; rfl) (Ev.now _)
structure HistIs (evs : List S27) (gaps : List S86) : Prop where
 n : evs.length ≤ 10
 w : gaps.length ≤ 20
 ev : ∀ s ∈ evs, s.f0 ≤ s.f1 ∧ -1000000 ≤ s.f0 ∧ s.f1 ≤ 1000000
 gap : ∀ g ∈ gaps, GapIn evs.length g
theorem histIs (evs : List S27) (gaps : List S86) : histB evs gaps = true ↔ HistIs evs gaps := by
 unfold histB
 constructor
 ·intro h
  obtain ⟨a, h⟩ := Bool.and_eq_true_iff.mp h
  obtain ⟨b, h⟩ := Bool.and_eq_true_iff.mp h
  obtain ⟨c, d⟩ := Bool.and_eq_true_iff.mp h
  rw [List.all_eq_true] at c d
  refine ⟨of_decide_eq_true a, of_decide_eq_true b, fun s hs => ?_, fun g hg => ?_⟩
  ·have := c s hs
   unfold good27 at this
   simp only [Bool.and_eq_true, decide_eq_true_eq] at this
   exact ⟨this.1, this.2.1, this.2.2⟩
  ·have := of_decide_eq_true (d g hg)
   obtain ⟨h0, h1, h2, h3, h4, h5, h6, h7⟩ := this
   exact ⟨h0, h1, h2, h3, h4, h5, h6, h7⟩
 ·rintro ⟨a, b, c, d⟩
  rw [decide_eq_true a, decide_eq_true b, Bool.true_and, Bool.true_and, Bool.and_eq_true_iff, List.all_eq_true, List.all_eq_true]
  refine ⟨fun s hs => ?_, fun g hg => ?_⟩
  ·have := c s hs
   unfold good27
   simp only [Bool.and_eq_true, decide_eq_true_eq]
   exact ⟨this.1, this.2.1, this.2.2⟩
  ·obtain ⟨h0, h1, h2, h3, h4, h5, h6, h7⟩ := d g hg
   exact decide_eq_true ⟨h0, h1, h2, h3, h4, h5, h6, h7⟩
theorem HistIs.evAt {evs : List S27} {gaps : List S86} (h : HistIs evs gaps) (j : Int) (h0 : 0 ≤ j) (h1 : j < evs.length) : (rd_T27 evs j).f0 ≤ (rd_T27 evs j).f1 ∧ -1000000 ≤ (rd_T27 evs j).f0 ∧ (rd_T27 evs j).f1 ≤ 1000000 := by
 have := h.ev _ (mem27 evs j.toNat (by omega))
 rwa [show ((j.toNat : Nat) : Int) = j by omega] at this
theorem HistIs.ok {evs : List S27} {gaps : List S86} (h : HistIs evs gaps) : histOk evs gaps := ⟨h.n, h.w, fun g hg => by
 have h1 := h.gap g hg
 have h2 := h.n
 have := h1.a0; have := h1.a1; have := h1.b0; have := h1.b1
 exact ⟨⟨by omega, by omega⟩, by omega, by omega⟩⟩
theorem said_mem {evs : List S27} {gaps : List S86} {x : Int × S153} (h : x ∈ saidL evs gaps) : (∃ i : Nat, i < evs.length ∧ x = ((i : Int), ⟨10, (i : Int), (rd_T27 evs i).f0, (rd_T27 evs i).f1⟩)) ∨ ∃ i : Nat, i < gaps.length ∧ x = ((evs.length : Int) + i, ⟨(rd_T86 gaps i).f0, (rd_T86 gaps i).f1, (rd_T86 gaps i).f2, (rd_T86 gaps i).f3⟩) := by
 unfold saidL at h
 rcases List.mem_append.mp h with h | h
 ·obtain ⟨i, hi, rfl⟩ := List.mem_map.mp h
  exact .inl ⟨i, List.mem_range.mp hi, rfl⟩
 ·obtain ⟨i, hi, rfl⟩ := List.mem_map.mp h
  exact .inr ⟨i, List.mem_range.mp hi, rfl⟩
theorem mem_said1 (evs : List S27) (gaps : List S86) (i : Nat) (h : i < evs.length) : ((i : Int), (⟨10, (i : Int), (rd_T27 evs i).f0, (rd_T27 evs i).f1⟩ : S153)) ∈ saidL evs gaps :=
 List.mem_append.mpr (.inl (List.mem_map.mpr ⟨i, List.mem_range.mpr h, rfl⟩))
theorem mem_said2 (evs : List S27) (gaps : List S86) (i : Nat) (h : i < gaps.length) : ((evs.length : Int) + i, (⟨(rd_T86 gaps i).f0, (rd_T86 gaps i).f1, (rd_T86 gaps i).f2, (rd_T86 gaps i).f3⟩ : S153)) ∈ saidL evs gaps :=
 List.mem_append.mpr (.inr (List.mem_map.mpr ⟨i, List.mem_range.mpr h, rfl⟩))
theorem HistIs.facts {evs : List S27} {gaps : List S86} (h : HistIs evs gaps) : ∀ x ∈ saidL evs gaps, FactOk x.2 := fun x hx => by
 have hn := h.n
 rcases said_mem hx with ⟨i, hi, rfl⟩ | ⟨i, hi, rfl⟩
 ·have := h.evAt (i : Int) (by omega) (by omega)
  exact ⟨⟨by show (0 : Int) ≤ 10; omega, by show (10 : Int) < 11; omega⟩, ⟨by show (0 : Int) ≤ i; omega, by show (i : Int) < 11; omega⟩, by show (10 : Int) ≠ i; omega, ⟨by show -2000000 ≤ (rd_T27 evs i).f0; omega, by show (rd_T27 evs i).f0 ≤ 2000000; omega⟩, ⟨by show -2000000 ≤ (rd_T27 evs i).f1; omega, by show (rd_T27 evs i).f1 ≤ 2000000; omega⟩⟩
 ·have := h.gap _ (mem86 gaps i hi)
  obtain ⟨h0, h1, h2, h3, h4, h5, h6, h7⟩ := this
  exact ⟨⟨h0, by show (rd_T86 gaps i).f0 < 11; omega⟩, ⟨h2, by show (rd_T86 gaps i).f1 < 11; omega⟩, h4, ⟨h6, by show (rd_T86 gaps i).f2 ≤ 2000000; omega⟩, ⟨by show -2000000 ≤ (rd_T86 gaps i).f3; omega, h7⟩⟩
theorem keeps_fit {evs : List S27} {gaps : List S86} (h : HistIs evs gaps) (t : Int → Int) : (∀ x ∈ saidL evs gaps, Keeps x.2 t) ↔ Fit evs gaps fun j => t j - t 10 := by
 have hn := h.n
 constructor
 ·intro hk
  refine ⟨fun g hg => ?_, fun j h0 h1 => ?_⟩
  ·obtain ⟨i, hi, rfl⟩ := List.mem_iff_getElem.mp hg
   have := hk _ (mem_said2 evs gaps i hi)
   have er : rd_T86 gaps (i : Int) = gaps[i] := by simp [rd_T86, rdOf, List.getD_eq_getElem?_getD, hi]
   rw [er] at this
   obtain ⟨a, b⟩ := this
   have a : (gaps[i]).f2 ≤ t (gaps[i]).f1 - t (gaps[i]).f0 := a
   have b : t (gaps[i]).f1 - t (gaps[i]).f0 ≤ (gaps[i]).f3 := b
   exact ⟨by show (gaps[i]).f2 ≤ (t (gaps[i]).f1 - t 10) - (t (gaps[i]).f0 - t 10); omega, by show (t (gaps[i]).f1 - t 10) - (t (gaps[i]).f0 - t 10) ≤ (gaps[i]).f3; omega⟩
  ·have := hk _ (mem_said1 evs gaps j.toNat (by omega))
   rw [show ((j.toNat : Nat) : Int) = j by omega] at this
   exact this
 ·rintro ⟨a, b⟩ x hx
  rcases said_mem hx with ⟨i, hi, rfl⟩ | ⟨i, hi, rfl⟩
  ·exact b (i : Int) (by omega) (by omega)
  ·have := a _ (mem86 gaps i hi)
   obtain ⟨c, d⟩ := this
   have c : (rd_T86 gaps i).f2 ≤ (t (rd_T86 gaps i).f1 - t 10) - (t (rd_T86 gaps i).f0 - t 10) := c
   have d : (t (rd_T86 gaps i).f1 - t 10) - (t (rd_T86 gaps i).f0 - t 10) ≤ (rd_T86 gaps i).f3 := d
   exact ⟨by show (rd_T86 gaps i).f2 ≤ t (rd_T86 gaps i).f1 - t (rd_T86 gaps i).f0; omega, by show t (rd_T86 gaps i).f1 - t (rd_T86 gaps i).f0 ≤ (rd_T86 gaps i).f3; omega⟩
theorem tighten_solve {evs : List S27} {gaps : List S86} (h : HistIs evs gaps) : (tightenF (bindP (fun _ => false) (saidL evs gaps))).isSome = (solveR evs gaps).2 := by
 obtain ⟨b1, b2⟩ := bind_spec (fun _ => false) (saidL evs gaps) h.facts
 rw [Bool.eq_iff_iff, tighten_iff b1, (solve_spec evs gaps h.gap).1]
 constructor
 ·rintro ⟨t, ht⟩
  exact ⟨_, (keeps_fit h t).mp fun x hx => (b2 t).mp ht x hx rfl⟩
 ·rintro ⟨t, ht⟩
  refine ⟨fun j => if j = 10 then 0 else t j, (b2 _).mpr fun x hx _ => (keeps_fit h _).mpr ?_ x hx⟩
  have hn := h.n
  have e : ∀ j : Int, j < evs.length → (if j = 10 then 0 else t j) - (if (10 : Int) = 10 then 0 else t 10) = t j := fun j hj => by
   rw [if_neg (by omega), if_pos rfl]; omega
  refine ⟨fun g hg => ?_, fun j h0 h1 => ?_⟩
  ·have hi := h.gap g hg
   have := ht.1 g hg
   unfold GapSat at this ⊢
   show g.f2 ≤ ((if g.f1 = 10 then 0 else t g.f1) - (if (10 : Int) = 10 then 0 else t 10)) - ((if g.f0 = 10 then 0 else t g.f0) - (if (10 : Int) = 10 then 0 else t 10)) ∧ ((if g.f1 = 10 then 0 else t g.f1) - (if (10 : Int) = 10 then 0 else t 10)) - ((if g.f0 = 10 then 0 else t g.f0) - (if (10 : Int) = 10 then 0 else t 10)) ≤ g.f3
   rw [e _ hi.a1, e _ hi.b1]
   exact this
  ·show _ ≤ (if j = 10 then 0 else t j) - (if (10 : Int) = 10 then 0 else t 10) ∧ (if j = 10 then 0 else t j) - (if (10 : Int) = 10 then 0 else t 10) ≤ _
   rw [e j h1]; exact ht.2 j h0 h1
end Go.Proofs.Ytbffhblebigcfaa.Sk
