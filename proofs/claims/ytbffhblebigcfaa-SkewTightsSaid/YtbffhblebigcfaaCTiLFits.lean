/- Which times fit: told two ways the same. -/
import Derived.Test.YtbffhblebigcfaaCTiLHistB
import Derived.Test.YtbffhblebigcfaaCTiSkf50
import Derived.Test.YtbffhblebigcfaaCTiS1
namespace Go.Proofs.Ytbffhblebigcfaa.Sk
open Go.RowKit Go.Proofs.YtbffhblebigcfaaW.PrintWords Go.Proofs.YtbffhblebigcfaaW.PrintLast Go.Proofs.YtbffhblebigcfaaW.PrintMore
set_option linter.unusedVariables false
set_option linter.unusedSimpArgs false
def fitE (evs : List S27) (ts : List Int) (j : Nat) : Bool := decide ((rd_T27 evs (j : Int)).f0 ≤ rd ts (j : Int) ∧ rd ts (j : Int) ≤ (rd_T27 evs (j : Int)).f1)
def fitG (ts : List Int) (g : S86) : Bool := decide (g.f2 ≤ wrap64 (rd ts g.f1 - rd ts g.f0) ∧ wrap64 (rd ts g.f1 - rd ts g.f0) ≤ g.f3)
def fitsB (evs : List S27) (gaps : List S86) (ts : List Int) : Bool := (List.range evs.length).all (fitE evs ts) && gaps.all (fitG ts)
def fitsR (evs : List S27) (gaps : List S86) (ts : List Int) : Bool × Int :=
 if histB evs gaps = true then if ts.length = evs.length then (fitsB evs gaps ts, 0) else (false, 2) else (false, 2)
theorem fits_step (evs : List S27) (ts : List Int) (i d : Nat) : (List.range (d + 1)).all (fun m => fitE evs ts (i + m)) = (fitE evs ts i && (List.range d).all (fun m => fitE evs ts (i + 1 + m))) := by
 rw [List.range_succ_eq_map, List.all_cons, List.all_map]
 congr 1
 congr 1
 funext m
 show fitE evs ts (i + (m + 1)) = _
 rw [show i + (m + 1) = i + 1 + m by omega]
section
variable {evs : List S27} {gaps : List S86} (h : HistIs evs gaps) (ts : List Int) (hts : ts.length = evs.length)
include h hts
theorem ev_fits1 : ∀ (d i : Nat), i + d = gaps.length → Ev (fun k => skew_Fits.l1 k ts gaps (gaps.length : Int) (i : Int)) ((gaps.drop i).all (fitG ts), 0)
 | 0, i, hi => by
  rw [List.drop_of_length_le (by omega)]
  exact Ev.step (f := fun _ => some (true, 0)) (fun k => by simp only [skew_Fits.l1]; rw [if_neg (by omega)]) (Ev.now _)
 | d + 1, i, hi => by
  have hw := h.w
  have hg := h.gap _ (mem86 gaps i (by omega))
  rw [drop86 gaps i (by omega), List.all_cons]
  obtain ⟨g, hgv⟩ : ∃ g, rd_T86 gaps (i : Int) = g := ⟨_, rfl⟩
  rw [hgv] at hg ⊢
  have e1 := hg.a0; have e2 := hg.a1; have e3 := hg.b0; have e4 := hg.b1
  have ih := ev_fits1 d (i + 1) (by omega)
  by_cases c : g.f2 ≤ wrap64 (rd ts g.f1 - rd ts g.f0) ∧ wrap64 (rd ts g.f1 - rd ts g.f0) ≤ g.f3
  ·rw [show fitG ts g = true from decide_eq_true c, Bool.true_and]
   refine Ev.step (fun k => ?_) ih
   simp only [skew_Fits.l1, hgv]
   rw [if_pos (by omega), if_pos (by omega), if_pos (by omega), if_pos e3, if_pos (by omega), if_pos e1, if_pos (by omega), within_f, decide_eq_true c, Option.bind_some, if_pos rfl, wrapS (by omega)]
  ·rw [show fitG ts g = false from decide_eq_false c, Bool.false_and]
   refine Ev.step (f := fun _ => some (false, 0)) (fun k => ?_) (Ev.now _)
   simp only [skew_Fits.l1, hgv]
   rw [if_pos (by omega), if_pos (by omega), if_pos (by omega), if_pos e3, if_pos (by omega), if_pos e1, if_pos (by omega), within_f, decide_eq_false c, Option.bind_some, if_neg (by simp)]
theorem ev_fits0 : ∀ (d i : Nat), i + d = evs.length → Ev (fun k => skew_Fits.l0 k ts evs (evs.length : Int) (i : Int) evs gaps) ((List.range d).all (fun m => fitE evs ts (i + m)) && gaps.all (fitG ts), 0)
 | 0, i, hi => by
  have := ev_fits1 h ts hts gaps.length 0 (by omega)
  rw [List.drop_zero] at this
  exact Ev.step (fun k => by simp only [skew_Fits.l0]; rw [if_neg (by omega)]; rfl) this
 | d + 1, i, hi => by
  have hn := h.n
  have ih := ev_fits0 d (i + 1) (by omega)
  rw [fits_step]
  by_cases c : (rd_T27 evs (i : Int)).f0 ≤ rd ts (i : Int) ∧ rd ts (i : Int) ≤ (rd_T27 evs (i : Int)).f1
  ·rw [show fitE evs ts i = true from decide_eq_true c, Bool.true_and]
   refine Ev.step (fun k => ?_) ih
   simp only [skew_Fits.l0]
   rw [if_pos (by omega), if_pos (by omega), if_pos (by omega), if_pos (by omega), within_f, decide_eq_true c, Option.bind_some, if_pos rfl, wrapS (by omega)]
  ·rw [show fitE evs ts i = false from decide_eq_false c, Bool.false_and, Bool.false_and]
   refine Ev.step (f := fun _ => some (false, 0)) (fun k => ?_) (Ev.now _)
   simp only [skew_Fits.l0]
   rw [if_pos (by omega), if_pos (by omega), if_pos (by omega), if_pos (by omega), within_f, decide_eq_false c, Option.bind_some, if_neg (by simp)]
theorem ev_fitsR1 : ∀ (d i : Nat), i + d = gaps.length → Ev (fun k => afterwordref19_FitsOf.l1 k ts (i : Int) evs gaps) ((gaps.drop i).all (fitG ts))
 | 0, i, hi => by
  rw [List.drop_of_length_le (by omega)]
  exact Ev.step (f := fun _ => some true) (fun k => by simp only [afterwordref19_FitsOf.l1]; rw [if_neg (by omega)]) (Ev.now _)
 | d + 1, i, hi => by
  have hw := h.w
  have hg := h.gap _ (mem86 gaps i (by omega))
  rw [drop86 gaps i (by omega), List.all_cons]
  obtain ⟨g, hgv⟩ : ∃ g, rd_T86 gaps (i : Int) = g := ⟨_, rfl⟩
  rw [hgv] at hg ⊢
  have e1 := hg.a0; have e2 := hg.a1; have e3 := hg.b0; have e4 := hg.b1
  have ih := ev_fitsR1 d (i + 1) (by omega)
  by_cases c1 : wrap64 (rd ts g.f1 - rd ts g.f0) < g.f2
  ·rw [show fitG ts g = false from decide_eq_false (by omega), Bool.false_and]
   refine Ev.step (f := fun _ => some false) (fun k => ?_) (Ev.now _)
   simp only [afterwordref19_FitsOf.l1, hgv]
   rw [if_pos (by omega), if_pos (by omega), if_pos e3, if_pos (by omega), if_pos e1, if_pos (by omega), if_pos c1]
  ·by_cases c2 : wrap64 (rd ts g.f1 - rd ts g.f0) > g.f3
   ·rw [show fitG ts g = false from decide_eq_false (by omega), Bool.false_and]
    refine Ev.step (f := fun _ => some false) (fun k => ?_) (Ev.now _)
    simp only [afterwordref19_FitsOf.l1, hgv]
    rw [if_pos (by omega), if_pos (by omega), if_pos e3, if_pos (by omega), if_pos e1, if_pos (by omega), if_neg c1, if_pos c2]
   ·rw [show fitG ts g = true from decide_eq_true (by omega), Bool.true_and]
    refine Ev.step (fun k => ?_) ih
    simp only [afterwordref19_FitsOf.l1, hgv]
    rw [if_pos (by omega), if_pos (by omega), if_pos e3, if_pos (by omega), if_pos e1, if_pos (by omega), if_neg c1, if_neg c2, wrapS (by omega)]
theorem ev_fitsR0 : ∀ (d i : Nat), i + d = evs.length → Ev (fun k => afterwordref19_FitsOf.l0 k ts (i : Int) evs gaps) ((List.range d).all (fun m => fitE evs ts (i + m)) && gaps.all (fitG ts))
 | 0, i, hi => by
  have := ev_fitsR1 h ts hts gaps.length 0 (by omega)
  rw [List.drop_zero] at this
  exact Ev.step (fun k => by simp only [afterwordref19_FitsOf.l0]; rw [if_neg (by omega)]; rfl) this
 | d + 1, i, hi => by
  have hn := h.n
  have ih := ev_fitsR0 d (i + 1) (by omega)
  rw [fits_step]
  by_cases c1 : rd ts (i : Int) < (rd_T27 evs (i : Int)).f0
  ·rw [show fitE evs ts i = false from decide_eq_false (by omega), Bool.false_and, Bool.false_and]
   refine Ev.step (f := fun _ => some false) (fun k => ?_) (Ev.now _)
   simp only [afterwordref19_FitsOf.l0]
   rw [if_pos (by omega), if_pos (by omega), if_pos (by omega), if_pos c1]
  ·by_cases c2 : rd ts (i : Int) > (rd_T27 evs (i : Int)).f1
   ·rw [show fitE evs ts i = false from decide_eq_false (by omega), Bool.false_and, Bool.false_and]
    refine Ev.step (f := fun _ => some false) (fun k => ?_) (Ev.now _)
    simp only [afterwordref19_FitsOf.l0]
    rw [if_pos (by omega), if_pos (by omega), if_pos (by omega), if_neg c1, if_pos c2]
   ·rw [show fitE evs ts i = true from decide_eq_true (by omega), Bool.true_and]
    refine Ev.step (fun k => ?_) ih
    simp only [afterwordref19_FitsOf.l0]
    rw [if_pos (by omega), if_pos (by omega), if_pos (by omega), if_neg c1, if_neg c2, wrapS (by omega)]
end
theorem ev_isHist (evs : List S27) (gaps : List S86) : Ev (fun k => skew_isHist.f k evs gaps) (histB evs gaps) := ⟨30, fun k hk => isHist_eq evs gaps k hk⟩
theorem ev_Fits (evs : List S27) (gaps : List S86) (ts : List Int) : Ev (fun k => skew_Fits.f k evs gaps ts) (fitsR evs gaps ts) := by
 refine Ev.bind (ev_isHist evs gaps) ?_
 unfold fitsR
 by_cases c : histB evs gaps = true
 ·have h := (histIs evs gaps).mp c
  rw [if_pos c]
  by_cases d : ts.length = evs.length
  ·rw [if_pos d]
   have e : ((ts.length : Int) != (evs.length : Int)) = false := bne_eq_false_iff_eq.mpr (by omega)
   refine Ev.congr (f := fun k => skew_Fits.j0 k ts false evs gaps) (fun k => by rw [if_pos c, e]) ?_
   refine Ev.step (f := fun k => skew_Fits.l0 k ts evs (evs.length : Int) ((0 : Nat) : Int) evs gaps) (fun k => by simp only [skew_Fits.j0]; rfl) ?_
   have := ev_fits0 h ts d evs.length 0 (by omega)
   simp only [Nat.zero_add] at this
   exact this
  ·rw [if_neg d]
   have e : ((ts.length : Int) != (evs.length : Int)) = true := bne_iff_ne.mpr (by omega)
   refine Ev.congr (f := fun k => skew_Fits.j0 k ts true evs gaps) (fun k => by rw [if_pos c, e]) ?_
   exact Ev.step (f := fun _ => some (false, 2)) (fun k => by simp only [skew_Fits.j0]; rfl) (Ev.now _)
 ·rw [if_neg c]
  refine Ev.congr (f := fun k => skew_Fits.j0 k ts true evs gaps) (fun k => by rw [if_neg c]) ?_
  exact Ev.step (f := fun _ => some (false, 2)) (fun k => by simp only [skew_Fits.j0]; rfl) (Ev.now _)
theorem ev_RefFits (evs : List S27) (gaps : List S86) (ts : List Int) : Ev (fun k => afterwordref19_Fits.f k evs gaps ts) (fitsR evs gaps ts) := by
 refine Ev.bind (ev_Hist evs gaps) ?_
 unfold fitsR
 by_cases c : histB evs gaps = true
 ·have h := (histIs evs gaps).mp c
  rw [if_pos c]
  by_cases d : ts.length = evs.length
  ·rw [if_pos d]
   have := ev_fitsR0 h ts d evs.length 0 (by omega)
   simp only [Nat.zero_add] at this
   refine Ev.congr (f := fun k => (afterwordref19_FitsOf.f k evs gaps ts).bind fun t590 => some (t590, 0)) (fun k => by rw [if_pos c, if_pos (by omega)]) ?_
   exact Ev.bind (g := fun k => afterwordref19_FitsOf.f k evs gaps ts) (f := fun _ t590 => some (t590, (0 : Int))) this (Ev.now _)
  ·rw [if_neg d]
   exact Ev.congr (f := fun _ => some (false, 2)) (fun k => by rw [if_pos c, if_neg (by omega)]) (Ev.now _)
 ·rw [if_neg c]
  exact Ev.congr (f := fun _ => some (false, 2)) (fun k => if_neg c) (Ev.now _)
end Go.Proofs.Ytbffhblebigcfaa.Sk
