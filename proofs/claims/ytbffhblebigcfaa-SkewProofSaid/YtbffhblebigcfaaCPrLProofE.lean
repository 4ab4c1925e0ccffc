/- Small, and what is kept: the printed words say the same. -/
import Derived.Test.YtbffhblebigcfaaCPrLProof
import Derived.Test.YtbffhblebigcfaaCPrS0
namespace Go.Proofs.Ytbffhblebigcfaa.Sk
open Go.RowKit Go.Proofs.YtbffhblebigcfaaW.PrintWords Go.Proofs.YtbffhblebigcfaaW.PrintLast Go.Proofs.YtbffhblebigcfaaW.PrintMore
set_option linter.unusedVariables false
set_option linter.unusedSimpArgs false
theorem ev_idx (l : List Int) (v : Int) (hl : l.length ≤ 1000) : ∀ (d i : Nat), i + d = l.length → ∃ t : Int, Ev (fun k => slices_Index_int_int.l0 k l v (l.length : Int) (i : Int)) t ∧ (0 ≤ t ↔ v ∈ l.drop i)
 | 0, i, h => by
  refine ⟨-1, Ev.step (f := fun _ => some (-1)) (fun k => by simp only [slices_Index_int_int.l0]; rw [if_neg (by omega)]) (Ev.now _), ?_⟩
  rw [List.drop_of_length_le (by omega)]
  exact ⟨fun h => by omega, fun h => by cases h⟩
 | d + 1, i, h => by
  have hi : i < l.length := by omega
  have er : rd l (i : Int) = l[i] := by simp [rd, List.getD_eq_getElem?_getD, hi]
  rw [List.drop_eq_getElem_cons hi, List.mem_cons, ← er]
  by_cases c : v = rd l (i : Int)
  ·refine ⟨i, Ev.step (f := fun _ => some (i : Int)) (fun k => by simp only [slices_Index_int_int.l0]; rw [if_pos (by omega), if_pos (by omega), if_pos (by omega), if_pos c]) (Ev.now _), ⟨fun _ => .inl c, fun _ => by omega⟩⟩
  ·obtain ⟨t, h1, h2⟩ := ev_idx l v hl d (i + 1) (by omega)
   refine ⟨t, Ev.step (fun k => ?_) h1, h2.trans ⟨fun h => .inr h, fun h => h.resolve_left c⟩⟩
   simp only [slices_Index_int_int.l0]
   rw [if_pos (by omega), if_pos (by omega), if_pos (by omega), if_neg c, wrapS (by omega)]
theorem ev_in (l : List Int) (v : Int) (hl : l.length ≤ 1000) : Ev (fun k => slices_Contains_int_int.f k l v) (decide (v ∈ l)) := by
 obtain ⟨t, h1, h2⟩ := ev_idx l v hl l.length 0 (by omega)
 rw [List.drop_zero] at h2
 have e : decide (t ≥ 0) = decide (v ∈ l) := decide_eq_decide.mpr h2
 rw [← e]
 exact Ev.bind (f := fun _ t => some (decide (t ≥ 0))) h1 (Ev.now _)
theorem ev_small1 (gaps : List S86) (hw : gaps.length ≤ 1000) : ∀ (d i : Nat), i + d = gaps.length → Ev (fun k => afterwordlaw19_small.l1 k gaps (gaps.length : Int) (i : Int)) ((gaps.drop i).all fun g => decide (-20000 ≤ g.f2 ∧ g.f2 ≤ 20000 ∧ -20000 ≤ g.f3 ∧ (g.f3 ≤ 20000 ∨ 2000000 ≤ g.f3)))
 | 0, i, h => by
  rw [List.drop_of_length_le (by omega)]
  exact Ev.step (f := fun _ => some true) (fun k => by simp only [afterwordlaw19_small.l1]; rw [if_neg (by omega)]) (Ev.now _)
 | d + 1, i, h => by
  have ih := ev_small1 gaps hw d (i + 1) (by omega)
  rw [drop86 gaps i (by omega), List.all_cons]
  obtain ⟨g, hg⟩ : ∃ g, rd_T86 gaps (i : Int) = g := ⟨_, rfl⟩
  rw [hg]
  by_cases c : -20000 ≤ g.f2 ∧ g.f2 ≤ 20000 ∧ -20000 ≤ g.f3 ∧ (g.f3 ≤ 20000 ∨ 2000000 ≤ g.f3)
  ·rw [decide_eq_true c, Bool.true_and]
   refine Ev.step (fun k => ?_) ih
   simp only [afterwordlaw19_small.l1, hg]
   rw [if_pos (by omega), if_pos (by omega), if_pos (by omega), if_neg (by omega), if_neg (by omega), if_neg (by omega), wrapS (by omega)]
   by_cases e : g.f3 > 20000
   ·rw [if_pos e, if_neg (by omega)]
   ·rw [if_neg e]
  ·rw [decide_eq_false c, Bool.false_and]
   refine Ev.step (f := fun _ => some false) (fun k => ?_) (Ev.now _)
   simp only [afterwordlaw19_small.l1, hg]
   rw [if_pos (by omega), if_pos (by omega), if_pos (by omega)]
   by_cases c1 : g.f2 < -20000
   ·rw [if_pos c1]
   ·by_cases c2 : g.f2 > 20000
    ·rw [if_neg c1, if_pos c2]
    ·by_cases c3 : g.f3 < -20000
     ·rw [if_neg c1, if_neg c2, if_pos c3]
     ·rw [if_neg c1, if_neg c2, if_neg c3, if_pos (by omega), if_pos (by omega)]
theorem ev_small0 (evs : List S27) (gaps : List S86) (hn : evs.length ≤ 1000) (hw : gaps.length ≤ 1000) : ∀ (d i : Nat), i + d = evs.length → Ev (fun k => afterwordlaw19_small.l0 k evs (evs.length : Int) (i : Int) evs gaps) ((evs.drop i).all (fun s => decide (-20000 ≤ s.f0 ∧ s.f1 ≤ 20000)) && gaps.all fun g => decide (-20000 ≤ g.f2 ∧ g.f2 ≤ 20000 ∧ -20000 ≤ g.f3 ∧ (g.f3 ≤ 20000 ∨ 2000000 ≤ g.f3)))
 | 0, i, h => by
  have := ev_small1 gaps hw gaps.length 0 (by omega)
  rw [List.drop_zero] at this
  rw [List.drop_of_length_le (by omega)]
  exact Ev.step (fun k => by simp only [afterwordlaw19_small.l0]; rw [if_neg (by omega)]; rfl) this
 | d + 1, i, h => by
  have ih := ev_small0 evs gaps hn hw d (i + 1) (by omega)
  rw [drop27 evs i (by omega), List.all_cons]
  obtain ⟨g, hg⟩ : ∃ g, rd_T27 evs (i : Int) = g := ⟨_, rfl⟩
  rw [hg]
  by_cases c : -20000 ≤ g.f0 ∧ g.f1 ≤ 20000
  ·rw [decide_eq_true c, Bool.true_and]
   refine Ev.step (fun k => ?_) ih
   simp only [afterwordlaw19_small.l0, hg]
   rw [if_pos (by omega), if_pos (by omega), if_pos (by omega), if_neg (by omega), if_neg (by omega), wrapS (by omega)]
  ·rw [decide_eq_false c, Bool.false_and, Bool.false_and]
   refine Ev.step (f := fun _ => some false) (fun k => ?_) (Ev.now _)
   simp only [afterwordlaw19_small.l0, hg]
   rw [if_pos (by omega), if_pos (by omega), if_pos (by omega)]
   by_cases c1 : g.f0 < -20000
   ·rw [if_pos c1]
   ·rw [if_neg c1, if_pos (by omega)]
theorem ev_Small {evs : List S27} {gaps : List S86} (h : HistIs evs gaps) : Ev (fun k => afterwordlaw19_small.f k evs gaps) (smallB evs gaps) := by
 have hn := h.n
 have hw := h.w
 have := ev_small0 evs gaps (by omega) (by omega) evs.length 0 (by omega)
 rw [List.drop_zero] at this
 exact this
def gK (evs : List S27) (gaps : List S86) (S : List Int) (n : Nat) : List S86 := ((List.range n).filter fun (i : Nat) => decide ((evs.length : Int) + (i : Int) ∈ S)).map fun (i : Nat) => rd_T86 gaps (i : Int)
theorem gK_len (evs : List S27) (gaps : List S86) (S : List Int) (n : Nat) : (gK evs gaps S n).length ≤ n := by
 unfold gK
 rw [List.length_map]
 have := List.length_filter_le (fun (i : Nat) => decide ((evs.length : Int) + (i : Int) ∈ S)) (List.range n)
 rw [List.length_range] at this
 exact this
theorem gK_yes (evs : List S27) (gaps : List S86) (S : List Int) (n : Nat) (h : (evs.length : Int) + (n : Int) ∈ S) : gK evs gaps S (n + 1) = gK evs gaps S n ++ [rd_T86 gaps (n : Int)] := by
 unfold gK
 rw [List.range_succ, List.filter_append, List.filter_cons_of_pos (by simpa using h), List.map_append]
 rfl
theorem gK_no (evs : List S27) (gaps : List S86) (S : List Int) (n : Nat) (h : ¬ (evs.length : Int) + (n : Int) ∈ S) : gK evs gaps S (n + 1) = gK evs gaps S n := by
 unfold gK
 rw [List.range_succ, List.filter_append, List.filter_cons_of_neg (by simpa using h)]
 simp
theorem ev_kept1 (evs : List S27) (gaps : List S86) (hn : evs.length ≤ 1000) (hw : gaps.length ≤ 1000) (S : List Int) (hS : S.length ≤ 1000) : ∀ (d i : Nat), i + d = gaps.length → Ev (fun k => afterwordlaw19_kept.l1 k S gaps (gaps.length : Int) (i : Int) evs gaps (keptE evs S) (gK evs gaps S i)) (keptE evs S, keptG evs gaps S)
 | 0, i, h => by
  obtain rfl : i = gaps.length := by omega
  exact Ev.step (f := fun _ => some (keptE evs S, keptG evs gaps S)) (fun k => by simp only [afterwordlaw19_kept.l1]; rw [if_neg (by omega)]; rfl) (Ev.now _)
 | d + 1, i, h => by
  have ih := ev_kept1 evs gaps hn hw S hS d (i + 1) (by omega)
  have hlen := gK_len evs gaps S i
  have hin := ev_in S ((evs.length : Int) + (i : Int)) hS
  have hl : (gK evs gaps S i).length < 4398046511104 := by omega
  have hw1 : wrap64 ((i : Int) + 1) = ((i + 1 : Nat) : Int) := wrapS (by omega)
  have hw2 : wrap64 ((evs.length : Int) + (i : Int)) = (evs.length : Int) + (i : Int) := w64_mid (by omega) (by omega)
  refine Ev.step (f := fun k => (slices_Contains_int_int.f k S ((evs.length : Int) + (i : Int))).bind fun t => if t = true then afterwordlaw19_kept.l1 k S gaps (gaps.length : Int) ((i + 1 : Nat) : Int) evs gaps (keptE evs S) (gK evs gaps S i ++ [rd_T86 gaps (i : Int)]) else afterwordlaw19_kept.l1 k S gaps (gaps.length : Int) ((i + 1 : Nat) : Int) evs gaps (keptE evs S) (gK evs gaps S i)) (fun k => ?_) (Ev.bind hin ?_)
  ·simp only [afterwordlaw19_kept.l1, if_pos hl, hw1, hw2]
   rw [if_pos (by omega), if_pos (by omega), if_pos (by omega)]
  ·by_cases c : (evs.length : Int) + (i : Int) ∈ S
   ·rw [gK_yes evs gaps S i c] at ih
    simpa [c] using ih
   ·rw [gK_no evs gaps S i c] at ih
    simpa [c] using ih
theorem mkE_succ (f : Nat → S27) (n : Nat) : mkE f (n + 1) = mkE f n ++ [f n] := by unfold mkE; rw [List.range_succ, List.map_append]; rfl
theorem ev_kept0 (evs : List S27) (gaps : List S86) (hn : evs.length ≤ 1000) (hw : gaps.length ≤ 1000) (S : List Int) (hS : S.length ≤ 1000) : ∀ (d i : Nat), i + d = evs.length → Ev (fun k => afterwordlaw19_kept.l0 k S evs (evs.length : Int) (i : Int) evs gaps (mkE (keepF evs S) i)) (keptE evs S, keptG evs gaps S)
 | 0, i, h => by
  obtain rfl : i = evs.length := by omega
  exact Ev.step (fun k => by simp only [afterwordlaw19_kept.l0]; rw [if_neg (by omega)]; rfl) (ev_kept1 evs gaps hn hw S hS gaps.length 0 (by omega))
 | d + 1, i, h => by
  have ih := ev_kept0 evs gaps hn hw S hS d (i + 1) (by omega)
  have hlen := mkE_len (keepF evs S) i
  have hin := ev_in S (i : Int) hS
  have hl : (mkE (keepF evs S) i).length < 8796093022208 := by omega
  have hw1 : wrap64 ((i : Int) + 1) = ((i + 1 : Nat) : Int) := wrapS (by omega)
  refine Ev.step (f := fun k => (slices_Contains_int_int.f k S (i : Int)).bind fun t => if t = true then afterwordlaw19_kept.l0 k S evs (evs.length : Int) ((i + 1 : Nat) : Int) evs gaps (mkE (keepF evs S) i ++ [rd_T27 evs (i : Int)]) else afterwordlaw19_kept.l0 k S evs (evs.length : Int) ((i + 1 : Nat) : Int) evs gaps (mkE (keepF evs S) i ++ [wide27])) (fun k => ?_) (Ev.bind hin ?_)
  ·simp only [afterwordlaw19_kept.l0, afterwordlaw19_Span.f, Option.bind_some, if_pos hl, hw1]
   rw [if_pos (by omega), if_pos (by omega), if_pos (by omega)]
   rfl
  ·rw [mkE_succ] at ih
   by_cases c : (i : Int) ∈ S
   ·rw [show keepF evs S i = rd_T27 evs (i : Int) from if_pos c] at ih
    simpa [c] using ih
   ·rw [show keepF evs S i = wide27 from if_neg c] at ih
    simpa [c] using ih
theorem ev_Kept {evs : List S27} {gaps : List S86} (h : HistIs evs gaps) (S : List Int) (hS : S.length ≤ 1000) : Ev (fun k => afterwordlaw19_kept.f k evs gaps S) (keptE evs S, keptG evs gaps S) := by
 have hn := h.n
 have hw := h.w
 exact ev_kept0 evs gaps (by omega) (by omega) S hS evs.length 0 (by omega)
end Go.Proofs.Ytbffhblebigcfaa.Sk
