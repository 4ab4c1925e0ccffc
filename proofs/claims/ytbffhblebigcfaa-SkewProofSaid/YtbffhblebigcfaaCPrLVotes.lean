/- The plain laws of votes: what spans have together, and their vote, computed two ways, is the same. -/
import Derived.Test.YtbffhblebigcfaaCPrGVote
import Derived.Test.YtbffhblebigcfaaCPrGMeet
import Derived.Test.YtbffhblebigcfaaCPrS0
namespace Go.Proofs.Ytbffhblebigcfaa.Sk
open Go.RowKit Go.Proofs.YtbffhblebigcfaaW.PrintWords Go.Proofs.YtbffhblebigcfaaW.PrintLast Go.Proofs.YtbffhblebigcfaaW.PrintMore
set_option linter.unusedVariables false
set_option linter.unusedSimpArgs false
theorem drop27 (l : List S27) (i : Nat) (h : i < l.length) : l.drop i = rd_T27 l (i : Int) :: l.drop (i + 1) := by
 have er : rd_T27 l (i : Int) = l[i] := by simp [rd_T27, rdOf, List.getD_eq_getElem?_getD, h]
 rw [List.drop_eq_getElem_cons h, er]
theorem mem27 (l : List S27) (i : Nat) (h : i < l.length) : rd_T27 l (i : Int) ∈ l := by
 have er : rd_T27 l (i : Int) = l[i] := by simp [rd_T27, rdOf, List.getD_eq_getElem?_getD, h]
 rw [er]; exact List.getElem_mem h
theorem wrapS {i : Nat} (h : i < 1000000) : wrap64 ((i : Int) + 1) = ((i + 1 : Nat) : Int) := by unfold wrap64; omega
theorem timeB (t : Int) : afterwordref19_Time.f t = some (decide (-1000000 ≤ t ∧ t ≤ 1000000)) := by
 unfold afterwordref19_Time.f
 by_cases h0 : t ≥ -1000000
 ·rw [if_pos h0]; simp [show (-1000000 : Int) ≤ t from h0]
 ·rw [if_neg h0]; simp [show ¬ (-1000000 : Int) ≤ t from h0]
theorem good_b (a b : Int) : afterwordref19_Good.f a b = some (good27 ⟨a, b⟩) := by
 unfold afterwordref19_Good.f good27
 by_cases h : a ≤ b
 ·rw [if_pos h, timeB, timeB]
  simp only [Option.bind_some]
  by_cases h1 : -1000000 ≤ a ∧ a ≤ 1000000
  ·rw [decide_eq_true h1, if_pos rfl]
   congr 1
   by_cases h2 : -1000000 ≤ b ∧ b ≤ 1000000
   ·simp [h, h1.1, h2.1, h2.2]
   ·have : ¬ b ≤ 1000000 := by omega
    simp [this]
  ·rw [decide_eq_false h1, if_neg (by simp)]
   congr 1
   by_cases h2 : a ≥ -1000000
   ·have : ¬ b ≤ 1000000 := by omega
    simp [this]
   ·simp [h2]
 ·rw [if_neg h]; simp [h]
theorem ev_goods (l : List S27) (hl : l.length ≤ 40) : ∀ (d i : Nat), i + d = l.length → Ev (fun k => afterwordref19_Goods.l0 k l (i : Int)) ((l.drop i).all good27)
 | 0, i, h => by
  rw [List.drop_of_length_le (by omega)]
  exact Ev.step (f := fun _ => some true) (fun k => by simp only [afterwordref19_Goods.l0]; rw [if_neg (by omega)]) (Ev.now true)
 | d + 1, i, h => by
  rw [drop27 l i (by omega), List.all_cons]
  cases hg : good27 (rd_T27 l (i : Int)) with
  | false =>
   exact Ev.step (f := fun _ => some false) (fun k => by simp only [afterwordref19_Goods.l0]; rw [if_pos (by omega), if_pos (by omega), good_b, hg]; rfl) (Ev.now false)
  | true =>
   refine Ev.step (f := fun k => afterwordref19_Goods.l0 k l ((i + 1 : Nat) : Int)) (fun k => ?_) (ev_goods l hl d (i + 1) (by omega))
   simp only [afterwordref19_Goods.l0]
   rw [if_pos (by omega), if_pos (by omega), good_b, hg]
   simp only [Option.bind_some, if_true]
   rw [wrapS (by omega)]
end Go.Proofs.Ytbffhblebigcfaa.Sk
