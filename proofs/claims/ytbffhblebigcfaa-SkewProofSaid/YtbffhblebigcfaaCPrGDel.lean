/- slices.Delete of numbers, off the shelf. -/
import Derived.Shelf.Slices.Delete
import Derived.Test.YtbffhblebigcfaaCPrGBase
namespace Go.Proofs
open Go.Shelf
def Try.lays2_23_ren : Go.Shelf.Ren := ⟨fun | 23 => 119 | n => n, fun | 22 => 40 | 3 => 3 | 4 => 4 | 0 => 0 | n => n, fun | n => n⟩
theorem Try.lays2_23 : Go.Proofs.Lays2.n23 Try.prog Try.lays2_23_ren := {
 mixed := by kernel_rfl
 f23 := Try.func119.trans (congrArg some (by kernel_rfl))
 t0 := Try.underlying0
 a0 := Try.isAgg0
 z0 := Try.sizeOf0
 v0 := Try.zeroValue0
 t3 := Try.underlying3
 a3 := Try.isAgg3
 z3 := Try.sizeOf3
 v3 := Try.zeroValue3
 t4 := Try.underlying4
 a4 := Try.isAgg4
 z4 := Try.sizeOf4
 v4 := Try.zeroValue4
 t22 := Try.underlying40
 a22 := Try.isAgg40
 z22 := Try.sizeOf40
 v22 := Try.zeroValue40
 i3 := by kernel_rfl }
end Go.Proofs
namespace Go.Proofs.Ytbffhblebigcfaa.Sk
open Go.RowKit Go.Shelf Go.Sort Go.Proofs.YtbffhblebigcfaaW.PrintWords Go.Proofs.YtbffhblebigcfaaW.PrintLast Go.Proofs.YtbffhblebigcfaaW.PrintMore
set_option linter.unusedVariables false
set_option linter.unusedSimpArgs false
theorem putRow_block (w : World) (g n : Nat) (d : Array Int) (cur : Array Value) (e : TypeId) (fr : Nat × Nat) (h : w.heap[g]? = some (.cells cur e fr)) : (putRow (Value.int .i64) (Sort.ahead w n) g 0 d).heap[g]? = some (.cells (putCells (Value.int .i64) 0 d cur) e fr) := by
 unfold putRow mapBlock Sort.ahead
 simp [Array.getElem?_modify, h, onCells]
theorem putRow_far (w : World) (g n k : Nat) (d : Array Int) (hk : k ≠ g) : (putRow (Value.int .i64) (Sort.ahead w n) g 0 d).heap[k]? = w.heap[k]? := by
 unfold putRow mapBlock Sort.ahead
 simp only [Array.getElem?_modify]
 rw [if_neg (fun e => hk e.symm)]
theorem putCells_take (d : List Int) (cur : Array Value) (n : Nat) (hn : n ≤ d.length) (hc : d.length ≤ cur.size) : (putCells (Value.int .i64) 0 d.toArray cur).toList.take n = encs (Value.int .i64) (d.take n) := by
 apply List.ext_getElem?
 intro j
 rw [List.getElem?_take]
 by_cases hj : j < n
 ·rw [if_pos hj, Array.getElem?_toList]
  simp only [putCells, Array.getElem?_mapIdx, encs, List.getElem?_map, List.getElem?_take, if_pos hj]
  rw [Array.getElem?_eq_getElem (by omega), Option.map_some, if_pos ⟨by omega, by simp; omega⟩, List.getElem?_eq_getElem (by omega), Option.map_some]
  simp [getElem!_pos, show j < d.length by omega]
 ·rw [if_neg hj, List.getElem?_eq_none (by rw [encs_length]; simp; omega)]
theorem del119 (w : World) (base : Nat) (ok : Nat → Prop) (v : Value) (l : List Int) (k : Nat) (hk : k < l.length) (h : (Kd.int .i64).R 3 w base ok v l) :
  Calls Try.prog 119 #[v, .int .i64 (k : Int), .int .i64 ((k + 1 : Nat) : Int)] w fun e w' => ∃ v', e = .returned v' ∧ (Kd.int .i64).R 3 w' base ok v' (l.take k ++ l.drop (k + 1)) ∧ v'.ownBlock = v.ownBlock ∧ w.grownBy w' v.ownBlock ∧ w'.heap.size = w.heap.size := by
 have hown := Kd.own_of_R (enc := Value.int .i64) (h1 := fun _ => rfl) h
 have hok := h.1
 obtain ⟨hl, ⟨_, hn⟩ | ⟨g, cap, cur, rfl, hbg, hh, hcap, hmax, hsz, htk⟩⟩ := hown
 ·omega
 ·rw [Nat.mul_one] at hsz htk
  have hcell : ∀ j, j < l.length → cur[j]? = some (.int .i64 (l.getD j 0)) := by
   intro j hj
   have h1 := congrArg (·[j]?) htk
   simp only [List.getElem?_take, if_pos hj, Array.getElem?_toList] at h1
   rw [h1, encs_get (d := 0) l j hj]
  have hH : Holds (Value.int .i64) w g 0 l.toArray := by
   intro j hj
   have hj' : j < l.length := by simpa using hj
   refine ⟨?_, blk_frozen hh _⟩
   rw [Nat.zero_add]
   refine cell_at hh j _ ?_
   rw [hcell j hj']
   simp [hj', List.getD_eq_getElem?_getD]
  have hm : cap ≤ 9223372036854775807 := by simpa [maxLen] using hmax
  have hC := Any.slices_Delete_int_arr Try.lays2_23 g 0 cap k (k + 1) l.toArray w hH (by simpa using hcap) hm (by omega) (by simp; omega)
  have hf : Try.lays2_23_ren.f 23 = 119 := rfl
  rw [hf] at hC
  refine Calls.mono (by simpa using hC) ?_
  rintro e w' ⟨rfl, q, rfl⟩
  have hsl : (l.take k ++ l.drop (k + 1) ++ List.replicate (k + 1 - k) (0 : Int)).length = l.length := by simp; omega
  have hlen2 : (l.take k ++ l.drop (k + 1)).length = l.length - 1 := by simp; omega
  refine ⟨_, rfl, ?_, rfl, ⟨rfl, rfl, rfl, by simp [Sort.ahead], fun i hi hne => putRow_far w g q i _ (fun e => hne (by subst e; rfl))⟩, by simp [Sort.ahead]⟩
  refine Kd.R_of_own (enc := Value.int .i64) (h1 := fun _ => rfl) ?_ (fun k hk => hok k hk)
  refine ⟨by rw [encs_length, Nat.mul_one], .inr ⟨g, cap, _, ?_, hbg, putRow_block w g q _ cur 3 (0, 0) hh, by omega, hmax, ?_, ?_⟩⟩
  ·rw [hlen2]
  ·simp [putCells]; omega
  ·have hsl' : (l.take k ++ (l.drop (k + 1) ++ [(0 : Int)])).length = l.length := by simp; omega
   have := putCells_take (l.take k ++ (l.drop (k + 1) ++ [(0 : Int)])) cur (l.length - 1) (by omega) (by omega)
   rw [hlen2, Nat.mul_one, this, ← List.append_assoc, List.take_append_of_le_length (by omega), List.take_of_length_le (by omega)]
end Go.Proofs.Ytbffhblebigcfaa.Sk
