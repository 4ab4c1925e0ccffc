/- slices.DeleteFunc of numbers that are one number, off the shelf. -/
import Derived.Shelf.SlicesE.DeleteFunc
import Derived.Test.YtbffhblebigcfaaCPrGDel
namespace Go.Proofs
open Go.Shelf
def Try.laysH_10_ren : Go.Shelf.Ren := ⟨fun | 10 => 62 | 6 => 114 | n => n, fun | 22 => 40 | 23 => 3 | 25 => 97 | 3 => 3 | 4 => 4 | 0 => 0 | n => n, fun | n => n⟩
theorem Try.laysH_10 : Go.Proofs.SlLaysH.n10 Try.prog Try.laysH_10_ren := {
 mixed := by kernel_rfl
 f6 := ⟨Try.f114.name, by kernel_rfl, Try.func114.trans (congrArg some (by kernel_rfl))⟩
 f10 := ⟨Try.f62.name, by kernel_rfl, Try.func62.trans (congrArg some (by kernel_rfl))⟩
 t0 := Try.underlying0
 a0 := Try.isAgg0
 z0 := Try.sizeOf0
 v0 := Try.zeroValue0
 t3 := Try.underlying3
 a3 := Try.isAgg3
 z3 := Try.sizeOf3
 v3 := Try.zeroValue3
 t4 := Try.underlying4
 a4 := Try.isAgg4
 z4 := Try.sizeOf4
 v4 := Try.zeroValue4
 t22 := Try.underlying40
 a22 := Try.isAgg40
 z22 := Try.sizeOf40
 v22 := Try.zeroValue40
 a23 := Try.isAgg3
 z23 := Try.sizeOf3
 t25 := Try.underlying97
 a25 := Try.isAgg97
 z25 := Try.sizeOf97
 v25 := Try.zeroValue97 }
end Go.Proofs
namespace Go.Proofs.Ytbffhblebigcfaa.Sk
open Go.RowKit Go.Shelf Go.Sort Go.Proofs.YtbffhblebigcfaaW.PrintWords Go.Proofs.YtbffhblebigcfaaW.PrintLast Go.Proofs.YtbffhblebigcfaaW.PrintMore
set_option linter.unusedVariables false
set_option linter.unusedSimpArgs false
theorem cl64_calls (nb : Nat) (n k : Int) (w : World) (h : w.cell? ⟨nb, 0, none⟩ = some (.int .i64 n)) :
  Calls Try.prog 64 #[.int .i64 k, .pointer (some ⟨nb, 0, none⟩)] w fun e w' => e = .returned (.bool (k == n)) ∧ ∃ q, w' = w.drewN q := by
 go_enter Try.func64, Try.ntmps64
 go_wp2
 go_ret
 exact ⟨rfl, 0, rfl⟩
theorem sortWorld_cell (w : World) (g m : Nat) (dk : Array Int) (os : Array Obj) (nb : Nat) (v : Value) (hne : nb ≠ g) (hlt : nb < w.heap.size) (h : w.cell? ⟨nb, 0, none⟩ = some v) : (sortWorld (Value.int .i64) w g 0 m dk os).cell? ⟨nb, 0, none⟩ = some v := by
 have e : (sortWorld (Value.int .i64) w g 0 m dk os).heap[nb]? = w.heap[nb]? := by
  unfold sortWorld
  rw [Sort.heap_grow_old _ _ (by simpa [putRow, mapBlock, Sort.ahead] using hlt)]
  exact putRow_far w g m nb dk hne
 unfold World.cell? at h ⊢
 rw [e]; exact h
theorem delFn_calls (base : Nat) (ok : Nat → Prop) (g cap : Nat) (l : List Int) (nb : Nat) (n : Int) (w : World) (hl : l ≠ []) (h : (Kd.int .i64).R 3 w base ok (.slice (some ⟨g, 0, none⟩) l.length cap) l) (hn : w.cell? ⟨nb, 0, none⟩ = some (.int .i64 n)) (hne : nb ≠ g) (hnb : nb < w.heap.size) :
  Calls Try.prog 62 #[.slice (some ⟨g, 0, none⟩) l.length cap, .func (.func 64) #[] #[.pointer (some ⟨nb, 0, none⟩)]] w fun e w' => ∃ v', e = .returned v' ∧ (Kd.int .i64).R 3 w' base ok v' (l.filter fun x => !(x == n)) ∧ w.grownBy w' (some g) := by
 have hown := Kd.own_of_R (enc := Value.int .i64) (h1 := fun _ => rfl) h
 have hok := h.1
 obtain ⟨hll, ⟨hx, hn0⟩ | ⟨g', cap', cur, hv, hbg, hh, hcap, hmax, hsz, htk⟩⟩ := hown
 ·cases hx
 ·injection hv with hv _ hv2
  injection hv with hv
  injection hv with hv _ _
  subst hv
  subst hv2
  rw [Nat.mul_one] at hsz htk
  have hcell : ∀ j, j < l.length → cur[j]? = some (.int .i64 (l.getD j 0)) := by
   intro j hj
   have h1 := congrArg (·[j]?) htk
   simp only [List.getElem?_take, if_pos hj, Array.getElem?_toList] at h1
   rw [h1, encs_get (d := 0) l j hj]
  have hH : Holds (Value.int .i64) w g 0 l.toArray := by
   intro j hj
   have hj' : j < l.length := by simpa using hj
   refine ⟨?_, blk_frozen hh _⟩
   rw [Nat.zero_add]
   refine cell_at hh j _ ?_
   rw [hcell j hj']
   simp [hj', List.getD_eq_getElem?_getD]
  have hm : cap ≤ 9223372036854775807 := by simpa [maxLen] using hmax
  have hp : PredAt Try.prog 64 #[.pointer (some ⟨nb, 0, none⟩)] (Value.int .i64) (fun x => x == n) w := fun W x hb => cl64_calls nb n x W (pw_cell_below hb hn)
  have hpo : PredOver Try.prog 64 #[.pointer (some ⟨nb, 0, none⟩)] (Value.int .i64) (fun x => x == n) g 0 l.toArray.size w := fun m os dk x _ => cl64_calls nb n x _ (sortWorld_cell w g m dk os nb _ hne hnb hn)
  have hC := AnyE.slices_DeleteFunc Try.laysH_10 (Value.int .i64) (fun x => rfl) (fun x => x == n) 64 #[.pointer (some ⟨nb, 0, none⟩)] (fun args w => by kernel_rfl) 0 Try.zeroValue3 g 0 cap l.toArray w hp hpo hH (by simp; omega) (by simpa using hcap)
  have hf : Try.laysH_10_ren.f 10 = 62 := rfl
  rw [hf] at hC
  refine Calls.mono (by simpa using hC) ?_
  rintro e w' ⟨rfl, q, rfl⟩
  have hfl := List.length_filter_le (fun x => !(x == n)) l
  refine ⟨_, rfl, ?_, ⟨rfl, rfl, rfl, by simp [Sort.ahead], fun i hi hne => putRow_far w g q i _ (fun e => hne (by subst e; rfl))⟩⟩
  refine Kd.R_of_own (enc := Value.int .i64) (h1 := fun _ => rfl) ?_ (fun k hk => hok k hk)
  refine ⟨by rw [encs_length, Nat.mul_one], .inr ⟨g, cap, _, rfl, hbg, putRow_block w g q _ cur 3 (0, 0) hh, by omega, hmax, ?_, ?_⟩⟩
  ·simp [putCells]; omega
  ·have := putCells_take ((l.filter fun x => !(x == n)) ++ List.replicate (l.length - (l.filter fun x => !(x == n)).length) 0) cur (l.filter fun x => !(x == n)).length (by simp) (by simp; omega)
   rw [Nat.mul_one]
   rw [List.take_append_of_le_length (Nat.le_refl _), List.take_of_length_le (Nat.le_refl _)] at this
   simpa using this
end Go.Proofs.Ytbffhblebigcfaa.Sk
