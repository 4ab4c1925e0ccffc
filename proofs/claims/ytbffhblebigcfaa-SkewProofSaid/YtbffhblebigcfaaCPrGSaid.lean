/- The walk of said: the facts of a history, one by one, as an iterator's contract. -/
import Derived.RangeFuncNested
import Derived.RangeFuncBound
import Derived.RangeFuncCalls
import Derived.RangeFuncLeaves
import Derived.Shelf.Abstract
import Derived.Shelf.RegionOpen
import Derived.WalkKit
import Derived.OwnWalkIn
import Derived.TacticsInMore
import Derived.LoopNIn
import Derived.LoopIn
import Derived.Test.YtbffhblebigcfaaCPrGBd
namespace Go.Proofs.Ytbffhblebigcfaa.Sk
open Go.RowKit Go.Shelf Go.Proofs.YtbffhblebigcfaaW.PrintWords Go.Proofs.YtbffhblebigcfaaW.PrintLast Go.Proofs.YtbffhblebigcfaaW.PrintMore
attribute [local go_sem] Oper.semAt_some
set_option linter.unusedVariables false
set_option linter.unusedSimpArgs false
abbrev Fc := { x : Int × S153 // (0 ≤ x.1 ∧ x.1 < 100) ∧ (0 ≤ x.2.f0 ∧ x.2.f0 < 11) ∧ 0 ≤ x.2.f1 ∧ x.2.f1 < 11 }
def Fc.enc (x : Fc) : Array Value := #[.int .i64 x.1.1, .agg #[.int .i64 x.1.2.f0, .int .i64 x.1.2.f1, .int .i64 x.1.2.f2, .int .i64 x.1.2.f3]]
def IsFacts (evs : List S27) (gaps : List S86) (fs : List Fc) : Prop :=
 fs.length = evs.length + gaps.length ∧ (∀ (i : Nat) (h : i < fs.length), i < evs.length → (fs[i]).1 = ((i : Int), ⟨10, (i : Int), (rd_T27 evs i).f0, (rd_T27 evs i).f1⟩)) ∧
  ∀ (i : Nat) (h : evs.length + i < fs.length), i < gaps.length → (fs[evs.length + i]).1 = ((evs.length : Int) + i, ⟨(rd_T86 gaps i).f0, (rd_T86 gaps i).f1, (rd_T86 gaps i).f2, (rd_T86 gaps i).f3⟩)
structure KB (n₀ : Nat) (P : Nat → Prop) (W W' : World) : Prop where
 os : W'.os = W.os
 tape : W'.tape = W.tape
 output : W'.output = W.output
 size : W.heap.size ≤ W'.heap.size
 block : ∀ k, k < n₀ → ¬ P k → W'.heap[k]? = W.heap[k]?
theorem KB.refl (n₀ : Nat) (P : Nat → Prop) (W : World) : KB n₀ P W W := ⟨rfl, rfl, rfl, Nat.le_refl _, fun _ _ _ => rfl⟩
theorem KB.trans {n₀ : Nat} {P : Nat → Prop} {X Y Z : World} (h : KB n₀ P X Y) (k : KB n₀ P Y Z) : KB n₀ P X Z :=
 ⟨k.os.trans h.os, k.tape.trans h.tape, k.output.trans h.output, Nat.le_trans h.size k.size, fun i hi hb => (k.block i hi hb).trans (h.block i hi hb)⟩
theorem KB.of {n₀ : Nat} {P : Nat → Prop} {X Y : World} {row : Option Nat} (h : X.grownBy Y row) (hr : ∀ r, row = some r → P r ∨ n₀ ≤ r) (hn : n₀ ≤ X.heap.size) : KB n₀ P X Y :=
 ⟨h.os, h.tape, h.output, h.size, fun i hi hb => h.block i (Nat.lt_of_lt_of_le hi hn) (fun e => by
  rcases hr i e.symm with hp | hp
  ·exact hb hp
  ·omega)⟩
theorem KB.ofBelow {n₀ B : Nat} {P : Nat → Prop} {X Y : World} (h : Below B X Y) (hn : n₀ ≤ B) : KB n₀ P X Y :=
 ⟨h.os, h.tape, h.output, h.size, fun i hi hb => h.block i (Nat.lt_of_lt_of_le hi hn)⟩
theorem KB.alloc {n₀ : Nat} {P : Nat → Prop} {X Y : World} (h : KB n₀ P X Y) (hn : n₀ ≤ Y.heap.size) (o : Obj) : KB n₀ P X (Y.alloc o) := h.trans (KB.of (World.grownBy_alloc Y o none) (fun r e => by cases e) hn)
theorem KB.toBelow {n₀ B : Nat} {P : Nat → Prop} {X Y : World} (h : KB n₀ P X Y) (hb : ∀ k, P k → B ≤ k) (hn : B ≤ n₀) : Below B X Y :=
 ⟨h.os, h.tape, h.output, h.size, fun k hk => h.block k (Nat.lt_of_lt_of_le hk hn) (fun hp => by have := hb k hp; omega)⟩
theorem said_calls (A0 A1 : Option Addr) (n0 n1 c0 c1 : Nat) (F : Fence) (n : Nat) (h80 : F.fn 80) (hro : F.round = none) (w : World) :
  CallsIn F n Try.prog 80 #[.agg #[.slice A0 n0 c0, .slice A1 n1 c1]] w fun e w' => e = .returned (.func (.func 121) #[] #[.pointer (some ⟨w.heap.size, 0, none⟩)]) ∧ w' = w.alloc (.cells #[.slice A0 n0 c0, .slice A1 n1 c1] 39) := by
 refine callsIn_of_wp Try.func80 rfl h80 ?_ hro
 simp only [Try.ntmps80, List.size_toArray, List.length_cons, List.length_nil, Nat.reduceAdd, Nat.reduceSub, Array.replicate_succ, Array.replicate_zero, List.push_toArray, List.append_toArray, List.nil_append, List.cons_append]
 gi_wp2
 go_ret
 exact ⟨rfl, rfl⟩
set_option maxRecDepth 100000 in
set_option maxHeartbeats 2000000 in
theorem said1_stops (A0 A1 : Option Addr) (c0 c1 : Nat) (evs : List S27) (gaps : List S86) (fs : List Fc) (hfs : IsFacts evs gaps fs) (F : Fence) (n : Nat) (h121 : F.fn 121) (hro : F.round = none) (hn : 1 ≤ n) (Bs n₀ : Nat) (P : Nat → Prop) (w wb : World)
  (hBs : Bs < n₀) (hn₀ : n₀ ≤ w.heap.size) (hk : w.heap[Bs]? = some (.cells #[.slice A0 evs.length c0, .slice A1 gaps.length c1] 39 (0, 0))) (hwb : Below wb.heap.size wb w) (hwn : wb.heap.size ≤ n₀) (hbB : ∀ k, P k → wb.heap.size ≤ k) (hne : ¬ P Bs) (hC0 : Kd.C k27 wb A0 evs.length evs) (hC1 : Kd.C k86 wb A1 gaps.length gaps)
  (hm0 : evs.length ≤ 10) (hm1 : gaps.length ≤ 20) :
  SeqStopsK F n Try.prog 121 #[.pointer (some ⟨Bs, 0, none⟩)] Fc.enc (KB n₀ P) (fun ys => ys = fs) (fun pre => True) fs.length w := fun l J Jx W hW hJ hJx hY h0 => by
 refine callsIn_of_wp Try.func121 rfl h121 ?_ hro
 simp only [Try.ntmps121, List.size_toArray, List.length_cons, List.length_nil, Nat.reduceAdd, Nat.reduceSub, Array.replicate_succ, Array.replicate_zero, List.push_toArray, List.append_toArray, List.nil_append, List.cons_append]
 have hkW : W.heap[Bs]? = some (.cells #[.slice A0 evs.length c0, .slice A1 gaps.length c1] 39 (0, 0)) := blk_below hk hW
 have x0 := cell_at hkW 0 (.slice A0 evs.length c0) rfl
 have x1 := cell_at hkW 1 (.slice A1 gaps.length c1) rfl
 have HW := Aside0.mk hW
 have HJ := Aside0.mk hJ
 have HJx := Aside0.mk hJx
 have HY := Aside0.mk hY
 have HKW := Aside0.mk hkW
 clear hW hJ hJx hY hkW
 gi_wp2
 gi_loopw [10] (fun v10 wr => ∃ i : Nat, i ≤ evs.length ∧ v10 = .int .i64 (i : Int) ∧ Aside0 (J (fs.take i) wr) ∧ Aside0 (KB n₀ P W wr)) (fun v _ => evs.length - (intOf v).toNat)
 case atStart => exact ⟨0, Nat.zero_le _, rfl, ⟨h0⟩, ⟨KB.refl _ _ _⟩⟩
 case round =>
  obtain ⟨i, hi, rfl, HJi, HBi⟩ := hrel
  by_cases hlt : (i : Int) < evs.length
  ·have hBr : KB n₀ P W wr := HBi.out
   have hT : Below wb.heap.size wb wr := (hwb.trans (below_weak HW.out hwb.size)).trans (hBr.toBelow hbB hwn)
   obtain ⟨ad, e1, hy0, hy1⟩ := at_T27 (Kd.C_below hC0 hT) (i : Int) (by omega) hlt
   cases e1
   rw [Int.toNat_natCast] at hy0 hy1
   have hil : i < fs.length := by have := hfs.1; omega
   have hst : fs.take (i + 1) = fs.take i ++ [fs[i]] := List.take_succ_eq_append_getElem hil
   have hfi := hfs.2.1 i hil (by omega)
   obtain ⟨s, hs⟩ : ∃ s, rd_T27 evs (i : Int) = s := ⟨_, rfl⟩
   rw [hs] at hy0 hy1 hfi
   have henc : Fc.enc fs[i] = #[.int .i64 (i : Int), .agg #[.int .i64 10, .int .i64 (i : Int), .int .i64 s.f0, .int .i64 s.f1]] := by unfold Fc.enc; rw [hfi]
   have hJa : J (fs.take i) (wr.alloc (.cells #[.int .i64 s.f0, .int .i64 s.f1] 27)) := HJ.out _ wr _ none HJi.out (World.grownBy_alloc wr _ none) (fun r e => by cases e)
   have hBa : KB n₀ P W (wr.alloc (.cells #[.int .i64 s.f0, .int .i64 s.f1] 27)) := hBr.alloc (Nat.le_trans hn₀ (Nat.le_trans HW.out.size hBr.size)) _
   obtain ⟨fn, tmps, assign, body, hy, hR⟩ := HY.out (fs.take i) fs[i] _ hJa (by rw [List.length_take]; omega)
   rw [henc] at hy
   have hz0 := cell_at (blk_new wr (.cells #[.int .i64 s.f0, .int .i64 s.f1] 27)) 0 (.int .i64 s.f0) rfl
   have hz1 := cell_at (blk_new wr (.cells #[.int .i64 s.f0, .int .i64 s.f1] 27)) 1 (.int .i64 s.f1) rfl
   have HBa := Aside0.mk hBa
   have HSt := Aside0.mk hst
   clear hs hfi henc hJa hBa hst hT hBr
   gi_wp2
   clear HJi HBi hz0 hz1 hy0 hy1
   refine hR.mono ?_
   rintro e W3 (⟨rfl, hJ3, hk3⟩ | ⟨rfl, hJx3⟩)
   ·have HJ3 := Aside0.mk hJ3
    have HB3 := Aside0.mk (HBa.out.trans hk3)
    clear hJ3 hk3
    gi_wp2
    go_roundw
    case rel => exact ⟨i + 1, by omega, by simp, ⟨by rw [HSt.out]; exact HJ3.out⟩, HB3⟩
    case measure => simp [intOf]; omega
   ·gi_wp2
    refine bodyPost_ret (results_none rfl _ _ _) rfl ?_
    exact ⟨⟨_, rfl⟩, .inr ⟨_, trivial, hJx3⟩⟩
  ·obtain rfl : i = evs.length := by omega
   have hBr : KB n₀ P W wr := HBi.out
   have HJr := Aside0.mk (show J (fs.take evs.length) wr from HJi.out)
   have hkr : wr.heap[Bs]? = some (.cells #[.slice A0 evs.length c0, .slice A1 gaps.length c1] 39 (0, 0)) := (hBr.block Bs hBs hne).trans HKW.out
   have y0 := cell_at hkr 0 (.slice A0 evs.length c0) rfl
   have y1 := cell_at hkr 1 (.slice A1 gaps.length c1) rfl
   have HBr := Aside0.mk hBr
   have HKr := Aside0.mk hkr
   clear HJi HBi hBr hkr x0 x1
   gi_wp2
   clear y0 y1
   gi_loopw [29] (fun v29 wr => ∃ i : Nat, i ≤ gaps.length ∧ v29 = .int .i64 (i : Int) ∧ Aside0 (J (fs.take (evs.length + i)) wr) ∧ Aside0 (KB n₀ P W wr)) (fun v _ => gaps.length - (intOf v).toNat)
   case atStart => exact ⟨0, Nat.zero_le _, rfl, HJr, HBr⟩
   case round =>
    clear HJr HBr HKr
    obtain ⟨i, hi2, rfl, HJi, HBi⟩ := hrel
    by_cases hlt2 : (i : Int) < gaps.length
    ·have hBr : KB n₀ P W wr := HBi.out
     have hT : Below wb.heap.size wb wr := (hwb.trans (below_weak HW.out hwb.size)).trans (hBr.toBelow hbB hwn)
     obtain ⟨ad, e1, hy0, hy1, hy2, hy3⟩ := at_T86 (Kd.C_below hC1 hT) (i : Int) (by omega) hlt2
     cases e1
     rw [Int.toNat_natCast] at hy0 hy1 hy2 hy3
     have hil : evs.length + i < fs.length := by have := hfs.1; omega
     have hst : fs.take (evs.length + i + 1) = fs.take (evs.length + i) ++ [fs[evs.length + i]] := List.take_succ_eq_append_getElem hil
     have hfi := hfs.2.2 i hil (by omega)
     obtain ⟨s, hs⟩ : ∃ s, rd_T86 gaps (i : Int) = s := ⟨_, rfl⟩
     rw [hs] at hy0 hy1 hy2 hy3 hfi
     have henc : Fc.enc fs[evs.length + i] = #[.int .i64 ((evs.length : Int) + i), .agg #[.int .i64 s.f0, .int .i64 s.f1, .int .i64 s.f2, .int .i64 s.f3]] := by unfold Fc.enc; rw [hfi]
     have hJa : J (fs.take (evs.length + i)) (wr.alloc (.cells #[.int .i64 s.f0, .int .i64 s.f1, .int .i64 s.f2, .int .i64 s.f3] 86)) := HJ.out _ wr _ none HJi.out (World.grownBy_alloc wr _ none) (fun r e => by cases e)
     have hBa : KB n₀ P W (wr.alloc (.cells #[.int .i64 s.f0, .int .i64 s.f1, .int .i64 s.f2, .int .i64 s.f3] 86)) := hBr.alloc (Nat.le_trans hn₀ (Nat.le_trans HW.out.size hBr.size)) _
     obtain ⟨fn, tmps, assign, body, hy, hR⟩ := HY.out (fs.take (evs.length + i)) fs[evs.length + i] _ hJa (by rw [List.length_take]; omega)
     rw [henc] at hy
     have hkr := (hBa.block Bs hBs hne).trans HKW.out
     have y0 := cell_at hkr 0 (.slice A0 evs.length c0) rfl
     have hz0 := cell_at (blk_new wr (.cells #[.int .i64 s.f0, .int .i64 s.f1, .int .i64 s.f2, .int .i64 s.f3] 86)) 0 (.int .i64 s.f0) rfl
     have hz1 := cell_at (blk_new wr (.cells #[.int .i64 s.f0, .int .i64 s.f1, .int .i64 s.f2, .int .i64 s.f3] 86)) 1 (.int .i64 s.f1) rfl
     have hz2 := cell_at (blk_new wr (.cells #[.int .i64 s.f0, .int .i64 s.f1, .int .i64 s.f2, .int .i64 s.f3] 86)) 2 (.int .i64 s.f2) rfl
     have hz3 := cell_at (blk_new wr (.cells #[.int .i64 s.f0, .int .i64 s.f1, .int .i64 s.f2, .int .i64 s.f3] 86)) 3 (.int .i64 s.f3) rfl
     have HBa := Aside0.mk hBa
     have HSt := Aside0.mk hst
     clear hs hfi henc hJa hBa hst hT hBr hkr
     gi_wp2
     clear HJi HBi hz0 hz1 hz2 hz3 hy0 hy1 hy2 hy3 y0
     refine hR.mono ?_
     rintro e W3 (⟨rfl, hJ3, hk3⟩ | ⟨rfl, hJx3⟩)
     ·have HJ3 := Aside0.mk hJ3
      have HB3 := Aside0.mk (HBa.out.trans hk3)
      clear hJ3 hk3
      gi_wp2
      go_roundw
      case rel => exact ⟨i + 1, by omega, by simp, ⟨by rw [← Nat.add_assoc, HSt.out]; exact HJ3.out⟩, HB3⟩
      case measure => simp [intOf]; omega
     ·gi_wp2
      refine bodyPost_ret (results_none rfl _ _ _) rfl ?_
      exact ⟨⟨_, rfl⟩, .inr ⟨_, trivial, hJx3⟩⟩
    ·obtain rfl : i = gaps.length := by omega
     have hJr : J (fs.take (evs.length + gaps.length)) wr := HJi.out
     rw [← hfs.1, List.take_length] at hJr
     gi_wp2
     go_end0
     first | exact ⟨⟨_, rfl⟩, .inl hJr⟩ | exact ⟨⟨_, rfl⟩, .inl ⟨_, rfl, hJr⟩⟩
end Go.Proofs.Ytbffhblebigcfaa.Sk
