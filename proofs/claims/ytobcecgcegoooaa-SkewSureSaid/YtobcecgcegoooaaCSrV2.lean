/- The walk of skew.Ahead: whether a deed is ahead of another one. -/
import Derived.StillTailTactics
import Derived.OpenShut
import Derived.Deep.LoopGhost
import Derived.Deep.DeepMust
import Derived.Maps.OwnIn
import Derived.Shelf.Sort.Plain
import Derived.Shelf.Slices.In.SortNone
import Derived.Shelf.Spec.SlicesInsert
import Derived.Shelf.Spec.SlicesInsertGrow
import Derived.Test.YtobcecgcegoooaaProg
import Derived.Lib.SlKeysI
import Derived.Test.YtobcecgcegoooaaCSrV1
import Derived.Test.YtobcecgcegoooaaCSrS0
import Derived.Test.YtobcecgcegoooaaCSrV0
namespace Go.Proofs.Ytobcecgcegoooaa.Sk
open Go.RowKit Go.Proofs.YtobcecgcegoooaaW.PrintWords Go.Proofs.YtobcecgcegoooaaW.PrintLast Go.Proofs.YtobcecgcegoooaaW.PrintMore
set_option linter.unusedVariables false
set_option linter.unusedSimpArgs false
def ahVal (f : Int → Option Int) (i k : Int) : Int := bits .or .u64 ((f i).getD 0) (bits .or .u64 ((f k).getD 0) (IntKind.u64.wrap (2 ^ k.toNat)))
def ahStep (f : Int → Option Int) (i k : Int) : Int → Option Int := if 0 ≤ k then upd f i (ahVal f i k) else f
def aheadsGo : List Int → List S71 → Int → (Int → Option Int) → (Int → Option Int)
 | b :: bs, d :: l, i, f => aheadsGo bs l (i + 1) (ahStep (ahStep f i b) i d.f2)
 | _, _, _, f => f
def aheadsF (bs : List Int) (l : List S71) : Int → Option Int := aheadsGo bs l 0 (fun _ => none)
theorem ahVal_wf (f : Int → Option Int) (i k : Int) : (Lit.int .u64 (ahVal f i k)).wf = true := by
 unfold ahVal; exact wf_bits _ _ _ _
def ahK (f : Int → Option Int) (i b d j : Int) : Int → Option Int := if j = 0 then f else if j = 1 then ahStep f i b else ahStep (ahStep f i b) i d
theorem drop_rdI (l : List Int) (i : Int) (h0 : 0 ≤ i) (h1 : i < l.length) : l.drop i.toNat = rd l i :: l.drop (i + 1).toNat := by
 have hl : i.toNat < l.length := by omega
 have e : (i + 1).toNat = i.toNat + 1 := by omega
 have er : rd l i = l[i.toNat] := by simp [rd, List.getD_eq_getElem?_getD, hl]
 rw [List.drop_eq_getElem_cons hl, e, er]
theorem rdI_mem (l : List Int) (i : Int) (h0 : 0 ≤ i) (h1 : i < l.length) : rd l i ∈ l := by
 have hl : i.toNat < l.length := by omega
 have er : rd l i = l[i.toNat] := by simp [rd, List.getD_eq_getElem?_getD, hl]
 rw [er]; exact List.getElem_mem hl
set_option maxHeartbeats 4000000 in
set_option maxRecDepth 100000 in
theorem aheads_calls (A0 : Option Addr) (c0 : Nat) (l0 : List S71) (bs : List Int) (w : World) (hr0 : Kd.C k71 w A0 l0.length l0) (hc0 : l0.length ≤ c0) (hl : l0.length ≤ 40) (hb : skew_befores.f l0 = some bs)
  (hbl : bs.length = l0.length) (hbr : ∀ b ∈ bs, b < 40) (hlr : ∀ d ∈ l0, d.f2 < 40) :
  Calls Try.prog 87 #[.slice A0 l0.length c0] w fun e w' => e = .returned (.map (some w.heap.size)) ∧ MapIs elS w' w.heap.size 100 (aheadsF bs l0) ∧ Below w.heap.size w w' := by
 have hu71 := Try.underlying71; have hmm := @run_makeMap Try.prog; have HR0 := Aa hr0; have HC := Aa (skew_befores.calls A0 c0 l0 bs (w.alloc (.map #[] 0)) (Kd.C_alloc hr0 _) hc0 hb); have HBL := Aa hbl; have HBR := Aa hbr; have HLR := Aa hlr; have HM := Aa (MapIs.made (E := elS) w); clear hr0 hb hbl hbr hlr
 go_enter Try.func87, Try.ntmps87
 go_wp2_with (go_at_call 124; refine HC.out.mono ?_; rintro e w1 ⟨v, rfl, ho, hb⟩; obtain ⟨A, c, rfl, hcc, hC⟩ := Kd.R_reads ho; have HM1 := Aa (HM.out.below hb); have HB1 := Aa (Bp (Ba (Below.refl _ _) _) hb); have HCs := Aa (Kd.R_mono (ok' := fun k => k ≠ w.heap.size) (Kd.R_bound ho) (fun k hk => by have h1 := hk.2.1; rw [World.size_alloc] at h1; exact Nat.ne_of_gt h1)); clear HC HM ho hb hcc hC)
 go_loopw [12] (fun v12 W => ∃ (i : Int) (f : Int → Option Int), 0 ≤ i ∧ i ≤ bs.length ∧ v12 = .int .i64 i ∧ Aside0 (aheadsGo (bs.drop i.toNat) (l0.drop i.toNat) i f = aheadsF bs l0) ∧ Aside0 (MapIs elS W w.heap.size (2 * i).toNat f) ∧ Aside0 (Below w.heap.size w W) ∧ Aside0 (Kd.R (Kd.int .i64) 3 W (w.alloc (.map #[] 0)).heap.size (fun k => k ≠ w.heap.size) (.slice A bs.length c) bs)) (fun v _ => bs.length - (intOf v).toNat)
 case atStart => exact ⟨0, fun _ => none, by omega, by omega, rfl, ⟨rfl⟩, HM1, HB1, HCs⟩
 case round =>
  clear HM1 HB1 HCs; obtain ⟨i, f, h0, hk, rfl, HA, HM, HB, HCs⟩ := hrel
  by_cases hlt : i < bs.length
  ·have hlt2 : i < l0.length := by have := HBL.out; omega
   obtain ⟨ad, e1, hx0⟩ := Kd.at_int (Kd.R_reads' HCs.out).2.2 i h0 hlt; cases e1; obtain ⟨ad2, e217, hy0, hy1, hy2⟩ := at_T71 (Kd.C_below HR0.out HB.out) i h0 hlt2; cases e217; have hA := HA.out; rw [drop_rdI bs i h0 hlt, drop_rd71 l0 i h0 hlt2] at hA; have hbr := HBR.out _ (rdI_mem bs i h0 hlt); have hlr := HLR.out _ (rd71_mem l0 i h0 hlt2); clear HA
   obtain ⟨b, hb⟩ : ∃ b, rd bs i = b := ⟨_, rfl⟩
   obtain ⟨x, hx⟩ : ∃ x, rd_T71 l0 i = x := ⟨_, rfl⟩
   rw [hb] at hx0 hA hbr; rw [hx] at hy0 hy1 hy2 hA hlr; clear hb hx; obtain ⟨x0, x1, d⟩ := x; simp only at hy0 hy1 hy2 hlr; simp only [aheadsGo] at hA; have HA := Aa hA; clear hA; have HS := Aa (blk_new wr (.cells #[.int .i64 b, .int .i64 d] 3)); have HM2 := Aa (HM.out.alloc (.cells #[.int .i64 b, .int .i64 d] 3)); have HB2 := Aa (Ba HB.out (.cells #[.int .i64 b, .int .i64 d] 3)); have HC2 := Aa (Kd.R_alloc HCs.out (.cells #[.int .i64 b, .int .i64 d] 3)); have HZ := Aa HB.out.size; have HL := Aa HM.out.lt
   go_wp2_with fail
   obtain ⟨wo, rfl⟩ : ∃ wo : World, wo = wr := ⟨_, rfl⟩
   go_loopw [25, 7] (fun v25 _ W => ∃ (j : Int), 0 ≤ j ∧ j ≤ 2 ∧ v25 = .int .i64 j ∧ Aside0 (MapIs elS W w.heap.size (2 * i + j).toNat (ahK f i b d j)) ∧ Aside0 (W.heap[wo.heap.size]? = some (.cells #[.int .i64 b, .int .i64 d] 3)) ∧ Aside0 (Below w.heap.size w W) ∧ Aside0 (Kd.R (Kd.int .i64) 3 W (w.alloc (.map #[] 0)).heap.size (fun k => k ≠ w.heap.size) (.slice (some ad) bs.length c) bs) ∧ Aside0 (w.heap.size < wo.heap.size)) (fun v _ _ => 2 - (intOf v).toNat)
   case atStart => exact ⟨0, by omega, by omega, rfl, ⟨by rw [Int.add_zero]; exact HM2.out⟩, HS, HB2, HC2, ⟨HL.out⟩⟩
   case round =>
    clear HS HM2 HB2 HC2 HZ HL HM HB HCs; obtain ⟨j, j0, j2, rfl, HM3, HS3, HB3, HC3, HZ3⟩ := hrel
    obtain rfl | rfl | rfl : j = 0 ∨ j = 1 ∨ j = 2 := by omega
    ·
     have hfe : ahK f i b d 0 = f := rfl; rw [hfe] at HM3; have HSc := Aa (cell_at HS3.out 0 (.int .i64 b) rfl); have es := HSc.out; clear hfe HSc
     by_cases hge : 0 ≤ b
     ·have hst : ahK f i b d 1 = upd f i (ahVal f i b) := by simp [ahK, ahStep, hge]
      have HSt := Aa hst; clear hst
      go_wp2_with fail
      have hk1 : (Instr.lookup 126 (.map (some w.heap.size)) (.int .i64 i) false).run Try.prog wr.drew = .ok (.int .u64 ((f i).getD 0)) wr.drew := HM3.out.drew.look_run (t := 126) Try.underlying126 (m := i) (okI_of (by omega)) false; have hk2 : (Instr.lookup 126 (.map (some w.heap.size)) (.int .i64 b) false).run Try.prog wr.drew = .ok (.int .u64 ((f b).getD 0)) wr.drew := HM3.out.drew.look_run (t := 126) Try.underlying126 (m := b) (okI_of (by omega)) false
      go_still_tail 10, (by kernel_rfl)
      (show wpList _ _ _ _ _ wr.drew)
      refine wpList_mapIs_store (E := elS) _ rfl _ _ _ 126 rfl Try.underlying126 _ _ f HM3.out.drew (by unfold maxLen; omega) rfl i rfl (okI_of (by omega)) (ahVal f i b) (ahVal_wf _ _ _) rfl ?_; intro w2 hm2 hg2; clear hk1 hk2 es; go_wp2
      go_roundw
      case rel => exact ⟨1, by omega, by omega, rfl, ⟨by rw [HSt.out, show (2 * i + 1).toNat = (2 * i + 0).toNat + 1 by omega]; exact hm2⟩, ⟨blk_grown (Kw HS3.out) hg2 (fun e1 => by have := HZ3.out; injection e1 with e1; omega)⟩, ⟨HB3.out.drew.grown hg2 (Nat.le_of_lt HM3.out.lt) (fun k hk => by cases hk; exact Nat.le_refl _)⟩, ⟨Kd.R_grown (Kd.R_drew HC3.out) hg2 (fun k hk e1 => hk (by injection e1))⟩, ⟨HZ3.out⟩⟩
      case measure => simp [intOf]
     ·have hst : ahK f i b d 1 = f := by simp [ahK, ahStep, hge]
      have HSt := Aa hst; clear hst
      go_wp2_with fail
      go_roundw
      case rel => exact ⟨1, by omega, by omega, rfl, ⟨by rw [HSt.out]; exact HM3.out.mono (by omega)⟩, HS3, HB3, HC3, ⟨HZ3.out⟩⟩
      case measure => simp [intOf]
    ·
     have hfe : ahK f i b d 1 = (ahStep f i b) := rfl; rw [hfe] at HM3; have HSc := Aa (cell_at HS3.out 1 (.int .i64 d) rfl); have es := HSc.out; clear hfe HSc
     by_cases hge : 0 ≤ d
     ·have hst : ahK f i b d 2 = upd (ahStep f i b) i (ahVal (ahStep f i b) i d) := by simp [ahK, ahStep, hge]
      have HSt := Aa hst; clear hst
      go_wp2_with fail
      have hk1 : (Instr.lookup 126 (.map (some w.heap.size)) (.int .i64 i) false).run Try.prog wr.drew = .ok (.int .u64 (((ahStep f i b) i).getD 0)) wr.drew := HM3.out.drew.look_run (t := 126) Try.underlying126 (m := i) (okI_of (by omega)) false; have hk2 : (Instr.lookup 126 (.map (some w.heap.size)) (.int .i64 d) false).run Try.prog wr.drew = .ok (.int .u64 (((ahStep f i b) d).getD 0)) wr.drew := HM3.out.drew.look_run (t := 126) Try.underlying126 (m := d) (okI_of (by omega)) false
      go_still_tail 10, (by kernel_rfl)
      (show wpList _ _ _ _ _ wr.drew)
      refine wpList_mapIs_store (E := elS) _ rfl _ _ _ 126 rfl Try.underlying126 _ _ (ahStep f i b) HM3.out.drew (by unfold maxLen; omega) rfl i rfl (okI_of (by omega)) (ahVal (ahStep f i b) i d) (ahVal_wf _ _ _) rfl ?_; intro w2 hm2 hg2; clear hk1 hk2 es; go_wp2
      go_roundw
      case rel => exact ⟨2, by omega, by omega, rfl, ⟨by rw [HSt.out, show (2 * i + 2).toNat = (2 * i + 1).toNat + 1 by omega]; exact hm2⟩, ⟨blk_grown (Kw HS3.out) hg2 (fun e1 => by have := HZ3.out; injection e1 with e1; omega)⟩, ⟨HB3.out.drew.grown hg2 (Nat.le_of_lt HM3.out.lt) (fun k hk => by cases hk; exact Nat.le_refl _)⟩, ⟨Kd.R_grown (Kd.R_drew HC3.out) hg2 (fun k hk e1 => hk (by injection e1))⟩, ⟨HZ3.out⟩⟩
      case measure => simp [intOf]
     ·have hst : ahK f i b d 2 = (ahStep f i b) := by simp [ahK, ahStep, hge]
      have HSt := Aa hst; clear hst
      go_wp2_with fail
      go_roundw
      case rel => exact ⟨2, by omega, by omega, rfl, ⟨by rw [HSt.out]; exact HM3.out.mono (by omega)⟩, HS3, HB3, HC3, ⟨HZ3.out⟩⟩
      case measure => simp [intOf]
    ·go_wp2_with fail
     go_roundw
     case rel => exact ⟨i + 1, _, by omega, by omega, rfl, HA, ⟨by rw [show (2 * (i + 1)).toNat = (2 * i + 2).toNat by omega]; exact HM3.out⟩, HB3, HC3⟩
     case measure => simp [intOf]; omega
  ·have hA := HA.out; rw [List.drop_of_length_le (by omega), List.drop_of_length_le (l := l0) (by have := HBL.out; omega)] at hA; have HA2 := Aa (show f = aheadsF bs l0 from hA); clear hA HA; go_wp2; go_ret; exact ⟨rfl, by rw [← HA2.out]; exact HM.out.mono (by have := HBL.out; omega), HB.out⟩
end Go.Proofs.Ytobcecgcegoooaa.Sk
namespace Go.Proofs.Ytobcecgcegoooaa.Sk
open Go.RowKit Go.Proofs.YtobcecgcegoooaaW.PrintWords Go.Proofs.YtobcecgcegoooaaW.PrintLast Go.Proofs.YtobcecgcegoooaaW.PrintMore
set_option linter.unusedVariables false
set_option linter.unusedSimpArgs false
def ocF (x : Int) : Int := (bits_OnesCount64.f x).getD 0
set_option maxHeartbeats 8000000 in
set_option maxRecDepth 100000 in
theorem oc87' (a0 : Int) (r : Int) (w : World) (h : bits_OnesCount64.f a0 = some r) :
  Calls Try.prog 85 #[.int .u64 a0] w fun e w' => e = .returned (.int .i64 r) ∧ w' = w := by
 have H : (some (Go.bits .and .i64 (wrap64 (IntKind.u64.wrap ((IntKind.u64.wrap ((IntKind.u64.wrap ((Go.bits .and .u64 (IntKind.u64.wrap (((IntKind.u64.wrap ((Go.bits .and .u64 ((IntKind.u64.wrap ((Go.bits .and .u64 (a0 / 2) 6148914691236517205) + (Go.bits .and .u64 a0 6148914691236517205))) / 4) 3689348814741910323) + (Go.bits .and .u64 (IntKind.u64.wrap ((Go.bits .and .u64 (a0 / 2) 6148914691236517205) + (Go.bits .and .u64 a0 6148914691236517205))) 3689348814741910323))) / 16) + (IntKind.u64.wrap ((Go.bits .and .u64 ((IntKind.u64.wrap ((Go.bits .and .u64 (a0 / 2) 6148914691236517205) + (Go.bits .and .u64 a0 6148914691236517205))) / 4) 3689348814741910323) + (Go.bits .and .u64 (IntKind.u64.wrap ((Go.bits .and .u64 (a0 / 2) 6148914691236517205) + (Go.bits .and .u64 a0 6148914691236517205))) 3689348814741910323))))) 1085102592571150095) + ((Go.bits .and .u64 (IntKind.u64.wrap (((IntKind.u64.wrap ((Go.bits .and .u64 ((IntKind.u64.wrap ((Go.bits .and .u64 (a0 / 2) 6148914691236517205) + (Go.bits .and .u64 a0 6148914691236517205))) / 4) 3689348814741910323) + (Go.bits .and .u64 (IntKind.u64.wrap ((Go.bits .and .u64 (a0 / 2) 6148914691236517205) + (Go.bits .and .u64 a0 6148914691236517205))) 3689348814741910323))) / 16) + (IntKind.u64.wrap ((Go.bits .and .u64 ((IntKind.u64.wrap ((Go.bits .and .u64 (a0 / 2) 6148914691236517205) + (Go.bits .and .u64 a0 6148914691236517205))) / 4) 3689348814741910323) + (Go.bits .and .u64 (IntKind.u64.wrap ((Go.bits .and .u64 (a0 / 2) 6148914691236517205) + (Go.bits .and .u64 a0 6148914691236517205))) 3689348814741910323))))) 1085102592571150095) / 256))) + ((IntKind.u64.wrap ((Go.bits .and .u64 (IntKind.u64.wrap (((IntKind.u64.wrap ((Go.bits .and .u64 ((IntKind.u64.wrap ((Go.bits .and .u64 (a0 / 2) 6148914691236517205) + (Go.bits .and .u64 a0 6148914691236517205))) / 4) 3689348814741910323) + (Go.bits .and .u64 (IntKind.u64.wrap ((Go.bits .and .u64 (a0 / 2) 6148914691236517205) + (Go.bits .and .u64 a0 6148914691236517205))) 3689348814741910323))) / 16) + (IntKind.u64.wrap ((Go.bits .and .u64 ((IntKind.u64.wrap ((Go.bits .and .u64 (a0 / 2) 6148914691236517205) + (Go.bits .and .u64 a0 6148914691236517205))) / 4) 3689348814741910323) + (Go.bits .and .u64 (IntKind.u64.wrap ((Go.bits .and .u64 (a0 / 2) 6148914691236517205) + (Go.bits .and .u64 a0 6148914691236517205))) 3689348814741910323))))) 1085102592571150095) + ((Go.bits .and .u64 (IntKind.u64.wrap (((IntKind.u64.wrap ((Go.bits .and .u64 ((IntKind.u64.wrap ((Go.bits .and .u64 (a0 / 2) 6148914691236517205) + (Go.bits .and .u64 a0 6148914691236517205))) / 4) 3689348814741910323) + (Go.bits .and .u64 (IntKind.u64.wrap ((Go.bits .and .u64 (a0 / 2) 6148914691236517205) + (Go.bits .and .u64 a0 6148914691236517205))) 3689348814741910323))) / 16) + (IntKind.u64.wrap ((Go.bits .and .u64 ((IntKind.u64.wrap ((Go.bits .and .u64 (a0 / 2) 6148914691236517205) + (Go.bits .and .u64 a0 6148914691236517205))) / 4) 3689348814741910323) + (Go.bits .and .u64 (IntKind.u64.wrap ((Go.bits .and .u64 (a0 / 2) 6148914691236517205) + (Go.bits .and .u64 a0 6148914691236517205))) 3689348814741910323))))) 1085102592571150095) / 256))) / 65536))) + ((IntKind.u64.wrap ((IntKind.u64.wrap ((Go.bits .and .u64 (IntKind.u64.wrap (((IntKind.u64.wrap ((Go.bits .and .u64 ((IntKind.u64.wrap ((Go.bits .and .u64 (a0 / 2) 6148914691236517205) + (Go.bits .and .u64 a0 6148914691236517205))) / 4) 3689348814741910323) + (Go.bits .and .u64 (IntKind.u64.wrap ((Go.bits .and .u64 (a0 / 2) 6148914691236517205) + (Go.bits .and .u64 a0 6148914691236517205))) 3689348814741910323))) / 16) + (IntKind.u64.wrap ((Go.bits .and .u64 ((IntKind.u64.wrap ((Go.bits .and .u64 (a0 / 2) 6148914691236517205) + (Go.bits .and .u64 a0 6148914691236517205))) / 4) 3689348814741910323) + (Go.bits .and .u64 (IntKind.u64.wrap ((Go.bits .and .u64 (a0 / 2) 6148914691236517205) + (Go.bits .and .u64 a0 6148914691236517205))) 3689348814741910323))))) 1085102592571150095) + ((Go.bits .and .u64 (IntKind.u64.wrap (((IntKind.u64.wrap ((Go.bits .and .u64 ((IntKind.u64.wrap ((Go.bits .and .u64 (a0 / 2) 6148914691236517205) + (Go.bits .and .u64 a0 6148914691236517205))) / 4) 3689348814741910323) + (Go.bits .and .u64 (IntKind.u64.wrap ((Go.bits .and .u64 (a0 / 2) 6148914691236517205) + (Go.bits .and .u64 a0 6148914691236517205))) 3689348814741910323))) / 16) + (IntKind.u64.wrap ((Go.bits .and .u64 ((IntKind.u64.wrap ((Go.bits .and .u64 (a0 / 2) 6148914691236517205) + (Go.bits .and .u64 a0 6148914691236517205))) / 4) 3689348814741910323) + (Go.bits .and .u64 (IntKind.u64.wrap ((Go.bits .and .u64 (a0 / 2) 6148914691236517205) + (Go.bits .and .u64 a0 6148914691236517205))) 3689348814741910323))))) 1085102592571150095) / 256))) + ((IntKind.u64.wrap ((Go.bits .and .u64 (IntKind.u64.wrap (((IntKind.u64.wrap ((Go.bits .and .u64 ((IntKind.u64.wrap ((Go.bits .and .u64 (a0 / 2) 6148914691236517205) + (Go.bits .and .u64 a0 6148914691236517205))) / 4) 3689348814741910323) + (Go.bits .and .u64 (IntKind.u64.wrap ((Go.bits .and .u64 (a0 / 2) 6148914691236517205) + (Go.bits .and .u64 a0 6148914691236517205))) 3689348814741910323))) / 16) + (IntKind.u64.wrap ((Go.bits .and .u64 ((IntKind.u64.wrap ((Go.bits .and .u64 (a0 / 2) 6148914691236517205) + (Go.bits .and .u64 a0 6148914691236517205))) / 4) 3689348814741910323) + (Go.bits .and .u64 (IntKind.u64.wrap ((Go.bits .and .u64 (a0 / 2) 6148914691236517205) + (Go.bits .and .u64 a0 6148914691236517205))) 3689348814741910323))))) 1085102592571150095) + ((Go.bits .and .u64 (IntKind.u64.wrap (((IntKind.u64.wrap ((Go.bits .and .u64 ((IntKind.u64.wrap ((Go.bits .and .u64 (a0 / 2) 6148914691236517205) + (Go.bits .and .u64 a0 6148914691236517205))) / 4) 3689348814741910323) + (Go.bits .and .u64 (IntKind.u64.wrap ((Go.bits .and .u64 (a0 / 2) 6148914691236517205) + (Go.bits .and .u64 a0 6148914691236517205))) 3689348814741910323))) / 16) + (IntKind.u64.wrap ((Go.bits .and .u64 ((IntKind.u64.wrap ((Go.bits .and .u64 (a0 / 2) 6148914691236517205) + (Go.bits .and .u64 a0 6148914691236517205))) / 4) 3689348814741910323) + (Go.bits .and .u64 (IntKind.u64.wrap ((Go.bits .and .u64 (a0 / 2) 6148914691236517205) + (Go.bits .and .u64 a0 6148914691236517205))) 3689348814741910323))))) 1085102592571150095) / 256))) / 65536))) / 4294967296)))) 127)) = some r := h
 clear h; obtain rfl := Option.some.inj H
 go_enter Try.func85, Try.ntmps85
 go_wp2; go_ret; exact ⟨by first | rfl | (simp; done) | (simp [*]; done), rfl⟩
theorem ocF_some (x : Int) : bits_OnesCount64.f x = some (ocF x) := by
 unfold ocF
 cases h : bits_OnesCount64.f x with
 | none => unfold bits_OnesCount64.f at h; cases h
 | some r => rfl
theorem oc87 (x : Int) (w : World) : Calls Try.prog 85 #[.int .u64 x] w fun e w' => e = .returned (.int .i64 (ocF x)) ∧ w' = w := oc87' x _ w (ocF_some x)
theorem clip81 (A : Option Addr) (n c : Nat) (hn : n ≤ c) (w : World) : Calls Try.prog 79 #[.slice A n c] w fun e w' => e = .returned (.slice A n n) ∧ w = w' := by
 go_enter Try.func79, Try.ntmps79
 go_wp2; go_ret; exact ⟨rfl, rfl⟩
theorem clip96 (A : Option Addr) (n c : Nat) (hn : n ≤ c) (w : World) : Calls Try.prog 95 #[.slice A n c] w fun e w' => e = .returned (.slice A n n) ∧ w = w' := by
 go_enter Try.func95, Try.ntmps95
 go_wp2; go_ret; exact ⟨rfl, rfl⟩
theorem idx119 (a b c d f g j : Int) (h0 : 0 ≤ j) (h5 : j < 6) (W : World) : (Instr.index 123 (.agg #[.int .u64 a, .int .u64 b, .int .u64 c, .int .u64 d, .int .u64 f, .int .u64 g]) (.int .i64 j)).run Try.prog W = .ok (.int .u64 (rd [a, b, c, d, f, g] j)) W := by
 obtain rfl | rfl | rfl | rfl | rfl | rfl : j = 0 ∨ j = 1 ∨ j = 2 ∨ j = 3 ∨ j = 4 ∨ j = 5 := by omega
 all_goals kernel_rfl
theorem V_clip' {α : Type} {d : Kd α} {e base : Nat} {ok : Nat → Prop} {w W : World} {A : Option Addr} {n c : Nat} {xs : List α} (h : d.R e W base ok (.slice A n c) xs) (hb : w.heap.size ≤ base) :
  Kd.V d e W w.heap.size (fun k_ => (w.heap.size ≤ k_)) (.slice A n n) xs := by
 have hn := (Kd.R_reads' h).1; subst hn; have h2 := Kd.R_mono (ok' := fun k_ => w.heap.size ≤ k_) (Kd.R_bound h) (fun k hk => Nat.le_trans hb hk.2.1); exact Kd.V_mk (Nat.le_refl _) (Kd.R_F h2)
def cntOne (ah : Int → Option Int) (i m : Int) : Int := ocF (bits .and .u64 m (bits .or .u64 ((ah i).getD 0) (IntKind.u64.wrap (2 ^ i.toNat))))
def cntRow (ah : Int → Option Int) (ms : List Int) (i : Int) : List Int := ms.map (cntOne ah i)
def cntRows (ah : Int → Option Int) (ms : List Int) (n : Nat) : List (List Int) := (List.range n).map fun (i : Nat) => cntRow ah ms (i : Int)
def runOk (l : List S71) (bs : List Int) : Prop := l.length ≤ 40 ∧ bs.length = l.length ∧ (∀ b ∈ bs, b < 40) ∧ (∀ d ∈ l, d.f2 < 40) ∧ ∀ d ∈ l, 0 ≤ d.f0 ∧ d.f0 ≤ 5
instance (l : List S71) (bs : List Int) : Decidable (runOk l bs) := by unfold runOk; infer_instance
def skew_Counts.f (l0 : List S71) : Option (List (List Int) × Int) :=
 (skew_isRun.f (l0.length + 1) l0).bind fun b => if b = true then (skew_befores.f l0).bind fun bs => if runOk l0 bs then some (cntRows (aheadsF bs l0) (mineF l0) l0.length, 0) else none else some ([], 2)
theorem cntRows_succ (ah : Int → Option Int) (ms : List Int) (i : Int) (h0 : 0 ≤ i) : cntRows ah ms (i + 1).toNat = cntRows ah ms i.toNat ++ [cntRow ah ms i] := by
 unfold cntRows; rw [show (i + 1).toNat = i.toNat + 1 by omega, List.range_succ, List.map_append, List.map_cons, List.map_nil, Int.toNat_of_nonneg h0]
theorem take_rd (l : List Int) (j : Int) (h0 : 0 ≤ j) (h1 : j < l.length) : l.take (j + 1).toNat = l.take j.toNat ++ [rd l j] := by
 have hl : j.toNat < l.length := by omega
 have er : rd l j = l[j.toNat] := by simp [rd, List.getD_eq_getElem?_getD, hl]
 rw [show (j + 1).toNat = j.toNat + 1 by omega, List.take_succ_eq_append_getElem hl, er]
theorem lookS {W : World} {B : Nat} {ah : Int → Option Int} (h : MapIs elS W B 100 ah) (i : Int) (hi : okI i) :
  MapIs elS W B 100 ah ∧ (Instr.lookup 126 (.map (some B)) (.int .i64 i) false).run Try.prog W = .ok (.int .u64 ((ah i).getD 0)) W := ⟨h, h.look_run (t := 126) Try.underlying126 hi false⟩
set_option maxHeartbeats 8000000 in
set_option maxRecDepth 100000 in
theorem skew_Counts.calls (A0 : Option Addr) (c0 : Nat) (l0 : List S71) (r1 : List (List Int)) (r2 : Int) (w : World) (hr0 : Kd.C k71 w A0 l0.length l0) (hc0 : l0.length ≤ c0) (h : skew_Counts.f l0 = some (r1, r2)) :
  Calls Try.prog 34 #[.slice A0 l0.length c0] w fun e w' => ∃ v0_ : Value, e = .returned (.tuple #[v0_, .int .i64 r2]) ∧ Kd.V (Kd.slice 3 (Kd.int .i64)) 40 w' w.heap.size (fun k_ => (w.heap.size ≤ k_)) v0_ r1 ∧ Below w.heap.size w w' := by
 unfold skew_Counts.f at h; obtain ⟨b, hb, h⟩ := Option.bind_eq_some_iff.mp h; have HB := Aa (skew_isRun.calls _ A0 c0 l0 b w hr0 hc0 hb); clear hb; have HR0 := Aa hr0; clear hr0
 cases b with
 | false =>
  rw [if_neg (by simp)] at h; simp only [Option.some.injEq, Prod.mk.injEq] at h; obtain ⟨rfl, rfl⟩ := h
  go_enter Try.func34, Try.ntmps34
  go_wp2_with (go_at_call 83; refine HB.out.mono ?_; rintro e w1 ⟨rfl, hb⟩)
  go_ret2
  exact ⟨_, rfl, Kd.V_nil _ _ _ _ _, hb⟩
 | true =>
  rw [if_pos rfl] at h; obtain ⟨bs, hbs, h⟩ := Option.bind_eq_some_iff.mp h
  by_cases hok : runOk l0 bs
  ·rw [if_pos hok] at h; simp only [Option.some.injEq, Prod.mk.injEq] at h; obtain ⟨rfl, rfl⟩ := h; obtain ⟨ok1, ok2, ok3, ok4, ok5⟩ := hok; have HBs := Aa hbs; have O2 := Aa ok2; have O3 := Aa ok3; have O4 := Aa ok4; have O5 := Aa ok5; clear hbs ok2 ok3 ok4 ok5
   obtain ⟨ah, hah⟩ : ∃ ah, aheadsF bs l0 = ah := ⟨_, rfl⟩
   have HAh := Aa hah; clear hah
   go_enter Try.func34, Try.ntmps34
   go_wp2_with fail
   refine HB.out.mono ?_; rintro e w1 ⟨rfl, hb⟩; have HB1 := Aa hb; have HC := Aa (aheads_calls A0 c0 l0 bs w1 (Kd.C_below HR0.out hb) hc0 ok1 HBs.out O2.out O3.out O4.out); clear hb HB
   go_wp2_with (go_at_call 87; refine HC.out.mono ?_; rintro e w2 ⟨rfl, hm2, hb2⟩; rw [HAh.out] at hm2; have HM2 := Aa hm2; have HB2 := Aa (Bp HB1.out hb2); have HZ := Aa hm2.lt; clear HC hm2 hb2)
   go_loopw [5, 17] (fun v5 v17 W => ∃ (i : Int), 0 ≤ i ∧ i ≤ l0.length ∧ v17 = .int .i64 i ∧ Aside0 (Kd.N (Kd.slice 3 (Kd.int .i64)) 40 W w2.heap.size (fun k => w1.heap.size < k) v5 (cntRows ah (mineF l0) i.toNat)) ∧ Aside0 (MapIs elS W w1.heap.size 100 ah) ∧ Aside0 (Below w2.heap.size w2 W)) (fun _ v _ => l0.length - (intOf v).toNat)
   case atStart => exact ⟨0, by omega, by omega, rfl, ⟨Kd.N_nil _ _ _ _ _⟩, HM2, ⟨Below.refl _ _⟩⟩
   case round =>
    clear HM2; obtain ⟨i, h0, hk, rfl, HN, HM, HBw⟩ := hrel
    by_cases hlt : i < l0.length
    ·have HBa := Aa (Bp HB2.out (show Below w2.heap.size w2 wr from HBw.out)); have HMc := Aa (mine_calls A0 c0 l0 wr (Kd.C_below HR0.out HBa.out) ok1 O5.out)
     go_wp2_with (go_at_call 84; refine HMc.out.mono ?_; rintro e w3 ⟨a, b, c, d, f, g, rfl, hms, hb3⟩; have HB3 := Aa hb3; have HMs := Aa hms; clear HMc hb3 hms)
     obtain ⟨ms, hm⟩ : ∃ ms, mineF l0 = ms := ⟨_, rfl⟩
     rw [hm] at HMs HN; have HMm := Aa hm
     have hlen : ms.length = 6 := by rw [HMs.out]; rfl
     have HLn := Aa hlen
     have hix : ∀ (j : Int) (W : World), 0 ≤ j → j < 6 → (Instr.index 123 (.agg #[.int .u64 a, .int .u64 b, .int .u64 c, .int .u64 d, .int .u64 f, .int .u64 g]) (.int .i64 j)).run Try.prog W = .ok (.int .u64 (rd ms j)) W := by
      intro j W h0 h1; rw [HMs.out]; exact idx119 a b c d f g j h0 h1 W
     have HIx := Aa hix; clear hm hlen hix HMs; have HN3 := Aa (Kd.N_below (Kd.N_bound HN.out) HB3.out); have HM3 := Aa (HM.out.below HB3.out); have HBw3 := Aa (Bp HBw.out HB3.out); have HZ3 := Aa (show wr.heap.size ≤ w3.heap.size from HB3.out.size); clear HN HM HB3 HBa
     obtain ⟨wo, rfl⟩ : ∃ wo : World, wo = wr := ⟨_, rfl⟩
     go_loopw [7, 22, 9] (fun v7 v22 _ W => ∃ (j : Int), 0 ≤ j ∧ j ≤ 6 ∧ v22 = .int .i64 j ∧ Aside0 (Kd.R (Kd.int .i64) 3 W w3.heap.size (fun k => w3.heap.size ≤ k) v7 ((ms.take j.toNat).map (cntOne ah i))) ∧ Aside0 (Below w3.heap.size w3 W)) (fun _ v _ _ => 6 - (intOf v).toNat)
     case atStart => exact ⟨0, by omega, by omega, rfl, ⟨Kd.R_nil _ _ _ _ _⟩, ⟨Below.refl _ _⟩⟩
     case round =>
      obtain ⟨j, j0, j6, rfl, HO, HBv⟩ := hrel
      by_cases hj : j < 6
      ·have hx := HIx.out j wr j0 hj
       have hl6 : ((ms.take j.toNat).map (cntOne ah i)).length ≤ 6 := by rw [List.length_map, List.length_take, HLn.out]; omega
       have hst : (ms.take (j + 1).toNat).map (cntOne ah i) = (ms.take j.toNat).map (cntOne ah i) ++ [cntOne ah i (rd ms j)] := by
        rw [take_rd ms j j0 (by rw [HLn.out]; omega), List.map_append]; rfl
       have HSt := Aa hst; have HL6 := Aa hl6; clear hst hl6
       obtain ⟨xs, hxs⟩ : ∃ xs, (ms.take j.toNat).map (cntOne ah i) = xs := ⟨_, rfl⟩
       rw [hxs] at HSt HL6 HO; clear hxs
       obtain ⟨m, hm⟩ : ∃ m, rd ms j = m := ⟨_, rfl⟩
       rw [hm] at HSt hx; clear hm; have HMv := Aa (HM3.out.below HBv.out); have HOi := Aa (okI_of (m := i) (by omega)); have HZv := Aa (show w3.heap.size ≤ wr.heap.size from HBv.out.size); have HZb := Aa (show w1.heap.size < w3.heap.size from Nat.lt_of_lt_of_le HM3.out.lt (Nat.le_refl _))
       go_wp2_with fail
       go_region_held3 (fun W => MapIs elS W w1.heap.size 100 ah ∧ (Instr.lookup 126 (.map (some w1.heap.size)) (.int .i64 i) false).run Try.prog W = .ok (.int .u64 ((ah i).getD 0)) W)
        (first | exact lookS HMv.out.drew i HOi.out | exact lookS (MapIs.kept HMv.out.drew hg hne.out) i HOi.out | (go_split_ands; exact lookS (MapIs.alloc (by assumption) _) i HOi.out))
        (first
         | (go_at_call 85; (with_reducible refine (oc87 _ _).mono ?_); rintro e w' ⟨rfl, rfl⟩)
         | (refine Kd.R_append_step (Kd.int .i64) (w0 := w3) (W := wr.drew) w3.heap.size (by rfl) (.tmp 25) (.tmp 35) 40 3 (.int .i64 0) 8 rfl Try.underlying40 info3 rfl (by decide) (by decide) u7 xs (cntOne ah i m) [.int .i64 (cntOne ah i m)] (fun k => w3.heap.size ≤ k) (fun _ => False) rfl rfl rfl (fun _ hk => hk.elim) (fun k hk => Nat.le_trans HZv.out hk) (Kd.R_drew HO.out) (Dn HBv.out) HZv.out (by have := HL6.out; omega) ?_; intro v1 w5 ho hb hg hat; have hne := Aa (show some w1.heap.size ≠ u7.ownBlock from fun e => by have := HO.out.1 _ e.symm; have := HZb.out; omega)))
       have HO5 := Aa ho; have HB5 := Aa hb
       rename_i hS
       clear ho hb hg hat hne hS hx; go_wp2
       go_roundw
       case rel => exact ⟨j + 1, by omega, by omega, rfl, ⟨by rw [HSt.out]; exact HO5.out⟩, HB5⟩
       case measure => simp [intOf]; omega
      ·obtain rfl : j = 6 := by omega
       have e6 : (ms.take (6 : Int).toNat).map (cntOne ah i) = cntRow ah ms i := by
        rw [List.take_of_length_le (by rw [HLn.out]; decide)]; rfl
       rw [e6] at HO
       have hl6 : (cntRow ah ms i).length ≤ 6 := by unfold cntRow; rw [List.length_map, HLn.out]; omega
       clear e6
       obtain ⟨row, hrow⟩ : ∃ row, cntRow ah ms i = row := ⟨_, rfl⟩
       rw [hrow] at HO hl6; obtain ⟨A7, c7, rfl, hc7, hC7⟩ := Kd.R_reads HO.out
       have hlen : (cntRows ah ms i.toNat).length ≤ 40 := by unfold cntRows; rw [List.length_map, List.length_range]; omega
       have HLr := Aa hlen; have HC7 := Aa hc7; have HRow := Aa hrow; have HV := Aa (V_clip' (w := w3) HO.out (Nat.le_refl _)); have HNw := Aa (Kd.N_below HN3.out HBv.out); have HBW := Aa (Bp HBw3.out HBv.out); have HZZ := Aa (Nat.lt_of_lt_of_le HZ.out HBW.out.size); have HZw := Aa (Nat.lt_of_lt_of_le HZ.out HBw.out.size); have HMw := Aa (HM3.out.below HBv.out); clear hc7 hC7 hl6 hlen hrow
       obtain ⟨rows, hrows⟩ : ∃ rows, cntRows ah ms i.toNat = rows := ⟨_, rfl⟩
       rw [hrows] at HNw HLr; have HRs := Aa hrows; clear hrows hj
       go_wp2_with fail
       refine (clip81 A7 _ c7 HC7.out _).mono ?_; rintro e w4 ⟨rfl, rfl⟩
       go_wp2_with (at_builtin; refine Kd.N_append (Kd.slice 3 (Kd.int .i64)) (w0 := w2) (W := wr) w2.heap.size rfl (.tmp 38) (.tmp 41) 61 40 (.slice none 0 0) 24 rfl Try.underlying61 info40 rfl (by decide) (by decide) u5 rows row [.slice A7 row.length row.length] (fun k => w1.heap.size < k) (fun k => wo.heap.size ≤ k) rfl rfl ?hp ?hokp ?hfr ?hO ?hB ?hbase ?hl ?_; (case hp => exact Kd.FK_slice_mk (Nat.le_refl _) (Kd.F_mono (Kd.V_F HV.out) (fun k hk => Nat.le_trans HZ3.out hk))); (case hokp => exact fun k hk => ⟨Nat.lt_of_lt_of_le HZw.out hk, fun e => by have := (HNw.out.1 _ e.symm).2; omega⟩); (case hfr => exact fun k hk => Nat.lt_of_lt_of_le HZZ.out hk); (case hO => exact Kd.N_mono HNw.out (fun k hk => hk.1)); (case hB => exact HBW.out); (case hbase => exact HBW.out.size); (case hl => have := HLr.out; omega); intro v1 w5 ho hb hg hat; have HO5 := Aa ho; have HB5 := Aa hb; have HM5 := Aa (HMw.out.kept hg (fun e => by have := (HNw.out.1 _ e.symm).1; omega)); clear ho hb hg hat)
       go_roundw
       case rel => exact ⟨i + 1, by omega, by omega, rfl, ⟨by rw [HMm.out, cntRows_succ _ _ _ h0, HRs.out, HRow.out]; exact HO5.out⟩, HM5, HB5⟩
       case measure => simp [intOf]; omega
    ·obtain rfl : i = l0.length := by omega
     have e1 : ((l0.length : Int)).toNat = l0.length := by omega
     rw [e1] at HN; clear e1; obtain ⟨A5, c5, hv5, hc5, hC5⟩ := Kd.N_reads HN.out
     have hlr : (cntRows ah (mineF l0) l0.length).length = l0.length := by unfold cntRows; rw [List.length_map, List.length_range]
     rw [hlr] at hv5 hc5; subst hv5; have HC5 := Aa hc5; have HLr := Aa hlr; have HV := Aa (Kd.N_V (base' := w.heap.size) HN.out); clear hc5 hC5 hlr
     go_wp2_with fail
     refine (clip96 A5 _ c5 HC5.out _).mono ?_; rintro e w4 ⟨rfl, rfl⟩; go_wp2; go_ret2; refine ⟨.slice A5 l0.length l0.length, rfl, ?_, Bp HB2.out HBw.out⟩; have hF := Kd.V_F HV.out; have h2 : Kd.V (Kd.slice 3 (Kd.int .i64)) 40 wr w.heap.size (fun k_ => (w.heap.size ≤ k_)) (.slice A5 (cntRows ah (mineF l0) l0.length).length (cntRows ah (mineF l0) l0.length).length) (cntRows ah (mineF l0) l0.length) := Kd.V_mk (Nat.le_refl _) (Kd.F_mono (by rw [HLr.out]; exact hF) (fun k hk => Nat.le_trans HB1.out.size (Nat.le_of_lt hk))); rw [HLr.out] at h2; try rw [HAh.out]
     with_reducible exact h2
  ·rw [if_neg hok] at h; cases h
end Go.Proofs.Ytobcecgcegoooaa.Sk
namespace Go.Proofs.Ytobcecgcegoooaa.Sk
open Go.RowKit Go.Proofs.YtobcecgcegoooaaW.PrintWords Go.Proofs.YtobcecgcegoooaaW.PrintLast Go.Proofs.YtobcecgcegoooaaW.PrintMore
set_option linter.unusedVariables false
set_option linter.unusedSimpArgs false
theorem clip109 (A : Option Addr) (n c : Nat) (hn : n ≤ c) (w : World) : Calls Try.prog 108 #[.slice A n c] w fun e w' => e = .returned (.slice A n n) ∧ w = w' := by
 go_enter Try.func108, Try.ntmps108
 go_wp2; go_ret; exact ⟨rfl, rfl⟩
theorem i64wrap (x : Int) : IntKind.i64.wrap x = wrap64 x := IntWalk.i64_left x
def tspan (B : Int → Int → Int) (i : Nat) : S27 := ⟨wrap64 (-(B i 10)), B 10 i⟩
def tspans (B : Int → Int → Int) (n : Nat) : List S27 := (List.range n).map (tspan B)
theorem tspans_succ (B : Int → Int → Int) (n : Nat) : tspans B (n + 1) = tspans B n ++ [tspan B n] := by
 unfold tspans; rw [List.range_succ, List.map_append, List.map_cons, List.map_nil]
def BdS (W : World) (b : Nat) (ev gv : Value) (B : Int → Int → Int) (i : Nat) : Prop :=
 Bd W b ev gv B ∧ W.cell? ⟨b, 2 + i * 11 + 10, none⟩ = some (.int .i64 (B i 10)) ∧ W.cell? ⟨b, 2 + 10 * 11 + i, none⟩ = some (.int .i64 (B 10 i)) ∧ W.cell? ⟨b, 112 + i, none⟩ = some (.int .i64 (B 10 i))
theorem bdS {W : World} {b : Nat} {ev gv : Value} {B : Int → Int → Int} (h : Bd W b ev gv B) (i : Nat) (hi : (i : Int) < 11) : BdS W b ev gv B i :=
 ⟨h, h.atN i 10 hi (by decide), h.atN 10 i (by decide) hi, h.atN 10 i (by decide) hi⟩
def skew_Tight.f (evs : List S27) (gaps : List S86) : Option (List S27 × Int) :=
 (tightR evs gaps).bind fun p => if evs.length ≤ 10 then some (match p.1 with | some B => tspans B evs.length | none => [], p.2) else none
set_option maxHeartbeats 4000000 in
set_option maxRecDepth 100000 in
theorem skew_Tight.calls (A0 : Option Addr) (c0 : Nat) (evs : List S27) (A1 : Option Addr) (c1 : Nat) (gaps : List S86) (r1 : List S27) (r2 : Int) (w : World) (hC0 : Kd.C k27 w A0 evs.length evs) (hc0 : evs.length ≤ c0) (hC1 : Kd.C k86 w A1 gaps.length gaps) (hc1 : gaps.length ≤ c1) (h : skew_Tight.f evs gaps = some (r1, r2)) :
  Calls Try.prog 47 #[.agg #[.slice A0 evs.length c0, .slice A1 gaps.length c1]] w fun e w' => ∃ v0_ : Value, e = .returned (.tuple #[v0_, .int .i64 r2]) ∧ Kd.V k27 27 w' w.heap.size (fun k_ => (w.heap.size ≤ k_)) v0_ r1 ∧ Below w.heap.size w w' := by
 unfold skew_Tight.f at h; obtain ⟨⟨R, r⟩, hR, h⟩ := Option.bind_eq_some_iff.mp h
 by_cases hle : evs.length ≤ 10
 ·rw [if_pos hle] at h; simp only [Option.some.injEq, Prod.mk.injEq] at h; obtain ⟨hr1, rfl⟩ := h; have HR1 := Aa hr1; have HLe := Aa hle; have hb0 := Ba (Below.refl w.heap.size w) (.cells #[.slice A0 evs.length c0, .slice A1 gaps.length c1] 39); have hk0 := blk_new w (.cells #[.slice A0 evs.length c0, .slice A1 gaps.length c1] 39); have HT := Aa (tight_calls A0 A1 c0 c1 evs gaps R r _ (Kd.C_below hC0 hb0) hc0 (Kd.C_below hC1 hb0) hc1 hR); have x0 := cell_at hk0 0 (.slice A0 evs.length c0) rfl; have x1 := cell_at hk0 1 (.slice A1 gaps.length c1) rfl; have HB0 := Aa hb0; clear hb0 hk0 hR hr1 hle
  cases R with
  | none =>
   have HTn := Aa HT.out; clear HT
   go_enter Try.func47, Try.ntmps47
   go_wp2_with (go_at_call 107; refine HTn.out.mono ?_; rintro e w4 ⟨p, rfl, _, hn, _, hb⟩; have hrn := hn rfl; have HB4 := Aa (Bp HB0.out hb); clear hb)
   go_ret2
   exact ⟨_, rfl, by rw [← HR1.out]; exact Kd.V_nil _ _ _ _ _, HB4.out⟩
  | some B =>
   have HTn := Aa HT.out; clear HT
   go_enter Try.func47, Try.ntmps47
   go_wp2_with fail
   refine HTn.out.mono ?_; rintro e wT ⟨p, rfl, hs, _, hz, hb⟩; obtain ⟨b, rfl, hbl, hbd⟩ := hs B rfl; obtain rfl := hz B rfl; have HBd := Aa hbd; have HB4 := Aa (Bp HB0.out hb); have x0 := hbd.c0; clear hb hbd hs hz HTn HB0 x1
   go_wp2_with fail
   go_loopw [6, 22] (fun v6 v22 W => ∃ i : Nat, i ≤ evs.length ∧ v22 = .int .i64 (i : Int) ∧ Aside0 (Kd.R k27 27 W wT.heap.size (fun _ => True) v6 (tspans B i)) ∧ Aside0 (Below wT.heap.size wT W)) (fun _ v _ => evs.length - (intOf v).toNat)
   case atStart => exact ⟨0, Nat.zero_le _, rfl, ⟨Kd.R_nil _ _ _ _ _⟩, ⟨Below.refl _ _⟩⟩
   case round =>
    obtain ⟨i, hi, rfl, HO, HBw⟩ := hrel
    by_cases hlt : (i : Int) < evs.length
    ·have hi11 : (i : Int) < 11 := by have := HLe.out; omega
     have hB := HBd.out.below HBw.out; have HBi := Aa (show Bd wr b _ _ B from hB); have HI11 := Aa hi11; have hst := tspans_succ B i; have HSt := Aa hst
     have hlen : (tspans B i).length ≤ 10 := by unfold tspans; rw [List.length_map, List.length_range]; omega
     have HLn := Aa hlen; have hbT : b < wT.heap.size := HBd.out.lt; have HbT := Aa hbT; clear hst hlen hbT; have HBx := Aa (show Below wT.heap.size wT wr from HBw.out); have HOx := Aa (show Kd.R k27 27 wr wT.heap.size (fun _ => True) u6 (tspans B i) from HO.out); have HNe := Aa (show some b ≠ u6.ownBlock from fun e => by have := ((Kd.R_bound HOx.out).1 _ e.symm).2.1; have := HbT.out; omega); clear hB HBw HO
     obtain ⟨z1, hz1⟩ : ∃ z, IntKind.i64.wrap (-(B i 10)) = z := ⟨_, rfl⟩
     have hts : tspan B i = ⟨z1, B 10 i⟩ := by rw [← hz1, i64wrap]; rfl
     have HTs := Aa hts; clear hts
     go_wp2_with fail
     go_region_held3 (fun W => Bd W b (.slice A0 evs.length c0) (.slice A1 gaps.length c1) B ∧ W.cell? ⟨b, 2 + i * 11 + 10, none⟩ = some (.int .i64 (B i 10)) ∧ W.cell? ⟨b, 2 + 10 * 11 + i, none⟩ = some (.int .i64 (B 10 i)) ∧ W.cell? ⟨b, 112 + i, none⟩ = some (.int .i64 (B 10 i)))
      (first | exact bdS HBi.out.drew i HI11.out | exact bdS (Bd.grown HBi.out.drew hg HNe.out) i HI11.out | (go_split_ands; exact bdS (Bd.alloc (by assumption) _) i HI11.out))
      (first | (refine Kd.R_append_step k27 (w0 := wT) (W := wr.drew) wT.heap.size (by rfl) (.tmp 25) (.tmp 42) 36 27 (.agg #[.int .i64 0, .int .i64 0]) 16 rfl Try.underlying36 info27 rfl (by decide) (by decide) u6 (tspans B i) (⟨z1, B 10 i⟩ : S27) [.int .i64 z1, .int .i64 (B 10 i)] (fun _ => True) (fun _ => False) rfl rfl (k27_mkM _ _ _ (⟨z1, B 10 i⟩ : S27)) (fun _ hk => hk.elim) (fun _ _ => trivial) (Kd.R_drew HOx.out) (Dn HBx.out) HBx.out.size (by have := HLn.out; omega) ?_; intro v1 w5 ho hb hg hat))
     rename_i hS
     have HO5 := Aa ho; have HB5 := Aa hb; clear ho hb hg hat hS; go_wp2
     go_roundw
     case rel => exact ⟨i + 1, by omega, by simp, ⟨by rw [HSt.out, HTs.out]; exact HO5.out⟩, HB5⟩
     case measure => simp [intOf]; omega
    ·obtain rfl : i = evs.length := by omega
     obtain ⟨A6, c6, hv6, hc6, hC6⟩ := Kd.R_reads (show Kd.R k27 27 wr wT.heap.size (fun _ => True) u6 (tspans B evs.length) from HO.out); subst hv6
     have hlr : (tspans B evs.length).length = evs.length := by unfold tspans; rw [List.length_map, List.length_range]
     have HC6 := Aa hc6; have HV := Aa (V_clip' (w := wT) HO.out (Nat.le_refl _)); have HBx := Aa (show Below wT.heap.size wT wr from HBw.out); clear hc6 hC6 HO HBw hlr
     go_wp2_with fail
     refine (clip109 A6 _ c6 HC6.out _).mono ?_; rintro e w5 ⟨rfl, rfl⟩; go_wp2; go_ret2; have hV := HV.out; refine ⟨.slice A6 (tspans B evs.length).length (tspans B evs.length).length, rfl, ?_, Bp HB4.out HBx.out⟩; rw [← HR1.out]; exact Kd.V_mk (Nat.le_refl _) (Kd.F_mono (Kd.V_F hV) (fun k hk => Nat.le_trans HB4.out.size hk))
 ·rw [if_neg hle] at h; cases h
end Go.Proofs.Ytobcecgcegoooaa.Sk
namespace Go.Proofs.Ytobcecgcegoooaa.Sk
open Go.RowKit Go.Proofs.YtobcecgcegoooaaW.PrintWords Go.Proofs.YtobcecgcegoooaaW.PrintLast Go.Proofs.YtobcecgcegoooaaW.PrintMore
set_option linter.unusedVariables false
set_option linter.unusedSimpArgs false
def orderGo (B : Int → Int → Int) : Nat → List Int → List Int → Option (List Int)
 | 0, l, out => if l.length = 0 then some out else none
 | n + 1, l, out => if l.length = 0 then some out else
  if 0 ≤ idxGo (fun y => !hasBefore B l y) l 0 ∧ idxGo (fun y => !hasBefore B l y) l 0 < l.length then
   orderGo B n (l.take (idxGo (fun y => !hasBefore B l y) l 0).toNat ++ l.drop ((idxGo (fun y => !hasBefore B l y) l 0).toNat + 1)) (out ++ [rd l (idxGo (fun y => !hasBefore B l y) l 0)])
  else none
def nums (n : Nat) : List Int := (List.range n).map fun (i : Nat) => (i : Int)
def skew_Order.f (evs : List S27) (gaps : List S86) : Option (List Int × Int) :=
 (tightR evs gaps).bind fun p => if evs.length ≤ 10 then match p.1 with | some B => (orderGo B 10 (nums evs.length) []).map fun l => (l, p.2) | none => some ([], p.2) else none
theorem ri_flat {W : World} {base : Nat} {ok ok' : Nat → Prop} {v : Value} {l : List Int} (h : Kd.R (Kd.int .i64) 3 W base ok v l) (hk : ∀ k, v.ownBlock = some k → ok' k) : Kd.R (Kd.int .i64) 3 W base ok' v l := ⟨hk, h.2⟩
theorem ri_step {W W1 : World} {base : Nat} {ok : Nat → Prop} {v : Value} {l : List Int} (h : Kd.R (Kd.int .i64) 3 W base ok v l) (hm : ∀ k, v.ownBlock = some k → W1.heap[k]? = W.heap[k]?) : Kd.R (Kd.int .i64) 3 W1 base ok v l :=
 ri_flat (Kd.R_move (ri_flat h (ok' := fun k => v.ownBlock = some k) (fun _ hk => hk)) hm) h.1
theorem ri_grown {W W1 : World} {base : Nat} {ok : Nat → Prop} {v : Value} {l : List Int} (h : Kd.R (Kd.int .i64) 3 W base ok v l) {row : Option Nat} (hg : W.grownBy W1 row) (hne : v.ownBlock = none ∨ v.ownBlock ≠ row) : Kd.R (Kd.int .i64) 3 W1 base ok v l :=
 ri_step h (fun k hk => hg.block k ((Kd.R_bound h).1 k hk).2.2.1 (fun e => by
  rcases hne with hn | hn
  ·rw [hn] at hk; cases hk
  ·exact hn (hk.trans e)))
theorem ri_lt {W : World} {base : Nat} {ok : Nat → Prop} {v : Value} {l : List Int} (h : Kd.R (Kd.int .i64) 3 W base ok v l) (k : Nat) (hk : v.ownBlock = some k) : base ≤ k ∧ k < W.heap.size := ⟨((Kd.R_bound h).1 k hk).2.1, ((Kd.R_bound h).1 k hk).2.2.1⟩
theorem blk_set1 {W : World} {g : Nat} {t : TypeId} {u : Value} (h : W.heap[g]? = some (.cells #[u] t (0, 0))) (v : Value) : (W.setCell ⟨g, 0, none⟩ v).heap[g]? = some (.cells #[v] t (0, 0)) := (blk_put h 0 v rfl)
theorem nums_succ (n : Nat) : nums (n + 1) = nums n ++ [(n : Int)] := by unfold nums; rw [List.range_succ, List.map_append, List.map_cons, List.map_nil]
theorem nums_length (n : Nat) : (nums n).length = n := by unfold nums; simp
theorem nums_mem {n : Nat} {x : Int} (h : x ∈ nums n) : 0 ≤ x ∧ x < n := by
 unfold nums at h; obtain ⟨i, hi, rfl⟩ := List.mem_map.mp h; have := List.mem_range.mp hi; omega
theorem del119' (w : World) (base : Nat) (ok : Nat → Prop) (v : Value) (l : List Int) (k : Int) (hk0 : 0 ≤ k) (hk : k < l.length) (h : (Kd.int .i64).R 3 w base ok v l) :
  Calls Try.prog 122 #[v, .int .i64 k, .int .i64 (k + 1)] w fun e w' => ∃ v', e = .returned v' ∧ (Kd.int .i64).R 3 w' base ok v' (l.take k.toNat ++ l.drop (k.toNat + 1)) ∧ v'.ownBlock = v.ownBlock ∧ w.grownBy w' v.ownBlock ∧ w'.heap.size = w.heap.size := by
 have h1 := del119 w base ok v l k.toNat (by omega) h; rw [Int.toNat_of_nonneg hk0, show ((k.toNat + 1 : Nat) : Int) = k + 1 by omega] at h1; exact h1
structure OI (wT W : World) (b : Nat) (vl : Value) (l : List Int) : Prop where
 k40 : W.heap[wT.heap.size + 1]? = some (.cells #[vl] 40 (0, 0))
 k107 : W.heap[wT.heap.size]? = some (.cells #[.pointer (some ⟨b, 0, none⟩)] 107 (0, 0))
 own : Kd.R (Kd.int .i64) 3 W (wT.heap.size + 2) (fun _ => True) vl l
 bel : Below wT.heap.size wT W
 sz : wT.heap.size + 2 ≤ W.heap.size
theorem OI.start {wT : World} {b : Nat} {o : Obj} (ho : o = .cells #[.pointer (some ⟨b, 0, none⟩)] 107) : OI wT ((wT.alloc o).alloc (.cells #[.slice none 0 0] 40)) b (.slice none 0 0) [] := by
 subst ho; have h1 := blk_new (wT.alloc (.cells #[.pointer (some ⟨b, 0, none⟩)] 107)) (.cells #[.slice none 0 0] 40); rw [World.size_alloc] at h1; exact ⟨h1, Ka (blk_new wT _) _, Kd.R_nil _ _ _ _ _, Ba (Ba (Below.refl _ _) _) _, by rw [World.size_alloc, World.size_alloc]; omega⟩
theorem OI.put {wT W w1 : World} {b : Nat} {vl v1 : Value} {l l1 : List Int} (h : OI wT W b vl l) (hg : W.grownBy w1 vl.ownBlock) (ho : Kd.R (Kd.int .i64) 3 w1 (wT.heap.size + 2) (fun _ => True) v1 l1) : OI wT (w1.setCell ⟨wT.heap.size + 1, 0, none⟩ v1) b v1 l1 := by
 have hz := h.sz
 have hne : ∀ k, k < wT.heap.size + 2 → some k ≠ vl.ownBlock := fun k hk e => by have := (ri_lt h.own k e.symm).1; omega
 have h40 := (hg.block (wT.heap.size + 1) (by omega) (hne _ (by omega))).trans h.k40; have h104 := (hg.block wT.heap.size (by omega) (hne _ (by omega))).trans h.k107; refine ⟨blk_set1 h40 _, blk_far h104 (by omega) _, ri_step ho (fun k hk => Below.heap_setCell _ _ _ _ (by have := (ri_lt ho k hk).1; show k ≠ wT.heap.size + 1; omega)), ?_, (by rw [World.size_setCell]; exact Nat.le_trans hz hg.size)⟩; have hb : Below wT.heap.size wT w1 := below_grown h.bel hg h.bel.size (fun r e => by have := (ri_lt h.own r e).1; omega); exact hb.setCell (show wT.heap.size ≤ wT.heap.size + 1 by omega) _
theorem OI.kept40 {wT W w1 : World} {b : Nat} {vl : Value} {l : List Int} (h : OI wT W b vl l) (hg : W.grownBy w1 vl.ownBlock) : w1.heap[wT.heap.size + 1]? = some (.cells #[vl] 40 (0, 0)) :=
 (hg.block (wT.heap.size + 1) (by have := h.sz; omega) (fun e => by have := (ri_lt h.own _ e.symm).1; omega)).trans h.k40
theorem OI.grown {wT W w1 : World} {b : Nat} {vl : Value} {l : List Int} (h : OI wT W b vl l) {row : Option Nat} (hg : W.grownBy w1 row) (hr : ∀ r, row = some r → wT.heap.size + 2 ≤ r) (hn : vl.ownBlock = none ∨ vl.ownBlock ≠ row) : OI wT w1 b vl l :=
 ⟨blk_grown h.k40 hg (fun e => by have := hr _ e.symm; omega), blk_grown h.k107 hg (fun e => by have := hr _ e.symm; omega), ri_grown h.own hg hn, below_grown h.bel hg h.bel.size (fun r e => by have := hr r e; omega), Nat.le_trans h.sz hg.size⟩
theorem OI.below {wT W w1 : World} {b : Nat} {vl : Value} {l : List Int} (h : OI wT W b vl l) (hb : Below W.heap.size W w1) : OI wT w1 b vl l :=
 ⟨blk_below h.k40 hb, blk_below h.k107 hb, Kd.R_below h.own hb, Bp h.bel hb, Nat.le_trans h.sz hb.size⟩
set_option maxHeartbeats 4000000 in
set_option maxRecDepth 100000 in
theorem skew_Order.calls (A0 : Option Addr) (c0 : Nat) (evs : List S27) (A1 : Option Addr) (c1 : Nat) (gaps : List S86) (r1 : List Int) (r2 : Int) (w : World) (hC0 : Kd.C k27 w A0 evs.length evs) (hc0 : evs.length ≤ c0) (hC1 : Kd.C k86 w A1 gaps.length gaps) (hc1 : gaps.length ≤ c1) (h : skew_Order.f evs gaps = some (r1, r2)) :
  Calls Try.prog 64 #[.agg #[.slice A0 evs.length c0, .slice A1 gaps.length c1]] w fun e w' => ∃ v0_ : Value, e = .returned (.tuple #[v0_, .int .i64 r2]) ∧ Kd.V (Kd.int .i64) 3 w' w.heap.size (fun k_ => (w.heap.size ≤ k_)) v0_ r1 ∧ Below w.heap.size w w' := by
 unfold skew_Order.f at h; obtain ⟨⟨R, r⟩, hR, h⟩ := Option.bind_eq_some_iff.mp h
 by_cases hle : evs.length ≤ 10
 ·rw [if_pos hle] at h; have HLe := Aa hle; have hb0 := Ba (Below.refl w.heap.size w) (.cells #[.slice A0 evs.length c0, .slice A1 gaps.length c1] 39); have hk0 := blk_new w (.cells #[.slice A0 evs.length c0, .slice A1 gaps.length c1] 39); have HT := Aa (tight_calls A0 A1 c0 c1 evs gaps R r _ (Kd.C_below hC0 hb0) hc0 (Kd.C_below hC1 hb0) hc1 hR); have x0 := cell_at hk0 0 (.slice A0 evs.length c0) rfl; have x1 := cell_at hk0 1 (.slice A1 gaps.length c1) rfl; have HB0 := Aa hb0; clear hb0 hk0 hR hle
  cases R with
  | none =>
   have HTn := Aa HT.out; clear HT; simp only [Option.some.injEq, Prod.mk.injEq] at h; obtain ⟨rfl, rfl⟩ := h
   go_enter Try.func64, Try.ntmps64
   go_wp2_with (go_at_call 107; refine HTn.out.mono ?_; rintro e w4 ⟨p, rfl, _, hn, _, hb⟩; have hrn := hn rfl; have HB4 := Aa (Bp HB0.out hb); clear hb)
   go_ret2
   exact ⟨_, rfl, Kd.V_nil _ _ _ _ _, Ba HB4.out _⟩
  | some B =>
   have HTn := Aa HT.out; clear HT; have HH := Aa h; clear h
   go_enter Try.func64, Try.ntmps64
   go_wp2_with fail
   refine HTn.out.mono ?_; rintro e wT ⟨p, rfl, hs, _, hz, hb⟩; obtain ⟨b, rfl, hbl, hbd⟩ := hs B rfl; obtain rfl := hz B rfl; have HBd := Aa hbd; have HB4 := Aa (Bp HB0.out hb); have HI0 := Aa (OI.start (wT := wT) (b := b) rfl); have HbT := Aa hbd.lt; have y0 := ((hbd.alloc (.cells #[.pointer (some ⟨b, 0, none⟩)] 107)).alloc (.cells #[.slice none 0 0] 40)).c0; clear hs hz hb HTn x0 x1 hbl hbd
   go_wp2_with fail
   clear y0
   go_loopw [24] (fun v24 W => ∃ (i : Nat) (vl : Value), i ≤ evs.length ∧ v24 = .int .i64 (i : Int) ∧ Aside0 (OI wT W b vl (nums i))) (fun v _ => evs.length - (intOf v).toNat)
   case atStart => exact ⟨0, _, by omega, rfl, HI0⟩
   case round =>
    clear HI0; obtain ⟨i, vl, hi, rfl, HI⟩ := hrel; have hI : OI wT wr b vl (nums i) := HI.out; have x40 := cell_at hI.k40 0 vl rfl; have z40 := Bf hI.k40 0
    by_cases hlt : (i : Int) < evs.length
    ·have hi1000 : (i : Int) < 1000 := by have := HLe.out; omega
     have HIx := Aa hI; clear hI HI
     go_wp2_with (first
      | (at_builtin; refine Kd.R_append (Kd.int .i64) (w0 := wr) (W := wr) (wT.heap.size + 2) rfl (.tmp 27) (.tmp 29) 40 3 (.int .i64 0) 8 rfl Try.underlying40 info3 rfl (by decide) (by decide) vl (nums i) (i : Int) [.int .i64 (i : Int)] (fun _ => True) (fun _ => False) rfl rfl rfl (fun _ hk => hk.elim) (fun _ _ => trivial) HIx.out.own (Below.refl _ _) HIx.out.sz (by rw [nums_length]; have := HLe.out; omega) ?_; intro v1 w1 ho hb hg hat; obtain ⟨A8, c8, hv8⟩ := Kd.R_slice ho; obtain ⟨n8, hn8⟩ : ∃ n8, (nums i ++ [(i : Int)]).length = n8 := ⟨_, rfl⟩; rw [hn8] at hv8; clear hn8; subst hv8; have HI2 := Aa (HIx.out.put hg ho); have x41 := cell_at (HIx.out.kept40 hg) 0 vl rfl; have z41 := Bf (HIx.out.kept40 hg) 0; clear ho hb hg hat))
     go_roundw
     case rel => exact ⟨i + 1, _, by omega, by simp, ⟨by rw [nums_succ]; exact HI2.out⟩⟩
     case measure => simp [intOf]; omega
    ·obtain rfl : i = evs.length := by omega
     have HI1 := Aa hI; clear hI HI x40 z40; have HN := Aa (show (nums evs.length).length ≤ 10 by rw [nums_length]; exact HLe.out); have HRg := Aa (show ∀ x ∈ nums evs.length, 0 ≤ x ∧ x < 11 from fun x hx => by have := nums_mem hx; have := HLe.out; omega)
     obtain ⟨L0, hL0⟩ : ∃ L0, nums evs.length = L0 := ⟨_, rfl⟩
     rw [hL0] at HH HN HRg HI1; clear hL0
     go_wp2_with fail
     go_loopg [7] 10 (fun k v7 W => ∃ (vl : Value) (l out : List Int), Aside0 (l.length ≤ k) ∧ Aside0 (∀ x ∈ l, 0 ≤ x ∧ x < 11) ∧ Aside0 (out.length + l.length ≤ 10) ∧ Aside0 (Option.map (fun l => (l, (0 : Int))) (orderGo B k l out) = some (r1, r2)) ∧ Aside0 (OI wT W b vl l) ∧ Aside0 (Kd.R (Kd.int .i64) 3 W (wT.heap.size + 2) (fun k => some k ≠ vl.ownBlock) v7 out))
     case atStart => exact ⟨vl, L0, [], HN, HRg, ⟨by have := HN.out; simpa using this⟩, HH, HI1, ⟨Kd.R_nil _ _ _ _ _⟩⟩
     case round =>
      clear HI1 HN HRg HH; obtain ⟨vl, l, out, HN, HRg, HLn, HH, HI, HO⟩ := hrel; obtain ⟨A6, c6, hv6, hc6, hC6⟩ := Kd.R_reads HI.out.own; subst hv6; have hI : OI wT wr b (.slice A6 l.length c6) l := HI.out; have x40 := cell_at hI.k40 0 (.slice A6 l.length c6) rfl; have HIx := Aa hI; have HC6 := Aa hC6; clear hI hC6
      by_cases hl0 : (0 : Int) < l.length
      ·cases gk with
       | zero => exact absurd HN.out (by omega)
       | succ gk =>
        have hh := HH.out; simp only [orderGo] at hh; rw [if_neg (by omega)] at hh
        obtain ⟨k, hk⟩ : ∃ k, idxGo (fun y => !hasBefore B l y) l 0 = k := ⟨_, rfl⟩
        rw [hk] at hh
        by_cases hkr : 0 ≤ k ∧ k < l.length
        ·rw [if_pos hkr] at hh; obtain ⟨hk0, hk1⟩ := hkr; have HK := Aa hk; have HH2 := Aa hh; have HC := Aa (idx114_116 #[.pointer (some ⟨wT.heap.size + 1, 0, none⟩), .pointer (some ⟨wT.heap.size, 0, none⟩)] A6 c6 l (fun y => !hasBefore B l y) wr HC6.out (by have := HLn.out; omega) (fun _ => True) trivial (fun y W hy _ hB => (cl116_calls A6 c6 l b wT.heap.size (wT.heap.size + 1) _ _ B y W (Kd.C_below HC6.out hB) (by have := HLn.out; omega) HRg.out (HBd.out.below (Bp HIx.out.bel hB)) (blk_below HIx.out.k107 hB) (blk_below HIx.out.k40 hB) (HRg.out y hy).1 (HRg.out y hy).2).mono fun e w' ⟨h1, h2⟩ => ⟨h1, trivial, h2⟩)); clear hk hh HH
         go_wp2_with fail
         refine HC.out.mono ?_; rintro e w5 ⟨rfl, _, hb⟩; rw [HK.out]; have hI5 := HIx.out.below hb; have HI5 := Aa hI5; have x45 := cell_at hI5.k40 0 (.slice A6 l.length c6) rfl; obtain ⟨ad, e1, hy0⟩ := Kd.at_int (Kd.C_below HC6.out hb) k hk0 hk1; subst e1; have HO5 := Aa (Kd.R_below HO.out hb)
         obtain ⟨x, hx⟩ : ∃ x, rd l k = x := ⟨_, rfl⟩
         rw [hx] at hy0 HH2
         have hk9 : k < 9223372036854775807 := by have := HLn.out; omega
         have hown : (Value.slice (some ad) l.length c6).ownBlock = some ad.block := rfl; have HOw := Aa hown; clear HC hb x40 HIx HC6 HO hI5 hx hown
         go_wp2_with (first
          | (at_builtin; go_must (refine Kd.R_append (Kd.int .i64) (w0 := w5) (W := w5) (wT.heap.size + 2) rfl (.tmp 38) (.tmp 43) 40 3 (.int .i64 0) 8 rfl Try.underlying40 info3 rfl (by decide) (by decide) u7 out x [.int .i64 x] (fun k => some k ≠ (Value.slice (some ad) l.length c6).ownBlock) (fun _ => False) rfl rfl rfl (fun _ hk => hk.elim) (fun k hk e => by have := (ri_lt HI5.out.own k e.symm).2; omega) HO5.out (Below.refl _ _) HI5.out.sz (by have := HLn.out; omega) ?_; intro v1 w1 ho hb hg hat; have HO6 := Aa ho; have HI6 := Aa (HI5.out.grown hg (fun r e => (ri_lt HO5.out r e).1) (.inr (fun e => by have e2 := e; rw [HOw.out] at e2; exact HO5.out.1 _ e2.symm HOw.out.symm))); have x46 := cell_at HI6.out.k40 0 (.slice (some ad) l.length c6) rfl; clear ho hb hg hat)))
         refine (del119' w1 _ _ _ l k hk0 hk1 HI6.out.own).mono ?_; rintro e w7 ⟨v7, rfl, ho, hob, hg, hsz⟩
         obtain ⟨l2, hl2⟩ : ∃ l2, l.take k.toNat ++ l.drop (k.toNat + 1) = l2 := ⟨_, rfl⟩
         have hlen : l2.length + 1 = l.length := by rw [← hl2]; simp; omega
         have hmem : ∀ y ∈ l2, y ∈ l := by
          intro y hy; rw [← hl2] at hy
          rcases List.mem_append.mp hy with hy | hy
          ·exact List.mem_of_mem_take hy
          ·exact List.mem_of_mem_drop hy
         rw [hl2] at ho HH2; obtain ⟨A9, c9, hv9⟩ := Kd.R_slice ho; have HI7 := Aa (HI6.out.put hg ho); have x47 := cell_at (HI6.out.kept40 hg) 0 (.slice (some ad) l.length c6) rfl; have z47 := Bf (HI6.out.kept40 hg) 0; have hO7 := ri_grown HO6.out hg (.inr (fun e => by have e2 := e; rw [HOw.out] at e2; exact HO6.out.1 _ e2 HOw.out.symm)); have hO8 := ri_flat hO7 (ok' := fun k => some k ≠ v7.ownBlock) (fun k hk e => HO6.out.1 k hk (e.trans hob)); have HO8 := Aa (ri_step (W1 := w7.setCell ⟨wT.heap.size + 1, 0, none⟩ v7) hO8 (fun k hk => Below.heap_setCell _ _ _ _ (by have := (ri_lt hO8 k hk).1; show k ≠ wT.heap.size + 1; omega))); have HLn2 := Aa (show (out ++ [x]).length + l2.length ≤ 10 by have := HLn.out; simp; omega); have HN2 := Aa (show l2.length ≤ gk by have := HN.out; omega); have HRg2 := Aa (show ∀ y ∈ l2, 0 ≤ y ∧ y < 11 from fun y hy => HRg.out y (hmem y hy))
         obtain ⟨n9, hn9⟩ : ∃ n9, l2.length = n9 := ⟨_, rfl⟩
         rw [hn9] at hv9; clear hn9; subst hv9; clear hO7 hO8 ho hob hg hsz hl2 hlen hmem x46 x45 hy0; go_wp2
         go_roundg gk
         case measure => omega
         case rel => exact ⟨_, l2, _, HN2, HRg2, HLn2, HH2, HI7, HO8⟩
        ·rw [if_neg hkr] at hh; cases hh
      ·have hl0' : l.length = 0 := by omega
       have hh := HH.out
       have ho : orderGo B gk l out = some out := by cases gk <;> (simp only [orderGo]; rw [if_pos hl0'])
       rw [ho] at hh; simp only [Option.map_some, Option.some.injEq, Prod.mk.injEq] at hh; obtain ⟨rfl, rfl⟩ := hh; obtain ⟨A7, c7, hv7, hc7, hC7⟩ := Kd.R_reads HO.out; subst hv7; have HV := Aa (V_clip' (w := wT) HO.out (by omega)); have HC7 := Aa hc7; clear ho hC7 hc7 HH HO
       go_wp2_with fail
       refine (clip81 A7 _ c7 HC7.out _).mono ?_; rintro e w5 ⟨rfl, rfl⟩; go_wp2; go_ret2; exact ⟨_, rfl, Kd.V_mk (Nat.le_refl _) (Kd.F_mono (Kd.V_F HV.out) (fun k hk => Nat.le_trans HB4.out.size hk)), Bp HB4.out HIx.out.bel⟩
 ·rw [if_neg hle] at h; cases h
end Go.Proofs.Ytobcecgcegoooaa.Sk
namespace Go.Proofs.Ytobcecgcegoooaa.Sk
open Go.RowKit Go.Shelf Go.Maps Go.Proofs.YtobcecgcegoooaaW.PrintWords Go.Proofs.YtobcecgcegoooaaW.PrintLast Go.Proofs.YtobcecgcegoooaaW.PrintMore
attribute [local go_sem] Oper.semAt_some
set_option linter.unusedVariables false
set_option linter.unusedSimpArgs false
section
variable {F : Fence} {nF : Nat} {P : Program} {ops : Array Oper} {rest : List Oper} {o : Oper} {a : Act} {Q : Exit → Act → World → Prop} {α : Type}
theorem R_append_in (d : Kd α) {w0 W : World} (base : Nat) (hgd : o.guard = none) (s x : Operand) (t e : TypeId) (z : Value) (bytes : Nat)
  (ho : o.op = .call { callee := .builtin .append, args := #[s, x], argTypes := #[t, t] })
  (ht : P.underlying t = some (.slice e)) (hinfo : (P.info? e).map (fun i => (i.zero, i.size, i.bytes)) = some (some z, d.sz, bytes)) (hz : z.cells.size = d.sz) (hs0 : 0 < d.sz) (hb0 : 0 < bytes)
  (v : Value) (xs : List α) (p : α) (cs : List Value) (ok okp : Nat → Prop) (hs : a.eval s = v) (hx : a.eval x = .slice (some ⟨W.heap.size, 0, none⟩) 1 1) (hp : d.M W base okp p cs) (hokp : ∀ k, okp k → ok k ∧ some k ≠ v.ownBlock) (hfresh : ∀ k, W.heap.size ≤ k → ok k)
  (HO : d.R e W base ok v xs) (HB : Below base w0 W) (hbase : base ≤ W.heap.size) (hl : (xs.length + 1) * bytes ≤ 140737488355328)
  (h : ∀ v1 w1, d.R e w1 base ok v1 (xs ++ [p]) → Below base w0 w1 → W.grownBy w1 v.ownBlock → (v1.ownBlock = v.ownBlock ∨ ∃ b, v1.ownBlock = some b ∧ W.heap.size ≤ b) → wpListIn F nF P ops Q rest (a.put o.dst v1) w1) :
  wpListIn F nF P ops Q (o :: rest) a (W.alloc (.cells cs.toArray e)) := by
 obtain ⟨h0, inner, hown, hr⟩ := HO; obtain ⟨i0, hi, hzz⟩ := Option.map_eq_some_iff.1 hinfo; simp only [Prod.mk.injEq] at hzz; obtain ⟨hz0, hz1, hz2⟩ := hzz; have hys : cs.length = d.sz := d.K_len (d.K_of_M hp); have hlen : xs.length + 1 ≤ 140737488355328 := Nat.le_trans (Nat.le_mul_of_pos_right _ hb0) hl
 refine wpListIn_append_own_at (W.alloc (.cells cs.toArray e)) hgd s x t ho base e i0 z d.sz bytes ht hi hz0 hz1 hz2 hz hs0 v xs.length inner hs (hown.alloc _) ⟨W.heap.size, 0, none⟩ 1 1 cs hx (by rw [hys]; simp)
  (by simpa using World.news_of_block (cs := cs.toArray) (t := e) (fr := (0, 0)) (heap_alloc_new W (.cells cs.toArray e))) (d.K_one (d.K_of_M hp)) (by simp only [maxLen]; omega) hl (by simp; omega) ?_
 intro v1 w1 hown1 hg _ hat; have hg2 := World.grownBy.trans (World.grownBy_alloc W _ v.ownBlock) hg
 have hat2 : v1.ownBlock = v.ownBlock ∨ ∃ b, v1.ownBlock = some b ∧ W.heap.size ≤ b := by
  rcases hat with hat | hat
  ·exact .inl hat
  ·exact .inr ⟨_, hat, by simp⟩
 exact h v1 w1 (Kd.R_appended h0 hr hp hokp hfresh hown1 hg2 hat2) ((HB.alloc hbase _).grown hg (by simp; omega) (own_base hown)) hg2 hat2
end
def omF (f : Int → Option Bool) : Int → Bool := fun k => (f k).getD false
def rstep (L : List (Int × S158)) (st : (Int → Option Bool) × List Int) (x : Int × S158) : (Int → Option Bool) × List Int :=
 if (tightenF (bindP (omF (upd st.1 x.1 true)) L)).isSome = true then (upd (upd st.1 x.1 true) x.1 false, st.2 ++ [x.1]) else (upd st.1 x.1 true, st.2)
def reasonS (L : List (Int × S158)) (fs : List Fc) : (Int → Option Bool) × List Int := fs.foldl (fun st x => rstep L st x.1) (fun _ => none, [])
theorem reasonS_snoc (L : List (Int × S158)) (fs : List Fc) (x : Fc) : reasonS L (fs ++ [x]) = rstep L (reasonS L fs) x.1 := by
 unfold reasonS; rw [List.foldl_append]; rfl
theorem rstep_len (L : List (Int × S158)) (st : (Int → Option Bool) × List Int) (x : Int × S158) : (rstep L st x).2.length ≤ st.2.length + 1 := by
 unfold rstep; split <;> simp
theorem foldl_len (L : List (Int × S158)) : ∀ (fs : List Fc) (st : (Int → Option Bool) × List Int), (fs.foldl (fun st x => rstep L st x.1) st).2.length ≤ st.2.length + fs.length
 | [], st => by simp
 | x :: fs, st => by
  have h1 := foldl_len L fs (rstep L st x.1); have h2 := rstep_len L st x.1; rw [List.foldl_cons, List.length_cons]; omega
theorem reasonS_len (L : List (Int × S158)) (fs : List Fc) : (reasonS L fs).2.length ≤ fs.length := by
 have := foldl_len L fs (fun _ => none, []); unfold reasonS; simp only [List.length_nil, Nat.zero_add] at this; exact this
def reasonP (L : List (Int × S158)) : List Int := (L.foldl (rstep L) (fun _ => none, [])).2
theorem reasonP_eq (L : List (Int × S158)) (fs : List Fc) (h : fs.map (·.1) = L) : (reasonS L fs).2 = reasonP L := by
 have : reasonP L = ((fs.map (·.1)).foldl (rstep L) (fun _ => none, [])).2 := by rw [h]; rfl
 rw [this, List.foldl_map]; rfl
theorem facts_ex' (evs : List S27) (gaps : List S86) (h : histOk evs gaps) : ∃ fs : List Fc, IsFacts evs gaps fs ∧ (∀ om, bindF om fs = bindP om (saidL evs gaps)) ∧ (reasonS (saidL evs gaps) fs).2 = reasonP (saidL evs gaps) ∧ fs.length = evs.length + gaps.length := by
 obtain ⟨fs, h1, h2, h3⟩ := facts_ex0 evs gaps h; exact ⟨fs, h1, h2, reasonP_eq _ _ h3, h1.1⟩
def skew_Reason.f (evs : List S27) (gaps : List S86) : Option (List Int × Int) :=
 (skew_isHist.f 1000 evs gaps).bind fun t => if t = true then
  if histOk evs gaps then if (tightenF (bindP (fun _ => false) (saidL evs gaps))).isSome = true then some ([], 5) else some (reasonP (saidL evs gaps), 0)
  else none
 else some ([], 2)
theorem keepsFrom_below {B : Nat} {W W' : World} (hb : Below W.heap.size W W') : KeepsFrom B W W' := ⟨hb.size, fun k o _ hk _ => (hb.block k (blk_lt hk)).trans hk⟩
structure RI (w W3 W : World) (hv : Array Value) (n : Nat) (f : Int → Option Bool) (vl : Value) (rs : List Int) : Prop where
 mp : MapIs elB W W3.heap.size n f
 kb : W.heap[W3.heap.size + 1]? = some (.cells #[.map (some W3.heap.size)] 114 (0, 0))
 k40 : W.heap[W3.heap.size + 1 + 1]? = some (.cells #[vl] 40 (0, 0))
 own : Kd.R (Kd.int .i64) 3 W (W3.heap.size + 4) (fun _ => True) vl rs
 k39 : W.heap[w.heap.size]? = some (.cells hv 39 (0, 0))
 bel : Below W3.heap.size W3 W
 sz : W3.heap.size + 3 ≤ W.heap.size
theorem RI.below {w W3 W W' : World} {hv : Array Value} {n : Nat} {f : Int → Option Bool} {vl : Value} {rs : List Int} (h : RI w W3 W hv n f vl rs) (hb : Below W.heap.size W W') : RI w W3 W' hv n f vl rs :=
 ⟨h.mp.below hb, blk_below h.kb hb, blk_below h.k40 hb, Kd.R_below h.own hb, blk_below h.k39 hb, Bp h.bel hb, Nat.le_trans h.sz hb.size⟩
theorem RI.others {w W3 W W' : World} {hv : Array Value} {n : Nat} {f : Int → Option Bool} {vl : Value} {rs : List Int} (h : RI w W3 W hv n f vl rs) {row : Option Nat} (hg : W.grownBy W' row) (hr : ∀ r, row = some r → W3.heap.size + 3 ≤ r) (hn : vl.ownBlock = none ∨ vl.ownBlock ≠ row) (hw : w.heap.size < W3.heap.size) : RI w W3 W' hv n f vl rs :=
 ⟨h.mp.kept hg (fun e => by have := hr _ e.symm; omega), blk_grown h.kb hg (fun e => by have := hr _ e.symm; omega), blk_grown h.k40 hg (fun e => by have := hr _ e.symm; omega), ri_grown h.own hg hn, blk_grown h.k39 hg (fun e => by have := hr _ e.symm; omega), below_grown h.bel hg h.bel.size (fun r e => by have := hr r e; omega), Nat.le_trans h.sz hg.size⟩
theorem RI.store {w W3 W W' : World} {hv : Array Value} {n n' : Nat} {f f' : Int → Option Bool} {vl : Value} {rs : List Int} (h : RI w W3 W hv n f vl rs) (hm : MapIs elB W' W3.heap.size n' f') (hg : W.grownBy W' (some W3.heap.size)) (hw : w.heap.size < W3.heap.size) : RI w W3 W' hv n' f' vl rs :=
 ⟨hm, blk_grown h.kb hg (fun e => by injection e with e; omega), blk_grown h.k40 hg (fun e => by injection e with e; omega), ri_grown h.own hg (.inr (fun e => by have := (ri_lt h.own _ e).1; omega)), blk_grown h.k39 hg (fun e => by injection e with e; omega), below_grown h.bel hg h.bel.size (fun r e => by injection e with e; omega), Nat.le_trans h.sz hg.size⟩
theorem RI.kept40 {w W3 W w1 : World} {hv : Array Value} {n : Nat} {f : Int → Option Bool} {vl : Value} {rs : List Int} (h : RI w W3 W hv n f vl rs) (hg : W.grownBy w1 vl.ownBlock) : w1.heap[W3.heap.size + 1 + 1]? = some (.cells #[vl] 40 (0, 0)) :=
 (hg.block (W3.heap.size + 1 + 1) (by have := h.sz; omega) (fun e => by have := (ri_lt h.own _ e.symm).1; omega)).trans h.k40
theorem RI.put {w W3 W w1 : World} {hv : Array Value} {n : Nat} {f : Int → Option Bool} {vl v1 : Value} {rs l1 : List Int} (h : RI w W3 W hv n f vl rs) (hg : W.grownBy w1 vl.ownBlock) (ho : Kd.R (Kd.int .i64) 3 w1 (W3.heap.size + 4) (fun _ => True) v1 l1) (hw : w.heap.size < W3.heap.size) :
  RI w W3 (w1.setCell ⟨W3.heap.size + 1 + 1, 0, none⟩ v1) hv n f v1 l1 := by
 have hz := h.sz
 have hne : ∀ k, k < W3.heap.size + 3 → some k ≠ vl.ownBlock := fun k hk e => by have := (ri_lt h.own k e.symm).1; omega
 have h39 := (hg.block w.heap.size (by omega) (hne _ (by omega))).trans h.k39; have hkb := (hg.block (W3.heap.size + 1) (by omega) (hne _ (by omega))).trans h.kb; have hb : Below W3.heap.size W3 w1 := below_grown h.bel hg h.bel.size (fun r e => by have := (ri_lt h.own r e).1; omega); exact ⟨(h.mp.kept hg (hne _ (by omega))).setCell (show W3.heap.size ≠ W3.heap.size + 1 + 1 by omega) _, blk_far hkb (by omega) _, blk_set1 (h.kept40 hg) _, ri_step ho (fun k hk => Below.heap_setCell _ _ _ _ (by have := (ri_lt ho k hk).1; show k ≠ W3.heap.size + 1 + 1; omega)), blk_far h39 (by omega) _, hb.setCell (show W3.heap.size ≤ W3.heap.size + 1 + 1 by omega) _, (by rw [World.size_setCell]; exact Nat.le_trans hz hg.size)⟩
theorem RI.start {w W3 : World} {hv : Array Value} (hk : W3.heap[w.heap.size]? = some (.cells hv 39 (0, 0))) : RI w W3 (((W3.alloc (.map #[] 0)).alloc (.cells #[.map (some W3.heap.size)] 114)).alloc (.cells #[.slice none 0 0] 40)) hv 0 (fun _ => none) (.slice none 0 0) [] := by
 have h1 := blk_new (W3.alloc (.map #[] 0)) (.cells #[.map (some W3.heap.size)] 114); rw [World.size_alloc] at h1; have h2 := blk_new ((W3.alloc (.map #[] 0)).alloc (.cells #[.map (some W3.heap.size)] 114)) (.cells #[.slice none 0 0] 40); rw [World.size_alloc, World.size_alloc] at h2; exact ⟨((MapIs.made W3).alloc _).alloc _, Ka h1 _, h2, Kd.R_nil _ _ _ _ _, Ka (Ka (Ka hk _) _) _, Ba (Ba (Ba (Below.refl _ _) _) _) _, by rw [World.size_alloc, World.size_alloc, World.size_alloc]; omega⟩
set_option maxHeartbeats 4000000 in
set_option maxRecDepth 100000 in
theorem skew_Reason.calls (A0 : Option Addr) (c0 : Nat) (evs : List S27) (A1 : Option Addr) (c1 : Nat) (gaps : List S86) (r1 : List Int) (r2 : Int) (w : World) (hC0 : Kd.C k27 w A0 evs.length evs) (hc0 : evs.length ≤ c0) (hC1 : Kd.C k86 w A1 gaps.length gaps) (hc1 : gaps.length ≤ c1) (h : skew_Reason.f evs gaps = some (r1, r2)) :
  Calls Try.prog 21 #[.agg #[.slice A0 evs.length c0, .slice A1 gaps.length c1]] w fun e w' => ∃ v0_ : Value, e = .returned (.tuple #[v0_, .int .i64 r2]) ∧ Kd.V (Kd.int .i64) 3 w' w.heap.size (fun k_ => (w.heap.size ≤ k_)) v0_ r1 ∧ Below w.heap.size w w' := by
 unfold skew_Reason.f at h; obtain ⟨t, ht, h⟩ := Option.bind_eq_some_iff.mp h; have hmm := @run_makeMap Try.prog; have hb0 := Ba (Below.refl w.heap.size w) (.cells #[.slice A0 evs.length c0, .slice A1 gaps.length c1] 39); have hk0 := blk_new w (.cells #[.slice A0 evs.length c0, .slice A1 gaps.length c1] 39); have HIs := Aa (skew_isHist.calls 1000 A0 c0 evs A1 c1 gaps t _ (Kd.C_below hC0 hb0) hc0 (Kd.C_below hC1 hb0) hc1 ht); have x0 := cell_at hk0 0 (.slice A0 evs.length c0) rfl; have x1 := cell_at hk0 1 (.slice A1 gaps.length c1) rfl; have HB0 := Aa hb0; have HK0 := Aa hk0; have HC0 := Aa hC0; have HC1 := Aa hC1; clear hb0 hk0 ht hC0 hC1; refine (callsIn_wide (n := 10)).1 ?_; refine callsIn_of_wp_marks Try.func21 rfl trivial ?_ rfl; simp only [Try.ntmps21, List.size_toArray, List.length_cons, List.length_nil, Nat.reduceAdd, Nat.reduceSub, Array.replicate_succ, Array.replicate_zero, List.push_toArray, List.append_toArray, List.nil_append, List.cons_append]
 cases t with
 | false =>
  rw [if_neg (by simp)] at h; simp only [Option.some.injEq, Prod.mk.injEq] at h; obtain ⟨rfl, rfl⟩ := h
  gi_wp2_with (refine ⟨trivial, ?_⟩; gi_at_call 75; refine (callsIn_wide.2 HIs.out).mono ?_; rintro e w1 ⟨rfl, hb⟩; have HB1 := Aa (Bp HB0.out hb); clear hb)
  exact ⟨_, results_tmp2 rfl _ _ _, _, rfl, Kd.V_nil _ _ _ _ _, HB1.out⟩
 | true =>
  rw [if_pos rfl] at h
  by_cases hok : histOk evs gaps
  ·rw [if_pos hok] at h; obtain ⟨fs, hfs, hbp, hrp, hfl⟩ := facts_ex' evs gaps hok; have HFs := Aa hfs; have HBp := Aa hbp; have HRp := Aa hrp; have HFl := Aa hfl; have HOk := Aa hok; have H := Aa h; clear h hfs hbp hrp hfl hok
   gi_wp2_with fail
   refine ⟨trivial, ?_⟩; refine (callsIn_wide.2 HIs.out).mono ?_; rintro e w1 ⟨rfl, hb⟩; have HB1 := Aa (Bp HB0.out hb); have hk1 := blk_below HK0.out hb; have HK1 := Aa hk1; have y0 := cell_at hk1 0 (.slice A0 evs.length c0) rfl; have y1 := cell_at hk1 1 (.slice A1 gaps.length c1) rfl; have HC := Aa (bind_calls A0 A1 c0 c1 evs gaps fs HFs.out none (fun _ => false) w1 (Kd.C_below HC0.out HB1.out) (Kd.C_below HC1.out HB1.out) HOk.out.1 HOk.out.2.1 (fun W _ k h0 h1 => look_nil W k h0 h1)); clear hb HIs x0 x1 hk1 HK0
   gi_wp2_with fail
   refine ⟨trivial, ?_⟩; refine (callsIn_wide.2 HC.out).mono ?_; rintro e w2 ⟨rfl, hbd, hb⟩; rw [HBp.out] at hbd; have HB2 := Aa (Bp HB1.out hb); have HT := Aa (tighten_calls _ w1.heap.size _ _ _ _ hbd (by omega)); have HBa := Aa hb; clear hbd hb HC y0 y1
   gi_wp2_with fail
   refine ⟨trivial, ?_⟩; refine (callsIn_wide.2 HT.out).mono ?_; rintro e w3 ⟨rfl, _, hb⟩; have HB3 := Aa (HB2.out.trans (below_weak hb HB1.out.size)); have hk3 := blk_below HK1.out (HBa.out.trans hb); have HK3 := Aa hk3; have HS3 := Aa (blk_lt hk3); clear hb HT HBa HK1
   cases htt : (tightenF (bindP (fun _ => false) (saidL evs gaps))).isSome with
   | true =>
    have h := H.out; rw [if_pos htt] at h; simp only [Option.some.injEq, Prod.mk.injEq] at h; obtain ⟨rfl, rfl⟩ := h; clear H htt hk3
    gi_wp2
    exact ⟨_, results_tmp2 rfl _ _ _, _, rfl, Kd.V_nil _ _ _ _ _, HB3.out⟩
   | false =>
    have h := H.out; rw [if_neg (by rw [htt]; simp)] at h; simp only [Option.some.injEq, Prod.mk.injEq] at h; obtain ⟨h1, rfl⟩ := h; have HR1 := Aa h1; have HI0 := Aa (RI.start (w := w) hk3); have x0 := cell_at HI0.out.k39 0 (.slice A0 evs.length c0) rfl; have x1 := cell_at HI0.out.k39 1 (.slice A1 gaps.length c1) rfl; clear H htt hk3 h1
    gi_wp2_with fail
    have hsz0 : (((w3.alloc (.map #[] 0)).alloc (.cells #[.map (some w3.heap.size)] 114)).alloc (.cells #[.slice none 0 0] 40)).heap.size = w3.heap.size + 3 := by rw [World.size_alloc, World.size_alloc, World.size_alloc]
    have HZ0 := Aa hsz0; have HBz := Aa (HB3.out.trans (below_weak (Ba (Ba (Ba (Below.refl _ _) _) _) _) HB3.out.size) : Below w.heap.size w (((w3.alloc (.map #[] 0)).alloc (.cells #[.map (some w3.heap.size)] 114)).alloc (.cells #[.slice none 0 0] 40))); clear hsz0; generalize (((w3.alloc (.map #[] 0)).alloc (.cells #[.map (some w3.heap.size)] 114)).alloc (.cells #[.slice none 0 0] 40)) = W0 at HI0 x0 x1 HZ0 HBz ⊢; refine ⟨trivial, ?_⟩; refine (said_calls A0 A1 evs.length gaps.length c0 c1 Fence.wide _ trivial rfl _).mono ?_; rintro e w' ⟨rfl, rfl⟩; clear x0 x1
    gi_wp2_with fail
    have kbox := blk_new W0 (.cells #[.slice A0 evs.length c0, .slice A1 gaps.length c1] 39); have hI1 := HI0.out.below (Ba (Below.refl _ _) (.cells #[.slice A0 evs.length c0, .slice A1 gaps.length c1] 39)); have hBw1 := Ba HBz.out (.cells #[.slice A0 evs.length c0, .slice A1 gaps.length c1] 39); have hzz := HZ0.out; have hs3 := HS3.out; have hs1 : (W0.alloc (.cells #[.slice A0 evs.length c0, .slice A1 gaps.length c1] 39)).heap.size = W0.heap.size + 1 := World.size_alloc _ _; have hstops := said1_stops A0 A1 c0 c1 evs gaps fs HFs.out Fence.wide 9 trivial rfl (by omega) W0.heap.size (W0.heap.size + 1) (fun k => k = w3.heap.size ∨ k = w3.heap.size + 1 + 1) (W0.alloc (.cells #[.slice A0 evs.length c0, .slice A1 gaps.length c1] 39)) w (by omega) (by omega) kbox hBw1 (by omega) (fun k hk => by omega) (by omega) HC0.out HC1.out HOk.out.1 HOk.out.2.1; have HS1 := Aa hs1
    refine wpIn_rangeFunc_ownH rfl (by omega) (gf := 123) (lb := #[.pointer (some ⟨W0.heap.size, 0, none⟩)]) rfl trivial (enters_of Try.func123 (by kernel_rfl) rfl) hstops (fun h k => KB.trans h k)
     (fun W l o o' hl ho _ _ => by have hgp := grownBy_putObj' W l o'; exact ⟨hgp.os, hgp.tape, hgp.output, hgp.size, fun k hk _ => hgp.block k (by have := blk_lt ho; omega) (fun e => by injection e with e; omega)⟩) (Below.refl _ _) (fun _ => rfl)
     (fun pre W => (∃ vl, RI w w3 W #[.slice A0 evs.length c0, .slice A1 gaps.length c1] (2 * pre.length) (reasonS (saidL evs gaps) pre).1 vl (reasonS (saidL evs gaps) pre).2) ∧ W0.heap.size + 1 ≤ W.heap.size) (fun _ _ _ => False)
     (fun pre X Y row hs hg hr => ?own) (fun _ _ _ _ _ hs _ _ => hs) ⟨⟨_, hI1⟩, by omega⟩
     (fun x a' W => a' = { tmps := #[.agg #[.slice A0 evs.length c0, .slice A1 gaps.length c1], .pointer (some ⟨w.heap.size, 0, none⟩), .slice none 0 0, .int .i64 0, .pointer (some ⟨w3.heap.size + 1, 0, none⟩), .pointer (some ⟨w3.heap.size + 1 + 1, 0, none⟩), .int .i64 x.1.1, .agg #[.slice A0 evs.length c0, .slice A1 gaps.length c1], .bool true, .bool false, .agg #[.slice A0 evs.length c0, .slice A1 gaps.length c1], .pointer (some ⟨w1.heap.size + 2, 0, none⟩), .pointer (some ⟨w1.heap.size + 2, 0, none⟩), .pointer (some ⟨w1.heap.size + 2, 2, none⟩), .bool false, .map (some w3.heap.size), .agg #[.slice A0 evs.length c0, .slice A1 gaps.length c1], .func (.func 123) #[] #[.pointer (some ⟨W0.heap.size, 0, none⟩)], .int .i64 x.1.1, .agg #[.int .i64 x.1.2.f0, .int .i64 x.1.2.f1, .int .i64 x.1.2.f2, .int .i64 x.1.2.f3], undef, undef, undef, undef, undef, undef, undef, undef, undef, undef, undef, undef, undef, undef, undef, undef], defers := [] })
     (fun x a' _ X Y row hs hg hr => hs) ?assign ?body ?done ?stop
    case own =>
     obtain ⟨⟨vl, hi⟩, hsz⟩ := hs; refine ⟨⟨vl, hi.others hg (fun r e => by have := (hr r e).1; omega) ?_ hs3⟩, Nat.le_trans hsz hg.size⟩
     by_cases hn : vl.ownBlock = none
     ·exact .inl hn
     ·refine .inr (fun e => ?_); obtain ⟨k, hk⟩ : ∃ k, vl.ownBlock = some k := Option.ne_none_iff_exists'.mp hn; obtain ⟨_, o, ho, hc⟩ := hr k (e.symm.trans hk); obtain ⟨_, _, _, q, hq, cells, hcell⟩ := (Kd.R_bound hi.own).1 k hk; rw [hcell] at ho; cases ho; cases hc
    case assign =>
     rintro l pre x W K ⟨hi, hsz⟩ hK; clear hzz hs1 hs3; dsimp only [Fc.enc]
     gi_wp2
     exact hK _ _ (KeepsFrom.refl _ _) (KB.refl _ _ W) ⟨hi, hsz⟩ rfl
    case body =>
     rintro l pre x a' W hl hr ⟨⟨vl, hi⟩, hsz⟩ rfl hlt; have HSz := Aa hsz; have HHl := Aa hl; have HLt := Aa hlt; have HS := Aa (reasonS_snoc (saidL evs gaps) pre x); have HRl := Aa (reasonS_len (saidL evs gaps) pre)
     obtain ⟨st, hst⟩ : ∃ st, reasonS (saidL evs gaps) pre = st := ⟨_, rfl⟩
     rw [hst] at hi HS HRl; clear hzz hs1 hs3 hst hstops kbox hI1 hBw1 hsz hl hr hlt; have HI := Aa hi; have x1 := cell_at hi.kb 0 (.map (some w3.heap.size)) rfl; have HKx := Aa (okI_of (show -9223372036854775808 ≤ x.1.1 ∧ x.1.1 ≤ 9223372036854775807 by have := x.2.1; omega))
     have hpl : pre.length ≤ 30 := by have h1 := HLt.out; have h2 := HFl.out; have h3 := HOk.out; have h4 := h3.1; have h5 := h3.2.1; omega
     have HPl := Aa hpl; obtain ⟨wm, hrun, hmp, hgm⟩ := hi.mp.store_run (t := 114) Try.underlying114 (by unfold maxLen; omega) HKx.out (x := true) trivial; have hst1 : (Instr.mapUpdate 114 (.map (some w3.heap.size)) (.int .i64 x.1.1) (.bool true)).run Try.prog W = .ok () wm := hrun; have hIm := hi.store hmp hgm HS3.out; have HIm := Aa hIm; have HMp := Aa hmp; have HGm := Aa (KB.of (n₀ := W0.heap.size + 1) (P := fun k => k = w3.heap.size ∨ k = w3.heap.size + 1 + 1) hgm (fun r e => .inl (.inl (by injection e with e; exact e.symm))) HSz.out); have HFm := Aa (KeepsFrom.of_grownBy (B := (W0.alloc (.cells #[.slice A0 evs.length c0, .slice A1 gaps.length c1] 39)).heap.size) hgm (fun j e => by injection e with e; have h1 := HZ0.out; have h2 := HS1.out; omega)); have y1 := cell_at hIm.kb 0 (.map (some w3.heap.size)) rfl; have z0 := cell_at hIm.k39 0 (.slice A0 evs.length c0) rfl; have z1 := cell_at hIm.k39 1 (.slice A1 gaps.length c1) rfl; have HC := Aa (bind_calls A0 A1 c0 c1 evs gaps fs HFs.out (some w3.heap.size) (omF (upd st.1 x.1.1 true)) wm (Kd.C_below HC0.out (Bp HB3.out hIm.bel)) (Kd.C_below HC1.out (Bp HB3.out hIm.bel)) HOk.out.1 HOk.out.2.1 (fun W' hb k h0 h1 => (HMp.out.below hb).look_run (t := 114) Try.underlying114 (okI_of (by omega)) false)); clear hi hrun hmp hgm hIm hpl
     gi_wp2_with fail
     clear hst1 x1; refine ⟨trivial, ?_⟩; refine (CallsIn.inRound l (callsIn_wide.2 HC.out)).mono ?_; rintro e w5 ⟨rfl, hbd, hb⟩; rw [HBp.out] at hbd; have HB5 := Aa hb; have HT := Aa (tighten_calls _ wm.heap.size _ _ _ _ hbd (by omega)); clear hbd hb HC y1 z0 z1
     gi_wp2_with fail
     refine ⟨trivial, ?_⟩; refine (CallsIn.inRound l (callsIn_wide.2 HT.out)).mono ?_; rintro e w6 ⟨rfl, _, hb⟩; have hb6 := HB5.out.trans hb; have HI6 := Aa (HIm.out.below hb6); have HG6 := Aa (HGm.out.trans (KB.ofBelow hb6 (Nat.le_trans HSz.out HGm.out.size))); have HF6 := Aa (HFm.out.trans (keepsFrom_below hb6)); clear hb hb6 HT HB5 HIm HGm HFm HMp
     cases htt : (tightenF (bindP (omF (upd st.1 x.1.1 true)) (saidL evs gaps))).isSome with
     | false =>
      have hs : reasonS (saidL evs gaps) (pre ++ [x]) = (upd st.1 x.1.1 true, st.2) := by rw [HS.out]; unfold rstep; rw [if_neg (by rw [htt]; simp)]
      have HS2 := Aa hs; clear hs htt
      gi_wp2
      refine ⟨HF6.out, HG6.out, ⟨vl, ?_⟩, Nat.le_trans HSz.out HG6.out.size⟩; rw [HS2.out]; have hI := HI6.out
      exact ⟨hI.mp.mono (by simp; omega), hI.kb, hI.k40, hI.own, hI.k39, hI.bel, hI.sz⟩
     | true =>
      have hs : reasonS (saidL evs gaps) (pre ++ [x]) = (upd (upd st.1 x.1.1 true) x.1.1 false, st.2 ++ [x.1.1]) := by rw [HS.out]; unfold rstep; rw [if_pos htt]
      have HS2 := Aa hs; have hI := HI6.out; obtain ⟨wq, hrun, hmp, hgm⟩ := hI.mp.store_run (t := 114) Try.underlying114 (by unfold maxLen; have := HPl.out; omega) HKx.out (x := false) trivial; have hst2 : (Instr.mapUpdate 114 (.map (some w3.heap.size)) (.int .i64 x.1.1) (.bool false)).run Try.prog w6 = .ok () wq := hrun; have y1 := cell_at hI.kb 0 (.map (some w3.heap.size)) rfl; have hIq := hI.store hmp hgm HS3.out; have HIq := Aa hIq; have y2 := cell_at hIq.k40 0 vl rfl; have HGq := Aa (HG6.out.trans (KB.of (n₀ := W0.heap.size + 1) (P := fun k => k = w3.heap.size ∨ k = w3.heap.size + 1 + 1) hgm (fun r e => .inl (.inl (by injection e with e; exact e.symm))) (Nat.le_trans HSz.out HG6.out.size))); have HFq := Aa (HF6.out.trans (KeepsFrom.of_grownBy (B := (W0.alloc (.cells #[.slice A0 evs.length c0, .slice A1 gaps.length c1] 39)).heap.size) hgm (fun j e => by injection e with e; have h1 := HZ0.out; have h2 := HS1.out; omega))); clear hs htt hI hrun hmp hgm hIq HI6 HG6 HF6
      gi_wp2_with (gi_at_builtin; go_must (refine R_append_in (Kd.int .i64) (w0 := wq) (W := wq) (w3.heap.size + 4) rfl (.tmp 30) (.tmp 32) 40 3 (.int .i64 0) 8 rfl Try.underlying40 info3 rfl (by decide) (by decide) vl st.2 x.1.1 [.int .i64 x.1.1] (fun _ => True) (fun _ => False) rfl rfl rfl (fun _ hk => hk.elim) (fun _ _ => trivial) HIq.out.own (Below.refl _ _) (by have h1 := HSz.out; have h2 := HGq.out.size; have h3 := HZ0.out; omega) (by have := HRl.out; have := HPl.out; omega) ?_; intro v1 w9 ho hb hg hat; obtain ⟨A8, c8, hv8⟩ := Kd.R_slice ho; obtain ⟨n8, hn8⟩ : ∃ n8, (st.2 ++ [x.1.1]).length = n8 := ⟨_, rfl⟩; rw [hn8] at hv8; clear hn8; subst hv8; have HI9 := Aa (HIq.out.put hg ho HS3.out); have x49 := cell_at (HIq.out.kept40 hg) 0 vl rfl; have z49 := Bf (HIq.out.kept40 hg) 0; have HG9 := Aa hg; clear ho hb hat hg))
      have hgo : KeepsOthers wq w9 := KeepsOthers.of_grownBy HG9.out (fun j o e ho => by
       obtain ⟨_, _, _, q, hq, cells, hcell⟩ := (Kd.R_bound HIq.out.own).1 j e
       rw [hcell] at ho; cases ho; rfl)
      have hkb : KB (W0.heap.size + 1) (fun k => k = w3.heap.size ∨ k = w3.heap.size + 1 + 1) wq w9 := KB.of HG9.out (fun r e => .inr (by have h1 := (ri_lt HIq.out.own r e).1; have h3 := HZ0.out; omega)) (Nat.le_trans HSz.out HGq.out.size); have hsz9 : w9.heap.size = (w9.setCell ⟨w3.heap.size + 1 + 1, 0, none⟩ (.slice A8 n8 c8)).heap.size := (World.size_setCell _ _ _).symm
      have hks : KB (W0.heap.size + 1) (fun k => k = w3.heap.size ∨ k = w3.heap.size + 1 + 1) w9 (w9.setCell ⟨w3.heap.size + 1 + 1, 0, none⟩ (.slice A8 n8 c8)) := ⟨rfl, rfl, rfl, Nat.le_of_eq hsz9, fun k _ hk => Below.heap_setCell _ _ _ _ (fun e => hk (.inr e))⟩
      refine ⟨HFq.out.trans ((hgo.from _).trans ((KeepsOthers.setCell w9 ⟨w3.heap.size + 1 + 1, 0, none⟩ (.slice A8 n8 c8)).from _)), HGq.out.trans (hkb.trans hks), ⟨.slice A8 n8 c8, ?_⟩, Nat.le_trans HSz.out (HGq.out.trans (hkb.trans hks)).size⟩; rw [HS2.out]; have hI := HI9.out; exact ⟨hI.mp.mono (by simp; omega), hI.kb, hI.k40, hI.own, hI.k39, hI.bel, hI.sz⟩
    case done =>
     rintro D xs W hD rfl ⟨⟨vl, hi⟩, hsz⟩ hK; obtain ⟨A7, c7, hv7, hc7, hC7⟩ := Kd.R_reads hi.own; subst hv7; have x40 := cell_at hi.k40 0 (.slice A7 (reasonS (saidL evs gaps) xs).2.length c7) rfl; have HI := Aa hi; have HC7 := Aa hc7; have HC := Aa (clip81 A7 _ c7 hc7 W); clear hi hc7 hC7
     gi_wp2_with (refine ⟨trivial, ?_⟩; gi_at_call 79; refine (callsIn_wide.2 HC.out).mono ?_; rintro e w' ⟨rfl, rfl⟩)
     have hgp := grownBy_putObj' W D (.deferred none)
     have hD' : some D ≠ (Value.slice A7 (reasonS (saidL evs gaps) xs).2.length c7).ownBlock := fun e => by
      obtain ⟨_, _, _, q, hq, cells, hcell⟩ := (Kd.R_bound HI.out.own).1 D e.symm; rw [hcell] at hK; cases hK
     have hF := HI.out.others hgp (fun r e => by injection e with e; omega) (.inr (fun e => hD' e.symm)) hs3; refine ⟨by simp, .inl ⟨_, _, rfl, run_takeDeferred hK, ?_⟩⟩; refine ⟨_, results_tmp2 rfl _ _ _, _, rfl, ?_, Bp HB3.out hF.bel⟩; have hV := V_clip' (w := w) hF.own (by omega); rw [← HR1.out, ← HRp.out]; exact hV
    case stop =>
     rintro D c pre W hD _ hf hK; exact hf.elim
  ·rw [if_neg hok] at h; cases h
end Go.Proofs.Ytobcecgcegoooaa.Sk
namespace Go.Proofs.Ytobcecgcegoooaa.Sk
open Go.RowKit Go.Shelf Go.Proofs.YtobcecgcegoooaaW.PrintWords Go.Proofs.YtobcecgcegoooaaW.PrintLast Go.Proofs.YtobcecgcegoooaaW.PrintMore
attribute [local go_sem] Oper.semAt_some
set_option linter.unusedVariables false
set_option linter.unusedSimpArgs false
theorem values_calls (A : Option Addr) (n c : Nat) (w : World) : Calls Try.prog 116 #[.slice A n c] w fun e w' => e = .returned (.func (.func 133) #[] #[.pointer (some ⟨w.heap.size, 0, none⟩)]) ∧ w' = w.alloc (.cells #[.slice A n c] 40) := by
 go_enter Try.func116, Try.ntmps116
 go_wp2; go_ret; exact ⟨rfl, rfl⟩
set_option maxRecDepth 100000 in
set_option maxHeartbeats 2000000 in
theorem values1_stops (A0 : Option Addr) (c0 : Nat) (zs : List Int) (F : Fence) (n : Nat) (h1 : F.fn 133) (hro : F.round = none) (hn : 1 ≤ n) (Bs n₀ : Nat) (P : Nat → Prop) (w wb : World)
  (hBs : Bs < n₀) (hn₀ : n₀ ≤ w.heap.size) (hk : w.heap[Bs]? = some (.cells #[.slice A0 zs.length c0] 40 (0, 0))) (hwb : Below wb.heap.size wb w) (hwn : wb.heap.size ≤ n₀) (hbB : ∀ k, P k → wb.heap.size ≤ k) (hC0 : Kd.C (Kd.int .i64) wb A0 zs.length zs) (hm0 : zs.length ≤ 1000) :
  SeqStopsK F n Try.prog 133 #[.pointer (some ⟨Bs, 0, none⟩)] (fun x : Int => #[.int .i64 x]) (KB n₀ P) (fun ys => ys = zs) (fun pre => True) zs.length w := fun l J Jx W hW hJ hJx hY h0 => by
 refine callsIn_of_wp Try.func133 rfl h1 ?_ hro; simp only [Try.ntmps133, List.size_toArray, List.length_cons, List.length_nil, Nat.reduceAdd, Nat.reduceSub, Array.replicate_succ, Array.replicate_zero, List.push_toArray, List.append_toArray, List.nil_append, List.cons_append]; have hkW : W.heap[Bs]? = some (.cells #[.slice A0 zs.length c0] 40 (0, 0)) := blk_below hk hW; have x0 := cell_at hkW 0 (.slice A0 zs.length c0) rfl; have HW := Aa hW; have HJ := Aa hJ; have HJx := Aa hJx; have HY := Aa hY; clear hW hJ hJx hY hkW
 gi_wp2
 gi_loopw [7] (fun v7 wr => ∃ i : Nat, i ≤ zs.length ∧ v7 = .int .i64 (i : Int) ∧ Aside0 (J (zs.take i) wr) ∧ Aside0 (KB n₀ P W wr)) (fun v _ => zs.length - (intOf v).toNat)
 case atStart => exact ⟨0, Nat.zero_le _, rfl, ⟨h0⟩, ⟨KB.refl _ _ _⟩⟩
 case round =>
  obtain ⟨i, hi, rfl, HJi, HBi⟩ := hrel
  by_cases hlt : (i : Int) < zs.length
  ·have hBr : KB n₀ P W wr := HBi.out; have hT : Below wb.heap.size wb wr := (hwb.trans (below_weak HW.out hwb.size)).trans (hBr.toBelow hbB hwn); obtain ⟨ad, e1, hy0⟩ := Kd.at_int (Kd.C_below hC0 hT) (i : Int) (by omega) hlt; cases e1; rw [Int.toNat_natCast] at hy0
   have hil : i < zs.length := by omega
   have hst : zs.take (i + 1) = zs.take i ++ [zs[i]] := List.take_succ_eq_append_getElem hil
   have er : rd zs (i : Int) = zs[i] := by simp [rd, List.getD_eq_getElem?_getD, hil]
   rw [er] at hy0
   obtain ⟨s, hs⟩ : ∃ s, zs[i] = s := ⟨_, rfl⟩
   rw [hs] at hy0 hst; have hJa : J (zs.take i) wr := HJi.out; obtain ⟨fn, tmps, assign, body, hy, hR⟩ := HY.out (zs.take i) s _ hJa (by rw [List.length_take]; omega); have HBa := Aa hBr; have HSt := Aa hst; clear hs er hJa hst hT hBr
   gi_wp2
   clear HJi HBi hy0; refine hR.mono ?_; rintro e W3 (⟨rfl, hJ3, hk3⟩ | ⟨rfl, hJx3⟩)
   ·have HJ3 := Aa hJ3; have HB3 := Aa (HBa.out.trans hk3); clear hJ3 hk3
    gi_wp2
    go_roundw
    case rel => exact ⟨i + 1, by omega, by simp, ⟨by rw [HSt.out]; exact HJ3.out⟩, HB3⟩
    case measure => simp [intOf]; omega
   ·gi_wp2
    refine bodyPost_ret (results_none rfl _ _ _) rfl ?_; exact ⟨⟨_, rfl⟩, .inr ⟨_, trivial, hJx3⟩⟩
  ·obtain rfl : i = zs.length := by omega
   have hJr : J (zs.take zs.length) wr := HJi.out; rw [List.take_length] at hJr
   gi_wp2
   go_end0
   first | exact ⟨⟨_, rfl⟩, .inl hJr⟩ | exact ⟨⟨_, rfl⟩, .inl ⟨_, rfl, hJr⟩⟩
structure SI (w W : World) (B : Nat) (vl : Value) (rs : List Int) : Prop where
 k40 : W.heap[B]? = some (.cells #[vl] 40 (0, 0))
 own : Kd.R (Kd.int .i64) 3 W (B + 1) (fun _ => True) vl rs
 bel : Below B w W
 sz : B + 1 ≤ W.heap.size
theorem SI.others {w W W' : World} {B : Nat} {vl : Value} {rs : List Int} (h : SI w W B vl rs) {row : Option Nat} (hg : W.grownBy W' row) (hr : ∀ r, row = some r → B + 1 ≤ r) (hn : vl.ownBlock = none ∨ vl.ownBlock ≠ row) : SI w W' B vl rs :=
 ⟨blk_grown h.k40 hg (fun e => by have := hr _ e.symm; omega), ri_grown h.own hg hn, below_grown h.bel hg (by have := h.sz; omega) (fun r e => by have := hr r e; omega), Nat.le_trans h.sz hg.size⟩
theorem SI.kept40 {w W w1 : World} {B : Nat} {vl : Value} {rs : List Int} (h : SI w W B vl rs) (hg : W.grownBy w1 vl.ownBlock) : w1.heap[B]? = some (.cells #[vl] 40 (0, 0)) :=
 (hg.block B (by have := h.sz; omega) (fun e => by have := (ri_lt h.own _ e.symm).1; omega)).trans h.k40
theorem SI.put {w W w1 : World} {B : Nat} {vl v1 : Value} {rs l1 : List Int} (h : SI w W B vl rs) (hg : W.grownBy w1 vl.ownBlock) (ho : Kd.R (Kd.int .i64) 3 w1 (B + 1) (fun _ => True) v1 l1) : SI w (w1.setCell ⟨B, 0, none⟩ v1) B v1 l1 := by
 have hz := h.sz; have hb : Below B w w1 := below_grown h.bel hg (by omega) (fun r e => by have := (ri_lt h.own r e).1; omega); exact ⟨blk_set1 (h.kept40 hg) _, ri_step ho (fun k hk => Below.heap_setCell _ _ _ _ (by have := (ri_lt ho k hk).1; show k ≠ B; omega)), hb.setCell (show B ≤ B by omega) _, (by rw [World.size_setCell]; exact Nat.le_trans hz hg.size)⟩
set_option maxRecDepth 100000 in
set_option maxHeartbeats 4000000 in
theorem appSeq_calls (A0 : Option Addr) (c0 : Nat) (zs : List Int) (Bs : Nat) (w : World) (hC : Kd.C (Kd.int .i64) w A0 zs.length zs) (hBs : Bs < w.heap.size) (hk : w.heap[Bs]? = some (.cells #[.slice A0 zs.length c0] 40 (0, 0))) (hz : zs.length ≤ 1000) :
  Calls Try.prog 136 #[.slice none 0 0, .func (.func 133) #[] #[.pointer (some ⟨Bs, 0, none⟩)]] w fun e w' => ∃ v, e = .returned v ∧ Kd.R (Kd.int .i64) 3 w' (w.heap.size + 1) (fun _ => True) v zs ∧ Below w.heap.size w w' := by
 refine (callsIn_wide (n := 10)).1 ?_; refine callsIn_of_wp_marks Try.func136 rfl trivial ?_ rfl; simp only [Try.ntmps136, List.size_toArray, List.length_cons, List.length_nil, Nat.reduceAdd, Nat.reduceSub, Array.replicate_succ, Array.replicate_zero, List.push_toArray, List.append_toArray, List.nil_append, List.cons_append]; have HZ := Aa hz
 have hI0 : SI w (w.alloc (.cells #[.slice none 0 0] 40)) w.heap.size (.slice none 0 0) [] := ⟨blk_new w _, Kd.R_nil _ _ _ _ _, Ba (Below.refl _ _) _, by rw [World.size_alloc]; omega⟩
 have hstops := values1_stops A0 c0 zs Fence.wide 9 trivial rfl (by omega) Bs (w.heap.size + 1) (fun k => k = w.heap.size) (w.alloc (.cells #[.slice none 0 0] 40)) w (by omega) (by rw [World.size_alloc]; omega) (Ka hk _) (Ba (Below.refl _ _) _) (by omega) (fun k hk => by omega) hC hz; have hs1 : (w.alloc (.cells #[.slice none 0 0] 40)).heap.size = w.heap.size + 1 := World.size_alloc _ _; have HS1 := Aa hs1
 gi_wp2
 refine wpIn_rangeFunc_ownH rfl (by omega) (gf := 133) (lb := #[.pointer (some ⟨Bs, 0, none⟩)]) rfl trivial (enters_of Try.func133 (by kernel_rfl) rfl) hstops (fun h k => KB.trans h k)
  (fun W l o o' hl ho _ _ => by have hgp := grownBy_putObj' W l o'; exact ⟨hgp.os, hgp.tape, hgp.output, hgp.size, fun k hk _ => hgp.block k (by have := blk_lt ho; omega) (fun e => by injection e with e; omega)⟩) (Below.refl _ _) (fun _ => rfl)
  (fun pre W => (∃ vl, SI w W w.heap.size vl pre) ∧ w.heap.size + 1 ≤ W.heap.size) (fun _ _ _ => False)
  (fun pre X Y row hs hg hr => ?own) (fun _ _ _ _ _ hs _ _ => hs) ⟨⟨_, hI0⟩, by omega⟩
  (fun x a' W => a' = { tmps := #[.slice none 0 0, .func (.func 133) #[] #[.pointer (some ⟨Bs, 0, none⟩)], .pointer (some ⟨w.heap.size, 0, none⟩), undef, .slice none 0 0, .int .i64 x, .func (.func 133) #[] #[.pointer (some ⟨Bs, 0, none⟩)], .int .i64 x, undef, undef, undef, undef, undef], defers := [] })
  (fun x a' _ X Y row hs hg hr => hs) ?assign ?body ?done ?stop
 case own =>
  obtain ⟨⟨vl, hi⟩, hsz⟩ := hs; refine ⟨⟨vl, hi.others hg (fun r e => by have := (hr r e).1; omega) ?_⟩, Nat.le_trans hsz hg.size⟩
  by_cases hn : vl.ownBlock = none
  ·exact .inl hn
  ·refine .inr (fun e => ?_); obtain ⟨k, hk⟩ : ∃ k, vl.ownBlock = some k := Option.ne_none_iff_exists'.mp hn; obtain ⟨_, o, ho, hc⟩ := hr k (e.symm.trans hk); obtain ⟨_, _, _, q, hq, cells, hcell⟩ := (Kd.R_bound hi.own).1 k hk; rw [hcell] at ho; cases ho; cases hc
 case assign =>
  rintro l pre x W K ⟨hi, hsz⟩ hK; clear hs1
  gi_wp2
  exact hK _ _ (KeepsFrom.refl _ _) (KB.refl _ _ W) ⟨hi, hsz⟩ rfl
 case body =>
  rintro l pre x a' W hl hr ⟨⟨vl, hi⟩, hsz⟩ rfl hlt; have HSz := Aa hsz; have HLt := Aa hlt; have HI := Aa hi; have y2 := cell_at hi.k40 0 vl rfl; clear hs1 hstops hI0 hsz hl hr hlt hi
  gi_wp2_with (gi_at_builtin; go_must (refine R_append_in (Kd.int .i64) (w0 := W) (W := W) (w.heap.size + 1) rfl (.tmp 8) (.tmp 10) 40 3 (.int .i64 0) 8 rfl Try.underlying40 info3 rfl (by decide) (by decide) vl pre x [.int .i64 x] (fun _ => True) (fun _ => False) rfl rfl rfl (fun _ hk => hk.elim) (fun _ _ => trivial) HI.out.own (Below.refl _ _) HSz.out (by have := HLt.out; have := HZ.out; omega) ?_; intro v1 w9 ho hb hg hat; obtain ⟨A8, c8, hv8⟩ := Kd.R_slice ho; obtain ⟨n8, hn8⟩ : ∃ n8, (pre ++ [x]).length = n8 := ⟨_, rfl⟩; rw [hn8] at hv8; clear hn8; subst hv8; have HI9 := Aa (HI.out.put hg ho); have x49 := cell_at (HI.out.kept40 hg) 0 vl rfl; have z49 := Bf (HI.out.kept40 hg) 0; have HG9 := Aa hg; clear ho hb hat hg))
  have hgo : KeepsOthers W w9 := KeepsOthers.of_grownBy HG9.out (fun j o e ho => by
   obtain ⟨_, _, _, q, hq, cells, hcell⟩ := (Kd.R_bound HI.out.own).1 j e
   rw [hcell] at ho; cases ho; rfl)
  have hkb : KB (w.heap.size + 1) (fun k => k = w.heap.size) W w9 := KB.of HG9.out (fun r e => .inr (by have h1 := (ri_lt HI.out.own r e).1; omega)) HSz.out; have hsz9 : w9.heap.size = (w9.setCell ⟨w.heap.size, 0, none⟩ (.slice A8 n8 c8)).heap.size := (World.size_setCell _ _ _).symm
  have hks : KB (w.heap.size + 1) (fun k => k = w.heap.size) w9 (w9.setCell ⟨w.heap.size, 0, none⟩ (.slice A8 n8 c8)) := ⟨rfl, rfl, rfl, Nat.le_of_eq hsz9, fun k _ hk => Below.heap_setCell _ _ _ _ (fun e => hk e)⟩
  exact ⟨(hgo.from _).trans ((KeepsOthers.setCell w9 ⟨w.heap.size, 0, none⟩ (.slice A8 n8 c8)).from _), hkb.trans hks, ⟨_, HI9.out⟩, HI9.out.sz⟩
 case done =>
  rintro D xs W hD rfl ⟨⟨vl, hi⟩, hsz⟩ hK; have x40 := cell_at hi.k40 0 vl rfl; have HI := Aa hi; clear hi
  gi_wp2
  have hgp := grownBy_putObj' W D (.deferred none)
  have hD' : some D ≠ vl.ownBlock := fun e => by
   obtain ⟨_, _, _, q, hq, cells, hcell⟩ := (Kd.R_bound HI.out.own).1 D e.symm; rw [hcell] at hK; cases hK
  have hF := HI.out.others hgp (fun r e => by injection e with e; omega) (.inr (fun e => hD' e.symm)); refine ⟨by simp, .inl ⟨_, _, rfl, run_takeDeferred hK, ?_⟩⟩; exact ⟨_, results_tmp rfl _ _ _, vl, rfl, hF.own, hF.bel⟩
 case stop =>
  rintro D c pre W hD _ hf hK; exact hf.elim
end Go.Proofs.Ytobcecgcegoooaa.Sk
namespace Go.Proofs
open Go.Shelf
def Try.lays189_ren : Go.Shelf.Ren := ⟨fun | 189 => 132 | 125 => 138 | 257 => 137 | 128 => 148 | 129 => 149 | 294 => 139 | 295 => 140 | 296 => 141 | 297 => 142 | 298 => 143 | 299 => 144 | 216 => 145 | 300 => 146 | 301 => 147 | 328 => 150 | 329 => 151 | 330 => 152 | 331 => 153 | 332 => 154 | 215 => 155 | 343 => 156 | n => n, fun | 28 => 40 | 3 => 3 | 46 => 162 | 0 => 0 | 51 => 183 | 53 => 121 | 4 => 4 | 183 => 177 | 182 => 176 | 131 => 131 | 5 => 5 | 9 => 9 | 218 => 184 | 222 => 188 | 228 => 190 | 229 => 191 | n => n, fun | n => n⟩
theorem Try.lays189 : Go.Proofs.Lays.n189 Try.prog Try.lays189_ren := {
 mixed := by kernel_rfl
 f125 := Try.func138.trans (congrArg some (by kernel_rfl))
 f128 := Try.func148.trans (congrArg some (by kernel_rfl))
 f129 := Try.func149.trans (congrArg some (by kernel_rfl))
 f189 := Try.func132.trans (congrArg some (by kernel_rfl))
 f215 := Try.func155.trans (congrArg some (by kernel_rfl))
 f216 := Try.func145.trans (congrArg some (by kernel_rfl))
 f257 := Try.func137.trans (congrArg some (by kernel_rfl))
 f294 := Try.func139.trans (congrArg some (by kernel_rfl))
 f295 := Try.func140.trans (congrArg some (by kernel_rfl))
 f296 := Try.func141.trans (congrArg some (by kernel_rfl))
 f297 := Try.func142.trans (congrArg some (by kernel_rfl))
 f298 := Try.func143.trans (congrArg some (by kernel_rfl))
 f299 := Try.func144.trans (congrArg some (by kernel_rfl))
 f300 := Try.func146.trans (congrArg some (by kernel_rfl))
 f301 := Try.func147.trans (congrArg some (by kernel_rfl))
 f328 := Try.func150.trans (congrArg some (by kernel_rfl))
 f329 := Try.func151.trans (congrArg some (by kernel_rfl))
 f330 := Try.func152.trans (congrArg some (by kernel_rfl))
 f331 := Try.func153.trans (congrArg some (by kernel_rfl))
 f332 := Try.func154.trans (congrArg some (by kernel_rfl))
 f343 := Try.func156.trans (congrArg some (by kernel_rfl))
 t0 := Try.underlying0
 a0 := Try.isAgg0
 z0 := Try.sizeOf0
 v0 := Try.zeroValue0
 t3 := Try.underlying3
 a3 := Try.isAgg3
 z3 := Try.sizeOf3
 v3 := Try.zeroValue3
 t4 := Try.underlying4
 a4 := Try.isAgg4
 z4 := Try.sizeOf4
 v4 := Try.zeroValue4
 t5 := Try.underlying5
 a5 := Try.isAgg5
 z5 := Try.sizeOf5
 v5 := Try.zeroValue5
 t9 := Try.underlying9
 a9 := Try.isAgg9
 z9 := Try.sizeOf9
 v9 := Try.zeroValue9
 t28 := Try.underlying40
 a28 := Try.isAgg40
 z28 := Try.sizeOf40
 v28 := Try.zeroValue40
 t46 := Try.underlying162
 a46 := Try.isAgg162
 z46 := Try.sizeOf162
 v46 := Try.zeroValue162
 t51 := Try.underlying183
 a51 := Try.isAgg183
 z51 := Try.sizeOf183
 v51 := Try.zeroValue183
 t53 := Try.underlying121
 a53 := Try.isAgg121
 z53 := Try.sizeOf121
 v53 := Try.zeroValue121
 t131 := Try.underlying131
 a131 := Try.isAgg131
 z131 := Try.sizeOf131
 v131 := Try.zeroValue131
 t182 := Try.underlying176
 a182 := Try.isAgg176
 z182 := Try.sizeOf176
 v182 := Try.zeroValue176
 t183 := Try.underlying177
 a183 := Try.isAgg177
 z183 := Try.sizeOf177
 v183 := Try.zeroValue177
 t218 := Try.underlying184
 a218 := Try.isAgg184
 z218 := Try.sizeOf184
 v218 := Try.zeroValue184
 t222 := Try.underlying188
 a222 := Try.isAgg188
 z222 := Try.sizeOf188
 v222 := Try.zeroValue188
 t228 := Try.underlying190
 a228 := Try.isAgg190
 z228 := Try.sizeOf190
 v228 := Try.zeroValue190
 t229 := Try.underlying191
 a229 := Try.isAgg191
 z229 := Try.sizeOf191
 v229 := Try.zeroValue191 }
def Try.lays2_21_ren : Go.Shelf.Ren := ⟨fun | 21 => 61 | 27 => 113 | 28 => 114 | 35 => 130 | 39 => 135 | n => n, fun | 22 => 40 | 3 => 3 | 4 => 4 | 0 => 0 | n => n, fun | n => n⟩
theorem Try.lays2_21 : Go.Proofs.Lays2.n21 Try.prog Try.lays2_21_ren := {
 mixed := by kernel_rfl
 f21 := Try.func61.trans (congrArg some (by kernel_rfl))
 f27 := Try.func113.trans (congrArg some (by kernel_rfl))
 f28 := Try.func114.trans (congrArg some (by kernel_rfl))
 f35 := Try.func130.trans (congrArg some (by kernel_rfl))
 f39 := Try.func135.trans (congrArg some (by kernel_rfl))
 t0 := Try.underlying0
 a0 := Try.isAgg0
 z0 := Try.sizeOf0
 v0 := Try.zeroValue0
 t3 := Try.underlying3
 a3 := Try.isAgg3
 z3 := Try.sizeOf3
 v3 := Try.zeroValue3
 t4 := Try.underlying4
 a4 := Try.isAgg4
 z4 := Try.sizeOf4
 v4 := Try.zeroValue4
 t22 := Try.underlying40
 a22 := Try.isAgg40
 z22 := Try.sizeOf40
 v22 := Try.zeroValue40
 i3 := by kernel_rfl }
end Go.Proofs
namespace Go.Proofs.Ytobcecgcegoooaa.Sk
open Go.RowKit Go.Shelf Go.Sort Go.Maps Go.Proofs.YtobcecgcegoooaaW.PrintWords Go.Proofs.YtobcecgcegoooaaW.PrintLast Go.Proofs.YtobcecgcegoooaaW.PrintMore
set_option linter.unusedVariables false
set_option linter.unusedSimpArgs false
set_option maxHeartbeats 1000000 in
theorem collect_calls (A0 : Option Addr) (c0 : Nat) (zs : List Int) (Bs : Nat) (w : World) (hC : Kd.C (Kd.int .i64) w A0 zs.length zs) (hBs : Bs < w.heap.size) (hk : w.heap[Bs]? = some (.cells #[.slice A0 zs.length c0] 40 (0, 0))) (hz : zs.length ≤ 1000) :
  Calls Try.prog 131 #[.func (.func 133) #[] #[.pointer (some ⟨Bs, 0, none⟩)]] w fun e w' => ∃ v, e = .returned v ∧ Kd.R (Kd.int .i64) 3 w' (w.heap.size + 1) (fun _ => True) v zs ∧ Below w.heap.size w w' := by
 have HA := Aa (appSeq_calls A0 c0 zs Bs w hC hBs hk hz); clear hC hk
 go_enter Try.func131, Try.ntmps131
 go_wp2_with (go_at_call 136; refine HA.out.mono ?_; rintro e w' ⟨v, rfl, hR, hb⟩; have HR := Aa hR; have HB := Aa hb; clear hR hb)
 go_ret; exact ⟨_, rfl, HR.out, HB.out⟩
def srt (l : List Int) : List Int := l.mergeSort fun x y => decide (x ≤ y)
theorem srt_len (l : List Int) : (srt l).length = l.length := List.length_mergeSort l
set_option maxHeartbeats 1000000 in
theorem sorted_calls (A0 : Option Addr) (c0 : Nat) (zs : List Int) (Bs : Nat) (w : World) (hC : Kd.C (Kd.int .i64) w A0 zs.length zs) (hBs : Bs < w.heap.size) (hk : w.heap[Bs]? = some (.cells #[.slice A0 zs.length c0] 40 (0, 0))) (hz : zs.length ≤ 1000) :
  Calls Try.prog 115 #[.func (.func 133) #[] #[.pointer (some ⟨Bs, 0, none⟩)]] w fun e w' => ∃ A c, e = .returned (.slice A zs.length c) ∧ Kd.C (Kd.int .i64) w' A zs.length (srt zs) ∧ Below w.heap.size w w' := by
 have HA := Aa (collect_calls A0 c0 zs Bs w hC hBs hk hz); clear hC hk
 go_enter Try.func115, Try.ntmps115
 go_wp2_with fail
 refine HA.out.mono ?_; rintro e w1 ⟨v, rfl, hR, hb⟩; have HB := Aa hb; have hown := Kd.own_of_R (enc := Value.int .i64) (h1 := fun _ => rfl) hR; obtain ⟨hl, ⟨rfl, hn⟩ | ⟨g, cap, cur, rfl, hbg, hh, hcap, hmax, hsz, htk⟩⟩ := hown
 ·have hzs : zs = [] := List.length_eq_zero_iff.mp hn; subst hzs; clear hb hR
  go_wp2_with (go_at_call 132; refine (Any.slices_Sort_int_none Try.lays189 none 0 w1).mono ?_; rintro e w2 ⟨rfl, rfl⟩)
  go_ret; obtain ⟨A, c, hv, hc, hC⟩ := Kd.R_reads (Kd.R_nil (Kd.int .i64) 3 w2 0 (fun _ => True)); have hs : srt [] = [] := List.mergeSort_nil; rw [hs]; exact ⟨A, c, by rw [← hv]; rfl, hC, HB.out⟩
 ·rw [Nat.mul_one] at hsz htk; have hH : Holds (Value.int .i64) w1 g 0 zs.toArray := holds_of_block_i hh htk; have hgl : g < w1.heap.size := blk_lt hh; have HS := Aa (Any.slices_Sort_int Try.lays189 g 0 cap zs w1 hH hgl (by omega)); have HBg := Aa hbg; have HH := Aa hh; have HCap := Aa hcap; have HMax := Aa hmax; have HSz := Aa hsz; clear hb hR hH hgl hbg hh hcap hmax hsz htk
  go_wp2_with fail
  refine HS.out.mono ?_; rintro e w2 ⟨rfl, q, os, rfl⟩; clear HS; go_wp2; go_ret; have hown2 := ownsRow_sorted_i (n := q) (os := os) (ts := srt zs) (srt_len zs) HBg.out HH.out HCap.out HMax.out (by have := HSz.out; omega); have hR2 := Kd.R_of_own (enc := Value.int .i64) (h1 := fun _ => rfl) (xs := srt zs) (ok := fun _ => True) (by rw [srt_len]; exact hown2) (fun _ _ => trivial); obtain ⟨A, c, hv, hc, hC⟩ := Kd.R_reads hR2; rw [srt_len] at hv hC; refine ⟨A, c, hv ▸ rfl, hC, HB.out.grown (grownBy_sorted_i _) HB.out.size (fun r e => by cases e; have := HBg.out; omega)⟩
end Go.Proofs.Ytobcecgcegoooaa.Sk
namespace Go.Proofs.Ytobcecgcegoooaa.Sk
open Go.RowKit Go.Proofs.YtobcecgcegoooaaW.PrintWords Go.Proofs.YtobcecgcegoooaaW.PrintLast Go.Proofs.YtobcecgcegoooaaW.PrintMore
set_option linter.unusedVariables false
set_option linter.unusedSimpArgs false
theorem within_calls (a b c : Int) (r : Bool) (h : decide (a ≥ b ∧ a ≤ c) = r) (w : World) : Calls Try.prog 68 #[.int .i64 a, .int .i64 b, .int .i64 c] w fun e w' => e = .returned (.bool r) ∧ Below w.heap.size w w' := by
 refine (skew_within.calls a b c r w ?_).mono fun e w' ⟨h1, h2⟩ => ⟨h1, h2.below⟩
 unfold skew_within.f; subst h
 by_cases h1 : a ≥ b
 ·rw [if_pos h1]; simp [h1]
 ·rw [if_neg h1]; simp [h1]
end Go.Proofs.Ytobcecgcegoooaa.Sk
