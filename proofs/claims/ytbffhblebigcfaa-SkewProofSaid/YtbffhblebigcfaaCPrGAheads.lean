/- The walk of skew.aheads: for each deed, those that are ahead of it. -/
import Derived.StillTailTactics
import Derived.OpenShut
import Derived.Test.YtbffhblebigcfaaCPrGBefores
namespace Go.Proofs.Ytbffhblebigcfaa.Sk
open Go.RowKit Go.Proofs.YtbffhblebigcfaaW.PrintWords Go.Proofs.YtbffhblebigcfaaW.PrintLast Go.Proofs.YtbffhblebigcfaaW.PrintMore
set_option linter.unusedVariables false
set_option linter.unusedSimpArgs false
def ahVal (f : Int → Option Int) (i k : Int) : Int := bits .or .u64 ((f i).getD 0) (bits .or .u64 ((f k).getD 0) (IntKind.u64.wrap (2 ^ k.toNat)))
def ahStep (f : Int → Option Int) (i k : Int) : Int → Option Int := if 0 ≤ k then upd f i (ahVal f i k) else f
def aheadsGo : List Int → List S71 → Int → (Int → Option Int) → (Int → Option Int)
 | b :: bs, d :: l, i, f => aheadsGo bs l (i + 1) (ahStep (ahStep f i b) i d.f2)
 | _, _, _, f => f
def aheadsF (bs : List Int) (l : List S71) : Int → Option Int := aheadsGo bs l 0 (fun _ => none)
theorem ahVal_wf (f : Int → Option Int) (i k : Int) : (Lit.int .u64 (ahVal f i k)).wf = true := by
 unfold ahVal; exact wf_bits _ _ _ _
def ahK (f : Int → Option Int) (i b d j : Int) : Int → Option Int := if j = 0 then f else if j = 1 then ahStep f i b else ahStep (ahStep f i b) i d
theorem drop_rdI (l : List Int) (i : Int) (h0 : 0 ≤ i) (h1 : i < l.length) : l.drop i.toNat = rd l i :: l.drop (i + 1).toNat := by
 have hl : i.toNat < l.length := by omega
 have e : (i + 1).toNat = i.toNat + 1 := by omega
 have er : rd l i = l[i.toNat] := by simp [rd, List.getD_eq_getElem?_getD, hl]
 rw [List.drop_eq_getElem_cons hl, e, er]
theorem rdI_mem (l : List Int) (i : Int) (h0 : 0 ≤ i) (h1 : i < l.length) : rd l i ∈ l := by
 have hl : i.toNat < l.length := by omega
 have er : rd l i = l[i.toNat] := by simp [rd, List.getD_eq_getElem?_getD, hl]
 rw [er]; exact List.getElem_mem hl
set_option maxHeartbeats 4000000 in
set_option maxRecDepth 100000 in
theorem aheads_calls (A0 : Option Addr) (c0 : Nat) (l0 : List S71) (bs : List Int) (w : World) (hr0 : Kd.C k71 w A0 l0.length l0) (hc0 : l0.length ≤ c0) (hl : l0.length ≤ 40) (hb : skew_befores.f l0 = some bs)
  (hbl : bs.length = l0.length) (hbr : ∀ b ∈ bs, b < 40) (hlr : ∀ d ∈ l0, d.f2 < 40) :
  Calls Try.prog 88 #[.slice A0 l0.length c0] w fun e w' => e = .returned (.map (some w.heap.size)) ∧ MapIs elS w' w.heap.size 100 (aheadsF bs l0) ∧ Below w.heap.size w w' := by
 have hu71 := Try.underlying71
 have hmm := @run_makeMap Try.prog
 have HR0 := Aa hr0
 have HC := Aa (skew_befores.calls A0 c0 l0 bs (w.alloc (.map #[] 0)) (Kd.C_alloc hr0 _) hc0 hb)
 have HBL := Aa hbl
 have HBR := Aa hbr
 have HLR := Aa hlr
 have HM := Aa (MapIs.made (E := elS) w)
 clear hr0 hb hbl hbr hlr
 go_enter Try.func88, Try.ntmps88
 go_wp2_with (go_at_call 122; refine HC.out.mono ?_; rintro e w1 ⟨v, rfl, ho, hb⟩; obtain ⟨A, c, rfl, hcc, hC⟩ := Kd.R_reads ho; have HM1 := Aa (HM.out.below hb); have HB1 := Aa (below_step (below_alloc (Below.refl _ _) _) hb); have HCs := Aa (Kd.R_mono (ok' := fun k => k ≠ w.heap.size) (Kd.R_bound ho) (fun k hk => by have h1 := hk.2.1; rw [World.size_alloc] at h1; exact Nat.ne_of_gt h1)); clear HC HM ho hb hcc hC)
 go_loopw [12] (fun v12 W => ∃ (i : Int) (f : Int → Option Int), 0 ≤ i ∧ i ≤ bs.length ∧ v12 = .int .i64 i ∧ Aside0 (aheadsGo (bs.drop i.toNat) (l0.drop i.toNat) i f = aheadsF bs l0) ∧ Aside0 (MapIs elS W w.heap.size (2 * i).toNat f) ∧ Aside0 (Below w.heap.size w W) ∧ Aside0 (Kd.R (Kd.int .i64) 3 W (w.alloc (.map #[] 0)).heap.size (fun k => k ≠ w.heap.size) (.slice A bs.length c) bs)) (fun v _ => bs.length - (intOf v).toNat)
 case atStart => exact ⟨0, fun _ => none, by omega, by omega, rfl, ⟨rfl⟩, HM1, HB1, HCs⟩
 case round =>
  clear HM1 HB1 HCs
  obtain ⟨i, f, h0, hk, rfl, HA, HM, HB, HCs⟩ := hrel
  by_cases hlt : i < bs.length
  ·have hlt2 : i < l0.length := by have := HBL.out; omega
   obtain ⟨ad, e1, hx0⟩ := Kd.at_int (Kd.R_reads' HCs.out).2.2 i h0 hlt
   cases e1
   obtain ⟨ad2, e217, hy0, hy1, hy2⟩ := at_T71 (Kd.C_below HR0.out HB.out) i h0 hlt2
   cases e217
   have hA := HA.out
   rw [drop_rdI bs i h0 hlt, drop_rd71 l0 i h0 hlt2] at hA
   have hbr := HBR.out _ (rdI_mem bs i h0 hlt)
   have hlr := HLR.out _ (rd71_mem l0 i h0 hlt2)
   clear HA
   obtain ⟨b, hb⟩ : ∃ b, rd bs i = b := ⟨_, rfl⟩
   obtain ⟨x, hx⟩ : ∃ x, rd_T71 l0 i = x := ⟨_, rfl⟩
   rw [hb] at hx0 hA hbr
   rw [hx] at hy0 hy1 hy2 hA hlr
   clear hb hx
   obtain ⟨x0, x1, d⟩ := x
   simp only at hy0 hy1 hy2 hlr
   simp only [aheadsGo] at hA
   have HA := Aa hA
   clear hA
   have HS := Aa (blk_new wr (.cells #[.int .i64 b, .int .i64 d] 3))
   have HM2 := Aa (HM.out.alloc (.cells #[.int .i64 b, .int .i64 d] 3))
   have HB2 := Aa (below_alloc HB.out (.cells #[.int .i64 b, .int .i64 d] 3))
   have HC2 := Aa (Kd.R_alloc HCs.out (.cells #[.int .i64 b, .int .i64 d] 3))
   have HZ := Aa HB.out.size
   have HL := Aa HM.out.lt
   go_wp2_with fail
   obtain ⟨wo, rfl⟩ : ∃ wo : World, wo = wr := ⟨_, rfl⟩
   go_loopw [25, 7] (fun v25 _ W => ∃ (j : Int), 0 ≤ j ∧ j ≤ 2 ∧ v25 = .int .i64 j ∧ Aside0 (MapIs elS W w.heap.size (2 * i + j).toNat (ahK f i b d j)) ∧ Aside0 (W.heap[wo.heap.size]? = some (.cells #[.int .i64 b, .int .i64 d] 3)) ∧ Aside0 (Below w.heap.size w W) ∧ Aside0 (Kd.R (Kd.int .i64) 3 W (w.alloc (.map #[] 0)).heap.size (fun k => k ≠ w.heap.size) (.slice (some ad) bs.length c) bs) ∧ Aside0 (w.heap.size < wo.heap.size)) (fun v _ _ => 2 - (intOf v).toNat)
   case atStart => exact ⟨0, by omega, by omega, rfl, ⟨by rw [Int.add_zero]; exact HM2.out⟩, HS, HB2, HC2, ⟨HL.out⟩⟩
   case round =>
    clear HS HM2 HB2 HC2 HZ HL HM HB HCs
    obtain ⟨j, j0, j2, rfl, HM3, HS3, HB3, HC3, HZ3⟩ := hrel
    obtain rfl | rfl | rfl : j = 0 ∨ j = 1 ∨ j = 2 := by omega
    ·
     have hfe : ahK f i b d 0 = f := rfl
     rw [hfe] at HM3
     have HSc := Aa (cell_at HS3.out 0 (.int .i64 b) rfl)
     have es := HSc.out
     clear hfe HSc
     by_cases hge : 0 ≤ b
     ·have hst : ahK f i b d 1 = upd f i (ahVal f i b) := by simp [ahK, ahStep, hge]
      have HSt := Aa hst
      clear hst
      go_wp2_with fail
      have hk1 : (Instr.lookup 122 (.map (some w.heap.size)) (.int .i64 i) false).run Try.prog wr.drew = .ok (.int .u64 ((f i).getD 0)) wr.drew := HM3.out.drew.look_run (t := 122) Try.underlying122 (m := i) (okI_of (by omega)) false
      have hk2 : (Instr.lookup 122 (.map (some w.heap.size)) (.int .i64 b) false).run Try.prog wr.drew = .ok (.int .u64 ((f b).getD 0)) wr.drew := HM3.out.drew.look_run (t := 122) Try.underlying122 (m := b) (okI_of (by omega)) false
      go_still_tail 10, (by kernel_rfl)
      (show wpList _ _ _ _ _ wr.drew)
      refine wpList_mapIs_store (E := elS) _ rfl _ _ _ 122 rfl Try.underlying122 _ _ f HM3.out.drew (by unfold maxLen; omega) rfl i rfl (okI_of (by omega)) (ahVal f i b) (ahVal_wf _ _ _) rfl ?_
      intro w2 hm2 hg2
      clear hk1 hk2 es
      go_wp2
      go_roundw
      case rel => exact ⟨1, by omega, by omega, rfl, ⟨by rw [HSt.out, show (2 * i + 1).toNat = (2 * i + 0).toNat + 1 by omega]; exact hm2⟩, ⟨blk_grown (blk_drew HS3.out) hg2 (fun e1 => by have := HZ3.out; injection e1 with e1; omega)⟩, ⟨HB3.out.drew.grown hg2 (Nat.le_of_lt HM3.out.lt) (fun k hk => by cases hk; exact Nat.le_refl _)⟩, ⟨Kd.R_grown (Kd.R_drew HC3.out) hg2 (fun k hk e1 => hk (by injection e1))⟩, ⟨HZ3.out⟩⟩
      case measure => simp [intOf]
     ·have hst : ahK f i b d 1 = f := by simp [ahK, ahStep, hge]
      have HSt := Aa hst
      clear hst
      go_wp2_with fail
      go_roundw
      case rel => exact ⟨1, by omega, by omega, rfl, ⟨by rw [HSt.out]; exact HM3.out.mono (by omega)⟩, HS3, HB3, HC3, ⟨HZ3.out⟩⟩
      case measure => simp [intOf]
    ·
     have hfe : ahK f i b d 1 = (ahStep f i b) := rfl
     rw [hfe] at HM3
     have HSc := Aa (cell_at HS3.out 1 (.int .i64 d) rfl)
     have es := HSc.out
     clear hfe HSc
     by_cases hge : 0 ≤ d
     ·have hst : ahK f i b d 2 = upd (ahStep f i b) i (ahVal (ahStep f i b) i d) := by simp [ahK, ahStep, hge]
      have HSt := Aa hst
      clear hst
      go_wp2_with fail
      have hk1 : (Instr.lookup 122 (.map (some w.heap.size)) (.int .i64 i) false).run Try.prog wr.drew = .ok (.int .u64 (((ahStep f i b) i).getD 0)) wr.drew := HM3.out.drew.look_run (t := 122) Try.underlying122 (m := i) (okI_of (by omega)) false
      have hk2 : (Instr.lookup 122 (.map (some w.heap.size)) (.int .i64 d) false).run Try.prog wr.drew = .ok (.int .u64 (((ahStep f i b) d).getD 0)) wr.drew := HM3.out.drew.look_run (t := 122) Try.underlying122 (m := d) (okI_of (by omega)) false
      go_still_tail 10, (by kernel_rfl)
      (show wpList _ _ _ _ _ wr.drew)
      refine wpList_mapIs_store (E := elS) _ rfl _ _ _ 122 rfl Try.underlying122 _ _ (ahStep f i b) HM3.out.drew (by unfold maxLen; omega) rfl i rfl (okI_of (by omega)) (ahVal (ahStep f i b) i d) (ahVal_wf _ _ _) rfl ?_
      intro w2 hm2 hg2
      clear hk1 hk2 es
      go_wp2
      go_roundw
      case rel => exact ⟨2, by omega, by omega, rfl, ⟨by rw [HSt.out, show (2 * i + 2).toNat = (2 * i + 1).toNat + 1 by omega]; exact hm2⟩, ⟨blk_grown (blk_drew HS3.out) hg2 (fun e1 => by have := HZ3.out; injection e1 with e1; omega)⟩, ⟨HB3.out.drew.grown hg2 (Nat.le_of_lt HM3.out.lt) (fun k hk => by cases hk; exact Nat.le_refl _)⟩, ⟨Kd.R_grown (Kd.R_drew HC3.out) hg2 (fun k hk e1 => hk (by injection e1))⟩, ⟨HZ3.out⟩⟩
      case measure => simp [intOf]
     ·have hst : ahK f i b d 2 = (ahStep f i b) := by simp [ahK, ahStep, hge]
      have HSt := Aa hst
      clear hst
      go_wp2_with fail
      go_roundw
      case rel => exact ⟨2, by omega, by omega, rfl, ⟨by rw [HSt.out]; exact HM3.out.mono (by omega)⟩, HS3, HB3, HC3, ⟨HZ3.out⟩⟩
      case measure => simp [intOf]
    ·go_wp2_with fail
     go_roundw
     case rel => exact ⟨i + 1, _, by omega, by omega, rfl, HA, ⟨by rw [show (2 * (i + 1)).toNat = (2 * i + 2).toNat by omega]; exact HM3.out⟩, HB3, HC3⟩
     case measure => simp [intOf]; omega
  ·have hA := HA.out
   rw [List.drop_of_length_le (by omega), List.drop_of_length_le (l := l0) (by have := HBL.out; omega)] at hA
   have HA2 := Aa (show f = aheadsF bs l0 from hA)
   clear hA HA
   go_wp2
   go_ret
   exact ⟨rfl, by rw [← HA2.out]; exact HM.out.mono (by have := HBL.out; omega), HB.out⟩
end Go.Proofs.Ytbffhblebigcfaa.Sk
