/- The walk of SkewSure, where there is no history, no event, or nothing fits. -/
import Derived.BigQuiet
import Derived.Deep.QuietTactic
import Derived.Deep.RegionWith
import Derived.Deep.RegionHeld3
import Derived.Deep.DeepCutAuto
import Derived.Deep.DeepMust
import Derived.Test.YtobcecgcegoooaaCSrS0
import Derived.Test.YtobcecgcegoooaaCSrV6
import Derived.Test.YtobcecgcegoooaaCSrV5
import Derived.Test.YtobcecgcegoooaaCSrV2
import Derived.Test.YtobcecgcegoooaaCSrV0
import Derived.Test.YtobcecgcegoooaaCSrV3
import Derived.Test.YtobcecgcegoooaaCSrS1
import Derived.Test.YtobcecgcegoooaaCSrV4
namespace Go.Proofs.Ytobcecgcegoooaa.Sk
open Go.RowKit Go.Proofs.YtobcecgcegoooaaW.PrintWords Go.Proofs.YtobcecgcegoooaaW.PrintLast Go.Proofs.YtobcecgcegoooaaW.PrintMore
set_option linter.unusedVariables false
set_option linter.unusedSimpArgs false
def toS47 (s : S130) : S47 := ⟨s.f0, s.f1⟩
def skew_Stamps.f (l0 : List S71) : Option (List S47 × Int) :=
 (skew_isRun.f (l0.length + 1) l0).bind fun b => if b = true then (skew_stamps.f 1000 l0).bind fun s => if s.length < 1000 then some (s.map toS47, 0) else none else some ([], 2)
theorem clip95 (A : Option Addr) (n c : Nat) (hn : n ≤ c) (w : World) : Calls Try.prog 94 #[.slice A n c] w fun e w' => e = .returned (.slice A n n) ∧ w = w' := by
 go_enter Try.func94, Try.ntmps94
 go_wp2; go_ret; exact ⟨rfl, rfl⟩
theorem V_clip {α : Type} {d : Kd α} {e base : Nat} {ok : Nat → Prop} {w W : World} {A : Option Addr} {n c : Nat} {xs : List α} (h : d.R e W base ok (.slice A n c) xs) (hb : w.heap.size ≤ base) :
  Kd.V d e W w.heap.size (fun k_ => (w.heap.size ≤ k_)) (.slice A n n) xs := by
 have hn := (Kd.R_reads' h).1; subst hn; have h2 := Kd.R_mono (ok' := fun k_ => w.heap.size ≤ k_) (Kd.R_bound h) (fun k hk => Nat.le_trans hb hk.2.1); exact Kd.V_mk (Nat.le_refl _) (Kd.R_F h2)
theorem V_nil0 {α : Type} (d : Kd α) (e : Nat) (W w : World) : Kd.V d e W w.heap.size (fun k_ => (w.heap.size ≤ k_)) (.slice none 0 0) [] :=
 ⟨none, 0, rfl, Nat.le_refl _, Kd.R_F (Kd.R_nil d e W 0 _)⟩
set_option maxHeartbeats 4000000 in
set_option maxRecDepth 100000 in
theorem skew_Stamps.calls (A0 : Option Addr) (c0 : Nat) (l0 : List S71) (r1 : List S47) (r2 : Int) (w : World) (hr0 : Kd.C k71 w A0 l0.length l0) (hc0 : l0.length ≤ c0) (h : skew_Stamps.f l0 = some (r1, r2)) :
  Calls Try.prog 31 #[.slice A0 l0.length c0] w fun e w' => ∃ v0_ : Value, e = .returned (.tuple #[v0_, .int .i64 r2]) ∧ Kd.V k47 47 w' w.heap.size (fun k_ => (w.heap.size ≤ k_)) v0_ r1 ∧ Below w.heap.size w w' := by
 have hu126 := Try.underlying130; have hu47 := Try.underlying47; unfold skew_Stamps.f at h; obtain ⟨b, hb, h⟩ := Option.bind_eq_some_iff.mp h; have HB := Aa (skew_isRun.calls _ A0 c0 l0 b w hr0 hc0 hb); clear hb; have HR0 := Aa hr0; clear hr0
 cases b with
 | false =>
  rw [if_neg (by simp)] at h; simp only [Option.some.injEq, Prod.mk.injEq] at h; obtain ⟨rfl, rfl⟩ := h
  go_enter Try.func31, Try.ntmps31
  go_wp2_with (go_at_call 83; refine HB.out.mono ?_; rintro e w1 ⟨rfl, hb⟩)
  go_ret2
  exact ⟨_, rfl, V_nil0 _ _ _ _, hb⟩
 | true =>
  rw [if_pos rfl] at h; obtain ⟨s, hs, h⟩ := Option.bind_eq_some_iff.mp h
  by_cases hl : s.length < 1000
  ·rw [if_pos hl] at h; simp only [Option.some.injEq, Prod.mk.injEq] at h; obtain ⟨rfl, rfl⟩ := h; have HS := Aa hs; have HL := Aa hl; clear hs hl
   go_enter Try.func31, Try.ntmps31
   go_wp2_with fail
   refine HB.out.mono ?_; rintro e w1 ⟨rfl, hb⟩; have HB1 := Aa hb; have HC := Aa (skew_stamps.calls _ A0 c0 l0 s w1 (Kd.C_below HR0.out hb) hc0 HS.out); clear hb HB
   go_wp2_with (go_at_call 90; refine HC.out.mono ?_; rintro e w2 ⟨v, rfl, ho, hb2⟩; obtain ⟨A, c, rfl, hcc, hC⟩ := Kd.R_reads ho; have HB2 := Aa (Bp HB1.out hb2); have HCs := Aa hC; have HSz := Aa hb2.size; clear HC ho hb2 hcc hC)
   go_loopw [4, 13] (fun v4 v13 W => ∃ (i : Int), 0 ≤ i ∧ i ≤ s.length ∧ v13 = .int .i64 i ∧ Aside0 (Kd.R k47 47 W w2.heap.size (fun _ => True) v4 ((s.take i.toNat).map toS47)) ∧ Aside0 (Below w2.heap.size w2 W)) (fun _ v _ => s.length - (intOf v).toNat)
   case atStart => exact ⟨0, by omega, by omega, rfl, ⟨Kd.R_nil _ _ _ _ _⟩, ⟨Below.refl _ _⟩⟩
   case round =>
    obtain ⟨i, h0, hk, rfl, HO, HBw⟩ := hrel; have hl := HL.out
    by_cases hlt : i < s.length
    ·obtain ⟨ad, e217, hx0, hx1⟩ := at_T130 (Kd.C_below HCs.out HBw.out) i h0 hlt; cases e217
     have hstep : (s.take (i + 1).toNat).map toS47 = (s.take i.toNat).map toS47 ++ [toS47 (rd_T130 s i)] := by
      have hl : i.toNat < s.length := by omega
      have er : rd_T130 s i = s[i.toNat] := by simp [rd_T130, List.getD_eq_getElem?_getD, hl]
      rw [show (i + 1).toNat = i.toNat + 1 by omega, List.take_succ_eq_append_getElem hl, er, List.map_append]; rfl
     have hlen : ((s.take i.toNat).map toS47).length ≤ 1000 := by simp; omega
     have HLn := Aa hlen; clear hlen
     obtain ⟨x, hx⟩ : ∃ x, rd_T130 s i = x := ⟨_, rfl⟩
     rw [hx] at hx0 hx1 hstep; have HSt := Aa hstep; clear hx hstep
     obtain ⟨xs, hxs⟩ : ∃ xs, (s.take i.toNat).map toS47 = xs := ⟨_, rfl⟩
     rw [hxs] at HSt HO HLn; clear hxs
     go_wp2_with (at_builtin; refine Kd.R_append k47 (w0 := w2) w2.heap.size rfl (.tmp 17) (.tmp 19) 57 47 (.agg #[.int .i64 0, .int .i64 0]) 16 rfl Try.underlying57 info47 rfl (by decide) (by decide) u4 xs (toS47 x) [.int .i64 x.f0, .int .i64 x.f1] (fun _ => True) (fun _ => False) rfl (by rw [World.size_alloc]; rfl) (k47_mkM _ _ _ (toS47 x)) (fun _ hk => hk.elim) (fun _ _ => trivial) (Kd.R_alloc HO.out _) (Ba HBw.out _) (Nat.le_trans HBw.out.size (by rw [World.size_alloc]; omega)) (by have := HLn.out; omega) ?_; intro v1 w3 ho hb hg hat; have HO1 := Aa ho; have HB1 := Aa hb; clear ho hb hg hat)
     go_roundw
     case rel => exact ⟨i + 1, by omega, by omega, rfl, ⟨by rw [HSt.out]; exact HO1.out⟩, HB1⟩
     case measure => simp [intOf]; omega
    ·have ht : s.take i.toNat = s := List.take_of_length_le (by omega); rw [ht] at HO; clear ht hl; obtain ⟨A4, c4, hv4, hc4, hC4⟩ := Kd.R_reads HO.out; rw [List.length_map] at hv4 hc4; subst hv4; have HC4 := Aa hc4; clear hC4 hc4
     go_wp2_with (go_at_call 94; refine (clip95 A4 _ c4 HC4.out _).mono ?_; rintro e w4 ⟨rfl, rfl⟩)
     go_ret2; exact ⟨_, rfl, V_clip HO.out HB2.out.size, Bp HB2.out HBw.out⟩
  ·rw [if_neg hl] at h; cases h
end Go.Proofs.Ytobcecgcegoooaa.Sk
namespace Go.Proofs.Ytobcecgcegoooaa.Sk
open Go.RowKit Go.Proofs.YtobcecgcegoooaaW.PrintWords Go.Proofs.YtobcecgcegoooaaW.PrintLast Go.Proofs.YtobcecgcegoooaaW.PrintMore
set_option linter.unusedVariables false
set_option linter.unusedSimpArgs false
def cmpF (a t : S130) : Int := (skew_stamp_compare.f a.f0 a.f1 t.f0 t.f1).getD 0
theorem cmpF_some (a t : S130) : skew_stamp_compare.f a.f0 a.f1 t.f0 t.f1 = some (cmpF a t) := by
 unfold cmpF
 cases h : skew_stamp_compare.f a.f0 a.f1 t.f0 t.f1 with
 | some r => rfl
 | none => exfalso; unfold skew_stamp_compare.f at h; revert h; (repeat' split) <;> simp
def bsIdx (l : List S130) (t : S130) : Int := bsr (fun h => !decide (cmpF (rd_T130 l h) t < 0)) l.length 0 l.length
def bsIs (l : List S130) (t : S130) : Bool := decide (bsIdx l t < l.length) && (cmpF (rd_T130 l (bsIdx l t)) t == 0)
theorem bsIdx_range (l : List S130) (t : S130) : 0 ≤ bsIdx l t ∧ bsIdx l t ≤ l.length := bsr_range _ _ 0 _ (by omega)
set_option maxHeartbeats 2000000 in
set_option maxRecDepth 100000 in
theorem bs_calls (A0 : Option Addr) (c0 : Nat) (l : List S130) (t : S130) (w : World) (hr0 : Kd.C k130 w A0 l.length l) (hc0 : l.length ≤ c0) (hl : l.length ≤ 1000000) :
  Calls Try.prog 91 #[.slice A0 l.length c0, .agg #[.int .i64 t.f0, .int .i64 t.f1], .func (.func 92) #[] #[]] w fun e w' => e = .returned (.tuple #[.int .i64 (bsIdx l t), .bool (bsIs l t)]) ∧ Below w.heap.size w w' := by
 have hu126 := Try.underlying130; obtain ⟨t0, t1⟩ := t; have HR0 := Aa hr0; have HBx := Aa (blk_new w (.cells #[.int .i64 t0, .int .i64 t1] 130)); have HBe := Aa (Ba (Below.refl w.heap.size w) (.cells #[.int .i64 t0, .int .i64 t1] 130))
 have hcc := fun (h : Int) (W : World) => skew_stamp_compare.calls _ _ _ _ _ W (cmpF_some (rd_T130 l h) ⟨t0, t1⟩)
 have HCC := Aa hcc; clear hr0 hcc
 obtain ⟨p, hp⟩ : ∃ p : Int → Bool, p = fun h => !decide (cmpF (rd_T130 l h) ⟨t0, t1⟩ < 0) := ⟨_, rfl⟩
 obtain ⟨R, hR⟩ : ∃ R, bsIdx l ⟨t0, t1⟩ = R := ⟨_, rfl⟩
 have HR := Aa hR; have HP := Aa hp
 have hR2 : bsr p l.length 0 l.length = R := by rw [hp]; exact hR
 clear hp hR
 go_enter Try.func91, Try.ntmps91
 go_wp2
 go_loopw [9, 10, 11] (fun a b _ W => ∃ (i j : Int) (k : Nat), 0 ≤ i ∧ i ≤ j ∧ j ≤ l.length ∧ a = .int .i64 i ∧ b = .int .i64 j ∧ Aside0 ((j - i).toNat ≤ k) ∧ Aside0 (bsr p k i j = R) ∧ Aside0 (Below w.heap.size w W) ∧ Aside0 (W.heap[w.heap.size]? = some (.cells #[.int .i64 t0, .int .i64 t1] 130 (0, 0)))) (fun a b _ _ => (intOf b - intOf a).toNat)
 case atStart => exact ⟨0, l.length, l.length, by omega, by omega, by omega, rfl, rfl, ⟨by omega⟩, ⟨hR2⟩, HBe, HBx⟩
 case round =>
  clear HBx HBe hR2; obtain ⟨i, j, k, h0, h1, h2, rfl, rfl, HK, HRr, HB, HX⟩ := hrel; have hB : Below w.heap.size w wr := HB.out; have x0 := cell_at HX.out 0 (.int .i64 t0) rfl; have x1 := cell_at HX.out 1 (.int .i64 t1) rfl; have HBd := Aa (show Below w.heap.size w wr.drew from Dn hB); have HXd := Aa (show wr.drew.heap[w.heap.size]? = some (.cells #[.int .i64 t0, .int .i64 t1] 130 (0, 0)) from HX.out)
  by_cases hlt : i < j
  ·obtain ⟨hh, hhe⟩ : ∃ hh, (i + j) / 2 = hh := ⟨_, rfl⟩
   have hr1 : i ≤ hh := by omega
   have hr2 : hh < j := by omega
   have hr3 : hh < (l.length : Int) := by omega
   have hr0 : (0 : Int) ≤ hh := by omega
   obtain ⟨ad, e1, hy0, hy1⟩ := at_T130 (Kd.C_below HR0.out hB) hh (by omega) (by omega); cases e1; have HHe := Aa hhe
   obtain ⟨k, rfl⟩ : ∃ m, k = m + 1 := ⟨k - 1, by have := HK.out; omega⟩
   obtain ⟨c, hc⟩ : ∃ c, cmpF (rd_T130 l hh) ⟨t0, t1⟩ = c := ⟨_, rfl⟩
   have HCm := Aa hc; have hcx := HCC.out hh; rw [hc] at hcx
   have HCx := fun W => Aa (hcx W)
   clear hc hcx
   by_cases hneg : c < 0
   ·have HPh := Aa (show p hh = false by rw [HP.out]; show (!decide (cmpF (rd_T130 l hh) ⟨t0, t1⟩ < 0)) = _; rw [HCm.out, decide_eq_true hneg]; rfl); have hR := HRr.out; simp only [bsr, if_pos hlt, HHe.out, HPh.out] at hR; have HR2 := Aa (show bsr p k (hh + 1) j = R from hR); clear hR HRr
    go_wp2_with fail
    go_region_held3 (fun W => Below w.heap.size w W ∧ W.heap[w.heap.size]? = some (.cells #[.int .i64 t0, .int .i64 t1] 130 (0, 0)) ∧ W.cell? ⟨w.heap.size, 0, none⟩ = some (.int .i64 t0) ∧ W.cell? ⟨w.heap.size, 1, none⟩ = some (.int .i64 t1) ∧ W.cell? (ad.add (hh.toNat * 2)) = some (.int .i64 (rd_T130 l hh).f0) ∧ W.cell? ⟨(ad.add (hh.toNat * 2)).block, (ad.add (hh.toNat * 2)).off + 1, none⟩ = some (.int .i64 (rd_T130 l hh).f1))
     (first | (with_reducible (refine ⟨HBd.out, HXd.out, ?_, ?_, ?_, ?_⟩)) <;> (apply cell_drew; with_reducible assumption) | (go_split_ands; (with_reducible refine ⟨Bp (by assumption) hb, blk_below (by assumption) hb, ?_, ?_, ?_, ?_⟩) <;> (apply pw_cell_below hb; with_reducible assumption)))
     (first | (go_at_call 92; (with_reducible refine (HCx _).out.mono ?_); rintro e w' ⟨rfl, hb⟩))
    rename_i hS
    have HS1 := Aa hS.1; have HS2 := Aa hS.2.1; clear hS hy0 hy1 x0 x1 hB HX HBd HXd; go_wp2
    go_roundw
    case rel => exact ⟨hh + 1, j, k, by omega, by omega, by omega, rfl, rfl, ⟨by have := HK.out; omega⟩, HR2, HS1, HS2⟩
    case measure => simp [intOf]; omega
   ·have HPh := Aa (show p hh = true by rw [HP.out]; show (!decide (cmpF (rd_T130 l hh) ⟨t0, t1⟩ < 0)) = _; rw [HCm.out, decide_eq_false hneg]; rfl); have hR := HRr.out; simp only [bsr, if_pos hlt, HHe.out, HPh.out] at hR; have HR2 := Aa (show bsr p k i hh = R from hR); clear hR HRr
    go_wp2_with fail
    go_region_held3 (fun W => Below w.heap.size w W ∧ W.heap[w.heap.size]? = some (.cells #[.int .i64 t0, .int .i64 t1] 130 (0, 0)) ∧ W.cell? ⟨w.heap.size, 0, none⟩ = some (.int .i64 t0) ∧ W.cell? ⟨w.heap.size, 1, none⟩ = some (.int .i64 t1) ∧ W.cell? (ad.add (hh.toNat * 2)) = some (.int .i64 (rd_T130 l hh).f0) ∧ W.cell? ⟨(ad.add (hh.toNat * 2)).block, (ad.add (hh.toNat * 2)).off + 1, none⟩ = some (.int .i64 (rd_T130 l hh).f1))
     (first | (with_reducible (refine ⟨HBd.out, HXd.out, ?_, ?_, ?_, ?_⟩)) <;> (apply cell_drew; with_reducible assumption) | (go_split_ands; (with_reducible refine ⟨Bp (by assumption) hb, blk_below (by assumption) hb, ?_, ?_, ?_, ?_⟩) <;> (apply pw_cell_below hb; with_reducible assumption)))
     (first | (go_at_call 92; (with_reducible refine (HCx _).out.mono ?_); rintro e w' ⟨rfl, hb⟩))
    rename_i hS
    have HS1 := Aa hS.1; have HS2 := Aa hS.2.1; clear hS hy0 hy1 x0 x1 hB HX HBd HXd; go_wp2
    go_roundw
    case rel => exact ⟨i, hh, k, by omega, by omega, by omega, rfl, rfl, ⟨by have := HK.out; omega⟩, HR2, HS1, HS2⟩
    case measure => simp [intOf]; omega
  ·have hR : bsr p k i j = i := by
    cases k with
    | zero => rfl
    | succ k => simp only [bsr]; rw [if_neg hlt]
   have hRi : i = R := by rw [← HRr.out, hR]
   subst hRi; clear hR HRr
   by_cases hin : i < l.length
   ·obtain ⟨ad, e1, hy0, hy1⟩ := at_T130 (Kd.C_below HR0.out hB) i (by omega) (by omega); cases e1
    obtain ⟨c, hc⟩ : ∃ c, cmpF (rd_T130 l i) ⟨t0, t1⟩ = c := ⟨_, rfl⟩
    have HCm := Aa hc; have hcx := HCC.out i; rw [hc] at hcx
    have HCx := fun W => Aa (hcx W)
    clear hc hcx; have hin' := decide_eq_true hin
    go_wp2_with fail
    go_region_held3 (fun W => Below w.heap.size w W ∧ W.heap[w.heap.size]? = some (.cells #[.int .i64 t0, .int .i64 t1] 130 (0, 0)) ∧ W.cell? ⟨w.heap.size, 0, none⟩ = some (.int .i64 t0) ∧ W.cell? ⟨w.heap.size, 1, none⟩ = some (.int .i64 t1) ∧ W.cell? (ad.add (i.toNat * 2)) = some (.int .i64 (rd_T130 l i).f0) ∧ W.cell? ⟨(ad.add (i.toNat * 2)).block, (ad.add (i.toNat * 2)).off + 1, none⟩ = some (.int .i64 (rd_T130 l i).f1))
     (first | (with_reducible (refine ⟨HBd.out, HXd.out, ?_, ?_, ?_, ?_⟩)) <;> (apply cell_drew; with_reducible assumption) | (go_split_ands; (with_reducible refine ⟨Bp (by assumption) hb, blk_below (by assumption) hb, ?_, ?_, ?_, ?_⟩) <;> (apply pw_cell_below hb; with_reducible assumption)))
     (first | (go_at_call 92; (with_reducible refine (HCx _).out.mono ?_); rintro e w' ⟨rfl, hb⟩))
    rename_i hS
    have HS1 := Aa hS.1; clear hS hy0 hy1 x0 x1 hB HX HBd HXd; go_wp2; go_ret2; refine ⟨?_, HS1.out⟩; rw [HR.out]
    have e2 : bsIs l ⟨t0, t1⟩ = (c == 0) := by unfold bsIs; rw [HR.out, HCm.out, decide_eq_true hin, Bool.true_and]
    rw [e2]; rfl
   ·have hin' := decide_eq_false hin
    go_wp2_with fail
    go_quiet (fail)
    go_wp2; go_ret2; refine ⟨?_, (by first | exact HBd.out | exact hB | exact Pn hB _)⟩; rw [HR.out]
    have e2 : bsIs l ⟨t0, t1⟩ = false := by unfold bsIs; rw [HR.out, decide_eq_false (by omega), Bool.false_and]
    rw [e2]; rfl
end Go.Proofs.Ytobcecgcegoooaa.Sk
namespace Go.Proofs.Ytobcecgcegoooaa.Sk
open Go.RowKit Go.Proofs.YtobcecgcegoooaaW.PrintWords Go.Proofs.YtobcecgcegoooaaW.PrintLast Go.Proofs.YtobcecgcegoooaaW.PrintMore
set_option linter.unusedVariables false
set_option linter.unusedSimpArgs false
def hasB (m i : Int) : Bool := (bits .and .u64 (shr .u64 m i) 1) == 1
def subOf (sts : List S130) (m : Int) (k : Nat) : List S130 := ((List.range k).filter fun (i : Nat) => hasB m (i : Int)).map fun (i : Nat) => rd_T130 sts (i : Int)
def atOne (sts : List S130) (t : S130) (m : Int) : Int := if bsIs (subOf sts m sts.length) t = true then bsIdx (subOf sts m sts.length) t + 1 else bsIdx (subOf sts m sts.length) t
def outAt (g : Int → Int) (m : Int) : List Int := [if 0 < m then g 0 else 0, if 1 < m then g 1 else 0, if 2 < m then g 2 else 0, if 3 < m then g 3 else 0, if 4 < m then g 4 else 0, if 5 < m then g 5 else 0]
theorem outAt_set (g : Int → Int) (m : Int) (h0 : 0 ≤ m) (h6 : m < 6) : (outAt g m).set m.toNat (g m) = outAt g (m + 1) := by
 obtain rfl | rfl | rfl | rfl | rfl | rfl : m = 0 ∨ m = 1 ∨ m = 2 ∨ m = 3 ∨ m = 4 ∨ m = 5 := by omega
 all_goals rfl
theorem subOf_succ (sts : List S130) (m i : Int) (h0 : 0 ≤ i) : subOf sts m (i + 1).toNat = if hasB m i = true then subOf sts m i.toNat ++ [rd_T130 sts i] else subOf sts m i.toNat := by
 unfold subOf; rw [show (i + 1).toNat = i.toNat + 1 by omega, List.range_succ, List.filter_append, List.map_append]; have e : ((i.toNat : Nat) : Int) = i := Int.toNat_of_nonneg h0
 by_cases h : hasB m i = true
 ·rw [if_pos h, List.filter_cons_of_pos (by rw [e]; exact h), List.filter_nil, List.map_cons, List.map_nil, e]
 ·rw [if_neg h, List.filter_cons_of_neg (by rw [e]; exact h), List.filter_nil, List.map_nil, List.append_nil]
theorem subOf_length (sts : List S130) (m : Int) (k : Nat) : (subOf sts m k).length ≤ k := by
 unfold subOf; rw [List.length_map]; exact Nat.le_trans (List.length_filter_le _ _) (by rw [List.length_range]; omega)
def skew_At.f (l0 : List S71) (s0 s1 : Int) : Option (List Int × Int) :=
 (skew_isRun.f (l0.length + 1) l0).bind fun b => if b = true then
  (skew_stamps.f 1000 l0).bind fun sts => if sts.length ≤ 40 ∧ l0.length ≤ 40 ∧ (∀ d ∈ l0, 0 ≤ d.f0 ∧ d.f0 ≤ 5) then some (outAt (fun m => atOne sts ⟨s0, s1⟩ (rd (mineF l0) m)) 6, 0) else none
 else some ([], 2)
set_option maxHeartbeats 8000000 in
set_option maxRecDepth 100000 in
theorem skew_At.calls (A0 : Option Addr) (c0 : Nat) (l0 : List S71) (s0 s1 : Int) (r1 : List Int) (r2 : Int) (w : World) (hr0 : Kd.C k71 w A0 l0.length l0) (hc0 : l0.length ≤ c0) (h : skew_At.f l0 s0 s1 = some (r1, r2)) :
  Calls Try.prog 26 #[.slice A0 l0.length c0, .agg #[.int .i64 s0, .int .i64 s1]] w fun e w' => ∃ v0_ : Value, e = .returned (.tuple #[v0_, .int .i64 r2]) ∧ Kd.R (Kd.int .i64) 3 w' w.heap.size (fun _ => True) v0_ r1 ∧ Below w.heap.size w w' := by
 unfold skew_At.f at h; obtain ⟨b, hb, h⟩ := Option.bind_eq_some_iff.mp h; have HB0 := Aa (Ba (Below.refl w.heap.size w) (.cells #[.int .i64 s0, .int .i64 s1] 47)); have HX0 := Aa (blk_new w (.cells #[.int .i64 s0, .int .i64 s1] 47)); have HB := Aa (skew_isRun.calls _ A0 c0 l0 b (w.alloc (.cells #[.int .i64 s0, .int .i64 s1] 47)) (Kd.C_alloc hr0 _) hc0 hb); clear hb; have HR0 := Aa hr0; clear hr0
 cases b with
 | false =>
  rw [if_neg (by simp)] at h; simp only [Option.some.injEq, Prod.mk.injEq] at h; obtain ⟨rfl, rfl⟩ := h
  go_enter Try.func26, Try.ntmps26
  go_wp2_with (go_at_call 83; refine HB.out.mono ?_; rintro e w1 ⟨rfl, hb⟩; have HB1 := Aa (Bp HB0.out hb); clear hb)
  go_ret2
  exact ⟨_, rfl, Kd.R_nil _ _ _ _ _, HB1.out⟩
 | true =>
  rw [if_pos rfl] at h; obtain ⟨sts, hst, h⟩ := Option.bind_eq_some_iff.mp h
  by_cases hok : sts.length ≤ 40 ∧ l0.length ≤ 40 ∧ (∀ d ∈ l0, 0 ≤ d.f0 ∧ d.f0 ≤ 5)
  ·rw [if_pos hok] at h; simp only [Option.some.injEq, Prod.mk.injEq] at h; obtain ⟨hr, rfl⟩ := h; have HRes := Aa hr; have HSt := Aa hst; have O1 := Aa hok.1; have O2 := Aa hok.2.1; have O5 := Aa hok.2.2; clear hr hst hok
   go_enter Try.func26, Try.ntmps26
   go_wp2_with fail
   refine HB.out.mono ?_; rintro e w1 ⟨rfl, hb⟩; have HB1 := Aa (Bp HB0.out hb); have HX1 := Aa (blk_below HX0.out hb); clear hb HB HB0 HX0; have HC := Aa (skew_stamps.calls 1000 A0 c0 l0 sts w1 (Kd.C_below HR0.out HB1.out) hc0 HSt.out)
   go_wp2_with (first
    | (go_at_call 90; refine HC.out.mono ?_; rintro e ws ⟨v6, rfl, ho, hb⟩; obtain ⟨A6, c6, rfl, hc6, hC6⟩ := Kd.R_reads ho; have HBs := Aa (Bp HB1.out hb); have HXs := Aa (blk_below HX1.out hb); have HC6 := Aa hC6; have Hc6 := Aa hc6; clear ho hb hC6 hc6 HC HB1 HX1)
    | ((with_reducible refine gate_dst (N := 19) rfl ?_); refine Kd.R_make (w0 := ws) (Kd.int .i64) _ 3 rfl (N := 19) rfl 40 _ _ rfl (6 : Int) rfl rfl Try.underlying40 (.int .i64 0) 8 info3 rfl (by decide) (by omega) 0 (ok := fun _ => True) (okp := fun _ => True) rfl (fun _ hk => hk) trivial (by decide) (by decide) (Below.refl _ _) (Nat.le_refl _) ?_; intro v7 w2 ho hb hg_ hnew_; have HO7 := Aa ho; have HB2 := Aa hb; clear ho hb hg_ hnew_))
   have hO7 := HO7.out; rw [show List.replicate (Int.toNat 6) (0 : Int) = outAt (fun m => atOne sts ⟨s0, s1⟩ (rd (mineF l0) m)) 0 from rfl] at hO7; obtain ⟨g7, c7, hv7, hg7, hl7, cl7, hC7⟩ := Kd.R_form hO7 (by show 0 < 6; omega); obtain rfl : v7 = .slice (some ⟨g7, 0, none⟩) 6 c7 := hv7; have HO7' := Aa (show Kd.R (Kd.int .i64) 3 w2 ws.heap.size (fun _ => True) (.slice (some ⟨g7, 0, none⟩) 6 c7) (outAt (fun m => atOne sts ⟨s0, s1⟩ (rd (mineF l0) m)) 0) from hO7); have HG7 := Aa (show ws.heap.size ≤ g7 from hg7); clear hO7 hg7 hl7 hC7 HO7 cl7; have HMc := Aa (mine_calls A0 c0 l0 w2 (Kd.C_below HR0.out (Bp HBs.out HB2.out)) O2.out O5.out)
   go_wp2_with (go_at_call 84; refine HMc.out.mono ?_; rintro e w3 ⟨a, b, c, d, f, g, rfl, hms, hb3⟩; have HB3 := Aa (Bp HB2.out hb3); have HO3 := Aa (Kd.R_below HO7'.out hb3); have HMs := Aa hms; clear HMc hb3 hms HO7' HB2)
   obtain ⟨ms, hm⟩ : ∃ ms, mineF l0 = ms := ⟨_, rfl⟩
   rw [hm] at HMs HO3 HRes
   have hlen : ms.length = 6 := by rw [HMs.out]; rfl
   have HLn := Aa hlen
   have hix : ∀ (j : Int) (W : World), 0 ≤ j → j < 6 → (Instr.index 123 (.agg #[.int .u64 a, .int .u64 b, .int .u64 c, .int .u64 d, .int .u64 f, .int .u64 g]) (.int .i64 j)).run Try.prog W = .ok (.int .u64 (rd ms j)) W := by
    intro j W h0 h1; rw [HMs.out]; exact idx119 a b c d f g j h0 h1 W
   have HIx := Aa hix; clear hm hlen hix HMs
   obtain ⟨G, hG⟩ : ∃ G : Int → Int, G = fun m => atOne sts ⟨s0, s1⟩ (rd ms m) := ⟨_, rfl⟩
   rw [← hG] at HO3 HRes; have HGd := Aa hG; clear hG
   go_loopw [22] (fun v22 W => ∃ (m : Int), 0 ≤ m ∧ m ≤ 6 ∧ v22 = .int .i64 m ∧ Aside0 (Kd.R (Kd.int .i64) 3 W ws.heap.size (fun _ => True) (.slice (some ⟨g7, 0, none⟩) 6 c7) (outAt G m)) ∧ Aside0 (Below ws.heap.size ws W)) (fun v _ => 6 - (intOf v).toNat)
   case atStart => exact ⟨0, by omega, by omega, rfl, HO3, HB3⟩
   case round =>
    clear HO3 HB3; obtain ⟨m, m0, m6, rfl, HO, HBw⟩ := hrel
    by_cases hlt : m < 6
    ·have hx := HIx.out m wr m0 hlt
     obtain ⟨M, hM⟩ : ∃ M, rd ms m = M := ⟨_, rfl⟩
     have HMd := Aa hM; rw [hM] at hx; clear hM; have HBr := Aa (show Below ws.heap.size ws wr from HBw.out); have HOr := Aa (show Kd.R (Kd.int .i64) 3 wr ws.heap.size (fun _ => True) (.slice (some ⟨g7, 0, none⟩) 6 c7) (outAt G m) from HO.out); clear HBw HO
     obtain ⟨wo, rfl⟩ : ∃ wo : World, wo = wr := ⟨_, rfl⟩
     go_wp2_with fail
     clear hx
     go_loopw [10, 28] (fun v10 v28 W => ∃ (i : Int), 0 ≤ i ∧ i ≤ sts.length ∧ v28 = .int .i64 i ∧ Aside0 (Kd.R k130 130 W wo.heap.size (fun _ => True) v10 (subOf sts M i.toNat)) ∧ Aside0 (Below wo.heap.size wo W)) (fun _ v _ => sts.length - (intOf v).toNat)
     case atStart => exact ⟨0, by omega, by omega, rfl, ⟨Kd.R_nil _ _ _ _ _⟩, ⟨Below.refl _ _⟩⟩
     case round =>
      obtain ⟨i, i0, hk, rfl, HOl, HBv⟩ := hrel
      by_cases hil : i < sts.length
      ·have hi40 : i < 40 := by have := O1.out; omega
       have hBv : Below wo.heap.size wo wr := HBv.out; obtain ⟨ad, e1, hy0, hy1⟩ := at_T130 (Kd.C_below HC6.out (Bp HBr.out hBv)) i i0 hil; cases e1
       have HS := fun W => Aa (skew_set_has.calls M i _ W (by unfold skew_set_has.f; rw [if_pos i0]))
       have hsub := subOf_succ sts M i i0; have hlen := subOf_length sts M i.toNat; have HLs := Aa (show (subOf sts M i.toNat).length ≤ 40 by omega); clear hlen
       obtain ⟨xs, hxs⟩ : ∃ xs, subOf sts M i.toNat = xs := ⟨_, rfl⟩
       rw [hxs] at hsub HOl HLs; have HBx := Aa hBv; have HOx := Aa (show Kd.R k130 130 wr wo.heap.size (fun _ => True) u10 xs from HOl.out); clear hxs hBv HBv HOl
       cases hb : hasB M i with
       | false =>
        rw [hb, if_neg (by simp)] at hsub; have HSb := Aa hsub
        have HSc := fun W => Aa (show Calls Try.prog 88 #[.int .u64 M, .int .i64 i] W fun e w' => e = .returned (.bool false) ∧ Drawn0 W w' from by have := (HS W).out; rwa [show ((bits .and .u64 (shr .u64 M i) 1) == 1) = false from hb] at this)
        clear HS hb hsub
        go_wp2_with (go_at_call 88; (with_reducible refine (HSc _).out.mono ?_); rintro e w4 ⟨rfl, ⟨⟨nd, rfl⟩⟩⟩)
        go_roundw
        case rel => exact ⟨i + 1, by omega, by omega, rfl, ⟨by rw [HSb.out]; exact Kd.R_drewN HOx.out _⟩, ⟨Pn HBx.out _⟩⟩
        case measure => simp [intOf]; omega
       | true =>
        rw [hb, if_pos rfl] at hsub; have HSb := Aa hsub
        have HSc := fun W => Aa (show Calls Try.prog 88 #[.int .u64 M, .int .i64 i] W fun e w' => e = .returned (.bool true) ∧ Drawn0 W w' from by have := (HS W).out; rwa [show ((bits .and .u64 (shr .u64 M i) 1) == 1) = true from hb] at this)
        clear HS hb hsub
        go_wp2_with fail
        refine (HSc _).out.mono ?_; rintro e w4 ⟨rfl, ⟨⟨nd, rfl⟩⟩⟩; have HOn := Aa (Kd.R_drewN HOx.out nd); have HBn := Aa (Pn HBx.out nd); clear HOx HBx; replace hy0 : (wr.drewN nd).cell? (ad.add (i.toNat * 2)) = some (.int .i64 (rd_T130 sts i).f0) := hy0; replace hy1 : (wr.drewN nd).cell? ⟨(ad.add (i.toNat * 2)).block, (ad.add (i.toNat * 2)).off + 1, none⟩ = some (.int .i64 (rd_T130 sts i).f1) := hy1; generalize wr.drewN nd = wn at HOn HBn hy0 hy1 ⊢
        go_wp2_with (at_builtin; refine Kd.R_append k130 (w0 := wo) wo.heap.size rfl (.tmp 34) (.tmp 39) 128 130 (.agg #[.int .i64 0, .int .i64 0]) 16 rfl Try.underlying128 info130 rfl (by decide) (by decide) u10 xs (rd_T130 sts i) [.int .i64 (rd_T130 sts i).f0, .int .i64 (rd_T130 sts i).f1] (fun _ => True) (fun _ => False) rfl rfl (k130_mkM _ _ _ (rd_T130 sts i)) (fun _ hk => hk.elim) (fun _ _ => trivial) HOn.out HBn.out HBn.out.size (by have := HLs.out; omega) ?_; intro v1 w5 ho hb hg hat; have HO1 := Aa ho; have HB1 := Aa hb; clear ho hb hg hat)
        go_roundw
        case rel => exact ⟨i + 1, by omega, by omega, rfl, ⟨by rw [HSb.out]; exact HO1.out⟩, HB1⟩
        case measure => simp [intOf]; omega
      ·obtain rfl : i = sts.length := by omega
       have e1 : ((sts.length : Int)).toNat = sts.length := by omega
       rw [e1] at HOl; clear e1; have hBv : Below wo.heap.size wo wr := HBv.out; have hlen := subOf_length sts M sts.length; obtain ⟨A10, c10, hv10, hc10, hC10⟩ := Kd.R_reads (show Kd.R k130 130 wr wo.heap.size (fun _ => True) _ (subOf sts M sts.length) from HOl.out); subst hv10; have hxb := blk_below (blk_below HXs.out HBr.out) hBv; have x0 := cell_at hxb 0 (.int .i64 s0) rfl; have x1 := cell_at hxb 1 (.int .i64 s1) rfl; have HB5 := Aa (Bp HBr.out hBv); have HO5 := Aa (Kd.R_below HOr.out hBv)
       obtain ⟨xs, hxs⟩ : ∃ xs, subOf sts M sts.length = xs := ⟨_, rfl⟩
       rw [hxs] at hC10 hc10 hlen; have hrange := bsIdx_range xs ⟨s0, s1⟩
       have hxl : xs.length ≤ 40 := by have := O1.out; omega
       have HC := Aa (bs_calls A10 c10 xs ⟨s0, s1⟩ wr hC10 hc10 (by omega))
       have hGm : G m = if bsIs xs ⟨s0, s1⟩ = true then bsIdx xs ⟨s0, s1⟩ + 1 else bsIdx xs ⟨s0, s1⟩ := by
        rw [HGd.out]; show atOne sts ⟨s0, s1⟩ (rd ms m) = _; unfold atOne; rw [HMd.out, hxs]
       have hset := outAt_set G m m0 hlt; rw [hGm] at hset
       obtain ⟨n, hn⟩ : ∃ n, bsIdx xs ⟨s0, s1⟩ = n := ⟨_, rfl⟩
       rw [hn] at HC hset hrange; obtain ⟨n0, n1⟩ := hrange
       have hn40 : n ≤ 40 := by omega
       have HSet := Aa hset; clear hn hset hGm hC10 hc10 hlen hxb hBv HBv HOl hxl n1; subst hxs
       cases hb : bsIs (subOf sts M sts.length) ⟨s0, s1⟩ with
       | false =>
        rw [hb] at HC HSet; rw [if_neg (by simp)] at HSet; clear hb
        go_wp2_with fail
        refine HC.out.mono ?_; rintro e w6 ⟨rfl, hb6⟩; have HB6 := Aa (Bp HB5.out hb6); have hO6 := Kd.R_below HO5.out hb6; obtain ⟨hz, hf⟩ := Kd.R_celln (0 : Int) hO6 m m0 hlt; have HP := Aa (Kd.R_putg hO6 m n).1; clear hb6 HC hO6 x0 x1; go_wp2
        go_roundw
        case rel => exact ⟨m + 1, by omega, by omega, rfl, ⟨by rw [← HSet.out]; exact HP.out⟩, ⟨HB6.out.setCell (B := ws.heap.size) HG7.out _⟩⟩
        case measure => simp [intOf]; omega
       | true =>
        rw [hb] at HC HSet; rw [if_pos rfl] at HSet; clear hb
        go_wp2_with fail
        refine HC.out.mono ?_; rintro e w6 ⟨rfl, hb6⟩; have HB6 := Aa (Bp HB5.out hb6); have hO6 := Kd.R_below HO5.out hb6; obtain ⟨hz, hf⟩ := Kd.R_celln (0 : Int) hO6 m m0 hlt; have HP := Aa (Kd.R_putg hO6 m (n + 1)).1; clear hb6 HC hO6 x0 x1; go_wp2
        go_roundw
        case rel => exact ⟨m + 1, by omega, by omega, rfl, ⟨by rw [← HSet.out]; exact HP.out⟩, ⟨HB6.out.setCell (B := ws.heap.size) HG7.out _⟩⟩
        case measure => simp [intOf]; omega
    ·obtain rfl : m = 6 := by omega
     have HOr := Aa (show Kd.R (Kd.int .i64) 3 wr ws.heap.size (fun _ => True) (.slice (some ⟨g7, 0, none⟩) 6 c7) (outAt G 6) from HO.out); have HBr := Aa (show Below ws.heap.size ws wr from HBw.out); clear HO HBw; go_wp2; go_ret2; exact ⟨_, rfl, by rw [← HRes.out]; exact Kd.R_lower HOr.out HBs.out.size, Bp HBs.out HBr.out⟩
  ·rw [if_neg hok] at h; cases h
end Go.Proofs.Ytobcecgcegoooaa.Sk
namespace Go.Proofs.Ytobcecgcegoooaa.Sk
open Go.RowKit Go.Proofs.YtobcecgcegoooaaW.PrintWords Go.Proofs.YtobcecgcegoooaaW.PrintLast Go.Proofs.YtobcecgcegoooaaW.PrintMore
open Go.Maps
set_option linter.unusedVariables false
set_option linter.unusedSimpArgs false
def RangeIs (w : World) (b r n : Nat) (f : Int → Option Int) (todo : Int → Prop) (cnt : Nat) : Prop :=
 ∃ (D : DataW Unit) (left : Lit → Bool), w.ranges Try.prog 3 (plainElem Try.prog 122) b r n D left cnt ∧
  (∀ m, okI m → (f m = none → Maps.has D (.int .i64 m) = false) ∧ ∀ x, f m = some x → Maps.has D (.int .i64 m) = true ∧ ∀ z, D.atKey (.int .i64 m) z = elS.dat x) ∧
  ∀ m, okI m → (f m).isSome = true → todo m → left (.int .i64 m) = true
theorem RangeIs.left_eq {w : World} {b r n cnt : Nat} {f : Int → Option Int} {todo : Int → Prop} (h : RangeIs w b r n f todo cnt) : w.rangeLeft b r = cnt := by
 obtain ⟨D, left, h, _⟩ := h; exact h.left_eq
section
variable {b n : Nat} {f : Int → Option Int} (w : World) {ops : Array Oper} {rest : List Oper} {o : Oper} {a : Act} {Q : Exit → Act → World → Prop}
theorem wpList_range_is (hg : o.guard = none) (m : Operand) (t : TypeId) (hop : o.op = Op.range t m) (ht : Try.prog.underlying t = some (.map 3 122)) (b n : Nat) (f : Int → Option Int)
  (hm : a.eval m = .map (some b)) (h : MapIs elS w b n f)
  (hK : ∀ w' cnt, RangeIs w' b w.heap.size n f (fun _ => True) cnt → w.grownBy w' none → w'.heap.size = w.heap.size + 1 → wpList Try.prog ops Q rest (a.put o.dst (.pointer (some ⟨w.heap.size, 0, none⟩))) w') :
  wpList Try.prog ops Q (o :: rest) a w := by
 obtain ⟨D, ho, hf⟩ := h
 refine wpList_range_own w hg m t hop 3 122 law3 ht _ b n D hm ho fun w' hr hgr hsz => hK w' _ ⟨D, _, hr, fun m hm => ⟨(hf m hm).1, fun x hx => ((hf m hm).2 x hx).2⟩, fun m hm hs _ => ?_⟩ hgr hsz
 obtain ⟨x, hx⟩ := Option.isSome_iff_exists.mp hs; exact ((hf m hm).2 x hx).2.1
theorem wpList_next_is (hg : o.guard = none) (it : Operand) (hop : o.op = Op.next it false) (b r n : Nat) (f : Int → Option Int) (todo : Int → Prop) (cnt : Nat) (hit : a.eval it = .pointer (some ⟨r, 0, none⟩)) (h : RangeIs w b r n f todo cnt)
  (hDone : (∀ m, okI m → (f m).isSome = true → ¬ todo m) → wpList Try.prog ops Q rest (a.put o.dst (.tuple #[.bool false])) w)
  (hMore : ∀ (x c : Int) (w' : World) (cnt' : Nat), okI x → f x = some c → RangeIs w' b r n f (fun m => todo m ∧ m ≠ x) cnt' → cnt' < cnt → w.grownBy w' (some r) → w'.heap.size = w.heap.size →
   (Instr.entry (.pointer (some ⟨r, 0, none⟩))).run Try.prog w' = .ok (.tuple #[.int .i64 x, .int .u64 c]) w' → wpList Try.prog ops Q rest (a.put o.dst (.tuple #[.bool true, .int .i64 x, .int .u64 c])) w') :
  wpList Try.prog ops Q (o :: rest) a w := by
 obtain ⟨D, left, hr, hf, hl⟩ := h
 refine wpList_next_ranges_ii w hg it hop 3 122 .i64 .u64 law3 Try.underlying3 Try.underlying122 b r n D left cnt hit hr (fun h0 hno => hDone fun m hm hs ht => ?_) fun x c w' cnt' hx hc hlx hat hr' hlt hgr hsz hen => ?_
 ·have := hl m hm hs ht; rw [hno] at this; cases this
 ·have hh := Maps.has_true_of_atKey hat
  have hfx : f x = some c := by
   cases hfx : f x with
   | none => rw [(hf x hx).1 hfx] at hh; cases hh
   | some y =>
    have e1 := ((hf x hx).2 y hfx).2 (.lit (.int .i64 0)); rw [hat] at e1; rw [lit_int e1]
  refine hMore x c w' cnt' hx hfx ⟨D, _, hr', hf, fun m hm hs ht => ?_⟩ hlt hgr hsz hen; have h1 := hl m hm hs ht.1
  have hne : (Lit.int .i64 m).sameKey (.int .i64 x) = false := by
   cases hh : (Lit.int .i64 m).sameKey (.int .i64 x) with
   | false => rfl
   | true =>
    have := (WideAt.sameKey_iff (law3.key (okI_key hx))).1 hh
    injection this with _ h3
    exact absurd h3 ht.2
  simp only [h1, hne, Bool.not_false, Bool.and_self]
end
theorem below_next {w w' : World} {base r : Nat} (h : w.grownBy w' (some r)) (hr : base ≤ r) (hb : base ≤ w.heap.size) : Below base w w' :=
 ⟨h.os, h.tape, h.output, h.size, fun k hk => h.block k (Nat.lt_of_lt_of_le hk hb) (fun e => by injection e with e; omega)⟩
theorem below_grown0 {w w' : World} (h : w.grownBy w' none) : Below w.heap.size w w' :=
 ⟨h.os, h.tape, h.output, h.size, fun k hk => h.block k hk (by simp)⟩
end Go.Proofs.Ytobcecgcegoooaa.Sk
namespace Go.Proofs.Ytobcecgcegoooaa.Sk
open Go.RowKit Go.Proofs.YtobcecgcegoooaaW.PrintWords Go.Proofs.YtobcecgcegoooaaW.PrintLast Go.Proofs.YtobcecgcegoooaaW.PrintMore
set_option linter.unusedVariables false
set_option linter.unusedSimpArgs false
theorem C_none_int {w : World} {l : List Int} (h : Kd.C (Kd.int .i64) w none l.length l) : l = [] := by
 cases l with
 | nil => rfl
 | cons x l =>
  obtain ⟨ad, e, _⟩ := Kd.at_int h 0 (by omega) (by rw [List.length_cons]; omega); cases e
set_option maxHeartbeats 4000000 in
set_option maxRecDepth 100000 in
theorem cloneI_calls (A0 : Option Addr) (c0 : Nat) (l0 : List Int) (w : World) (hr0 : Kd.C (Kd.int .i64) w A0 l0.length l0) (hc0 : l0.length ≤ c0) (hl : l0.length ≤ 1000000) :
  Calls Try.prog 86 #[.slice A0 l0.length c0] w fun e w' => ∃ v, e = .returned v ∧ Kd.R (Kd.int .i64) 3 w' w.heap.size (fun _ => True) v l0 ∧ Below w.heap.size w w' := by
 cases A0 with
 | none =>
  obtain rfl := C_none_int hr0
  have q : ∀ (W : World) (n c : Nat), (binOp .eql 40 (.slice none n c) (.slice none 0 0)).run Try.prog W = .ok (.bool true) W := fun W n c => by kernel_rfl
  go_enter Try.func86, Try.ntmps86
  go_wp2; go_ret
  exact ⟨_, rfl, Kd.R_nil _ _ _ _ _, Below.refl _ _⟩
 | some ad =>
  have HR0 := Aa hr0; have HL := Aa hl
  have q : ∀ (W : World) (n c : Nat), (binOp .eql 40 (.slice (some ad) n c) (.slice none 0 0)).run Try.prog W = .ok (.bool false) W := fun W n c => by kernel_rfl
  clear hr0 hl
  go_enter Try.func86, Try.ntmps86
  go_wp2_with (first
   | ((with_reducible refine gate_dst (N := 5) rfl ?_); refine Kd.R_lit (w0 := w) (Kd.int .i64) _ 3 ?hg (N := 5) ?hd (xs := ([] : List Int)) (inner := []) (ok := fun _ => True) (okp := fun _ => True) ?hr ?hp (fun _ hk => hk) trivial (Below.refl _ _) (Nat.le_refl _) (by simp) ?_; (case hd => rfl); (case hg => rfl); (case hr => first | (go_simp; done) | (go_simp; rfl)); (case hp => exact (Reps.none _ _)); intro v1 w1 ho hb hg_ hn_; have HO1 := Aa ho; have HB1 := Aa hb; clear ho hb hg_ hn_)
   | ((with_reducible refine gate_builtin (b := .append) (xs := #[.tmp 5, .tmp 6]) rfl ?_); at_builtin; refine Kd.R_append_rows (Kd.int .i64) (w0 := w) w.heap.size rfl (.tmp 5) (.tmp 6) 40 3 (.int .i64 0) 8 rfl Try.underlying40 info3 rfl (by decide) (by omega) v1 [] l0 _ _ _ (fun _ => True) (fun _ => False) rfl rfl ?aO ?aR (fun _ _ h => h) (fun _ h => h.elim) ?aF ?aB ?aS ?aL ?_; (case aR => exact Kd.C_below HR0.out HB1.out); (case aB => exact HB1.out); (case aF => exact (fun _ _ => trivial)); (case aO => exact HO1.out); (case aS => exact HB1.out.size); (case aL => have := HL.out; simp only [List.length_nil]; omega); intro v2 w2 ho hb hg hat; have HO2 := Aa ho; have HB2 := Aa hb; clear ho hb hg hat))
  go_ret; exact ⟨_, rfl, HO2.out, HB2.out⟩
end Go.Proofs.Ytobcecgcegoooaa.Sk
namespace Go.Proofs.Ytobcecgcegoooaa.Sk
open Go.RowKit Go.Proofs.YtobcecgcegoooaaW.PrintWords Go.Proofs.YtobcecgcegoooaaW.PrintLast Go.Proofs.YtobcecgcegoooaaW.PrintMore
set_option linter.unusedVariables false
set_option linter.unusedSimpArgs false
def okC (ms cut : List Int) (j : Int) : Bool := decide (rd cut j ≥ 0 ∧ rd cut j ≤ ocF (rd ms j))
def cutOk (ms cut : List Int) : Bool := (List.range 6).all fun (j : Nat) => okC ms cut (j : Int)
def inGo : List S71 → Int → List Int → Int → Int
 | d :: l, i, left, s => if rd left d.f0 > 0 then inGo l (i + 1) (left.set d.f0.toNat (wrap64 (rd left d.f0 - 1))) (bits .or .u64 s (IntKind.u64.wrap (2 ^ i.toNat))) else inGo l (i + 1) left s
 | [], _, _, s => s
def badAt (inn m s : Int) : Bool := ((bits .and .u64 (shr .u64 inn m) 1) == 1) && (bits .andNot .u64 s inn != 0)
def goodAt (inn : Int) (ah : Int → Option Int) (m : Int) : Bool := match ah m with | some s => !badAt inn m s | none => true
def allGood (inn : Int) (ah : Int → Option Int) (n : Nat) : Bool := (List.range n).all fun (i : Nat) => goodAt inn ah (i : Int)
def skew_Closed.f (l0 : List S71) (l1 : List Int) : Option (Bool × Int) :=
 (skew_isRun.f (l0.length + 1) l0).bind fun t => if t = true then
  if l1.length = 6 then (skew_befores.f l0).bind fun bs => if runOk l0 bs then
   if cutOk (mineF l0) l1 = true then some (allGood (inGo l0 0 l1 0) (aheadsF bs l0) l0.length, 0) else some (false, 2)
  else none
  else some (false, 2)
 else some (false, 2)
theorem ahStep_keys {f : Int → Option Int} {i k : Int} (h0 : 0 ≤ i) (h : ∀ m, (f m).isSome = true → 0 ≤ m ∧ m ≤ i) : ∀ m, (ahStep f i k m).isSome = true → 0 ≤ m ∧ m ≤ i := by
 intro m hm; unfold ahStep at hm
 split at hm
 ·unfold upd at hm
  split at hm
  ·omega
  ·exact h m hm
 ·exact h m hm
theorem aheadsGo_keys (bs : List Int) (l : List S71) (i : Int) (f : Int → Option Int) (h0 : 0 ≤ i) (h : ∀ m, (f m).isSome = true → 0 ≤ m ∧ m < i) :
  ∀ m, (aheadsGo bs l i f m).isSome = true → 0 ≤ m ∧ m < i + l.length := by
 induction bs generalizing l i f with
 | nil => intro m hm; unfold aheadsGo at hm; have := h m hm; omega
 | cons b bs ih =>
  cases l with
  | nil => intro m hm; unfold aheadsGo at hm; have := h m hm; omega
  | cons d l =>
   intro m hm; unfold aheadsGo at hm; have h1 := ahStep_keys (k := d.f2) h0 (ahStep_keys (f := f) (k := b) h0 (fun m hm => by have := h m hm; omega)); have := ih l (i + 1) _ (by omega) (fun m hm => by have := h1 m hm; omega) m hm; rw [List.length_cons]; omega
theorem aheadsF_keys (bs : List Int) (l : List S71) (m : Int) (hm : (aheadsF bs l m).isSome = true) : 0 ≤ m ∧ m < l.length := by
 have := aheadsGo_keys bs l 0 (fun _ => none) (by omega) (fun m hm => by cases hm) m hm; omega
theorem allGood_true {inn : Int} {ah : Int → Option Int} {n : Nat} (h : ∀ m s, okI m → ah m = some s → badAt inn m s = false) (hn : n ≤ 40) : allGood inn ah n = true := by
 unfold allGood
 refine List.all_eq_true.mpr fun i hi => ?_
 have := List.mem_range.mp hi; unfold goodAt
 cases hs : ah i with
 | none => rfl
 | some s => show (!badAt inn i s) = true; rw [h i s (okI_of (by omega)) hs]; rfl
theorem allGood_false {inn : Int} {ah : Int → Option Int} {n : Nat} {m s : Int} (hk : 0 ≤ m ∧ m < n) (hs : ah m = some s) (hb : badAt inn m s = true) : allGood inn ah n = false := by
 cases hh : allGood inn ah n with
 | false => rfl
 | true =>
  have := List.all_eq_true.mp hh m.toNat (List.mem_range.mpr (by omega)); rw [Int.toNat_of_nonneg hk.1] at this; unfold goodAt at this; rw [hs] at this; simp only [hb] at this; cases this
theorem cutOk_true {ms cut : List Int} (h : ∀ j : Int, 0 ≤ j → j < 6 → okC ms cut j = true) : cutOk ms cut = true :=
 List.all_eq_true.mpr fun i hi => h _ (by omega) (by have := List.mem_range.mp hi; omega)
theorem cutOk_at {ms cut : List Int} (h : cutOk ms cut = true) (j : Int) (h0 : 0 ≤ j) (h6 : j < 6) : okC ms cut j = true := by
 have := List.all_eq_true.mp h j.toNat (List.mem_range.mpr (by omega))
 rwa [Int.toNat_of_nonneg h0] at this
set_option maxHeartbeats 8000000 in
set_option maxRecDepth 100000 in
theorem skew_Closed.calls (A0 : Option Addr) (c0 : Nat) (l0 : List S71) (A1 : Option Addr) (c1 : Nat) (l1 : List Int) (r1 : Bool) (r2 : Int) (w : World) (hr0 : Kd.C k71 w A0 l0.length l0) (hc0 : l0.length ≤ c0) (hr1 : Kd.C (Kd.int .i64) w A1 l1.length l1) (hc1 : l1.length ≤ c1) (h : skew_Closed.f l0 l1 = some (r1, r2)) :
  Calls Try.prog 24 #[.slice A0 l0.length c0, .slice A1 l1.length c1] w fun e w' => e = .returned (.tuple #[.bool r1, .int .i64 r2]) ∧ Below w.heap.size w w' := by
 unfold skew_Closed.f at h; obtain ⟨b, hb, h⟩ := Option.bind_eq_some_iff.mp h; have HB := Aa (skew_isRun.calls _ A0 c0 l0 b w hr0 hc0 hb); clear hb; have HR0 := Aa hr0; have HR1 := Aa hr1; clear hr0 hr1
 cases b with
 | false =>
  rw [if_neg (by simp)] at h; simp only [Option.some.injEq, Prod.mk.injEq] at h; obtain ⟨rfl, rfl⟩ := h
  go_enter Try.func24, Try.ntmps24
  go_wp2_with (go_at_call 83; refine HB.out.mono ?_; rintro e w1 ⟨rfl, hb⟩)
  go_ret2
  exact ⟨rfl, hb⟩
 | true =>
  rw [if_pos rfl] at h
  by_cases h6 : l1.length = 6
  ·rw [if_pos h6] at h; obtain ⟨bs, hbs, h⟩ := Option.bind_eq_some_iff.mp h
   by_cases hok : runOk l0 bs
   ·rw [if_pos hok] at h; obtain ⟨ok1, ok2, ok3, ok4, ok5⟩ := hok; have HBs := Aa hbs; have O1 := Aa ok1; have O2 := Aa ok2; have O3 := Aa ok3; have O4 := Aa ok4; have O5 := Aa ok5; have H6 := Aa h6; have H := Aa h; clear hbs ok1 ok2 ok3 ok4 ok5 h
    have h6i : (l1.length : Int) = 6 := by omega
    clear h6
    go_enter Try.func24, Try.ntmps24
    go_wp2_with fail
    refine HB.out.mono ?_; rintro e w1 ⟨rfl, hb⟩; have HB1 := Aa hb; clear hb HB; have HMc := Aa (mine_calls A0 c0 l0 w1 (Kd.C_below HR0.out HB1.out) O1.out O5.out)
    go_wp2_with (go_at_call 84; refine HMc.out.mono ?_; rintro e w2 ⟨a, b, c, d, f, g, rfl, hms, hb2⟩; have HB2 := Aa (Bp HB1.out hb2); have HMs := Aa hms; clear HMc hb2 hms)
    obtain ⟨ms, hm⟩ : ∃ ms, mineF l0 = ms := ⟨_, rfl⟩
    rw [hm] at HMs H
    have hlen : ms.length = 6 := by rw [HMs.out]; rfl
    have HLn := Aa hlen
    have hix : ∀ (j : Int) (W : World), 0 ≤ j → j < 6 → (Instr.index 123 (.agg #[.int .u64 a, .int .u64 b, .int .u64 c, .int .u64 d, .int .u64 f, .int .u64 g]) (.int .i64 j)).run Try.prog W = .ok (.int .u64 (rd ms j)) W := by
     intro j W h0 h1; rw [HMs.out]; exact idx119 a b c d f g j h0 h1 W
    have HIx := Aa hix; clear hm hlen hix HMs
    go_loopw [24, 6, 7] (fun v24 _ _ W => ∃ (j : Int), 0 ≤ j ∧ j ≤ 6 ∧ v24 = .int .i64 j ∧ Aside0 (Below w.heap.size w W) ∧ Aside0 (∀ k : Int, 0 ≤ k → k < j → okC ms l1 k = true)) (fun v _ _ _ => 6 - (intOf v).toNat)
    case atStart => exact ⟨0, by omega, by omega, rfl, HB2, ⟨fun k h0 h1 => by omega⟩⟩
    case round =>
     clear HB1 HB2; obtain ⟨j, j0, j6, rfl, HBw, HOk⟩ := hrel
     by_cases hj : j < 6
     ·have hx := HIx.out j wr j0 hj; obtain ⟨ad, e1, hx0⟩ := Kd.at_int (Kd.C_below HR1.out HBw.out) j j0 (by omega); cases e1; have HBr := Aa (show Below w.heap.size w wr.drew from Dn (show Below w.heap.size w wr from HBw.out))
      obtain ⟨m, hm⟩ : ∃ m, rd ms j = m := ⟨_, rfl⟩
      have HM := Aa hm; rw [hm] at hx; clear hm
      cases hv : okC ms l1 j with
      | true =>
       have HV : ∀ W, Aside0 (Calls Try.prog 68 #[.int .i64 (rd l1 j), .int .i64 0, .int .i64 (ocF m)] W fun e w' => e = .returned (.bool true) ∧ Below W.heap.size W w') := fun W => ⟨within_calls _ _ _ true (by rw [← HM.out]; exact hv) W⟩
       have HVj := Aa hv; clear hv
       go_wp2_with fail
       go_region_held3 (fun W => Below w.heap.size w W ∧ W.cell? (ad.add j.toNat) = some (.int .i64 (rd l1 j)))
        (first | (with_reducible (refine ⟨HBr.out, ?_⟩)) <;> (apply cell_drew; with_reducible assumption) | (go_split_ands; (with_reducible refine ⟨Bp (by assumption) hb, ?_⟩) <;> (apply pw_cell_below hb; with_reducible assumption)))
        (first | (go_at_call 85; (with_reducible refine (oc87 _ _).mono ?_); rintro e w' ⟨rfl, rfl⟩) | (go_at_call 68; (with_reducible refine (HV _).out.mono ?_); rintro e w' ⟨rfl, hb⟩))
       rename_i hS
       have HBs := Aa hS.1; clear hS hx hx0; go_wp2
       go_roundw
       case rel => exact ⟨j + 1, by omega, by omega, rfl, HBs, ⟨fun k k0 k1 => by
        by_cases hk : k = j
        ·subst hk; exact HVj.out
        ·exact HOk.out k k0 (by omega)⟩⟩
       case measure => simp [intOf]; omega
      | false =>
       have HV : ∀ W, Aside0 (Calls Try.prog 68 #[.int .i64 (rd l1 j), .int .i64 0, .int .i64 (ocF m)] W fun e w' => e = .returned (.bool false) ∧ Below W.heap.size W w') := fun W => ⟨within_calls _ _ _ false (by rw [← HM.out]; exact hv) W⟩
       have HVj := Aa hv; clear hv
       go_wp2_with fail
       go_region_held3 (fun W => Below w.heap.size w W ∧ W.cell? (ad.add j.toNat) = some (.int .i64 (rd l1 j)))
        (first | (with_reducible (refine ⟨HBr.out, ?_⟩)) <;> (apply cell_drew; with_reducible assumption) | (go_split_ands; (with_reducible refine ⟨Bp (by assumption) hb, ?_⟩) <;> (apply pw_cell_below hb; with_reducible assumption)))
        (first | (go_at_call 85; (with_reducible refine (oc87 _ _).mono ?_); rintro e w' ⟨rfl, rfl⟩) | (go_at_call 68; (with_reducible refine (HV _).out.mono ?_); rintro e w' ⟨rfl, hb⟩))
       rename_i hS
       have HBs := Aa hS.1; clear hS hx hx0
       have hno : ¬ cutOk ms l1 = true := fun hc => by have := cutOk_at hc j j0 hj; rw [HVj.out] at this; cases this
       have h := H.out; rw [if_neg hno] at h; simp only [Option.some.injEq, Prod.mk.injEq] at h; obtain ⟨rfl, rfl⟩ := h; go_wp2; go_ret2; exact ⟨rfl, HBs.out⟩
     ·have hall : cutOk ms l1 = true := cutOk_true fun k k0 k1 => HOk.out k k0 (by omega)
      have h := H.out; rw [if_pos hall] at h; simp only [Option.some.injEq, Prod.mk.injEq] at h; obtain ⟨hr1, rfl⟩ := h; have HR := Aa hr1; have HBw' := Aa (show Below w.heap.size w wr from HBw.out); clear hr1 hall H HOk HBw; have HC := Aa (cloneI_calls A1 c1 l1 wr (Kd.C_below HR1.out HBw'.out) hc1 (by rw [H6.out]; omega))
      obtain ⟨wo, rfl⟩ : ∃ wo : World, wo = wr := ⟨_, rfl⟩
      go_wp2_with (go_at_call 86; refine HC.out.mono ?_; rintro e w3 ⟨v, rfl, hR3, hb3⟩; obtain ⟨g9, c9, rfl, hg9, hl9, cl9, hc9⟩ := Kd.R_form hR3 (by rw [H6.out]; omega); have HB3 := Aa (Bp HBw'.out hb3); have HR3 := Aa hR3; have HG9 := Aa (show w.heap.size ≤ g9 from Nat.le_trans HBw'.out.size hg9); clear HC hb3 hR3 hg9 hl9 hc9)
      obtain ⟨inn, hin⟩ : ∃ inn, inGo l0 0 l1 0 = inn := ⟨_, rfl⟩
      have HIn := Aa hin; rw [hin] at HR; clear hin
      obtain ⟨w3o, rfl⟩ : ∃ w3o : World, w3o = w3 := ⟨_, rfl⟩
      go_loopw [8, 41] (fun v8 v41 W => ∃ (i s : Int) (left : List Int), 0 ≤ i ∧ i ≤ l0.length ∧ v41 = .int .i64 i ∧ v8 = .int .u64 s ∧ Aside0 (inGo (l0.drop i.toNat) i left s = inn) ∧ Aside0 (Kd.R (Kd.int .i64) 3 W wo.heap.size (fun _ => True) (.slice (some ⟨g9, 0, none⟩) l1.length c9) left) ∧ Aside0 (Below w.heap.size w W)) (fun _ v _ => l0.length - (intOf v).toNat)
      case atStart => exact ⟨0, 0, l1, by omega, by omega, rfl, rfl, HIn, HR3, HB3⟩
      case round =>
       clear HR3 HB3 HBw'; obtain ⟨i, s, left, i0, hk, rfl, rfl, HA, HRl, HBw⟩ := hrel
       by_cases hlt : i < l0.length
       ·have hBw : Below w.heap.size w wr := HBw.out
        have hlt40 : i < 40 := by have := O1.out; omega
        obtain ⟨ad2, e217, hy0, hy1, hy2⟩ := at_T71 (Kd.C_below HR0.out hBw) i i0 hlt; cases e217; have hA := HA.out; rw [drop_rd71 l0 i i0 hlt] at hA; have hkd := O5.out _ (rd71_mem l0 i i0 hlt); clear HA
        obtain ⟨x, hx⟩ : ∃ x, rd_T71 l0 i = x := ⟨_, rfl⟩
        rw [hx] at hy0 hy1 hy2 hA hkd; clear hx; obtain ⟨x0, x1, x2⟩ := x; simp only [inGo] at hA hy0 hy1 hy2 hkd; have HBa := Aa (Ba hBw (.cells #[.int .i64 x0, .int .i64 x1, .int .i64 x2] 71)); have hRa := Kd.R_alloc (show Kd.R (Kd.int .i64) 3 wr wo.heap.size (fun _ => True) (.slice (some ⟨g9, 0, none⟩) l1.length c9) left from HRl.out) (.cells #[.int .i64 x0, .int .i64 x1, .int .i64 x2] 71); obtain ⟨hz, hfz⟩ := Kd.R_celln (0 : Int) hRa x0 hkd.1 (by omega); have hP := Kd.R_putg hRa x0 (wrap64 (rd left x0 - 1)); have HRa := Aa hRa; have HP := Aa hP.1; have p0 := cell_at (blk_new wr (.cells #[.int .i64 x0, .int .i64 x1, .int .i64 x2] 71)) 0 (.int .i64 x0) rfl; clear hRa hP HRl HBw hBw
        change (wr.alloc (.cells #[.int .i64 x0, .int .i64 x1, .int .i64 x2] 71)).cell? ⟨g9, x0.toNat, none⟩ = some (.int .i64 (rd left x0)) at hz
        obtain ⟨k0, k5⟩ := hkd
        by_cases hpos : rd left x0 > 0
        ·rw [if_pos hpos] at hA; have HA := Aa hA; clear hA; go_wp2
         go_roundw
         case rel => exact ⟨i + 1, _, left.set x0.toNat (wrap64 (rd left x0 - 1)), by omega, by omega, rfl, rfl, HA, HP, ⟨Bz HBa.out HG9.out⟩⟩
         case measure => simp [intOf]; omega
        ·rw [if_neg hpos] at hA; have HA := Aa hA; clear hA; go_wp2
         go_roundw
         case rel => exact ⟨i + 1, s, left, by omega, by omega, rfl, rfl, HA, HRa, HBa⟩
         case measure => simp [intOf]; omega
       ·have hiA := HA.out; rw [List.drop_of_length_le (by omega)] at hiA; simp only [inGo] at hiA; subst hiA; have hBw : Below w.heap.size w wr := HBw.out
        obtain ⟨ah, hah⟩ : ∃ ah, aheadsF bs l0 = ah := ⟨_, rfl⟩
        have HKeys := Aa (aheadsF_keys bs l0); rw [hah] at HR HKeys; have HAh := Aa hah; have HC := Aa (aheads_calls A0 c0 l0 bs wr (Kd.C_below HR0.out hBw) hc0 O1.out HBs.out O2.out O3.out O4.out); have HBw2 := Aa hBw; clear hah HA HBw HRl hBw
        obtain ⟨w5, rfl⟩ : ∃ w5 : World, w5 = wr := ⟨_, rfl⟩
        have HZ5 := Aa (show w.heap.size ≤ w5.heap.size from HBw2.out.size)
        go_wp2_with (first
         | (go_at_call 87; refine HC.out.mono ?_; rintro e w6 ⟨rfl, hm6, hb6⟩; rw [HAh.out] at hm6; have HM6 := Aa hm6; have HB6 := Aa (Bp HBw2.out hb6); have HZ6 := Aa (show w.heap.size ≤ w6.heap.size from HB6.out.size); clear HC hm6 hb6)
         | (at_range; refine wpList_range_is _ rfl _ _ rfl Try.underlying126 w5.heap.size 100 ah rfl HM6.out ?_; intro w7 cnt hrg hg7 hs7; have HB7 := Aa (Bp HB6.out (below_grown0 hg7)); have HRg := Aa hrg; clear hrg hg7))
        have HT0 := Aa (show ∀ m s', ah m = some s' → okI m → (fun _ : Int => True) m ∨ badAt s m s' = false from fun m s' _ _ => .inl trivial)
        go_frame
        go_loopw [12] (fun _ W => ∃ (todo : Int → Prop) (cnt : Nat), Aside0 (RangeIs W w5.heap.size w6.heap.size 100 ah todo cnt) ∧ Aside0 (∀ m s', ah m = some s' → okI m → todo m ∨ badAt s m s' = false) ∧ Aside0 (Below w.heap.size w W)) (fun _ W => W.rangeLeft w5.heap.size w6.heap.size)
        case atStart => exact ⟨_, cnt, HRg, HT0, HB7⟩
        case round =>
         clear HRg HB7 HT0 hs7; obtain ⟨todo, cnt, HRg, HT, HBw⟩ := hrel; have HBr := Aa (show Below w.heap.size w wr from HBw.out); clear HBw
         go_wp2_with (at_next; refine wpList_next_is _ rfl _ rfl w5.heap.size w6.heap.size 100 ah todo cnt rfl HRg.out (fun hno => ?_) (fun x c' w8 cnt8 hx hc hrg hlt8 hg8 hs8 hen => ?_))
         ·have hr : r1 = true := by
           rw [← HR.out]; exact allGood_true (fun m s' hm hs => (HT.out m s' hs hm).resolve_left (hno m hm (by rw [hs]; rfl))) O1.out
          subst hr; go_ret2; exact ⟨rfl, HBr.out⟩
         ·have hkx := HKeys.out x (by rw [hc]; rfl); have hbs : badAt s x c' = (((bits .and .u64 (shr .u64 s x) 1) == 1) && (bits .andNot .u64 c' s != 0)) := rfl; have HB8 := Aa (Below.trans HBr.out (below_next hg8 HZ6.out HBr.out.size)); have HRg8 := Aa hrg; have HL8 := Aa (show w8.rangeLeft w5.heap.size w6.heap.size < wr.rangeLeft w5.heap.size w6.heap.size by rw [hrg.left_eq, HRg.out.left_eq]; exact hlt8); have HX := Aa hx; have HC8 := Aa hc; have HKX := Aa hkx; clear hg8 hs8 hrg hlt8 HBr HRg hx hc
          cases hp : ((bits .and .u64 (shr .u64 s x) 1) == 1) with
          | false =>
           refine (skew_set_has.calls s x false w8 (by unfold skew_set_has.f; rw [if_pos hkx.1, hp])).mono ?_; rintro e w9 ⟨rfl, ⟨⟨nd, rfl⟩⟩⟩; rw [hp] at hbs; have HBs := Aa hbs; clear hp hbs hkx hen; go_wp2
           go_roundw
           case rel => exact ⟨_, cnt8, HRg8, ⟨fun m s' hm hk => by
            by_cases hmx : m = x
            ·subst hmx; have e1 := HC8.out; rw [hm] at e1; cases e1; exact .inr HBs.out
            ·exact (HT.out m s' hm hk).imp (fun ht => ⟨ht, hmx⟩) id⟩, ⟨Pn HB8.out _⟩⟩
           case measure => exact HL8.out
          | true =>
           refine (skew_set_has.calls s x true w8 (by unfold skew_set_has.f; rw [if_pos hkx.1, hp])).mono ?_; rintro e w9 ⟨rfl, ⟨⟨nd, rfl⟩⟩⟩; rw [hp] at hbs
           cases hq : (bits .andNot .u64 c' s != 0) with
           | true =>
            have hgood : allGood s ah l0.length = false := allGood_false HKX.out HC8.out (by rw [hbs, hq]; rfl)
            have hr : r1 = false := by rw [← HR.out]; exact hgood
            subst hr; clear hp hbs hkx hen hgood; go_wp2; go_ret2
            exact ⟨rfl, Pn HB8.out _⟩
           | false =>
            rw [hq] at hbs; have HBs := Aa hbs; clear hp hbs hkx hen; go_wp2
            go_roundw
            case rel => exact ⟨_, cnt8, HRg8, ⟨fun m s' hm hk => by
             by_cases hmx : m = x
             ·subst hmx; have e1 := HC8.out; rw [hm] at e1; cases e1; exact .inr HBs.out
             ·exact (HT.out m s' hm hk).imp (fun ht => ⟨ht, hmx⟩) id⟩, ⟨Pn HB8.out _⟩⟩
            case measure => exact HL8.out
   ·rw [if_neg hok] at h; cases h
  ·rw [if_neg h6] at h; simp only [Option.some.injEq, Prod.mk.injEq] at h; obtain ⟨rfl, rfl⟩ := h; have h6i : ((l1.length : Int) = 6) = False := eq_false (by omega)
   go_enter Try.func24, Try.ntmps24
   go_wp2_with fail
   refine HB.out.mono ?_; rintro e w1 ⟨rfl, hb⟩; go_wp2; go_ret2; exact ⟨rfl, hb⟩
end Go.Proofs.Ytobcecgcegoooaa.Sk
namespace Go.Proofs.Ytobcecgcegoooaa.Sk
open Go.RowKit Go.Shelf Go.Proofs.YtobcecgcegoooaaW.PrintWords Go.Proofs.YtobcecgcegoooaaW.PrintLast Go.Proofs.YtobcecgcegoooaaW.PrintMore
set_option linter.unusedVariables false
set_option linter.unusedSimpArgs false
set_option maxRecDepth 100000
def exE : List S27 := [⟨10, 20⟩, ⟨0, 30⟩, ⟨15, 40⟩]
def exG : List S86 := [⟨0, 1, 5, 8⟩, ⟨1, 2, 1, 100⟩]
def exP : List S86 := [⟨0, 1, 5, 8⟩, ⟨1, 2, 1, 100⟩, ⟨2, 0, -3, 100⟩]
def exR : List S71 := [⟨0, 50, -1⟩, ⟨1, 10, 0⟩, ⟨1, 50, -1⟩, ⟨0, 40, 2⟩, ⟨2, 60, -1⟩]
theorem ex_hist : lw_Hist.f = some (exE, exG) := rfl
theorem ex_run : lw_Run.f = some exR := rfl
theorem ex_span : skew_Span.f 100 3 50 101 = some (97, 105, 0) := by kernel_rfl
theorem ex_wait : skew_Wait.f 100 3 50 100 110 = some (115, 0) := by kernel_rfl
theorem ex_mark : skew_Mark.f 100 3 50 150 20 5 = some (121, 0) := by kernel_rfl
theorem ex_vote : skew_Vote.f [⟨8, 12⟩, ⟨11, 13⟩, ⟨10, 12⟩] = some (11, 12, 3, 0) := by kernel_rfl
theorem ex_stamps : skew_Stamps.f exR = some ([⟨50, 0⟩, ⟨50, 1⟩, ⟨50, 2⟩, ⟨50, 3⟩, ⟨60, 0⟩], 0) := by kernel_rfl
theorem ex_counts : skew_Counts.f exR = some ([[1,0,0,0,0,0],[1,1,0,0,0,0],[1,2,0,0,0,0],[2,2,0,0,0,0],[0,0,1,0,0,0]], 0) := by kernel_rfl
theorem ex_at : skew_At.f exR 50 2 = some ([1, 2, 0, 0, 0, 0], 0) := by kernel_rfl
theorem ex_closed : skew_Closed.f exR [2, 1, 0, 0, 0, 0] = some (false, 0) := by kernel_rfl
theorem ex_isHist : skew_isHist.f 1000 exE exG = some true := by kernel_rfl
theorem ex_isHistP : skew_isHist.f 1000 exE exP = some true := by kernel_rfl
theorem ex_ok : histOk exE exG := by decide
theorem ex_okP : histOk exE exP := by decide
def exT : List Int := (tightT (bindT (fun _ => false) (saidL exE exG))).getD []
theorem ex_T : tightT (bindT (fun _ => false) (saidL exE exG)) = some exT := by kernel_rfl
theorem ex_okL : okL (saidL exE exG) := by decide
theorem ex_okLP : okL (saidL exE exP) := by decide
theorem ex_B : ∃ B, tightR exE exG = some (some B, 0) ∧ Ag B exT := by
 obtain ⟨B, hB, hA⟩ := tight_some ex_okL ex_T; refine ⟨B, ?_, hA⟩; unfold tightR; rw [ex_isHist, Option.bind_some, if_pos rfl, if_pos ex_ok, hB]
theorem ex_tspans : tspans (tb exT) 3 = [⟨10, 20⟩, ⟨15, 28⟩, ⟨16, 40⟩] := by kernel_rfl
theorem tspans_ag {B : Int → Int → Int} {T : List Int} (h : Ag B T) (n : Nat) (hn : n ≤ 10) : tspans B n = tspans (tb T) n := by
 unfold tspans; apply List.map_congr_left; intro i hi; have := List.mem_range.mp hi; unfold tspan; rw [h.eq i 10 ⟨by omega, by omega⟩ ⟨by omega, by omega⟩, h.eq 10 i ⟨by omega, by omega⟩ ⟨by omega, by omega⟩]
theorem ex_tight : skew_Tight.f exE exG = some ([⟨10, 20⟩, ⟨15, 28⟩, ⟨16, 40⟩], 0) := by
 obtain ⟨B, hB, hA⟩ := ex_B; unfold skew_Tight.f; rw [hB, Option.bind_some, if_pos (by decide)]; show some (tspans B 3, (0 : Int)) = _; rw [tspans_ag hA 3 (by omega), ex_tspans]
theorem sure_val {evs : List S27} {gaps : List S86} {B : Int → Int → Int} {T : List Int} (h1 : skew_isHist.f 1000 evs gaps = some true) (h2 : tightR evs gaps = some (some B, 0)) (hA : Ag B T) (x y : Int) (hx : x ≥ 0 ∧ x ≤ wrap64 ((evs.length : Int) - 1)) (hy : y ≥ 0 ∧ y ≤ wrap64 ((evs.length : Int) - 1)) (hx' : inR x) (hy' : inR y) (hl : evs.length ≤ 10) :
  skew_Sure.f evs gaps x y = some (decide (tb T y x < 0), 0) := by
 unfold skew_Sure.f; rw [h1, Option.bind_some, if_pos rfl, if_pos hx, if_pos hy, h2, Option.bind_some, if_pos hl]; simp only [hA.eq y x hy' hx']
theorem ex_sure1 : skew_Sure.f exE exG 0 1 = some (true, 0) := by
 obtain ⟨B, hB, hA⟩ := ex_B; rw [sure_val ex_isHist hB hA 0 1 (Od (by kernel_rfl)) (Od (by kernel_rfl)) (by unfold inR; decide) (by unfold inR; decide) (by decide)]
 kernel_rfl
theorem ex_sure2 : skew_Sure.f exE exG 2 0 = some (false, 0) := by
 obtain ⟨B, hB, hA⟩ := ex_B; rw [sure_val ex_isHist hB hA 2 0 (Od (by kernel_rfl)) (Od (by kernel_rfl)) (by unfold inR; decide) (by unfold inR; decide) (by decide)]
 kernel_rfl
theorem idxGo_congr {p q : Int → Bool} : ∀ (l : List Int) (i : Int), (∀ x ∈ l, p x = q x) → idxGo p l i = idxGo q l i
 | [], _, _ => rfl
 | x :: l, i, h => by
  simp only [idxGo]; rw [h x List.mem_cons_self, idxGo_congr l (i + 1) (fun y hy => h y (List.mem_cons_of_mem _ hy))]
theorem hasBefore_ag {B : Int → Int → Int} {T : List Int} (hA : Ag B T) (l : List Int) (hl : ∀ x ∈ l, inR x) (y : Int) (hy : inR y) : hasBefore B l y = hasBefore (tb T) l y := by
 unfold hasBefore; rw [idxGo_congr (p := fun x => decide (B y x < 0)) (q := fun x => decide (tb T y x < 0)) l 0 (fun x hx => by rw [hA.eq y x hy (hl x hx)])]
theorem orderGo_ag {B : Int → Int → Int} {T : List Int} (hA : Ag B T) : ∀ (n : Nat) (l out : List Int), (∀ x ∈ l, inR x) → orderGo B n l out = orderGo (tb T) n l out
 | 0, _, _, _ => rfl
 | n + 1, l, out, hl => by
  simp only [orderGo]; have e : idxGo (fun y => !hasBefore B l y) l 0 = idxGo (fun y => !hasBefore (tb T) l y) l 0 := idxGo_congr l 0 (fun x hx => by rw [hasBefore_ag hA l hl x (hl x hx)])
  rw [e, orderGo_ag hA n _ _ (fun x hx => by
   rcases List.mem_append.mp hx with hx | hx
   ·exact hl x (List.mem_of_mem_take hx)
   ·exact hl x (List.mem_of_mem_drop hx))]
theorem ex_order : skew_Order.f exE exG = some ([0, 1, 2], 0) := by
 obtain ⟨B, hB, hA⟩ := ex_B; unfold skew_Order.f; rw [hB, Option.bind_some, if_pos (by decide)]; show (orderGo B 10 (nums 3) []).map (fun l => (l, (0 : Int))) = _; rw [orderGo_ag hA 10 _ _ (fun x hx => by have := nums_mem hx; exact ⟨this.1, by omega⟩)]
 kernel_rfl
def rstepT (L : List (Int × S158)) (st : (Int → Option Bool) × List Int) (x : Int × S158) : (Int → Option Bool) × List Int :=
 if (tightT (bindT (omF (upd st.1 x.1 true)) L)).isSome = true then (upd (upd st.1 x.1 true) x.1 false, st.2 ++ [x.1]) else (upd st.1 x.1 true, st.2)
theorem rstep_ag {L : List (Int × S158)} (ho : okL L) : rstep L = rstepT L := by
 funext st x
 unfold rstep rstepT; rw [tight_isSome ho]
theorem reason_val {evs : List S27} {gaps : List S86} (h1 : skew_isHist.f 1000 evs gaps = some true) (h2 : histOk evs gaps) (ho : okL (saidL evs gaps)) (h3 : (tightT (bindT (fun _ => false) (saidL evs gaps))).isSome = false) :
  skew_Reason.f evs gaps = some (((saidL evs gaps).foldl (rstepT (saidL evs gaps)) (fun _ => none, [])).2, 0) := by
 unfold skew_Reason.f reasonP; rw [h1, Option.bind_some, if_pos rfl, if_pos h2, tight_isSome ho, h3, if_neg (by simp), rstep_ag ho]
theorem ex_reason : skew_Reason.f exE exP = some ([3, 4, 5], 0) := by
 rw [reason_val ex_isHistP ex_okP ex_okLP (by kernel_rfl)]
 kernel_rfl
theorem ex_same1 : rf_SameSpans.f 10 [⟨10, 20⟩, ⟨15, 28⟩, ⟨16, 40⟩] [⟨10, 20⟩, ⟨15, 28⟩, ⟨16, 40⟩] = some true := by kernel_rfl
theorem ex_same2 : rf_Same.f 10 [0, 1, 2] [0, 1, 2] = some true := by kernel_rfl
theorem ex_same3 : rf_Same.f 10 [3, 4, 5] [3, 4, 5] = some true := by kernel_rfl
theorem ex_same4 : rf_Same.f 10 [2, 2, 0, 0, 0, 0] [2, 2, 0, 0, 0, 0] = some true := by kernel_rfl
theorem ex_same5 : rf_Same.f 10 [1, 2, 0, 0, 0, 0] [1, 2, 0, 0, 0, 0] = some true := by kernel_rfl
theorem ex_same6 : rf_SameStamps.f 10 [⟨50, 0⟩, ⟨50, 1⟩, ⟨50, 2⟩, ⟨50, 3⟩, ⟨60, 0⟩] [⟨50, 0⟩, ⟨50, 1⟩, ⟨50, 2⟩, ⟨50, 3⟩, ⟨60, 0⟩] = some true := by kernel_rfl
end Go.Proofs.Ytobcecgcegoooaa.Sk
namespace Go.Proofs.Ytobcecgcegoooaa.Sk
open Go.RowKit Go.Shelf Go.Proofs.YtobcecgcegoooaaW.PrintWords Go.Proofs.YtobcecgcegoooaaW.PrintLast Go.Proofs.YtobcecgcegoooaaW.PrintMore
set_option linter.unusedVariables false
set_option linter.unusedSimpArgs false
theorem reps_flat {α : Type} {R : α → List Value → Prop} {size : Nat} (enc : α → List Value) (hR : ∀ x, R x (enc x)) (hl : ∀ x, (enc x).length = size) : ∀ xs : List α, Reps R size xs (xs.flatMap enc) := by
 intro xs
 induction xs with
 | nil => exact Reps.none _ _
 | cons x xs ih =>
  rw [List.flatMap_cons]; refine ⟨by rw [List.length_append, hl, ih.1, List.length_cons, Nat.add_mul]; omega, fun j p hj => ?_⟩
  cases j with
  | zero =>
   rw [List.getElem?_cons_zero] at hj; cases hj; rw [Nat.zero_mul, List.drop_zero, List.take_append_of_le_length (by rw [hl]; exact Nat.le_refl _), List.take_of_length_le (by rw [hl]; exact Nat.le_refl _)]
   exact hR _
  | succ j =>
   rw [List.getElem?_cons_succ] at hj
   have e : (j + 1) * size = (enc x).length + j * size := by rw [hl, Nat.add_mul]; omega
   rw [e, List.drop_length_add_append]; exact ih.2 j p hj
theorem C_lit {α : Type} (d : Kd α) {W : World} {g : Nat} {e : TypeId} {cs : Array Value} (xs : List α) (h : W.heap[g]? = some (.cells cs e (0, 0))) (hr : Reps (d.K W) d.sz xs cs.toList) (hn : xs.length ≤ 9223372036854775807) : Kd.C d W (some ⟨g, 0, none⟩) xs.length xs := by
 refine ⟨rfl, hn, fun _ => ⟨⟨g, 0, none⟩, rfl, fun j p hj => ⟨(cs.toList.drop (j * d.sz)).take d.sz, d.K_len (hr.2 j p hj), hr.2 j p hj, fun i u hu => ?_⟩⟩⟩
 have hi : i < d.sz := by
  have := (List.getElem?_eq_some_iff.mp hu).1; have h2 := d.K_len (hr.2 j p hj); omega
 rw [List.getElem?_take, if_pos hi, List.getElem?_drop, Array.getElem?_toList] at hu; have h3 := cell_at h (j * d.sz + i) u hu
 have e : (⟨g, 0, none⟩ : Addr).add (j * d.sz + i) = ⟨g, j * d.sz + i, none⟩ := by
  unfold Addr.add
  by_cases h0 : j * d.sz + i = 0
  ·rw [if_pos h0, h0]
  ·rw [if_neg h0, Nat.zero_add]
 rw [e]; exact h3
theorem C_lit27 {W : World} {g : Nat} (xs : List S27) (h : W.heap[g]? = some (.cells (xs.flatMap fun x => [Value.int .i64 x.f0, Value.int .i64 x.f1]).toArray 27 (0, 0))) (hn : xs.length ≤ 9223372036854775807) : Kd.C k27 W (some ⟨g, 0, none⟩) xs.length xs :=
 C_lit k27 xs h (reps_flat _ (fun x => Kd.K_of_M k27 (k27_mkM W 0 (fun _ => True) x)) (fun _ => rfl) xs) hn
theorem C_lit47 {W : World} {g : Nat} (xs : List S47) (h : W.heap[g]? = some (.cells (xs.flatMap fun x => [Value.int .i64 x.f0, Value.int .i64 x.f1]).toArray 47 (0, 0))) (hn : xs.length ≤ 9223372036854775807) : Kd.C k47 W (some ⟨g, 0, none⟩) xs.length xs :=
 C_lit k47 xs h (reps_flat _ (fun x => Kd.K_of_M k47 (k47_mkM W 0 (fun _ => True) x)) (fun _ => rfl) xs) hn
theorem C_lit3 {W : World} {g : Nat} (xs : List Int) (h : W.heap[g]? = some (.cells (xs.flatMap fun x => [Value.int .i64 x]).toArray 3 (0, 0))) (hn : xs.length ≤ 9223372036854775807) : Kd.C (Kd.int .i64) W (some ⟨g, 0, none⟩) xs.length xs :=
 C_lit (Kd.int .i64) xs h (reps_flat (R := (Kd.int .i64).K W) (fun x => [Value.int .i64 x]) (fun x => rfl) (fun _ => rfl) xs) hn
theorem V_read {α : Type} {d : Kd α} {e : Nat} {W : World} {base : Nat} {ok : Nat → Prop} {v : Value} {xs : List α} (h : Kd.V d e W base ok v xs) : ∃ A c, v = .slice A xs.length c ∧ xs.length ≤ c ∧ d.C W A xs.length xs := by
 obtain ⟨A, c, e, hl, hf⟩ := h; exact ⟨A, c, e, hl, Kd.F_now hf⟩
theorem r27_flat {W : World} {base : Nat} {ok ok' : Nat → Prop} {v : Value} {l : List S27} (h : Kd.R k27 27 W base ok v l) (hk : ∀ k, v.ownBlock = some k → ok' k) : Kd.R k27 27 W base ok' v l := ⟨hk, h.2⟩
theorem r27_step {W W1 : World} {base : Nat} {ok : Nat → Prop} {v : Value} {l : List S27} (h : Kd.R k27 27 W base ok v l) (hm : ∀ k, v.ownBlock = some k → W1.heap[k]? = W.heap[k]?) : Kd.R k27 27 W1 base ok v l :=
 r27_flat (Kd.R_move (r27_flat h (ok' := fun k => v.ownBlock = some k) (fun _ hk => hk)) hm) h.1
theorem r27_r86 {W : World} {base base' : Nat} {ok ok' : Nat → Prop} {v u : Value} {l : List S27} {l' : List S86} (h : Kd.R k27 27 W base ok v l) (h' : Kd.R k86 86 W base' ok' u l') (k : Nat) (hk : v.ownBlock = some k) : some k ≠ u.ownBlock := fun e => by
 obtain ⟨_, _, _, q, hq, cs, hc⟩ := (Kd.R_bound h).1 k hk; obtain ⟨_, _, _, q', hq', cs', hc'⟩ := (Kd.R_bound h').1 k e.symm; rw [hc] at hc'
 injection hc' with hc'
 injection hc' with _ hc'
 have e1 : q = 27 := by simpa [k27, Kd.iso, Kd.pair, Kd.int, Kd.scalar] using hq
 have e2 : q' = 86 := by simpa [k86, Kd.iso, Kd.pair, Kd.int, Kd.scalar] using hq'
 rw [e1, e2] at hc'; exact absurd hc' (by decide)
def lw_known.f : Option Bool := some true
set_option maxRecDepth 100000 in
set_option maxHeartbeats 8000000 in
theorem lw_known.calls (r : Bool) (w : World) (h : lw_known.f = some r) :
  Calls Try.prog 20 #[] w fun e w' => e = .returned (.bool r) ∧ Below w.heap.size w w' := by
 obtain rfl := Option.some.inj h; clear h; have HB := Aa (Below.refl w.heap.size w)
 go_enter Try.func20, Try.ntmps20
 go_wp2_with fail
 refine (lw_Clock.calls 100 3 50 _ rfl).mono ?_; rintro e w1 ⟨rfl, hb⟩; replace HB := Aa (Bp HB.out hb); clear hb
 go_wp2_with fail
 refine (skew_Span.calls 100 3 50 101 97 105 0 _ ex_span).mono ?_; rintro e w2 ⟨rfl, hb⟩; replace HB := Aa (Bp HB.out hb); clear hb; have HK1 := Aa (blk_new w2 (.cells #[.int .i64 97, .int .i64 105] 27)); replace HB := Aa (Ba HB.out (.cells #[.int .i64 97, .int .i64 105] 27))
 obtain ⟨n1, hn1⟩ : ∃ n1, w2.heap.size = n1 := ⟨_, rfl⟩
 go_wp2_with fail
 rw [hn1] at HK1; refine (lw_Clock.calls 100 3 50 _ rfl).mono ?_; rintro e w3 ⟨rfl, hb⟩; replace HB := Aa (Bp HB.out hb); replace HK1 := Aa (blk_below HK1.out hb); clear hb
 go_wp2_with fail
 refine (skew_Wait.calls 100 3 50 100 110 115 0 _ ex_wait).mono ?_; rintro e w4 ⟨rfl, hb⟩; replace HB := Aa (Bp HB.out hb); replace HK1 := Aa (blk_below HK1.out hb); clear hb
 go_wp2_with fail
 refine (lw_Clock.calls 100 3 50 _ rfl).mono ?_; rintro e w5 ⟨rfl, hb⟩; replace HB := Aa (Bp HB.out hb); replace HK1 := Aa (blk_below HK1.out hb); clear hb
 go_wp2_with fail
 refine (skew_Mark.calls 100 3 50 150 20 5 121 0 _ ex_mark).mono ?_; rintro e w6 ⟨rfl, hb⟩; replace HB := Aa (Bp HB.out hb); replace HK1 := Aa (blk_below HK1.out hb); clear hb
 go_wp2_with fail
 refine (lw_Span.calls 8 12 8 12 _ rfl).mono ?_; rintro e w7 ⟨rfl, hb⟩; replace HB := Aa (Bp HB.out hb); replace HK1 := Aa (blk_below HK1.out hb); clear hb
 go_wp2_with fail
 refine (lw_Span.calls 11 13 11 13 _ rfl).mono ?_; rintro e w8 ⟨rfl, hb⟩; replace HB := Aa (Bp HB.out hb); replace HK1 := Aa (blk_below HK1.out hb); clear hb
 go_wp2_with fail
 refine (lw_Span.calls 10 12 10 12 _ rfl).mono ?_; rintro e w9 ⟨rfl, hb⟩; replace HB := Aa (Bp HB.out hb); replace HK1 := Aa (blk_below HK1.out hb); clear hb
 go_wp2_with fail
 have hv := blk_new w9 (.cells #[.int .i64 8, .int .i64 12, .int .i64 11, .int .i64 13, .int .i64 10, .int .i64 12] 27); replace HB := Aa (Ba HB.out (.cells #[.int .i64 8, .int .i64 12, .int .i64 11, .int .i64 13, .int .i64 10, .int .i64 12] 27)); replace HK1 := Aa (Ka HK1.out (.cells #[.int .i64 8, .int .i64 12, .int .i64 11, .int .i64 13, .int .i64 10, .int .i64 12] 27)); refine (skew_Vote.calls (some ⟨w9.heap.size, 0, none⟩) 3 [⟨8, 12⟩, ⟨11, 13⟩, ⟨10, 12⟩] 11 12 3 0 (w9.alloc (.cells #[.int .i64 8, .int .i64 12, .int .i64 11, .int .i64 13, .int .i64 10, .int .i64 12] 27)) (C_lit27 _ hv (by decide)) (by decide) ex_vote).mono ?_; rintro e w10 ⟨rfl, hb⟩; replace HB := Aa (Bp HB.out hb); replace HK1 := Aa (blk_below HK1.out hb); clear hb hv; have HK2 := Aa (blk_new w10 (.cells #[.int .i64 11, .int .i64 12] 27)); replace HB := Aa (Ba HB.out (.cells #[.int .i64 11, .int .i64 12] 27)); replace HK1 := Aa (Ka HK1.out (.cells #[.int .i64 11, .int .i64 12] 27))
 obtain ⟨n2, hn2⟩ : ∃ n2, w10.heap.size = n2 := ⟨_, rfl⟩
 rw [hn2] at HK2
 go_wp2_with fail
 have y1 := cell_at HK1.out 0 (.int .i64 97) rfl; have y2 := cell_at HK1.out 1 (.int .i64 105) rfl; have y3 := cell_at HK2.out 0 (.int .i64 11) rfl; have y4 := cell_at HK2.out 1 (.int .i64 12) rfl; clear HK1 HK2; generalize (w10.alloc (.cells #[.int .i64 11, .int .i64 12] 27)) = W at HB y1 y2 y3 y4 ⊢; have HBd := Aa (Dn HB.out)
 go_region_held3 (fun W' => Below w.heap.size w W' ∧ W'.cell? ⟨n1, 0, none⟩ = some (.int .i64 97) ∧ W'.cell? ⟨n1, 1, none⟩ = some (.int .i64 105) ∧ W'.cell? ⟨n2, 0, none⟩ = some (.int .i64 11) ∧ W'.cell? ⟨n2, 1, none⟩ = some (.int .i64 12))
  (first | (with_reducible (refine ⟨HBd.out, ?_, ?_, ?_, ?_⟩)) <;> (apply cell_drew; with_reducible assumption) | (go_split_ands; (with_reducible refine ⟨Bp (by assumption) hb, ?_, ?_, ?_, ?_⟩) <;> (apply pw_cell_below hb; with_reducible assumption)))
  (first | (go_at_call 54; (with_reducible refine (lw_Span.calls 97 105 97 105 _ rfl).mono ?_); rintro e w' ⟨rfl, hb⟩) | (go_at_call 54; (with_reducible refine (lw_Span.calls 11 12 11 12 _ rfl).mono ?_); rintro e w' ⟨rfl, hb⟩))
 rename_i hS
 replace HB := Aa hS.1; clear hS y1 y2 y3 y4
 go_wp2_with fail
 refine (lw_Hist.calls exE exG _ ex_hist).mono ?_; rintro e w11 ⟨v0, v1, rfl, ho0, ho1, hb⟩; obtain ⟨A0, c0, rfl, hc0, hC0⟩ := Kd.R_reads ho0; obtain ⟨A1, c1, rfl, hc1, hC1⟩ := Kd.R_reads ho1; replace HB := Aa (Bp HB.out hb); have HCa := Aa hC0; have HCb := Aa hC1; clear hb ho0 ho1 hC0 hC1
 go_wp2_with fail
 refine (skew_Tight.calls A0 c0 exE A1 c1 exG [⟨10, 20⟩, ⟨15, 28⟩, ⟨16, 40⟩] 0 _ HCa.out hc0 HCb.out hc1 ex_tight).mono ?_; rintro e w12 ⟨vt, rfl, hv, hb⟩; obtain ⟨At, ct, rfl, hct, hCt⟩ := V_read hv; replace HB := Aa (Bp HB.out hb); have HCt := Aa hCt; clear hb hv hCt HCa HCb
 go_wp2_with fail
 refine (lw_Hist.calls exE exG _ ex_hist).mono ?_; rintro e w13 ⟨v0, v1, rfl, ho0, ho1, hb⟩; obtain ⟨A0, c0, rfl, hc0, hC0⟩ := Kd.R_reads ho0; obtain ⟨A1, c1, rfl, hc1, hC1⟩ := Kd.R_reads ho1; replace HB := Aa (Bp HB.out hb); replace HCt := Aa (Kd.C_below HCt.out hb); have HCa := Aa hC0; have HCb := Aa hC1; clear hb ho0 ho1 hC0 hC1
 go_wp2_with fail
 refine (skew_Sure.calls A0 c0 exE A1 c1 exG 0 1 true 0 _ HCa.out hc0 HCb.out hc1 ex_sure1).mono ?_; rintro e w14 ⟨rfl, hb⟩; replace HB := Aa (Bp HB.out hb); replace HCt := Aa (Kd.C_below HCt.out hb); clear hb HCa HCb
 go_wp2_with fail
 refine (lw_Hist.calls exE exG _ ex_hist).mono ?_; rintro e w15 ⟨v0, v1, rfl, ho0, ho1, hb⟩; obtain ⟨A0, c0, rfl, hc0, hC0⟩ := Kd.R_reads ho0; obtain ⟨A1, c1, rfl, hc1, hC1⟩ := Kd.R_reads ho1; replace HB := Aa (Bp HB.out hb); replace HCt := Aa (Kd.C_below HCt.out hb); have HCa := Aa hC0; have HCb := Aa hC1; clear hb ho0 ho1 hC0 hC1
 go_wp2_with fail
 refine (skew_Sure.calls A0 c0 exE A1 c1 exG 2 0 false 0 _ HCa.out hc0 HCb.out hc1 ex_sure2).mono ?_; rintro e w16 ⟨rfl, hb⟩; replace HB := Aa (Bp HB.out hb); replace HCt := Aa (Kd.C_below HCt.out hb); clear hb HCa HCb
 go_wp2_with fail
 refine (lw_Hist.calls exE exG _ ex_hist).mono ?_; rintro e w17 ⟨v0, v1, rfl, ho0, ho1, hb⟩; obtain ⟨A0, c0, rfl, hc0, hC0⟩ := Kd.R_reads ho0; obtain ⟨A1, c1, rfl, hc1, hC1⟩ := Kd.R_reads ho1; replace HB := Aa (Bp HB.out hb); replace HCt := Aa (Kd.C_below HCt.out hb); have HCa := Aa hC0; have HCb := Aa hC1; clear hb ho0 ho1 hC0 hC1
 go_wp2_with fail
 refine (skew_Order.calls A0 c0 exE A1 c1 exG [0, 1, 2] 0 _ HCa.out hc0 HCb.out hc1 ex_order).mono ?_; rintro e w18 ⟨vo, rfl, hv, hb⟩; obtain ⟨Ao, co, rfl, hco, hCo⟩ := V_read hv; replace HB := Aa (Bp HB.out hb); replace HCt := Aa (Kd.C_below HCt.out hb); have HCo := Aa hCo; clear hb hv hCo HCa HCb
 go_wp2_with fail
 refine (lw_Span.calls 10 20 10 20 _ rfl).mono ?_; rintro e w19 ⟨rfl, hb⟩; replace HB := Aa (Bp HB.out hb); replace HCt := Aa (Kd.C_below HCt.out hb); replace HCo := Aa (Kd.C_below HCo.out hb); clear hb
 go_wp2_with fail
 refine (lw_Span.calls 15 28 15 28 _ rfl).mono ?_; rintro e w20 ⟨rfl, hb⟩; replace HB := Aa (Bp HB.out hb); replace HCt := Aa (Kd.C_below HCt.out hb); replace HCo := Aa (Kd.C_below HCo.out hb); clear hb
 go_wp2_with fail
 refine (lw_Span.calls 16 40 16 40 _ rfl).mono ?_; rintro e w21 ⟨rfl, hb⟩; replace HB := Aa (Bp HB.out hb); replace HCt := Aa (Kd.C_below HCt.out hb); replace HCo := Aa (Kd.C_below HCo.out hb); clear hb
 go_wp2_with fail
 have hl := blk_new w21 (.cells #[.int .i64 10, .int .i64 20, .int .i64 15, .int .i64 28, .int .i64 16, .int .i64 40] 27); have hba := Ba (Below.refl _ _) (.cells #[.int .i64 10, .int .i64 20, .int .i64 15, .int .i64 28, .int .i64 16, .int .i64 40] 27) (W := w21); refine (rf_SameSpans.calls 10 At ct [⟨10, 20⟩, ⟨15, 28⟩, ⟨16, 40⟩] (some ⟨w21.heap.size, 0, none⟩) 3 [⟨10, 20⟩, ⟨15, 28⟩, ⟨16, 40⟩] true (w21.alloc (.cells #[.int .i64 10, .int .i64 20, .int .i64 15, .int .i64 28, .int .i64 16, .int .i64 40] 27)) (Kd.C_below HCt.out hba) hct (C_lit27 _ hl (by decide)) (by decide) ex_same1).mono ?_; rintro e w22 ⟨rfl, hd⟩; have hb := hba.trans (below_weak hd.below hba.size); replace HB := Aa (Bp HB.out hb); replace HCo := Aa (Kd.C_below HCo.out hb); clear hb hba hl hd HCt
 go_wp2_with fail
 have hl := blk_new w22 (.cells #[.int .i64 0, .int .i64 1, .int .i64 2] 3); have hba := Ba (Below.refl _ _) (.cells #[.int .i64 0, .int .i64 1, .int .i64 2] 3) (W := w22); refine (rf_Same.calls 10 Ao co [0, 1, 2] (some ⟨w22.heap.size, 0, none⟩) 3 [0, 1, 2] true (w22.alloc (.cells #[.int .i64 0, .int .i64 1, .int .i64 2] 3)) (Kd.C_below HCo.out hba) hco (C_lit3 _ hl (by decide)) (by decide) ex_same2).mono ?_; rintro e w23 ⟨rfl, hd⟩; have hb := hba.trans (below_weak hd.below hba.size); replace HB := Aa (Bp HB.out hb); clear hb hba hl hd HCo
 go_wp2_with fail
 refine (lw_Hist.calls exE exG _ ex_hist).mono ?_; rintro e w24 ⟨v0, v1, rfl, ho0, ho1, hb⟩; have HSz0 := Aa (HB.out.size); obtain ⟨A0, c0, rfl, hc0, hC0⟩ := Kd.R_reads ho0; obtain ⟨A1, c1, rfl, hc1, hC1⟩ := Kd.R_reads ho1; replace HB := Aa (Bp HB.out hb); have hk3 := blk_new w24 (.cells #[.slice A0 exE.length c0, .slice A1 exG.length c1] 39); have hb3 := Ba (Below.refl w24.heap.size w24) (.cells #[.slice A0 exE.length c0, .slice A1 exG.length c1] 39); have HSw := Aa (HB.out.size); replace HB := Aa (Bp HB.out hb3); have HOa := Aa (Kd.R_below ho0 hb3); have HOb := Aa (Kd.R_below ho1 hb3); have HOl := Aa (fun k (hk : (Value.slice A1 exG.length c1).ownBlock = some k) => ((Kd.R_bound ho1).1 k hk).2.2.1); have HK3 := Aa hk3; have HSz := Aa (Nat.le_trans hb.size hb3.size); have z1 := cell_at hk3 1 (.slice A1 exG.length c1) rfl; have z0 := cell_at hk3 0 (.slice A0 exE.length c0) rfl; clear hb hb3 ho0 ho1 hC0 hC1 hk3
 go_wp2_with (at_builtin; go_must (refine Kd.R_append k86 (w0 := (w24.alloc (.cells #[.slice A0 exE.length c0, .slice A1 exG.length c1] 39))) (W := (w24.alloc (.cells #[.slice A0 exE.length c0, .slice A1 exG.length c1] 39))) w23.heap.size rfl (.tmp 138) (.tmp 140) 37 86 (.agg #[(.int .i64 0), (.int .i64 0), (.int .i64 0), (.int .i64 0)]) 32 rfl Try.underlying37 info86 rfl (by decide) (by decide) (.slice A1 exG.length c1) exG ⟨2, 0, -3, 100⟩ [.int .i64 2, .int .i64 0, .int .i64 (-3), .int .i64 100] (fun _ => True) (fun _ => False) rfl (by rw [World.size_alloc]; rfl) (k86_mkM _ _ _ (⟨2, 0, -3, 100⟩ : S86)) (fun _ hk => hk.elim) (fun _ _ => trivial) HOb.out (Below.refl _ _) HSz.out (by decide) ?_; intro v1 w25 ho hb hg hat; obtain ⟨A7, c7, hc7, e7⟩ : ∃ A7 c7, (exG ++ [(⟨2, 0, -3, 100⟩ : S86)]).length ≤ c7 ∧ v1 = .slice A7 3 c7 := (by obtain ⟨A, c, e, hc, _⟩ := Kd.R_reads ho; exact ⟨A, c, hc, e⟩); subst e7; have HP := Aa ho; have HG := Aa hg; have hk5 := (hg.block w24.heap.size (blk_lt HK3.out) (fun e => by have := HOl.out _ e.symm; omega)).trans HK3.out; have HK5 := Aa hk5; have z2 := cell_at hk5 1 (.slice A1 exG.length c1) rfl; have z3 := Bf hk5 1; have z4 := cell_at hk5 0 (.slice A0 exE.length c0) rfl; clear ho hb hg hat hk5))
 have hra := r27_step HOa.out (W1 := w25) (fun k hk => HG.out.block k ((Kd.R_bound HOa.out).1 k hk).2.2.1 (r27_r86 HOa.out HOb.out k hk)); have hsa := Kd.R_set hra HK5.out (by decide) 1 (.slice A7 3 c7); have hsb := Kd.R_set HP.out HK5.out (by decide) 1 (.slice A7 3 c7); have hg5 := HG.out
 have hbn : Below w.heap.size w (w25.setCell ⟨w24.heap.size, 1, none⟩ (.slice A7 3 c7)) := by
  have h1 : Below w.heap.size w w25 := below_grown HB.out hg5 HB.out.size (fun r e => by
   have h2 := ((Kd.R_bound HOb.out).1 r e).2.1; have h3 := HSz0.out
   omega)
  exact h1.setCell (show w.heap.size ≤ w24.heap.size from HSw.out) _
 replace HB := Aa hbn; obtain ⟨Ax, cx, ex, hcx, hCx⟩ := Kd.R_reads hsa; obtain ⟨Ay, cy, ey, hcy, hCy⟩ := Kd.R_reads hsb; cases ex; cases ey; have HCa := Aa hCx; have HCb := Aa hCy; clear hra hsa hsb hg5 hbn hCx hCy z0 z1 z2 z3 z4 HK5 HOa HOb HOl HK3 HP HG; generalize (w25.setCell ⟨w24.heap.size, 1, none⟩ (.slice A7 3 c7)) = w26 at HB HCa HCb ⊢; refine (skew_Reason.calls A0 c0 exE A7 c7 exP [3, 4, 5] 0 w26 HCa.out hcx HCb.out hcy ex_reason).mono ?_; rintro e w27 ⟨vr, rfl, hv, hb⟩; obtain ⟨Ar, cr, rfl, hcr, hCr⟩ := V_read hv; replace HB := Aa (Bp HB.out hb); have HCr := Aa hCr; clear hb hv hCr HCa HCb
 go_wp2_with fail
 refine (lw_Run.calls exR _ ex_run).mono ?_; rintro e w28 ⟨v0, rfl, ho0, hb⟩; obtain ⟨A2, c2, rfl, hc2, hC2⟩ := Kd.R_reads ho0; replace HB := Aa (Bp HB.out hb); replace HCr := Aa (Kd.C_below HCr.out hb); have HC2 := Aa hC2; clear hb ho0 hC2
 go_wp2_with fail
 refine (skew_Stamps.calls A2 c2 exR [⟨50, 0⟩, ⟨50, 1⟩, ⟨50, 2⟩, ⟨50, 3⟩, ⟨60, 0⟩] 0 _ HC2.out hc2 ex_stamps).mono ?_; rintro e w29 ⟨vs, rfl, hv, hb⟩; obtain ⟨As, cs, rfl, hcs, hCs⟩ := V_read hv; replace HB := Aa (Bp HB.out hb); replace HCr := Aa (Kd.C_below HCr.out hb); have HCs := Aa hCs; clear hb hv hCs HC2
 go_wp2_with fail
 refine (lw_Run.calls exR _ ex_run).mono ?_; rintro e w30 ⟨v0, rfl, ho0, hb⟩; obtain ⟨A2, c2, rfl, hc2, hC2⟩ := Kd.R_reads ho0; replace HB := Aa (Bp HB.out hb); replace HCr := Aa (Kd.C_below HCr.out hb); replace HCs := Aa (Kd.C_below HCs.out hb); have HC2 := Aa hC2; clear hb ho0 hC2
 go_wp2_with fail
 refine (skew_Counts.calls A2 c2 exR [[1, 0, 0, 0, 0, 0], [1, 1, 0, 0, 0, 0], [1, 2, 0, 0, 0, 0], [2, 2, 0, 0, 0, 0], [0, 0, 1, 0, 0, 0]] 0 _ HC2.out hc2 ex_counts).mono ?_; rintro e w31 ⟨vc, rfl, hv, hb⟩; obtain ⟨Ac, cc, rfl, hcc, hCc⟩ := V_read hv; replace HB := Aa (Bp HB.out hb); replace HCr := Aa (Kd.C_below HCr.out hb); replace HCs := Aa (Kd.C_below HCs.out hb); have HCc := Aa hCc; clear hb hv hCc HC2
 go_wp2_with fail
 refine (lw_Run.calls exR _ ex_run).mono ?_; rintro e w32 ⟨v0, rfl, ho0, hb⟩; obtain ⟨A2, c2, rfl, hc2, hC2⟩ := Kd.R_reads ho0; replace HB := Aa (Bp HB.out hb); replace HCr := Aa (Kd.C_below HCr.out hb); replace HCs := Aa (Kd.C_below HCs.out hb); replace HCc := Aa (Kd.C_below HCc.out hb); have HC2 := Aa hC2; clear hb ho0 hC2
 go_wp2_with fail
 refine (skew_At.calls A2 c2 exR 50 2 [1, 2, 0, 0, 0, 0] 0 _ HC2.out hc2 ex_at).mono ?_; rintro e w33 ⟨vq, rfl, hv, hb⟩; obtain ⟨Aq, cq, rfl, hcq, hCq⟩ := Kd.R_reads hv; replace HB := Aa (Bp HB.out hb); replace HCr := Aa (Kd.C_below HCr.out hb); replace HCs := Aa (Kd.C_below HCs.out hb); replace HCc := Aa (Kd.C_below HCc.out hb); have HCq := Aa hCq; clear hb hv hCq HC2
 go_wp2_with fail
 have hl := blk_new w33 (.cells #[.int .i64 3, .int .i64 4, .int .i64 5] 3); have hba := Ba (Below.refl _ _) (.cells #[.int .i64 3, .int .i64 4, .int .i64 5] 3) (W := w33); refine (rf_Same.calls 10 Ar cr [3, 4, 5] (some ⟨w33.heap.size, 0, none⟩) 3 [3, 4, 5] true (w33.alloc (.cells #[.int .i64 3, .int .i64 4, .int .i64 5] 3)) (Kd.C_below HCr.out hba) hcr (C_lit3 _ hl (by decide)) (by decide) ex_same3).mono ?_; rintro e w34 ⟨rfl, hd⟩; have hb := hba.trans (below_weak hd.below hba.size); replace HB := Aa (Bp HB.out hb); replace HCs := Aa (Kd.C_below HCs.out hb); have hCc := Kd.C_below HCc.out hb; replace HCq := Aa (Kd.C_below HCq.out hb); obtain ⟨ad, cl, e1, _, hK, hcell⟩ := Kd.C_get hCc [] 3 (by decide) (by decide); obtain ⟨A3, c3, e3, hc3, hC3⟩ := hK; subst e1; subst e3; have z1 : w34.cell? (ad.add 3) = some (.slice A3 6 c3) := hcell 0 _ rfl; have z1b : w34.cell? ⟨ad.block, ad.off + 3, none⟩ = some (.slice A3 6 c3) := z1; have HC3 := Aa hC3; clear hb hba hl hd hCc hcell hC3 HCr HCc
 go_wp2_with fail
 have hl := blk_new w34 (.cells #[.int .i64 2, .int .i64 2, .int .i64 0, .int .i64 0, .int .i64 0, .int .i64 0] 3); have hba := Ba (Below.refl _ _) (.cells #[.int .i64 2, .int .i64 2, .int .i64 0, .int .i64 0, .int .i64 0, .int .i64 0] 3) (W := w34); refine (rf_Same.calls 10 A3 c3 [2, 2, 0, 0, 0, 0] (some ⟨w34.heap.size, 0, none⟩) 6 [2, 2, 0, 0, 0, 0] true (w34.alloc (.cells #[.int .i64 2, .int .i64 2, .int .i64 0, .int .i64 0, .int .i64 0, .int .i64 0] 3)) (Kd.C_below HC3.out hba) hc3 (C_lit3 _ hl (by decide)) (by decide) ex_same4).mono ?_; rintro e w35 ⟨rfl, hd⟩; have hb := hba.trans (below_weak hd.below hba.size); replace HB := Aa (Bp HB.out hb); replace HCs := Aa (Kd.C_below HCs.out hb); replace HCq := Aa (Kd.C_below HCq.out hb); clear hb hba hl hd HC3 z1 z1b
 go_wp2_with fail
 have hl := blk_new w35 (.cells #[.int .i64 1, .int .i64 2, .int .i64 0, .int .i64 0, .int .i64 0, .int .i64 0] 3); have hba := Ba (Below.refl _ _) (.cells #[.int .i64 1, .int .i64 2, .int .i64 0, .int .i64 0, .int .i64 0, .int .i64 0] 3) (W := w35); refine (rf_Same.calls 10 Aq cq [1, 2, 0, 0, 0, 0] (some ⟨w35.heap.size, 0, none⟩) 6 [1, 2, 0, 0, 0, 0] true (w35.alloc (.cells #[.int .i64 1, .int .i64 2, .int .i64 0, .int .i64 0, .int .i64 0, .int .i64 0] 3)) (Kd.C_below HCq.out hba) hcq (C_lit3 _ hl (by decide)) (by decide) ex_same5).mono ?_; rintro e w36 ⟨rfl, hd⟩; have hb := hba.trans (below_weak hd.below hba.size); replace HB := Aa (Bp HB.out hb); replace HCs := Aa (Kd.C_below HCs.out hb); clear hb hba hl hd HCq
 go_wp2_with fail
 refine (lw_Run.calls exR _ ex_run).mono ?_; rintro e w37 ⟨v0, rfl, ho0, hb⟩; obtain ⟨A2, c2, rfl, hc2, hC2⟩ := Kd.R_reads ho0; replace HB := Aa (Bp HB.out hb); replace HCs := Aa (Kd.C_below HCs.out hb); have HC2 := Aa hC2; clear hb ho0 hC2
 go_wp2_with fail
 have hl := blk_new w37 (.cells #[.int .i64 2, .int .i64 1, .int .i64 0, .int .i64 0, .int .i64 0, .int .i64 0] 3); have hba := Ba (Below.refl _ _) (.cells #[.int .i64 2, .int .i64 1, .int .i64 0, .int .i64 0, .int .i64 0, .int .i64 0] 3) (W := w37); refine (skew_Closed.calls A2 c2 exR (some ⟨w37.heap.size, 0, none⟩) 6 [2, 1, 0, 0, 0, 0] false 0 (w37.alloc (.cells #[.int .i64 2, .int .i64 1, .int .i64 0, .int .i64 0, .int .i64 0, .int .i64 0] 3)) (Kd.C_below HC2.out hba) hc2 (C_lit3 _ hl (by decide)) (by decide) ex_closed).mono ?_; rintro e w38 ⟨rfl, hb1⟩; have hb := hba.trans (below_weak hb1 hba.size); replace HB := Aa (Bp HB.out hb); replace HCs := Aa (Kd.C_below HCs.out hb); clear hb hba hl hb1 HC2
 go_wp2_with fail
 have hl := blk_new w38 (.cells #[.int .i64 50, .int .i64 0, .int .i64 50, .int .i64 1, .int .i64 50, .int .i64 2, .int .i64 50, .int .i64 3, .int .i64 60, .int .i64 0] 47); have hba := Ba (Below.refl _ _) (.cells #[.int .i64 50, .int .i64 0, .int .i64 50, .int .i64 1, .int .i64 50, .int .i64 2, .int .i64 50, .int .i64 3, .int .i64 60, .int .i64 0] 47) (W := w38); refine (rf_SameStamps.calls 10 As cs [⟨50, 0⟩, ⟨50, 1⟩, ⟨50, 2⟩, ⟨50, 3⟩, ⟨60, 0⟩] (some ⟨w38.heap.size, 0, none⟩) 5 [⟨50, 0⟩, ⟨50, 1⟩, ⟨50, 2⟩, ⟨50, 3⟩, ⟨60, 0⟩] true (w38.alloc (.cells #[.int .i64 50, .int .i64 0, .int .i64 50, .int .i64 1, .int .i64 50, .int .i64 2, .int .i64 50, .int .i64 3, .int .i64 60, .int .i64 0] 47)) (Kd.C_below HCs.out hba) hcs (C_lit47 _ hl (by decide)) (by decide) ex_same6).mono ?_; rintro e w39 ⟨rfl, hd⟩; have hb := hba.trans (below_weak hd.below hba.size); replace HB := Aa (Bp HB.out hb); clear hb hba hl hd HCs; go_wp2; go_ret; exact ⟨rfl, HB.out⟩
end Go.Proofs.Ytobcecgcegoooaa.Sk
namespace Go.Proofs.Ytobcecgcegoooaa.Sk
open Go.RowKit Go.Proofs.YtobcecgcegoooaaW.PrintWords Go.Proofs.YtobcecgcegoooaaW.PrintLast Go.Proofs.YtobcecgcegoooaaW.PrintMore
attribute [local go_sem] max2_int min2_int max_two min_two
set_option linter.unusedVariables false
set_option linter.unusedSimpArgs false
structure US (evs : List S27) (gaps : List S86) (bys : List Int) (A0 A1 A4 : Option Addr) (c0 c1 c4 n0 : Nat) (w W : World) : Prop where
 bel : Below w.heap.size w W
 k0 : W.heap[n0]? = some (.cells #[.slice A0 evs.length c0, .slice A1 gaps.length c1] 39 (0, 0))
 a0 : Kd.C k27 W A0 evs.length evs
 a1 : Kd.C k86 W A1 gaps.length gaps
 a4 : Kd.C (Kd.int .u8) W A4 bys.length bys
theorem US.below {evs : List S27} {gaps : List S86} {bys : List Int} {A0 A1 A4 : Option Addr} {c0 c1 c4 n0 : Nat} {w W W' : World} (h : US evs gaps bys A0 A1 A4 c0 c1 c4 n0 w W) (hb : Below W.heap.size W W') : US evs gaps bys A0 A1 A4 c0 c1 c4 n0 w W' :=
 ⟨Bp h.bel hb, blk_below h.k0 hb, Kd.C_below h.a0 hb, Kd.C_below h.a1 hb, Kd.C_below h.a4 hb⟩
set_option maxHeartbeats 8000000 in
set_option maxRecDepth 100000 in
theorem sure_no (A0 : Option Addr) (c0 : Nat) (evs : List S27) (A1 : Option Addr) (c1 : Nat) (gaps : List S86) (a b c : Int) (A4 : Option Addr) (c4 : Nat) (bys : List Int) (w : World) (hr0 : Kd.C k27 w A0 evs.length evs) (hc0 : evs.length ≤ c0) (hr1 : Kd.C k86 w A1 gaps.length gaps) (hc1 : gaps.length ≤ c1) (hr4 : Kd.C (Kd.int .u8) w A4 bys.length bys) (hc4 : bys.length ≤ c4)
  (hh : histB evs gaps = false ∨ evs = []) :
  Calls Try.prog 13 #[.agg #[.slice A0 evs.length c0, .slice A1 gaps.length c1], .int .u8 a, .int .u8 b, .int .u8 c, .slice A4 bys.length c4] w fun e w' => e = .returned (.bool true) ∧ Below w.heap.size w w' := by
 obtain ⟨kh, hkh⟩ := Ev.rounds (ev_Hist evs gaps)
 have hS0 : US evs gaps bys A0 A1 A4 c0 c1 c4 w.heap.size w (w.alloc (.cells #[.slice A0 evs.length c0, .slice A1 gaps.length c1] 39)) := ⟨Ba (Below.refl _ _) _, blk_new w _, Kd.C_alloc hr0 _, Kd.C_alloc hr1 _, Kd.C_alloc hr4 _⟩
 have HS := Aa hS0; have HKH := Aa hkh; have Hc0 := Aa hc0; have Hc1 := Aa hc1; have x0 := cell_at hS0.k0 0 (.slice A0 evs.length c0) rfl; have x1 := cell_at hS0.k0 1 (.slice A1 gaps.length c1) rfl; clear hr0 hc0 hr1 hc1 hr4 hc4 hkh hS0
 go_enter Try.func13, Try.ntmps13
 go_wp2_with fail
 generalize w.alloc (.cells #[.slice A0 evs.length c0, .slice A1 gaps.length c1] 39) = w0 at HS x0 x1 ⊢; refine (rf_Hist.calls kh A0 c0 evs A1 c1 gaps (histB evs gaps) w0 HS.out.a0 Hc0.out HS.out.a1 Hc1.out HKH.out).mono ?_; rintro e w1 ⟨rfl, hb⟩; replace HS := Aa (HS.out.below hb); have y0 := cell_at HS.out.k0 0 (.slice A0 evs.length c0) rfl; have HF := Aa (fun W => lw_known.calls true W rfl); clear hb x0 x1 HKH
 cases hq : histB evs gaps with
 | false =>
  clear hh hq y0
  go_wp2_with fail
  refine (HF.out w1).mono ?_; rintro e w9 ⟨rfl, hb⟩; have HS9 := Aa (HS.out.below hb); clear hb HS; go_wp2; go_ret
  exact ⟨rfl, HS9.out.bel⟩
 | true =>
  rw [hq] at hh; obtain rfl := hh.resolve_left (by simp); clear hh hq
  go_wp2_with fail
  refine (HF.out w1).mono ?_; rintro e w9 ⟨rfl, hb⟩; have HS9 := Aa (HS.out.below hb); clear hb HS; go_wp2; go_ret; exact ⟨rfl, HS9.out.bel⟩
set_option maxHeartbeats 8000000 in
set_option maxRecDepth 100000 in
theorem sure_none (A0 : Option Addr) (c0 : Nat) (evs : List S27) (A1 : Option Addr) (c1 : Nat) (gaps : List S86) (a b c : Int) (A4 : Option Addr) (c4 : Nat) (bys : List Int) (w : World) (hr0 : Kd.C k27 w A0 evs.length evs) (hc0 : evs.length ≤ c0) (hr1 : Kd.C k86 w A1 gaps.length gaps) (hc1 : gaps.length ≤ c1) (hr4 : Kd.C (Kd.int .u8) w A4 bys.length bys) (hc4 : bys.length ≤ c4)
  (hh : histB evs gaps = true) (hn : evs.length ≠ 0) (ha : 0 ≤ a ∧ a ≤ 255) (hb : 0 ≤ b ∧ b ≤ 255) (hcc : 0 ≤ c ∧ c ≤ 255) (hby : ∀ x ∈ bys, 0 ≤ x ∧ x ≤ 255) (hs : (solveR evs gaps).2 = false) :
  Calls Try.prog 13 #[.agg #[.slice A0 evs.length c0, .slice A1 gaps.length c1], .int .u8 a, .int .u8 b, .int .u8 c, .slice A4 bys.length c4] w fun e w' => e = .returned (.bool true) ∧ Below w.heap.size w w' := by
 obtain ⟨kh, hkh⟩ := Ev.rounds (ev_Hist evs gaps); rw [hh] at hkh; have hI := (histIs evs gaps).mp hh
 have hS0 : US evs gaps bys A0 A1 A4 c0 c1 c4 w.heap.size w (w.alloc (.cells #[.slice A0 evs.length c0, .slice A1 gaps.length c1] 39)) := ⟨Ba (Below.refl _ _) _, blk_new w _, Kd.C_alloc hr0 _, Kd.C_alloc hr1 _, Kd.C_alloc hr4 _⟩
 have HS := Aa hS0; have HKH := Aa hkh; have HIs := Aa hI; have HN := Aa (show 1 ≤ evs.length ∧ evs.length ≤ 10 by have := hI.n; omega); have Hc0 := Aa hc0; have Hc1 := Aa hc1; have Hc4 := Aa hc4; have HA := Aa ha; have HB := Aa hb; have HC := Aa hcc; have HBy := Aa hby; have HSv := Aa hs; have HHb := Aa hh; have x0 := cell_at hS0.k0 0 (.slice A0 evs.length c0) rfl; have x1 := cell_at hS0.k0 1 (.slice A1 gaps.length c1) rfl; clear hr0 hc0 hr1 hc1 hr4 hc4 hh ha hb hcc hby hs hkh hI hS0
 go_enter Try.func13, Try.ntmps13
 go_wp2_with fail
 generalize w.alloc (.cells #[.slice A0 evs.length c0, .slice A1 gaps.length c1] 39) = w0 at HS x0 x1 ⊢; refine (rf_Hist.calls kh A0 c0 evs A1 c1 gaps true w0 HS.out.a0 Hc0.out HS.out.a1 Hc1.out HKH.out).mono ?_; rintro e w1 ⟨rfl, hb⟩; replace HS := Aa (HS.out.below hb); have y0 := cell_at HS.out.k0 0 (.slice A0 evs.length c0) rfl; have y1 := cell_at HS.out.k0 1 (.slice A1 gaps.length c1) rfl
 have hne : ((evs.length : Int) == 0) = false := by rw [beq_eq_false_iff_ne]; omega
 have hne0 : (0 : Int) < evs.length := by have := HN.out; omega
 clear hb x0 x1 hn w0
 go_wp2_with fail
 have ewa : IntKind.i64.wrap a = a := IntWalk.i64_in _ (by have := HA.out; omega); have ewb : IntKind.i64.wrap b = b := IntWalk.i64_in _ (by have := HB.out; omega); have ewc : IntKind.i64.wrap c = c := IntWalk.i64_in _ (by have := HC.out; omega)
 obtain ⟨x, hx⟩ : ∃ x, (IntKind.i64.wrap a).tmod (evs.length : Int) = x := ⟨_, rfl⟩
 obtain ⟨y, hy⟩ : ∃ y, (IntKind.i64.wrap b).tmod (evs.length : Int) = y := ⟨_, rfl⟩
 obtain ⟨z, hz⟩ : ∃ z, (IntKind.i64.wrap c).tmod (evs.length : Int) = z := ⟨_, rfl⟩
 have hx01 : 0 ≤ x ∧ x < evs.length := by rw [← hx, ewa, Int.tmod_eq_emod_of_nonneg HA.out.1]; exact ⟨Int.emod_nonneg _ (by omega), Int.emod_lt_of_pos _ (by omega)⟩
 have hy01 : 0 ≤ y ∧ y < evs.length := by rw [← hy, ewb, Int.tmod_eq_emod_of_nonneg HB.out.1]; exact ⟨Int.emod_nonneg _ (by omega), Int.emod_lt_of_pos _ (by omega)⟩
 have hz01 : 0 ≤ z ∧ z < evs.length := by rw [← hz, ewc, Int.tmod_eq_emod_of_nonneg HC.out.1]; exact ⟨Int.emod_nonneg _ (by omega), Int.emod_lt_of_pos _ (by omega)⟩
 have HX := Aa hx01; have HY := Aa hy01; have HZ := Aa hz01; have ha0 := HA.out.1; have ha1 := HA.out.2; have hb0 := HB.out.1; have hb1 := HB.out.2; have hcc0 := HC.out.1; have hcc1 := HC.out.2
 have hn10 : (evs.length : Int) ≤ 10 := by have := HN.out.2; omega
 have hnz : ¬ ((evs.length : Int) = 0) := by omega
 have hnz2 : ¬ (evs.length = 0) := by omega
 clear hx01 hy01 hz01 y0 y1 ewa ewb ewc
 go_region_held3 (fun W => True)
  (first | trivial | (trace_state; fail))
  (fail)
 replace HS := Aa (HS.out.below (Dn (Below.refl w1.heap.size w1))); clear hx hy hz ha0 ha1 hb0 hb1 hcc0 hcc1 hn10 hnz hnz2 hne hne0 HA HB HC; generalize w1.drew = w2 at HS ⊢; have y0 := cell_at HS.out.k0 0 (.slice A0 evs.length c0) rfl; have y1 := cell_at HS.out.k0 1 (.slice A1 gaps.length c1) rfl
 have sq : skew_Sure.f evs gaps x y = some (false, 5) := by
  rw [sure_skew_f]; unfold sureQ; rw [if_pos ⟨HHb.out, HX.out, HY.out⟩, if_neg (by rw [HSv.out]; simp)]
 have ht : tightA evs gaps = ([], 5) := by unfold tightA; rw [if_pos HHb.out, if_neg (by rw [HSv.out]; simp)]
 have HSq := Aa sq; have HT := Aa ht; clear sq ht
 go_wp2_with fail
 refine (skew_Sure.calls A0 c0 evs A1 c1 gaps x y false 5 w2 HS.out.a0 Hc0.out HS.out.a1 Hc1.out HSq.out).mono ?_; rintro e w3 ⟨rfl, hb⟩; replace HS := Aa (HS.out.below hb); clear hb y0 y1 w2; have y0 := cell_at HS.out.k0 0 (.slice A0 evs.length c0) rfl; have y1 := cell_at HS.out.k0 1 (.slice A1 gaps.length c1) rfl
 go_wp2_with fail
 refine (skew_TightA.calls A0 c0 evs A1 c1 gaps [] 5 w3 HS.out.a0 Hc0.out HS.out.a1 Hc1.out HT.out).mono ?_; rintro e w7 ⟨vl, rfl, _, hb⟩; replace HS := Aa (HS.out.below hb); clear hb y0 y1
 go_wp2_with fail
 refine (lw_known.calls true w7 rfl).mono ?_; rintro e w9 ⟨rfl, hb⟩; have HS9 := Aa (HS.out.below hb); clear hb HS; go_wp2; go_ret; exact ⟨rfl, HS9.out.bel⟩
end Go.Proofs.Ytobcecgcegoooaa.Sk
