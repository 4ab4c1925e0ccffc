/- The walk of slices.BinarySearchFunc of stamps. -/
import Derived.BigQuiet
import Derived.Test.YtbffhblebigcfaaCPrGWait
import Derived.Test.YtbffhblebigcfaaCPrS1
namespace Go.Proofs.Ytbffhblebigcfaa.Sk
open Go.RowKit Go.Proofs.YtbffhblebigcfaaW.PrintWords Go.Proofs.YtbffhblebigcfaaW.PrintLast Go.Proofs.YtbffhblebigcfaaW.PrintMore
set_option linter.unusedVariables false
set_option linter.unusedSimpArgs false
def cmpF (a t : S126) : Int := (skew_stamp_compare.f a.f0 a.f1 t.f0 t.f1).getD 0
theorem cmpF_some (a t : S126) : skew_stamp_compare.f a.f0 a.f1 t.f0 t.f1 = some (cmpF a t) := by
 unfold cmpF
 cases h : skew_stamp_compare.f a.f0 a.f1 t.f0 t.f1 with
 | some r => rfl
 | none => exfalso; unfold skew_stamp_compare.f at h; revert h; (repeat' split) <;> simp
def bsIdx (l : List S126) (t : S126) : Int := bsr (fun h => !decide (cmpF (rd_T126 l h) t < 0)) l.length 0 l.length
def bsIs (l : List S126) (t : S126) : Bool := decide (bsIdx l t < l.length) && (cmpF (rd_T126 l (bsIdx l t)) t == 0)
theorem bsIdx_range (l : List S126) (t : S126) : 0 ≤ bsIdx l t ∧ bsIdx l t ≤ l.length := bsr_range _ _ 0 _ (by omega)
set_option maxHeartbeats 2000000 in
set_option maxRecDepth 100000 in
theorem bs_calls (A0 : Option Addr) (c0 : Nat) (l : List S126) (t : S126) (w : World) (hr0 : Kd.C k126 w A0 l.length l) (hc0 : l.length ≤ c0) (hl : l.length ≤ 1000000) :
  Calls Try.prog 92 #[.slice A0 l.length c0, .agg #[.int .i64 t.f0, .int .i64 t.f1], .func (.func 93) #[] #[]] w fun e w' => e = .returned (.tuple #[.int .i64 (bsIdx l t), .bool (bsIs l t)]) ∧ Below w.heap.size w w' := by
 have hu126 := Try.underlying126
 obtain ⟨t0, t1⟩ := t
 have HR0 := Aa hr0
 have HBx := Aa (blk_new w (.cells #[.int .i64 t0, .int .i64 t1] 126))
 have HBe := Aa (below_alloc (Below.refl w.heap.size w) (.cells #[.int .i64 t0, .int .i64 t1] 126))
 have hcc := fun (h : Int) (W : World) => skew_stamp_compare.calls _ _ _ _ _ W (cmpF_some (rd_T126 l h) ⟨t0, t1⟩)
 have HCC := Aa hcc
 clear hr0 hcc
 obtain ⟨p, hp⟩ : ∃ p : Int → Bool, p = fun h => !decide (cmpF (rd_T126 l h) ⟨t0, t1⟩ < 0) := ⟨_, rfl⟩
 obtain ⟨R, hR⟩ : ∃ R, bsIdx l ⟨t0, t1⟩ = R := ⟨_, rfl⟩
 have HR := Aa hR
 have HP := Aa hp
 have hR2 : bsr p l.length 0 l.length = R := by rw [hp]; exact hR
 clear hp hR
 go_enter Try.func92, Try.ntmps92
 go_wp2
 go_loopw [9, 10, 11] (fun a b _ W => ∃ (i j : Int) (k : Nat), 0 ≤ i ∧ i ≤ j ∧ j ≤ l.length ∧ a = .int .i64 i ∧ b = .int .i64 j ∧ Aside0 ((j - i).toNat ≤ k) ∧ Aside0 (bsr p k i j = R) ∧ Aside0 (Below w.heap.size w W) ∧ Aside0 (W.heap[w.heap.size]? = some (.cells #[.int .i64 t0, .int .i64 t1] 126 (0, 0)))) (fun a b _ _ => (intOf b - intOf a).toNat)
 case atStart => exact ⟨0, l.length, l.length, by omega, by omega, by omega, rfl, rfl, ⟨by omega⟩, ⟨hR2⟩, HBe, HBx⟩
 case round =>
  clear HBx HBe hR2
  obtain ⟨i, j, k, h0, h1, h2, rfl, rfl, HK, HRr, HB, HX⟩ := hrel
  have hB : Below w.heap.size w wr := HB.out
  have x0 := cell_at HX.out 0 (.int .i64 t0) rfl
  have x1 := cell_at HX.out 1 (.int .i64 t1) rfl
  have HBd := Aa (show Below w.heap.size w wr.drew from Dn hB)
  have HXd := Aa (show wr.drew.heap[w.heap.size]? = some (.cells #[.int .i64 t0, .int .i64 t1] 126 (0, 0)) from HX.out)
  by_cases hlt : i < j
  ·obtain ⟨hh, hhe⟩ : ∃ hh, (i + j) / 2 = hh := ⟨_, rfl⟩
   have hr1 : i ≤ hh := by omega
   have hr2 : hh < j := by omega
   have hr3 : hh < (l.length : Int) := by omega
   have hr0 : (0 : Int) ≤ hh := by omega
   obtain ⟨ad, e1, hy0, hy1⟩ := at_T126 (Kd.C_below HR0.out hB) hh (by omega) (by omega)
   cases e1
   have HHe := Aa hhe
   obtain ⟨k, rfl⟩ : ∃ m, k = m + 1 := ⟨k - 1, by have := HK.out; omega⟩
   obtain ⟨c, hc⟩ : ∃ c, cmpF (rd_T126 l hh) ⟨t0, t1⟩ = c := ⟨_, rfl⟩
   have HCm := Aa hc
   have hcx := HCC.out hh
   rw [hc] at hcx
   have HCx := fun W => Aa (hcx W)
   clear hc hcx
   by_cases hneg : c < 0
   ·have HPh := Aa (show p hh = false by rw [HP.out]; show (!decide (cmpF (rd_T126 l hh) ⟨t0, t1⟩ < 0)) = _; rw [HCm.out, decide_eq_true hneg]; rfl)
    have hR := HRr.out
    simp only [bsr, if_pos hlt, HHe.out, HPh.out] at hR
    have HR2 := Aa (show bsr p k (hh + 1) j = R from hR)
    clear hR HRr
    go_wp2_with fail
    go_region_held3 (fun W => Below w.heap.size w W ∧ W.heap[w.heap.size]? = some (.cells #[.int .i64 t0, .int .i64 t1] 126 (0, 0)) ∧ W.cell? ⟨w.heap.size, 0, none⟩ = some (.int .i64 t0) ∧ W.cell? ⟨w.heap.size, 1, none⟩ = some (.int .i64 t1) ∧ W.cell? (ad.add (hh.toNat * 2)) = some (.int .i64 (rd_T126 l hh).f0) ∧ W.cell? ⟨(ad.add (hh.toNat * 2)).block, (ad.add (hh.toNat * 2)).off + 1, none⟩ = some (.int .i64 (rd_T126 l hh).f1))
     (first | (with_reducible (refine ⟨HBd.out, HXd.out, ?_, ?_, ?_, ?_⟩)) <;> (apply cell_drew; with_reducible assumption) | (go_split_ands; (with_reducible refine ⟨below_step (by assumption) hb, blk_below (by assumption) hb, ?_, ?_, ?_, ?_⟩) <;> (apply pw_cell_below hb; with_reducible assumption)))
     (first | (go_at_call 93; (with_reducible refine (HCx _).out.mono ?_); rintro e w' ⟨rfl, hb⟩))
    rename_i hS
    have HS1 := Aa hS.1
    have HS2 := Aa hS.2.1
    clear hS hy0 hy1 x0 x1 hB HX HBd HXd
    go_wp2
    go_roundw
    case rel => exact ⟨hh + 1, j, k, by omega, by omega, by omega, rfl, rfl, ⟨by have := HK.out; omega⟩, HR2, HS1, HS2⟩
    case measure => simp [intOf]; omega
   ·have HPh := Aa (show p hh = true by rw [HP.out]; show (!decide (cmpF (rd_T126 l hh) ⟨t0, t1⟩ < 0)) = _; rw [HCm.out, decide_eq_false hneg]; rfl)
    have hR := HRr.out
    simp only [bsr, if_pos hlt, HHe.out, HPh.out] at hR
    have HR2 := Aa (show bsr p k i hh = R from hR)
    clear hR HRr
    go_wp2_with fail
    go_region_held3 (fun W => Below w.heap.size w W ∧ W.heap[w.heap.size]? = some (.cells #[.int .i64 t0, .int .i64 t1] 126 (0, 0)) ∧ W.cell? ⟨w.heap.size, 0, none⟩ = some (.int .i64 t0) ∧ W.cell? ⟨w.heap.size, 1, none⟩ = some (.int .i64 t1) ∧ W.cell? (ad.add (hh.toNat * 2)) = some (.int .i64 (rd_T126 l hh).f0) ∧ W.cell? ⟨(ad.add (hh.toNat * 2)).block, (ad.add (hh.toNat * 2)).off + 1, none⟩ = some (.int .i64 (rd_T126 l hh).f1))
     (first | (with_reducible (refine ⟨HBd.out, HXd.out, ?_, ?_, ?_, ?_⟩)) <;> (apply cell_drew; with_reducible assumption) | (go_split_ands; (with_reducible refine ⟨below_step (by assumption) hb, blk_below (by assumption) hb, ?_, ?_, ?_, ?_⟩) <;> (apply pw_cell_below hb; with_reducible assumption)))
     (first | (go_at_call 93; (with_reducible refine (HCx _).out.mono ?_); rintro e w' ⟨rfl, hb⟩))
    rename_i hS
    have HS1 := Aa hS.1
    have HS2 := Aa hS.2.1
    clear hS hy0 hy1 x0 x1 hB HX HBd HXd
    go_wp2
    go_roundw
    case rel => exact ⟨i, hh, k, by omega, by omega, by omega, rfl, rfl, ⟨by have := HK.out; omega⟩, HR2, HS1, HS2⟩
    case measure => simp [intOf]; omega
  ·have hR : bsr p k i j = i := by
    cases k with
    | zero => rfl
    | succ k => simp only [bsr]; rw [if_neg hlt]
   have hRi : i = R := by rw [← HRr.out, hR]
   subst hRi
   clear hR HRr
   by_cases hin : i < l.length
   ·obtain ⟨ad, e1, hy0, hy1⟩ := at_T126 (Kd.C_below HR0.out hB) i (by omega) (by omega)
    cases e1
    obtain ⟨c, hc⟩ : ∃ c, cmpF (rd_T126 l i) ⟨t0, t1⟩ = c := ⟨_, rfl⟩
    have HCm := Aa hc
    have hcx := HCC.out i
    rw [hc] at hcx
    have HCx := fun W => Aa (hcx W)
    clear hc hcx
    have hin' := decide_eq_true hin
    go_wp2_with fail
    go_region_held3 (fun W => Below w.heap.size w W ∧ W.heap[w.heap.size]? = some (.cells #[.int .i64 t0, .int .i64 t1] 126 (0, 0)) ∧ W.cell? ⟨w.heap.size, 0, none⟩ = some (.int .i64 t0) ∧ W.cell? ⟨w.heap.size, 1, none⟩ = some (.int .i64 t1) ∧ W.cell? (ad.add (i.toNat * 2)) = some (.int .i64 (rd_T126 l i).f0) ∧ W.cell? ⟨(ad.add (i.toNat * 2)).block, (ad.add (i.toNat * 2)).off + 1, none⟩ = some (.int .i64 (rd_T126 l i).f1))
     (first | (with_reducible (refine ⟨HBd.out, HXd.out, ?_, ?_, ?_, ?_⟩)) <;> (apply cell_drew; with_reducible assumption) | (go_split_ands; (with_reducible refine ⟨below_step (by assumption) hb, blk_below (by assumption) hb, ?_, ?_, ?_, ?_⟩) <;> (apply pw_cell_below hb; with_reducible assumption)))
     (first | (go_at_call 93; (with_reducible refine (HCx _).out.mono ?_); rintro e w' ⟨rfl, hb⟩))
    rename_i hS
    have HS1 := Aa hS.1
    clear hS hy0 hy1 x0 x1 hB HX HBd HXd
    go_wp2
    go_ret2
    refine ⟨?_, HS1.out⟩
    rw [HR.out]
    have e2 : bsIs l ⟨t0, t1⟩ = (c == 0) := by unfold bsIs; rw [HR.out, HCm.out, decide_eq_true hin, Bool.true_and]
    rw [e2]
    rfl
   ·have hin' := decide_eq_false hin
    go_wp2_with fail
    go_quiet (fail)
    go_wp2
    go_ret2
    refine ⟨?_, (by first | exact HBd.out | exact hB | exact Pn hB _)⟩
    rw [HR.out]
    have e2 : bsIs l ⟨t0, t1⟩ = false := by unfold bsIs; rw [HR.out, decide_eq_false (by omega), Bool.false_and]
    rw [e2]
    rfl
end Go.Proofs.Ytbffhblebigcfaa.Sk
