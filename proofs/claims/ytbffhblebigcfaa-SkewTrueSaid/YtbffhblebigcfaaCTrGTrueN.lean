/- The walk of SkewTrue where some times fit; the drawn ones: false. -/
import Derived.BigQuiet
import Derived.Deep.QuietTactic
import Derived.Deep.RegionHeld3
import Derived.IntWalk
import Derived.Test.YtbffhblebigcfaaCTrLTrue
import Derived.Test.YtbffhblebigcfaaCTrGTightA
import Derived.Test.YtbffhblebigcfaaCTrGCloneS
import Derived.Test.YtbffhblebigcfaaCTrGKnown
import Derived.Test.YtbffhblebigcfaaCTrGTrueA
namespace Go.Proofs.Ytbffhblebigcfaa.Sk
open Go.RowKit Go.Proofs.YtbffhblebigcfaaW.PrintWords Go.Proofs.YtbffhblebigcfaaW.PrintLast Go.Proofs.YtbffhblebigcfaaW.PrintMore
attribute [local go_sem] max2_int min2_int max_two min_two
set_option linter.unusedVariables false
set_option linter.unusedSimpArgs false
set_option maxHeartbeats 8000000 in
set_option maxRecDepth 100000 in
theorem true_fno (A0 : Option Addr) (c0 : Nat) (evs : List S27) (A1 : Option Addr) (c1 : Nat) (gaps : List S86) (A2 : Option Addr) (c2 : Nat) (bys : List Int) (a2 a3 : Int) (w : World) (hr0 : Kd.C k27 w A0 evs.length evs) (hc0 : evs.length ≤ c0) (hr1 : Kd.C k86 w A1 gaps.length gaps) (hc1 : gaps.length ≤ c1) (hr2 : Kd.C (Kd.int .u16) w A2 bys.length bys) (hc2 : bys.length ≤ c2)
  (l : List S27) (kh kf : Nat) (hh : afterwordref19_Hist.f kh evs gaps = some true) (h0 : evs.length ≠ 0) (hI : HistIs evs gaps) (hA : tightA evs gaps = (l, 0)) (hbys : ∀ x ∈ bys, 0 ≤ x ∧ x ≤ 65535) (hl2 : bys.length ≤ 9223372036854775807) (hf : skew_Fits.f kf evs gaps (timesTo evs bys evs.length) = some (false, 0)) (ha2 : 0 ≤ a2 ∧ a2 ≤ 255) (ha3 : 0 ≤ a3 ∧ a3 ≤ 65535) (kg : Nat) (hgo : afterwordref19_Goods.f kg l 10 = some true) (hll : l.length = evs.length) (hgd : ∀ j : Nat, j < evs.length → (rd_T27 l (j : Int)).f0 ≤ (rd_T27 l (j : Int)).f1 ∧ -1000000 ≤ (rd_T27 l (j : Int)).f0 ∧ (rd_T27 l (j : Int)).f1 ≤ 1000000) (hheld : ∀ n : Nat, n < evs.length → ∀ t, (rd_T27 l (n : Int)).f0 ≤ t → t ≤ (rd_T27 l (n : Int)).f1 → ∃ m, HeldIs evs gaps l n t m) (hfit : ∀ n t m, HeldIs evs gaps l n t m → ∃ k, skew_Fits.f k evs gaps (leastTo m evs.length) = some (true, 0)) :
  Calls Try.prog 11 #[.agg #[.slice A0 evs.length c0, .slice A1 gaps.length c1], .slice A2 bys.length c2, .int .u8 a2, .int .u16 a3] w fun e w' => e = .returned (.bool true) ∧ Below w.heap.size w w' := by
 have hu39 := Try.underlying39
 have hu27 := Try.underlying27
 have HC0 := Aa hc0
 have HC1 := Aa hc1
 obtain ⟨n0, hn0⟩ : ∃ n0, w.heap.size = n0 := ⟨_, rfl⟩
 have HT := Aa (show TT evs gaps bys A0 A1 A2 c0 c1 c2 n0 w (w.alloc (.cells #[.slice A0 evs.length c0, .slice A1 gaps.length c1] 39)) from ⟨below_alloc (Below.refl w.heap.size w) _, by rw [← hn0]; exact blk_new _ _, Kd.C_alloc hr0 _, Kd.C_alloc hr1 _, Kd.C_alloc hr2 _⟩)
 clear hr0 hr1 hr2 hc0 hc1
 have HGD := Aa hgd
 have HHELD := Aa hheld
 have HGO := Aa hgo
 have HFIT := Aa hfit
 clear hgd hheld hgo hfit
 have HLL := Aa hll
 have hne : ((l.length : Int) != (evs.length : Int)) = false := bne_eq_false_iff_eq.mpr (by omega)
 clear hll
 have hz : ((evs.length : Int) == 0) = false := beq_eq_false_iff_ne.mpr (by omega)
 have HE := Aa hI
 have HBy := Aa hbys
 have HAA := Aa hA
 have HFF := Aa hf
 have hn10 := hI.n
 clear hI hbys hA hf
 go_enter Try.func11, Try.ntmps11
 have x0 := cell_at HT.out.k0 0 (.slice A0 evs.length c0) rfl
 have x1 := cell_at HT.out.k0 1 (.slice A1 gaps.length c1) rfl
 go_wp2_with fail
 refine (afterwordref19_Hist.calls kh A0 c0 evs A1 c1 gaps true _ HT.out.a0 HC0.out HT.out.a1 HC1.out hh).mono ?_
 rintro e_ w1 ⟨rfl, hb⟩
 replace HT := Aa (HT.out.below hb)
 clear hb hh x0 x1
 have x0 := cell_at HT.out.k0 0 (.slice A0 evs.length c0) rfl
 have x1 := cell_at HT.out.k0 1 (.slice A1 gaps.length c1) rfl
 go_wp2_with fail
 refine (skew_TightA.calls A0 c0 evs A1 c1 gaps l 0 _ HT.out.a0 HC0.out HT.out.a1 HC1.out HAA.out).mono ?_
 rintro e_ w2 ⟨v2, rfl, hV2, hb⟩
 obtain ⟨At, ct, rfl, hct, hCt⟩ := V_read hV2
 have HL := Aa hCt
 have HLc := Aa hct
 replace HT := Aa (HT.out.below hb)
 clear hb hV2 hCt hct x0 x1
 have x0 := cell_at HT.out.k0 0 (.slice A0 evs.length c0) rfl
 have x1 := cell_at HT.out.k0 1 (.slice A1 gaps.length c1) rfl
 go_wp2_with fail
 clear x0 x1
 go_loopw [11, 44] (fun v11 v44 W => ∃ i : Nat, i ≤ evs.length ∧ v44 = .int .i64 (i : Int) ∧ Aside0 (Kd.R (Kd.int .i64) 3 W w2.heap.size (fun _ => True) v11 (timesTo evs bys i)) ∧ Aside0 (Below w2.heap.size w2 W)) (fun _ v _ => evs.length - (intOf v).toNat)
 case atStart => exact ⟨0, Nat.zero_le _, rfl, ⟨Kd.R_nil _ _ _ _ _⟩, ⟨Below.refl _ _⟩⟩
 case round =>
  obtain ⟨i, hi, rfl, HO, HW⟩ := hrel
  by_cases hlt : i < evs.length
  ·have hlt' : (i : Int) < (evs.length : Int) := by omega
   have hiz : (0 : Int) ≤ (i : Int) := by omega
   have HTr := Aa (HT.out.below HW.out)
   obtain ⟨ad, ea, p0, p1⟩ := at_T27 HTr.out.a0 (i : Int) hiz hlt'
   rw [Int.toNat_natCast] at p0 p1
   have HEi := Aa (HE.out.evAt (i : Int) hiz hlt')
   have HSt := Aa (timesTo_succ evs bys i)
   have HLn := Aa (timesTo_len evs bys i)
   obtain ⟨lo, hlo⟩ : ∃ lo, (rd_T27 evs (i : Int)).f0 = lo := ⟨_, rfl⟩
   obtain ⟨hi', hhi⟩ : ∃ hi', (rd_T27 evs (i : Int)).f1 = hi' := ⟨_, rfl⟩
   have HTA := Aa (show timeAt evs bys i = if i < bys.length then lo + rd bys (i : Int) % (hi' - lo + 1) else lo by unfold timeAt; rw [hlo, hhi])
   rw [hlo] at p0 HEi
   rw [hhi] at p1 HEi
   clear hlo hhi
   have HOr := Aa (show Kd.R (Kd.int .i64) 3 wr w2.heap.size (fun _ => True) u11 (timesTo evs bys i) from HO.out)
   have HWr := Aa (show Below w2.heap.size w2 wr from HW.out)
   clear HO HW
   subst ea
   have HN := Aa (blk_new wr (.cells #[.int .i64 lo, .int .i64 hi'] 27))
   by_cases hby : i < bys.length
   ·have hby' : (i : Int) < (bys.length : Int) := by omega
    obtain ⟨bd, eb, q0⟩ := Kd.at_int (Kd.C_alloc HTr.out.a2 (.cells #[.int .i64 lo, .int .i64 hi'] 27)) (i : Int) hiz hby'
    rw [Int.toNat_natCast] at q0
    subst eb
    obtain ⟨x, hx⟩ : ∃ x, rd bys (i : Int) = x := ⟨_, rfl⟩
    rw [hx] at q0
    have hxb : 0 ≤ x ∧ x ≤ 65535 := by
     rw [← hx]
     refine HBy.out _ ?_
     have : rd bys (i : Int) = bys[i] := by simp [rd, List.getD_eq_getElem?_getD, hby]
     rw [this]; exact List.getElem_mem hby
    have HTB := Aa (show timeAt evs bys i = lo + x % (hi' - lo + 1) by rw [HTA.out, if_pos hby, hx])
    clear hx
    go_wp2_with fail
    have e2 : IntKind.i64.wrap x = x := IntWalk.i64_in _ (by omega)
    have hEi := HEi.out
    have e3 : IntKind.i64.wrap (hi' - lo) = hi' - lo := IntWalk.i64_in _ (by omega)
    have e4 : IntKind.i64.wrap (hi' - lo + 1) = hi' - lo + 1 := IntWalk.i64_in _ (by omega)
    have e5 : decide (hi' - lo + 1 = 0) = false := decide_eq_false (by omega)
    have e6 : ¬ hi' - lo + 1 = 0 := by omega
    clear hEi
    have p2 := cell_at HN.out 0 (.int .i64 lo) rfl
    have p3 := cell_at HN.out 1 (.int .i64 hi') rfl
    go_region_held3 (fun W' => W'.cell? (bd.add i) = some (.int .u16 x) ∧ W'.cell? ⟨wr.heap.size, 0, none⟩ = some (.int .i64 lo) ∧ W'.cell? ⟨wr.heap.size, 1, none⟩ = some (.int .i64 hi'))
     (first | (with_reducible (refine ⟨?_, ?_, ?_⟩)) <;> (apply cell_drew; with_reducible assumption))
     (fail)
    clear e2 e3 e4 e5 e6 p0 p1 p2 p3 q0
    try simp only [i64_w, i32_w]
    have htv : wrap64 (lo + Int.tmod x (hi' - lo + 1)) = timeAt evs bys i := by
     have hEi := HEi.out
     have h1 := Int.emod_nonneg x (show hi' - lo + 1 ≠ 0 by omega)
     have h2 := Int.emod_lt_of_pos x (show 0 < hi' - lo + 1 by omega)
     rw [HTB.out, Int.tmod_eq_emod_of_nonneg (by omega)]
     unfold wrap64; omega
    rw [htv]
    clear htv
    generalize timeAt evs bys i = tv at HSt ⊢
    go_wp2_with (at_builtin; go_must (refine Kd.R_append (Kd.int .i64) (w0 := w2) (W := (wr.alloc (.cells #[.int .i64 lo, .int .i64 hi'] 27)).drew) w2.heap.size rfl (.tmp 69) (.tmp 71) 40 3 (.int .i64 0) 8 rfl Try.underlying40 info3 rfl (by decide) (by decide) u11 (timesTo evs bys i) (tv) [.int .i64 (tv)] (fun _ => True) (fun _ => False) rfl (by first | rfl | (rw [World.size_alloc]; rfl) | (show _ = Value.slice (some ⟨(wr.alloc (.cells #[.int .i64 lo, .int .i64 hi'] 27)).heap.size, 0, none⟩) 1 1; rw [World.size_alloc]; rfl)) rfl (fun _ hk => hk.elim) (fun _ _ => trivial) (Kd.R_drew (Kd.R_alloc HOr.out _)) (Dn (below_alloc HWr.out (.cells #[.int .i64 lo, .int .i64 hi'] 27))) (Below.size (Dn (below_alloc HWr.out (.cells #[.int .i64 lo, .int .i64 hi'] 27)))) (by have := HLn.out; omega) ?_); intro v5 w5 ho hb hg hat; have HO5 := Aa ho; have HB5 := Aa hb; clear ho hb hg hat)
    go_roundw
    case rel => exact ⟨i + 1, by omega, by simp, ⟨by rw [HSt.out]; exact HO5.out⟩, HB5⟩
    case measure => simp [intOf]; omega
   ·have HTB := Aa (show timeAt evs bys i = lo by rw [HTA.out, if_neg hby])
    go_wp2_with (at_builtin; go_must (refine Kd.R_append (Kd.int .i64) (w0 := w2) (W := wr.alloc (.cells #[.int .i64 lo, .int .i64 hi'] 27)) w2.heap.size rfl (.tmp 69) (.tmp 71) 40 3 (.int .i64 0) 8 rfl Try.underlying40 info3 rfl (by decide) (by decide) u11 (timesTo evs bys i) (lo) [.int .i64 (lo)] (fun _ => True) (fun _ => False) rfl (by first | rfl | (rw [World.size_alloc]; rfl) | (show _ = Value.slice (some ⟨(wr.alloc (.cells #[.int .i64 lo, .int .i64 hi'] 27)).heap.size, 0, none⟩) 1 1; rw [World.size_alloc]; rfl)) rfl (fun _ hk => hk.elim) (fun _ _ => trivial) (Kd.R_alloc HOr.out _) (below_alloc HWr.out (.cells #[.int .i64 lo, .int .i64 hi'] 27)) (Below.size (below_alloc HWr.out (.cells #[.int .i64 lo, .int .i64 hi'] 27))) (by have := HLn.out; omega) ?_); intro v5 w5 ho hb hg hat; have HO5 := Aa ho; have HB5 := Aa hb; clear ho hb hg hat)
    go_roundw
    case rel => exact ⟨i + 1, by omega, by simp, ⟨by rw [HSt.out, HTB.out]; exact HO5.out⟩, HB5⟩
    case measure => simp [intOf]; omega
  ·obtain rfl : i = evs.length := by omega
   obtain ⟨A11, c11, e11, hc11, hC11⟩ := Kd.R_reads (show Kd.R (Kd.int .i64) 3 wr w2.heap.size (fun _ => True) u11 (timesTo evs bys evs.length) from HO.out)
   subst e11
   replace HT := Aa (HT.out.below HW.out)
   replace HL := Aa (Kd.C_below HL.out HW.out)
   have HX := Aa hC11
   have HXc := Aa hc11
   have HXl := Aa (timesTo_len evs bys evs.length)
   clear hc11 hC11 HO HW
   have x0 := cell_at HT.out.k0 0 (.slice A0 evs.length c0) rfl
   have x1 := cell_at HT.out.k0 1 (.slice A1 gaps.length c1) rfl
   go_wp2_with fail
   refine (skew_Fits.calls kf A0 c0 evs A1 c1 gaps A11 c11 _ false 0 _ HT.out.a0 HC0.out HT.out.a1 HC1.out HX.out HXc.out HFF.out).mono ?_
   rintro e_ w3 ⟨rfl, hb⟩
   replace HT := Aa (HT.out.below hb)
   replace HL := Aa (Kd.C_below HL.out hb)
   replace HX := Aa (Kd.C_below HX.out hb)
   clear hb x0 x1
   have x0 := cell_at HT.out.k0 0 (.slice A0 evs.length c0) rfl
   have x1 := cell_at HT.out.k0 1 (.slice A1 gaps.length c1) rfl
   go_wp2_with fail
   refine (afterwordref19_Goods.calls kg At ct l 10 true _ HL.out HLc.out HGO.out).mono ?_
   rintro e_ w4 ⟨rfl, hb⟩
   replace HT := Aa (HT.out.below hb)
   replace HL := Aa (Kd.C_below HL.out hb)
   replace HX := Aa (Kd.C_below HX.out hb)
   clear hb x0 x1
   rw [HXl.out] at HX ⊢
   go_wp2_with fail
   go_loopw [114] (fun v114 W => ∃ j : Nat, j ≤ evs.length ∧ v114 = .int .i64 (j : Int) ∧ Aside0 (Below w4.heap.size w4 W)) (fun v _ => evs.length - (intOf v).toNat)
   case atStart => exact ⟨0, Nat.zero_le _, rfl, ⟨Below.refl _ _⟩⟩
   case round =>
    obtain ⟨j, hj, rfl, HW⟩ := hrel
    by_cases hlt : j < evs.length
    ·have hlt' : (j : Int) < (evs.length : Int) := by omega
     have hjz : (0 : Int) ≤ (j : Int) := by omega
     have hjl : (j : Int) < (l.length : Int) := by have := HLL.out; omega
     obtain ⟨ad, ea, p0⟩ := Kd.at_int (Kd.C_below HX.out HW.out) (j : Int) hjz hlt'
     rw [Int.toNat_natCast] at p0
     obtain ⟨bd, eb, q0, q1⟩ := at_T27 (Kd.C_below HL.out HW.out) (j : Int) hjz hjl
     rw [Int.toNat_natCast] at q0 q1
     subst ea eb
     skip
     go_wp2_with fail
     go_roundw
     case rel => exact ⟨j + 1, by omega, by simp, HW⟩
     case measure => simp [intOf]; omega
    ·obtain rfl : j = evs.length := by omega
     replace HT := Aa (HT.out.below HW.out)
     replace HL := Aa (Kd.C_below HL.out HW.out)
     clear HX HXc HXl HFF
     have x0 := cell_at HT.out.k0 0 (.slice A0 evs.length c0) rfl
     have x1 := cell_at HT.out.k0 1 (.slice A1 gaps.length c1) rfl
     have hz2 : ((l.length : Int) != 0) = true := bne_iff_ne.mpr (by have := HLL.out; omega)
     have hz3 : decide ((l.length : Int) = 0) = false := decide_eq_false (by have := HLL.out; omega)
     have hz4 : ¬ l.length = 0 := by have := HLL.out; omega
     have hz5 : ¬ (l.length : Int) = 0 := by omega
     obtain ⟨n, hn, hnl⟩ : ∃ n : Nat, a2 % (l.length : Int) = (n : Int) ∧ n < l.length := by
      have h1 := Int.emod_nonneg a2 hz5
      have h2 := Int.emod_lt_of_pos a2 (show (0 : Int) < l.length by omega)
      exact ⟨(a2 % (l.length : Int)).toNat, by omega, by omega⟩
     go_upto_region 27 with (fail)
     try simp only [i64_w, i32_w]
     rw [hn]
     clear hn x0 x1 hz2 hz3 hz5
     go_cut [20] (fun v20 W => ∃ (n20 d0 : Nat) (B0 : Option Addr), v20 = .pointer (some ⟨n20, 0, none⟩) ∧ Aside0 (Cloned evs gaps A1 c1 wr W n20 B0 d0))
     case first =>
      have HZ0 := Aa (cell_at HT.out.k0 0 (.slice A0 evs.length c0) rfl)
      have HZ1 := Aa (cell_at HT.out.k0 1 (.slice A1 gaps.length c1) rfl)
      have z0 := HZ0.out
      have z1 := HZ1.out
      have HBd := Aa (Dn (Below.refl wr.heap.size wr))
      have S0 : ∀ {W : World}, Below wr.heap.size wr W → Below wr.heap.size wr W ∧ W.cell? ⟨n0, 0, none⟩ = some (.slice A0 evs.length c0) ∧ W.cell? ⟨n0, 1, none⟩ = some (.slice A1 gaps.length c1) := fun h => ⟨h, pw_cell_below h HZ0.out, pw_cell_below h HZ1.out⟩
      have HN10 := Aa (show evs.length ≤ 1000000 by omega)
      go_region_held3 (fun W' => Below wr.heap.size wr W' ∧ W'.cell? ⟨n0, 0, none⟩ = some (.slice A0 evs.length c0) ∧ W'.cell? ⟨n0, 1, none⟩ = some (.slice A1 gaps.length c1))
       (first | exact S0 HBd.out | (go_split_ands; first | exact S0 (below_step (by assumption) hb) | exact S0 (below_alloc (by assumption) _) | exact S0 (below_alloc (below_step (by assumption) hb) _) | (refine S0 (below_set (below_set (below_step (by assumption) hb) ?_) ?_) <;> (first | exact Nat.le_refl _ | assumption | (trace_state; fail))) | (trace_state; fail)))
       (first | (go_at_call 54; go_split_ands; (with_reducible refine (cloneS_calls A0 c0 evs _ (Kd.C_below HT.out.a0 (by assumption)) HC0.out HN10.out).mono ?_); rintro e_ w6 ⟨v6, rfl, ho1, hb⟩; obtain ⟨B0, d0, e1⟩ := Kd.R_slice ho1; subst e1; have hA6 : Below wr.heap.size wr w6 := below_step (by assumption) hb; (try (have hk : w6.heap[wr.heap.size]? = some (.cells #[.slice none 0 0, .slice none 0 0] 39 (0, 0)) := blk_below (blk_new wr.drew (.cells #[.slice none 0 0, .slice none 0 0] 39)) hb; have q0 := cell_at hk 0 _ rfl; have q1 := cell_at hk 1 _ rfl; have f0 := blk_frozen hk 0; have f1 := blk_frozen hk 1))))
      all_goals
       try go_wp2
       go_meet
       case rel => first | exact ⟨_, _, _, rfl, ⟨cloned_last hA6 ho1 (Nat.le_refl _)⟩⟩ | exact ⟨_, _, _, rfl, ⟨cloned_set hA6 (Nat.le_refl _) hk ho1 (Nat.le_refl _)⟩⟩ | exact ⟨_, _, _, rfl, ⟨cloned_set hA6 (Nat.le_refl _) hk ho1 (by simp)⟩⟩
     case rest =>
      obtain ⟨n20, d0, B0, rfl, HP⟩ := hcut
      have hbc := HP.out.bel
      have HTc := Aa (HT.out.below hbc)
      have HLc2 := Aa (Kd.C_below HL.out hbc)
      clear hbc
      have hnl' : (n : Int) < (l.length : Int) := by omega
      have hnz : (0 : Int) ≤ (n : Int) := by omega
      obtain ⟨bd, eb, q0, q1⟩ := at_T27 HLc2.out (n : Int) hnz hnl'
      rw [Int.toNat_natCast] at q0 q1
      subst eb
      have HGn := Aa (HGD.out n (by have := HLL.out; omega))
      have HHn := Aa (HHELD.out n (by have := HLL.out; omega))
      obtain ⟨lo, hlo⟩ : ∃ lo, (rd_T27 l (n : Int)).f0 = lo := ⟨_, rfl⟩
      obtain ⟨hi', hhi⟩ : ∃ hi', (rd_T27 l (n : Int)).f1 = hi' := ⟨_, rfl⟩
      rw [hlo] at q0 HGn HHn
      rw [hhi] at q1 HGn HHn
      clear hlo hhi
      have hEi := HGn.out
      have e2 : IntKind.i64.wrap a3 = a3 := IntWalk.i64_in _ (by omega)
      have e3 : IntKind.i64.wrap (hi' - lo) = hi' - lo := IntWalk.i64_in _ (by omega)
      have e4 : IntKind.i64.wrap (hi' - lo + 1) = hi' - lo + 1 := IntWalk.i64_in _ (by omega)
      have e5 : decide (hi' - lo + 1 = 0) = false := decide_eq_false (by omega)
      have e6 : ¬ hi' - lo + 1 = 0 := by omega
      obtain ⟨tv, htv, htv0, htv1⟩ : ∃ tv, wrap64 (lo + Int.tmod a3 (hi' - lo + 1)) = tv ∧ lo ≤ tv ∧ tv ≤ hi' := by
       have h1 := Int.emod_nonneg a3 e6
       have h2 := Int.emod_lt_of_pos a3 (show 0 < hi' - lo + 1 by omega)
       rw [Int.tmod_eq_emod_of_nonneg (by omega)]
       exact ⟨_, rfl, by unfold wrap64; omega, by unfold wrap64; omega⟩
      clear hEi
      go_wp2_with fail
      go_region_held3 (fun W' => W'.cell? (bd.add (n * 2)) = some (.int .i64 lo) ∧ W'.cell? ⟨(bd.add (n * 2)).block, (bd.add (n * 2)).off + 1, none⟩ = some (.int .i64 hi'))
       (first | (with_reducible (refine ⟨?_, ?_⟩)) <;> (apply cell_drew; with_reducible assumption))
       (fail)
      clear e2 e3 e4 e5 e6 q0 q1
      try simp only [i64_w, i32_w]
      rw [htv]
      clear htv
      obtain ⟨qv, hqv⟩ : ∃ qv, Int.tmod a3 (hi' - lo + 1) = qv := ⟨_, rfl⟩
      rw [hqv]
      clear hqv
      obtain ⟨m, HM⟩ := HHn.out tv htv0 htv1
      have HM := Aa HM
      have HPd := Aa (show Cloned evs gaps A1 c1 wr wc.drew n20 B0 d0 from ⟨Dn HP.out.bel, HP.out.blk, Kd.R_drew HP.out.own⟩)
      clear HP HTc HLc2 HHn htv0 htv1 HGD HHELD HGO
      go_wp2_with fail
      generalize wc.drew = w7 at HPd ⊢
      obtain ⟨go, cp, eo, gge, glt, ocs, hog⟩ := Kd.R_form HPd.out.own (show 0 < evs.length by omega)
      injection eo with eo _ eo2
      subst eo eo2
      have HGG := Aa gge
      have HOG := Aa hog
      obtain ⟨ce, hcl, hM, hcc, hfr⟩ := Kd.R_elem HPd.out.own z27 (n : Int) hnz (by have := HLL.out; omega)
      obtain rfl := k27_openM hM
      rw [Int.toNat_natCast] at hcc
      have x0 := hcc 0 _ rfl
      have x1 := hcc 1 _ rfl
      simp only [show (k27).sz = 2 from rfl, Nat.add_zero] at x0 x1
      have HX0 := Aa x0
      have HX1 := Aa x1
      have y0 := cell_at HPd.out.blk 0 (.slice (some ⟨go, 0, none⟩) evs.length d0) rfl
      have HY0 := Aa y0
      have HNE := Aa (show n20 ≠ go from fun e => by
       have h1 := HPd.out.blk
       rw [e, hog] at h1
       injection h1 with h1
       injection h1 with _ h1 _
       exact absurd h1 (by decide))
      clear hcl hM hcc hfr hog gge glt x0 x1
      have hnev : (n : Int) < (evs.length : Int) := by have := HLL.out; omega
      go_region_held3 (fun W' => W'.cell? ⟨n20, 0, none⟩ = some (.slice (some ⟨go, 0, none⟩) evs.length d0))
       (first | exact cell_drew HY0.out | exact pw_cell_below hb (cell_drew HY0.out) | exact (World.cell?_setCell_far _ _ _ _ (fun hh => HNE.out hh.symm)).trans ((World.cell?_setCell_far _ _ _ _ (fun hh => HNE.out hh.symm)).trans (pw_cell_below hb (cell_drew HY0.out))) | (trace_state; fail))
       (first | (go_at_call 55; (with_reducible refine (afterwordlaw19_Span.calls tv tv tv tv _ rfl).mono ?_); rintro e_ w8 ⟨rfl, hb⟩; have x0 := pw_cell_below hb (cell_drew HX0.out); have x1 := pw_cell_below hb (cell_drew HX1.out); have f0 := blk_frozen (blk_below (blk_drew HOG.out) hb) (n * 2); have f1 := blk_frozen (blk_below (blk_drew HOG.out) hb) (n * 2 + 1)))
      have HR8 := Aa (Kd.R_below (Kd.R_drew HPd.out.own) hb)
      have HB8 := Aa (below_step (Dn HPd.out.bel) hb)
      have HK8 := Aa (blk_below (blk_drew HPd.out.blk) hb)
      have HO8 := Aa (blk_below (blk_drew HOG.out) hb)
      obtain ⟨ce, hcl, hM, hcc, hfr⟩ := Kd.R_elem HR8.out z27 (n : Int) hnz hnev
      obtain rfl := k27_openM hM
      have hseg := Kd.R_seg HR8.out (n : Int) hnz hnev (seg := [.int .i64 tv, .int .i64 tv]) (j := 0) hcl hcc (show 2 ≤ 2 from by decide) (x' := (⟨tv, tv⟩ : S27)) (k27_mkM _ _ _ (⟨tv, tv⟩ : S27)) (fun _ hk => hk)
      rw [Int.toNat_natCast] at hseg
      have HR9 := Aa (show Kd.R k27 27 ((w8.setCell ⟨go, n * 2, none⟩ (.int .i64 tv)).setCell ⟨go, n * 2 + 1, none⟩ (.int .i64 tv)) wr.heap.size (fun _ => True) (.slice (some ⟨go, 0, none⟩) evs.length d0) (evs.set n ⟨tv, tv⟩) from hseg.1)
      have HB9 := Aa (show Below wr.heap.size wr ((w8.setCell ⟨go, n * 2, none⟩ (.int .i64 tv)).setCell ⟨go, n * 2 + 1, none⟩ (.int .i64 tv)) from below_set (below_set HB8.out HGG.out) HGG.out)
      have HK9 := Aa (show ((w8.setCell ⟨go, n * 2, none⟩ (.int .i64 tv)).setCell ⟨go, n * 2 + 1, none⟩ (.int .i64 tv)).heap[n20]? = some (.cells #[.slice (some ⟨go, 0, none⟩) evs.length d0, .slice A1 gaps.length c1] 39 (0, 0)) from (Below.heap_setCell _ _ _ _ HNE.out).trans ((Below.heap_setCell _ _ _ _ HNE.out).trans HK8.out))
      clear hcl hM hcc hfr hseg x0 x1 y0 f0 f1 hb HR8 HB8 HK8 HO8 HPd HX0 HX1 HY0 HNE HGG HOG
      generalize ((w8.setCell ⟨go, n * 2, none⟩ (.int .i64 tv)).setCell ⟨go, n * 2 + 1, none⟩ (.int .i64 tv)) = w9 at HR9 HB9 HK9 ⊢
      have HP := Aa (Kd.R_reads' HR9.out).2.2
      have HPl := Aa (show (evs.set n ⟨tv, tv⟩).length = evs.length from List.length_set ..)
      have HPc := Aa (Kd.R_reads' HR9.out).2.1
      rw [HPl.out] at HP
      replace HT := Aa (HT.out.below HB9.out)
      replace HL := Aa (Kd.C_below HL.out HB9.out)
      have y0 := cell_at HK9.out 0 (.slice (some ⟨go, 0, none⟩) evs.length d0) rfl
      have y1 := cell_at HK9.out 1 (.slice A1 gaps.length c1) rfl
      clear HR9 HB9 HK9
      go_wp2_with fail
      have hc := skew_TightA.calls (some ⟨go, 0, none⟩) d0 (evs.set n ⟨tv, tv⟩) A1 c1 gaps m 0 w9 (by rw [HPl.out]; exact HP.out) (by rw [HPl.out]; exact HPc.out) HT.out.a1 HC1.out HM.out.val
      rw [HPl.out] at hc
      refine hc.mono ?_
      clear hc
      rintro e_ w10 ⟨v10, rfl, hV10, hb⟩
      obtain ⟨Am, cm, rfl, hcm, hCm⟩ := V_read hV10
      have HMc := Aa hCm
      have HMl := Aa HM.out.len
      rw [HMl.out] at HMc ⊢
      replace HT := Aa (HT.out.below hb)
      replace HL := Aa (Kd.C_below HL.out hb)
      clear hb hV10 hCm hcm HP HPl HPc y0 y1
      have hll' : ((evs.length : Int) != (l.length : Int)) = false := bne_eq_false_iff_eq.mpr (by have := HLL.out; omega)
      go_wp2_with fail
      go_loopw [23, 194] (fun v23 v194 W => ∃ i : Nat, i ≤ evs.length ∧ v194 = .int .i64 (i : Int) ∧ Aside0 (Kd.R (Kd.int .i64) 3 W w10.heap.size (fun _ => True) v23 (leastTo m i)) ∧ Aside0 (Below w10.heap.size w10 W)) (fun _ v _ => evs.length - (intOf v).toNat)
      case atStart => exact ⟨0, Nat.zero_le _, rfl, ⟨Kd.R_nil _ _ _ _ _⟩, ⟨Below.refl _ _⟩⟩
      case round =>
       obtain ⟨i, hi, rfl, HO, HW⟩ := hrel
       by_cases hlt : i < evs.length
       ·have hlt' : (i : Int) < (evs.length : Int) := by omega
        have hil' : (i : Int) < (l.length : Int) := by have := HLL.out; omega
        have hiz : (0 : Int) ≤ (i : Int) := by omega
        obtain ⟨ad, ea, p0, p1⟩ := at_T27 (Kd.C_below HMc.out HW.out) (i : Int) hiz hlt'
        rw [Int.toNat_natCast] at p0 p1
        subst ea
        have HIN := Aa (HM.out.inn (i : Int) hiz hlt')
        have HSt := Aa (leastTo_succ m i)
        have HLn := Aa (leastTo_len m i)
        obtain ⟨bd, eb, q0, q1⟩ := at_T27 (Kd.C_below HL.out HW.out) (i : Int) hiz hil'
        rw [Int.toNat_natCast] at q0 q1
        obtain rfl := Option.some.inj eb
        obtain ⟨lo, hlo⟩ : ∃ lo, (rd_T27 m (i : Int)).f0 = lo := ⟨_, rfl⟩
        obtain ⟨hi', hhi⟩ : ∃ hi', (rd_T27 m (i : Int)).f1 = hi' := ⟨_, rfl⟩
        rw [hlo] at p0 HIN HSt
        rw [hhi] at p1 HIN
        clear hlo hhi
        have d1 : decide (lo < (rd_T27 l (i : Int)).f0) = false := decide_eq_false (by have := HIN.out.1; omega)
        have d2 : decide (hi' > (rd_T27 l (i : Int)).f1) = false := decide_eq_false (by have := HIN.out.2; omega)
        have HOr := Aa (show Kd.R (Kd.int .i64) 3 wr w10.heap.size (fun _ => True) u23 (leastTo m i) from HO.out)
        have HWr := Aa (show Below w10.heap.size w10 wr from HW.out)
        clear HO HW
        have HN := Aa (blk_new wr (.cells #[.int .i64 lo, .int .i64 hi'] 27))
        have hba := below_alloc (Below.refl wr.heap.size wr) (.cells #[.int .i64 lo, .int .i64 hi'] 27)
        have Q0 := Aa (pw_cell_below hba q0)
        have Q1 := Aa (pw_cell_below hba q1)
        clear hba q0 q1
        go_wp2_with fail
        have p2 := cell_at HN.out 0 (.int .i64 lo) rfl
        have p3 := cell_at HN.out 1 (.int .i64 hi') rfl
        have q0 := Q0.out
        have q1 := Q1.out
        clear p0 p1
        go_region_held3 (fun W' => W'.cell? ⟨wr.heap.size, 0, none⟩ = some (.int .i64 lo) ∧ W'.cell? ⟨wr.heap.size, 1, none⟩ = some (.int .i64 hi') ∧ W'.cell? (bd.add (i * 2)) = some (.int .i64 (rd_T27 l (i : Int)).f0) ∧ W'.cell? ⟨(bd.add (i * 2)).block, (bd.add (i * 2)).off + 1, none⟩ = some (.int .i64 (rd_T27 l (i : Int)).f1))
         (first | (with_reducible (refine ⟨?_, ?_, ?_, ?_⟩)) <;> (apply cell_drew; with_reducible assumption))
         (fail)
        clear p2 p3 q0 q1
        have p2 := cell_drew (cell_at HN.out 0 (.int .i64 lo) rfl)
        go_wp2_with (at_builtin; go_must (refine Kd.R_append (Kd.int .i64) (w0 := w10) (W := (wr.alloc (.cells #[.int .i64 lo, .int .i64 hi'] 27)).drew) w10.heap.size rfl (.tmp 217) (.tmp 220) 40 3 (.int .i64 0) 8 rfl Try.underlying40 info3 rfl (by decide) (by decide) u23 (leastTo m i) (lo) [.int .i64 (lo)] (fun _ => True) (fun _ => False) rfl (by first | rfl | (rw [World.size_alloc]; rfl) | (show _ = Value.slice (some ⟨(wr.alloc (.cells #[.int .i64 lo, .int .i64 hi'] 27)).heap.size, 0, none⟩) 1 1; rw [World.size_alloc]; rfl)) rfl (fun _ hk => hk.elim) (fun _ _ => trivial) (Kd.R_drew (Kd.R_alloc HOr.out _)) (Dn (below_alloc HWr.out (.cells #[.int .i64 lo, .int .i64 hi'] 27))) (Below.size (Dn (below_alloc HWr.out (.cells #[.int .i64 lo, .int .i64 hi'] 27)))) (by have := HLn.out; omega) ?_); intro v5 w5 ho hb hg hat; have HO5 := Aa ho; have HB5 := Aa hb; clear ho hb hg hat)
        go_roundw
        case rel => exact ⟨i + 1, by omega, by simp, ⟨by rw [HSt.out]; exact HO5.out⟩, HB5⟩
        case measure => simp [intOf]; omega
       ·obtain rfl : i = evs.length := by omega
        obtain ⟨A23, c23, e23, hc23, hC23⟩ := Kd.R_reads (show Kd.R (Kd.int .i64) 3 wr w10.heap.size (fun _ => True) u23 (leastTo m evs.length) from HO.out)
        subst e23
        replace HT := Aa (HT.out.below HW.out)
        have HX3 := Aa hC23
        have HX3c := Aa hc23
        obtain ⟨kf2, hf2⟩ := HFIT.out n tv m HM.out
        have HF2 := Aa hf2
        clear hc23 hC23 HO HW hf2 HL HMc
        have x0 := cell_at HT.out.k0 0 (.slice A0 evs.length c0) rfl
        have x1 := cell_at HT.out.k0 1 (.slice A1 gaps.length c1) rfl
        go_wp2_with fail
        refine (skew_Fits.calls kf2 A0 c0 evs A1 c1 gaps A23 c23 _ true 0 _ HT.out.a0 HC0.out HT.out.a1 HC1.out HX3.out HX3c.out HF2.out).mono ?_
        rintro e_ w11 ⟨rfl, hb⟩
        replace HT := Aa (HT.out.below hb)
        replace HX3 := Aa (Kd.C_below HX3.out hb)
        clear hb x0 x1
        rw [leastTo_len] at HX3 ⊢
        obtain ⟨ad, ea, p0⟩ := Kd.at_int HX3.out (n : Int) hnz hnev
        rw [Int.toNat_natCast] at p0
        subst ea
        have hval : rd (leastTo m evs.length) (n : Int) = tv := by
         have h1 : n < evs.length := by omega
         have h2 : rd (leastTo m evs.length) (n : Int) = (rd_T27 m (n : Int)).f0 := by
          unfold rd leastTo
          simp [List.getD_eq_getElem?_getD, h1]
         rw [h2]; exact HM.out.at_n
        rw [hval] at p0
        clear hval
        go_wp2_with fail
        refine (afterwordlaw19_known.calls true _ rfl).mono ?_
        rintro e_ wz ⟨rfl, hb⟩
        replace HT := Aa (HT.out.below hb)
        clear hb
        go_wp2_with fail
        go_ret
        exact ⟨rfl, HT.out.bel⟩
end Go.Proofs.Ytbffhblebigcfaa.Sk
