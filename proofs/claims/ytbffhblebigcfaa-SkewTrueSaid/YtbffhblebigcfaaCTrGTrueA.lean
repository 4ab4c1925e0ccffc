/- The walk of SkewTrue where no times fit, or there are no events. -/
import Derived.BigQuiet
import Derived.Deep.QuietTactic
import Derived.Deep.RegionHeld3
import Derived.IntWalk
import Derived.Test.YtbffhblebigcfaaCTrLTrue
import Derived.Test.YtbffhblebigcfaaCTrGTightA
import Derived.Test.YtbffhblebigcfaaCTrGCloneS
import Derived.Test.YtbffhblebigcfaaCTrGKnown
namespace Go.Proofs.Ytbffhblebigcfaa.Sk
open Go.RowKit Go.Proofs.YtbffhblebigcfaaW.PrintWords Go.Proofs.YtbffhblebigcfaaW.PrintLast Go.Proofs.YtbffhblebigcfaaW.PrintMore
attribute [local go_sem] max2_int min2_int max_two min_two
set_option linter.unusedVariables false
set_option linter.unusedSimpArgs false
structure TT (evs : List S27) (gaps : List S86) (bys : List Int) (A0 A1 A2 : Option Addr) (c0 c1 c2 n0 : Nat) (w W : World) : Prop where
 bel : Below w.heap.size w W
 k0 : W.heap[n0]? = some (.cells #[.slice A0 evs.length c0, .slice A1 gaps.length c1] 39 (0, 0))
 a0 : Kd.C k27 W A0 evs.length evs
 a1 : Kd.C k86 W A1 gaps.length gaps
 a2 : Kd.C (Kd.int .u16) W A2 bys.length bys
theorem TT.below {evs : List S27} {gaps : List S86} {bys : List Int} {A0 A1 A2 : Option Addr} {c0 c1 c2 n0 : Nat} {w W W' : World} (h : TT evs gaps bys A0 A1 A2 c0 c1 c2 n0 w W) (hb : Below W.heap.size W W') : TT evs gaps bys A0 A1 A2 c0 c1 c2 n0 w W' :=
 ⟨below_step h.bel hb, blk_below h.k0 hb, Kd.C_below h.a0 hb, Kd.C_below h.a1 hb, Kd.C_below h.a2 hb⟩
structure Cloned (evs : List S27) (gaps : List S86) (A1 : Option Addr) (c1 : Nat) (w1 W : World) (n20 : Nat) (B0 : Option Addr) (d0 : Nat) : Prop where
 bel : Below w1.heap.size w1 W
 blk : W.heap[n20]? = some (.cells #[.slice B0 evs.length d0, .slice A1 gaps.length c1] 39 (0, 0))
 own : Kd.R k27 27 W w1.heap.size (fun _ => True) (.slice B0 evs.length d0) evs
theorem cloned_last {evs : List S27} {gaps : List S86} {A1 B0 : Option Addr} {c1 d0 b : Nat} {w1 w6 : World} {ok : Nat → Prop} (h : Below w1.heap.size w1 w6) (ho : k27.R 27 w6 b ok (.slice B0 evs.length d0) evs) (hb : w1.heap.size ≤ b) :
  Cloned evs gaps A1 c1 w1 (w6.alloc (.cells #[.slice B0 evs.length d0, .slice A1 gaps.length c1] 39)) w6.heap.size B0 d0 :=
 ⟨below_alloc h _, blk_new _ _, Kd.R_alloc (Kd.R_mono (Kd.R_lower ho hb) (fun _ _ => trivial)) _⟩
theorem cloned_set {evs : List S27} {gaps : List S86} {A1 B0 : Option Addr} {c1 d0 b n5 : Nat} {w1 w6 : World} {x y : Value} {ok : Nat → Prop} (h : Below w1.heap.size w1 w6) (hn : w1.heap.size ≤ n5) (hk : w6.heap[n5]? = some (.cells #[x, y] 39 (0, 0))) (ho : k27.R 27 w6 b ok (.slice B0 evs.length d0) evs) (hb : w1.heap.size ≤ b) :
  Cloned evs gaps A1 c1 w1 ((w6.setCell ⟨n5, 0, none⟩ (.slice B0 evs.length d0)).setCell ⟨n5, 1, none⟩ (.slice A1 gaps.length c1)) n5 B0 d0 := by
 have k1 := blk_put hk 0 (.slice B0 evs.length d0) (cs' := #[.slice B0 evs.length d0, y]) rfl
 have k2 := blk_put k1 1 (.slice A1 gaps.length c1) (cs' := #[.slice B0 evs.length d0, .slice A1 gaps.length c1]) rfl
 have r1 := Kd.R_set (Kd.R_set (Kd.R_mono (Kd.R_lower ho hb) (ok' := fun _ => True) (fun _ _ => trivial)) hk (by decide) 0 (.slice B0 evs.length d0)) k1 (by decide) 1 (.slice A1 gaps.length c1)
 exact ⟨below_set (below_set h hn) hn, k2, r1⟩
def leastTo (m : List S27) (n : Nat) : List Int := (List.range n).map fun (i : Nat) => (rd_T27 m (i : Int)).f0
theorem leastTo_succ (m : List S27) (n : Nat) : leastTo m (n + 1) = leastTo m n ++ [(rd_T27 m (n : Int)).f0] := by
 unfold leastTo; rw [List.range_succ, List.map_append]; rfl
theorem leastTo_len (m : List S27) (n : Nat) : (leastTo m n).length = n := by unfold leastTo; rw [List.length_map, List.length_range]
def timeAt (evs : List S27) (bys : List Int) (i : Nat) : Int := if i < bys.length then (rd_T27 evs (i : Int)).f0 + rd bys (i : Int) % ((rd_T27 evs (i : Int)).f1 - (rd_T27 evs (i : Int)).f0 + 1) else (rd_T27 evs (i : Int)).f0
def timesTo (evs : List S27) (bys : List Int) (n : Nat) : List Int := (List.range n).map (timeAt evs bys)
theorem timesTo_succ (evs : List S27) (bys : List Int) (n : Nat) : timesTo evs bys (n + 1) = timesTo evs bys n ++ [timeAt evs bys n] := by
 unfold timesTo; rw [List.range_succ, List.map_append]; rfl
theorem timesTo_len (evs : List S27) (bys : List Int) (n : Nat) : (timesTo evs bys n).length = n := by unfold timesTo; rw [List.length_map, List.length_range]
set_option maxHeartbeats 8000000 in
set_option maxRecDepth 100000 in
theorem true_no (A0 : Option Addr) (c0 : Nat) (evs : List S27) (A1 : Option Addr) (c1 : Nat) (gaps : List S86) (A2 : Option Addr) (c2 : Nat) (bys : List Int) (a2 a3 : Int) (w : World) (hr0 : Kd.C k27 w A0 evs.length evs) (hc0 : evs.length ≤ c0) (hr1 : Kd.C k86 w A1 gaps.length gaps) (hc1 : gaps.length ≤ c1) (hr2 : Kd.C (Kd.int .u16) w A2 bys.length bys) (hc2 : bys.length ≤ c2)
  (kh : Nat) (hh : afterwordref19_Hist.f kh evs gaps = some false) :
  Calls Try.prog 11 #[.agg #[.slice A0 evs.length c0, .slice A1 gaps.length c1], .slice A2 bys.length c2, .int .u8 a2, .int .u16 a3] w fun e w' => e = .returned (.bool true) ∧ Below w.heap.size w w' := by
 have hu39 := Try.underlying39
 have hu27 := Try.underlying27
 have HC0 := Aa hc0
 have HC1 := Aa hc1
 obtain ⟨n0, hn0⟩ : ∃ n0, w.heap.size = n0 := ⟨_, rfl⟩
 have HT := Aa (show TT evs gaps bys A0 A1 A2 c0 c1 c2 n0 w (w.alloc (.cells #[.slice A0 evs.length c0, .slice A1 gaps.length c1] 39)) from ⟨below_alloc (Below.refl w.heap.size w) _, by rw [← hn0]; exact blk_new _ _, Kd.C_alloc hr0 _, Kd.C_alloc hr1 _, Kd.C_alloc hr2 _⟩)
 clear hr0 hr1 hr2 hc0 hc1
 go_enter Try.func11, Try.ntmps11
 have x0 := cell_at HT.out.k0 0 (.slice A0 evs.length c0) rfl
 have x1 := cell_at HT.out.k0 1 (.slice A1 gaps.length c1) rfl
 go_wp2_with fail
 refine (afterwordref19_Hist.calls kh A0 c0 evs A1 c1 gaps false _ HT.out.a0 HC0.out HT.out.a1 HC1.out hh).mono ?_
 rintro e_ w1 ⟨rfl, hb⟩
 replace HT := Aa (HT.out.below hb)
 clear hb hh x0 x1
 have x0 := cell_at HT.out.k0 0 (.slice A0 evs.length c0) rfl
 have x1 := cell_at HT.out.k0 1 (.slice A1 gaps.length c1) rfl
 go_wp2_with fail
 refine (afterwordlaw19_known.calls true _ rfl).mono ?_
 rintro e_ wz ⟨rfl, hb⟩
 replace HT := Aa (HT.out.below hb)
 clear hb
 go_wp2_with fail
 go_ret
 exact ⟨rfl, HT.out.bel⟩
set_option maxHeartbeats 8000000 in
set_option maxRecDepth 100000 in
theorem true_zero (A0 : Option Addr) (c0 : Nat) (evs : List S27) (A1 : Option Addr) (c1 : Nat) (gaps : List S86) (A2 : Option Addr) (c2 : Nat) (bys : List Int) (a2 a3 : Int) (w : World) (hr0 : Kd.C k27 w A0 evs.length evs) (hc0 : evs.length ≤ c0) (hr1 : Kd.C k86 w A1 gaps.length gaps) (hc1 : gaps.length ≤ c1) (hr2 : Kd.C (Kd.int .u16) w A2 bys.length bys) (hc2 : bys.length ≤ c2)
  (kh : Nat) (hh : afterwordref19_Hist.f kh evs gaps = some true) (h0 : evs.length = 0) :
  Calls Try.prog 11 #[.agg #[.slice A0 evs.length c0, .slice A1 gaps.length c1], .slice A2 bys.length c2, .int .u8 a2, .int .u16 a3] w fun e w' => e = .returned (.bool true) ∧ Below w.heap.size w w' := by
 have hu39 := Try.underlying39
 have hu27 := Try.underlying27
 have HC0 := Aa hc0
 have HC1 := Aa hc1
 obtain ⟨n0, hn0⟩ : ∃ n0, w.heap.size = n0 := ⟨_, rfl⟩
 have HT := Aa (show TT evs gaps bys A0 A1 A2 c0 c1 c2 n0 w (w.alloc (.cells #[.slice A0 evs.length c0, .slice A1 gaps.length c1] 39)) from ⟨below_alloc (Below.refl w.heap.size w) _, by rw [← hn0]; exact blk_new _ _, Kd.C_alloc hr0 _, Kd.C_alloc hr1 _, Kd.C_alloc hr2 _⟩)
 clear hr0 hr1 hr2 hc0 hc1
 have hz : ((evs.length : Int) == 0) = true := beq_iff_eq.mpr (by omega)
 clear h0
 go_enter Try.func11, Try.ntmps11
 have x0 := cell_at HT.out.k0 0 (.slice A0 evs.length c0) rfl
 have x1 := cell_at HT.out.k0 1 (.slice A1 gaps.length c1) rfl
 go_wp2_with fail
 refine (afterwordref19_Hist.calls kh A0 c0 evs A1 c1 gaps true _ HT.out.a0 HC0.out HT.out.a1 HC1.out hh).mono ?_
 rintro e_ w1 ⟨rfl, hb⟩
 replace HT := Aa (HT.out.below hb)
 clear hb hh x0 x1
 have x0 := cell_at HT.out.k0 0 (.slice A0 evs.length c0) rfl
 have x1 := cell_at HT.out.k0 1 (.slice A1 gaps.length c1) rfl
 go_wp2_with fail
 refine (afterwordlaw19_known.calls true _ rfl).mono ?_
 rintro e_ wz ⟨rfl, hb⟩
 replace HT := Aa (HT.out.below hb)
 clear hb
 go_wp2_with fail
 go_ret
 exact ⟨rfl, HT.out.bel⟩
set_option maxHeartbeats 8000000 in
set_option maxRecDepth 100000 in
theorem true_five (A0 : Option Addr) (c0 : Nat) (evs : List S27) (A1 : Option Addr) (c1 : Nat) (gaps : List S86) (A2 : Option Addr) (c2 : Nat) (bys : List Int) (a2 a3 : Int) (w : World) (hr0 : Kd.C k27 w A0 evs.length evs) (hc0 : evs.length ≤ c0) (hr1 : Kd.C k86 w A1 gaps.length gaps) (hc1 : gaps.length ≤ c1) (hr2 : Kd.C (Kd.int .u16) w A2 bys.length bys) (hc2 : bys.length ≤ c2)
  (kh kf : Nat) (hh : afterwordref19_Hist.f kh evs gaps = some true) (h0 : evs.length ≠ 0) (hI : HistIs evs gaps) (hA : tightA evs gaps = ([], 5)) (hbys : ∀ x ∈ bys, 0 ≤ x ∧ x ≤ 65535) (hl2 : bys.length ≤ 9223372036854775807) (hf : skew_Fits.f kf evs gaps (timesTo evs bys evs.length) = some (false, 0)) (ha2 : 0 ≤ a2 ∧ a2 ≤ 255) (ha3 : 0 ≤ a3 ∧ a3 ≤ 65535) :
  Calls Try.prog 11 #[.agg #[.slice A0 evs.length c0, .slice A1 gaps.length c1], .slice A2 bys.length c2, .int .u8 a2, .int .u16 a3] w fun e w' => e = .returned (.bool true) ∧ Below w.heap.size w w' := by
 have hu39 := Try.underlying39
 have hu27 := Try.underlying27
 have HC0 := Aa hc0
 have HC1 := Aa hc1
 obtain ⟨n0, hn0⟩ : ∃ n0, w.heap.size = n0 := ⟨_, rfl⟩
 have HT := Aa (show TT evs gaps bys A0 A1 A2 c0 c1 c2 n0 w (w.alloc (.cells #[.slice A0 evs.length c0, .slice A1 gaps.length c1] 39)) from ⟨below_alloc (Below.refl w.heap.size w) _, by rw [← hn0]; exact blk_new _ _, Kd.C_alloc hr0 _, Kd.C_alloc hr1 _, Kd.C_alloc hr2 _⟩)
 clear hr0 hr1 hr2 hc0 hc1
 have hz : ((evs.length : Int) == 0) = false := beq_eq_false_iff_ne.mpr (by omega)
 have HE := Aa hI
 have HBy := Aa hbys
 have HAA := Aa hA
 have HFF := Aa hf
 have hn10 := hI.n
 clear hI hbys hA hf
 go_enter Try.func11, Try.ntmps11
 have x0 := cell_at HT.out.k0 0 (.slice A0 evs.length c0) rfl
 have x1 := cell_at HT.out.k0 1 (.slice A1 gaps.length c1) rfl
 go_wp2_with fail
 refine (afterwordref19_Hist.calls kh A0 c0 evs A1 c1 gaps true _ HT.out.a0 HC0.out HT.out.a1 HC1.out hh).mono ?_
 rintro e_ w1 ⟨rfl, hb⟩
 replace HT := Aa (HT.out.below hb)
 clear hb hh x0 x1
 have x0 := cell_at HT.out.k0 0 (.slice A0 evs.length c0) rfl
 have x1 := cell_at HT.out.k0 1 (.slice A1 gaps.length c1) rfl
 go_wp2_with fail
 refine (skew_TightA.calls A0 c0 evs A1 c1 gaps [] 5 _ HT.out.a0 HC0.out HT.out.a1 HC1.out HAA.out).mono ?_
 rintro e_ w2 ⟨v2, rfl, hV2, hb⟩
 obtain ⟨At, ct, rfl, hct, hCt⟩ := V_read hV2
 have HL := Aa hCt
 have HLc := Aa hct
 replace HT := Aa (HT.out.below hb)
 clear hb hV2 hCt hct x0 x1
 have x0 := cell_at HT.out.k0 0 (.slice A0 evs.length c0) rfl
 have x1 := cell_at HT.out.k0 1 (.slice A1 gaps.length c1) rfl
 go_wp2_with fail
 clear x0 x1
 go_loopw [11, 44] (fun v11 v44 W => ∃ i : Nat, i ≤ evs.length ∧ v44 = .int .i64 (i : Int) ∧ Aside0 (Kd.R (Kd.int .i64) 3 W w2.heap.size (fun _ => True) v11 (timesTo evs bys i)) ∧ Aside0 (Below w2.heap.size w2 W)) (fun _ v _ => evs.length - (intOf v).toNat)
 case atStart => exact ⟨0, Nat.zero_le _, rfl, ⟨Kd.R_nil _ _ _ _ _⟩, ⟨Below.refl _ _⟩⟩
 case round =>
  obtain ⟨i, hi, rfl, HO, HW⟩ := hrel
  by_cases hlt : i < evs.length
  ·have hlt' : (i : Int) < (evs.length : Int) := by omega
   have hiz : (0 : Int) ≤ (i : Int) := by omega
   have HTr := Aa (HT.out.below HW.out)
   obtain ⟨ad, ea, p0, p1⟩ := at_T27 HTr.out.a0 (i : Int) hiz hlt'
   rw [Int.toNat_natCast] at p0 p1
   have HEi := Aa (HE.out.evAt (i : Int) hiz hlt')
   have HSt := Aa (timesTo_succ evs bys i)
   have HLn := Aa (timesTo_len evs bys i)
   obtain ⟨lo, hlo⟩ : ∃ lo, (rd_T27 evs (i : Int)).f0 = lo := ⟨_, rfl⟩
   obtain ⟨hi', hhi⟩ : ∃ hi', (rd_T27 evs (i : Int)).f1 = hi' := ⟨_, rfl⟩
   have HTA := Aa (show timeAt evs bys i = if i < bys.length then lo + rd bys (i : Int) % (hi' - lo + 1) else lo by unfold timeAt; rw [hlo, hhi])
   rw [hlo] at p0 HEi
   rw [hhi] at p1 HEi
   clear hlo hhi
   have HOr := Aa (show Kd.R (Kd.int .i64) 3 wr w2.heap.size (fun _ => True) u11 (timesTo evs bys i) from HO.out)
   have HWr := Aa (show Below w2.heap.size w2 wr from HW.out)
   clear HO HW
   subst ea
   have HN := Aa (blk_new wr (.cells #[.int .i64 lo, .int .i64 hi'] 27))
   by_cases hby : i < bys.length
   ·have hby' : (i : Int) < (bys.length : Int) := by omega
    obtain ⟨bd, eb, q0⟩ := Kd.at_int (Kd.C_alloc HTr.out.a2 (.cells #[.int .i64 lo, .int .i64 hi'] 27)) (i : Int) hiz hby'
    rw [Int.toNat_natCast] at q0
    subst eb
    obtain ⟨x, hx⟩ : ∃ x, rd bys (i : Int) = x := ⟨_, rfl⟩
    rw [hx] at q0
    have hxb : 0 ≤ x ∧ x ≤ 65535 := by
     rw [← hx]
     refine HBy.out _ ?_
     have : rd bys (i : Int) = bys[i] := by simp [rd, List.getD_eq_getElem?_getD, hby]
     rw [this]; exact List.getElem_mem hby
    have HTB := Aa (show timeAt evs bys i = lo + x % (hi' - lo + 1) by rw [HTA.out, if_pos hby, hx])
    clear hx
    go_wp2_with fail
    have e2 : IntKind.i64.wrap x = x := IntWalk.i64_in _ (by omega)
    have hEi := HEi.out
    have e3 : IntKind.i64.wrap (hi' - lo) = hi' - lo := IntWalk.i64_in _ (by omega)
    have e4 : IntKind.i64.wrap (hi' - lo + 1) = hi' - lo + 1 := IntWalk.i64_in _ (by omega)
    have e5 : decide (hi' - lo + 1 = 0) = false := decide_eq_false (by omega)
    have e6 : ¬ hi' - lo + 1 = 0 := by omega
    clear hEi
    have p2 := cell_at HN.out 0 (.int .i64 lo) rfl
    have p3 := cell_at HN.out 1 (.int .i64 hi') rfl
    go_region_held3 (fun W' => W'.cell? (bd.add i) = some (.int .u16 x) ∧ W'.cell? ⟨wr.heap.size, 0, none⟩ = some (.int .i64 lo) ∧ W'.cell? ⟨wr.heap.size, 1, none⟩ = some (.int .i64 hi'))
     (first | (with_reducible (refine ⟨?_, ?_, ?_⟩)) <;> (apply cell_drew; with_reducible assumption))
     (fail)
    clear e2 e3 e4 e5 e6 p0 p1 p2 p3 q0
    try simp only [i64_w, i32_w]
    have htv : wrap64 (lo + Int.tmod x (hi' - lo + 1)) = timeAt evs bys i := by
     have hEi := HEi.out
     have h1 := Int.emod_nonneg x (show hi' - lo + 1 ≠ 0 by omega)
     have h2 := Int.emod_lt_of_pos x (show 0 < hi' - lo + 1 by omega)
     rw [HTB.out, Int.tmod_eq_emod_of_nonneg (by omega)]
     unfold wrap64; omega
    rw [htv]
    clear htv
    generalize timeAt evs bys i = tv at HSt ⊢
    go_wp2_with (at_builtin; go_must (refine Kd.R_append (Kd.int .i64) (w0 := w2) (W := (wr.alloc (.cells #[.int .i64 lo, .int .i64 hi'] 27)).drew) w2.heap.size rfl (.tmp 69) (.tmp 71) 40 3 (.int .i64 0) 8 rfl Try.underlying40 info3 rfl (by decide) (by decide) u11 (timesTo evs bys i) (tv) [.int .i64 (tv)] (fun _ => True) (fun _ => False) rfl (by first | rfl | (rw [World.size_alloc]; rfl) | (show _ = Value.slice (some ⟨(wr.alloc (.cells #[.int .i64 lo, .int .i64 hi'] 27)).heap.size, 0, none⟩) 1 1; rw [World.size_alloc]; rfl)) rfl (fun _ hk => hk.elim) (fun _ _ => trivial) (Kd.R_drew (Kd.R_alloc HOr.out _)) (Dn (below_alloc HWr.out (.cells #[.int .i64 lo, .int .i64 hi'] 27))) (Below.size (Dn (below_alloc HWr.out (.cells #[.int .i64 lo, .int .i64 hi'] 27)))) (by have := HLn.out; omega) ?_); intro v5 w5 ho hb hg hat; have HO5 := Aa ho; have HB5 := Aa hb; clear ho hb hg hat)
    go_roundw
    case rel => exact ⟨i + 1, by omega, by simp, ⟨by rw [HSt.out]; exact HO5.out⟩, HB5⟩
    case measure => simp [intOf]; omega
   ·have HTB := Aa (show timeAt evs bys i = lo by rw [HTA.out, if_neg hby])
    go_wp2_with (at_builtin; go_must (refine Kd.R_append (Kd.int .i64) (w0 := w2) (W := wr.alloc (.cells #[.int .i64 lo, .int .i64 hi'] 27)) w2.heap.size rfl (.tmp 69) (.tmp 71) 40 3 (.int .i64 0) 8 rfl Try.underlying40 info3 rfl (by decide) (by decide) u11 (timesTo evs bys i) (lo) [.int .i64 (lo)] (fun _ => True) (fun _ => False) rfl (by first | rfl | (rw [World.size_alloc]; rfl) | (show _ = Value.slice (some ⟨(wr.alloc (.cells #[.int .i64 lo, .int .i64 hi'] 27)).heap.size, 0, none⟩) 1 1; rw [World.size_alloc]; rfl)) rfl (fun _ hk => hk.elim) (fun _ _ => trivial) (Kd.R_alloc HOr.out _) (below_alloc HWr.out (.cells #[.int .i64 lo, .int .i64 hi'] 27)) (Below.size (below_alloc HWr.out (.cells #[.int .i64 lo, .int .i64 hi'] 27))) (by have := HLn.out; omega) ?_); intro v5 w5 ho hb hg hat; have HO5 := Aa ho; have HB5 := Aa hb; clear ho hb hg hat)
    go_roundw
    case rel => exact ⟨i + 1, by omega, by simp, ⟨by rw [HSt.out, HTB.out]; exact HO5.out⟩, HB5⟩
    case measure => simp [intOf]; omega
  ·obtain rfl : i = evs.length := by omega
   obtain ⟨A11, c11, e11, hc11, hC11⟩ := Kd.R_reads (show Kd.R (Kd.int .i64) 3 wr w2.heap.size (fun _ => True) u11 (timesTo evs bys evs.length) from HO.out)
   subst e11
   replace HT := Aa (HT.out.below HW.out)
   replace HL := Aa (Kd.C_below HL.out HW.out)
   have HX := Aa hC11
   have HXc := Aa hc11
   have HXl := Aa (timesTo_len evs bys evs.length)
   clear hc11 hC11 HO HW
   have x0 := cell_at HT.out.k0 0 (.slice A0 evs.length c0) rfl
   have x1 := cell_at HT.out.k0 1 (.slice A1 gaps.length c1) rfl
   go_wp2_with fail
   refine (skew_Fits.calls kf A0 c0 evs A1 c1 gaps A11 c11 _ false 0 _ HT.out.a0 HC0.out HT.out.a1 HC1.out HX.out HXc.out HFF.out).mono ?_
   rintro e_ w3 ⟨rfl, hb⟩
   replace HT := Aa (HT.out.below hb)
   replace HL := Aa (Kd.C_below HL.out hb)
   replace HX := Aa (Kd.C_below HX.out hb)
   clear hb x0 x1
   have x0 := cell_at HT.out.k0 0 (.slice A0 evs.length c0) rfl
   have x1 := cell_at HT.out.k0 1 (.slice A1 gaps.length c1) rfl
   go_wp2_with fail
   refine (afterwordlaw19_known.calls true _ rfl).mono ?_
   rintro e_ wz ⟨rfl, hb⟩
   replace HT := Aa (HT.out.below hb)
   clear hb
   go_wp2_with fail
   go_ret
   exact ⟨rfl, HT.out.bel⟩
end Go.Proofs.Ytbffhblebigcfaa.Sk
