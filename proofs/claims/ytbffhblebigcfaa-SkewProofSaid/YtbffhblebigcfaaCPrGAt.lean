/- The walk of skew.At: the cut at a stamp. -/
import Derived.Test.YtbffhblebigcfaaCPrGStamps
import Derived.Test.YtbffhblebigcfaaCPrGAhead
import Derived.Test.YtbffhblebigcfaaCPrGBinary
namespace Go.Proofs.Ytbffhblebigcfaa.Sk
open Go.RowKit Go.Proofs.YtbffhblebigcfaaW.PrintWords Go.Proofs.YtbffhblebigcfaaW.PrintLast Go.Proofs.YtbffhblebigcfaaW.PrintMore
set_option linter.unusedVariables false
set_option linter.unusedSimpArgs false
def hasB (m i : Int) : Bool := (bits .and .u64 (shr .u64 m i) 1) == 1
def subOf (sts : List S126) (m : Int) (k : Nat) : List S126 := ((List.range k).filter fun (i : Nat) => hasB m (i : Int)).map fun (i : Nat) => rd_T126 sts (i : Int)
def atOne (sts : List S126) (t : S126) (m : Int) : Int := if bsIs (subOf sts m sts.length) t = true then bsIdx (subOf sts m sts.length) t + 1 else bsIdx (subOf sts m sts.length) t
def outAt (g : Int → Int) (m : Int) : List Int := [if 0 < m then g 0 else 0, if 1 < m then g 1 else 0, if 2 < m then g 2 else 0, if 3 < m then g 3 else 0, if 4 < m then g 4 else 0, if 5 < m then g 5 else 0]
theorem outAt_set (g : Int → Int) (m : Int) (h0 : 0 ≤ m) (h6 : m < 6) : (outAt g m).set m.toNat (g m) = outAt g (m + 1) := by
 obtain rfl | rfl | rfl | rfl | rfl | rfl : m = 0 ∨ m = 1 ∨ m = 2 ∨ m = 3 ∨ m = 4 ∨ m = 5 := by omega
 all_goals rfl
theorem subOf_succ (sts : List S126) (m i : Int) (h0 : 0 ≤ i) : subOf sts m (i + 1).toNat = if hasB m i = true then subOf sts m i.toNat ++ [rd_T126 sts i] else subOf sts m i.toNat := by
 unfold subOf
 rw [show (i + 1).toNat = i.toNat + 1 by omega, List.range_succ, List.filter_append, List.map_append]
 have e : ((i.toNat : Nat) : Int) = i := Int.toNat_of_nonneg h0
 by_cases h : hasB m i = true
 ·rw [if_pos h, List.filter_cons_of_pos (by rw [e]; exact h), List.filter_nil, List.map_cons, List.map_nil, e]
 ·rw [if_neg h, List.filter_cons_of_neg (by rw [e]; exact h), List.filter_nil, List.map_nil, List.append_nil]
theorem subOf_length (sts : List S126) (m : Int) (k : Nat) : (subOf sts m k).length ≤ k := by
 unfold subOf
 rw [List.length_map]
 exact Nat.le_trans (List.length_filter_le _ _) (by rw [List.length_range]; omega)
def skew_At.f (l0 : List S71) (s0 s1 : Int) : Option (List Int × Int) :=
 (skew_isRun.f (l0.length + 1) l0).bind fun b => if b = true then
  (skew_stamps.f 1000 l0).bind fun sts => if sts.length ≤ 40 ∧ l0.length ≤ 40 ∧ (∀ d ∈ l0, 0 ≤ d.f0 ∧ d.f0 ≤ 5) then some (outAt (fun m => atOne sts ⟨s0, s1⟩ (rd (mineF l0) m)) 6, 0) else none
 else some ([], 2)
set_option maxHeartbeats 8000000 in
set_option maxRecDepth 100000 in
theorem skew_At.calls (A0 : Option Addr) (c0 : Nat) (l0 : List S71) (s0 s1 : Int) (r1 : List Int) (r2 : Int) (w : World) (hr0 : Kd.C k71 w A0 l0.length l0) (hc0 : l0.length ≤ c0) (h : skew_At.f l0 s0 s1 = some (r1, r2)) :
  Calls Try.prog 27 #[.slice A0 l0.length c0, .agg #[.int .i64 s0, .int .i64 s1]] w fun e w' => ∃ v0_ : Value, e = .returned (.tuple #[v0_, .int .i64 r2]) ∧ Kd.R (Kd.int .i64) 3 w' w.heap.size (fun _ => True) v0_ r1 ∧ Below w.heap.size w w' := by
 unfold skew_At.f at h
 obtain ⟨b, hb, h⟩ := Option.bind_eq_some_iff.mp h
 have HB0 := Aa (below_alloc (Below.refl w.heap.size w) (.cells #[.int .i64 s0, .int .i64 s1] 47))
 have HX0 := Aa (blk_new w (.cells #[.int .i64 s0, .int .i64 s1] 47))
 have HB := Aa (skew_isRun.calls _ A0 c0 l0 b (w.alloc (.cells #[.int .i64 s0, .int .i64 s1] 47)) (Kd.C_alloc hr0 _) hc0 hb)
 clear hb
 have HR0 := Aa hr0
 clear hr0
 cases b with
 | false =>
  rw [if_neg (by simp)] at h
  simp only [Option.some.injEq, Prod.mk.injEq] at h
  obtain ⟨rfl, rfl⟩ := h
  go_enter Try.func27, Try.ntmps27
  go_wp2_with (go_at_call 85; refine HB.out.mono ?_; rintro e w1 ⟨rfl, hb⟩; have HB1 := Aa (below_step HB0.out hb); clear hb)
  go_ret2
  exact ⟨_, rfl, Kd.R_nil _ _ _ _ _, HB1.out⟩
 | true =>
  rw [if_pos rfl] at h
  obtain ⟨sts, hst, h⟩ := Option.bind_eq_some_iff.mp h
  by_cases hok : sts.length ≤ 40 ∧ l0.length ≤ 40 ∧ (∀ d ∈ l0, 0 ≤ d.f0 ∧ d.f0 ≤ 5)
  ·rw [if_pos hok] at h
   simp only [Option.some.injEq, Prod.mk.injEq] at h
   obtain ⟨hr, rfl⟩ := h
   have HRes := Aa hr
   have HSt := Aa hst
   have O1 := Aa hok.1
   have O2 := Aa hok.2.1
   have O5 := Aa hok.2.2
   clear hr hst hok
   go_enter Try.func27, Try.ntmps27
   go_wp2_with fail
   refine HB.out.mono ?_
   rintro e w1 ⟨rfl, hb⟩
   have HB1 := Aa (below_step HB0.out hb)
   have HX1 := Aa (blk_below HX0.out hb)
   clear hb HB HB0 HX0
   have HC := Aa (skew_stamps.calls 1000 A0 c0 l0 sts w1 (Kd.C_below HR0.out HB1.out) hc0 HSt.out)
   go_wp2_with (first
    | (go_at_call 91; refine HC.out.mono ?_; rintro e ws ⟨v6, rfl, ho, hb⟩; obtain ⟨A6, c6, rfl, hc6, hC6⟩ := Kd.R_reads ho; have HBs := Aa (below_step HB1.out hb); have HXs := Aa (blk_below HX1.out hb); have HC6 := Aa hC6; have Hc6 := Aa hc6; clear ho hb hC6 hc6 HC HB1 HX1)
    | ((with_reducible refine gate_dst (N := 19) rfl ?_); refine Kd.R_make (w0 := ws) (Kd.int .i64) _ 3 rfl (N := 19) rfl 40 _ _ rfl (6 : Int) rfl rfl Try.underlying40 (.int .i64 0) 8 info3 rfl (by decide) (by omega) 0 (ok := fun _ => True) (okp := fun _ => True) rfl (fun _ hk => hk) trivial (by decide) (by decide) (Below.refl _ _) (Nat.le_refl _) ?_; intro v7 w2 ho hb hg_ hnew_; have HO7 := Aa ho; have HB2 := Aa hb; clear ho hb hg_ hnew_))
   have hO7 := HO7.out
   rw [show List.replicate (Int.toNat 6) (0 : Int) = outAt (fun m => atOne sts ⟨s0, s1⟩ (rd (mineF l0) m)) 0 from rfl] at hO7
   obtain ⟨g7, c7, hv7, hg7, hl7, cl7, hC7⟩ := Kd.R_form hO7 (by show 0 < 6; omega)
   obtain rfl : v7 = .slice (some ⟨g7, 0, none⟩) 6 c7 := hv7
   have HO7' := Aa (show Kd.R (Kd.int .i64) 3 w2 ws.heap.size (fun _ => True) (.slice (some ⟨g7, 0, none⟩) 6 c7) (outAt (fun m => atOne sts ⟨s0, s1⟩ (rd (mineF l0) m)) 0) from hO7)
   have HG7 := Aa (show ws.heap.size ≤ g7 from hg7)
   clear hO7 hg7 hl7 hC7 HO7 cl7
   have HMc := Aa (mine_calls A0 c0 l0 w2 (Kd.C_below HR0.out (below_step HBs.out HB2.out)) O2.out O5.out)
   go_wp2_with (go_at_call 86; refine HMc.out.mono ?_; rintro e w3 ⟨a, b, c, d, f, g, rfl, hms, hb3⟩; have HB3 := Aa (below_step HB2.out hb3); have HO3 := Aa (Kd.R_below HO7'.out hb3); have HMs := Aa hms; clear HMc hb3 hms HO7' HB2)
   obtain ⟨ms, hm⟩ : ∃ ms, mineF l0 = ms := ⟨_, rfl⟩
   rw [hm] at HMs HO3 HRes
   have hlen : ms.length = 6 := by rw [HMs.out]; rfl
   have HLn := Aa hlen
   have hix : ∀ (j : Int) (W : World), 0 ≤ j → j < 6 → (Instr.index 119 (.agg #[.int .u64 a, .int .u64 b, .int .u64 c, .int .u64 d, .int .u64 f, .int .u64 g]) (.int .i64 j)).run Try.prog W = .ok (.int .u64 (rd ms j)) W := by
    intro j W h0 h1; rw [HMs.out]; exact idx119 a b c d f g j h0 h1 W
   have HIx := Aa hix
   clear hm hlen hix HMs
   obtain ⟨G, hG⟩ : ∃ G : Int → Int, G = fun m => atOne sts ⟨s0, s1⟩ (rd ms m) := ⟨_, rfl⟩
   rw [← hG] at HO3 HRes
   have HGd := Aa hG
   clear hG
   go_loopw [22] (fun v22 W => ∃ (m : Int), 0 ≤ m ∧ m ≤ 6 ∧ v22 = .int .i64 m ∧ Aside0 (Kd.R (Kd.int .i64) 3 W ws.heap.size (fun _ => True) (.slice (some ⟨g7, 0, none⟩) 6 c7) (outAt G m)) ∧ Aside0 (Below ws.heap.size ws W)) (fun v _ => 6 - (intOf v).toNat)
   case atStart => exact ⟨0, by omega, by omega, rfl, HO3, HB3⟩
   case round =>
    clear HO3 HB3
    obtain ⟨m, m0, m6, rfl, HO, HBw⟩ := hrel
    by_cases hlt : m < 6
    ·have hx := HIx.out m wr m0 hlt
     obtain ⟨M, hM⟩ : ∃ M, rd ms m = M := ⟨_, rfl⟩
     have HMd := Aa hM
     rw [hM] at hx
     clear hM
     have HBr := Aa (show Below ws.heap.size ws wr from HBw.out)
     have HOr := Aa (show Kd.R (Kd.int .i64) 3 wr ws.heap.size (fun _ => True) (.slice (some ⟨g7, 0, none⟩) 6 c7) (outAt G m) from HO.out)
     clear HBw HO
     obtain ⟨wo, rfl⟩ : ∃ wo : World, wo = wr := ⟨_, rfl⟩
     go_wp2_with fail
     clear hx
     go_loopw [10, 28] (fun v10 v28 W => ∃ (i : Int), 0 ≤ i ∧ i ≤ sts.length ∧ v28 = .int .i64 i ∧ Aside0 (Kd.R k126 126 W wo.heap.size (fun _ => True) v10 (subOf sts M i.toNat)) ∧ Aside0 (Below wo.heap.size wo W)) (fun _ v _ => sts.length - (intOf v).toNat)
     case atStart => exact ⟨0, by omega, by omega, rfl, ⟨Kd.R_nil _ _ _ _ _⟩, ⟨Below.refl _ _⟩⟩
     case round =>
      obtain ⟨i, i0, hk, rfl, HOl, HBv⟩ := hrel
      by_cases hil : i < sts.length
      ·have hi40 : i < 40 := by have := O1.out; omega
       have hBv : Below wo.heap.size wo wr := HBv.out
       obtain ⟨ad, e1, hy0, hy1⟩ := at_T126 (Kd.C_below HC6.out (below_step HBr.out hBv)) i i0 hil
       cases e1
       have HS := fun W => Aa (skew_set_has.calls M i _ W (by unfold skew_set_has.f; rw [if_pos i0]))
       have hsub := subOf_succ sts M i i0
       have hlen := subOf_length sts M i.toNat
       have HLs := Aa (show (subOf sts M i.toNat).length ≤ 40 by omega)
       clear hlen
       obtain ⟨xs, hxs⟩ : ∃ xs, subOf sts M i.toNat = xs := ⟨_, rfl⟩
       rw [hxs] at hsub HOl HLs
       have HBx := Aa hBv
       have HOx := Aa (show Kd.R k126 126 wr wo.heap.size (fun _ => True) u10 xs from HOl.out)
       clear hxs hBv HBv HOl
       cases hb : hasB M i with
       | false =>
        rw [hb, if_neg (by simp)] at hsub
        have HSb := Aa hsub
        have HSc := fun W => Aa (show Calls Try.prog 89 #[.int .u64 M, .int .i64 i] W fun e w' => e = .returned (.bool false) ∧ Drawn0 W w' from by have := (HS W).out; rwa [show ((bits .and .u64 (shr .u64 M i) 1) == 1) = false from hb] at this)
        clear HS hb hsub
        go_wp2_with (go_at_call 89; (with_reducible refine (HSc _).out.mono ?_); rintro e w4 ⟨rfl, ⟨⟨nd, rfl⟩⟩⟩)
        go_roundw
        case rel => exact ⟨i + 1, by omega, by omega, rfl, ⟨by rw [HSb.out]; exact Kd.R_drewN HOx.out _⟩, ⟨Pn HBx.out _⟩⟩
        case measure => simp [intOf]; omega
       | true =>
        rw [hb, if_pos rfl] at hsub
        have HSb := Aa hsub
        have HSc := fun W => Aa (show Calls Try.prog 89 #[.int .u64 M, .int .i64 i] W fun e w' => e = .returned (.bool true) ∧ Drawn0 W w' from by have := (HS W).out; rwa [show ((bits .and .u64 (shr .u64 M i) 1) == 1) = true from hb] at this)
        clear HS hb hsub
        go_wp2_with fail
        refine (HSc _).out.mono ?_
        rintro e w4 ⟨rfl, ⟨⟨nd, rfl⟩⟩⟩
        have HOn := Aa (Kd.R_drewN HOx.out nd)
        have HBn := Aa (Pn HBx.out nd)
        clear HOx HBx
        replace hy0 : (wr.drewN nd).cell? (ad.add (i.toNat * 2)) = some (.int .i64 (rd_T126 sts i).f0) := hy0
        replace hy1 : (wr.drewN nd).cell? ⟨(ad.add (i.toNat * 2)).block, (ad.add (i.toNat * 2)).off + 1, none⟩ = some (.int .i64 (rd_T126 sts i).f1) := hy1
        generalize wr.drewN nd = wn at HOn HBn hy0 hy1 ⊢
        go_wp2_with (at_builtin; refine Kd.R_append k126 (w0 := wo) wo.heap.size rfl (.tmp 34) (.tmp 39) 124 126 (.agg #[.int .i64 0, .int .i64 0]) 16 rfl Try.underlying124 info126 rfl (by decide) (by decide) u10 xs (rd_T126 sts i) [.int .i64 (rd_T126 sts i).f0, .int .i64 (rd_T126 sts i).f1] (fun _ => True) (fun _ => False) rfl rfl (k126_mkM _ _ _ (rd_T126 sts i)) (fun _ hk => hk.elim) (fun _ _ => trivial) HOn.out HBn.out HBn.out.size (by have := HLs.out; omega) ?_; intro v1 w5 ho hb hg hat; have HO1 := Aa ho; have HB1 := Aa hb; clear ho hb hg hat)
        go_roundw
        case rel => exact ⟨i + 1, by omega, by omega, rfl, ⟨by rw [HSb.out]; exact HO1.out⟩, HB1⟩
        case measure => simp [intOf]; omega
      ·obtain rfl : i = sts.length := by omega
       have e1 : ((sts.length : Int)).toNat = sts.length := by omega
       rw [e1] at HOl
       clear e1
       have hBv : Below wo.heap.size wo wr := HBv.out
       have hlen := subOf_length sts M sts.length
       obtain ⟨A10, c10, hv10, hc10, hC10⟩ := Kd.R_reads (show Kd.R k126 126 wr wo.heap.size (fun _ => True) _ (subOf sts M sts.length) from HOl.out)
       subst hv10
       have hxb := blk_below (blk_below HXs.out HBr.out) hBv
       have x0 := cell_at hxb 0 (.int .i64 s0) rfl
       have x1 := cell_at hxb 1 (.int .i64 s1) rfl
       have HB5 := Aa (below_step HBr.out hBv)
       have HO5 := Aa (Kd.R_below HOr.out hBv)
       obtain ⟨xs, hxs⟩ : ∃ xs, subOf sts M sts.length = xs := ⟨_, rfl⟩
       rw [hxs] at hC10 hc10 hlen
       have hrange := bsIdx_range xs ⟨s0, s1⟩
       have hxl : xs.length ≤ 40 := by have := O1.out; omega
       have HC := Aa (bs_calls A10 c10 xs ⟨s0, s1⟩ wr hC10 hc10 (by omega))
       have hGm : G m = if bsIs xs ⟨s0, s1⟩ = true then bsIdx xs ⟨s0, s1⟩ + 1 else bsIdx xs ⟨s0, s1⟩ := by
        rw [HGd.out]; show atOne sts ⟨s0, s1⟩ (rd ms m) = _; unfold atOne; rw [HMd.out, hxs]
       have hset := outAt_set G m m0 hlt
       rw [hGm] at hset
       obtain ⟨n, hn⟩ : ∃ n, bsIdx xs ⟨s0, s1⟩ = n := ⟨_, rfl⟩
       rw [hn] at HC hset hrange
       obtain ⟨n0, n1⟩ := hrange
       have hn40 : n ≤ 40 := by omega
       have HSet := Aa hset
       clear hn hset hGm hC10 hc10 hlen hxb hBv HBv HOl hxl n1
       subst hxs
       cases hb : bsIs (subOf sts M sts.length) ⟨s0, s1⟩ with
       | false =>
        rw [hb] at HC HSet
        rw [if_neg (by simp)] at HSet
        clear hb
        go_wp2_with fail
        refine HC.out.mono ?_
        rintro e w6 ⟨rfl, hb6⟩
        have HB6 := Aa (below_step HB5.out hb6)
        have hO6 := Kd.R_below HO5.out hb6
        obtain ⟨hz, hf⟩ := Kd.R_celln (0 : Int) hO6 m m0 hlt
        have HP := Aa (Kd.R_putg hO6 m n).1
        clear hb6 HC hO6 x0 x1
        go_wp2
        go_roundw
        case rel => exact ⟨m + 1, by omega, by omega, rfl, ⟨by rw [← HSet.out]; exact HP.out⟩, ⟨HB6.out.setCell (B := ws.heap.size) HG7.out _⟩⟩
        case measure => simp [intOf]; omega
       | true =>
        rw [hb] at HC HSet
        rw [if_pos rfl] at HSet
        clear hb
        go_wp2_with fail
        refine HC.out.mono ?_
        rintro e w6 ⟨rfl, hb6⟩
        have HB6 := Aa (below_step HB5.out hb6)
        have hO6 := Kd.R_below HO5.out hb6
        obtain ⟨hz, hf⟩ := Kd.R_celln (0 : Int) hO6 m m0 hlt
        have HP := Aa (Kd.R_putg hO6 m (n + 1)).1
        clear hb6 HC hO6 x0 x1
        go_wp2
        go_roundw
        case rel => exact ⟨m + 1, by omega, by omega, rfl, ⟨by rw [← HSet.out]; exact HP.out⟩, ⟨HB6.out.setCell (B := ws.heap.size) HG7.out _⟩⟩
        case measure => simp [intOf]; omega
    ·obtain rfl : m = 6 := by omega
     have HOr := Aa (show Kd.R (Kd.int .i64) 3 wr ws.heap.size (fun _ => True) (.slice (some ⟨g7, 0, none⟩) 6 c7) (outAt G 6) from HO.out)
     have HBr := Aa (show Below ws.heap.size ws wr from HBw.out)
     clear HO HBw
     go_wp2
     go_ret2
     exact ⟨_, rfl, by rw [← HRes.out]; exact Kd.R_lower HOr.out HBs.out.size, below_step HBs.out HBr.out⟩
  ·rw [if_neg hok] at h; cases h
end Go.Proofs.Ytbffhblebigcfaa.Sk
