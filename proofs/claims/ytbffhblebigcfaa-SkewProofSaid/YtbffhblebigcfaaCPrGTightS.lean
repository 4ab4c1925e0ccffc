/- The walk of skew.Tight. -/
import Derived.Test.YtbffhblebigcfaaCPrGTight
import Derived.Test.YtbffhblebigcfaaCPrGCounts
namespace Go.Proofs.Ytbffhblebigcfaa.Sk
open Go.RowKit Go.Proofs.YtbffhblebigcfaaW.PrintWords Go.Proofs.YtbffhblebigcfaaW.PrintLast Go.Proofs.YtbffhblebigcfaaW.PrintMore
set_option linter.unusedVariables false
set_option linter.unusedSimpArgs false
theorem clip109 (A : Option Addr) (n c : Nat) (hn : n ≤ c) (w : World) : Calls Try.prog 109 #[.slice A n c] w fun e w' => e = .returned (.slice A n n) ∧ w = w' := by
 go_enter Try.func109, Try.ntmps109
 go_wp2
 go_ret
 exact ⟨rfl, rfl⟩
theorem i64wrap (x : Int) : IntKind.i64.wrap x = wrap64 x := IntWalk.i64_left x
def tspan (B : Int → Int → Int) (i : Nat) : S27 := ⟨wrap64 (-(B i 10)), B 10 i⟩
def tspans (B : Int → Int → Int) (n : Nat) : List S27 := (List.range n).map (tspan B)
theorem tspans_succ (B : Int → Int → Int) (n : Nat) : tspans B (n + 1) = tspans B n ++ [tspan B n] := by
 unfold tspans; rw [List.range_succ, List.map_append, List.map_cons, List.map_nil]
def BdS (W : World) (b : Nat) (ev gv : Value) (B : Int → Int → Int) (i : Nat) : Prop :=
 Bd W b ev gv B ∧ W.cell? ⟨b, 2 + i * 11 + 10, none⟩ = some (.int .i64 (B i 10)) ∧ W.cell? ⟨b, 2 + 10 * 11 + i, none⟩ = some (.int .i64 (B 10 i)) ∧ W.cell? ⟨b, 112 + i, none⟩ = some (.int .i64 (B 10 i))
theorem bdS {W : World} {b : Nat} {ev gv : Value} {B : Int → Int → Int} (h : Bd W b ev gv B) (i : Nat) (hi : (i : Int) < 11) : BdS W b ev gv B i :=
 ⟨h, h.atN i 10 hi (by decide), h.atN 10 i (by decide) hi, h.atN 10 i (by decide) hi⟩
def skew_Tight.f (evs : List S27) (gaps : List S86) : Option (List S27 × Int) :=
 (tightR evs gaps).bind fun p => if evs.length ≤ 10 then some (match p.1 with | some B => tspans B evs.length | none => [], p.2) else none
set_option maxHeartbeats 4000000 in
set_option maxRecDepth 100000 in
theorem skew_Tight.calls (A0 : Option Addr) (c0 : Nat) (evs : List S27) (A1 : Option Addr) (c1 : Nat) (gaps : List S86) (r1 : List S27) (r2 : Int) (w : World) (hC0 : Kd.C k27 w A0 evs.length evs) (hc0 : evs.length ≤ c0) (hC1 : Kd.C k86 w A1 gaps.length gaps) (hc1 : gaps.length ≤ c1) (h : skew_Tight.f evs gaps = some (r1, r2)) :
  Calls Try.prog 48 #[.agg #[.slice A0 evs.length c0, .slice A1 gaps.length c1]] w fun e w' => ∃ v0_ : Value, e = .returned (.tuple #[v0_, .int .i64 r2]) ∧ Kd.V k27 27 w' w.heap.size (fun k_ => (w.heap.size ≤ k_)) v0_ r1 ∧ Below w.heap.size w w' := by
 unfold skew_Tight.f at h
 obtain ⟨⟨R, r⟩, hR, h⟩ := Option.bind_eq_some_iff.mp h
 by_cases hle : evs.length ≤ 10
 ·rw [if_pos hle] at h
  simp only [Option.some.injEq, Prod.mk.injEq] at h
  obtain ⟨hr1, rfl⟩ := h
  have HR1 := Aa hr1
  have HLe := Aa hle
  have hb0 := below_alloc (Below.refl w.heap.size w) (.cells #[.slice A0 evs.length c0, .slice A1 gaps.length c1] 39)
  have hk0 := blk_new w (.cells #[.slice A0 evs.length c0, .slice A1 gaps.length c1] 39)
  have HT := Aa (tight_calls A0 A1 c0 c1 evs gaps R r _ (Kd.C_below hC0 hb0) hc0 (Kd.C_below hC1 hb0) hc1 hR)
  have x0 := cell_at hk0 0 (.slice A0 evs.length c0) rfl
  have x1 := cell_at hk0 1 (.slice A1 gaps.length c1) rfl
  have HB0 := Aa hb0
  clear hb0 hk0 hR hr1 hle
  cases R with
  | none =>
   have HTn := Aa HT.out
   clear HT
   go_enter Try.func48, Try.ntmps48
   go_wp2_with (go_at_call 108; refine HTn.out.mono ?_; rintro e w4 ⟨p, rfl, _, hn, _, hb⟩; have hrn := hn rfl; have HB4 := Aa (below_step HB0.out hb); clear hb)
   go_ret2
   exact ⟨_, rfl, by rw [← HR1.out]; exact Kd.V_nil _ _ _ _ _, HB4.out⟩
  | some B =>
   have HTn := Aa HT.out
   clear HT
   go_enter Try.func48, Try.ntmps48
   go_wp2_with fail
   refine HTn.out.mono ?_
   rintro e wT ⟨p, rfl, hs, _, hz, hb⟩
   obtain ⟨b, rfl, hbl, hbd⟩ := hs B rfl
   obtain rfl := hz B rfl
   have HBd := Aa hbd
   have HB4 := Aa (below_step HB0.out hb)
   have x0 := hbd.c0
   clear hb hbd hs hz HTn HB0 x1
   go_wp2_with fail
   go_loopw [6, 22] (fun v6 v22 W => ∃ i : Nat, i ≤ evs.length ∧ v22 = .int .i64 (i : Int) ∧ Aside0 (Kd.R k27 27 W wT.heap.size (fun _ => True) v6 (tspans B i)) ∧ Aside0 (Below wT.heap.size wT W)) (fun _ v _ => evs.length - (intOf v).toNat)
   case atStart => exact ⟨0, Nat.zero_le _, rfl, ⟨Kd.R_nil _ _ _ _ _⟩, ⟨Below.refl _ _⟩⟩
   case round =>
    obtain ⟨i, hi, rfl, HO, HBw⟩ := hrel
    by_cases hlt : (i : Int) < evs.length
    ·have hi11 : (i : Int) < 11 := by have := HLe.out; omega
     have hB := HBd.out.below HBw.out
     have HBi := Aa (show Bd wr b _ _ B from hB)
     have HI11 := Aa hi11
     have hst := tspans_succ B i
     have HSt := Aa hst
     have hlen : (tspans B i).length ≤ 10 := by unfold tspans; rw [List.length_map, List.length_range]; omega
     have HLn := Aa hlen
     have hbT : b < wT.heap.size := HBd.out.lt
     have HbT := Aa hbT
     clear hst hlen hbT
     have HBx := Aa (show Below wT.heap.size wT wr from HBw.out)
     have HOx := Aa (show Kd.R k27 27 wr wT.heap.size (fun _ => True) u6 (tspans B i) from HO.out)
     have HNe := Aa (show some b ≠ u6.ownBlock from fun e => by have := ((Kd.R_bound HOx.out).1 _ e.symm).2.1; have := HbT.out; omega)
     clear hB HBw HO
     obtain ⟨z1, hz1⟩ : ∃ z, IntKind.i64.wrap (-(B i 10)) = z := ⟨_, rfl⟩
     have hts : tspan B i = ⟨z1, B 10 i⟩ := by rw [← hz1, i64wrap]; rfl
     have HTs := Aa hts
     clear hts
     go_wp2_with fail
     go_region_held3 (fun W => Bd W b (.slice A0 evs.length c0) (.slice A1 gaps.length c1) B ∧ W.cell? ⟨b, 2 + i * 11 + 10, none⟩ = some (.int .i64 (B i 10)) ∧ W.cell? ⟨b, 2 + 10 * 11 + i, none⟩ = some (.int .i64 (B 10 i)) ∧ W.cell? ⟨b, 112 + i, none⟩ = some (.int .i64 (B 10 i)))
      (first | exact bdS HBi.out.drew i HI11.out | exact bdS (Bd.grown HBi.out.drew hg HNe.out) i HI11.out | (go_split_ands; exact bdS (Bd.alloc (by assumption) _) i HI11.out))
      (first | (refine Kd.R_append_step k27 (w0 := wT) (W := wr.drew) wT.heap.size (by rfl) (.tmp 25) (.tmp 42) 36 27 (.agg #[.int .i64 0, .int .i64 0]) 16 rfl Try.underlying36 info27 rfl (by decide) (by decide) u6 (tspans B i) (⟨z1, B 10 i⟩ : S27) [.int .i64 z1, .int .i64 (B 10 i)] (fun _ => True) (fun _ => False) rfl rfl (k27_mkM _ _ _ (⟨z1, B 10 i⟩ : S27)) (fun _ hk => hk.elim) (fun _ _ => trivial) (Kd.R_drew HOx.out) (Dn HBx.out) HBx.out.size (by have := HLn.out; omega) ?_; intro v1 w5 ho hb hg hat))
     rename_i hS
     have HO5 := Aa ho
     have HB5 := Aa hb
     clear ho hb hg hat hS
     go_wp2
     go_roundw
     case rel => exact ⟨i + 1, by omega, by simp, ⟨by rw [HSt.out, HTs.out]; exact HO5.out⟩, HB5⟩
     case measure => simp [intOf]; omega
    ·obtain rfl : i = evs.length := by omega
     obtain ⟨A6, c6, hv6, hc6, hC6⟩ := Kd.R_reads (show Kd.R k27 27 wr wT.heap.size (fun _ => True) u6 (tspans B evs.length) from HO.out)
     subst hv6
     have hlr : (tspans B evs.length).length = evs.length := by unfold tspans; rw [List.length_map, List.length_range]
     have HC6 := Aa hc6
     have HV := Aa (V_clip' (w := wT) HO.out (Nat.le_refl _))
     have HBx := Aa (show Below wT.heap.size wT wr from HBw.out)
     clear hc6 hC6 HO HBw hlr
     go_wp2_with fail
     refine (clip109 A6 _ c6 HC6.out _).mono ?_
     rintro e w5 ⟨rfl, rfl⟩
     go_wp2
     go_ret2
     have hV := HV.out
     refine ⟨.slice A6 (tspans B evs.length).length (tspans B evs.length).length, rfl, ?_, below_step HB4.out HBx.out⟩
     rw [← HR1.out]
     exact Kd.V_mk (Nat.le_refl _) (Kd.F_mono (Kd.V_F hV) (fun k hk => Nat.le_trans HB4.out.size hk))
 ·rw [if_neg hle] at h; cases h
end Go.Proofs.Ytbffhblebigcfaa.Sk
