/- The walk of skew.Sure. -/
import Derived.Test.YtbffhblebigcfaaCPrGTight
import Derived.Test.YtbffhblebigcfaaCPrGAhead
namespace Go.Proofs.Ytbffhblebigcfaa.Sk
open Go.RowKit Go.Proofs.YtbffhblebigcfaaW.PrintWords Go.Proofs.YtbffhblebigcfaaW.PrintLast Go.Proofs.YtbffhblebigcfaaW.PrintMore
set_option linter.unusedVariables false
set_option linter.unusedSimpArgs false
def skew_Sure.f (evs : List S27) (gaps : List S86) (x y : Int) : Option (Bool × Int) :=
 (skew_isHist.f 1000 evs gaps).bind fun t => if t = true then
  if x ≥ 0 ∧ x ≤ wrap64 ((evs.length : Int) - 1) then
   if y ≥ 0 ∧ y ≤ wrap64 ((evs.length : Int) - 1) then
    (tightR evs gaps).bind fun p => if evs.length ≤ 10 then some (match p.1 with | some B => decide (B y x < 0) | none => false, p.2) else none
   else some (false, 2)
  else some (false, 2)
 else some (false, 2)
set_option maxHeartbeats 4000000 in
set_option maxRecDepth 100000 in
theorem skew_Sure.calls (A0 : Option Addr) (c0 : Nat) (evs : List S27) (A1 : Option Addr) (c1 : Nat) (gaps : List S86) (x y : Int) (r1 : Bool) (r2 : Int) (w : World) (hC0 : Kd.C k27 w A0 evs.length evs) (hc0 : evs.length ≤ c0) (hC1 : Kd.C k86 w A1 gaps.length gaps) (hc1 : gaps.length ≤ c1) (h : skew_Sure.f evs gaps x y = some (r1, r2)) :
  Calls Try.prog 66 #[.agg #[.slice A0 evs.length c0, .slice A1 gaps.length c1], .int .i64 x, .int .i64 y] w fun e w' => e = .returned (.tuple #[.bool r1, .int .i64 r2]) ∧ Below w.heap.size w w' := by
 unfold skew_Sure.f at h
 obtain ⟨t, ht, h⟩ := Option.bind_eq_some_iff.mp h
 have hb0 := below_alloc (Below.refl w.heap.size w) (.cells #[.slice A0 evs.length c0, .slice A1 gaps.length c1] 39)
 have hk0 := blk_new w (.cells #[.slice A0 evs.length c0, .slice A1 gaps.length c1] 39)
 have HIs := Aa (skew_isHist.calls 1000 A0 c0 evs A1 c1 gaps t _ (Kd.C_below hC0 hb0) hc0 (Kd.C_below hC1 hb0) hc1 ht)
 have x0 := cell_at hk0 0 (.slice A0 evs.length c0) rfl
 have x1 := cell_at hk0 1 (.slice A1 gaps.length c1) rfl
 have HB0 := Aa hb0
 have HK0 := Aa hk0
 clear hb0 hk0 ht
 cases t with
 | false =>
  rw [if_neg (by simp)] at h
  simp only [Option.some.injEq, Prod.mk.injEq] at h
  obtain ⟨rfl, rfl⟩ := h
  go_enter Try.func66, Try.ntmps66
  go_wp2_with (go_at_call 77; refine HIs.out.mono ?_; rintro e w1 ⟨rfl, hb⟩; have HB1 := Aa (below_step HB0.out hb); clear hb)
  go_ret2
  exact ⟨rfl, HB1.out⟩
 | true =>
  rw [if_pos rfl] at h
  by_cases ha : x ≥ 0 ∧ x ≤ wrap64 ((evs.length : Int) - 1)
  ·rw [if_pos ha] at h
   have HA := fun w => Aa (within_calls x 0 _ true (decide_eq_true ha) w)
   by_cases hb : y ≥ 0 ∧ y ≤ wrap64 ((evs.length : Int) - 1)
   ·rw [if_pos hb] at h
    have HBy := fun w => Aa (within_calls y 0 _ true (decide_eq_true hb) w)
    obtain ⟨⟨R, r⟩, hR, h⟩ := Option.bind_eq_some_iff.mp h
    by_cases hle : evs.length ≤ 10
    ·rw [if_pos hle] at h
     simp only [Option.some.injEq, Prod.mk.injEq] at h
     obtain ⟨hr1, rfl⟩ := h
     have HR1 := Aa hr1
     have HTR := Aa hR
     have hx : 0 ≤ x ∧ x < 11 := by unfold wrap64 at ha; omega
     have hy : 0 ≤ y ∧ y < 11 := by unfold wrap64 at hb; omega
     have HX := Aa hx
     have HY := Aa hy
     clear ha hb hle hr1 hR hx hy
     go_enter Try.func66, Try.ntmps66
     go_wp2_with fail
     refine HIs.out.mono ?_
     rintro e w1 ⟨rfl, hb⟩
     have HB1 := Aa (below_step HB0.out hb)
     have hk1 := blk_below HK0.out hb
     have HK1 := Aa hk1
     have y0 := cell_at hk1 0 (.slice A0 evs.length c0) rfl
     clear hb HIs x0 x1 hk1
     go_wp2_with fail
     with_reducible refine (HA w1).out.mono ?_
     rintro e w2 ⟨rfl, hb⟩
     have HB2 := Aa (below_step HB1.out hb)
     have hk2 := blk_below HK1.out hb
     have HK2 := Aa hk2
     have y0 := cell_at hk2 0 (.slice A0 evs.length c0) rfl
     clear hb HA hk2 HB1
     go_wp2_with fail
     with_reducible refine (HBy w2).out.mono ?_
     rintro e w3 ⟨rfl, hb⟩
     have HB3 := Aa (below_step HB2.out hb)
     have hk3 := blk_below HK2.out hb
     have y0 := cell_at hk3 0 (.slice A0 evs.length c0) rfl
     have y1 := cell_at hk3 1 (.slice A1 gaps.length c1) rfl
     clear hb HBy hk3 HB2
     have HT := Aa (tight_calls A0 A1 c0 c1 evs gaps R r w3 (Kd.C_below hC0 HB3.out) hc0 (Kd.C_below hC1 HB3.out) hc1 HTR.out)
     cases R with
     | none =>
      have HTn := Aa HT.out
      clear HT
      go_wp2_with (go_at_call 108; refine HTn.out.mono ?_; rintro e w4 ⟨p, rfl, _, hn, _, hb⟩; have hrn := hn rfl; have HB4 := Aa (below_step HB3.out hb); clear hb)
      go_ret2
      exact ⟨by rw [← HR1.out]; rfl, HB4.out⟩
     | some B =>
      have HTn := Aa HT.out
      clear HT
      go_wp2_with (first
       | (go_at_call 108; refine HTn.out.mono ?_; rintro e w4 ⟨p, rfl, hs, _, hz, hb⟩; obtain ⟨b, rfl, hbl, hbd⟩ := hs B rfl; obtain rfl := hz B rfl; have HBd := Aa hbd; have HB4 := Aa (below_step HB3.out hb); clear hb hbd hs)
       | (go_at_call 115; refine (sure_calls b _ _ B x y w4 HBd.out HX.out.1 HX.out.2 HY.out.1 HY.out.2).mono ?_; rintro e w5 ⟨rfl, rfl⟩))
      go_ret2
      exact ⟨by rw [← HR1.out]; rfl, HB4.out⟩
    ·rw [if_neg hle] at h; cases h
   ·rw [if_neg hb] at h
    simp only [Option.some.injEq, Prod.mk.injEq] at h
    obtain ⟨rfl, rfl⟩ := h
    have HBy := fun w => Aa (within_calls y 0 _ false (decide_eq_false hb) w)
    clear ha hb
    go_enter Try.func66, Try.ntmps66
    go_wp2_with fail
    refine HIs.out.mono ?_
    rintro e w1 ⟨rfl, hb⟩
    have HB1 := Aa (below_step HB0.out hb)
    have hk1 := blk_below HK0.out hb
    have HK1 := Aa hk1
    have y0 := cell_at hk1 0 (.slice A0 evs.length c0) rfl
    clear hb HIs x0 x1 hk1
    go_wp2_with fail
    with_reducible refine (HA w1).out.mono ?_
    rintro e w2 ⟨rfl, hb⟩
    have HB2 := Aa (below_step HB1.out hb)
    have hk2 := blk_below HK1.out hb
    have y0 := cell_at hk2 0 (.slice A0 evs.length c0) rfl
    clear hb HA hk2 HB1
    go_wp2_with fail
    with_reducible refine (HBy w2).out.mono ?_
    rintro e w3 ⟨rfl, hb⟩
    have HB3 := Aa (below_step HB2.out hb)
    clear hb HBy HB2
    go_wp2
    go_ret2
    exact ⟨rfl, HB3.out⟩
  ·rw [if_neg ha] at h
   simp only [Option.some.injEq, Prod.mk.injEq] at h
   obtain ⟨rfl, rfl⟩ := h
   have HA := fun w => Aa (within_calls x 0 _ false (decide_eq_false ha) w)
   clear ha
   go_enter Try.func66, Try.ntmps66
   go_wp2_with fail
   refine HIs.out.mono ?_
   rintro e w1 ⟨rfl, hb⟩
   have HB1 := Aa (below_step HB0.out hb)
   have hk1 := blk_below HK0.out hb
   have y0 := cell_at hk1 0 (.slice A0 evs.length c0) rfl
   clear hb HIs x0 x1 hk1
   go_wp2_with fail
   with_reducible refine (HA w1).out.mono ?_
   rintro e w2 ⟨rfl, hb⟩
   have HB2 := Aa (below_step HB1.out hb)
   clear hb HA HB1
   go_wp2
   go_ret2
   exact ⟨rfl, HB2.out⟩
end Go.Proofs.Ytbffhblebigcfaa.Sk
