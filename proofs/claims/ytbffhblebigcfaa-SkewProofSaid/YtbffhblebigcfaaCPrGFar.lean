/- The walks of skew.far: the farthest of a number and those of a list. -/
import Derived.Test.YtbffhblebigcfaaCPrGBase
import Derived.Test.YtbffhblebigcfaaCPrS0
namespace Go.Proofs.Ytbffhblebigcfaa.Sk
open Go.RowKit Go.Proofs.YtbffhblebigcfaaW.PrintWords Go.Proofs.YtbffhblebigcfaaW.PrintLast Go.Proofs.YtbffhblebigcfaaW.PrintMore
set_option linter.unusedVariables false
set_option linter.unusedSimpArgs false
def farF (num : S27 → Int) (bey : Int → Int → Bool) (b : Int) (l : List S27) : Int := l.foldl (fun b x => if bey (num x) b = true then num x else b) b
theorem farF_cons (num : S27 → Int) (bey : Int → Int → Bool) (b : Int) (l : List S27) (i : Int) (h0 : 0 ≤ i) (h1 : i < l.length) :
  farF num bey b (l.drop i.toNat) = farF num bey (if bey (num (rd_T27 l i)) b = true then num (rd_T27 l i) else b) (l.drop (i + 1).toNat) := by
 have hl : i.toNat < l.length := by omega
 have e : (i + 1).toNat = i.toNat + 1 := by omega
 have er : rd_T27 l i = l[i.toNat] := by simp [rd_T27, List.getD_eq_getElem?_getD, hl]
 rw [List.drop_eq_getElem_cons hl, e, er]; rfl
set_option maxHeartbeats 2000000 in
set_option maxRecDepth 100000 in
theorem far_low (A0 : Option Addr) (c0 : Nat) (l0 : List S27) (b0 : Int) (w : World) (Inv : World → Prop) (num : S27 → Int) (hI : Inv w) (hs : ∀ W W', Inv W → Below W.heap.size W W' → Inv W')
  (hC : ∀ W, Inv W → Kd.C k27 W A0 l0.length l0)
  (hn : ∀ (s : S27) (W : World), Inv W → Calls Try.prog 105 #[.agg #[.int .i64 s.f0, .int .i64 s.f1]] W fun e W' => e = .returned (.int .i64 (num s)) ∧ Below W.heap.size W W') :
  Calls Try.prog 102 #[.int .i64 b0, .slice A0 l0.length c0, .func (.func 105) #[] #[], .func (.func 104) #[] #[]] w fun e w' => e = .returned (.int .i64 (farF num (fun a b => decide (a > b)) b0 l0)) ∧ Inv w' ∧ Below w.heap.size w w' := by
 have hu27 := Try.underlying27
 have HM := Aa (hC _ hI).2.1
 have HI := Aa hI
 have HS := Aa hs
 have HC := Aa hC
 have HN := Aa hn
 clear hI hs hC hn
 have hm := HM.out
 go_enter Try.func102, Try.ntmps102
 go_wp2
 go_loopw [0, 10, 14] (fun v0 _ v14 W => ∃ (i b : Int), 0 ≤ i ∧ i ≤ l0.length ∧ v0 = .int .i64 b ∧ v14 = .int .i64 i ∧ Aside0 (farF num (fun a b => decide (a > b)) b (l0.drop i.toNat) = farF num (fun a b => decide (a > b)) b0 l0) ∧ Aside0 (Inv W) ∧ Aside0 (Below w.heap.size w W)) (fun _ _ v _ => l0.length - (intOf v).toNat)
 case atStart => exact ⟨0, b0, by omega, by omega, rfl, rfl, ⟨rfl⟩, HI, ⟨Below.refl _ _⟩⟩
 case round =>
  obtain ⟨i, b, h0, hk, rfl, rfl, HA, HI, HB⟩ := hrel
  by_cases hlt : i < l0.length
  ·obtain ⟨ad, e217, hx0, hx1⟩ := at_T27 (HC.out _ HI.out) i h0 hlt
   cases e217
   have hA := HA.out
   rw [farF_cons _ _ _ _ i h0 hlt] at hA
   clear HA
   have HA := Aa hA
   clear hA
   obtain ⟨x, hx⟩ : ∃ x, rd_T27 l0 i = x := ⟨_, rfl⟩
   rw [hx] at hx0 hx1 HA
   obtain ⟨q, hq⟩ : ∃ q, num x = q := ⟨_, rfl⟩
   have hc := HN.out x
   rw [hq] at hc HA
   have HCx := Aa hc
   clear hc hq hx
   have HI2 := Aa (HS.out _ _ HI.out (below_alloc (Below.refl _ _) (.cells #[.int .i64 x.f0, .int .i64 x.f1] 27)))
   have HB2 := Aa (below_alloc HB.out (.cells #[.int .i64 x.f0, .int .i64 x.f1] 27))
   clear HI HB
   by_cases hg : q > b
   ·have hA := HA.out
    rw [if_pos (by simp only [decide_eq_true_eq]; exact hg)] at hA
    clear HA
    have HA := Aa hA
    clear hA
    go_wp2_with (first | (go_at_call 105; refine (HCx.out _ HI2.out).mono ?_; rintro e w1 ⟨rfl, hb⟩; have HI3 := Aa (HS.out _ _ HI2.out hb); have HB3 := Aa (below_step HB2.out hb); clear HI2 HB2 hb) | (go_at_call 104; refine (skew_greater.calls _ _ _ _ rfl).mono ?_; rintro e w2 ⟨rfl, ⟨nd, rfl⟩⟩))
    go_roundw
    case rel => exact ⟨i + 1, q, by omega, by omega, rfl, rfl, HA, ⟨HS.out _ _ HI3.out (Pn (Below.refl _ _) nd)⟩, ⟨Pn HB3.out nd⟩⟩
    case measure => simp [intOf]; omega
   ·have hA := HA.out
    rw [if_neg (by simp only [decide_eq_true_eq]; exact hg)] at hA
    clear HA
    have HA := Aa hA
    clear hA
    go_wp2_with (first | (go_at_call 105; refine (HCx.out _ HI2.out).mono ?_; rintro e w1 ⟨rfl, hb⟩; have HI3 := Aa (HS.out _ _ HI2.out hb); have HB3 := Aa (below_step HB2.out hb); clear HI2 HB2 hb) | (go_at_call 104; refine (skew_greater.calls _ _ _ _ rfl).mono ?_; rintro e w2 ⟨rfl, ⟨nd, rfl⟩⟩))
    go_roundw
    case rel => exact ⟨i + 1, b, by omega, by omega, rfl, rfl, HA, ⟨HS.out _ _ HI3.out (Pn (Below.refl _ _) nd)⟩, ⟨Pn HB3.out nd⟩⟩
    case measure => simp [intOf]; omega
  ·have hA := HA.out
   rw [List.drop_of_length_le (by omega)] at hA
   have HA2 := Aa hA
   clear hA HA
   go_wp2
   go_ret
   exact ⟨by rw [← HA2.out]; rfl, HI.out, HB.out⟩
set_option maxHeartbeats 2000000 in
set_option maxRecDepth 100000 in
theorem far_vote (A0 : Option Addr) (c0 : Nat) (l0 : List S27) (b0 : Int) (w : World) (cb : Nat) (Inv : World → Prop) (num : S27 → Int) (hI : Inv w) (hs : ∀ W W', Inv W → Below W.heap.size W W' → Inv W')
  (hC : ∀ W, Inv W → Kd.C k27 W A0 l0.length l0)
  (hn : ∀ (s : S27) (W : World), Inv W → Calls Try.prog 103 #[.agg #[.int .i64 s.f0, .int .i64 s.f1], .pointer (some ⟨cb, 0, none⟩)] W fun e W' => e = .returned (.int .i64 (num s)) ∧ Below W.heap.size W W') :
  Calls Try.prog 102 #[.int .i64 b0, .slice A0 l0.length c0, .func (.func 103) #[] #[.pointer (some ⟨cb, 0, none⟩)], .func (.func 104) #[] #[]] w fun e w' => e = .returned (.int .i64 (farF num (fun a b => decide (a > b)) b0 l0)) ∧ Inv w' ∧ Below w.heap.size w w' := by
 have hu27 := Try.underlying27
 have HM := Aa (hC _ hI).2.1
 have HI := Aa hI
 have HS := Aa hs
 have HC := Aa hC
 have HN := Aa hn
 clear hI hs hC hn
 have hm := HM.out
 go_enter Try.func102, Try.ntmps102
 go_wp2
 go_loopw [0, 10, 14] (fun v0 _ v14 W => ∃ (i b : Int), 0 ≤ i ∧ i ≤ l0.length ∧ v0 = .int .i64 b ∧ v14 = .int .i64 i ∧ Aside0 (farF num (fun a b => decide (a > b)) b (l0.drop i.toNat) = farF num (fun a b => decide (a > b)) b0 l0) ∧ Aside0 (Inv W) ∧ Aside0 (Below w.heap.size w W)) (fun _ _ v _ => l0.length - (intOf v).toNat)
 case atStart => exact ⟨0, b0, by omega, by omega, rfl, rfl, ⟨rfl⟩, HI, ⟨Below.refl _ _⟩⟩
 case round =>
  obtain ⟨i, b, h0, hk, rfl, rfl, HA, HI, HB⟩ := hrel
  by_cases hlt : i < l0.length
  ·obtain ⟨ad, e217, hx0, hx1⟩ := at_T27 (HC.out _ HI.out) i h0 hlt
   cases e217
   have hA := HA.out
   rw [farF_cons _ _ _ _ i h0 hlt] at hA
   clear HA
   have HA := Aa hA
   clear hA
   obtain ⟨x, hx⟩ : ∃ x, rd_T27 l0 i = x := ⟨_, rfl⟩
   rw [hx] at hx0 hx1 HA
   obtain ⟨q, hq⟩ : ∃ q, num x = q := ⟨_, rfl⟩
   have hc := HN.out x
   rw [hq] at hc HA
   have HCx := Aa hc
   clear hc hq hx
   have HI2 := Aa (HS.out _ _ HI.out (below_alloc (Below.refl _ _) (.cells #[.int .i64 x.f0, .int .i64 x.f1] 27)))
   have HB2 := Aa (below_alloc HB.out (.cells #[.int .i64 x.f0, .int .i64 x.f1] 27))
   clear HI HB
   by_cases hg : q > b
   ·have hA := HA.out
    rw [if_pos (by simp only [decide_eq_true_eq]; exact hg)] at hA
    clear HA
    have HA := Aa hA
    clear hA
    go_wp2_with (first | (go_at_call 103; refine (HCx.out _ HI2.out).mono ?_; rintro e w1 ⟨rfl, hb⟩; have HI3 := Aa (HS.out _ _ HI2.out hb); have HB3 := Aa (below_step HB2.out hb); clear HI2 HB2 hb) | (go_at_call 104; refine (skew_greater.calls _ _ _ _ rfl).mono ?_; rintro e w2 ⟨rfl, ⟨nd, rfl⟩⟩))
    go_roundw
    case rel => exact ⟨i + 1, q, by omega, by omega, rfl, rfl, HA, ⟨HS.out _ _ HI3.out (Pn (Below.refl _ _) nd)⟩, ⟨Pn HB3.out nd⟩⟩
    case measure => simp [intOf]; omega
   ·have hA := HA.out
    rw [if_neg (by simp only [decide_eq_true_eq]; exact hg)] at hA
    clear HA
    have HA := Aa hA
    clear hA
    go_wp2_with (first | (go_at_call 103; refine (HCx.out _ HI2.out).mono ?_; rintro e w1 ⟨rfl, hb⟩; have HI3 := Aa (HS.out _ _ HI2.out hb); have HB3 := Aa (below_step HB2.out hb); clear HI2 HB2 hb) | (go_at_call 104; refine (skew_greater.calls _ _ _ _ rfl).mono ?_; rintro e w2 ⟨rfl, ⟨nd, rfl⟩⟩))
    go_roundw
    case rel => exact ⟨i + 1, b, by omega, by omega, rfl, rfl, HA, ⟨HS.out _ _ HI3.out (Pn (Below.refl _ _) nd)⟩, ⟨Pn HB3.out nd⟩⟩
    case measure => simp [intOf]; omega
  ·have hA := HA.out
   rw [List.drop_of_length_le (by omega)] at hA
   have HA2 := Aa hA
   clear hA HA
   go_wp2
   go_ret
   exact ⟨by rw [← HA2.out]; rfl, HI.out, HB.out⟩
end Go.Proofs.Ytbffhblebigcfaa.Sk
