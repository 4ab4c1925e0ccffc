/- The block of a history's bounds, and what writes into it: say, tighten, sure. -/
import Derived.StillTailTactics
import Derived.WalkMore
import Derived.Test.YtbffhblebigcfaaCPrGBase
namespace Go.Proofs.Ytbffhblebigcfaa.Sk
open Go.RowKit Go.Proofs.YtbffhblebigcfaaW.PrintWords Go.Proofs.YtbffhblebigcfaaW.PrintLast Go.Proofs.YtbffhblebigcfaaW.PrintMore
def mn (x y : Int) : Int := if y < x then y else x
theorem mn_eq (x y : Int) : mn x y = min x y := by unfold mn; omega
theorem min2_mn (k k' : IntKind) (x y : Int) : Builtin.min2 (.int k x) (.int k' y) = pure (.int k (mn x y)) := min2_int k k' x y
attribute [local go_sem high] min2_mn min_two
set_option linter.unusedVariables false
set_option linter.unusedSimpArgs false
structure Bd (W : World) (b : Nat) (e g : Value) (B : Int → Int → Int) : Prop where
 blk : ∃ cs, W.heap[b]? = some (.cells cs 110 (0, 0))
 c0 : W.cell? ⟨b, 0, none⟩ = some e
 c1 : W.cell? ⟨b, 1, none⟩ = some g
 at' : ∀ i j : Int, 0 ≤ i → i < 11 → 0 ≤ j → j < 11 → W.cell? ⟨b, 2 + i.toNat * 11 + j.toNat, none⟩ = some (.int .i64 (B i j))
def set2 (B : Int → Int → Int) (i j x : Int) : Int → Int → Int := fun a c => if a = i ∧ c = j then x else B a c
section
variable {W W' : World} {b : Nat} {e g : Value} {B : Int → Int → Int}
theorem Bd.lt (h : Bd W b e g B) : b < W.heap.size := by obtain ⟨cs, hc⟩ := h.blk; exact blk_lt hc
theorem Bd.fz (h : Bd W b e g B) (i : Nat) : W.frozen? ⟨b, i, none⟩ = false := by obtain ⟨cs, hc⟩ := h.blk; exact blk_frozen hc i
theorem Bd.below (h : Bd W b e g B) (hb : Below W.heap.size W W') : Bd W' b e g B := by
 obtain ⟨cs, hc⟩ := h.blk
 exact ⟨⟨cs, blk_below hc hb⟩, pw_cell_below hb h.c0, pw_cell_below hb h.c1, fun i j h0 h1 h2 h3 => pw_cell_below hb (h.at' i j h0 h1 h2 h3)⟩
theorem Bd.alloc (h : Bd W b e g B) (o : Obj) : Bd (W.alloc o) b e g B := h.below (below_alloc (Below.refl _ _) _)
theorem Bd.drew (h : Bd W b e g B) : Bd W.drew b e g B := h.below (Dn (Below.refl _ _))
theorem Bd.put (h : Bd W b e g B) (i j x : Int) (i0 : 0 ≤ i) (i1 : i < 11) (j0 : 0 ≤ j) (j1 : j < 11) : Bd (W.setCell ⟨b, 2 + i.toNat * 11 + j.toNat, none⟩ (.int .i64 x)) b e g (set2 B i j x) := by
 obtain ⟨cs, hc⟩ := h.blk
 have hne : ∀ k, k ≠ 2 + i.toNat * 11 + j.toNat → (W.setCell ⟨b, 2 + i.toNat * 11 + j.toNat, none⟩ (.int .i64 x)).cell? ⟨b, k, none⟩ = W.cell? ⟨b, k, none⟩ := fun k hk => World.cell?_setCell_other W _ _ _ (by intro hh; injection hh with _ h2 _; exact hk h2.symm)
 refine ⟨⟨_, blk_put hc _ _ rfl⟩, (hne 0 (by omega)).trans h.c0, (hne 1 (by omega)).trans h.c1, fun a c a0 a1 c0 c1 => ?_⟩
 by_cases hac : a = i ∧ c = j
 ·obtain ⟨rfl, rfl⟩ := hac
  rw [World.cell?_setCell_same W _ _ (h.at' a c a0 a1 c0 c1)]
  simp [set2]
 ·rw [hne _ (by omega), h.at' a c a0 a1 c0 c1]
  simp [set2, hac]
end
structure S153 where
 f0 : Int
 f1 : Int
 f2 : Int
 f3 : Int
theorem gb_put {w W : World} {b : Nat} (h : w.grownBy W (some b)) (j : Nat) (v : Value) : w.grownBy (W.setCell ⟨b, j, none⟩ v) (some b) :=
 ⟨h.os, h.tape, h.output, by rw [World.size_setCell]; exact h.size, fun i hi hr => (Below.heap_setCell W ⟨b, j, none⟩ v i (fun e => hr (congrArg some e))).trans (h.block i hi hr)⟩
theorem gb_drew {w W : World} {r : Option Nat} (h : w.grownBy W r) : w.grownBy W.drew r := ⟨h.os, h.tape, h.output, h.size, h.block⟩
theorem gb_below {w w' : World} {base r : Nat} (h : w.grownBy w' (some r)) (hr : base ≤ r) (hb : base ≤ w.heap.size) : Below base w w' :=
 ⟨h.os, h.tape, h.output, h.size, fun k hk => h.block k (Nat.lt_of_lt_of_le hk hb) (fun e => by injection e with e; omega)⟩
theorem below_drew1' {B : Nat} {w w' : World} (h : Below B w w') : Below B w w'.drew := ⟨h.os, h.tape, h.output, h.size, h.block⟩
theorem below_weak {B B' : Nat} {w w' : World} (h : Below B w w') (hb : B' ≤ B) : Below B' w w' := ⟨h.os, h.tape, h.output, h.size, fun k hk => h.block k (Nat.lt_of_lt_of_le hk hb)⟩
def sayF (B : Int → Int → Int) (f : S153) : Int → Int → Int :=
 let B1 := set2 B f.f0 f.f1 (mn (B f.f0 f.f1) f.f3)
 set2 B1 f.f1 f.f0 (mn (B1 f.f1 f.f0) (wrap64 (-f.f2)))
set_option maxHeartbeats 2000000 in
set_option maxRecDepth 100000 in
theorem say_calls (b : Nat) (e g : Value) (B : Int → Int → Int) (f : S153) (w : World) (h : Bd w b e g B) (hf0 : 0 ≤ f.f0 ∧ f.f0 < 11) (hf1 : 0 ≤ f.f1 ∧ f.f1 < 11) :
  Calls Try.prog 120 #[.pointer (some ⟨b, 2, none⟩), .agg #[.int .i64 f.f0, .int .i64 f.f1, .int .i64 f.f2, .int .i64 f.f3]] w fun ee w' => ee = .returned (.tuple #[]) ∧ Bd w' b e g (sayF B f) ∧ w.grownBy w' (some b) := by
 obtain ⟨f0, f1, f2, f3⟩ := f
 obtain ⟨p0, p1⟩ := hf0
 obtain ⟨q0, q1⟩ := hf1
 simp only at p0 p1 q0 q1
 have hbk := blk_new w (.cells #[.int .i64 f0, .int .i64 f1, .int .i64 f2, .int .i64 f3] 153)
 have hx0 := cell_at hbk 0 (.int .i64 f0) rfl
 have hx1 := cell_at hbk 1 (.int .i64 f1) rfl
 have hx2 := cell_at hbk 2 (.int .i64 f2) rfl
 have hx3 := cell_at hbk 3 (.int .i64 f3) rfl
 have hB := h.alloc (.cells #[.int .i64 f0, .int .i64 f1, .int .i64 f2, .int .i64 f3] 153)
 have ha := hB.at' f0 f1 p0 p1 q0 q1
 have hz := hB.fz (2 + f0.toNat * 11 + f1.toNat)
 have HB := Aa hB
 have HA0 := Aa (World.grownBy_alloc w (.cells #[.int .i64 f0, .int .i64 f1, .int .i64 f2, .int .i64 f3] 153) (some b))
 have HL := Aa h.lt
 have HK := Aa hbk
 clear hB hbk
 go_enter Try.func120, Try.ntmps120
 go_wp2_with fail
 generalize w.alloc (.cells #[.int .i64 f0, .int .i64 f1, .int .i64 f2, .int .i64 f3] 153) = W1 at HB HA0 HK hx0 hx1 hx2 hx3 ha hz ⊢
 go_still_tail 20, (by kernel_rfl)
 (show wpList _ _ _ _ _ W1.drew)
 go_wp2_with fail
 have hB2 := (HB.out.put f0 f1 (mn (B f0 f1) f3) p0 p1 q0 q1).drew
 have hK2 := blk_far (g' := b) (j := 2 + f0.toNat * 11 + f1.toNat) HK.out (Nat.ne_of_gt HL.out) (.int .i64 (mn (B f0 f1) f3))
 have ha2 := hB2.at' f1 f0 q0 q1 p0 p1
 have hz2 := hB2.fz (2 + f1.toNat * 11 + f0.toNat)
 have hx0 := cell_drew (cell_at hK2 0 (.int .i64 f0) rfl)
 have hx1 := cell_drew (cell_at hK2 1 (.int .i64 f1) rfl)
 have hx2 := cell_drew (cell_at hK2 2 (.int .i64 f2) rfl)
 have hx3 := cell_drew (cell_at hK2 3 (.int .i64 f3) rfl)
 have HB2 := Aa hB2
 have HW2 := Aa (show w.grownBy (W1.setCell ⟨b, 2 + f0.toNat * 11 + f1.toNat, none⟩ (.int .i64 (mn (B f0 f1) f3))).drew (some b) from gb_drew (gb_put HA0.out _ _))
 clear hB2 hK2 HB HK ha hz
 generalize (W1.setCell ⟨b, 2 + f0.toNat * 11 + f1.toNat, none⟩ (.int .i64 (mn (B f0 f1) f3))).drew = W2 at HB2 HW2 hx0 hx1 hx2 hx3 ha2 hz2 ⊢
 obtain ⟨y, hy⟩ : ∃ y, set2 B f0 f1 (mn (B f0 f1) f3) f1 f0 = y := ⟨_, rfl⟩
 have HY := Aa hy
 rw [hy] at ha2
 clear hy
 go_wp2_with fail
 go_still_tail 21, (by kernel_rfl)
 (show wpList _ _ _ _ _ W2.drew)
 go_wp2
 refine ⟨rfl, .tuple #[], by first | rfl | kernel_rfl, rfl, ?_, ?_⟩
 ·have := (HB2.out.put f1 f0 (mn y (wrap64 (-f2))) q0 q1 p0 p1).drew
  have e1 : sayF B ⟨f0, f1, f2, f3⟩ = set2 (set2 B f0 f1 (mn (B f0 f1) f3)) f1 f0 (mn y (wrap64 (-f2))) := by rw [← HY.out]; rfl
  rw [e1]
  exact this
 ·exact gb_drew (gb_put HW2.out _ _)
theorem Bd.atN {W : World} {b : Nat} {e g : Value} {B : Int → Int → Int} (h : Bd W b e g B) (i j : Nat) (hi : (i : Int) < 11) (hj : (j : Int) < 11) : W.cell? ⟨b, 2 + i * 11 + j, none⟩ = some (.int .i64 (B i j)) := by
 have := h.at' i j (by omega) hi (by omega) hj
 rwa [Int.toNat_natCast, Int.toNat_natCast] at this
theorem Bd.putN {W : World} {b : Nat} {e g : Value} {B : Int → Int → Int} (h : Bd W b e g B) (i j : Nat) (x : Int) (hi : (i : Int) < 11) (hj : (j : Int) < 11) : Bd (W.setCell ⟨b, 2 + i * 11 + j, none⟩ (.int .i64 x)) b e g (set2 B i j x) := by
 have := h.put i j x (by omega) hi (by omega) hj
 rwa [Int.toNat_natCast, Int.toNat_natCast] at this
def FREE : Int := 1099511627776
def stepJ (k i j : Int) (B : Int → Int → Int) : Int → Int → Int := if B k j = FREE then B else set2 B i j (mn (B i j) (wrap64 (B i k + B k j)))
def jN (k i : Int) (B : Int → Int → Int) : Nat → Int → Int → Int
 | 0 => B
 | n + 1 => stepJ k i n (jN k i B n)
def stepI (k i : Int) (B : Int → Int → Int) : Option (Int → Int → Int) := if B i k = FREE then some B else if jN k i B 11 i i < 0 then none else some (jN k i B 11)
def iN (k : Int) (B : Int → Int → Int) : Nat → Option (Int → Int → Int)
 | 0 => some B
 | n + 1 => (iN k B n).bind (stepI k n)
def kN (B : Int → Int → Int) : Nat → Option (Int → Int → Int)
 | 0 => some B
 | n + 1 => (kN B n).bind fun B => iN n B 11
theorem iN_none {k : Int} {C : Int → Int → Int} {n : Nat} (h : iN k C n = none) : ∀ m, n ≤ m → iN k C m = none
 | m, hm => by
  induction m with
  | zero =>
   obtain rfl : n = 0 := by omega
   exact h
  | succ m ih =>
   by_cases hnm : n = m + 1
   ·subst hnm; exact h
   ·show (iN k C m).bind _ = none
    rw [ih (by omega)]; rfl
theorem kN_none {C : Int → Int → Int} {n : Nat} (h : kN C n = none) : ∀ m, n ≤ m → kN C m = none
 | m, hm => by
  induction m with
  | zero =>
   obtain rfl : n = 0 := by omega
   exact h
  | succ m ih =>
   by_cases hnm : n = m + 1
   ·subst hnm; exact h
   ·show (kN C m).bind _ = none
    rw [ih (by omega)]; rfl
def tightenF (B : Int → Int → Int) : Option (Int → Int → Int) := kN B 11
set_option maxHeartbeats 4000000 in
set_option maxRecDepth 100000 in
theorem tighten_calls (b base : Nat) (e g : Value) (B : Int → Int → Int) (w : World) (h : Bd w b e g B) (hb : base ≤ b) :
  Calls Try.prog 79 #[.pointer (some ⟨b, 2, none⟩)] w fun ee w' => ee = .returned (.bool (tightenF B).isSome) ∧ (∀ B', tightenF B = some B' → Bd w' b e g B') ∧ Below base w w' := by
 have HB0 := Aa h
 clear h
 go_enter Try.func79, Try.ntmps79
 go_wp2_with fail
 go_loopw [6, 3, 4, 5] (fun v6 _ _ _ W => ∃ (k : Nat) (C : Int → Int → Int), k ≤ 11 ∧ v6 = .int .i64 (k : Int) ∧ Aside0 (kN B k = some C) ∧ Aside0 (Bd W b e g C) ∧ Aside0 (Below base w W)) (fun v _ _ _ _ => 11 - (intOf v).toNat)
 case atStart => exact ⟨0, B, by omega, rfl, ⟨rfl⟩, HB0, ⟨Below.refl _ _⟩⟩
 case round =>
  clear HB0
  obtain ⟨k, C, hk, rfl, HK, HB, HW⟩ := hrel
  by_cases hk11 : (k : Int) < 11
  ·have HKn := Aa (show kN B (k + 1) = iN k C 11 by show (kN B k).bind _ = _; rw [HK.out]; rfl)
   go_wp2_with fail
   go_step3
   go_wp2_with fail
   go_step3
   go_wp2_with fail
   go_loopw [9, 4, 5] (fun v9 _ _ W => ∃ (i : Nat) (D : Int → Int → Int), i ≤ 11 ∧ v9 = .int .i64 (i : Int) ∧ Aside0 (iN k C i = some D) ∧ Aside0 (Bd W b e g D) ∧ Aside0 (Below base w W)) (fun v _ _ _ => 11 - (intOf v).toNat)
   case atStart => exact ⟨0, C, by omega, rfl, ⟨rfl⟩, HB, HW⟩
   case round =>
    clear HB HW
    obtain ⟨i, D, hi, rfl, HI, HB, HW⟩ := hrel
    by_cases hi11 : (i : Int) < 11
    ·have HIn := Aa (show iN k C (i + 1) = stepI k i D by show (iN k C i).bind _ = _; rw [HI.out]; rfl)
     have hBr : Bd wr b e g D := HB.out
     have c1 := hBr.atN i k hi11 hk11
     by_cases hfree : D i k = FREE
     ·have hfr : D i k = 1099511627776 := hfree
      rw [hfr] at c1
      have hst : stepI k i D = some D := by unfold stepI; rw [if_pos hfree]
      have HIs := Aa (HIn.out.trans hst)
      clear hst
      go_wp2
      go_roundw
      case rel => exact ⟨i + 1, D, by omega, by simp, HIs, HB, HW⟩
      case measure => simp [intOf]; omega
     ·have hfr : (D i k == 1099511627776) = false := by
       have : ¬ D i k = 1099511627776 := hfree
       simp [this]
      obtain ⟨x0, hx0⟩ : ∃ x0, D i k = x0 := ⟨_, rfl⟩
      rw [hx0] at c1 hfr
      have HIs := Aa (show iN k C (i + 1) = if jN k i D 11 i i < 0 then none else some (jN k i D 11) by rw [HIn.out]; unfold stepI; rw [if_neg hfree])
      clear hx0
      go_wp2_with fail
      clear c1 hBr HIn
      go_loopw [20, 5] (fun v20 _ W => ∃ (j : Nat) (E : Int → Int → Int), j ≤ 11 ∧ v20 = .int .i64 (j : Int) ∧ Aside0 (jN k i D j = E) ∧ Aside0 (Bd W b e g E) ∧ Aside0 (Below base w W)) (fun v _ _ => 11 - (intOf v).toNat)
      case atStart => exact ⟨0, D, by omega, rfl, ⟨rfl⟩, HB, HW⟩
      case round =>
       clear HB HW
       obtain ⟨j, E, hj, rfl, HJ, HB, HW⟩ := hrel
       by_cases hj11 : (j : Int) < 11
       ·have HJn := Aa (show jN k i D (j + 1) = stepJ k i j E by show stepJ k i j (jN k i D j) = _; rw [HJ.out])
        have hBr : Bd wr b e g E := HB.out
        have c1 := hBr.atN k j hk11 hj11
        by_cases hf2 : E k j = FREE
        ·have hfr2 : E k j = 1099511627776 := hf2
         rw [hfr2] at c1
         have HJs := Aa (HJn.out.trans (show stepJ k i j E = E by unfold stepJ; rw [if_pos hf2]))
         clear hBr
         go_wp2
         go_roundw
         case rel => exact ⟨j + 1, E, by omega, by simp, HJs, HB, HW⟩
         case measure => simp [intOf]; omega
        ·have hfr2 : ¬ E k j = 1099511627776 := hf2
         have HJs := Aa (HJn.out.trans (show stepJ k i j E = set2 E i j (mn (E i j) (wrap64 (E i k + E k j))) by unfold stepJ; rw [if_neg hf2]))
         have c2 := hBr.atN i j hi11 hj11
         have c3 := hBr.atN i k hi11 hk11
         have z := hBr.fz (2 + i * 11 + j)
         have HP := Aa (hBr.putN i j (mn (E i j) (wrap64 (E i k + E k j))) hi11 hj11)
         have HBw := Aa (show Below base w wr from HW.out)
         clear hBr HB HW
         obtain ⟨x1, h1⟩ : ∃ x, E i j = x := ⟨_, rfl⟩
         obtain ⟨x2, h2⟩ : ∃ x, E i k = x := ⟨_, rfl⟩
         obtain ⟨x3, h3⟩ : ∃ x, E k j = x := ⟨_, rfl⟩
         rw [h1, h2, h3] at HJs HP
         rw [h1] at c2
         rw [h2] at c3
         rw [h3] at c1 hfr2
         clear h1 h2 h3
         go_wp2_with fail
         go_still_tail 29, (by kernel_rfl)
         (show wpList _ _ _ _ _ wr.drew)
         go_wp2
         go_roundw
         case rel => exact ⟨j + 1, _, by omega, by simp, HJs, ⟨HP.out.drew⟩, ⟨below_drew1' (HBw.out.setCell hb _)⟩⟩
         case measure => simp [intOf]; omega
       ·obtain rfl : j = 11 := by omega
        have hBr : Bd wr b e g E := HB.out
        have c1 := hBr.atN i i hi11 hi11
        have hji := HJ.out
        subst hji
        by_cases hneg : jN k i D 11 i i < 0
        ·have HIt := HIs.out
         rw [if_pos hneg] at HIt
         have hT : tightenF B = none := kN_none (n := k + 1) (by rw [HKn.out]; exact iN_none HIt 11 (by omega)) 11 (by omega)
         have HT := Aa hT
         have HWr := Aa (show Below base w wr from HW.out)
         clear hT HIt
         obtain ⟨y, hy⟩ : ∃ y, jN k i D 11 i i = y := ⟨_, rfl⟩
         rw [hy] at c1 hneg
         clear hy
         go_wp2
         try rw [Exit.noGoto_ret]
         go_ret
         refine ⟨?_, ?_, HWr.out⟩
         ·rw [HT.out]; rfl
         ·intro B' h; rw [HT.out] at h; cases h
        ·have HIt := Aa (HIs.out.trans (if_neg hneg))
         go_wp2
         go_roundw
         case rel => exact ⟨i + 1, _, by omega, by simp, HIt, HB, HW⟩
         case measure => simp [intOf]; omega
    ·obtain rfl : i = 11 := by omega
     have HKs := Aa (HKn.out.trans HI.out)
     go_wp2
     go_roundw
     case rel => exact ⟨k + 1, D, by omega, by simp, HKs, HB, HW⟩
     case measure => simp [intOf]; omega
  ·obtain rfl : k = 11 := by omega
   have HT := Aa (show tightenF B = some C from HK.out)
   have HBr := Aa (show Bd wr b e g C from HB.out)
   have HWr := Aa (show Below base w wr from HW.out)
   go_wp2
   go_ret
   refine ⟨?_, ?_, HWr.out⟩
   ·rw [HT.out]; rfl
   ·intro B' h; rw [HT.out] at h; cases h; exact HBr.out
end Go.Proofs.Ytbffhblebigcfaa.Sk
