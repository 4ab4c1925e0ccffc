/- The walk of bind: a history with the bounds of what is not left out. -/
import Derived.Test.YtbffhblebigcfaaCPrGSaid
namespace Go.Proofs.Ytbffhblebigcfaa.Sk
open Go.RowKit Go.Shelf Go.Proofs.YtbffhblebigcfaaW.PrintWords Go.Proofs.YtbffhblebigcfaaW.PrintLast Go.Proofs.YtbffhblebigcfaaW.PrintMore
attribute [local go_sem] Oper.semAt_some
set_option linter.unusedVariables false
set_option linter.unusedSimpArgs false
def rowN (i : Int) (B : Int → Int → Int) : Nat → Int → Int → Int
 | 0 => B
 | n + 1 => if i = n then rowN i B n else set2 (rowN i B n) i n FREE
def fillN : Nat → Int → Int → Int
 | 0 => fun _ _ => 0
 | n + 1 => rowN n (fillN n) 11
def bindF (om : Int → Bool) (fs : List Fc) : Int → Int → Int := fs.foldl (fun B x => if om x.1.1 = true then B else sayF B x.1.2) (fillN 11)
theorem bindF_snoc (om : Int → Bool) (fs : List Fc) (x : Fc) : bindF om (fs ++ [x]) = if om x.1.1 = true then bindF om fs else sayF (bindF om fs) x.1.2 := by
 unfold bindF; rw [List.foldl_append]; rfl
set_option maxRecDepth 100000 in
theorem zero110 : Try.zeroCells110 = #[.slice none 0 0, .slice none 0 0] ++ Array.replicate 121 (.int .i64 0) := by kernel_rfl
noncomputable def bdZ (e g : Value) : Array Value := (Try.zeroCells110.setIfInBounds 0 e).setIfInBounds 1 g
theorem bdZ_at (e g : Value) (k : Nat) (h2 : 2 ≤ k) (hk : k < 123) : (bdZ e g)[k]? = some (.int .i64 0) := by
 unfold bdZ
 rw [Array.getElem?_setIfInBounds_ne (by omega), Array.getElem?_setIfInBounds_ne (by omega), zero110, Array.getElem?_append_right (by simp; omega)]
 rw [Array.getElem?_replicate, if_pos (by simp only [List.size_toArray, List.length_cons, List.length_nil]; omega)]
theorem bdZ_0 (e g : Value) : (bdZ e g)[0]? = some e := by
 unfold bdZ; rw [Array.getElem?_setIfInBounds_ne (by omega), Array.getElem?_setIfInBounds_self_of_lt (by rw [zero110]; simp)]
theorem bdZ_1 (e g : Value) : (bdZ e g)[1]? = some g := by
 unfold bdZ; rw [Array.getElem?_setIfInBounds_self_of_lt (by rw [Array.size_setIfInBounds, zero110]; simp)]
theorem Bd.start {W : World} {b : Nat} {e g : Value} (h : W.heap[b]? = some (.cells (bdZ e g) 110 (0, 0))) : Bd W b e g (fun _ _ => 0) :=
 ⟨⟨_, h⟩, cell_at h 0 _ (bdZ_0 e g), cell_at h 1 _ (bdZ_1 e g), fun i j h0 h1 h2 h3 => cell_at h _ _ (bdZ_at e g _ (by omega) (by omega))⟩
theorem Bd.grown {W W' : World} {b : Nat} {e g : Value} {B : Int → Int → Int} (h : Bd W b e g B) {row : Option Nat} (hg : W.grownBy W' row) (hne : some b ≠ row) : Bd W' b e g B := by
 obtain ⟨cs, hc⟩ := h.blk
 have hb := hg.block b (blk_lt hc) hne
 have hf : ∀ i, W'.cell? ⟨b, i, none⟩ = W.cell? ⟨b, i, none⟩ := fun i => World.cell?_of_block hb
 exact ⟨⟨cs, hb.trans hc⟩, (hf _).trans h.c0, (hf _).trans h.c1, fun i j h0 h1 h2 h3 => (hf _).trans (h.at' i j h0 h1 h2 h3)⟩
theorem blk_grown {W W' : World} {b : Nat} {o : Obj} (h : W.heap[b]? = some o) {row : Option Nat} (hg : W.grownBy W' row) (hne : some b ≠ row) : W'.heap[b]? = some o := (hg.block b (blk_lt h) hne).trans h
theorem below_grown {B : Nat} {w W W' : World} (h : Below B w W) {row : Option Nat} (hg : W.grownBy W' row) (hB : B ≤ W.heap.size) (hr : ∀ r, row = some r → B ≤ r) : Below B w W' :=
 h.trans ⟨hg.os, hg.tape, hg.output, hg.size, fun k hk => hg.block k (Nat.lt_of_lt_of_le hk hB) (fun e => by have := hr _ e.symm; omega)⟩
structure BindInv (w W : World) (e g : Value) (mb : Option Nat) (B : Int → Int → Int) : Prop where
 bd : Bd W (w.heap.size + 1 + 1) e g B
 bel : Below w.heap.size w W
 k1 : W.heap[w.heap.size + 1]? = some (.cells #[.map mb] 111 (0, 0))
 k3 : W.heap[w.heap.size + 1 + 1 + 1]? = some (.cells #[.pointer (some ⟨w.heap.size + 1 + 1, 0, none⟩)] 104 (0, 0))
theorem BindInv.grown {w W W' : World} {e g : Value} {mb : Option Nat} {B : Int → Int → Int} (h : BindInv w W e g mb B) {row : Option Nat} (hg : W.grownBy W' row) (hr : ∀ r, row = some r → w.heap.size + 4 ≤ r) : BindInv w W' e g mb B :=
 ⟨h.bd.grown hg (fun e => by have := hr _ e.symm; omega), below_grown h.bel hg h.bel.size (fun r e => by have := hr _ e; omega), blk_grown h.k1 hg (fun e => by have := hr _ e.symm; omega), blk_grown h.k3 hg (fun e => by have := hr _ e.symm; omega)⟩
set_option maxRecDepth 100000 in
set_option maxHeartbeats 4000000 in
theorem bind_calls (A0 A1 : Option Addr) (c0 c1 : Nat) (evs : List S27) (gaps : List S86) (fs : List Fc) (hfs : IsFacts evs gaps fs) (mb : Option Nat) (om : Int → Bool) (w : World) (hC0 : Kd.C k27 w A0 evs.length evs) (hC1 : Kd.C k86 w A1 gaps.length gaps)
  (hm0 : evs.length ≤ 10) (hm1 : gaps.length ≤ 20) (hL : ∀ W, Below w.heap.size w W → ∀ k, 0 ≤ k → k < 100 → (Instr.lookup 111 (.map mb) (.int .i64 k) false).run Try.prog W = .ok (.bool (om k)) W) :
  Calls Try.prog 78 #[.agg #[.slice A0 evs.length c0, .slice A1 gaps.length c1], .map mb] w fun e w' => e = .returned (.pointer (some ⟨w.heap.size + 2, 0, none⟩)) ∧ Bd w' (w.heap.size + 2) (.slice A0 evs.length c0) (.slice A1 gaps.length c1) (bindF om fs) ∧ Below w.heap.size w w' := by
 refine (callsIn_wide (n := 10)).1 ?_
 have HC0 := Aside0.mk hC0
 have HC1 := Aside0.mk hC1
 have HL := Aside0.mk hL
 have HFs := Aside0.mk hfs
 clear hC0 hC1 hL hfs
 refine callsIn_of_wp_marks Try.func78 rfl trivial ?_ rfl
 simp only [Try.ntmps78, List.size_toArray, List.length_cons, List.length_nil, Nat.reduceAdd, Nat.reduceSub, Array.replicate_succ, Array.replicate_zero, List.push_toArray, List.append_toArray, List.nil_append, List.cons_append]
 have hb0 := Below.refl w.heap.size w
 obtain ⟨e, he⟩ : ∃ e : Value, Value.slice A0 evs.length c0 = e := ⟨_, rfl⟩
 obtain ⟨g, hg⟩ : ∃ g : Value, Value.slice A1 gaps.length c1 = g := ⟨_, rfl⟩
 have k39 := blk_alloc (blk_alloc (blk_alloc (blk_new w (.cells #[.slice A0 evs.length c0, .slice A1 gaps.length c1] 39)) (.cells #[.map mb] 111)) (.cells (bdZ (.slice A0 evs.length c0) (.slice A1 gaps.length c1)) 110)) (.cells #[.pointer (some ⟨w.heap.size + 1 + 1, 0, none⟩)] 104)
 have k111 := blk_alloc (blk_alloc (blk_new (w.alloc (.cells #[.slice A0 evs.length c0, .slice A1 gaps.length c1] 39)) (.cells #[.map mb] 111)) (.cells (bdZ (.slice A0 evs.length c0) (.slice A1 gaps.length c1)) 110)) (.cells #[.pointer (some ⟨w.heap.size + 1 + 1, 0, none⟩)] 104)
 have k110 := blk_alloc (blk_new ((w.alloc (.cells #[.slice A0 evs.length c0, .slice A1 gaps.length c1] 39)).alloc (.cells #[.map mb] 111)) (.cells (bdZ (.slice A0 evs.length c0) (.slice A1 gaps.length c1)) 110)) (.cells #[.pointer (some ⟨w.heap.size + 1 + 1, 0, none⟩)] 104)
 have k104 := blk_new (((w.alloc (.cells #[.slice A0 evs.length c0, .slice A1 gaps.length c1] 39)).alloc (.cells #[.map mb] 111)).alloc (.cells (bdZ (.slice A0 evs.length c0) (.slice A1 gaps.length c1)) 110)) (.cells #[.pointer (some ⟨w.heap.size + 1 + 1, 0, none⟩)] 104)
 simp only [World.size_alloc] at k111 k110 k104
 have hsz : ((((w.alloc (.cells #[.slice A0 evs.length c0, .slice A1 gaps.length c1] 39)).alloc (.cells #[.map mb] 111)).alloc (.cells (bdZ (.slice A0 evs.length c0) (.slice A1 gaps.length c1)) 110)).alloc (.cells #[.pointer (some ⟨w.heap.size + 1 + 1, 0, none⟩)] 104)).heap.size = w.heap.size + 1 + 1 + 1 + 1 := by simp only [World.size_alloc]
 have hB0 := below_alloc (below_alloc (below_alloc (below_alloc (Below.refl w.heap.size w) (.cells #[.slice A0 evs.length c0, .slice A1 gaps.length c1] 39)) (.cells #[.map mb] 111)) (.cells (bdZ (.slice A0 evs.length c0) (.slice A1 gaps.length c1)) 110)) (.cells #[.pointer (some ⟨w.heap.size + 1 + 1, 0, none⟩)] 104)
 have K39 := Aside0.mk k39
 have K111 := Aside0.mk k111
 have K110 := Aside0.mk (Bd.start k110)
 have K104 := Aside0.mk k104
 have HSz := Aside0.mk hsz
 have HB0 := Aside0.mk hB0
 clear k39 k111 k110 k104 hsz hB0 hb0 he hg
 clear e g
 gi_wp2
 change Code.wpIn _ _ _ _ _ _ ((((w.alloc (.cells #[.slice A0 evs.length c0, .slice A1 gaps.length c1] 39)).alloc (.cells #[.map mb] 111)).alloc (.cells (bdZ (.slice A0 evs.length c0) (.slice A1 gaps.length c1)) 110)).alloc (.cells #[.pointer (some ⟨w.heap.size + 1 + 1, 0, none⟩)] 104))
 generalize ((((w.alloc (.cells #[.slice A0 evs.length c0, .slice A1 gaps.length c1] 39)).alloc (.cells #[.map mb] 111)).alloc (.cells (bdZ (.slice A0 evs.length c0) (.slice A1 gaps.length c1)) 110)).alloc (.cells #[.pointer (some ⟨w.heap.size + 1 + 1, 0, none⟩)] 104)) = W0 at K39 K111 K110 K104 HSz HB0 ⊢
 gi_loopw [13] (fun v13 W => ∃ i : Nat, i ≤ 11 ∧ v13 = .int .i64 (i : Int) ∧ Aside0 (Bd W (w.heap.size + 1 + 1) (.slice A0 evs.length c0) (.slice A1 gaps.length c1) (fillN i)) ∧ Aside0 (W0.grownBy W (some (w.heap.size + 1 + 1)))) (fun v _ => 11 - (intOf v).toNat)
 case atStart => exact ⟨0, by omega, rfl, K110, ⟨World.grownBy.refl _ _⟩⟩
 case round =>
  clear K110
  obtain ⟨i, hi, rfl, HBd, HG⟩ := hrel
  by_cases hi11 : (i : Int) < 11
  ·gi_wp2
   gi_loopw [16] (fun v16 W => ∃ k : Nat, k ≤ 11 ∧ v16 = .int .i64 (k : Int) ∧ Aside0 (Bd W (w.heap.size + 1 + 1) (.slice A0 evs.length c0) (.slice A1 gaps.length c1) (rowN i (fillN i) k)) ∧ Aside0 (W0.grownBy W (some (w.heap.size + 1 + 1)))) (fun v _ => 11 - (intOf v).toNat)
   case atStart => exact ⟨0, by omega, rfl, HBd, HG⟩
   case round =>
    clear HBd HG
    obtain ⟨k, hk, rfl, HBd, HG⟩ := hrel
    by_cases hk11 : (k : Int) < 11
    ·have hBr : Bd wr (w.heap.size + 1 + 1) (.slice A0 evs.length c0) (.slice A1 gaps.length c1) (rowN i (fillN i) k) := HBd.out
     have hGr : W0.grownBy wr (some (w.heap.size + 1 + 1)) := HG.out
     have k104 := (hGr.block (w.heap.size + 1 + 1 + 1) (by rw [HSz.out]; omega) (fun e => by injection e with e; omega)).trans K104.out
     have x104 := cell_at k104 0 (.pointer (some ⟨w.heap.size + 1 + 1, 0, none⟩)) rfl
     have z := hBr.fz (2 + i * 11 + k)
     have c1 := hBr.atN i k hi11 hk11
     by_cases hik : (i : Int) = k
     ·have e1 : rowN i (fillN i) (k + 1) = rowN i (fillN i) k := by show (if (i : Int) = k then _ else _) = _; rw [if_pos hik]
      have E1 := Aside0.mk e1
      have HBr := Aside0.mk hBr
      have HGr := Aside0.mk hGr
      clear e1 hBr hGr HBd HG z c1 k104
      gi_wp2
      go_roundw
      case rel => exact ⟨k + 1, by omega, by simp, ⟨by rw [E1.out]; exact HBr.out⟩, HGr⟩
      case measure => simp [intOf]; omega
     ·have e1 : rowN i (fillN i) (k + 1) = set2 (rowN i (fillN i) k) i k FREE := by show (if (i : Int) = k then _ else _) = _; rw [if_neg hik]
      have E1 := Aside0.mk e1
      have HP := Aside0.mk (hBr.putN i k FREE hi11 hk11)
      have HGp := Aside0.mk (gb_put hGr (2 + i * 11 + k) (.int .i64 FREE))
      clear e1 hBr hGr HBd HG k104
      gi_wp2
      go_roundw
      case rel => exact ⟨k + 1, by omega, by simp, ⟨by rw [E1.out]; exact HP.out⟩, HGp⟩
      case measure => simp [intOf]; omega
    ·obtain rfl : k = 11 := by omega
     have HBr := Aside0.mk (show Bd wr (w.heap.size + 1 + 1) (.slice A0 evs.length c0) (.slice A1 gaps.length c1) (fillN (i + 1)) from HBd.out)
     have HGr := Aside0.mk (show W0.grownBy wr (some (w.heap.size + 1 + 1)) from HG.out)
     clear HBd HG
     gi_wp2
     go_roundw
     case rel => exact ⟨i + 1, by omega, by simp, HBr, HGr⟩
     case measure => simp [intOf]; omega
  ·obtain rfl : i = 11 := by omega
   have HBr := Aside0.mk (show Bd wr (w.heap.size + 1 + 1) (.slice A0 evs.length c0) (.slice A1 gaps.length c1) (fillN 11) from HBd.out)
   have hGr : W0.grownBy wr (some (w.heap.size + 1 + 1)) := HG.out
   have HGr := Aside0.mk hGr
   have k39 := (hGr.block w.heap.size (by rw [HSz.out]; omega) (fun e => by injection e with e; omega)).trans K39.out
   have x39 := cell_at k39 0 (.slice A0 evs.length c0) rfl
   have y39 := cell_at k39 1 (.slice A1 gaps.length c1) rfl
   have hsz : w.heap.size + 1 + 1 + 1 + 1 ≤ wr.heap.size := by have := hGr.size; rw [HSz.out] at this; exact this
   have HZ := Aside0.mk hsz
   clear HBd HG hGr k39 hsz
   gi_wp2_with (refine ⟨trivial, ?_⟩; gi_at_call 80; refine (said_calls A0 A1 evs.length gaps.length c0 c1 Fence.wide _ trivial rfl _).mono ?_; rintro e w' ⟨rfl, rfl⟩)
   have kbox := blk_new wr (.cells #[.slice A0 evs.length c0, .slice A1 gaps.length c1] 39)
   have hBw : Below w.heap.size w wr := HB0.out.trans (gb_below HGr.out (by omega) HB0.out.size)
   have hInv : BindInv w wr (.slice A0 evs.length c0) (.slice A1 gaps.length c1) mb (fillN 11) := ⟨HBr.out, hBw, blk_grown K111.out HGr.out (fun e => by injection e with e; omega), blk_grown K104.out HGr.out (fun e => by injection e with e; omega)⟩
   have hInv1 : BindInv w (wr.alloc (.cells #[.slice A0 evs.length c0, .slice A1 gaps.length c1] 39)) (.slice A0 evs.length c0) (.slice A1 gaps.length c1) mb (bindF om []) := hInv.grown (World.grownBy_alloc wr _ none) (fun r e => by cases e)
   have hzz := HZ.out
   have hs1 : (wr.alloc (.cells #[.slice A0 evs.length c0, .slice A1 gaps.length c1] 39)).heap.size = wr.heap.size + 1 := World.size_alloc _ _
   have hBw1 : Below w.heap.size w (wr.alloc (.cells #[.slice A0 evs.length c0, .slice A1 gaps.length c1] 39)) := hInv1.bel
   have hstops := said1_stops A0 A1 c0 c1 evs gaps fs HFs.out Fence.wide 9 trivial rfl (by omega) wr.heap.size (wr.heap.size + 1) (fun k => k = w.heap.size + 1 + 1) (wr.alloc (.cells #[.slice A0 evs.length c0, .slice A1 gaps.length c1] 39)) w (by omega) (by omega) kbox hBw1 (by omega) (fun k hk => by omega) (by omega) HC0.out HC1.out hm0 hm1
   refine wpIn_rangeFunc_ownH rfl (by omega) (gf := 121) (lb := #[.pointer (some ⟨wr.heap.size, 0, none⟩)]) rfl trivial (enters_of Try.func121 (by kernel_rfl) rfl) hstops (fun h k => KB.trans h k)
    (fun W l o o' hl ho _ _ => by have hgp := grownBy_putObj' W l o'; exact ⟨hgp.os, hgp.tape, hgp.output, hgp.size, fun k hk _ => hgp.block k (by have := blk_lt ho; omega) (fun e => by injection e with e; omega)⟩) (Below.refl _ _) (fun _ => rfl)
    (fun pre W => BindInv w W (.slice A0 evs.length c0) (.slice A1 gaps.length c1) mb (bindF om pre) ∧ wr.heap.size + 1 ≤ W.heap.size) (fun _ _ _ => False)
    (fun pre X Y row hs hg hr => ⟨hs.1.grown hg (fun r e => by have := (hr r e).1; omega), Nat.le_trans hs.2 hg.size⟩) (fun _ _ _ _ _ hs _ _ => hs) ⟨hInv1, by omega⟩
    (fun x a' W => ∃ Bx, W.heap[Bx]? = some (.cells #[.int .i64 x.1.2.f0, .int .i64 x.1.2.f1, .int .i64 x.1.2.f2, .int .i64 x.1.2.f3] 153 (0, 0)) ∧ a' = { tmps := #[.agg #[.slice A0 evs.length c0, .slice A1 gaps.length c1], .map mb, .pointer (some ⟨w.heap.size, 0, none⟩), .pointer (some ⟨w.heap.size + 1, 0, none⟩), .pointer none, .pointer (some ⟨w.heap.size + 1 + 1 + 1, 0, none⟩), u6, u7, .int .i64 x.1.1, .pointer (some ⟨Bx, 0, none⟩), .agg #[.slice A0 evs.length c0, .slice A1 gaps.length c1], .agg ((Try.zeroCells110.setIfInBounds 0 (.slice A0 evs.length c0)).setIfInBounds 1 (.slice A1 gaps.length c1)), .pointer (some ⟨w.heap.size + 1 + 1, 0, none⟩), .int .i64 11, .bool false, u15, u16, u17, u18, u19, u20, u21, u22, u23, u24, u25, u26, u27, u28, u29, u30, .agg #[.slice A0 evs.length c0, .slice A1 gaps.length c1], .func (.func 121) #[] #[.pointer (some ⟨wr.heap.size, 0, none⟩)], .int .i64 x.1.1, .agg #[.int .i64 x.1.2.f0, .int .i64 x.1.2.f1, .int .i64 x.1.2.f2, .int .i64 x.1.2.f3], undef, undef, undef, undef, undef, undef, undef, undef, undef, undef], defers := [] })
    (fun x a' _ X Y row hs hg hr => by obtain ⟨Bx, h2, h3⟩ := hs; exact ⟨Bx, blk_grown h2 hg (fun e => by obtain ⟨_, o, ho, hc⟩ := hr _ e.symm; rw [h2] at ho; cases ho; cases hc), h3⟩) ?assign ?body ?done ?stop
   case assign =>
    rintro l pre x W K ⟨hi, hsz⟩ hK
    dsimp only [Fc.enc]
    gi_wp2
    exact hK _ _ ((KeepsOthers.alloc _ _).from _) ((KB.refl _ _ W).alloc hsz _) ⟨hi.grown (World.grownBy_alloc W _ none) (fun r e => by cases e), by rw [World.size_alloc]; omega⟩ ⟨W.heap.size, blk_new W _, rfl⟩
   case body =>
    rintro l pre x a' W hl hr ⟨hi, hsz⟩ ⟨Bx, hBx, rfl⟩ hlt
    have x1 := cell_at hi.k1 0 (.map mb) rfl
    have x3 := cell_at hi.k3 0 (.pointer (some ⟨w.heap.size + 1 + 1, 0, none⟩)) rfl
    have z0 := cell_at hBx 0 (.int .i64 x.1.2.f0) rfl
    have z1 := cell_at hBx 1 (.int .i64 x.1.2.f1) rfl
    have z2 := cell_at hBx 2 (.int .i64 x.1.2.f2) rfl
    have z3 := cell_at hBx 3 (.int .i64 x.1.2.f3) rfl
    have hlook := HL.out W hi.bel x.1.1 x.2.1.1 x.2.1.2
    have HI := Aside0.mk hi
    cases hom : om x.1.1 with
    | true =>
     rw [hom] at hlook
     have E1 := Aside0.mk (show bindF om (pre ++ [x]) = bindF om pre by rw [bindF_snoc, if_pos hom])
     clear hi
     gi_wp2
     exact ⟨KeepsFrom.refl _ _, KB.refl _ _ _, by rw [E1.out]; exact HI.out, hsz⟩
    | false =>
     rw [hom] at hlook
     have E1 := Aside0.mk (show bindF om (pre ++ [x]) = sayF (bindF om pre) x.1.2 by rw [bindF_snoc, if_neg (by rw [hom]; simp)])
     clear hi
     have hmix : Try.prog.follows .mixedOrders = true := by kernel_rfl
     have HSay := Aside0.mk (fun (V : World) (hV : Bd V (w.heap.size + 1 + 1) (.slice A0 evs.length c0) (.slice A1 gaps.length c1) (bindF om pre)) => say_calls (w.heap.size + 1 + 1) _ _ _ x.1.2 V hV x.2.2.1 x.2.2.2)
     gi_wp2_with fail
     gi_region_with_o (refine ⟨trivial, ?_⟩; gi_at_call 120; refine (CallsIn.inRound l (callsIn_wide.2 (HSay.out _ HI.out.bd.drew))).mono ?_; rintro e w' ⟨rfl, hbd, hgr⟩)
     all_goals gi_wp2
     all_goals
      have hg2 : W.grownBy w' (some (w.heap.size + 1 + 1)) := ⟨hgr.os, hgr.tape, hgr.output, hgr.size, hgr.block⟩
      exact ⟨KeepsFrom.of_grownBy hg2 (fun j e => by injection e with e; omega), KB.of hg2 (fun r e => .inl (by injection e with e; exact e.symm)) hsz, ⟨by rw [E1.out]; exact hbd, below_grown HI.out.bel hg2 HI.out.bel.size (fun r e => by injection e with e; omega), blk_grown HI.out.k1 hg2 (fun e => by injection e with e; omega), blk_grown HI.out.k3 hg2 (fun e => by injection e with e; omega)⟩, Nat.le_trans hsz hg2.size⟩
   case done =>
    rintro D xs W hD rfl ⟨hi, hsz⟩ hK
    have x3 := cell_at hi.k3 0 (.pointer (some ⟨w.heap.size + 1 + 1, 0, none⟩)) rfl
    have HI := Aside0.mk hi
    clear hi
    gi_wp2
    refine ⟨by simp, .inl ⟨_, _, rfl, run_takeDeferred hK, ?_⟩⟩
    have hF := HI.out.grown (grownBy_putObj' W D (.deferred none)) (fun r e => by injection e with e; omega)
    exact ⟨_, results_tmp rfl _ _ _, rfl, hF.bd, hF.bel⟩
   case stop =>
    rintro D c pre W hD _ hf hK
    exact hf.elim
end Go.Proofs.Ytbffhblebigcfaa.Sk
