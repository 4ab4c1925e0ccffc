/- The walk of skew.Wait: the reading until which a clock waits. -/
import Derived.Outline
import Derived.Test.YtbffhblebigcfaaCPrGBase
import Derived.Test.YtbffhblebigcfaaCPrS1
import Derived.Test.YtbffhblebigcfaaCPrS0
namespace Go.Proofs.Ytbffhblebigcfaa.Sk
open Go.RowKit Go.Proofs.YtbffhblebigcfaaW.PrintWords Go.Proofs.YtbffhblebigcfaaW.PrintLast Go.Proofs.YtbffhblebigcfaaW.PrintMore
set_option linter.unusedVariables false
set_option linter.unusedSimpArgs false
def lowOf (a0 a1 a2 c : Int) : Int := if a2 > 0 then c - (a1 + (c - a0 + a2 - 1) / a2) else c - a1
def highOf (a0 a1 a2 c : Int) : Int := if a2 > 0 then c + (a1 + (c - a0 + a2 - 1) / a2) else c + a1
theorem of_low (a0 a1 a2 c : Int) (h0 : 0 ≤ a0) (h1 : 0 ≤ a1) (h2 : 0 ≤ a2) (g1 : a1 ≤ 1000) (g2 : a2 ≤ 100000) (hc : a0 ≤ c) (gc : c ≤ 100000) :
  skew_of.f a0 a1 a2 c = some (lowOf a0 a1 a2 c, highOf a0 a1 a2 c) := by
 unfold skew_of.f lowOf highOf
 by_cases h : a2 > 0
 ·rw [if_pos h, if_neg (by omega), if_pos h, if_pos h]
  have e1 : wrap64 (c - a0) = c - a0 := by unfold wrap64; omega
  have e2 : wrap64 (c - a0 + a2) = c - a0 + a2 := by unfold wrap64; omega
  have e3 : wrap64 (c - a0 + a2 - 1) = c - a0 + a2 - 1 := by unfold wrap64; omega
  rw [e1, e2, e3, Int.tdiv_eq_ediv_of_nonneg (by omega)]
  have b1 : 0 ≤ (c - a0 + a2 - 1) / a2 := Int.ediv_nonneg (by omega) (by omega)
  have b2 : (c - a0 + a2 - 1) / a2 ≤ c - a0 + a2 - 1 := Int.ediv_le_self _ (by omega)
  generalize (c - a0 + a2 - 1) / a2 = q at b1 b2 ⊢
  have e4 : wrap64 q = q := by unfold wrap64; omega
  have e5 : wrap64 (a1 + q) = a1 + q := by unfold wrap64; omega
  rw [e4, e5]
  have e6 : wrap64 (c - (a1 + q)) = c - (a1 + q) := by unfold wrap64; omega
  have e7 : wrap64 (c + (a1 + q)) = c + (a1 + q) := by unfold wrap64; omega
  rw [e6, e7]
 ·rw [if_neg h, if_neg h, if_neg h]
  have e6 : wrap64 (c - a1) = c - a1 := by unfold wrap64; omega
  have e7 : wrap64 (c + a1) = c + a1 := by unfold wrap64; omega
  rw [e6, e7]
set_option maxHeartbeats 1000000 in
set_option maxRecDepth 100000 in
theorem wait1_calls (a0 a1 a2 rd0 un i lo hi : Int) (b1 b2 b3 : Nat) (w : World) (h1 : w.heap[b1]? = some (.cells #[.int .i64 a0, .int .i64 a1, .int .i64 a2] 23 (0, 0)))
  (h2 : w.heap[b2]? = some (.cells #[.int .i64 rd0] 3 (0, 0))) (h3 : w.heap[b3]? = some (.cells #[.int .i64 un] 3 (0, 0)))
  (hr0 : 0 ≤ rd0) (hi0 : 0 ≤ i) (hri : rd0 + i ≤ 100000) (ho : skew_of.f a0 a1 a2 (rd0 + i) = some (lo, hi)) :
  Calls Try.prog 74 #[.int .i64 i, .pointer (some ⟨b1, 0, none⟩), .pointer (some ⟨b2, 0, none⟩), .pointer (some ⟨b3, 0, none⟩)] w fun e w' => e = .returned (.bool (decide (un < lo))) ∧ Below w.heap.size w w' := by
 have hu23 := Try.underlying23
 have hfd : ∀ (x0 x1 : Int) (W : World), (Instr.field 27 (.agg #[.int .i64 x0, .int .i64 x1]) 0).run Try.prog W = .ok (.int .i64 x0) W := fun _ _ _ => by kernel_rfl
 have c0 := cell_at h1 0 (.int .i64 a0) rfl
 have c1 := cell_at h1 1 (.int .i64 a1) rfl
 have c2 := cell_at h1 2 (.int .i64 a2) rfl
 have d0 := cell_at h2 0 (.int .i64 rd0) rfl
 have e0 := cell_at h3 0 (.int .i64 un) rfl
 have HO := Aa ho
 have HW := Aa (Below.refl w.heap.size w)
 clear ho
 have es : IntKind.i64.wrap (rd0 + i) = rd0 + i := IntWalk.i64_in _ (by omega)
 go_enter Try.func74, Try.ntmps74
 go_wp2_with fail
 go_region_held3 (fun W => Below w.heap.size w W ∧ W.cell? ⟨b1, 0, none⟩ = some (.int .i64 a0) ∧ W.cell? ⟨b1, 1, none⟩ = some (.int .i64 a1) ∧ W.cell? ⟨b1, 2, none⟩ = some (.int .i64 a2) ∧ W.cell? ⟨b2, 0, none⟩ = some (.int .i64 rd0) ∧ W.cell? ⟨b3, 0, none⟩ = some (.int .i64 un))
  (first | (with_reducible (refine ⟨Dn HW.out, ?_, ?_, ?_, ?_, ?_⟩)) <;> (apply cell_drew; with_reducible assumption) | (go_split_ands; (with_reducible refine ⟨below_step (by assumption) hb, ?_, ?_, ?_, ?_, ?_⟩) <;> (apply pw_cell_below hb; with_reducible assumption)))
  (first | (go_at_call 71; ((with_reducible refine (skew_of.calls a0 a1 a2 (rd0 + i) lo hi _ HO.out).mono ?_)); rintro e w' ⟨rfl, hb⟩))
 go_wp2
 go_ret
 rename_i hS
 exact ⟨rfl, hS.1⟩
def bsr (p : Int → Bool) : Nat → Int → Int → Int
 | 0, i, _ => i
 | k + 1, i, j => if i < j then (if p ((i + j) / 2) then bsr p k i ((i + j) / 2) else bsr p k ((i + j) / 2 + 1) j) else i
set_option maxHeartbeats 1000000 in
set_option maxRecDepth 100000 in
theorem search_calls (n : Int) (w : World) (cap : Array Value) (p : Int → Bool) (hn0 : 0 ≤ n) (hn : n ≤ 1000000) (Inv : World → Prop) (hI : Inv w)
  (hp : ∀ (i : Int) (W : World), Inv W → 0 ≤ i → i < n → Calls Try.prog 74 (#[.int .i64 i] ++ cap) W fun e w' => e = .returned (.bool (p i)) ∧ Inv w') :
  Calls Try.prog 73 #[.int .i64 n, .func (.func 74) #[] cap] w fun e w' => e = .returned (.int .i64 (bsr p n.toNat 0 n)) ∧ Inv w' := by
 have HP := Aa hp
 have HI := Aa hI
 clear hp hI
 go_enter Try.func73, Try.ntmps73
 go_wp2
 go_loopw [5, 6, 7] (fun a b _ W => ∃ (i j : Int) (k : Nat), 0 ≤ i ∧ i ≤ j ∧ j ≤ n ∧ a = .int .i64 i ∧ b = .int .i64 j ∧ Aside0 ((j - i).toNat ≤ k) ∧ Aside0 (bsr p k i j = bsr p n.toNat 0 n) ∧ Aside0 (Inv W)) (fun a b _ _ => (intOf b - intOf a).toNat)
 case atStart => exact ⟨0, n, n.toNat, by omega, by omega, by omega, rfl, rfl, ⟨by omega⟩, ⟨rfl⟩, HI⟩
 case round =>
  obtain ⟨i, j, k, h0, h1, h2, rfl, rfl, HK, HR, HI⟩ := hrel
  by_cases hlt : i < j
  ·obtain ⟨b, hb⟩ : ∃ b, p ((i + j) / 2) = b := ⟨_, rfl⟩
   have hc := fun W hW => HP.out ((i + j) / 2) W hW (by omega) (by omega)
   rw [hb] at hc
   have HC := Aa hc
   have HG := Aa hb
   clear hc hb
   obtain ⟨k, rfl⟩ : ∃ m, k = m + 1 := ⟨k - 1, by have := HK.out; omega⟩
   have hR := HR.out
   simp only [bsr, if_pos hlt] at hR
   clear HR
   cases b
   ·rw [if_neg (by rw [HG.out]; simp)] at hR
    have HR := Aa hR
    clear hR
    go_wp2_with (go_at_call 74; refine (HC.out _ HI.out).mono ?_; rintro e w' ⟨rfl, hb⟩)
    go_roundw
    case rel => exact ⟨(i + j) / 2 + 1, j, k, by omega, by omega, by omega, rfl, rfl, ⟨by have := HK.out; omega⟩, HR, ⟨hb⟩⟩
    case measure => simp [intOf]; omega
   ·rw [if_pos HG.out] at hR
    have HR := Aa hR
    clear hR
    go_wp2_with (go_at_call 74; refine (HC.out _ HI.out).mono ?_; rintro e w' ⟨rfl, hb⟩)
    go_roundw
    case rel => exact ⟨i, (i + j) / 2, k, by omega, by omega, by omega, rfl, rfl, ⟨by have := HK.out; omega⟩, HR, ⟨hb⟩⟩
    case measure => simp [intOf]; omega
  ·have hR : i = bsr p n.toNat 0 n := by
    rw [← HR.out]; cases k with
    | zero => rfl
    | succ k => simp only [bsr]; rw [if_neg hlt]
   have HR := Aa hR
   clear hR
   go_wp2
   go_ret
   exact ⟨by rw [← HR.out]; rfl, HI.out⟩
def readsB (a0 a1 a2 c : Int) : Bool := (decide (0 ≤ a0) && decide (a0 ≤ 100000)) && ((decide (0 ≤ a1) && decide (a1 ≤ 1000)) && ((decide (0 ≤ a2) && decide (a2 ≤ 100000)) && (decide (a0 ≤ c) && decide (c ≤ 100000))))
theorem within_b (n l h : Int) : skew_within.f n l h = some (decide (l ≤ n) && decide (n ≤ h)) := by
 unfold skew_within.f; by_cases c : n ≥ l <;> simp [c] <;> omega
theorem reads_b (a0 a1 a2 c : Int) : skew_reads.f a0 a1 a2 c = some (readsB a0 a1 a2 c) := by
 unfold skew_reads.f readsB
 simp only [within_b, Option.bind_some]
 cases (decide (0 ≤ a0) && decide (a0 ≤ 100000)) <;> cases (decide (0 ≤ a1) && decide (a1 ≤ 1000)) <;> cases (decide (0 ≤ a2) && decide (a2 ≤ 100000)) <;> simp
def skew_Wait.f (a0_0 a0_1 a0_2 a1 a2 : Int) : Option (Int × Int) :=
 if readsB a0_0 a0_1 a0_2 a1 = true then
  if (decide (-1000000 ≤ a2) && decide (a2 ≤ 1000000)) = true then
   if a1 + bsr (fun i => decide (a2 < lowOf a0_0 a0_1 a0_2 (a1 + i))) (100001 - a1).toNat 0 (100001 - a1) > 100000 then some (0, 5)
   else some (a1 + bsr (fun i => decide (a2 < lowOf a0_0 a0_1 a0_2 (a1 + i))) (100001 - a1).toNat 0 (100001 - a1), 0)
  else some (0, 2)
 else some (0, 2)
theorem bsr_range (p : Int → Bool) : ∀ (k : Nat) (i j : Int), i ≤ j → i ≤ bsr p k i j ∧ bsr p k i j ≤ j
 | 0, i, j, h => ⟨Int.le_refl _, h⟩
 | k + 1, i, j, h => by
  simp only [bsr]
  split
  ·split
   ·have := bsr_range p k i ((i + j) / 2) (by omega); omega
   ·have := bsr_range p k ((i + j) / 2 + 1) j (by omega); omega
  ·omega
structure WaitInv (a0 a1 a2 rd0 un : Int) (b1 b2 b3 : Nat) (w W : World) : Prop where
 h1 : W.heap[b1]? = some (.cells #[.int .i64 a0, .int .i64 a1, .int .i64 a2] 23 (0, 0))
 h2 : W.heap[b2]? = some (.cells #[.int .i64 rd0] 3 (0, 0))
 h3 : W.heap[b3]? = some (.cells #[.int .i64 un] 3 (0, 0))
 hb : Below w.heap.size w W
theorem WaitInv.start (a0 a1 a2 rd0 un : Int) (w : World) : WaitInv a0 a1 a2 rd0 un w.heap.size (w.heap.size + 1) (w.heap.size + 1 + 1) w
  (((w.alloc (.cells #[.int .i64 a0, .int .i64 a1, .int .i64 a2] 23)).alloc (.cells #[.int .i64 rd0] 3)).alloc (.cells #[.int .i64 un] 3)) :=
 ⟨blk_alloc (blk_alloc (blk_new _ _) _) _, blk_alloc (by have := blk_new (w.alloc (.cells #[.int .i64 a0, .int .i64 a1, .int .i64 a2] 23)) (.cells #[.int .i64 rd0] 3); rwa [World.size_alloc] at this) _,
  by have := blk_new ((w.alloc (.cells #[.int .i64 a0, .int .i64 a1, .int .i64 a2] 23)).alloc (.cells #[.int .i64 rd0] 3)) (.cells #[.int .i64 un] 3); rwa [World.size_alloc, World.size_alloc] at this,
  below_alloc (below_alloc (below_alloc (Below.refl _ _) _) _) _⟩
theorem WaitInv.step {a0 a1 a2 rd0 un : Int} {b1 b2 b3 : Nat} {w W W' : World} (h : WaitInv a0 a1 a2 rd0 un b1 b2 b3 w W) (hb : Below W.heap.size W W') : WaitInv a0 a1 a2 rd0 un b1 b2 b3 w W' :=
 ⟨blk_below h.h1 hb, blk_below h.h2 hb, blk_below h.h3 hb, below_step h.hb hb⟩
theorem WaitInv.drew {a0 a1 a2 rd0 un : Int} {b1 b2 b3 : Nat} {w W : World} (h : WaitInv a0 a1 a2 rd0 un b1 b2 b3 w W) : WaitInv a0 a1 a2 rd0 un b1 b2 b3 w W.drew := ⟨h.h1, h.h2, h.h3, Dn h.hb⟩
theorem WaitInv.drewN {a0 a1 a2 rd0 un : Int} {b1 b2 b3 : Nat} {w W : World} (h : WaitInv a0 a1 a2 rd0 un b1 b2 b3 w W) (n : Nat) : WaitInv a0 a1 a2 rd0 un b1 b2 b3 w (W.drewN n) := ⟨h.h1, h.h2, h.h3, Pn h.hb n⟩
theorem wait_search (a0 a1 a2 rd0 un R : Int) (b1 b2 b3 : Nat) (w W : World) (g1 : 0 ≤ a0) (g2 : a0 ≤ 100000) (g3 : 0 ≤ a1) (g4 : a1 ≤ 1000) (g5 : 0 ≤ a2) (g6 : a2 ≤ 100000) (g7 : a0 ≤ rd0) (g8 : rd0 ≤ 100000)
  (hR : bsr (fun i => decide (un < lowOf a0 a1 a2 (rd0 + i))) (100001 - rd0).toNat 0 (100001 - rd0) = R) (hI : WaitInv a0 a1 a2 rd0 un b1 b2 b3 w W) :
  Calls Try.prog 73 #[.int .i64 (100001 - rd0), .func (.func 74) #[] #[.pointer (some ⟨b1, 0, none⟩), .pointer (some ⟨b2, 0, none⟩), .pointer (some ⟨b3, 0, none⟩)]] W fun e W' => e = .returned (.int .i64 R) ∧ WaitInv a0 a1 a2 rd0 un b1 b2 b3 w W' := by
 refine (search_calls (100001 - rd0) W _ (fun i => decide (un < lowOf a0 a1 a2 (rd0 + i))) (by omega) (by omega) (WaitInv a0 a1 a2 rd0 un b1 b2 b3 w) hI ?_).mono ?_
 ·intro i W hW h0 h1
  refine (wait1_calls a0 a1 a2 rd0 un i _ _ b1 b2 b3 W hW.h1 hW.h2 hW.h3 (by omega) h0 (by omega) (of_low a0 a1 a2 (rd0 + i) g1 g3 g5 g4 g6 (by omega) (by omega))).mono ?_
  rintro e w' ⟨rfl, hb⟩
  exact ⟨rfl, hW.step hb⟩
 ·rintro e w' ⟨rfl, hb⟩
  exact ⟨by rw [hR], hb⟩
set_option maxHeartbeats 2000000 in
set_option maxRecDepth 100000 in
theorem skew_Wait.calls (a0_0 a0_1 a0_2 a1 a2 r1 r2 : Int) (w : World) (h : skew_Wait.f a0_0 a0_1 a0_2 a1 a2 = some (r1, r2)) :
  Calls Try.prog 17 #[.agg #[.int .i64 a0_0, .int .i64 a0_1, .int .i64 a0_2], .int .i64 a1, .int .i64 a2] w fun e w' => e = .returned (.tuple #[.int .i64 r1, .int .i64 r2]) ∧ Below w.heap.size w w' := by
 have hu23 := Try.underlying23
 unfold skew_Wait.f at h
 have hrd := reads_b a0_0 a0_1 a0_2 a1
 obtain ⟨b, hb⟩ : ∃ b, readsB a0_0 a0_1 a0_2 a1 = b := ⟨_, rfl⟩
 rw [hb] at h hrd
 have HR := Aa hrd
 have HS := Aa (WaitInv.start a0_0 a0_1 a0_2 a1 a2 w)
 clear hrd
 cases b
 ·rw [if_neg (by simp)] at h
  simp only [Option.some.injEq, Prod.mk.injEq] at h
  obtain ⟨rfl, rfl⟩ := h
  clear hb
  go_enter Try.func17, Try.ntmps17
  go_wp2_with (go_at_call 70; refine (skew_reads.calls _ _ _ _ _ _ HR.out).mono ?_; rintro e w' ⟨rfl, hb⟩)
  go_ret2
  exact ⟨rfl, (HS.out.step hb).hb⟩
 ·rw [if_pos rfl] at h
  have hwi := within_b a2 (-1000000) 1000000
  obtain ⟨c, hc⟩ : ∃ c, (decide (-1000000 ≤ a2) && decide (a2 ≤ 1000000)) = c := ⟨_, rfl⟩
  rw [hc] at h hwi
  have HW := Aa hwi
  clear hwi
  cases c
  ·rw [if_neg (by simp)] at h
   simp only [Option.some.injEq, Prod.mk.injEq] at h
   obtain ⟨rfl, rfl⟩ := h
   clear hb hc
   go_enter Try.func17, Try.ntmps17
   go_wp2_with fail
   refine (skew_reads.calls _ _ _ _ _ _ HR.out).mono ?_
   rintro e w1 ⟨rfl, hb⟩
   have HI := Aa (HS.out.step hb)
   clear HS hb
   have c3 := cell_at HI.out.h3 0 (.int .i64 a2) rfl
   go_wp2_with (go_at_call 72; refine (skew_within.calls _ _ _ _ _ HW.out).mono ?_; rintro e w2 ⟨rfl, ⟨nd, rfl⟩⟩)
   go_ret2
   exact ⟨rfl, (HI.out.drewN nd).hb⟩
  ·rw [if_pos rfl] at h
   have hrb : 0 ≤ a0_0 ∧ a0_0 ≤ 100000 ∧ 0 ≤ a0_1 ∧ a0_1 ≤ 1000 ∧ 0 ≤ a0_2 ∧ a0_2 ≤ 100000 ∧ a0_0 ≤ a1 ∧ a1 ≤ 100000 := by
    simp only [readsB, Bool.and_eq_true, decide_eq_true_eq] at hb; omega
   obtain ⟨g1, g2, g3, g4, g5, g6, g7, g8⟩ := hrb
   clear hb hc
   obtain ⟨R, hR⟩ : ∃ R, bsr (fun i => decide (a2 < lowOf a0_0 a0_1 a0_2 (a1 + i))) (100001 - a1).toNat 0 (100001 - a1) = R := ⟨_, rfl⟩
   have hRr := bsr_range (fun i => decide (a2 < lowOf a0_0 a0_1 a0_2 (a1 + i))) (100001 - a1).toNat 0 (100001 - a1) (by omega)
   rw [hR] at h hRr
   have HRR := Aa hR
   have H := Aa h
   clear hR h
   obtain ⟨k1, k2⟩ := hRr
   go_enter Try.func17, Try.ntmps17
   go_wp2_with fail
   refine (skew_reads.calls _ _ _ _ _ _ HR.out).mono ?_
   rintro e w1 ⟨rfl, hb⟩
   have HI := Aa (HS.out.step hb)
   clear HS hb
   have c3 := cell_at HI.out.h3 0 (.int .i64 a2) rfl
   go_wp2_with (go_at_call 72; refine (skew_within.calls _ _ _ _ _ HW.out).mono ?_; rintro e w2 ⟨rfl, ⟨nd, rfl⟩⟩)
   have es1 : IntKind.i64.wrap (100001 - a1) = 100001 - a1 := IntWalk.i64_in _ (by omega)
   have es2 : IntKind.i64.wrap (a1 + R) = a1 + R := IntWalk.i64_in _ (by omega)
   have HI2 := Aa (HI.out.drewN nd)
   have c4 := cell_at HI2.out.h2 0 (.int .i64 a1) rfl
   go_region_held3 (fun W => WaitInv a0_0 a0_1 a0_2 a1 a2 w.heap.size (w.heap.size + 1) (w.heap.size + 1 + 1) w W ∧ W.cell? ⟨w.heap.size + 1, 0, none⟩ = some (.int .i64 a1))
    (first | exact ⟨HI2.out.drew, cell_drew (cell_at HI2.out.h2 0 _ rfl)⟩ | exact ⟨hb, cell_at hb.h2 0 _ rfl⟩)
    (first | (go_at_call 73; (with_reducible refine (wait_search a0_0 a0_1 a0_2 a1 a2 R _ _ _ w _ g1 g2 g3 g4 g5 g6 g7 g8 HRR.out ?_).mono ?_); (go_split_ands; assumption); rintro e w' ⟨rfl, hb⟩))
   rename_i hS
   have HI3 := Aa hS.1
   clear hS
   have hH := H.out
   clear H
   by_cases hgt : a1 + R > 100000
   ·rw [if_pos hgt] at hH
    simp only [Option.some.injEq, Prod.mk.injEq] at hH
    obtain ⟨rfl, rfl⟩ := hH
    go_wp2
    go_ret2
    exact ⟨rfl, HI3.out.hb⟩
   ·rw [if_neg hgt] at hH
    simp only [Option.some.injEq, Prod.mk.injEq] at hH
    obtain ⟨rfl, rfl⟩ := hH
    go_wp2
    go_ret2
    exact ⟨rfl, HI3.out.hb⟩
end Go.Proofs.Ytbffhblebigcfaa.Sk
