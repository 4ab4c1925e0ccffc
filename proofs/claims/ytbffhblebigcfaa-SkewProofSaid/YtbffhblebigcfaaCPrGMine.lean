/- The walk of skew.mine: the deeds of each machine. -/
import Derived.StillTailTactics
import Derived.Test.YtbffhblebigcfaaCPrGBase
namespace Go.Proofs.Ytbffhblebigcfaa.Sk
open Go.RowKit Go.Proofs.YtbffhblebigcfaaW.PrintWords Go.Proofs.YtbffhblebigcfaaW.PrintLast Go.Proofs.YtbffhblebigcfaaW.PrintMore
set_option linter.unusedVariables false
set_option linter.unusedSimpArgs false
def mineGo : List S71 → Int → List Int → List Int
 | [], _, ms => ms
 | d :: l, i, ms => mineGo l (i + 1) (ms.set d.f0.toNat (bits .or .u64 (ms.getD d.f0.toNat 0) (IntKind.u64.wrap (2 ^ i.toNat))))
def mineF (l : List S71) : List Int := mineGo l 0 [0, 0, 0, 0, 0, 0]
theorem drop_rd71' (l : List S71) (i : Int) (h0 : 0 ≤ i) (h1 : i < l.length) : l.drop i.toNat = rd_T71 l i :: l.drop (i + 1).toNat := by
 have hl : i.toNat < l.length := by omega
 have e : (i + 1).toNat = i.toNat + 1 := by omega
 have er : rd_T71 l i = l[i.toNat] := by simp [rd_T71, List.getD_eq_getElem?_getD, hl]
 rw [List.drop_eq_getElem_cons hl, e, er]
theorem rd71_mem' (l : List S71) (i : Int) (h0 : 0 ≤ i) (h1 : i < l.length) : rd_T71 l i ∈ l := by
 have hl : i.toNat < l.length := by omega
 have er : rd_T71 l i = l[i.toNat] := by simp [rd_T71, List.getD_eq_getElem?_getD, hl]
 rw [er]; exact List.getElem_mem hl
def blk6 (a b c d e f : Int) : Obj := .cells #[.int .u64 a, .int .u64 b, .int .u64 c, .int .u64 d, .int .u64 e, .int .u64 f] 119 (0, 0)
set_option maxHeartbeats 4000000 in
set_option maxRecDepth 100000 in
theorem mine_calls (A0 : Option Addr) (c0 : Nat) (l0 : List S71) (w : World) (hr0 : Kd.C k71 w A0 l0.length l0) (hl : l0.length ≤ 40) (hm : ∀ d ∈ l0, 0 ≤ d.f0 ∧ d.f0 ≤ 5) :
  Calls Try.prog 86 #[.slice A0 l0.length c0] w fun e w' => ∃ a b c d f g : Int, e = .returned (.agg #[.int .u64 a, .int .u64 b, .int .u64 c, .int .u64 d, .int .u64 f, .int .u64 g]) ∧ mineF l0 = [a, b, c, d, f, g] ∧ Below w.heap.size w w' := by
 have hu71 := Try.underlying71
 have hu119 := Try.underlying119
 have HR0 := Aa hr0
 have HM := Aa hm
 clear hr0 hm
 have k2 : ((w.alloc (blk6 0 0 0 0 0 0)).alloc (blk6 0 0 0 0 0 0)).heap[w.heap.size + 1]? = some (blk6 0 0 0 0 0 0) := by
  have := blk_new (w.alloc (blk6 0 0 0 0 0 0)) (blk6 0 0 0 0 0 0); rwa [World.size_alloc] at this
 have K2 := Aa k2
 have K1 := Aa (blk_alloc (blk_new w (blk6 0 0 0 0 0 0)) (blk6 0 0 0 0 0 0))
 have KB := Aa (below_alloc (below_alloc (Below.refl w.heap.size w) (blk6 0 0 0 0 0 0)) (blk6 0 0 0 0 0 0))
 clear k2
 go_enter Try.func86, Try.ntmps86
 go_wp2_with fail
 go_loopw [8] (fun v8 W => ∃ (i a b c d f g : Int), 0 ≤ i ∧ i ≤ l0.length ∧ v8 = .int .i64 i ∧ Aside0 (mineGo (l0.drop i.toNat) i [a, b, c, d, f, g] = mineF l0) ∧ Aside0 (W.heap[w.heap.size + 1]? = some (blk6 a b c d f g)) ∧ Aside0 (W.heap[w.heap.size]? = some (blk6 0 0 0 0 0 0)) ∧ Aside0 (Below w.heap.size w W)) (fun v _ => l0.length - (intOf v).toNat)
 case atStart => exact ⟨0, 0, 0, 0, 0, 0, 0, by omega, by omega, rfl, ⟨rfl⟩, K2, K1, KB⟩
 case round =>
  clear K2 K1 KB
  obtain ⟨i, a, b, c, d, f, g, h0, hk, rfl, HA, H2, H1, HB⟩ := hrel
  by_cases hlt : i < l0.length
  ·obtain ⟨ad, e217, hx0, hx1, hx2⟩ := at_T71 (Kd.C_below HR0.out HB.out) i h0 hlt
   cases e217
   have hA := HA.out
   rw [drop_rd71' l0 i h0 hlt] at hA
   have hkd := HM.out _ (rd71_mem' l0 i h0 hlt)
   clear HA
   obtain ⟨x, hx⟩ : ∃ x, rd_T71 l0 i = x := ⟨_, rfl⟩
   rw [hx] at hx0 hx1 hx2 hA hkd
   clear hx
   obtain ⟨x0, x1, x2⟩ := x
   simp only [mineGo] at hA hx0 hx1 hx2 hkd
   have HBk := Aa (blk_alloc H2.out (.cells #[.int .i64 x0, .int .i64 x1, .int .i64 x2] 71))
   have HBz := Aa (blk_alloc H1.out (.cells #[.int .i64 x0, .int .i64 x1, .int .i64 x2] 71))
   have HB2 := Aa (below_alloc HB.out (.cells #[.int .i64 x0, .int .i64 x1, .int .i64 x2] 71))
   have p0 := cell_at (blk_new wr (.cells #[.int .i64 x0, .int .i64 x1, .int .i64 x2] 71)) 0 (.int .i64 x0) rfl
   have q0 := cell_at HBk.out 0 (.int .u64 a) rfl
   have q1 := cell_at HBk.out 1 (.int .u64 b) rfl
   have q2 := cell_at HBk.out 2 (.int .u64 c) rfl
   have q3 := cell_at HBk.out 3 (.int .u64 d) rfl
   have q4 := cell_at HBk.out 4 (.int .u64 f) rfl
   have q5 := cell_at HBk.out 5 (.int .u64 g) rfl
   obtain rfl | rfl | rfl | rfl | rfl | rfl : x0 = 0 ∨ x0 = 1 ∨ x0 = 2 ∨ x0 = 3 ∨ x0 = 4 ∨ x0 = 5 := by omega
   ·have z0 := blk_frozen HBk.out 0
    go_wp2_with fail
    generalize wr.alloc (.cells #[.int .i64 0, .int .i64 x1, .int .i64 x2] 71) = W1 at HBk HBz HB2 p0 q0 q1 q2 q3 q4 q5 z0 ⊢
    go_still_tail 8, (by kernel_rfl)
    (show wpList _ _ _ _ _ W1.drew)
    go_wp2
    go_roundw
    case rel => exact ⟨i + 1, (bits .or .u64 a (IntKind.u64.wrap (2 ^ i.toNat))), b, c, d, f, g, by omega, by omega, rfl, ⟨hA⟩, ⟨blk_put HBk.out 0 _ rfl⟩, ⟨blk_far HBz.out (by omega) _⟩, ⟨Dn (below_set HB2.out (by omega))⟩⟩
    case measure => simp [intOf]; omega
   ·have z0 := blk_frozen HBk.out 1
    go_wp2_with fail
    generalize wr.alloc (.cells #[.int .i64 1, .int .i64 x1, .int .i64 x2] 71) = W1 at HBk HBz HB2 p0 q0 q1 q2 q3 q4 q5 z0 ⊢
    go_still_tail 8, (by kernel_rfl)
    (show wpList _ _ _ _ _ W1.drew)
    go_wp2
    go_roundw
    case rel => exact ⟨i + 1, a, (bits .or .u64 b (IntKind.u64.wrap (2 ^ i.toNat))), c, d, f, g, by omega, by omega, rfl, ⟨hA⟩, ⟨blk_put HBk.out 1 _ rfl⟩, ⟨blk_far HBz.out (by omega) _⟩, ⟨Dn (below_set HB2.out (by omega))⟩⟩
    case measure => simp [intOf]; omega
   ·have z0 := blk_frozen HBk.out 2
    go_wp2_with fail
    generalize wr.alloc (.cells #[.int .i64 2, .int .i64 x1, .int .i64 x2] 71) = W1 at HBk HBz HB2 p0 q0 q1 q2 q3 q4 q5 z0 ⊢
    go_still_tail 8, (by kernel_rfl)
    (show wpList _ _ _ _ _ W1.drew)
    go_wp2
    go_roundw
    case rel => exact ⟨i + 1, a, b, (bits .or .u64 c (IntKind.u64.wrap (2 ^ i.toNat))), d, f, g, by omega, by omega, rfl, ⟨hA⟩, ⟨blk_put HBk.out 2 _ rfl⟩, ⟨blk_far HBz.out (by omega) _⟩, ⟨Dn (below_set HB2.out (by omega))⟩⟩
    case measure => simp [intOf]; omega
   ·have z0 := blk_frozen HBk.out 3
    go_wp2_with fail
    generalize wr.alloc (.cells #[.int .i64 3, .int .i64 x1, .int .i64 x2] 71) = W1 at HBk HBz HB2 p0 q0 q1 q2 q3 q4 q5 z0 ⊢
    go_still_tail 8, (by kernel_rfl)
    (show wpList _ _ _ _ _ W1.drew)
    go_wp2
    go_roundw
    case rel => exact ⟨i + 1, a, b, c, (bits .or .u64 d (IntKind.u64.wrap (2 ^ i.toNat))), f, g, by omega, by omega, rfl, ⟨hA⟩, ⟨blk_put HBk.out 3 _ rfl⟩, ⟨blk_far HBz.out (by omega) _⟩, ⟨Dn (below_set HB2.out (by omega))⟩⟩
    case measure => simp [intOf]; omega
   ·have z0 := blk_frozen HBk.out 4
    go_wp2_with fail
    generalize wr.alloc (.cells #[.int .i64 4, .int .i64 x1, .int .i64 x2] 71) = W1 at HBk HBz HB2 p0 q0 q1 q2 q3 q4 q5 z0 ⊢
    go_still_tail 8, (by kernel_rfl)
    (show wpList _ _ _ _ _ W1.drew)
    go_wp2
    go_roundw
    case rel => exact ⟨i + 1, a, b, c, d, (bits .or .u64 f (IntKind.u64.wrap (2 ^ i.toNat))), g, by omega, by omega, rfl, ⟨hA⟩, ⟨blk_put HBk.out 4 _ rfl⟩, ⟨blk_far HBz.out (by omega) _⟩, ⟨Dn (below_set HB2.out (by omega))⟩⟩
    case measure => simp [intOf]; omega
   ·have z0 := blk_frozen HBk.out 5
    go_wp2_with fail
    generalize wr.alloc (.cells #[.int .i64 5, .int .i64 x1, .int .i64 x2] 71) = W1 at HBk HBz HB2 p0 q0 q1 q2 q3 q4 q5 z0 ⊢
    go_still_tail 8, (by kernel_rfl)
    (show wpList _ _ _ _ _ W1.drew)
    go_wp2
    go_roundw
    case rel => exact ⟨i + 1, a, b, c, d, f, (bits .or .u64 g (IntKind.u64.wrap (2 ^ i.toNat))), by omega, by omega, rfl, ⟨hA⟩, ⟨blk_put HBk.out 5 _ rfl⟩, ⟨blk_far HBz.out (by omega) _⟩, ⟨Dn (below_set HB2.out (by omega))⟩⟩
    case measure => simp [intOf]; omega
  ·have hA := HA.out
   rw [List.drop_of_length_le (by omega)] at hA
   have HA2 := Aa (show mineF l0 = [a, b, c, d, f, g] from hA.symm)
   clear hA HA
   have q0 := cell_at H2.out 0 (.int .u64 a) rfl
   have q1 := cell_at H2.out 1 (.int .u64 b) rfl
   have q2 := cell_at H2.out 2 (.int .u64 c) rfl
   have q3 := cell_at H2.out 3 (.int .u64 d) rfl
   have q4 := cell_at H2.out 4 (.int .u64 f) rfl
   have q5 := cell_at H2.out 5 (.int .u64 g) rfl
   have s0 := cell_at H1.out 0 (.int .u64 0) rfl
   have s1 := cell_at H1.out 1 (.int .u64 0) rfl
   have s2 := cell_at H1.out 2 (.int .u64 0) rfl
   have s3 := cell_at H1.out 3 (.int .u64 0) rfl
   have s4 := cell_at H1.out 4 (.int .u64 0) rfl
   have s5 := cell_at H1.out 5 (.int .u64 0) rfl
   have z0 := blk_frozen H1.out 0
   have z1 := blk_frozen H1.out 1
   have z2 := blk_frozen H1.out 2
   have z3 := blk_frozen H1.out 3
   have z4 := blk_frozen H1.out 4
   have z5 := blk_frozen H1.out 5
   go_wp2
   refine bodyPost_ret (results_cell_row rfl _ _ w.heap.size 119 #[.int .u64 a, .int .u64 b, .int .u64 c, .int .u64 d, .int .u64 f, .int .u64 g] (0, 0) _ rfl (blk_put (cs := #[.int .u64 a, .int .u64 b, .int .u64 c, .int .u64 d, .int .u64 f, .int .u64 0]) (blk_put (cs := #[.int .u64 a, .int .u64 b, .int .u64 c, .int .u64 d, .int .u64 0, .int .u64 0]) (blk_put (cs := #[.int .u64 a, .int .u64 b, .int .u64 c, .int .u64 0, .int .u64 0, .int .u64 0]) (blk_put (cs := #[.int .u64 a, .int .u64 b, .int .u64 0, .int .u64 0, .int .u64 0, .int .u64 0]) (blk_put (cs := #[.int .u64 a, .int .u64 0, .int .u64 0, .int .u64 0, .int .u64 0, .int .u64 0]) (blk_put (cs := #[.int .u64 0, .int .u64 0, .int .u64 0, .int .u64 0, .int .u64 0, .int .u64 0]) H1.out 0 _ rfl) 1 _ rfl) 2 _ rfl) 3 _ rfl) 4 _ rfl) 5 _ rfl) Try.underlying119 rfl (by kernel_rfl)) rfl ?_
   exact ⟨a, b, c, d, f, g, rfl, HA2.out, below_set (below_set (below_set (below_set (below_set (below_set HB.out (Nat.le_refl _)) (Nat.le_refl _)) (Nat.le_refl _)) (Nat.le_refl _)) (Nat.le_refl _)) (Nat.le_refl _)⟩
end Go.Proofs.Ytbffhblebigcfaa.Sk
