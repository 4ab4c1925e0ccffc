/- Words and walks of this claim, merged. -/
import Derived.Test.YtbffhblebigcfaaProg
import Derived.Below
import Derived.Deep.Draws
import Derived.Deep.AppendLies
import Derived.Maps.AppendAt
import Derived.OwnWalk
import Derived.Laws.BytesArg
import Derived.Laws.MakeOwn
import Derived.Laws.OwnMore
import Derived.Deep.OwnRows
import Derived.Tactics
import Derived.Lib.ConvBytes
import Derived.Laws.Slices
import Derived.WalkKit
import Derived.KernelRfl
import Derived.RowKit3
import Derived.Deep.LoopGhost
import Derived.Deep.QuietTactic
import Derived.BigQuiet
import Derived.WideLaws
import Derived.Deep.DeepCutAuto
import Derived.Deep.CutBlock
import Derived.Deep.RegionHeld3
import Derived.Laws.Rows
import Derived.Lib.AppendStr
import Derived.ArgAppend
import Derived.Laws.IdiomCopy
import Derived.OrdersHeld
import Derived.Laws.BitsLemmas
import Derived.RowKit
import Derived.Test.YtbffhblebigcfaaCPrW0
namespace Go.Proofs.Ytbffhblebigcfaa.Sk
open Go.RowKit Go.Proofs.YtbffhblebigcfaaW.PrintWords Go.Proofs.YtbffhblebigcfaaW.PrintLast Go.Proofs.YtbffhblebigcfaaW.PrintMore
set_option linter.unusedVariables false
set_option linter.unusedSimpArgs false
section
attribute [local go_sem] max2_int min2_int max_two min_two
theorem info3 : (Try.prog.info? 3).map (fun i => (i.zero, i.size, i.bytes)) = some (some (.int .i64 0), 1, 8) := by kernel_rfl
theorem info27 : (Try.prog.info? 27).map (fun i => (i.zero, i.size, i.bytes)) = some (some (.agg #[(.int .i64 0), (.int .i64 0)]), 2, 16) := by kernel_rfl
theorem info40 : (Try.prog.info? 40).map (fun i => (i.zero, i.size, i.bytes)) = some (some (.slice none 0 0), 1, 24) := by kernel_rfl
theorem info47 : (Try.prog.info? 47).map (fun i => (i.zero, i.size, i.bytes)) = some (some (.agg #[(.int .i64 0), (.int .i64 0)]), 2, 16) := by kernel_rfl
theorem info86 : (Try.prog.info? 86).map (fun i => (i.zero, i.size, i.bytes)) = some (some (.agg #[(.int .i64 0), (.int .i64 0), (.int .i64 0), (.int .i64 0)]), 4, 32) := by kernel_rfl
theorem info126 : (Try.prog.info? 126).map (fun i => (i.zero, i.size, i.bytes)) = some (some (.agg #[(.int .i64 0), (.int .i64 0)]), 2, 16) := by kernel_rfl
structure S27 where
 f0 : Int
 f1 : Int
def z27 : S27 := ⟨(0 : Int), (0 : Int)⟩
def k27 : Kd S27 := Kd.iso (Kd.pair (Kd.int .i64) (Kd.int .i64)) (fun x : S27 => (x.f0, x.f1))
theorem k27_open {w : World} {x : S27} {cs : List Value} (h : k27.K w x cs) : cs = [.int .i64 x.f0, .int .i64 x.f1] := by
 obtain ⟨_, _, rfl, rfl, rfl⟩ := h
 exact rfl
theorem k27_mk (w : World) (x : S27)  : k27.K w x [.int .i64 x.f0, .int .i64 x.f1] := ⟨[.int .i64 x.f0], [.int .i64 x.f1], rfl, rfl, rfl⟩
theorem k27_mkM (w : World) (base : Nat) (ok : Nat → Prop) (x : S27)  : k27.M w base ok x [.int .i64 x.f0, .int .i64 x.f1] := ⟨[.int .i64 x.f0], [.int .i64 x.f1], rfl, rfl, rfl⟩
def rd_T27 (xs : List S27) (i : Int) : S27 := xs.getD i.toNat z27
theorem at_T27 {w : World} {A : Option Addr} {n : Nat} {xs : List S27} (h : Kd.C k27 w A n xs) (i : Int) (h0 : 0 ≤ i) (h1 : i < n) : ∃ ad , A = some ad ∧ w.cell? (ad.add (i.toNat * 2)) = some (.int .i64 (rd_T27 xs i).f0) ∧ w.cell? ⟨(ad.add (i.toNat * 2)).block, (ad.add (i.toNat * 2)).off + 1, none⟩ = some (.int .i64 (rd_T27 xs i).f1) := by
 obtain ⟨ad, c, e, _, hK, hc0⟩ := Kd.C_get h z27 i h0 h1
 have hc : ∀ j u, c[j]? = some u → w.cell? (ad.add (i.toNat * 2 + j)) = some u := hc0
 obtain rfl := k27_open hK
 exact ⟨ad, e, hc 0 _ rfl, by rw [← add_field _ _ 1 (by omega)]; exact hc 1 _ rfl⟩
structure S86 where
 f0 : Int
 f1 : Int
 f2 : Int
 f3 : Int
def z86 : S86 := ⟨(0 : Int), (0 : Int), (0 : Int), (0 : Int)⟩
def k86 : Kd S86 := Kd.iso (Kd.pair (Kd.int .i64) (Kd.pair (Kd.int .i64) (Kd.pair (Kd.int .i64) (Kd.int .i64)))) (fun x : S86 => (x.f0, x.f1, x.f2, x.f3))
theorem k86_open {w : World} {x : S86} {cs : List Value} (h : k86.K w x cs) : cs = [.int .i64 x.f0, .int .i64 x.f1, .int .i64 x.f2, .int .i64 x.f3] := by
 obtain ⟨_, _, rfl, rfl, ⟨_, _, rfl, rfl, ⟨_, _, rfl, rfl, rfl⟩⟩⟩ := h
 exact rfl
theorem k86_mk (w : World) (x : S86)  : k86.K w x [.int .i64 x.f0, .int .i64 x.f1, .int .i64 x.f2, .int .i64 x.f3] := ⟨[.int .i64 x.f0], [.int .i64 x.f1, .int .i64 x.f2, .int .i64 x.f3], rfl, rfl, ⟨[.int .i64 x.f1], [.int .i64 x.f2, .int .i64 x.f3], rfl, rfl, ⟨[.int .i64 x.f2], [.int .i64 x.f3], rfl, rfl, rfl⟩⟩⟩
theorem k86_mkM (w : World) (base : Nat) (ok : Nat → Prop) (x : S86)  : k86.M w base ok x [.int .i64 x.f0, .int .i64 x.f1, .int .i64 x.f2, .int .i64 x.f3] := ⟨[.int .i64 x.f0], [.int .i64 x.f1, .int .i64 x.f2, .int .i64 x.f3], rfl, rfl, ⟨[.int .i64 x.f1], [.int .i64 x.f2, .int .i64 x.f3], rfl, rfl, ⟨[.int .i64 x.f2], [.int .i64 x.f3], rfl, rfl, rfl⟩⟩⟩
def rd_T86 (xs : List S86) (i : Int) : S86 := xs.getD i.toNat z86
theorem at_T86 {w : World} {A : Option Addr} {n : Nat} {xs : List S86} (h : Kd.C k86 w A n xs) (i : Int) (h0 : 0 ≤ i) (h1 : i < n) : ∃ ad , A = some ad ∧ w.cell? (ad.add (i.toNat * 4)) = some (.int .i64 (rd_T86 xs i).f0) ∧ w.cell? ⟨(ad.add (i.toNat * 4)).block, (ad.add (i.toNat * 4)).off + 1, none⟩ = some (.int .i64 (rd_T86 xs i).f1) ∧ w.cell? ⟨(ad.add (i.toNat * 4)).block, (ad.add (i.toNat * 4)).off + 2, none⟩ = some (.int .i64 (rd_T86 xs i).f2) ∧ w.cell? ⟨(ad.add (i.toNat * 4)).block, (ad.add (i.toNat * 4)).off + 3, none⟩ = some (.int .i64 (rd_T86 xs i).f3) := by
 obtain ⟨ad, c, e, _, hK, hc0⟩ := Kd.C_get h z86 i h0 h1
 have hc : ∀ j u, c[j]? = some u → w.cell? (ad.add (i.toNat * 4 + j)) = some u := hc0
 obtain rfl := k86_open hK
 exact ⟨ad, e, hc 0 _ rfl, by rw [← add_field _ _ 1 (by omega)]; exact hc 1 _ rfl, by rw [← add_field _ _ 2 (by omega)]; exact hc 2 _ rfl, by rw [← add_field _ _ 3 (by omega)]; exact hc 3 _ rfl⟩
structure S71 where
 f0 : Int
 f1 : Int
 f2 : Int
def z71 : S71 := ⟨(0 : Int), (0 : Int), (0 : Int)⟩
def k71 : Kd S71 := Kd.iso (Kd.pair (Kd.int .i64) (Kd.pair (Kd.int .i64) (Kd.int .i64))) (fun x : S71 => (x.f0, x.f1, x.f2))
theorem k71_open {w : World} {x : S71} {cs : List Value} (h : k71.K w x cs) : cs = [.int .i64 x.f0, .int .i64 x.f1, .int .i64 x.f2] := by
 obtain ⟨_, _, rfl, rfl, ⟨_, _, rfl, rfl, rfl⟩⟩ := h
 exact rfl
theorem k71_mkM (w : World) (base : Nat) (ok : Nat → Prop) (x : S71)  : k71.M w base ok x [.int .i64 x.f0, .int .i64 x.f1, .int .i64 x.f2] := ⟨[.int .i64 x.f0], [.int .i64 x.f1, .int .i64 x.f2], rfl, rfl, ⟨[.int .i64 x.f1], [.int .i64 x.f2], rfl, rfl, rfl⟩⟩
def rd_T71 (xs : List S71) (i : Int) : S71 := xs.getD i.toNat z71
theorem at_T71 {w : World} {A : Option Addr} {n : Nat} {xs : List S71} (h : Kd.C k71 w A n xs) (i : Int) (h0 : 0 ≤ i) (h1 : i < n) : ∃ ad , A = some ad ∧ w.cell? (ad.add (i.toNat * 3)) = some (.int .i64 (rd_T71 xs i).f0) ∧ w.cell? ⟨(ad.add (i.toNat * 3)).block, (ad.add (i.toNat * 3)).off + 1, none⟩ = some (.int .i64 (rd_T71 xs i).f1) ∧ w.cell? ⟨(ad.add (i.toNat * 3)).block, (ad.add (i.toNat * 3)).off + 2, none⟩ = some (.int .i64 (rd_T71 xs i).f2) := by
 obtain ⟨ad, c, e, _, hK, hc0⟩ := Kd.C_get h z71 i h0 h1
 have hc : ∀ j u, c[j]? = some u → w.cell? (ad.add (i.toNat * 3 + j)) = some u := hc0
 obtain rfl := k71_open hK
 exact ⟨ad, e, hc 0 _ rfl, by rw [← add_field _ _ 1 (by omega)]; exact hc 1 _ rfl, by rw [← add_field _ _ 2 (by omega)]; exact hc 2 _ rfl⟩
structure S126 where
 f0 : Int
 f1 : Int
def z126 : S126 := ⟨(0 : Int), (0 : Int)⟩
def k126 : Kd S126 := Kd.iso (Kd.pair (Kd.int .i64) (Kd.int .i64)) (fun x : S126 => (x.f0, x.f1))
theorem k126_open {w : World} {x : S126} {cs : List Value} (h : k126.K w x cs) : cs = [.int .i64 x.f0, .int .i64 x.f1] := by
 obtain ⟨_, _, rfl, rfl, rfl⟩ := h
 exact rfl
theorem k126_mkM (w : World) (base : Nat) (ok : Nat → Prop) (x : S126)  : k126.M w base ok x [.int .i64 x.f0, .int .i64 x.f1] := ⟨[.int .i64 x.f0], [.int .i64 x.f1], rfl, rfl, rfl⟩
def rd_T126 (xs : List S126) (i : Int) : S126 := xs.getD i.toNat z126
theorem at_T126 {w : World} {A : Option Addr} {n : Nat} {xs : List S126} (h : Kd.C k126 w A n xs) (i : Int) (h0 : 0 ≤ i) (h1 : i < n) : ∃ ad , A = some ad ∧ w.cell? (ad.add (i.toNat * 2)) = some (.int .i64 (rd_T126 xs i).f0) ∧ w.cell? ⟨(ad.add (i.toNat * 2)).block, (ad.add (i.toNat * 2)).off + 1, none⟩ = some (.int .i64 (rd_T126 xs i).f1) := by
 obtain ⟨ad, c, e, _, hK, hc0⟩ := Kd.C_get h z126 i h0 h1
 have hc : ∀ j u, c[j]? = some u → w.cell? (ad.add (i.toNat * 2 + j)) = some u := hc0
 obtain rfl := k126_open hK
 exact ⟨ad, e, hc 0 _ rfl, by rw [← add_field _ _ 1 (by omega)]; exact hc 1 _ rfl⟩
structure S47 where
 f0 : Int
 f1 : Int
def z47 : S47 := ⟨(0 : Int), (0 : Int)⟩
def k47 : Kd S47 := Kd.iso (Kd.pair (Kd.int .i64) (Kd.int .i64)) (fun x : S47 => (x.f0, x.f1))
theorem k47_open {w : World} {x : S47} {cs : List Value} (h : k47.K w x cs) : cs = [.int .i64 x.f0, .int .i64 x.f1] := by
 obtain ⟨_, _, rfl, rfl, rfl⟩ := h
 exact rfl
theorem k47_mkM (w : World) (base : Nat) (ok : Nat → Prop) (x : S47)  : k47.M w base ok x [.int .i64 x.f0, .int .i64 x.f1] := ⟨[.int .i64 x.f0], [.int .i64 x.f1], rfl, rfl, rfl⟩
def rd_T47 (xs : List S47) (i : Int) : S47 := xs.getD i.toNat z47
theorem at_T47 {w : World} {A : Option Addr} {n : Nat} {xs : List S47} (h : Kd.C k47 w A n xs) (i : Int) (h0 : 0 ≤ i) (h1 : i < n) : ∃ ad , A = some ad ∧ w.cell? (ad.add (i.toNat * 2)) = some (.int .i64 (rd_T47 xs i).f0) ∧ w.cell? ⟨(ad.add (i.toNat * 2)).block, (ad.add (i.toNat * 2)).off + 1, none⟩ = some (.int .i64 (rd_T47 xs i).f1) := by
 obtain ⟨ad, c, e, _, hK, hc0⟩ := Kd.C_get h z47 i h0 h1
 have hc : ∀ j u, c[j]? = some u → w.cell? (ad.add (i.toNat * 2 + j)) = some u := hc0
 obtain rfl := k47_open hK
 exact ⟨ad, e, hc 0 _ rfl, by rw [← add_field _ _ 1 (by omega)]; exact hc 1 _ rfl⟩
end
section
attribute [local go_sem] max2_int min2_int max_two min_two
def skew_formed.f (a0_0 : Int) (a0_1 : Int) : Option (Bool) := if a0_0 ≤ a0_1 then (if a0_0 ≥ (-1000000) then (some (decide (a0_1 ≤ 1000000))) else (some false)) else (some false)
set_option maxHeartbeats 8000000 in
set_option maxRecDepth 100000 in
theorem skew_formed.calls (a0_0 : Int) (a0_1 : Int) (r : Bool) (w : World) (h : skew_formed.f a0_0 a0_1 = some r) :
  Calls Try.prog 112 #[.agg #[.int .i64 a0_0, .int .i64 a0_1]] w fun e w' => e = .returned (.bool r) ∧ Below w.heap.size w w' := by
 have hu27 := Try.underlying27
 have HB := Aa (Below.refl w.heap.size w)
 have H : (if a0_0 ≤ a0_1 then (if a0_0 ≥ (-1000000) then (some (decide (a0_1 ≤ 1000000))) else (some false)) else (some false)) = some r := h
 clear h
 by_cases c2 : a0_0 ≤ a0_1
 ·rw [if_pos c2] at H
  have c2b0 : decide (a0_0 ≤ a0_1) = true := decide_eq_true c2
  clear c2
  by_cases c3 : a0_0 ≥ (-1000000)
  ·rw [if_pos c3] at H
   have c3b0 : decide ((-1000000) ≤ a0_0) = true := decide_eq_true c3
   clear c3
   obtain rfl := Option.some.inj H
   go_enter Try.func112, Try.ntmps112
   go_wp2_with (first | ((with_reducible refine gate_dst (N := 1) rfl ?_); refine box_event ?hg (N := 1) ?hd (cs := #[.int .i64 a0_0, .int .i64 a0_1]) (t := 27) ?hr ?_; (case hd => rfl); (case hg => rfl); (case hr => first | (go_simp; done) | (go_simp; rfl)); intro gb640 hg w4 hbox hb; have n0_ := Aa (below_step (by repeat (first | (with_reducible first | exact HB.out | apply below_alloc | apply Pn | apply Dn) | exact HB.out)) hb); have n1_ := Aa (hbox); have n2_ := Aa ((by rw [hg]; exact (below_size (by repeat (first | (with_reducible first | exact HB.out | apply below_alloc | apply Pn | apply Dn) | exact HB.out))) : w.heap.size ≤ gb640)); have n3_ := Aa ((by rw [hg]; exact (below_size (by repeat (first | (with_reducible first | exact HB.out | apply below_alloc | apply Pn | apply Dn) | exact HB.out))) : w.heap.size ≤ gb640)); clear HB; have HB := n0_; have BK640 := n1_; have GW640 := n2_; have GE640 := n3_; clear n0_ n1_ n2_ n3_; clear hb hbox hg; have hcz5_0 : w4.cell? ⟨gb640, 0, none⟩ = some (.int .i64 a0_0) := (blk_cell BK640.out 0).trans rfl; have hcz5_1 : w4.cell? ⟨gb640, 1, none⟩ = some (.int .i64 a0_1) := (blk_cell BK640.out 1).trans rfl; have hfz5_0 := blk_frozen BK640.out 0; have hfz5_1 := blk_frozen BK640.out 1))
   go_ret
   exact ⟨by first | rfl | (simp [errW_none, errW_some] <;> rfl) | (simp [*, errW_none, errW_some] <;> rfl), by repeat (first | (with_reducible first | exact HB.out | apply below_alloc | apply Pn | apply Dn | refine below_set ?_ GE640.out) | exact HB.out)⟩
  ·rw [if_neg c3] at H
   have c3b0 : decide ((-1000000) ≤ a0_0) = false := decide_eq_false c3
   clear c3
   obtain rfl := Option.some.inj H
   go_enter Try.func112, Try.ntmps112
   go_wp2_with (first | ((with_reducible refine gate_dst (N := 1) rfl ?_); refine box_event ?hg (N := 1) ?hd (cs := #[.int .i64 a0_0, .int .i64 a0_1]) (t := 27) ?hr ?_; (case hd => rfl); (case hg => rfl); (case hr => first | (go_simp; done) | (go_simp; rfl)); intro gb640 hg w6 hbox hb; have n0_ := Aa (below_step (by repeat (first | (with_reducible first | exact HB.out | apply below_alloc | apply Pn | apply Dn) | exact HB.out)) hb); have n1_ := Aa (hbox); have n2_ := Aa ((by rw [hg]; exact (below_size (by repeat (first | (with_reducible first | exact HB.out | apply below_alloc | apply Pn | apply Dn) | exact HB.out))) : w.heap.size ≤ gb640)); have n3_ := Aa ((by rw [hg]; exact (below_size (by repeat (first | (with_reducible first | exact HB.out | apply below_alloc | apply Pn | apply Dn) | exact HB.out))) : w.heap.size ≤ gb640)); clear HB; have HB := n0_; have BK640 := n1_; have GW640 := n2_; have GE640 := n3_; clear n0_ n1_ n2_ n3_; clear hb hbox hg; have hcz7_0 : w6.cell? ⟨gb640, 0, none⟩ = some (.int .i64 a0_0) := (blk_cell BK640.out 0).trans rfl; have hcz7_1 : w6.cell? ⟨gb640, 1, none⟩ = some (.int .i64 a0_1) := (blk_cell BK640.out 1).trans rfl; have hfz7_0 := blk_frozen BK640.out 0; have hfz7_1 := blk_frozen BK640.out 1))
   go_ret
   exact ⟨by first | rfl | (simp [errW_none, errW_some] <;> rfl) | (simp [*, errW_none, errW_some] <;> rfl), by repeat (first | (with_reducible first | exact HB.out | apply below_alloc | apply Pn | apply Dn | refine below_set ?_ GE640.out) | exact HB.out)⟩
 ·rw [if_neg c2] at H
  have c2b0 : decide (a0_0 ≤ a0_1) = false := decide_eq_false c2
  clear c2
  obtain rfl := Option.some.inj H
  go_enter Try.func112, Try.ntmps112
  go_wp2_with (first | ((with_reducible refine gate_dst (N := 1) rfl ?_); refine box_event ?hg (N := 1) ?hd (cs := #[.int .i64 a0_0, .int .i64 a0_1]) (t := 27) ?hr ?_; (case hd => rfl); (case hg => rfl); (case hr => first | (go_simp; done) | (go_simp; rfl)); intro gb640 hg w8 hbox hb; have n0_ := Aa (below_step (by repeat (first | (with_reducible first | exact HB.out | apply below_alloc | apply Pn | apply Dn) | exact HB.out)) hb); have n1_ := Aa (hbox); have n2_ := Aa ((by rw [hg]; exact (below_size (by repeat (first | (with_reducible first | exact HB.out | apply below_alloc | apply Pn | apply Dn) | exact HB.out))) : w.heap.size ≤ gb640)); have n3_ := Aa ((by rw [hg]; exact (below_size (by repeat (first | (with_reducible first | exact HB.out | apply below_alloc | apply Pn | apply Dn) | exact HB.out))) : w.heap.size ≤ gb640)); clear HB; have HB := n0_; have BK640 := n1_; have GW640 := n2_; have GE640 := n3_; clear n0_ n1_ n2_ n3_; clear hb hbox hg; have hcz9_0 : w8.cell? ⟨gb640, 0, none⟩ = some (.int .i64 a0_0) := (blk_cell BK640.out 0).trans rfl; have hcz9_1 : w8.cell? ⟨gb640, 1, none⟩ = some (.int .i64 a0_1) := (blk_cell BK640.out 1).trans rfl; have hfz9_0 := blk_frozen BK640.out 0; have hfz9_1 := blk_frozen BK640.out 1))
  go_ret
  exact ⟨by first | rfl | (simp [errW_none, errW_some] <;> rfl) | (simp [*, errW_none, errW_some] <;> rfl), by repeat (first | (with_reducible first | exact HB.out | apply below_alloc | apply Pn | apply Dn | refine below_set ?_ GE640.out) | exact HB.out)⟩
end
section
attribute [local go_sem] max2_int min2_int max_two min_two
def skew_within.f (a0 : Int) (a1 : Int) (a2 : Int) : Option (Bool) := if a0 ≥ a1 then (some (decide (a0 ≤ a2))) else (some false)
set_option maxHeartbeats 8000000 in
set_option maxRecDepth 100000 in
theorem skew_within.calls (a0 : Int) (a1 : Int) (a2 : Int) (r : Bool) (w : World) (h : skew_within.f a0 a1 a2 = some r) :
  Calls Try.prog 72 #[.int .i64 a0, .int .i64 a1, .int .i64 a2] w fun e w' => e = .returned (.bool r) ∧ Drawn0 w w' := by
 have H : (if a0 ≥ a1 then (some (decide (a0 ≤ a2))) else (some false)) = some r := h
 clear h
 by_cases c4 : a0 ≥ a1
 ·rw [if_pos c4] at H
  have c4b0 : decide (a1 ≤ a0) = true := decide_eq_true c4
  clear c4
  obtain rfl := Option.some.inj H
  go_enter Try.func72, Try.ntmps72
  go_wp2
  go_ret
  exact ⟨by first | rfl | (simp; done) | (simp [*]; done), by repeat (first | exact Drawn0.refl _ | apply Drawn0.step)⟩
 ·rw [if_neg c4] at H
  have c4b0 : decide (a1 ≤ a0) = false := decide_eq_false c4
  clear c4
  obtain rfl := Option.some.inj H
  go_enter Try.func72, Try.ntmps72
  go_wp2
  go_ret
  exact ⟨by first | rfl | (simp; done) | (simp [*]; done), by repeat (first | exact Drawn0.refl _ | apply Drawn0.step)⟩
end
section
attribute [local go_sem] max2_int min2_int max_two min_two
end
section
attribute [local go_sem] max2_int min2_int max_two min_two
def skew_greater.f (a0 : Int) (a1 : Int) : Option (Bool) := some (decide (a0 > a1))
set_option maxHeartbeats 8000000 in
set_option maxRecDepth 100000 in
theorem skew_greater.calls (a0 : Int) (a1 : Int) (r : Bool) (w : World) (h : skew_greater.f a0 a1 = some r) :
  Calls Try.prog 104 #[.int .i64 a0, .int .i64 a1] w fun e w' => e = .returned (.bool r) ∧ Drawn0 w w' := by
 have H : (some (decide (a0 > a1))) = some r := h
 clear h
 obtain rfl := Option.some.inj H
 go_enter Try.func104, Try.ntmps104
 go_wp2
 go_ret
 exact ⟨by first | rfl | (simp; done) | (simp [*]; done), by repeat (first | exact Drawn0.refl _ | apply Drawn0.step)⟩
end
section
attribute [local go_sem] max2_int min2_int max_two min_two
end
section
attribute [local go_sem] max2_int min2_int max_two min_two
end
section
attribute [local go_sem] max2_int min2_int max_two min_two
end
section
attribute [local go_sem] max2_int min2_int max_two min_two
def afterwordref19_Time.f (a0 : Int) : Option (Bool) := if a0 ≥ (-1000000) then (some (decide (a0 ≤ 1000000))) else (some false)
set_option maxHeartbeats 8000000 in
set_option maxRecDepth 100000 in
theorem afterwordref19_Time.calls (a0 : Int) (r : Bool) (w : World) (h : afterwordref19_Time.f a0 = some r) :
  Calls Try.prog 75 #[.int .i64 a0] w fun e w' => e = .returned (.bool r) ∧ Drawn0 w w' := by
 have H : (if a0 ≥ (-1000000) then (some (decide (a0 ≤ 1000000))) else (some false)) = some r := h
 clear h
 by_cases c2 : a0 ≥ (-1000000)
 ·rw [if_pos c2] at H
  have c2b0 : decide ((-1000000) ≤ a0) = true := decide_eq_true c2
  clear c2
  obtain rfl := Option.some.inj H
  go_enter Try.func75, Try.ntmps75
  go_wp2
  go_ret
  exact ⟨by first | rfl | (simp; done) | (simp [*]; done), by repeat (first | exact Drawn0.refl _ | apply Drawn0.step)⟩
 ·rw [if_neg c2] at H
  have c2b0 : decide ((-1000000) ≤ a0) = false := decide_eq_false c2
  clear c2
  obtain rfl := Option.some.inj H
  go_enter Try.func75, Try.ntmps75
  go_wp2
  go_ret
  exact ⟨by first | rfl | (simp; done) | (simp [*]; done), by repeat (first | exact Drawn0.refl _ | apply Drawn0.step)⟩
end
section
attribute [local go_sem] max2_int min2_int max_two min_two
def afterwordref19_Good.f (a0_0 : Int) (a0_1 : Int) : Option (Bool) := if a0_0 ≤ a0_1 then ((afterwordref19_Time.f a0_0).bind fun t215 => (if t215 = true then ((afterwordref19_Time.f a0_1).bind fun t216 => (some t216)) else (some false))) else (some false)
set_option maxHeartbeats 8000000 in
set_option maxRecDepth 100000 in
theorem afterwordref19_Good.calls (a0_0 : Int) (a0_1 : Int) (r : Bool) (w : World) (h : afterwordref19_Good.f a0_0 a0_1 = some r) :
  Calls Try.prog 46 #[.agg #[.int .i64 a0_0, .int .i64 a0_1]] w fun e w' => e = .returned (.bool r) ∧ Below w.heap.size w w' := by
 have hu27 := Try.underlying27
 have HB := Aa (Below.refl w.heap.size w)
 have H : (if a0_0 ≤ a0_1 then ((afterwordref19_Time.f a0_0).bind fun t215 => (if t215 = true then ((afterwordref19_Time.f a0_1).bind fun t216 => (some t216)) else (some false))) else (some false)) = some r := h
 clear h
 by_cases c2 : a0_0 ≤ a0_1
 ·rw [if_pos c2] at H
  have c2b0 : decide (a0_0 ≤ a0_1) = true := decide_eq_true c2
  clear c2
  replace H := Option.bind_eq_some_iff.mp H
  obtain ⟨t215, A30, H⟩ := H
  replace H : (if t215 = true then ((afterwordref19_Time.f a0_1).bind fun t216 => (some t216)) else (some false)) = some r := H
  have A3 := Aa A30
  clear A30
  by_cases c4 : t215 = true
  ·subst c4
   have H1 : ((afterwordref19_Time.f a0_1).bind fun t216 => (some t216)) = some r := by rw [if_pos rfl] at H; exact H
   clear H
   have H := H1
   clear H1
   replace H := Option.bind_eq_some_iff.mp H
   obtain ⟨t216, A50, H⟩ := H
   replace H : (some t216) = some r := H
   have A5 := Aa A50
   clear A50
   obtain rfl := Option.some.inj H
   go_enter Try.func46, Try.ntmps46
   go_wp2_with (first | ((with_reducible refine gate_dst (N := 1) rfl ?_); refine box_event ?hg (N := 1) ?hd (cs := #[.int .i64 a0_0, .int .i64 a0_1]) (t := 27) ?hr ?_; (case hd => rfl); (case hg => rfl); (case hr => first | (go_simp; done) | (go_simp; rfl)); intro gb214 hg w6 hbox hb; have n0_ := Aa (below_step (by repeat (first | (with_reducible first | exact HB.out | apply below_alloc | apply Pn | apply Dn) | exact HB.out)) hb); have n1_ := Aa (hbox); have n2_ := Aa ((by rw [hg]; exact (below_size (by repeat (first | (with_reducible first | exact HB.out | apply below_alloc | apply Pn | apply Dn) | exact HB.out))) : w.heap.size ≤ gb214)); have n3_ := Aa ((by rw [hg]; exact (below_size (by repeat (first | (with_reducible first | exact HB.out | apply below_alloc | apply Pn | apply Dn) | exact HB.out))) : w.heap.size ≤ gb214)); clear HB; have HB := n0_; have BK214 := n1_; have GW214 := n2_; have GE214 := n3_; clear n0_ n1_ n2_ n3_; clear hb hbox hg; have hcz7_0 : w6.cell? ⟨gb214, 0, none⟩ = some (.int .i64 a0_0) := (blk_cell BK214.out 0).trans rfl; have hcz7_1 : w6.cell? ⟨gb214, 1, none⟩ = some (.int .i64 a0_1) := (blk_cell BK214.out 1).trans rfl; have hfz7_0 := blk_frozen BK214.out 0; have hfz7_1 := blk_frozen BK214.out 1) | (go_at_call 75; (with_reducible refine (afterwordref19_Time.calls a0_0 true _ A3.out).mono ?_); rintro e w' ⟨rfl, ⟨nd, rfl⟩⟩) | (go_at_call 75; (with_reducible refine (afterwordref19_Time.calls a0_1 t216 _ A5.out).mono ?_); rintro e w' ⟨rfl, ⟨nd, rfl⟩⟩))
   go_ret
   exact ⟨by first | rfl | (simp [errW_none, errW_some] <;> rfl) | (simp [*, errW_none, errW_some] <;> rfl), by repeat (first | (with_reducible first | exact HB.out | apply below_alloc | apply Pn | apply Dn | refine below_set ?_ GE214.out) | exact HB.out)⟩
  ·replace c4 := Bool.eq_false_iff.mpr c4
   subst c4
   have H1 : (some false) = some r := by rw [if_neg (show ¬ (false = true) by decide)] at H; exact H
   clear H
   have H := H1
   clear H1
   obtain rfl := Option.some.inj H
   go_enter Try.func46, Try.ntmps46
   go_wp2_with (first | ((with_reducible refine gate_dst (N := 1) rfl ?_); refine box_event ?hg (N := 1) ?hd (cs := #[.int .i64 a0_0, .int .i64 a0_1]) (t := 27) ?hr ?_; (case hd => rfl); (case hg => rfl); (case hr => first | (go_simp; done) | (go_simp; rfl)); intro gb214 hg w8 hbox hb; have n0_ := Aa (below_step (by repeat (first | (with_reducible first | exact HB.out | apply below_alloc | apply Pn | apply Dn) | exact HB.out)) hb); have n1_ := Aa (hbox); have n2_ := Aa ((by rw [hg]; exact (below_size (by repeat (first | (with_reducible first | exact HB.out | apply below_alloc | apply Pn | apply Dn) | exact HB.out))) : w.heap.size ≤ gb214)); have n3_ := Aa ((by rw [hg]; exact (below_size (by repeat (first | (with_reducible first | exact HB.out | apply below_alloc | apply Pn | apply Dn) | exact HB.out))) : w.heap.size ≤ gb214)); clear HB; have HB := n0_; have BK214 := n1_; have GW214 := n2_; have GE214 := n3_; clear n0_ n1_ n2_ n3_; clear hb hbox hg; have hcz9_0 : w8.cell? ⟨gb214, 0, none⟩ = some (.int .i64 a0_0) := (blk_cell BK214.out 0).trans rfl; have hcz9_1 : w8.cell? ⟨gb214, 1, none⟩ = some (.int .i64 a0_1) := (blk_cell BK214.out 1).trans rfl; have hfz9_0 := blk_frozen BK214.out 0; have hfz9_1 := blk_frozen BK214.out 1) | (go_at_call 75; (with_reducible refine (afterwordref19_Time.calls a0_0 false _ A3.out).mono ?_); rintro e w' ⟨rfl, ⟨nd, rfl⟩⟩))
   go_ret
   exact ⟨by first | rfl | (simp [errW_none, errW_some] <;> rfl) | (simp [*, errW_none, errW_some] <;> rfl), by repeat (first | (with_reducible first | exact HB.out | apply below_alloc | apply Pn | apply Dn | refine below_set ?_ GE214.out) | exact HB.out)⟩
 ·rw [if_neg c2] at H
  have c2b0 : decide (a0_0 ≤ a0_1) = false := decide_eq_false c2
  clear c2
  obtain rfl := Option.some.inj H
  go_enter Try.func46, Try.ntmps46
  go_wp2_with (first | ((with_reducible refine gate_dst (N := 1) rfl ?_); refine box_event ?hg (N := 1) ?hd (cs := #[.int .i64 a0_0, .int .i64 a0_1]) (t := 27) ?hr ?_; (case hd => rfl); (case hg => rfl); (case hr => first | (go_simp; done) | (go_simp; rfl)); intro gb214 hg w10 hbox hb; have n0_ := Aa (below_step (by repeat (first | (with_reducible first | exact HB.out | apply below_alloc | apply Pn | apply Dn) | exact HB.out)) hb); have n1_ := Aa (hbox); have n2_ := Aa ((by rw [hg]; exact (below_size (by repeat (first | (with_reducible first | exact HB.out | apply below_alloc | apply Pn | apply Dn) | exact HB.out))) : w.heap.size ≤ gb214)); have n3_ := Aa ((by rw [hg]; exact (below_size (by repeat (first | (with_reducible first | exact HB.out | apply below_alloc | apply Pn | apply Dn) | exact HB.out))) : w.heap.size ≤ gb214)); clear HB; have HB := n0_; have BK214 := n1_; have GW214 := n2_; have GE214 := n3_; clear n0_ n1_ n2_ n3_; clear hb hbox hg; have hcz11_0 : w10.cell? ⟨gb214, 0, none⟩ = some (.int .i64 a0_0) := (blk_cell BK214.out 0).trans rfl; have hcz11_1 : w10.cell? ⟨gb214, 1, none⟩ = some (.int .i64 a0_1) := (blk_cell BK214.out 1).trans rfl; have hfz11_0 := blk_frozen BK214.out 0; have hfz11_1 := blk_frozen BK214.out 1))
  go_ret
  exact ⟨by first | rfl | (simp [errW_none, errW_some] <;> rfl) | (simp [*, errW_none, errW_some] <;> rfl), by repeat (first | (with_reducible first | exact HB.out | apply below_alloc | apply Pn | apply Dn | refine below_set ?_ GE214.out) | exact HB.out)⟩
end
section
attribute [local go_sem] max2_int min2_int max_two min_two
def afterwordref19_Goods.l0 : Nat → List (S27) → Int → Option (Bool)
 | 0, _, _ => none
 | k + 1, x0, x5 => if x5 < (x0.length : Int) then (if 0 ≤ x5 then ((afterwordref19_Good.f ((rd_T27 x0 x5).f0) ((rd_T27 x0 x5).f1)).bind fun t218 => (if t218 = true then (afterwordref19_Goods.l0 k x0 (wrap64 (x5 + 1))) else (some false))) else (none)) else (some true)
def afterwordref19_Goods.f (k : Nat) (l0 : List (S27)) (a1 : Int) : Option (Bool) := if (l0.length : Int) > a1 then (some false) else (afterwordref19_Goods.l0 k l0 0)
set_option maxHeartbeats 8000000 in
set_option maxRecDepth 100000 in
theorem afterwordref19_Goods.calls (k : Nat) (A0 : Option Addr) (c0 : Nat) (l0 : List (S27)) (a1 : Int) (r : Bool) (w : World) (hr0 : Kd.C k27 w A0 l0.length l0) (hc0 : l0.length ≤ c0) (h : afterwordref19_Goods.f k l0 a1 = some r) :
  Calls Try.prog 45 #[.slice A0 l0.length c0, .int .i64 a1] w fun e w' => e = .returned (.bool r) ∧ Below w.heap.size w w' := by
 have hu27 := Try.underlying27
 have HR0 := Aa hr0
 have HC0 := Aa hc0
 clear hr0 hc0
 have HB := Aa (Below.refl w.heap.size w)
 have H : (if (l0.length : Int) > a1 then (some false) else (afterwordref19_Goods.l0 k l0 0)) = some r := h
 clear h
 by_cases c3 : (l0.length : Int) > a1
 ·rw [if_pos c3] at H
  have c3b0 : decide (a1 < (l0.length : Int)) = true := decide_eq_true c3
  clear c3
  obtain rfl := Option.some.inj H
  go_enter Try.func45, Try.ntmps45
  go_wp2
  go_ret
  exact ⟨by first | rfl | (simp [errW_none, errW_some] <;> rfl) | (simp [*, errW_none, errW_some] <;> rfl), by repeat (first | (with_reducible first | exact HB.out | apply below_alloc | apply Pn | apply Dn) | exact HB.out)⟩
 ·rw [if_neg c3] at H
  have c3b0 : decide (a1 < (l0.length : Int)) = false := decide_eq_false c3
  clear c3
  have H' := Aa H
  clear H
  go_enter Try.func45, Try.ntmps45
  go_wp2
  go_loopg [5] k (fun kq v5 w' => ∃ (x5_1 : Int), v5 = .int .i64 x5_1 ∧ Aside0 (afterwordref19_Goods.l0 kq l0 x5_1 = some r) ∧ Aside0 (kq ≤ k) ∧ Aside0 (Below w.heap.size w w'))
  case atStart => exact ⟨(0), (by first | rfl | (simp; done) | (simp [*]; done)), H', ⟨Nat.le_refl _⟩, ⟨by repeat (first | (with_reducible first | exact HB.out | apply below_alloc | apply Pn | apply Dn) | exact HB.out)⟩⟩
  case round =>
   clear H'
   try clear p2
   try clear c3
   try clear c3b0
   obtain ⟨x5_1, rfl, HA, HK1, HB⟩ := hrel
   cases gk with
   | zero => exact absurd HA.out (by simp [afterwordref19_Goods.l0])
   | succ k1 =>
    have H := HA.out
    clear HA
    simp only [afterwordref19_Goods.l0] at H
    by_cases c4 : x5_1 < (l0.length : Int)
    ·rw [if_pos c4] at H
     have c4b0 : decide (x5_1 < (l0.length : Int)) = true := decide_eq_true c4
     clear c4
     by_cases c5 : 0 ≤ x5_1
     ·rw [if_pos c5] at H
      have c5b0 : decide (0 ≤ x5_1) = true := decide_eq_true c5
      clear c5
      replace H := Option.bind_eq_some_iff.mp H
      obtain ⟨t218, A60, H⟩ := H
      replace H : (if t218 = true then (afterwordref19_Goods.l0 k1 l0 (wrap64 (x5_1 + 1))) else (some false)) = some r := H
      have A6 := Aa A60
      clear A60
      by_cases c7 : t218 = true
      ·subst c7
       have H1 : (afterwordref19_Goods.l0 k1 l0 (wrap64 (x5_1 + 1))) = some r := by rw [if_pos rfl] at H; exact H
       clear H
       have H := H1
       clear H1
       have H' := Aa H
       clear H
       have p217 : 0 ≤ (x5_1 : Int) := of_decide_eq_true (by first | (with_reducible assumption) | assumption)
       have q217 : x5_1 < (l0.length : Int) := of_decide_eq_true (by first | (with_reducible assumption) | assumption)
       obtain ⟨ad217, e217, hx217_0, hx217_1⟩ := at_T27 HR0.out x5_1 p217 q217
       cases e217
       replace hx217_0 := (HB.out.cell (World.block_lt_of_cell? w _ hx217_0)).trans hx217_0
       replace hx217_1 := (HB.out.cell (World.block_lt_of_cell? w _ hx217_1)).trans hx217_1
       replace p217 := eq_true p217
       replace q217 := eq_true q217
       go_wp2_with (first | ((with_reducible refine gate_callee (f := 46) rfl ?_); refine goesL_ (some 20) rfl rfl Try.func46 (by kernel_rfl) rfl #[.agg #[.int .i64 ((rd_T27 l0 x5_1).f0), .int .i64 ((rd_T27 l0 x5_1).f1)]] rfl (by (try simp only [List.map_toArray, List.map_cons, List.map_nil]); first | done | rfl | (simp only [List.length_drop, List.length_take]; rfl)) ?_; (with_reducible refine (afterwordref19_Good.calls ((rd_T27 l0 x5_1).f0) ((rd_T27 l0 x5_1).f1) true _ A6.out).mono ?_); rintro e w8 ⟨rfl, hb⟩; refine ⟨_, rfl, ?_⟩; have n0_ := Aa (below_step (by repeat (first | (with_reducible first | exact HB.out | apply below_alloc | apply Pn | apply Dn) | exact HB.out)) hb); clear HB; have HB := n0_; clear n0_; (try clear hb); (try clear hb2); (try clear hk); (try clear hi)))
       go_roundg k1
       case measure => have := HK1.out; omega
       case rel => exact ⟨(wrap64 (x5_1 + 1)), (by first | rfl | (simp; done) | (simp [*]; done)), H', ⟨by have := HK1.out; omega⟩, ⟨by repeat (first | (with_reducible first | exact HB.out | apply below_alloc | apply Pn | apply Dn) | exact HB.out)⟩⟩
      ·replace c7 := Bool.eq_false_iff.mpr c7
       subst c7
       have H1 : (some false) = some r := by rw [if_neg (show ¬ (false = true) by decide)] at H; exact H
       clear H
       have H := H1
       clear H1
       obtain rfl := Option.some.inj H
       have p217 : 0 ≤ (x5_1 : Int) := of_decide_eq_true (by first | (with_reducible assumption) | assumption)
       have q217 : x5_1 < (l0.length : Int) := of_decide_eq_true (by first | (with_reducible assumption) | assumption)
       obtain ⟨ad217, e217, hx217_0, hx217_1⟩ := at_T27 HR0.out x5_1 p217 q217
       cases e217
       replace hx217_0 := (HB.out.cell (World.block_lt_of_cell? w _ hx217_0)).trans hx217_0
       replace hx217_1 := (HB.out.cell (World.block_lt_of_cell? w _ hx217_1)).trans hx217_1
       replace p217 := eq_true p217
       replace q217 := eq_true q217
       go_wp2_with (first | ((with_reducible refine gate_callee (f := 46) rfl ?_); refine goesL_ (some 20) rfl rfl Try.func46 (by kernel_rfl) rfl #[.agg #[.int .i64 ((rd_T27 l0 x5_1).f0), .int .i64 ((rd_T27 l0 x5_1).f1)]] rfl (by (try simp only [List.map_toArray, List.map_cons, List.map_nil]); first | done | rfl | (simp only [List.length_drop, List.length_take]; rfl)) ?_; (with_reducible refine (afterwordref19_Good.calls ((rd_T27 l0 x5_1).f0) ((rd_T27 l0 x5_1).f1) false _ A6.out).mono ?_); rintro e w9 ⟨rfl, hb⟩; refine ⟨_, rfl, ?_⟩; have n0_ := Aa (below_step (by repeat (first | (with_reducible first | exact HB.out | apply below_alloc | apply Pn | apply Dn) | exact HB.out)) hb); clear HB; have HB := n0_; clear n0_; (try clear hb); (try clear hb2); (try clear hk); (try clear hi)))
       go_ret
       exact ⟨by first | rfl | (simp [errW_none, errW_some] <;> rfl) | (simp [*, errW_none, errW_some] <;> rfl), by repeat (first | (with_reducible first | exact HB.out | apply below_alloc | apply Pn | apply Dn) | exact HB.out)⟩
     ·rw [if_neg c5] at H
      exact absurd H (by simp)
    ·rw [if_neg c4] at H
     have c4b0 : decide (x5_1 < (l0.length : Int)) = false := decide_eq_false c4
     clear c4
     obtain rfl := Option.some.inj H
     go_wp2
     go_ret
     exact ⟨by first | rfl | (simp [errW_none, errW_some] <;> rfl) | (simp [*, errW_none, errW_some] <;> rfl), by repeat (first | (with_reducible first | exact HB.out | apply below_alloc | apply Pn | apply Dn) | exact HB.out)⟩
end
section
attribute [local go_sem] max2_int min2_int max_two min_two
end
section
attribute [local go_sem] max2_int min2_int max_two min_two
end
section
attribute [local go_sem] max2_int min2_int max_two min_two
end
section
attribute [local go_sem] max2_int min2_int max_two min_two
end
section
attribute [local go_sem] max2_int min2_int max_two min_two
end
section
attribute [local go_sem] max2_int min2_int max_two min_two
end
section
attribute [local go_sem] max2_int min2_int max_two min_two
end
section
attribute [local go_sem] max2_int min2_int max_two min_two
mutual
def afterwordref19_Hist.j0 : Nat → Bool → List (S27) → List (S86) → Option (Bool)
 | 0, _, _, _ => none
 | k + 1, x14, x220000, x220001 => if x14 = true then (some false) else (afterwordref19_Hist.l0 k 0 x220000 x220001)
def afterwordref19_Hist.l0 : Nat → Int → List (S27) → List (S86) → Option (Bool)
 | 0, _, _, _ => none
 | k + 1, x3, x220000, x220001 => if x3 < (x220001.length : Int) then (if 0 ≤ x3 then (if ((rd_T86 x220001 x3).f0) < 0 then (afterwordref19_Hist.j2 k x3 true x220000 x220001 ((rd_T86 x220001 x3).f0) ((rd_T86 x220001 x3).f1) ((rd_T86 x220001 x3).f2) ((rd_T86 x220001 x3).f3)) else (if ((rd_T86 x220001 x3).f0) ≥ (x220000.length : Int) then (afterwordref19_Hist.j2 k x3 true x220000 x220001 ((rd_T86 x220001 x3).f0) ((rd_T86 x220001 x3).f1) ((rd_T86 x220001 x3).f2) ((rd_T86 x220001 x3).f3)) else (if ((rd_T86 x220001 x3).f1) < 0 then (afterwordref19_Hist.j2 k x3 true x220000 x220001 ((rd_T86 x220001 x3).f0) ((rd_T86 x220001 x3).f1) ((rd_T86 x220001 x3).f2) ((rd_T86 x220001 x3).f3)) else (if ((rd_T86 x220001 x3).f1) ≥ (x220000.length : Int) then (afterwordref19_Hist.j2 k x3 true x220000 x220001 ((rd_T86 x220001 x3).f0) ((rd_T86 x220001 x3).f1) ((rd_T86 x220001 x3).f2) ((rd_T86 x220001 x3).f3)) else (afterwordref19_Hist.j2 k x3 (((rd_T86 x220001 x3).f0) == ((rd_T86 x220001 x3).f1)) x220000 x220001 ((rd_T86 x220001 x3).f0) ((rd_T86 x220001 x3).f1) ((rd_T86 x220001 x3).f2) ((rd_T86 x220001 x3).f3)))))) else (none)) else (some true)
def afterwordref19_Hist.j2 : Nat → Int → Bool → List (S27) → List (S86) → Int → Int → Int → Int → Option (Bool)
 | 0, _, _, _, _, _, _, _, _ => none
 | k + 1, x3, x57, x220000, x220001, x223000, x223001, x223002, x223003 => if x57 = true then (some false) else (if x223002 > x223003 then (some false) else (if x223002 < (-2000000) then (some false) else (if x223003 > 2000000 then (some false) else (afterwordref19_Hist.l0 k (wrap64 (x3 + 1)) x220000 x220001))))
end
def afterwordref19_Hist.f (k : Nat) (l0_0 : List (S27)) (l0_1 : List (S86)) : Option (Bool) := (afterwordref19_Goods.f k l0_0 10).bind fun t220 => (if t220 = true then (afterwordref19_Hist.j0 k (decide ((l0_1.length : Int) > 20)) l0_0 l0_1) else (afterwordref19_Hist.j0 k true l0_0 l0_1))
set_option maxHeartbeats 8000000 in
set_option maxRecDepth 100000 in
theorem afterwordref19_Hist.calls (k : Nat) (A0_0 : Option Addr) (c0_0 : Nat) (l0_0 : List (S27)) (A0_1 : Option Addr) (c0_1 : Nat) (l0_1 : List (S86)) (r : Bool) (w : World) (hr0_0 : Kd.C k27 w A0_0 l0_0.length l0_0) (hc0_0 : l0_0.length ≤ c0_0) (hr0_1 : Kd.C k86 w A0_1 l0_1.length l0_1) (hc0_1 : l0_1.length ≤ c0_1) (h : afterwordref19_Hist.f k l0_0 l0_1 = some r) :
  Calls Try.prog 53 #[.agg #[.slice A0_0 l0_0.length c0_0, .slice A0_1 l0_1.length c0_1]] w fun e w' => e = .returned (.bool r) ∧ Below w.heap.size w w' := by
 have hu39 := Try.underlying39
 have hu86 := Try.underlying86
 have HR0_0 := Aa hr0_0
 have HC0_0 := Aa hc0_0
 clear hr0_0 hc0_0
 have HR0_1 := Aa hr0_1
 have HC0_1 := Aa hc0_1
 clear hr0_1 hc0_1
 have HB := Aa (Below.refl w.heap.size w)
 have H : ((afterwordref19_Goods.f k l0_0 10).bind fun t220 => (if t220 = true then (afterwordref19_Hist.j0 k (decide ((l0_1.length : Int) > 20)) l0_0 l0_1) else (afterwordref19_Hist.j0 k true l0_0 l0_1))) = some r := h
 clear h
 have HC2 := Aa H
 clear H
 go_enter Try.func53, Try.ntmps53
 go_upto_region 1 with (first | ((with_reducible refine gate_dst (N := 1) rfl ?_); (try (refine gate_guard (by rfl) ?_; dsimp only)); refine box_event ?hg (N := 1) ?hd (cs := #[.slice A0_0 l0_0.length c0_0, .slice A0_1 l0_1.length c0_1]) (t := 39) ?hr ?_; (case hd => rfl); (case hg => rfl); (case hr => first | (go_simp; done) | (go_simp; rfl)); intro gb219 hg w3 hbox hb; have n0_ := Aa (below_step (by repeat (first | (with_reducible first | exact HB.out | apply below_alloc | apply Pn | apply Dn) | exact HB.out)) hb); have n1_ := Aa (hbox); have n2_ := Aa ((by rw [hg]; exact (below_size (by repeat (first | (with_reducible first | exact HB.out | apply below_alloc | apply Pn | apply Dn) | exact HB.out))) : w.heap.size ≤ gb219)); have n3_ := Aa ((by rw [hg]; exact (below_size (by repeat (first | (with_reducible first | exact HB.out | apply below_alloc | apply Pn | apply Dn) | exact HB.out))) : w.heap.size ≤ gb219)); clear HB; have HB := n0_; have BK219 := n1_; have GW219 := n2_; have GE219 := n3_; clear n0_ n1_ n2_ n3_; clear hb hbox hg))
 (try simp only [Act.put, Sa, Sb, Sc])
 go_cut [14] (fun v14 wc => ∃ (kq : Nat) (x14_1 : Bool), v14 = .bool x14_1 ∧ Aside0 (afterwordref19_Hist.j0 kq x14_1 l0_0 l0_1 = some r) ∧ Aside0 (kq ≤ k) ∧ Aside0 (wc.heap[gb219]? = some (.cells #[(.slice A0_0 l0_0.length c0_0), (.slice A0_1 l0_1.length c0_1)] 39 (0, 0))) ∧ Aside0 (Below w.heap.size w wc))
 case first =>
  have H := HC2.out
  clear HC2
  replace H := Option.bind_eq_some_iff.mp H
  obtain ⟨t220, A40, H⟩ := H
  replace H : (if t220 = true then (afterwordref19_Hist.j0 k (decide ((l0_1.length : Int) > 20)) l0_0 l0_1) else (afterwordref19_Hist.j0 k true l0_0 l0_1)) = some r := H
  have A4 := Aa A40
  clear A40
  by_cases c5 : t220 = true
  ·subst c5
   have H1 : (afterwordref19_Hist.j0 k (decide ((l0_1.length : Int) > 20)) l0_0 l0_1) = some r := by rw [if_pos rfl] at H; exact H
   clear H
   have H := H1
   clear H1
   have H' := Aa H
   clear H
   have hcz6_0 : w3.cell? ⟨gb219, 0, none⟩ = some (.slice A0_0 l0_0.length c0_0) := (blk_cell BK219.out 0).trans rfl
   have hcz6_1 : w3.cell? ⟨gb219, 1, none⟩ = some (.slice A0_1 l0_1.length c0_1) := (blk_cell BK219.out 1).trans rfl
   have hfz6_0 := blk_frozen BK219.out 0
   have hfz6_1 := blk_frozen BK219.out 1
   go_wp2_with (first | ((with_reducible refine gate_callee (f := 45) rfl ?_); refine goesL_ (some 7) rfl rfl Try.func45 (by kernel_rfl) rfl #[.slice A0_0 l0_0.length c0_0, .int .i64 10] rfl (by (try simp only [List.map_toArray, List.map_cons, List.map_nil]); first | done | rfl | (simp only [List.length_drop, List.length_take]; rfl)) ?_; (with_reducible refine (afterwordref19_Goods.calls k _ _ l0_0 10 true _ ?side1 ?side2 A4.out).mono ?_); (case side1 => repeat (first | exact (Kd.C_below HR0_0.out HB.out) | (with_reducible refine Kd.C_alloc ?_ _) | (with_reducible refine Kd.C_drewN ?_ _) | (with_reducible refine Kd.C_drew ?_))); (case side2 => exact HC0_0.out); rintro e w7 ⟨rfl, hb⟩; refine ⟨_, rfl, ?_⟩; have n0_ := Aa (blk_below (g := gb219) (o := .cells #[.slice A0_0 l0_0.length c0_0, .slice A0_1 l0_1.length c0_1] 39 (0, 0)) (by (with_reducible repeat (first | refine blk_drewN ?_ _ | refine blk_drew ?_ | refine blk_alloc ?_ _)); exact BK219.out) hb); have n1_ := Aa (below_step (by repeat (first | (with_reducible first | exact HB.out | apply below_alloc | apply Pn | apply Dn | refine below_set ?_ GE219.out) | exact HB.out)) hb); clear BK219; clear HB; have BK219 := n0_; have HB := n1_; clear n0_ n1_; (try clear hb); (try clear hb2); (try clear hk); (try clear hi); have hcz8_0 : w7.cell? ⟨gb219, 0, none⟩ = some (.slice A0_0 l0_0.length c0_0) := (blk_cell BK219.out 0).trans rfl; have hcz8_1 : w7.cell? ⟨gb219, 1, none⟩ = some (.slice A0_1 l0_1.length c0_1) := (blk_cell BK219.out 1).trans rfl; have hfz8_0 := blk_frozen BK219.out 0; have hfz8_1 := blk_frozen BK219.out 1))
   go_meet
   case rel => exact ⟨_, (decide ((l0_1.length : Int) > 20)), (by first | rfl | (simp; done) | (simp [*]; done)), H', ⟨by first | omega | exact Nat.le_refl _⟩, ⟨by (with_reducible repeat (first | refine blk_drewN ?_ _ | refine blk_drew ?_ | refine blk_alloc ?_ _)); exact BK219.out⟩, ⟨by repeat (first | (with_reducible first | exact HB.out | apply below_alloc | apply Pn | apply Dn | refine below_set ?_ GE219.out) | exact HB.out)⟩⟩
  ·replace c5 := Bool.eq_false_iff.mpr c5
   subst c5
   have H1 : (afterwordref19_Hist.j0 k true l0_0 l0_1) = some r := by rw [if_neg (show ¬ (false = true) by decide)] at H; exact H
   clear H
   have H := H1
   clear H1
   have H' := Aa H
   clear H
   have hcz9_0 : w3.cell? ⟨gb219, 0, none⟩ = some (.slice A0_0 l0_0.length c0_0) := (blk_cell BK219.out 0).trans rfl
   have hcz9_1 : w3.cell? ⟨gb219, 1, none⟩ = some (.slice A0_1 l0_1.length c0_1) := (blk_cell BK219.out 1).trans rfl
   have hfz9_0 := blk_frozen BK219.out 0
   have hfz9_1 := blk_frozen BK219.out 1
   go_wp2_with (first | ((with_reducible refine gate_callee (f := 45) rfl ?_); refine goesL_ (some 7) rfl rfl Try.func45 (by kernel_rfl) rfl #[.slice A0_0 l0_0.length c0_0, .int .i64 10] rfl (by (try simp only [List.map_toArray, List.map_cons, List.map_nil]); first | done | rfl | (simp only [List.length_drop, List.length_take]; rfl)) ?_; (with_reducible refine (afterwordref19_Goods.calls k _ _ l0_0 10 false _ ?side1 ?side2 A4.out).mono ?_); (case side1 => repeat (first | exact (Kd.C_below HR0_0.out HB.out) | (with_reducible refine Kd.C_alloc ?_ _) | (with_reducible refine Kd.C_drewN ?_ _) | (with_reducible refine Kd.C_drew ?_))); (case side2 => exact HC0_0.out); rintro e w10 ⟨rfl, hb⟩; refine ⟨_, rfl, ?_⟩; have n0_ := Aa (blk_below (g := gb219) (o := .cells #[.slice A0_0 l0_0.length c0_0, .slice A0_1 l0_1.length c0_1] 39 (0, 0)) (by (with_reducible repeat (first | refine blk_drewN ?_ _ | refine blk_drew ?_ | refine blk_alloc ?_ _)); exact BK219.out) hb); have n1_ := Aa (below_step (by repeat (first | (with_reducible first | exact HB.out | apply below_alloc | apply Pn | apply Dn | refine below_set ?_ GE219.out) | exact HB.out)) hb); clear BK219; clear HB; have BK219 := n0_; have HB := n1_; clear n0_ n1_; (try clear hb); (try clear hb2); (try clear hk); (try clear hi)))
   go_meet
   case rel => exact ⟨_, (true), (by first | rfl | (simp; done) | (simp [*]; done)), H', ⟨by first | omega | exact Nat.le_refl _⟩, ⟨by (with_reducible repeat (first | refine blk_drewN ?_ _ | refine blk_drew ?_ | refine blk_alloc ?_ _)); exact BK219.out⟩, ⟨by repeat (first | (with_reducible first | exact HB.out | apply below_alloc | apply Pn | apply Dn | refine below_set ?_ GE219.out) | exact HB.out)⟩⟩
 case rest =>
  clear HC2
  try clear p2
  try clear c4
  try clear c5
  try clear hcz6_0
  try clear hcz6_1
  try clear hcz8_0
  try clear hcz8_1
  try clear hcz9_0
  try clear hcz9_1
  try clear hfz6_0
  try clear hfz6_1
  try clear hfz8_0
  try clear hfz8_1
  try clear hfz9_0
  try clear hfz9_1
  obtain ⟨kq, x14_1, rfl, HA, HJ1, BK219, HB⟩ := hcut
  cases kq with
  | zero => exact absurd HA.out (by simp [afterwordref19_Hist.j0])
  | succ kj1 =>
   have H := HA.out
   clear HA
   simp only [afterwordref19_Hist.j0] at H
   by_cases c11 : x14_1 = true
   ·subst c11
    have H1 : (some false) = some r := by rw [if_pos rfl] at H; exact H
    clear H
    have H := H1
    clear H1
    obtain rfl := Option.some.inj H
    go_wp2
    go_ret
    exact ⟨by first | rfl | (simp [errW_none, errW_some] <;> rfl) | (simp [*, errW_none, errW_some] <;> rfl), by repeat (first | (with_reducible first | exact HB.out | apply below_alloc | apply Pn | apply Dn | refine below_set ?_ GE219.out) | exact HB.out)⟩
   ·replace c11 := Bool.eq_false_iff.mpr c11
    subst c11
    have H1 : (afterwordref19_Hist.l0 kj1 0 l0_0 l0_1) = some r := by rw [if_neg (show ¬ (false = true) by decide)] at H; exact H
    clear H
    have H := H1
    clear H1
    have H' := Aa H
    clear H
    go_wp2
    go_loopg [3] kj1 (fun kq v3 w' => ∃ (x3_2 : Int), v3 = .int .i64 x3_2 ∧ Aside0 (afterwordref19_Hist.l0 kq x3_2 l0_0 l0_1 = some r) ∧ Aside0 (kq ≤ kj1) ∧ Aside0 (w'.heap[gb219]? = some (.cells #[(.slice A0_0 l0_0.length c0_0), (.slice A0_1 l0_1.length c0_1)] 39 (0, 0))) ∧ Aside0 (Below w.heap.size w w'))
    case atStart => exact ⟨(0), (by first | rfl | (simp; done) | (simp [*]; done)), H', ⟨Nat.le_refl _⟩, ⟨by (with_reducible repeat (first | refine blk_drewN ?_ _ | refine blk_drew ?_ | refine blk_alloc ?_ _)); exact BK219.out⟩, ⟨by repeat (first | (with_reducible first | exact HB.out | apply below_alloc | apply Pn | apply Dn | refine below_set ?_ GE219.out) | exact HB.out)⟩⟩
    case round =>
     clear H'
     try clear c1
     try clear p2
     try clear c4
     try clear c5
     try clear c11
     try clear hcz6_0
     try clear hcz6_1
     try clear hcz8_0
     try clear hcz8_1
     try clear hcz9_0
     try clear hcz9_1
     try clear hfz6_0
     try clear hfz6_1
     try clear hfz8_0
     try clear hfz8_1
     try clear hfz9_0
     try clear hfz9_1
     try clear p2
     obtain ⟨x3_2, rfl, HA, HK2, BK219, HB⟩ := hrel
     cases gk with
     | zero => exact absurd HA.out (by simp [afterwordref19_Hist.l0])
     | succ k2 =>
      have H := HA.out
      clear HA
      simp only [afterwordref19_Hist.l0] at H
      by_cases c12 : x3_2 < (l0_1.length : Int)
      ·rw [if_pos c12] at H
       have c12b0 : decide (x3_2 < (l0_1.length : Int)) = true := decide_eq_true c12
       clear c12
       by_cases c13 : 0 ≤ x3_2
       ·rw [if_pos c13] at H
        have c13b0 : decide (0 ≤ x3_2) = true := decide_eq_true c13
        clear c13
        have HC14 := Aa H
        clear H
        have hcz15_0 : wr.cell? ⟨gb219, 0, none⟩ = some (.slice A0_0 l0_0.length c0_0) := (blk_cell BK219.out 0).trans rfl
        have hcz15_1 : wr.cell? ⟨gb219, 1, none⟩ = some (.slice A0_1 l0_1.length c0_1) := (blk_cell BK219.out 1).trans rfl
        have hfz15_0 := blk_frozen BK219.out 0
        have hfz15_1 := blk_frozen BK219.out 1
        have p221 : 0 ≤ (x3_2 : Int) := of_decide_eq_true (by first | (with_reducible assumption) | assumption)
        have q221 : x3_2 < (l0_1.length : Int) := of_decide_eq_true (by first | (with_reducible assumption) | assumption)
        obtain ⟨ad221, e221, hx221_0, hx221_1, hx221_2, hx221_3⟩ := at_T86 HR0_1.out x3_2 p221 q221
        cases e221
        replace hx221_0 := (HB.out.cell (World.block_lt_of_cell? w _ hx221_0)).trans hx221_0
        replace hx221_1 := (HB.out.cell (World.block_lt_of_cell? w _ hx221_1)).trans hx221_1
        replace hx221_2 := (HB.out.cell (World.block_lt_of_cell? w _ hx221_2)).trans hx221_2
        replace hx221_3 := (HB.out.cell (World.block_lt_of_cell? w _ hx221_3)).trans hx221_3
        replace p221 := eq_true p221
        replace q221 := eq_true q221
        go_upto_region 7 with (first | ((with_reducible refine gate_dst (N := 4) rfl ?_); (try (refine gate_guard (by rfl) ?_; dsimp only)); refine box_event ?hg (N := 4) ?hd (cs := #[.int .i64 0, .int .i64 0, .int .i64 0, .int .i64 0]) (t := 86) ?hr ?_; (case hd => rfl); (case hg => rfl); (case hr => first | (go_simp; done) | (go_simp; rfl)); intro gb222 hg w16 hbox hb; have n0_ := Aa (blk_below (g := gb219) (o := .cells #[.slice A0_0 l0_0.length c0_0, .slice (some ad221) l0_1.length c0_1] 39 (0, 0)) (by (with_reducible repeat (first | refine blk_drewN ?_ _ | refine blk_drew ?_ | refine blk_alloc ?_ _)); exact BK219.out) hb); have n1_ := Aa (below_step (by repeat (first | (with_reducible first | exact HB.out | apply below_alloc | apply Pn | apply Dn | refine below_set ?_ GE219.out) | exact HB.out)) hb); have n2_ := Aa (hbox); have n3_ := Aa ((by rw [hg]; exact (below_size (by repeat (first | (with_reducible first | exact HB.out | apply below_alloc | apply Pn | apply Dn | refine below_set ?_ GE219.out) | exact HB.out))) : w.heap.size ≤ gb222)); have n4_ := Aa ((by rw [hg]; exact (below_size (by repeat (first | (with_reducible first | exact HB.out | apply below_alloc | apply Pn | apply Dn | refine below_set ?_ GE219.out) | exact HB.out))) : w.heap.size ≤ gb222)); have n5_ := Aa ((by rw [hg]; exact Nat.ne_of_lt (blk_lt (g := gb219) (o := .cells #[.slice A0_0 l0_0.length c0_0, .slice (some ad221) l0_1.length c0_1] 39 (0, 0)) (by (with_reducible repeat (first | refine blk_drewN ?_ _ | refine blk_drew ?_ | refine blk_alloc ?_ _)); exact BK219.out)) : gb219 ≠ gb222)); have n6_ := Aa ((by rw [hg]; exact Nat.ne_of_gt (blk_lt (g := gb219) (o := .cells #[.slice A0_0 l0_0.length c0_0, .slice (some ad221) l0_1.length c0_1] 39 (0, 0)) (by (with_reducible repeat (first | refine blk_drewN ?_ _ | refine blk_drew ?_ | refine blk_alloc ?_ _)); exact BK219.out)) : gb222 ≠ gb219)); clear BK219; clear HB; have BK219 := n0_; have HB := n1_; have BK222 := n2_; have GW222 := n3_; have GE222 := n4_; have NB219_222 := n5_; have NB222_219 := n6_; clear n0_ n1_ n2_ n3_ n4_ n5_ n6_; clear hb hbox hg; have hnb17 := NB222_219.out; have hnc17 := NB219_222.out; have hcz18_0 : w16.cell? ⟨gb222, 0, none⟩ = some (.int .i64 0) := (blk_cell BK222.out 0).trans rfl; have hcz18_1 : w16.cell? ⟨gb222, 1, none⟩ = some (.int .i64 0) := (blk_cell BK222.out 1).trans rfl; have hcz18_2 : w16.cell? ⟨gb222, 2, none⟩ = some (.int .i64 0) := (blk_cell BK222.out 2).trans rfl; have hcz18_3 : w16.cell? ⟨gb222, 3, none⟩ = some (.int .i64 0) := (blk_cell BK222.out 3).trans rfl; have hfz18_0 := blk_frozen BK222.out 0; have hfz18_1 := blk_frozen BK222.out 1; have hfz18_2 := blk_frozen BK222.out 2; have hfz18_3 := blk_frozen BK222.out 3))
        (try simp only [Act.put, Sa, Sb, Sc])
        go_cut [57] (fun v57 wc => ∃ (kq : Nat) (x57_13 : Bool), v57 = .bool x57_13 ∧ Aside0 (afterwordref19_Hist.j2 kq x3_2 x57_13 l0_0 l0_1 ((rd_T86 l0_1 x3_2).f0) ((rd_T86 l0_1 x3_2).f1) ((rd_T86 l0_1 x3_2).f2) ((rd_T86 l0_1 x3_2).f3) = some r) ∧ Aside0 (kq ≤ k2) ∧ Aside0 (wc.heap[gb219]? = some (.cells #[(.slice A0_0 l0_0.length c0_0), (.slice (some ad221) l0_1.length c0_1)] 39 (0, 0))) ∧ Aside0 (wc.heap[gb222]? = some (.cells #[.int .i64 ((rd_T86 l0_1 x3_2).f0), .int .i64 ((rd_T86 l0_1 x3_2).f1), .int .i64 ((rd_T86 l0_1 x3_2).f2), .int .i64 ((rd_T86 l0_1 x3_2).f3)] 86 (0, 0))) ∧ Aside0 (Below w.heap.size w wc))
        case first =>
         have H := HC14.out
         clear HC14
         by_cases c19 : ((rd_T86 l0_1 x3_2).f0) < 0
         ·rw [if_pos c19] at H
          have c19b0 : decide (((rd_T86 l0_1 x3_2).f0) < 0) = true := decide_eq_true c19
          clear c19
          (first | rw [c19b0] | (simp only [i64_w, i32_w]; rw [c19b0]) | skip)
          have H' := Aa H
          clear H
          have hnb20 := NB222_219.out
          have hnc20 := NB219_222.out
          have hcz21_0 : w16.cell? ⟨gb222, 0, none⟩ = some (.int .i64 0) := (blk_cell BK222.out 0).trans rfl
          have hcz21_1 : w16.cell? ⟨gb222, 1, none⟩ = some (.int .i64 0) := (blk_cell BK222.out 1).trans rfl
          have hcz21_2 : w16.cell? ⟨gb222, 2, none⟩ = some (.int .i64 0) := (blk_cell BK222.out 2).trans rfl
          have hcz21_3 : w16.cell? ⟨gb222, 3, none⟩ = some (.int .i64 0) := (blk_cell BK222.out 3).trans rfl
          have hfz21_0 := blk_frozen BK222.out 0
          have hfz21_1 := blk_frozen BK222.out 1
          have hfz21_2 := blk_frozen BK222.out 2
          have hfz21_3 := blk_frozen BK222.out 3
          go_wp2
          go_meet
          case rel => exact ⟨_, (true), (by first | rfl | (simp; done) | (simp [*]; done)), H', ⟨by have := HJ1.out; have := HK2.out; first | omega | exact Nat.le_refl _⟩, ⟨by (with_reducible repeat (first | refine blk_drewN ?_ _ | refine blk_drew ?_ | refine blk_alloc ?_ _)); refine blk_far ?_ NB219_222.out _; (with_reducible repeat (first | refine blk_drewN ?_ _ | refine blk_drew ?_ | refine blk_alloc ?_ _)); refine blk_far ?_ NB219_222.out _; (with_reducible repeat (first | refine blk_drewN ?_ _ | refine blk_drew ?_ | refine blk_alloc ?_ _)); refine blk_far ?_ NB219_222.out _; (with_reducible repeat (first | refine blk_drewN ?_ _ | refine blk_drew ?_ | refine blk_alloc ?_ _)); refine blk_far ?_ NB219_222.out _; (with_reducible repeat (first | refine blk_drewN ?_ _ | refine blk_drew ?_ | refine blk_alloc ?_ _)); exact BK219.out⟩, ⟨by (with_reducible repeat (first | refine blk_drewN ?_ _ | refine blk_drew ?_ | refine blk_alloc ?_ _)); refine blk_put (cs := #[.int .i64 ((rd_T86 l0_1 x3_2).f0), .int .i64 ((rd_T86 l0_1 x3_2).f1), .int .i64 ((rd_T86 l0_1 x3_2).f2), .int .i64 0]) ?_ 3 _ rfl; (with_reducible repeat (first | refine blk_drewN ?_ _ | refine blk_drew ?_ | refine blk_alloc ?_ _)); refine blk_put (cs := #[.int .i64 ((rd_T86 l0_1 x3_2).f0), .int .i64 ((rd_T86 l0_1 x3_2).f1), .int .i64 0, .int .i64 0]) ?_ 2 _ rfl; (with_reducible repeat (first | refine blk_drewN ?_ _ | refine blk_drew ?_ | refine blk_alloc ?_ _)); refine blk_put (cs := #[.int .i64 ((rd_T86 l0_1 x3_2).f0), .int .i64 0, .int .i64 0, .int .i64 0]) ?_ 1 _ rfl; (with_reducible repeat (first | refine blk_drewN ?_ _ | refine blk_drew ?_ | refine blk_alloc ?_ _)); refine blk_put (cs := #[.int .i64 0, .int .i64 0, .int .i64 0, .int .i64 0]) ?_ 0 _ rfl; (with_reducible repeat (first | refine blk_drewN ?_ _ | refine blk_drew ?_ | refine blk_alloc ?_ _)); exact BK222.out⟩, ⟨by repeat (first | (with_reducible first | exact HB.out | apply below_alloc | apply Pn | apply Dn | refine below_set ?_ GE219.out | refine below_set ?_ GE222.out) | exact HB.out)⟩⟩
         ·rw [if_neg c19] at H
          have c19b0 : decide (((rd_T86 l0_1 x3_2).f0) < 0) = false := decide_eq_false c19
          clear c19
          (first | rw [c19b0] | (simp only [i64_w, i32_w]; rw [c19b0]) | skip)
          by_cases c22 : ((rd_T86 l0_1 x3_2).f0) ≥ (l0_0.length : Int)
          ·rw [if_pos c22] at H
           have c22b0 : decide ((l0_0.length : Int) ≤ ((rd_T86 l0_1 x3_2).f0)) = true := decide_eq_true c22
           clear c22
           have H' := Aa H
           clear H
           have hnb23 := NB222_219.out
           have hnc23 := NB219_222.out
           have hcz24_0 : w16.cell? ⟨gb222, 0, none⟩ = some (.int .i64 0) := (blk_cell BK222.out 0).trans rfl
           have hcz24_1 : w16.cell? ⟨gb222, 1, none⟩ = some (.int .i64 0) := (blk_cell BK222.out 1).trans rfl
           have hcz24_2 : w16.cell? ⟨gb222, 2, none⟩ = some (.int .i64 0) := (blk_cell BK222.out 2).trans rfl
           have hcz24_3 : w16.cell? ⟨gb222, 3, none⟩ = some (.int .i64 0) := (blk_cell BK222.out 3).trans rfl
           have hfz24_0 := blk_frozen BK222.out 0
           have hfz24_1 := blk_frozen BK222.out 1
           have hfz24_2 := blk_frozen BK222.out 2
           have hfz24_3 := blk_frozen BK222.out 3
           have hcz25_0 : w16.cell? ⟨gb219, 0, none⟩ = some (.slice A0_0 l0_0.length c0_0) := (blk_cell BK219.out 0).trans rfl
           have hcz25_1 : w16.cell? ⟨gb219, 1, none⟩ = some (.slice (some ad221) l0_1.length c0_1) := (blk_cell BK219.out 1).trans rfl
           have hfz25_0 := blk_frozen BK219.out 0
           have hfz25_1 := blk_frozen BK219.out 1
           go_wp2
           go_meet
           case rel => exact ⟨_, (true), (by first | rfl | (simp; done) | (simp [*]; done)), H', ⟨by have := HJ1.out; have := HK2.out; first | omega | exact Nat.le_refl _⟩, ⟨by (with_reducible repeat (first | refine blk_drewN ?_ _ | refine blk_drew ?_ | refine blk_alloc ?_ _)); refine blk_far ?_ NB219_222.out _; (with_reducible repeat (first | refine blk_drewN ?_ _ | refine blk_drew ?_ | refine blk_alloc ?_ _)); refine blk_far ?_ NB219_222.out _; (with_reducible repeat (first | refine blk_drewN ?_ _ | refine blk_drew ?_ | refine blk_alloc ?_ _)); refine blk_far ?_ NB219_222.out _; (with_reducible repeat (first | refine blk_drewN ?_ _ | refine blk_drew ?_ | refine blk_alloc ?_ _)); refine blk_far ?_ NB219_222.out _; (with_reducible repeat (first | refine blk_drewN ?_ _ | refine blk_drew ?_ | refine blk_alloc ?_ _)); exact BK219.out⟩, ⟨by (with_reducible repeat (first | refine blk_drewN ?_ _ | refine blk_drew ?_ | refine blk_alloc ?_ _)); refine blk_put (cs := #[.int .i64 ((rd_T86 l0_1 x3_2).f0), .int .i64 ((rd_T86 l0_1 x3_2).f1), .int .i64 ((rd_T86 l0_1 x3_2).f2), .int .i64 0]) ?_ 3 _ rfl; (with_reducible repeat (first | refine blk_drewN ?_ _ | refine blk_drew ?_ | refine blk_alloc ?_ _)); refine blk_put (cs := #[.int .i64 ((rd_T86 l0_1 x3_2).f0), .int .i64 ((rd_T86 l0_1 x3_2).f1), .int .i64 0, .int .i64 0]) ?_ 2 _ rfl; (with_reducible repeat (first | refine blk_drewN ?_ _ | refine blk_drew ?_ | refine blk_alloc ?_ _)); refine blk_put (cs := #[.int .i64 ((rd_T86 l0_1 x3_2).f0), .int .i64 0, .int .i64 0, .int .i64 0]) ?_ 1 _ rfl; (with_reducible repeat (first | refine blk_drewN ?_ _ | refine blk_drew ?_ | refine blk_alloc ?_ _)); refine blk_put (cs := #[.int .i64 0, .int .i64 0, .int .i64 0, .int .i64 0]) ?_ 0 _ rfl; (with_reducible repeat (first | refine blk_drewN ?_ _ | refine blk_drew ?_ | refine blk_alloc ?_ _)); exact BK222.out⟩, ⟨by repeat (first | (with_reducible first | exact HB.out | apply below_alloc | apply Pn | apply Dn | refine below_set ?_ GE219.out | refine below_set ?_ GE222.out) | exact HB.out)⟩⟩
          ·rw [if_neg c22] at H
           have c22b0 : decide ((l0_0.length : Int) ≤ ((rd_T86 l0_1 x3_2).f0)) = false := decide_eq_false c22
           clear c22
           by_cases c26 : ((rd_T86 l0_1 x3_2).f1) < 0
           ·rw [if_pos c26] at H
            have c26b0 : decide (((rd_T86 l0_1 x3_2).f1) < 0) = true := decide_eq_true c26
            clear c26
            have H' := Aa H
            clear H
            have hnb27 := NB222_219.out
            have hnc27 := NB219_222.out
            have hcz28_0 : w16.cell? ⟨gb222, 0, none⟩ = some (.int .i64 0) := (blk_cell BK222.out 0).trans rfl
            have hcz28_1 : w16.cell? ⟨gb222, 1, none⟩ = some (.int .i64 0) := (blk_cell BK222.out 1).trans rfl
            have hcz28_2 : w16.cell? ⟨gb222, 2, none⟩ = some (.int .i64 0) := (blk_cell BK222.out 2).trans rfl
            have hcz28_3 : w16.cell? ⟨gb222, 3, none⟩ = some (.int .i64 0) := (blk_cell BK222.out 3).trans rfl
            have hfz28_0 := blk_frozen BK222.out 0
            have hfz28_1 := blk_frozen BK222.out 1
            have hfz28_2 := blk_frozen BK222.out 2
            have hfz28_3 := blk_frozen BK222.out 3
            have hcz29_0 : w16.cell? ⟨gb219, 0, none⟩ = some (.slice A0_0 l0_0.length c0_0) := (blk_cell BK219.out 0).trans rfl
            have hcz29_1 : w16.cell? ⟨gb219, 1, none⟩ = some (.slice (some ad221) l0_1.length c0_1) := (blk_cell BK219.out 1).trans rfl
            have hfz29_0 := blk_frozen BK219.out 0
            have hfz29_1 := blk_frozen BK219.out 1
            go_wp2
            go_meet
            case rel => exact ⟨_, (true), (by first | rfl | (simp; done) | (simp [*]; done)), H', ⟨by have := HJ1.out; have := HK2.out; first | omega | exact Nat.le_refl _⟩, ⟨by (with_reducible repeat (first | refine blk_drewN ?_ _ | refine blk_drew ?_ | refine blk_alloc ?_ _)); refine blk_far ?_ NB219_222.out _; (with_reducible repeat (first | refine blk_drewN ?_ _ | refine blk_drew ?_ | refine blk_alloc ?_ _)); refine blk_far ?_ NB219_222.out _; (with_reducible repeat (first | refine blk_drewN ?_ _ | refine blk_drew ?_ | refine blk_alloc ?_ _)); refine blk_far ?_ NB219_222.out _; (with_reducible repeat (first | refine blk_drewN ?_ _ | refine blk_drew ?_ | refine blk_alloc ?_ _)); refine blk_far ?_ NB219_222.out _; (with_reducible repeat (first | refine blk_drewN ?_ _ | refine blk_drew ?_ | refine blk_alloc ?_ _)); exact BK219.out⟩, ⟨by (with_reducible repeat (first | refine blk_drewN ?_ _ | refine blk_drew ?_ | refine blk_alloc ?_ _)); refine blk_put (cs := #[.int .i64 ((rd_T86 l0_1 x3_2).f0), .int .i64 ((rd_T86 l0_1 x3_2).f1), .int .i64 ((rd_T86 l0_1 x3_2).f2), .int .i64 0]) ?_ 3 _ rfl; (with_reducible repeat (first | refine blk_drewN ?_ _ | refine blk_drew ?_ | refine blk_alloc ?_ _)); refine blk_put (cs := #[.int .i64 ((rd_T86 l0_1 x3_2).f0), .int .i64 ((rd_T86 l0_1 x3_2).f1), .int .i64 0, .int .i64 0]) ?_ 2 _ rfl; (with_reducible repeat (first | refine blk_drewN ?_ _ | refine blk_drew ?_ | refine blk_alloc ?_ _)); refine blk_put (cs := #[.int .i64 ((rd_T86 l0_1 x3_2).f0), .int .i64 0, .int .i64 0, .int .i64 0]) ?_ 1 _ rfl; (with_reducible repeat (first | refine blk_drewN ?_ _ | refine blk_drew ?_ | refine blk_alloc ?_ _)); refine blk_put (cs := #[.int .i64 0, .int .i64 0, .int .i64 0, .int .i64 0]) ?_ 0 _ rfl; (with_reducible repeat (first | refine blk_drewN ?_ _ | refine blk_drew ?_ | refine blk_alloc ?_ _)); exact BK222.out⟩, ⟨by repeat (first | (with_reducible first | exact HB.out | apply below_alloc | apply Pn | apply Dn | refine below_set ?_ GE219.out | refine below_set ?_ GE222.out) | exact HB.out)⟩⟩
           ·rw [if_neg c26] at H
            have c26b0 : decide (((rd_T86 l0_1 x3_2).f1) < 0) = false := decide_eq_false c26
            clear c26
            by_cases c30 : ((rd_T86 l0_1 x3_2).f1) ≥ (l0_0.length : Int)
            ·rw [if_pos c30] at H
             have c30b0 : decide ((l0_0.length : Int) ≤ ((rd_T86 l0_1 x3_2).f1)) = true := decide_eq_true c30
             clear c30
             have H' := Aa H
             clear H
             have hnb31 := NB222_219.out
             have hnc31 := NB219_222.out
             have hcz32_0 : w16.cell? ⟨gb222, 0, none⟩ = some (.int .i64 0) := (blk_cell BK222.out 0).trans rfl
             have hcz32_1 : w16.cell? ⟨gb222, 1, none⟩ = some (.int .i64 0) := (blk_cell BK222.out 1).trans rfl
             have hcz32_2 : w16.cell? ⟨gb222, 2, none⟩ = some (.int .i64 0) := (blk_cell BK222.out 2).trans rfl
             have hcz32_3 : w16.cell? ⟨gb222, 3, none⟩ = some (.int .i64 0) := (blk_cell BK222.out 3).trans rfl
             have hfz32_0 := blk_frozen BK222.out 0
             have hfz32_1 := blk_frozen BK222.out 1
             have hfz32_2 := blk_frozen BK222.out 2
             have hfz32_3 := blk_frozen BK222.out 3
             have hcz33_0 : w16.cell? ⟨gb219, 0, none⟩ = some (.slice A0_0 l0_0.length c0_0) := (blk_cell BK219.out 0).trans rfl
             have hcz33_1 : w16.cell? ⟨gb219, 1, none⟩ = some (.slice (some ad221) l0_1.length c0_1) := (blk_cell BK219.out 1).trans rfl
             have hfz33_0 := blk_frozen BK219.out 0
             have hfz33_1 := blk_frozen BK219.out 1
             go_wp2
             go_meet
             case rel => exact ⟨_, (true), (by first | rfl | (simp; done) | (simp [*]; done)), H', ⟨by have := HJ1.out; have := HK2.out; first | omega | exact Nat.le_refl _⟩, ⟨by (with_reducible repeat (first | refine blk_drewN ?_ _ | refine blk_drew ?_ | refine blk_alloc ?_ _)); refine blk_far ?_ NB219_222.out _; (with_reducible repeat (first | refine blk_drewN ?_ _ | refine blk_drew ?_ | refine blk_alloc ?_ _)); refine blk_far ?_ NB219_222.out _; (with_reducible repeat (first | refine blk_drewN ?_ _ | refine blk_drew ?_ | refine blk_alloc ?_ _)); refine blk_far ?_ NB219_222.out _; (with_reducible repeat (first | refine blk_drewN ?_ _ | refine blk_drew ?_ | refine blk_alloc ?_ _)); refine blk_far ?_ NB219_222.out _; (with_reducible repeat (first | refine blk_drewN ?_ _ | refine blk_drew ?_ | refine blk_alloc ?_ _)); exact BK219.out⟩, ⟨by (with_reducible repeat (first | refine blk_drewN ?_ _ | refine blk_drew ?_ | refine blk_alloc ?_ _)); refine blk_put (cs := #[.int .i64 ((rd_T86 l0_1 x3_2).f0), .int .i64 ((rd_T86 l0_1 x3_2).f1), .int .i64 ((rd_T86 l0_1 x3_2).f2), .int .i64 0]) ?_ 3 _ rfl; (with_reducible repeat (first | refine blk_drewN ?_ _ | refine blk_drew ?_ | refine blk_alloc ?_ _)); refine blk_put (cs := #[.int .i64 ((rd_T86 l0_1 x3_2).f0), .int .i64 ((rd_T86 l0_1 x3_2).f1), .int .i64 0, .int .i64 0]) ?_ 2 _ rfl; (with_reducible repeat (first | refine blk_drewN ?_ _ | refine blk_drew ?_ | refine blk_alloc ?_ _)); refine blk_put (cs := #[.int .i64 ((rd_T86 l0_1 x3_2).f0), .int .i64 0, .int .i64 0, .int .i64 0]) ?_ 1 _ rfl; (with_reducible repeat (first | refine blk_drewN ?_ _ | refine blk_drew ?_ | refine blk_alloc ?_ _)); refine blk_put (cs := #[.int .i64 0, .int .i64 0, .int .i64 0, .int .i64 0]) ?_ 0 _ rfl; (with_reducible repeat (first | refine blk_drewN ?_ _ | refine blk_drew ?_ | refine blk_alloc ?_ _)); exact BK222.out⟩, ⟨by repeat (first | (with_reducible first | exact HB.out | apply below_alloc | apply Pn | apply Dn | refine below_set ?_ GE219.out | refine below_set ?_ GE222.out) | exact HB.out)⟩⟩
            ·rw [if_neg c30] at H
             have c30b0 : decide ((l0_0.length : Int) ≤ ((rd_T86 l0_1 x3_2).f1)) = false := decide_eq_false c30
             clear c30
             have H' := Aa H
             clear H
             have hnb34 := NB222_219.out
             have hnc34 := NB219_222.out
             have hcz35_0 : w16.cell? ⟨gb222, 0, none⟩ = some (.int .i64 0) := (blk_cell BK222.out 0).trans rfl
             have hcz35_1 : w16.cell? ⟨gb222, 1, none⟩ = some (.int .i64 0) := (blk_cell BK222.out 1).trans rfl
             have hcz35_2 : w16.cell? ⟨gb222, 2, none⟩ = some (.int .i64 0) := (blk_cell BK222.out 2).trans rfl
             have hcz35_3 : w16.cell? ⟨gb222, 3, none⟩ = some (.int .i64 0) := (blk_cell BK222.out 3).trans rfl
             have hfz35_0 := blk_frozen BK222.out 0
             have hfz35_1 := blk_frozen BK222.out 1
             have hfz35_2 := blk_frozen BK222.out 2
             have hfz35_3 := blk_frozen BK222.out 3
             have hcz36_0 : w16.cell? ⟨gb219, 0, none⟩ = some (.slice A0_0 l0_0.length c0_0) := (blk_cell BK219.out 0).trans rfl
             have hcz36_1 : w16.cell? ⟨gb219, 1, none⟩ = some (.slice (some ad221) l0_1.length c0_1) := (blk_cell BK219.out 1).trans rfl
             have hfz36_0 := blk_frozen BK219.out 0
             have hfz36_1 := blk_frozen BK219.out 1
             go_wp2
             go_meet
             case rel => exact ⟨_, ((((rd_T86 l0_1 x3_2).f0) == ((rd_T86 l0_1 x3_2).f1))), (by first | rfl | (simp; done) | (simp [*]; done)), H', ⟨by have := HJ1.out; have := HK2.out; first | omega | exact Nat.le_refl _⟩, ⟨by (with_reducible repeat (first | refine blk_drewN ?_ _ | refine blk_drew ?_ | refine blk_alloc ?_ _)); refine blk_far ?_ NB219_222.out _; (with_reducible repeat (first | refine blk_drewN ?_ _ | refine blk_drew ?_ | refine blk_alloc ?_ _)); refine blk_far ?_ NB219_222.out _; (with_reducible repeat (first | refine blk_drewN ?_ _ | refine blk_drew ?_ | refine blk_alloc ?_ _)); refine blk_far ?_ NB219_222.out _; (with_reducible repeat (first | refine blk_drewN ?_ _ | refine blk_drew ?_ | refine blk_alloc ?_ _)); refine blk_far ?_ NB219_222.out _; (with_reducible repeat (first | refine blk_drewN ?_ _ | refine blk_drew ?_ | refine blk_alloc ?_ _)); exact BK219.out⟩, ⟨by (with_reducible repeat (first | refine blk_drewN ?_ _ | refine blk_drew ?_ | refine blk_alloc ?_ _)); refine blk_put (cs := #[.int .i64 ((rd_T86 l0_1 x3_2).f0), .int .i64 ((rd_T86 l0_1 x3_2).f1), .int .i64 ((rd_T86 l0_1 x3_2).f2), .int .i64 0]) ?_ 3 _ rfl; (with_reducible repeat (first | refine blk_drewN ?_ _ | refine blk_drew ?_ | refine blk_alloc ?_ _)); refine blk_put (cs := #[.int .i64 ((rd_T86 l0_1 x3_2).f0), .int .i64 ((rd_T86 l0_1 x3_2).f1), .int .i64 0, .int .i64 0]) ?_ 2 _ rfl; (with_reducible repeat (first | refine blk_drewN ?_ _ | refine blk_drew ?_ | refine blk_alloc ?_ _)); refine blk_put (cs := #[.int .i64 ((rd_T86 l0_1 x3_2).f0), .int .i64 0, .int .i64 0, .int .i64 0]) ?_ 1 _ rfl; (with_reducible repeat (first | refine blk_drewN ?_ _ | refine blk_drew ?_ | refine blk_alloc ?_ _)); refine blk_put (cs := #[.int .i64 0, .int .i64 0, .int .i64 0, .int .i64 0]) ?_ 0 _ rfl; (with_reducible repeat (first | refine blk_drewN ?_ _ | refine blk_drew ?_ | refine blk_alloc ?_ _)); exact BK222.out⟩, ⟨by repeat (first | (with_reducible first | exact HB.out | apply below_alloc | apply Pn | apply Dn | refine below_set ?_ GE219.out | refine below_set ?_ GE222.out) | exact HB.out)⟩⟩
        case rest =>
         clear HC14
         try clear c1
         try clear c2
         try clear p2
         try clear q2
         try clear hx2
         try clear c3
         try clear c4
         try clear c5
         try clear c11
         try clear c12
         try clear c12b0
         try clear c13
         try clear c13b0
         try clear c17
         try clear c19
         try clear c19b0
         try clear c20
         try clear c22
         try clear c22b0
         try clear p22
         try clear q22
         try clear hx22
         try clear c23
         try clear c26
         try clear c26b0
         try clear c27
         try clear c30
         try clear c30b0
         try clear c31
         try clear c34
         try clear hcz15_0
         try clear hcz15_1
         try clear hcz18_0
         try clear hcz18_1
         try clear hcz18_2
         try clear hcz18_3
         try clear hcz21_0
         try clear hcz21_1
         try clear hcz21_2
         try clear hcz21_3
         try clear hcz24_0
         try clear hcz24_1
         try clear hcz24_2
         try clear hcz24_3
         try clear hcz25_0
         try clear hcz25_1
         try clear hcz28_0
         try clear hcz28_1
         try clear hcz28_2
         try clear hcz28_3
         try clear hcz29_0
         try clear hcz29_1
         try clear hcz32_0
         try clear hcz32_1
         try clear hcz32_2
         try clear hcz32_3
         try clear hcz33_0
         try clear hcz33_1
         try clear hcz35_0
         try clear hcz35_1
         try clear hcz35_2
         try clear hcz35_3
         try clear hcz36_0
         try clear hcz36_1
         try clear hcz6_0
         try clear hcz6_1
         try clear hcz8_0
         try clear hcz8_1
         try clear hcz9_0
         try clear hcz9_1
         try clear hfz15_0
         try clear hfz15_1
         try clear hfz18_0
         try clear hfz18_1
         try clear hfz18_2
         try clear hfz18_3
         try clear hfz21_0
         try clear hfz21_1
         try clear hfz21_2
         try clear hfz21_3
         try clear hfz24_0
         try clear hfz24_1
         try clear hfz24_2
         try clear hfz24_3
         try clear hfz25_0
         try clear hfz25_1
         try clear hfz28_0
         try clear hfz28_1
         try clear hfz28_2
         try clear hfz28_3
         try clear hfz29_0
         try clear hfz29_1
         try clear hfz32_0
         try clear hfz32_1
         try clear hfz32_2
         try clear hfz32_3
         try clear hfz33_0
         try clear hfz33_1
         try clear hfz35_0
         try clear hfz35_1
         try clear hfz35_2
         try clear hfz35_3
         try clear hfz36_0
         try clear hfz36_1
         try clear hfz6_0
         try clear hfz6_1
         try clear hfz8_0
         try clear hfz8_1
         try clear hfz9_0
         try clear hfz9_1
         try clear hx221_0
         try clear hx221_1
         try clear hx221_2
         try clear hx221_3
         try clear p2
         try clear p221
         try clear q221
         obtain ⟨kq, x57_13, rfl, HA, HJ13, BK219, BK222, HB⟩ := hcut
         cases kq with
         | zero => exact absurd HA.out (by simp [afterwordref19_Hist.j2])
         | succ kj13 =>
          have H := HA.out
          clear HA
          simp only [afterwordref19_Hist.j2] at H
          by_cases c37 : x57_13 = true
          ·subst c37
           have H1 : (some false) = some r := by rw [if_pos rfl] at H; exact H
           clear H
           have H := H1
           clear H1
           obtain rfl := Option.some.inj H
           go_wp2
           go_ret
           exact ⟨by first | rfl | (simp [errW_none, errW_some] <;> rfl) | (simp [*, errW_none, errW_some] <;> rfl), by repeat (first | (with_reducible first | exact HB.out | apply below_alloc | apply Pn | apply Dn | refine below_set ?_ GE219.out | refine below_set ?_ GE222.out) | exact HB.out)⟩
          ·replace c37 := Bool.eq_false_iff.mpr c37
           subst c37
           have H1 : (if ((rd_T86 l0_1 x3_2).f2) > ((rd_T86 l0_1 x3_2).f3) then (some false) else (if ((rd_T86 l0_1 x3_2).f2) < (-2000000) then (some false) else (if ((rd_T86 l0_1 x3_2).f3) > 2000000 then (some false) else (afterwordref19_Hist.l0 kj13 (wrap64 (x3_2 + 1)) l0_0 l0_1)))) = some r := by rw [if_neg (show ¬ (false = true) by decide)] at H; exact H
           clear H
           have H := H1
           clear H1
           by_cases c38 : ((rd_T86 l0_1 x3_2).f2) > ((rd_T86 l0_1 x3_2).f3)
           ·rw [if_pos c38] at H
            have c38b0 : decide (((rd_T86 l0_1 x3_2).f3) < ((rd_T86 l0_1 x3_2).f2)) = true := decide_eq_true c38
            clear c38
            obtain rfl := Option.some.inj H
            have hnb39 := NB222_219.out
            have hnc39 := NB219_222.out
            have hcz40_0 : wc.cell? ⟨gb222, 0, none⟩ = some (.int .i64 ((rd_T86 l0_1 x3_2).f0)) := (blk_cell BK222.out 0).trans rfl
            have hcz40_1 : wc.cell? ⟨gb222, 1, none⟩ = some (.int .i64 ((rd_T86 l0_1 x3_2).f1)) := (blk_cell BK222.out 1).trans rfl
            have hcz40_2 : wc.cell? ⟨gb222, 2, none⟩ = some (.int .i64 ((rd_T86 l0_1 x3_2).f2)) := (blk_cell BK222.out 2).trans rfl
            have hcz40_3 : wc.cell? ⟨gb222, 3, none⟩ = some (.int .i64 ((rd_T86 l0_1 x3_2).f3)) := (blk_cell BK222.out 3).trans rfl
            have hfz40_0 := blk_frozen BK222.out 0
            have hfz40_1 := blk_frozen BK222.out 1
            have hfz40_2 := blk_frozen BK222.out 2
            have hfz40_3 := blk_frozen BK222.out 3
            go_wp2
            go_ret
            exact ⟨by first | rfl | (simp [errW_none, errW_some] <;> rfl) | (simp [*, errW_none, errW_some] <;> rfl), by repeat (first | (with_reducible first | exact HB.out | apply below_alloc | apply Pn | apply Dn | refine below_set ?_ GE219.out | refine below_set ?_ GE222.out) | exact HB.out)⟩
           ·rw [if_neg c38] at H
            have c38b0 : decide (((rd_T86 l0_1 x3_2).f3) < ((rd_T86 l0_1 x3_2).f2)) = false := decide_eq_false c38
            clear c38
            by_cases c41 : ((rd_T86 l0_1 x3_2).f2) < (-2000000)
            ·rw [if_pos c41] at H
             have c41b0 : decide (((rd_T86 l0_1 x3_2).f2) < (-2000000)) = true := decide_eq_true c41
             clear c41
             obtain rfl := Option.some.inj H
             have hnb42 := NB222_219.out
             have hnc42 := NB219_222.out
             have hcz43_0 : wc.cell? ⟨gb222, 0, none⟩ = some (.int .i64 ((rd_T86 l0_1 x3_2).f0)) := (blk_cell BK222.out 0).trans rfl
             have hcz43_1 : wc.cell? ⟨gb222, 1, none⟩ = some (.int .i64 ((rd_T86 l0_1 x3_2).f1)) := (blk_cell BK222.out 1).trans rfl
             have hcz43_2 : wc.cell? ⟨gb222, 2, none⟩ = some (.int .i64 ((rd_T86 l0_1 x3_2).f2)) := (blk_cell BK222.out 2).trans rfl
             have hcz43_3 : wc.cell? ⟨gb222, 3, none⟩ = some (.int .i64 ((rd_T86 l0_1 x3_2).f3)) := (blk_cell BK222.out 3).trans rfl
             have hfz43_0 := blk_frozen BK222.out 0
             have hfz43_1 := blk_frozen BK222.out 1
             have hfz43_2 := blk_frozen BK222.out 2
             have hfz43_3 := blk_frozen BK222.out 3
             go_wp2
             go_ret
             exact ⟨by first | rfl | (simp [errW_none, errW_some] <;> rfl) | (simp [*, errW_none, errW_some] <;> rfl), by repeat (first | (with_reducible first | exact HB.out | apply below_alloc | apply Pn | apply Dn | refine below_set ?_ GE219.out | refine below_set ?_ GE222.out) | exact HB.out)⟩
            ·rw [if_neg c41] at H
             have c41b0 : decide (((rd_T86 l0_1 x3_2).f2) < (-2000000)) = false := decide_eq_false c41
             clear c41
             by_cases c44 : ((rd_T86 l0_1 x3_2).f3) > 2000000
             ·rw [if_pos c44] at H
              have c44b0 : decide (2000000 < ((rd_T86 l0_1 x3_2).f3)) = true := decide_eq_true c44
              clear c44
              obtain rfl := Option.some.inj H
              have hnb45 := NB222_219.out
              have hnc45 := NB219_222.out
              have hcz46_0 : wc.cell? ⟨gb222, 0, none⟩ = some (.int .i64 ((rd_T86 l0_1 x3_2).f0)) := (blk_cell BK222.out 0).trans rfl
              have hcz46_1 : wc.cell? ⟨gb222, 1, none⟩ = some (.int .i64 ((rd_T86 l0_1 x3_2).f1)) := (blk_cell BK222.out 1).trans rfl
              have hcz46_2 : wc.cell? ⟨gb222, 2, none⟩ = some (.int .i64 ((rd_T86 l0_1 x3_2).f2)) := (blk_cell BK222.out 2).trans rfl
              have hcz46_3 : wc.cell? ⟨gb222, 3, none⟩ = some (.int .i64 ((rd_T86 l0_1 x3_2).f3)) := (blk_cell BK222.out 3).trans rfl
              have hfz46_0 := blk_frozen BK222.out 0
              have hfz46_1 := blk_frozen BK222.out 1
              have hfz46_2 := blk_frozen BK222.out 2
              have hfz46_3 := blk_frozen BK222.out 3
              go_wp2
              go_ret
              exact ⟨by first | rfl | (simp [errW_none, errW_some] <;> rfl) | (simp [*, errW_none, errW_some] <;> rfl), by repeat (first | (with_reducible first | exact HB.out | apply below_alloc | apply Pn | apply Dn | refine below_set ?_ GE219.out | refine below_set ?_ GE222.out) | exact HB.out)⟩
             ·rw [if_neg c44] at H
              have c44b0 : decide (2000000 < ((rd_T86 l0_1 x3_2).f3)) = false := decide_eq_false c44
              clear c44
              have H' := Aa H
              clear H
              have hnb47 := NB222_219.out
              have hnc47 := NB219_222.out
              have hcz48_0 : wc.cell? ⟨gb222, 0, none⟩ = some (.int .i64 ((rd_T86 l0_1 x3_2).f0)) := (blk_cell BK222.out 0).trans rfl
              have hcz48_1 : wc.cell? ⟨gb222, 1, none⟩ = some (.int .i64 ((rd_T86 l0_1 x3_2).f1)) := (blk_cell BK222.out 1).trans rfl
              have hcz48_2 : wc.cell? ⟨gb222, 2, none⟩ = some (.int .i64 ((rd_T86 l0_1 x3_2).f2)) := (blk_cell BK222.out 2).trans rfl
              have hcz48_3 : wc.cell? ⟨gb222, 3, none⟩ = some (.int .i64 ((rd_T86 l0_1 x3_2).f3)) := (blk_cell BK222.out 3).trans rfl
              have hfz48_0 := blk_frozen BK222.out 0
              have hfz48_1 := blk_frozen BK222.out 1
              have hfz48_2 := blk_frozen BK222.out 2
              have hfz48_3 := blk_frozen BK222.out 3
              go_wp2
              go_roundg kj13
              case measure => have := HJ1.out; have := HK2.out; have := HJ13.out; omega
              case rel => exact ⟨(wrap64 (x3_2 + 1)), (by first | rfl | (simp; done) | (simp [*]; done)), H', ⟨by have := HJ1.out; have := HK2.out; have := HJ13.out; omega⟩, ⟨by (with_reducible repeat (first | refine blk_drewN ?_ _ | refine blk_drew ?_ | refine blk_alloc ?_ _)); exact BK219.out⟩, ⟨by repeat (first | (with_reducible first | exact HB.out | apply below_alloc | apply Pn | apply Dn | refine below_set ?_ GE219.out | refine below_set ?_ GE222.out) | exact HB.out)⟩⟩
       ·rw [if_neg c13] at H
        exact absurd H (by simp)
      ·rw [if_neg c12] at H
       have c12b0 : decide (x3_2 < (l0_1.length : Int)) = false := decide_eq_false c12
       clear c12
       obtain rfl := Option.some.inj H
       have hcz49_0 : wr.cell? ⟨gb219, 0, none⟩ = some (.slice A0_0 l0_0.length c0_0) := (blk_cell BK219.out 0).trans rfl
       have hcz49_1 : wr.cell? ⟨gb219, 1, none⟩ = some (.slice A0_1 l0_1.length c0_1) := (blk_cell BK219.out 1).trans rfl
       have hfz49_0 := blk_frozen BK219.out 0
       have hfz49_1 := blk_frozen BK219.out 1
       go_wp2
       go_ret
       exact ⟨by first | rfl | (simp [errW_none, errW_some] <;> rfl) | (simp [*, errW_none, errW_some] <;> rfl), by repeat (first | (with_reducible first | exact HB.out | apply below_alloc | apply Pn | apply Dn | refine below_set ?_ GE219.out) | exact HB.out)⟩
end
section
attribute [local go_sem] max2_int min2_int max_two min_two
def skew_isRun.l0 : Nat → List (S71) → List (S71) → Int → Int → Option (Bool)
 | 0, _, _, _, _ => none
 | k + 1, x0, x5, x6, x7 => if x7 < x6 then (if 0 ≤ x7 then (if x7 < (x5.length : Int) then ((skew_within.f ((rd_T71 x5 x7).f0) 0 5).bind fun t150 => (if t150 = true then ((skew_within.f ((rd_T71 x5 x7).f1) 0 100000).bind fun t151 => (if t151 = true then ((skew_within.f ((rd_T71 x5 x7).f2) (-1) (wrap64 (x7 - 1))).bind fun t152 => (if t152 = true then (skew_isRun.l0 k x0 x5 x6 (wrap64 (x7 + 1))) else (some false))) else (some false))) else (some false))) else (none)) else (none)) else (some (decide ((x0.length : Int) ≤ 40)))
def skew_isRun.f (k : Nat) (l0 : List (S71)) : Option (Bool) := skew_isRun.l0 k l0 l0 (l0.length : Int) 0
set_option maxHeartbeats 8000000 in
set_option maxRecDepth 100000 in
theorem skew_isRun.calls (k : Nat) (A0 : Option Addr) (c0 : Nat) (l0 : List (S71)) (r : Bool) (w : World) (hr0 : Kd.C k71 w A0 l0.length l0) (hc0 : l0.length ≤ c0) (h : skew_isRun.f k l0 = some r) :
  Calls Try.prog 85 #[.slice A0 l0.length c0] w fun e w' => e = .returned (.bool r) ∧ Below w.heap.size w w' := by
 have hu71 := Try.underlying71
 have HR0 := Aa hr0
 have HC0 := Aa hc0
 clear hr0 hc0
 have HB := Aa (Below.refl w.heap.size w)
 have H : (skew_isRun.l0 k l0 l0 (l0.length : Int) 0) = some r := h
 clear h
 have H' := Aa H
 clear H
 go_enter Try.func85, Try.ntmps85
 go_wp2
 go_loopg [7] k (fun kq v7 w' => ∃ (x7_1 : Int), v7 = .int .i64 x7_1 ∧ Aside0 (skew_isRun.l0 kq l0 l0 (l0.length : Int) x7_1 = some r) ∧ Aside0 (kq ≤ k) ∧ Aside0 (Below w.heap.size w w'))
 case atStart => exact ⟨(0), (by first | rfl | (simp; done) | (simp [*]; done)), H', ⟨Nat.le_refl _⟩, ⟨by repeat (first | (with_reducible first | exact HB.out | apply below_alloc | apply Pn | apply Dn) | exact HB.out)⟩⟩
 case round =>
  clear H'
  obtain ⟨x7_1, rfl, HA, HK1, HB⟩ := hrel
  cases gk with
  | zero => exact absurd HA.out (by simp [skew_isRun.l0])
  | succ k1 =>
   have H := HA.out
   clear HA
   simp only [skew_isRun.l0] at H
   by_cases c2 : x7_1 < (l0.length : Int)
   ·rw [if_pos c2] at H
    have c2b0 : decide (x7_1 < (l0.length : Int)) = true := decide_eq_true c2
    clear c2
    by_cases c3 : 0 ≤ x7_1
    ·rw [if_pos c3] at H
     have c3b0 : decide (0 ≤ x7_1) = true := decide_eq_true c3
     clear c3
     by_cases c4 : x7_1 < (l0.length : Int)
     ·rw [if_pos c4] at H
      have c4b0 : decide (x7_1 < (l0.length : Int)) = true := decide_eq_true c4
      clear c4
      replace H := Option.bind_eq_some_iff.mp H
      obtain ⟨t150, A50, H⟩ := H
      replace H : (if t150 = true then ((skew_within.f ((rd_T71 l0 x7_1).f1) 0 100000).bind fun t151 => (if t151 = true then ((skew_within.f ((rd_T71 l0 x7_1).f2) (-1) (wrap64 (x7_1 - 1))).bind fun t152 => (if t152 = true then (skew_isRun.l0 k1 l0 l0 (l0.length : Int) (wrap64 (x7_1 + 1))) else (some false))) else (some false))) else (some false)) = some r := H
      have A5 := Aa A50
      clear A50
      by_cases c6 : t150 = true
      ·subst c6
       have H1 : ((skew_within.f ((rd_T71 l0 x7_1).f1) 0 100000).bind fun t151 => (if t151 = true then ((skew_within.f ((rd_T71 l0 x7_1).f2) (-1) (wrap64 (x7_1 - 1))).bind fun t152 => (if t152 = true then (skew_isRun.l0 k1 l0 l0 (l0.length : Int) (wrap64 (x7_1 + 1))) else (some false))) else (some false))) = some r := by rw [if_pos rfl] at H; exact H
       clear H
       have H := H1
       clear H1
       replace H := Option.bind_eq_some_iff.mp H
       obtain ⟨t151, A70, H⟩ := H
       replace H : (if t151 = true then ((skew_within.f ((rd_T71 l0 x7_1).f2) (-1) (wrap64 (x7_1 - 1))).bind fun t152 => (if t152 = true then (skew_isRun.l0 k1 l0 l0 (l0.length : Int) (wrap64 (x7_1 + 1))) else (some false))) else (some false)) = some r := H
       have A7 := Aa A70
       clear A70
       by_cases c8 : t151 = true
       ·subst c8
        have H1 : ((skew_within.f ((rd_T71 l0 x7_1).f2) (-1) (wrap64 (x7_1 - 1))).bind fun t152 => (if t152 = true then (skew_isRun.l0 k1 l0 l0 (l0.length : Int) (wrap64 (x7_1 + 1))) else (some false))) = some r := by rw [if_pos rfl] at H; exact H
        clear H
        have H := H1
        clear H1
        replace H := Option.bind_eq_some_iff.mp H
        obtain ⟨t152, A90, H⟩ := H
        replace H : (if t152 = true then (skew_isRun.l0 k1 l0 l0 (l0.length : Int) (wrap64 (x7_1 + 1))) else (some false)) = some r := H
        have A9 := Aa A90
        clear A90
        by_cases c10 : t152 = true
        ·subst c10
         have H1 : (skew_isRun.l0 k1 l0 l0 (l0.length : Int) (wrap64 (x7_1 + 1))) = some r := by rw [if_pos rfl] at H; exact H
         clear H
         have H := H1
         clear H1
         have H' := Aa H
         clear H
         have p148 : 0 ≤ (x7_1 : Int) := of_decide_eq_true (by first | (with_reducible assumption) | assumption)
         have q148 : x7_1 < (l0.length : Int) := of_decide_eq_true (by first | (with_reducible assumption) | assumption)
         obtain ⟨ad148, e148, hx148_0, hx148_1, hx148_2⟩ := at_T71 HR0.out x7_1 p148 q148
         cases e148
         replace hx148_0 := (HB.out.cell (World.block_lt_of_cell? w _ hx148_0)).trans hx148_0
         replace hx148_1 := (HB.out.cell (World.block_lt_of_cell? w _ hx148_1)).trans hx148_1
         replace hx148_2 := (HB.out.cell (World.block_lt_of_cell? w _ hx148_2)).trans hx148_2
         replace p148 := eq_true p148
         replace q148 := eq_true q148
         go_wp2_with (first | ((with_reducible refine gate_dst (N := 4) rfl ?_); refine box_event ?hg (N := 4) ?hd (cs := #[.int .i64 0, .int .i64 0, .int .i64 0]) (t := 71) ?hr ?_; (case hd => rfl); (case hg => rfl); (case hr => first | (go_simp; done) | (go_simp; rfl)); intro gb149 hg w11 hbox hb; have n0_ := Aa (below_step (by repeat (first | (with_reducible first | exact HB.out | apply below_alloc | apply Pn | apply Dn) | exact HB.out)) hb); have n1_ := Aa (hbox); have n2_ := Aa ((by rw [hg]; exact (below_size (by repeat (first | (with_reducible first | exact HB.out | apply below_alloc | apply Pn | apply Dn) | exact HB.out))) : w.heap.size ≤ gb149)); have n3_ := Aa ((by rw [hg]; exact (below_size (by repeat (first | (with_reducible first | exact HB.out | apply below_alloc | apply Pn | apply Dn) | exact HB.out))) : w.heap.size ≤ gb149)); clear HB; have HB := n0_; have BK149 := n1_; have GW149 := n2_; have GE149 := n3_; clear n0_ n1_ n2_ n3_; clear hb hbox hg; have hcz12_0 : w11.cell? ⟨gb149, 0, none⟩ = some (.int .i64 0) := (blk_cell BK149.out 0).trans rfl; have hcz12_1 : w11.cell? ⟨gb149, 1, none⟩ = some (.int .i64 0) := (blk_cell BK149.out 1).trans rfl; have hcz12_2 : w11.cell? ⟨gb149, 2, none⟩ = some (.int .i64 0) := (blk_cell BK149.out 2).trans rfl; have hfz12_0 := blk_frozen BK149.out 0; have hfz12_1 := blk_frozen BK149.out 1; have hfz12_2 := blk_frozen BK149.out 2) | ((with_reducible refine gate_callee (f := 72) rfl ?_); refine goesL_ (some 14) rfl rfl Try.func72 (by kernel_rfl) rfl #[.int .i64 ((rd_T71 l0 x7_1).f0), .int .i64 0, .int .i64 5] rfl (by (try simp only [List.map_toArray, List.map_cons, List.map_nil]); first | done | rfl | (simp only [List.length_drop, List.length_take]; rfl)) ?_; (with_reducible refine (skew_within.calls ((rd_T71 l0 x7_1).f0) 0 5 true _ A5.out).mono ?_); rintro e w' ⟨rfl, ⟨nd, rfl⟩⟩; refine ⟨_, rfl, ?_⟩) | (go_at_call 72; (with_reducible refine (skew_within.calls ((rd_T71 l0 x7_1).f1) 0 100000 true _ A7.out).mono ?_); rintro e w' ⟨rfl, ⟨nd, rfl⟩⟩) | (go_at_call 72; (with_reducible refine (skew_within.calls ((rd_T71 l0 x7_1).f2) (-1) (wrap64 (x7_1 - 1)) true _ A9.out).mono ?_); rintro e w' ⟨rfl, ⟨nd, rfl⟩⟩))
         go_roundg k1
         case measure => have := HK1.out; omega
         case rel => exact ⟨(wrap64 (x7_1 + 1)), (by first | rfl | (simp; done) | (simp [*]; done)), H', ⟨by have := HK1.out; omega⟩, ⟨by repeat (first | (with_reducible first | exact HB.out | apply below_alloc | apply Pn | apply Dn | refine below_set ?_ GE149.out) | exact HB.out)⟩⟩
        ·replace c10 := Bool.eq_false_iff.mpr c10
         subst c10
         have H1 : (some false) = some r := by rw [if_neg (show ¬ (false = true) by decide)] at H; exact H
         clear H
         have H := H1
         clear H1
         obtain rfl := Option.some.inj H
         have p148 : 0 ≤ (x7_1 : Int) := of_decide_eq_true (by first | (with_reducible assumption) | assumption)
         have q148 : x7_1 < (l0.length : Int) := of_decide_eq_true (by first | (with_reducible assumption) | assumption)
         obtain ⟨ad148, e148, hx148_0, hx148_1, hx148_2⟩ := at_T71 HR0.out x7_1 p148 q148
         cases e148
         replace hx148_0 := (HB.out.cell (World.block_lt_of_cell? w _ hx148_0)).trans hx148_0
         replace hx148_1 := (HB.out.cell (World.block_lt_of_cell? w _ hx148_1)).trans hx148_1
         replace hx148_2 := (HB.out.cell (World.block_lt_of_cell? w _ hx148_2)).trans hx148_2
         replace p148 := eq_true p148
         replace q148 := eq_true q148
         go_wp2_with (first | ((with_reducible refine gate_dst (N := 4) rfl ?_); refine box_event ?hg (N := 4) ?hd (cs := #[.int .i64 0, .int .i64 0, .int .i64 0]) (t := 71) ?hr ?_; (case hd => rfl); (case hg => rfl); (case hr => first | (go_simp; done) | (go_simp; rfl)); intro gb149 hg w13 hbox hb; have n0_ := Aa (below_step (by repeat (first | (with_reducible first | exact HB.out | apply below_alloc | apply Pn | apply Dn) | exact HB.out)) hb); have n1_ := Aa (hbox); have n2_ := Aa ((by rw [hg]; exact (below_size (by repeat (first | (with_reducible first | exact HB.out | apply below_alloc | apply Pn | apply Dn) | exact HB.out))) : w.heap.size ≤ gb149)); have n3_ := Aa ((by rw [hg]; exact (below_size (by repeat (first | (with_reducible first | exact HB.out | apply below_alloc | apply Pn | apply Dn) | exact HB.out))) : w.heap.size ≤ gb149)); clear HB; have HB := n0_; have BK149 := n1_; have GW149 := n2_; have GE149 := n3_; clear n0_ n1_ n2_ n3_; clear hb hbox hg; have hcz14_0 : w13.cell? ⟨gb149, 0, none⟩ = some (.int .i64 0) := (blk_cell BK149.out 0).trans rfl; have hcz14_1 : w13.cell? ⟨gb149, 1, none⟩ = some (.int .i64 0) := (blk_cell BK149.out 1).trans rfl; have hcz14_2 : w13.cell? ⟨gb149, 2, none⟩ = some (.int .i64 0) := (blk_cell BK149.out 2).trans rfl; have hfz14_0 := blk_frozen BK149.out 0; have hfz14_1 := blk_frozen BK149.out 1; have hfz14_2 := blk_frozen BK149.out 2) | ((with_reducible refine gate_callee (f := 72) rfl ?_); refine goesL_ (some 14) rfl rfl Try.func72 (by kernel_rfl) rfl #[.int .i64 ((rd_T71 l0 x7_1).f0), .int .i64 0, .int .i64 5] rfl (by (try simp only [List.map_toArray, List.map_cons, List.map_nil]); first | done | rfl | (simp only [List.length_drop, List.length_take]; rfl)) ?_; (with_reducible refine (skew_within.calls ((rd_T71 l0 x7_1).f0) 0 5 true _ A5.out).mono ?_); rintro e w' ⟨rfl, ⟨nd, rfl⟩⟩; refine ⟨_, rfl, ?_⟩) | (go_at_call 72; (with_reducible refine (skew_within.calls ((rd_T71 l0 x7_1).f1) 0 100000 true _ A7.out).mono ?_); rintro e w' ⟨rfl, ⟨nd, rfl⟩⟩) | (go_at_call 72; (with_reducible refine (skew_within.calls ((rd_T71 l0 x7_1).f2) (-1) (wrap64 (x7_1 - 1)) false _ A9.out).mono ?_); rintro e w' ⟨rfl, ⟨nd, rfl⟩⟩))
         go_ret
         exact ⟨by first | rfl | (simp [errW_none, errW_some] <;> rfl) | (simp [*, errW_none, errW_some] <;> rfl), by repeat (first | (with_reducible first | exact HB.out | apply below_alloc | apply Pn | apply Dn | refine below_set ?_ GE149.out) | exact HB.out)⟩
       ·replace c8 := Bool.eq_false_iff.mpr c8
        subst c8
        have H1 : (some false) = some r := by rw [if_neg (show ¬ (false = true) by decide)] at H; exact H
        clear H
        have H := H1
        clear H1
        obtain rfl := Option.some.inj H
        have p148 : 0 ≤ (x7_1 : Int) := of_decide_eq_true (by first | (with_reducible assumption) | assumption)
        have q148 : x7_1 < (l0.length : Int) := of_decide_eq_true (by first | (with_reducible assumption) | assumption)
        obtain ⟨ad148, e148, hx148_0, hx148_1, hx148_2⟩ := at_T71 HR0.out x7_1 p148 q148
        cases e148
        replace hx148_0 := (HB.out.cell (World.block_lt_of_cell? w _ hx148_0)).trans hx148_0
        replace hx148_1 := (HB.out.cell (World.block_lt_of_cell? w _ hx148_1)).trans hx148_1
        replace hx148_2 := (HB.out.cell (World.block_lt_of_cell? w _ hx148_2)).trans hx148_2
        replace p148 := eq_true p148
        replace q148 := eq_true q148
        go_wp2_with (first | ((with_reducible refine gate_dst (N := 4) rfl ?_); refine box_event ?hg (N := 4) ?hd (cs := #[.int .i64 0, .int .i64 0, .int .i64 0]) (t := 71) ?hr ?_; (case hd => rfl); (case hg => rfl); (case hr => first | (go_simp; done) | (go_simp; rfl)); intro gb149 hg w15 hbox hb; have n0_ := Aa (below_step (by repeat (first | (with_reducible first | exact HB.out | apply below_alloc | apply Pn | apply Dn) | exact HB.out)) hb); have n1_ := Aa (hbox); have n2_ := Aa ((by rw [hg]; exact (below_size (by repeat (first | (with_reducible first | exact HB.out | apply below_alloc | apply Pn | apply Dn) | exact HB.out))) : w.heap.size ≤ gb149)); have n3_ := Aa ((by rw [hg]; exact (below_size (by repeat (first | (with_reducible first | exact HB.out | apply below_alloc | apply Pn | apply Dn) | exact HB.out))) : w.heap.size ≤ gb149)); clear HB; have HB := n0_; have BK149 := n1_; have GW149 := n2_; have GE149 := n3_; clear n0_ n1_ n2_ n3_; clear hb hbox hg; have hcz16_0 : w15.cell? ⟨gb149, 0, none⟩ = some (.int .i64 0) := (blk_cell BK149.out 0).trans rfl; have hcz16_1 : w15.cell? ⟨gb149, 1, none⟩ = some (.int .i64 0) := (blk_cell BK149.out 1).trans rfl; have hcz16_2 : w15.cell? ⟨gb149, 2, none⟩ = some (.int .i64 0) := (blk_cell BK149.out 2).trans rfl; have hfz16_0 := blk_frozen BK149.out 0; have hfz16_1 := blk_frozen BK149.out 1; have hfz16_2 := blk_frozen BK149.out 2) | ((with_reducible refine gate_callee (f := 72) rfl ?_); refine goesL_ (some 14) rfl rfl Try.func72 (by kernel_rfl) rfl #[.int .i64 ((rd_T71 l0 x7_1).f0), .int .i64 0, .int .i64 5] rfl (by (try simp only [List.map_toArray, List.map_cons, List.map_nil]); first | done | rfl | (simp only [List.length_drop, List.length_take]; rfl)) ?_; (with_reducible refine (skew_within.calls ((rd_T71 l0 x7_1).f0) 0 5 true _ A5.out).mono ?_); rintro e w' ⟨rfl, ⟨nd, rfl⟩⟩; refine ⟨_, rfl, ?_⟩) | (go_at_call 72; (with_reducible refine (skew_within.calls ((rd_T71 l0 x7_1).f1) 0 100000 false _ A7.out).mono ?_); rintro e w' ⟨rfl, ⟨nd, rfl⟩⟩))
        go_ret
        exact ⟨by first | rfl | (simp [errW_none, errW_some] <;> rfl) | (simp [*, errW_none, errW_some] <;> rfl), by repeat (first | (with_reducible first | exact HB.out | apply below_alloc | apply Pn | apply Dn | refine below_set ?_ GE149.out) | exact HB.out)⟩
      ·replace c6 := Bool.eq_false_iff.mpr c6
       subst c6
       have H1 : (some false) = some r := by rw [if_neg (show ¬ (false = true) by decide)] at H; exact H
       clear H
       have H := H1
       clear H1
       obtain rfl := Option.some.inj H
       have p148 : 0 ≤ (x7_1 : Int) := of_decide_eq_true (by first | (with_reducible assumption) | assumption)
       have q148 : x7_1 < (l0.length : Int) := of_decide_eq_true (by first | (with_reducible assumption) | assumption)
       obtain ⟨ad148, e148, hx148_0, hx148_1, hx148_2⟩ := at_T71 HR0.out x7_1 p148 q148
       cases e148
       replace hx148_0 := (HB.out.cell (World.block_lt_of_cell? w _ hx148_0)).trans hx148_0
       replace hx148_1 := (HB.out.cell (World.block_lt_of_cell? w _ hx148_1)).trans hx148_1
       replace hx148_2 := (HB.out.cell (World.block_lt_of_cell? w _ hx148_2)).trans hx148_2
       replace p148 := eq_true p148
       replace q148 := eq_true q148
       go_wp2_with (first | ((with_reducible refine gate_dst (N := 4) rfl ?_); refine box_event ?hg (N := 4) ?hd (cs := #[.int .i64 0, .int .i64 0, .int .i64 0]) (t := 71) ?hr ?_; (case hd => rfl); (case hg => rfl); (case hr => first | (go_simp; done) | (go_simp; rfl)); intro gb149 hg w17 hbox hb; have n0_ := Aa (below_step (by repeat (first | (with_reducible first | exact HB.out | apply below_alloc | apply Pn | apply Dn) | exact HB.out)) hb); have n1_ := Aa (hbox); have n2_ := Aa ((by rw [hg]; exact (below_size (by repeat (first | (with_reducible first | exact HB.out | apply below_alloc | apply Pn | apply Dn) | exact HB.out))) : w.heap.size ≤ gb149)); have n3_ := Aa ((by rw [hg]; exact (below_size (by repeat (first | (with_reducible first | exact HB.out | apply below_alloc | apply Pn | apply Dn) | exact HB.out))) : w.heap.size ≤ gb149)); clear HB; have HB := n0_; have BK149 := n1_; have GW149 := n2_; have GE149 := n3_; clear n0_ n1_ n2_ n3_; clear hb hbox hg; have hcz18_0 : w17.cell? ⟨gb149, 0, none⟩ = some (.int .i64 0) := (blk_cell BK149.out 0).trans rfl; have hcz18_1 : w17.cell? ⟨gb149, 1, none⟩ = some (.int .i64 0) := (blk_cell BK149.out 1).trans rfl; have hcz18_2 : w17.cell? ⟨gb149, 2, none⟩ = some (.int .i64 0) := (blk_cell BK149.out 2).trans rfl; have hfz18_0 := blk_frozen BK149.out 0; have hfz18_1 := blk_frozen BK149.out 1; have hfz18_2 := blk_frozen BK149.out 2) | ((with_reducible refine gate_callee (f := 72) rfl ?_); refine goesL_ (some 14) rfl rfl Try.func72 (by kernel_rfl) rfl #[.int .i64 ((rd_T71 l0 x7_1).f0), .int .i64 0, .int .i64 5] rfl (by (try simp only [List.map_toArray, List.map_cons, List.map_nil]); first | done | rfl | (simp only [List.length_drop, List.length_take]; rfl)) ?_; (with_reducible refine (skew_within.calls ((rd_T71 l0 x7_1).f0) 0 5 false _ A5.out).mono ?_); rintro e w' ⟨rfl, ⟨nd, rfl⟩⟩; refine ⟨_, rfl, ?_⟩))
       go_ret
       exact ⟨by first | rfl | (simp [errW_none, errW_some] <;> rfl) | (simp [*, errW_none, errW_some] <;> rfl), by repeat (first | (with_reducible first | exact HB.out | apply below_alloc | apply Pn | apply Dn | refine below_set ?_ GE149.out) | exact HB.out)⟩
     ·rw [if_neg c4] at H
      exact absurd H (by simp)
    ·rw [if_neg c3] at H
     exact absurd H (by simp)
   ·rw [if_neg c2] at H
    have c2b0 : decide (x7_1 < (l0.length : Int)) = false := decide_eq_false c2
    clear c2
    obtain rfl := Option.some.inj H
    go_wp2
    go_ret
    exact ⟨by first | rfl | (simp [errW_none, errW_some] <;> rfl) | (simp [*, errW_none, errW_some] <;> rfl), by repeat (first | (with_reducible first | exact HB.out | apply below_alloc | apply Pn | apply Dn) | exact HB.out)⟩
end
section
attribute [local go_sem] max2_int min2_int max_two min_two
def bits_OnesCount64.f (a0 : Int) : Option (Int) := some (Go.bits .and .i64 (wrap64 (IntKind.u64.wrap ((IntKind.u64.wrap ((IntKind.u64.wrap ((Go.bits .and .u64 (IntKind.u64.wrap (((IntKind.u64.wrap ((Go.bits .and .u64 ((IntKind.u64.wrap ((Go.bits .and .u64 (a0 / 2) 6148914691236517205) + (Go.bits .and .u64 a0 6148914691236517205))) / 4) 3689348814741910323) + (Go.bits .and .u64 (IntKind.u64.wrap ((Go.bits .and .u64 (a0 / 2) 6148914691236517205) + (Go.bits .and .u64 a0 6148914691236517205))) 3689348814741910323))) / 16) + (IntKind.u64.wrap ((Go.bits .and .u64 ((IntKind.u64.wrap ((Go.bits .and .u64 (a0 / 2) 6148914691236517205) + (Go.bits .and .u64 a0 6148914691236517205))) / 4) 3689348814741910323) + (Go.bits .and .u64 (IntKind.u64.wrap ((Go.bits .and .u64 (a0 / 2) 6148914691236517205) + (Go.bits .and .u64 a0 6148914691236517205))) 3689348814741910323))))) 1085102592571150095) + ((Go.bits .and .u64 (IntKind.u64.wrap (((IntKind.u64.wrap ((Go.bits .and .u64 ((IntKind.u64.wrap ((Go.bits .and .u64 (a0 / 2) 6148914691236517205) + (Go.bits .and .u64 a0 6148914691236517205))) / 4) 3689348814741910323) + (Go.bits .and .u64 (IntKind.u64.wrap ((Go.bits .and .u64 (a0 / 2) 6148914691236517205) + (Go.bits .and .u64 a0 6148914691236517205))) 3689348814741910323))) / 16) + (IntKind.u64.wrap ((Go.bits .and .u64 ((IntKind.u64.wrap ((Go.bits .and .u64 (a0 / 2) 6148914691236517205) + (Go.bits .and .u64 a0 6148914691236517205))) / 4) 3689348814741910323) + (Go.bits .and .u64 (IntKind.u64.wrap ((Go.bits .and .u64 (a0 / 2) 6148914691236517205) + (Go.bits .and .u64 a0 6148914691236517205))) 3689348814741910323))))) 1085102592571150095) / 256))) + ((IntKind.u64.wrap ((Go.bits .and .u64 (IntKind.u64.wrap (((IntKind.u64.wrap ((Go.bits .and .u64 ((IntKind.u64.wrap ((Go.bits .and .u64 (a0 / 2) 6148914691236517205) + (Go.bits .and .u64 a0 6148914691236517205))) / 4) 3689348814741910323) + (Go.bits .and .u64 (IntKind.u64.wrap ((Go.bits .and .u64 (a0 / 2) 6148914691236517205) + (Go.bits .and .u64 a0 6148914691236517205))) 3689348814741910323))) / 16) + (IntKind.u64.wrap ((Go.bits .and .u64 ((IntKind.u64.wrap ((Go.bits .and .u64 (a0 / 2) 6148914691236517205) + (Go.bits .and .u64 a0 6148914691236517205))) / 4) 3689348814741910323) + (Go.bits .and .u64 (IntKind.u64.wrap ((Go.bits .and .u64 (a0 / 2) 6148914691236517205) + (Go.bits .and .u64 a0 6148914691236517205))) 3689348814741910323))))) 1085102592571150095) + ((Go.bits .and .u64 (IntKind.u64.wrap (((IntKind.u64.wrap ((Go.bits .and .u64 ((IntKind.u64.wrap ((Go.bits .and .u64 (a0 / 2) 6148914691236517205) + (Go.bits .and .u64 a0 6148914691236517205))) / 4) 3689348814741910323) + (Go.bits .and .u64 (IntKind.u64.wrap ((Go.bits .and .u64 (a0 / 2) 6148914691236517205) + (Go.bits .and .u64 a0 6148914691236517205))) 3689348814741910323))) / 16) + (IntKind.u64.wrap ((Go.bits .and .u64 ((IntKind.u64.wrap ((Go.bits .and .u64 (a0 / 2) 6148914691236517205) + (Go.bits .and .u64 a0 6148914691236517205))) / 4) 3689348814741910323) + (Go.bits .and .u64 (IntKind.u64.wrap ((Go.bits .and .u64 (a0 / 2) 6148914691236517205) + (Go.bits .and .u64 a0 6148914691236517205))) 3689348814741910323))))) 1085102592571150095) / 256))) / 65536))) + ((IntKind.u64.wrap ((IntKind.u64.wrap ((Go.bits .and .u64 (IntKind.u64.wrap (((IntKind.u64.wrap ((Go.bits .and .u64 ((IntKind.u64.wrap ((Go.bits .and .u64 (a0 / 2) 6148914691236517205) + (Go.bits .and .u64 a0 6148914691236517205))) / 4) 3689348814741910323) + (Go.bits .and .u64 (IntKind.u64.wrap ((Go.bits .and .u64 (a0 / 2) 6148914691236517205) + (Go.bits .and .u64 a0 6148914691236517205))) 3689348814741910323))) / 16) + (IntKind.u64.wrap ((Go.bits .and .u64 ((IntKind.u64.wrap ((Go.bits .and .u64 (a0 / 2) 6148914691236517205) + (Go.bits .and .u64 a0 6148914691236517205))) / 4) 3689348814741910323) + (Go.bits .and .u64 (IntKind.u64.wrap ((Go.bits .and .u64 (a0 / 2) 6148914691236517205) + (Go.bits .and .u64 a0 6148914691236517205))) 3689348814741910323))))) 1085102592571150095) + ((Go.bits .and .u64 (IntKind.u64.wrap (((IntKind.u64.wrap ((Go.bits .and .u64 ((IntKind.u64.wrap ((Go.bits .and .u64 (a0 / 2) 6148914691236517205) + (Go.bits .and .u64 a0 6148914691236517205))) / 4) 3689348814741910323) + (Go.bits .and .u64 (IntKind.u64.wrap ((Go.bits .and .u64 (a0 / 2) 6148914691236517205) + (Go.bits .and .u64 a0 6148914691236517205))) 3689348814741910323))) / 16) + (IntKind.u64.wrap ((Go.bits .and .u64 ((IntKind.u64.wrap ((Go.bits .and .u64 (a0 / 2) 6148914691236517205) + (Go.bits .and .u64 a0 6148914691236517205))) / 4) 3689348814741910323) + (Go.bits .and .u64 (IntKind.u64.wrap ((Go.bits .and .u64 (a0 / 2) 6148914691236517205) + (Go.bits .and .u64 a0 6148914691236517205))) 3689348814741910323))))) 1085102592571150095) / 256))) + ((IntKind.u64.wrap ((Go.bits .and .u64 (IntKind.u64.wrap (((IntKind.u64.wrap ((Go.bits .and .u64 ((IntKind.u64.wrap ((Go.bits .and .u64 (a0 / 2) 6148914691236517205) + (Go.bits .and .u64 a0 6148914691236517205))) / 4) 3689348814741910323) + (Go.bits .and .u64 (IntKind.u64.wrap ((Go.bits .and .u64 (a0 / 2) 6148914691236517205) + (Go.bits .and .u64 a0 6148914691236517205))) 3689348814741910323))) / 16) + (IntKind.u64.wrap ((Go.bits .and .u64 ((IntKind.u64.wrap ((Go.bits .and .u64 (a0 / 2) 6148914691236517205) + (Go.bits .and .u64 a0 6148914691236517205))) / 4) 3689348814741910323) + (Go.bits .and .u64 (IntKind.u64.wrap ((Go.bits .and .u64 (a0 / 2) 6148914691236517205) + (Go.bits .and .u64 a0 6148914691236517205))) 3689348814741910323))))) 1085102592571150095) + ((Go.bits .and .u64 (IntKind.u64.wrap (((IntKind.u64.wrap ((Go.bits .and .u64 ((IntKind.u64.wrap ((Go.bits .and .u64 (a0 / 2) 6148914691236517205) + (Go.bits .and .u64 a0 6148914691236517205))) / 4) 3689348814741910323) + (Go.bits .and .u64 (IntKind.u64.wrap ((Go.bits .and .u64 (a0 / 2) 6148914691236517205) + (Go.bits .and .u64 a0 6148914691236517205))) 3689348814741910323))) / 16) + (IntKind.u64.wrap ((Go.bits .and .u64 ((IntKind.u64.wrap ((Go.bits .and .u64 (a0 / 2) 6148914691236517205) + (Go.bits .and .u64 a0 6148914691236517205))) / 4) 3689348814741910323) + (Go.bits .and .u64 (IntKind.u64.wrap ((Go.bits .and .u64 (a0 / 2) 6148914691236517205) + (Go.bits .and .u64 a0 6148914691236517205))) 3689348814741910323))))) 1085102592571150095) / 256))) / 65536))) / 4294967296)))) 127)
end
section
attribute [local go_sem] max2_int min2_int max_two min_two
end
section
attribute [local go_sem] max2_int min2_int max_two min_two
end
section
attribute [local go_sem] max2_int min2_int max_two min_two
end
section
attribute [local go_sem] max2_int min2_int max_two min_two
end
section
attribute [local go_sem] max2_int min2_int max_two min_two
end
section
attribute [local go_sem] max2_int min2_int max_two min_two
mutual
def afterwordlaw19_small.l0 : Nat → List (S27) → Int → Int → List (S27) → List (S86) → Option (Bool)
 | 0, _, _, _, _, _ => none
 | k + 1, x8, x9, x10, x694000, x694001 => if x10 < x9 then (if 0 ≤ x10 then (if x10 < (x8.length : Int) then (if ((rd_T27 x8 x10).f0) < (-20000) then (some false) else (if ((rd_T27 x8 x10).f1) > 20000 then (some false) else (afterwordlaw19_small.l0 k x8 x9 (wrap64 (x10 + 1)) x694000 x694001))) else (none)) else (none)) else (afterwordlaw19_small.l1 k x694001 (x694001.length : Int) 0)
def afterwordlaw19_small.l1 : Nat → List (S86) → Int → Int → Option (Bool)
 | 0, _, _, _ => none
 | k + 1, x24, x25, x26 => if x26 < x25 then (if 0 ≤ x26 then (if x26 < (x24.length : Int) then (if ((rd_T86 x24 x26).f2) < (-20000) then (some false) else (if ((rd_T86 x24 x26).f2) > 20000 then (some false) else (if ((rd_T86 x24 x26).f3) < (-20000) then (some false) else (if ((rd_T86 x24 x26).f3) > 20000 then (if ((rd_T86 x24 x26).f3) < 2000000 then (some false) else (afterwordlaw19_small.l1 k x24 x25 (wrap64 (x26 + 1)))) else (afterwordlaw19_small.l1 k x24 x25 (wrap64 (x26 + 1))))))) else (none)) else (none)) else (some true)
end
def afterwordlaw19_small.f (k : Nat) (l0_0 : List (S27)) (l0_1 : List (S86)) : Option (Bool) := afterwordlaw19_small.l0 k l0_0 (l0_0.length : Int) 0 l0_0 l0_1
set_option maxHeartbeats 8000000 in
set_option maxRecDepth 100000 in
theorem afterwordlaw19_small.calls (k : Nat) (A0_0 : Option Addr) (c0_0 : Nat) (l0_0 : List (S27)) (A0_1 : Option Addr) (c0_1 : Nat) (l0_1 : List (S86)) (r : Bool) (w : World) (hr0_0 : Kd.C k27 w A0_0 l0_0.length l0_0) (hc0_0 : l0_0.length ≤ c0_0) (hr0_1 : Kd.C k86 w A0_1 l0_1.length l0_1) (hc0_1 : l0_1.length ≤ c0_1) (h : afterwordlaw19_small.f k l0_0 l0_1 = some r) :
  Calls Try.prog 60 #[.agg #[.slice A0_0 l0_0.length c0_0, .slice A0_1 l0_1.length c0_1]] w fun e w' => e = .returned (.bool r) ∧ Below w.heap.size w w' := by
 have hu39 := Try.underlying39
 have hu27 := Try.underlying27
 have hu86 := Try.underlying86
 have HR0_0 := Aa hr0_0
 have HC0_0 := Aa hc0_0
 clear hr0_0 hc0_0
 have HR0_1 := Aa hr0_1
 have HC0_1 := Aa hc0_1
 clear hr0_1 hc0_1
 have HB := Aa (Below.refl w.heap.size w)
 have H : (afterwordlaw19_small.l0 k l0_0 (l0_0.length : Int) 0 l0_0 l0_1) = some r := h
 clear h
 have H' := Aa H
 clear H
 go_enter Try.func60, Try.ntmps60
 go_wp2_with (first | ((with_reducible refine gate_dst (N := 1) rfl ?_); refine box_event ?hg (N := 1) ?hd (cs := #[.slice A0_0 l0_0.length c0_0, .slice A0_1 l0_1.length c0_1]) (t := 39) ?hr ?_; (case hd => rfl); (case hg => rfl); (case hr => first | (go_simp; done) | (go_simp; rfl)); intro gb693 hg w2 hbox hb; have n0_ := Aa (below_step (by repeat (first | (with_reducible first | exact HB.out | apply below_alloc | apply Pn | apply Dn) | exact HB.out)) hb); have n1_ := Aa (hbox); have n2_ := Aa ((by rw [hg]; exact (below_size (by repeat (first | (with_reducible first | exact HB.out | apply below_alloc | apply Pn | apply Dn) | exact HB.out))) : w.heap.size ≤ gb693)); have n3_ := Aa ((by rw [hg]; exact (below_size (by repeat (first | (with_reducible first | exact HB.out | apply below_alloc | apply Pn | apply Dn) | exact HB.out))) : w.heap.size ≤ gb693)); clear HB; have HB := n0_; have BK693 := n1_; have GW693 := n2_; have GE693 := n3_; clear n0_ n1_ n2_ n3_; clear hb hbox hg; have hcz3_0 : w2.cell? ⟨gb693, 0, none⟩ = some (.slice A0_0 l0_0.length c0_0) := (blk_cell BK693.out 0).trans rfl; have hcz3_1 : w2.cell? ⟨gb693, 1, none⟩ = some (.slice A0_1 l0_1.length c0_1) := (blk_cell BK693.out 1).trans rfl; have hfz3_0 := blk_frozen BK693.out 0; have hfz3_1 := blk_frozen BK693.out 1))
 go_loopg [10] k (fun kq v10 w' => ∃ (x10_1 : Int), v10 = .int .i64 x10_1 ∧ Aside0 (afterwordlaw19_small.l0 kq l0_0 (l0_0.length : Int) x10_1 l0_0 l0_1 = some r) ∧ Aside0 (kq ≤ k) ∧ Aside0 (w'.heap[gb693]? = some (.cells #[(.slice A0_0 l0_0.length c0_0), (.slice A0_1 l0_1.length c0_1)] 39 (0, 0))) ∧ Aside0 (Below w.heap.size w w'))
 case atStart => exact ⟨(0), (by first | rfl | (simp; done) | (simp [*]; done)), H', ⟨Nat.le_refl _⟩, ⟨by (with_reducible repeat (first | refine blk_drewN ?_ _ | refine blk_drew ?_ | refine blk_alloc ?_ _)); exact BK693.out⟩, ⟨by repeat (first | (with_reducible first | exact HB.out | apply below_alloc | apply Pn | apply Dn | refine below_set ?_ GE693.out) | exact HB.out)⟩⟩
 case round =>
  clear H'
  try clear p2
  try clear hcz3_0
  try clear hcz3_1
  try clear hfz3_0
  try clear hfz3_1
  obtain ⟨x10_1, rfl, HA, HK1, BK693, HB⟩ := hrel
  cases gk with
  | zero => exact absurd HA.out (by simp [afterwordlaw19_small.l0])
  | succ k1 =>
   have H := HA.out
   clear HA
   simp only [afterwordlaw19_small.l0] at H
   by_cases c4 : x10_1 < (l0_0.length : Int)
   ·rw [if_pos c4] at H
    have c4b0 : decide (x10_1 < (l0_0.length : Int)) = true := decide_eq_true c4
    clear c4
    by_cases c5 : 0 ≤ x10_1
    ·rw [if_pos c5] at H
     have c5b0 : decide (0 ≤ x10_1) = true := decide_eq_true c5
     clear c5
     by_cases c6 : x10_1 < (l0_0.length : Int)
     ·rw [if_pos c6] at H
      have c6b0 : decide (x10_1 < (l0_0.length : Int)) = true := decide_eq_true c6
      clear c6
      by_cases c7 : ((rd_T27 l0_0 x10_1).f0) < (-20000)
      ·rw [if_pos c7] at H
       have c7b0 : decide (((rd_T27 l0_0 x10_1).f0) < (-20000)) = true := decide_eq_true c7
       clear c7
       obtain rfl := Option.some.inj H
       have p694 : 0 ≤ (x10_1 : Int) := of_decide_eq_true (by first | (with_reducible assumption) | assumption)
       have q694 : x10_1 < (l0_0.length : Int) := of_decide_eq_true (by first | (with_reducible assumption) | assumption)
       obtain ⟨ad694, e694, hx694_0, hx694_1⟩ := at_T27 HR0_0.out x10_1 p694 q694
       cases e694
       replace hx694_0 := (HB.out.cell (World.block_lt_of_cell? w _ hx694_0)).trans hx694_0
       replace hx694_1 := (HB.out.cell (World.block_lt_of_cell? w _ hx694_1)).trans hx694_1
       replace p694 := eq_true p694
       replace q694 := eq_true q694
       go_wp2_with (first | ((with_reducible refine gate_dst (N := 4) rfl ?_); refine box_event ?hg (N := 4) ?hd (cs := #[.int .i64 0, .int .i64 0]) (t := 27) ?hr ?_; (case hd => rfl); (case hg => rfl); (case hr => first | (go_simp; done) | (go_simp; rfl)); intro gb695 hg w8 hbox hb; have n0_ := Aa (blk_below (g := gb693) (o := .cells #[.slice (some ad694) l0_0.length c0_0, .slice A0_1 l0_1.length c0_1] 39 (0, 0)) (by (with_reducible repeat (first | refine blk_drewN ?_ _ | refine blk_drew ?_ | refine blk_alloc ?_ _)); exact BK693.out) hb); have n1_ := Aa (below_step (by repeat (first | (with_reducible first | exact HB.out | apply below_alloc | apply Pn | apply Dn | refine below_set ?_ GE693.out) | exact HB.out)) hb); have n2_ := Aa (hbox); have n3_ := Aa ((by rw [hg]; exact (below_size (by repeat (first | (with_reducible first | exact HB.out | apply below_alloc | apply Pn | apply Dn | refine below_set ?_ GE693.out) | exact HB.out))) : w.heap.size ≤ gb695)); have n4_ := Aa ((by rw [hg]; exact (below_size (by repeat (first | (with_reducible first | exact HB.out | apply below_alloc | apply Pn | apply Dn | refine below_set ?_ GE693.out) | exact HB.out))) : w.heap.size ≤ gb695)); have n5_ := Aa ((by rw [hg]; exact Nat.ne_of_lt (blk_lt (g := gb693) (o := .cells #[.slice (some ad694) l0_0.length c0_0, .slice A0_1 l0_1.length c0_1] 39 (0, 0)) (by (with_reducible repeat (first | refine blk_drewN ?_ _ | refine blk_drew ?_ | refine blk_alloc ?_ _)); exact BK693.out)) : gb693 ≠ gb695)); have n6_ := Aa ((by rw [hg]; exact Nat.ne_of_gt (blk_lt (g := gb693) (o := .cells #[.slice (some ad694) l0_0.length c0_0, .slice A0_1 l0_1.length c0_1] 39 (0, 0)) (by (with_reducible repeat (first | refine blk_drewN ?_ _ | refine blk_drew ?_ | refine blk_alloc ?_ _)); exact BK693.out)) : gb695 ≠ gb693)); clear BK693; clear HB; have BK693 := n0_; have HB := n1_; have BK695 := n2_; have GW695 := n3_; have GE695 := n4_; have NB693_695 := n5_; have NB695_693 := n6_; clear n0_ n1_ n2_ n3_ n4_ n5_ n6_; clear hb hbox hg; have hnb9 := NB695_693.out; have hnc9 := NB693_695.out; have hcz10_0 : w8.cell? ⟨gb695, 0, none⟩ = some (.int .i64 0) := (blk_cell BK695.out 0).trans rfl; have hcz10_1 : w8.cell? ⟨gb695, 1, none⟩ = some (.int .i64 0) := (blk_cell BK695.out 1).trans rfl; have hfz10_0 := blk_frozen BK695.out 0; have hfz10_1 := blk_frozen BK695.out 1))
       go_ret
       exact ⟨by first | rfl | (simp [errW_none, errW_some] <;> rfl) | (simp [*, errW_none, errW_some] <;> rfl), by repeat (first | (with_reducible first | exact HB.out | apply below_alloc | apply Pn | apply Dn | refine below_set ?_ GE693.out | refine below_set ?_ GE695.out) | exact HB.out)⟩
      ·rw [if_neg c7] at H
       have c7b0 : decide (((rd_T27 l0_0 x10_1).f0) < (-20000)) = false := decide_eq_false c7
       clear c7
       by_cases c11 : ((rd_T27 l0_0 x10_1).f1) > 20000
       ·rw [if_pos c11] at H
        have c11b0 : decide (20000 < ((rd_T27 l0_0 x10_1).f1)) = true := decide_eq_true c11
        clear c11
        obtain rfl := Option.some.inj H
        have p694 : 0 ≤ (x10_1 : Int) := of_decide_eq_true (by first | (with_reducible assumption) | assumption)
        have q694 : x10_1 < (l0_0.length : Int) := of_decide_eq_true (by first | (with_reducible assumption) | assumption)
        obtain ⟨ad694, e694, hx694_0, hx694_1⟩ := at_T27 HR0_0.out x10_1 p694 q694
        cases e694
        replace hx694_0 := (HB.out.cell (World.block_lt_of_cell? w _ hx694_0)).trans hx694_0
        replace hx694_1 := (HB.out.cell (World.block_lt_of_cell? w _ hx694_1)).trans hx694_1
        replace p694 := eq_true p694
        replace q694 := eq_true q694
        go_wp2_with (first | ((with_reducible refine gate_dst (N := 4) rfl ?_); refine box_event ?hg (N := 4) ?hd (cs := #[.int .i64 0, .int .i64 0]) (t := 27) ?hr ?_; (case hd => rfl); (case hg => rfl); (case hr => first | (go_simp; done) | (go_simp; rfl)); intro gb695 hg w12 hbox hb; have n0_ := Aa (blk_below (g := gb693) (o := .cells #[.slice (some ad694) l0_0.length c0_0, .slice A0_1 l0_1.length c0_1] 39 (0, 0)) (by (with_reducible repeat (first | refine blk_drewN ?_ _ | refine blk_drew ?_ | refine blk_alloc ?_ _)); exact BK693.out) hb); have n1_ := Aa (below_step (by repeat (first | (with_reducible first | exact HB.out | apply below_alloc | apply Pn | apply Dn | refine below_set ?_ GE693.out) | exact HB.out)) hb); have n2_ := Aa (hbox); have n3_ := Aa ((by rw [hg]; exact (below_size (by repeat (first | (with_reducible first | exact HB.out | apply below_alloc | apply Pn | apply Dn | refine below_set ?_ GE693.out) | exact HB.out))) : w.heap.size ≤ gb695)); have n4_ := Aa ((by rw [hg]; exact (below_size (by repeat (first | (with_reducible first | exact HB.out | apply below_alloc | apply Pn | apply Dn | refine below_set ?_ GE693.out) | exact HB.out))) : w.heap.size ≤ gb695)); have n5_ := Aa ((by rw [hg]; exact Nat.ne_of_lt (blk_lt (g := gb693) (o := .cells #[.slice (some ad694) l0_0.length c0_0, .slice A0_1 l0_1.length c0_1] 39 (0, 0)) (by (with_reducible repeat (first | refine blk_drewN ?_ _ | refine blk_drew ?_ | refine blk_alloc ?_ _)); exact BK693.out)) : gb693 ≠ gb695)); have n6_ := Aa ((by rw [hg]; exact Nat.ne_of_gt (blk_lt (g := gb693) (o := .cells #[.slice (some ad694) l0_0.length c0_0, .slice A0_1 l0_1.length c0_1] 39 (0, 0)) (by (with_reducible repeat (first | refine blk_drewN ?_ _ | refine blk_drew ?_ | refine blk_alloc ?_ _)); exact BK693.out)) : gb695 ≠ gb693)); clear BK693; clear HB; have BK693 := n0_; have HB := n1_; have BK695 := n2_; have GW695 := n3_; have GE695 := n4_; have NB693_695 := n5_; have NB695_693 := n6_; clear n0_ n1_ n2_ n3_ n4_ n5_ n6_; clear hb hbox hg; have hnb13 := NB695_693.out; have hnc13 := NB693_695.out; have hcz14_0 : w12.cell? ⟨gb695, 0, none⟩ = some (.int .i64 0) := (blk_cell BK695.out 0).trans rfl; have hcz14_1 : w12.cell? ⟨gb695, 1, none⟩ = some (.int .i64 0) := (blk_cell BK695.out 1).trans rfl; have hfz14_0 := blk_frozen BK695.out 0; have hfz14_1 := blk_frozen BK695.out 1))
        go_ret
        exact ⟨by first | rfl | (simp [errW_none, errW_some] <;> rfl) | (simp [*, errW_none, errW_some] <;> rfl), by repeat (first | (with_reducible first | exact HB.out | apply below_alloc | apply Pn | apply Dn | refine below_set ?_ GE693.out | refine below_set ?_ GE695.out) | exact HB.out)⟩
       ·rw [if_neg c11] at H
        have c11b0 : decide (20000 < ((rd_T27 l0_0 x10_1).f1)) = false := decide_eq_false c11
        clear c11
        have H' := Aa H
        clear H
        have p694 : 0 ≤ (x10_1 : Int) := of_decide_eq_true (by first | (with_reducible assumption) | assumption)
        have q694 : x10_1 < (l0_0.length : Int) := of_decide_eq_true (by first | (with_reducible assumption) | assumption)
        obtain ⟨ad694, e694, hx694_0, hx694_1⟩ := at_T27 HR0_0.out x10_1 p694 q694
        cases e694
        replace hx694_0 := (HB.out.cell (World.block_lt_of_cell? w _ hx694_0)).trans hx694_0
        replace hx694_1 := (HB.out.cell (World.block_lt_of_cell? w _ hx694_1)).trans hx694_1
        replace p694 := eq_true p694
        replace q694 := eq_true q694
        go_wp2_with (first | ((with_reducible refine gate_dst (N := 4) rfl ?_); refine box_event ?hg (N := 4) ?hd (cs := #[.int .i64 0, .int .i64 0]) (t := 27) ?hr ?_; (case hd => rfl); (case hg => rfl); (case hr => first | (go_simp; done) | (go_simp; rfl)); intro gb695 hg w15 hbox hb; have n0_ := Aa (blk_below (g := gb693) (o := .cells #[.slice (some ad694) l0_0.length c0_0, .slice A0_1 l0_1.length c0_1] 39 (0, 0)) (by (with_reducible repeat (first | refine blk_drewN ?_ _ | refine blk_drew ?_ | refine blk_alloc ?_ _)); exact BK693.out) hb); have n1_ := Aa (below_step (by repeat (first | (with_reducible first | exact HB.out | apply below_alloc | apply Pn | apply Dn | refine below_set ?_ GE693.out) | exact HB.out)) hb); have n2_ := Aa (hbox); have n3_ := Aa ((by rw [hg]; exact (below_size (by repeat (first | (with_reducible first | exact HB.out | apply below_alloc | apply Pn | apply Dn | refine below_set ?_ GE693.out) | exact HB.out))) : w.heap.size ≤ gb695)); have n4_ := Aa ((by rw [hg]; exact (below_size (by repeat (first | (with_reducible first | exact HB.out | apply below_alloc | apply Pn | apply Dn | refine below_set ?_ GE693.out) | exact HB.out))) : w.heap.size ≤ gb695)); have n5_ := Aa ((by rw [hg]; exact Nat.ne_of_lt (blk_lt (g := gb693) (o := .cells #[.slice (some ad694) l0_0.length c0_0, .slice A0_1 l0_1.length c0_1] 39 (0, 0)) (by (with_reducible repeat (first | refine blk_drewN ?_ _ | refine blk_drew ?_ | refine blk_alloc ?_ _)); exact BK693.out)) : gb693 ≠ gb695)); have n6_ := Aa ((by rw [hg]; exact Nat.ne_of_gt (blk_lt (g := gb693) (o := .cells #[.slice (some ad694) l0_0.length c0_0, .slice A0_1 l0_1.length c0_1] 39 (0, 0)) (by (with_reducible repeat (first | refine blk_drewN ?_ _ | refine blk_drew ?_ | refine blk_alloc ?_ _)); exact BK693.out)) : gb695 ≠ gb693)); clear BK693; clear HB; have BK693 := n0_; have HB := n1_; have BK695 := n2_; have GW695 := n3_; have GE695 := n4_; have NB693_695 := n5_; have NB695_693 := n6_; clear n0_ n1_ n2_ n3_ n4_ n5_ n6_; clear hb hbox hg; have hnb16 := NB695_693.out; have hnc16 := NB693_695.out; have hcz17_0 : w15.cell? ⟨gb695, 0, none⟩ = some (.int .i64 0) := (blk_cell BK695.out 0).trans rfl; have hcz17_1 : w15.cell? ⟨gb695, 1, none⟩ = some (.int .i64 0) := (blk_cell BK695.out 1).trans rfl; have hfz17_0 := blk_frozen BK695.out 0; have hfz17_1 := blk_frozen BK695.out 1))
        go_roundg k1
        case measure => have := HK1.out; omega
        case rel => exact ⟨(wrap64 (x10_1 + 1)), (by first | rfl | (simp; done) | (simp [*]; done)), H', ⟨by have := HK1.out; omega⟩, ⟨by (with_reducible repeat (first | refine blk_drewN ?_ _ | refine blk_drew ?_ | refine blk_alloc ?_ _)); refine blk_far ?_ NB693_695.out _; (with_reducible repeat (first | refine blk_drewN ?_ _ | refine blk_drew ?_ | refine blk_alloc ?_ _)); refine blk_far ?_ NB693_695.out _; (with_reducible repeat (first | refine blk_drewN ?_ _ | refine blk_drew ?_ | refine blk_alloc ?_ _)); exact BK693.out⟩, ⟨by repeat (first | (with_reducible first | exact HB.out | apply below_alloc | apply Pn | apply Dn | refine below_set ?_ GE693.out | refine below_set ?_ GE695.out) | exact HB.out)⟩⟩
     ·rw [if_neg c6] at H
      exact absurd H (by simp)
    ·rw [if_neg c5] at H
     exact absurd H (by simp)
   ·rw [if_neg c4] at H
    have c4b0 : decide (x10_1 < (l0_0.length : Int)) = false := decide_eq_false c4
    clear c4
    have H' := Aa H
    clear H
    have hcz18_0 : wr.cell? ⟨gb693, 0, none⟩ = some (.slice A0_0 l0_0.length c0_0) := (blk_cell BK693.out 0).trans rfl
    have hcz18_1 : wr.cell? ⟨gb693, 1, none⟩ = some (.slice A0_1 l0_1.length c0_1) := (blk_cell BK693.out 1).trans rfl
    have hfz18_0 := blk_frozen BK693.out 0
    have hfz18_1 := blk_frozen BK693.out 1
    go_wp2
    go_loopg [26] k1 (fun kq v26 w' => ∃ (x26_2 : Int), v26 = .int .i64 x26_2 ∧ Aside0 (afterwordlaw19_small.l1 kq l0_1 (l0_1.length : Int) x26_2 = some r) ∧ Aside0 (kq ≤ k1) ∧ Aside0 (w'.heap[gb693]? = some (.cells #[(.slice A0_0 l0_0.length c0_0), (.slice A0_1 l0_1.length c0_1)] 39 (0, 0))) ∧ Aside0 (Below w.heap.size w w'))
    case atStart => exact ⟨(0), (by first | rfl | (simp; done) | (simp [*]; done)), H', ⟨Nat.le_refl _⟩, ⟨by (with_reducible repeat (first | refine blk_drewN ?_ _ | refine blk_drew ?_ | refine blk_alloc ?_ _)); exact BK693.out⟩, ⟨by repeat (first | (with_reducible first | exact HB.out | apply below_alloc | apply Pn | apply Dn | refine below_set ?_ GE693.out) | exact HB.out)⟩⟩
    case round =>
     clear H'
     try clear c1
     try clear p2
     try clear c4
     try clear c4b0
     try clear c5
     try clear c5b0
     try clear c6
     try clear c6b0
     try clear p6
     try clear q6
     try clear hx6
     try clear c7
     try clear c7b0
     try clear c9
     try clear c11
     try clear c11b0
     try clear c13
     try clear c16
     try clear hcz10_0
     try clear hcz10_1
     try clear hcz14_0
     try clear hcz14_1
     try clear hcz17_0
     try clear hcz17_1
     try clear hcz18_0
     try clear hcz18_1
     try clear hcz3_0
     try clear hcz3_1
     try clear hfz10_0
     try clear hfz10_1
     try clear hfz14_0
     try clear hfz14_1
     try clear hfz17_0
     try clear hfz17_1
     try clear hfz18_0
     try clear hfz18_1
     try clear hfz3_0
     try clear hfz3_1
     try clear hx694_0
     try clear hx694_1
     try clear p2
     try clear p694
     try clear q694
     obtain ⟨x26_2, rfl, HA, HK2, BK693, HB⟩ := hrel
     cases gk with
     | zero => exact absurd HA.out (by simp [afterwordlaw19_small.l1])
     | succ k2 =>
      have H := HA.out
      clear HA
      simp only [afterwordlaw19_small.l1] at H
      by_cases c19 : x26_2 < (l0_1.length : Int)
      ·rw [if_pos c19] at H
       have c19b0 : decide (x26_2 < (l0_1.length : Int)) = true := decide_eq_true c19
       clear c19
       by_cases c20 : 0 ≤ x26_2
       ·rw [if_pos c20] at H
        have c20b0 : decide (0 ≤ x26_2) = true := decide_eq_true c20
        clear c20
        by_cases c21 : x26_2 < (l0_1.length : Int)
        ·rw [if_pos c21] at H
         have c21b0 : decide (x26_2 < (l0_1.length : Int)) = true := decide_eq_true c21
         clear c21
         by_cases c22 : ((rd_T86 l0_1 x26_2).f2) < (-20000)
         ·rw [if_pos c22] at H
          have c22b0 : decide (((rd_T86 l0_1 x26_2).f2) < (-20000)) = true := decide_eq_true c22
          clear c22
          obtain rfl := Option.some.inj H
          have p696 : 0 ≤ (x26_2 : Int) := of_decide_eq_true (by first | (with_reducible assumption) | assumption)
          have q696 : x26_2 < (l0_1.length : Int) := of_decide_eq_true (by first | (with_reducible assumption) | assumption)
          obtain ⟨ad696, e696, hx696_0, hx696_1, hx696_2, hx696_3⟩ := at_T86 HR0_1.out x26_2 p696 q696
          cases e696
          replace hx696_0 := (HB.out.cell (World.block_lt_of_cell? w _ hx696_0)).trans hx696_0
          replace hx696_1 := (HB.out.cell (World.block_lt_of_cell? w _ hx696_1)).trans hx696_1
          replace hx696_2 := (HB.out.cell (World.block_lt_of_cell? w _ hx696_2)).trans hx696_2
          replace hx696_3 := (HB.out.cell (World.block_lt_of_cell? w _ hx696_3)).trans hx696_3
          replace p696 := eq_true p696
          replace q696 := eq_true q696
          go_wp2_with (first | ((with_reducible refine gate_dst (N := 6) rfl ?_); refine box_event ?hg (N := 6) ?hd (cs := #[.int .i64 0, .int .i64 0, .int .i64 0, .int .i64 0]) (t := 86) ?hr ?_; (case hd => rfl); (case hg => rfl); (case hr => first | (go_simp; done) | (go_simp; rfl)); intro gb697 hg w23 hbox hb; have n0_ := Aa (blk_below (g := gb693) (o := .cells #[.slice A0_0 l0_0.length c0_0, .slice (some ad696) l0_1.length c0_1] 39 (0, 0)) (by (with_reducible repeat (first | refine blk_drewN ?_ _ | refine blk_drew ?_ | refine blk_alloc ?_ _)); exact BK693.out) hb); have n1_ := Aa (below_step (by repeat (first | (with_reducible first | exact HB.out | apply below_alloc | apply Pn | apply Dn | refine below_set ?_ GE693.out) | exact HB.out)) hb); have n2_ := Aa (hbox); have n3_ := Aa ((by rw [hg]; exact (below_size (by repeat (first | (with_reducible first | exact HB.out | apply below_alloc | apply Pn | apply Dn | refine below_set ?_ GE693.out) | exact HB.out))) : w.heap.size ≤ gb697)); have n4_ := Aa ((by rw [hg]; exact (below_size (by repeat (first | (with_reducible first | exact HB.out | apply below_alloc | apply Pn | apply Dn | refine below_set ?_ GE693.out) | exact HB.out))) : w.heap.size ≤ gb697)); have n5_ := Aa ((by rw [hg]; exact Nat.ne_of_lt (blk_lt (g := gb693) (o := .cells #[.slice A0_0 l0_0.length c0_0, .slice (some ad696) l0_1.length c0_1] 39 (0, 0)) (by (with_reducible repeat (first | refine blk_drewN ?_ _ | refine blk_drew ?_ | refine blk_alloc ?_ _)); exact BK693.out)) : gb693 ≠ gb697)); have n6_ := Aa ((by rw [hg]; exact Nat.ne_of_gt (blk_lt (g := gb693) (o := .cells #[.slice A0_0 l0_0.length c0_0, .slice (some ad696) l0_1.length c0_1] 39 (0, 0)) (by (with_reducible repeat (first | refine blk_drewN ?_ _ | refine blk_drew ?_ | refine blk_alloc ?_ _)); exact BK693.out)) : gb697 ≠ gb693)); clear BK693; clear HB; have BK693 := n0_; have HB := n1_; have BK697 := n2_; have GW697 := n3_; have GE697 := n4_; have NB693_697 := n5_; have NB697_693 := n6_; clear n0_ n1_ n2_ n3_ n4_ n5_ n6_; clear hb hbox hg; have hnb24 := NB697_693.out; have hnc24 := NB693_697.out; have hcz25_0 : w23.cell? ⟨gb697, 0, none⟩ = some (.int .i64 0) := (blk_cell BK697.out 0).trans rfl; have hcz25_1 : w23.cell? ⟨gb697, 1, none⟩ = some (.int .i64 0) := (blk_cell BK697.out 1).trans rfl; have hcz25_2 : w23.cell? ⟨gb697, 2, none⟩ = some (.int .i64 0) := (blk_cell BK697.out 2).trans rfl; have hcz25_3 : w23.cell? ⟨gb697, 3, none⟩ = some (.int .i64 0) := (blk_cell BK697.out 3).trans rfl; have hfz25_0 := blk_frozen BK697.out 0; have hfz25_1 := blk_frozen BK697.out 1; have hfz25_2 := blk_frozen BK697.out 2; have hfz25_3 := blk_frozen BK697.out 3))
          go_ret
          exact ⟨by first | rfl | (simp [errW_none, errW_some] <;> rfl) | (simp [*, errW_none, errW_some] <;> rfl), by repeat (first | (with_reducible first | exact HB.out | apply below_alloc | apply Pn | apply Dn | refine below_set ?_ GE693.out | refine below_set ?_ GE697.out) | exact HB.out)⟩
         ·rw [if_neg c22] at H
          have c22b0 : decide (((rd_T86 l0_1 x26_2).f2) < (-20000)) = false := decide_eq_false c22
          clear c22
          by_cases c26 : ((rd_T86 l0_1 x26_2).f2) > 20000
          ·rw [if_pos c26] at H
           have c26b0 : decide (20000 < ((rd_T86 l0_1 x26_2).f2)) = true := decide_eq_true c26
           clear c26
           obtain rfl := Option.some.inj H
           have p696 : 0 ≤ (x26_2 : Int) := of_decide_eq_true (by first | (with_reducible assumption) | assumption)
           have q696 : x26_2 < (l0_1.length : Int) := of_decide_eq_true (by first | (with_reducible assumption) | assumption)
           obtain ⟨ad696, e696, hx696_0, hx696_1, hx696_2, hx696_3⟩ := at_T86 HR0_1.out x26_2 p696 q696
           cases e696
           replace hx696_0 := (HB.out.cell (World.block_lt_of_cell? w _ hx696_0)).trans hx696_0
           replace hx696_1 := (HB.out.cell (World.block_lt_of_cell? w _ hx696_1)).trans hx696_1
           replace hx696_2 := (HB.out.cell (World.block_lt_of_cell? w _ hx696_2)).trans hx696_2
           replace hx696_3 := (HB.out.cell (World.block_lt_of_cell? w _ hx696_3)).trans hx696_3
           replace p696 := eq_true p696
           replace q696 := eq_true q696
           go_wp2_with (first | ((with_reducible refine gate_dst (N := 6) rfl ?_); refine box_event ?hg (N := 6) ?hd (cs := #[.int .i64 0, .int .i64 0, .int .i64 0, .int .i64 0]) (t := 86) ?hr ?_; (case hd => rfl); (case hg => rfl); (case hr => first | (go_simp; done) | (go_simp; rfl)); intro gb697 hg w27 hbox hb; have n0_ := Aa (blk_below (g := gb693) (o := .cells #[.slice A0_0 l0_0.length c0_0, .slice (some ad696) l0_1.length c0_1] 39 (0, 0)) (by (with_reducible repeat (first | refine blk_drewN ?_ _ | refine blk_drew ?_ | refine blk_alloc ?_ _)); exact BK693.out) hb); have n1_ := Aa (below_step (by repeat (first | (with_reducible first | exact HB.out | apply below_alloc | apply Pn | apply Dn | refine below_set ?_ GE693.out) | exact HB.out)) hb); have n2_ := Aa (hbox); have n3_ := Aa ((by rw [hg]; exact (below_size (by repeat (first | (with_reducible first | exact HB.out | apply below_alloc | apply Pn | apply Dn | refine below_set ?_ GE693.out) | exact HB.out))) : w.heap.size ≤ gb697)); have n4_ := Aa ((by rw [hg]; exact (below_size (by repeat (first | (with_reducible first | exact HB.out | apply below_alloc | apply Pn | apply Dn | refine below_set ?_ GE693.out) | exact HB.out))) : w.heap.size ≤ gb697)); have n5_ := Aa ((by rw [hg]; exact Nat.ne_of_lt (blk_lt (g := gb693) (o := .cells #[.slice A0_0 l0_0.length c0_0, .slice (some ad696) l0_1.length c0_1] 39 (0, 0)) (by (with_reducible repeat (first | refine blk_drewN ?_ _ | refine blk_drew ?_ | refine blk_alloc ?_ _)); exact BK693.out)) : gb693 ≠ gb697)); have n6_ := Aa ((by rw [hg]; exact Nat.ne_of_gt (blk_lt (g := gb693) (o := .cells #[.slice A0_0 l0_0.length c0_0, .slice (some ad696) l0_1.length c0_1] 39 (0, 0)) (by (with_reducible repeat (first | refine blk_drewN ?_ _ | refine blk_drew ?_ | refine blk_alloc ?_ _)); exact BK693.out)) : gb697 ≠ gb693)); clear BK693; clear HB; have BK693 := n0_; have HB := n1_; have BK697 := n2_; have GW697 := n3_; have GE697 := n4_; have NB693_697 := n5_; have NB697_693 := n6_; clear n0_ n1_ n2_ n3_ n4_ n5_ n6_; clear hb hbox hg; have hnb28 := NB697_693.out; have hnc28 := NB693_697.out; have hcz29_0 : w27.cell? ⟨gb697, 0, none⟩ = some (.int .i64 0) := (blk_cell BK697.out 0).trans rfl; have hcz29_1 : w27.cell? ⟨gb697, 1, none⟩ = some (.int .i64 0) := (blk_cell BK697.out 1).trans rfl; have hcz29_2 : w27.cell? ⟨gb697, 2, none⟩ = some (.int .i64 0) := (blk_cell BK697.out 2).trans rfl; have hcz29_3 : w27.cell? ⟨gb697, 3, none⟩ = some (.int .i64 0) := (blk_cell BK697.out 3).trans rfl; have hfz29_0 := blk_frozen BK697.out 0; have hfz29_1 := blk_frozen BK697.out 1; have hfz29_2 := blk_frozen BK697.out 2; have hfz29_3 := blk_frozen BK697.out 3))
           go_ret
           exact ⟨by first | rfl | (simp [errW_none, errW_some] <;> rfl) | (simp [*, errW_none, errW_some] <;> rfl), by repeat (first | (with_reducible first | exact HB.out | apply below_alloc | apply Pn | apply Dn | refine below_set ?_ GE693.out | refine below_set ?_ GE697.out) | exact HB.out)⟩
          ·rw [if_neg c26] at H
           have c26b0 : decide (20000 < ((rd_T86 l0_1 x26_2).f2)) = false := decide_eq_false c26
           clear c26
           by_cases c30 : ((rd_T86 l0_1 x26_2).f3) < (-20000)
           ·rw [if_pos c30] at H
            have c30b0 : decide (((rd_T86 l0_1 x26_2).f3) < (-20000)) = true := decide_eq_true c30
            clear c30
            obtain rfl := Option.some.inj H
            have p696 : 0 ≤ (x26_2 : Int) := of_decide_eq_true (by first | (with_reducible assumption) | assumption)
            have q696 : x26_2 < (l0_1.length : Int) := of_decide_eq_true (by first | (with_reducible assumption) | assumption)
            obtain ⟨ad696, e696, hx696_0, hx696_1, hx696_2, hx696_3⟩ := at_T86 HR0_1.out x26_2 p696 q696
            cases e696
            replace hx696_0 := (HB.out.cell (World.block_lt_of_cell? w _ hx696_0)).trans hx696_0
            replace hx696_1 := (HB.out.cell (World.block_lt_of_cell? w _ hx696_1)).trans hx696_1
            replace hx696_2 := (HB.out.cell (World.block_lt_of_cell? w _ hx696_2)).trans hx696_2
            replace hx696_3 := (HB.out.cell (World.block_lt_of_cell? w _ hx696_3)).trans hx696_3
            replace p696 := eq_true p696
            replace q696 := eq_true q696
            go_wp2_with (first | ((with_reducible refine gate_dst (N := 6) rfl ?_); refine box_event ?hg (N := 6) ?hd (cs := #[.int .i64 0, .int .i64 0, .int .i64 0, .int .i64 0]) (t := 86) ?hr ?_; (case hd => rfl); (case hg => rfl); (case hr => first | (go_simp; done) | (go_simp; rfl)); intro gb697 hg w31 hbox hb; have n0_ := Aa (blk_below (g := gb693) (o := .cells #[.slice A0_0 l0_0.length c0_0, .slice (some ad696) l0_1.length c0_1] 39 (0, 0)) (by (with_reducible repeat (first | refine blk_drewN ?_ _ | refine blk_drew ?_ | refine blk_alloc ?_ _)); exact BK693.out) hb); have n1_ := Aa (below_step (by repeat (first | (with_reducible first | exact HB.out | apply below_alloc | apply Pn | apply Dn | refine below_set ?_ GE693.out) | exact HB.out)) hb); have n2_ := Aa (hbox); have n3_ := Aa ((by rw [hg]; exact (below_size (by repeat (first | (with_reducible first | exact HB.out | apply below_alloc | apply Pn | apply Dn | refine below_set ?_ GE693.out) | exact HB.out))) : w.heap.size ≤ gb697)); have n4_ := Aa ((by rw [hg]; exact (below_size (by repeat (first | (with_reducible first | exact HB.out | apply below_alloc | apply Pn | apply Dn | refine below_set ?_ GE693.out) | exact HB.out))) : w.heap.size ≤ gb697)); have n5_ := Aa ((by rw [hg]; exact Nat.ne_of_lt (blk_lt (g := gb693) (o := .cells #[.slice A0_0 l0_0.length c0_0, .slice (some ad696) l0_1.length c0_1] 39 (0, 0)) (by (with_reducible repeat (first | refine blk_drewN ?_ _ | refine blk_drew ?_ | refine blk_alloc ?_ _)); exact BK693.out)) : gb693 ≠ gb697)); have n6_ := Aa ((by rw [hg]; exact Nat.ne_of_gt (blk_lt (g := gb693) (o := .cells #[.slice A0_0 l0_0.length c0_0, .slice (some ad696) l0_1.length c0_1] 39 (0, 0)) (by (with_reducible repeat (first | refine blk_drewN ?_ _ | refine blk_drew ?_ | refine blk_alloc ?_ _)); exact BK693.out)) : gb697 ≠ gb693)); clear BK693; clear HB; have BK693 := n0_; have HB := n1_; have BK697 := n2_; have GW697 := n3_; have GE697 := n4_; have NB693_697 := n5_; have NB697_693 := n6_; clear n0_ n1_ n2_ n3_ n4_ n5_ n6_; clear hb hbox hg; have hnb32 := NB697_693.out; have hnc32 := NB693_697.out; have hcz33_0 : w31.cell? ⟨gb697, 0, none⟩ = some (.int .i64 0) := (blk_cell BK697.out 0).trans rfl; have hcz33_1 : w31.cell? ⟨gb697, 1, none⟩ = some (.int .i64 0) := (blk_cell BK697.out 1).trans rfl; have hcz33_2 : w31.cell? ⟨gb697, 2, none⟩ = some (.int .i64 0) := (blk_cell BK697.out 2).trans rfl; have hcz33_3 : w31.cell? ⟨gb697, 3, none⟩ = some (.int .i64 0) := (blk_cell BK697.out 3).trans rfl; have hfz33_0 := blk_frozen BK697.out 0; have hfz33_1 := blk_frozen BK697.out 1; have hfz33_2 := blk_frozen BK697.out 2; have hfz33_3 := blk_frozen BK697.out 3))
            go_ret
            exact ⟨by first | rfl | (simp [errW_none, errW_some] <;> rfl) | (simp [*, errW_none, errW_some] <;> rfl), by repeat (first | (with_reducible first | exact HB.out | apply below_alloc | apply Pn | apply Dn | refine below_set ?_ GE693.out | refine below_set ?_ GE697.out) | exact HB.out)⟩
           ·rw [if_neg c30] at H
            have c30b0 : decide (((rd_T86 l0_1 x26_2).f3) < (-20000)) = false := decide_eq_false c30
            clear c30
            by_cases c34 : ((rd_T86 l0_1 x26_2).f3) > 20000
            ·rw [if_pos c34] at H
             have c34b0 : decide (20000 < ((rd_T86 l0_1 x26_2).f3)) = true := decide_eq_true c34
             clear c34
             by_cases c35 : ((rd_T86 l0_1 x26_2).f3) < 2000000
             ·rw [if_pos c35] at H
              have c35b0 : decide (((rd_T86 l0_1 x26_2).f3) < 2000000) = true := decide_eq_true c35
              clear c35
              obtain rfl := Option.some.inj H
              have p696 : 0 ≤ (x26_2 : Int) := of_decide_eq_true (by first | (with_reducible assumption) | assumption)
              have q696 : x26_2 < (l0_1.length : Int) := of_decide_eq_true (by first | (with_reducible assumption) | assumption)
              obtain ⟨ad696, e696, hx696_0, hx696_1, hx696_2, hx696_3⟩ := at_T86 HR0_1.out x26_2 p696 q696
              cases e696
              replace hx696_0 := (HB.out.cell (World.block_lt_of_cell? w _ hx696_0)).trans hx696_0
              replace hx696_1 := (HB.out.cell (World.block_lt_of_cell? w _ hx696_1)).trans hx696_1
              replace hx696_2 := (HB.out.cell (World.block_lt_of_cell? w _ hx696_2)).trans hx696_2
              replace hx696_3 := (HB.out.cell (World.block_lt_of_cell? w _ hx696_3)).trans hx696_3
              replace p696 := eq_true p696
              replace q696 := eq_true q696
              go_wp2_with (first | ((with_reducible refine gate_dst (N := 6) rfl ?_); refine box_event ?hg (N := 6) ?hd (cs := #[.int .i64 0, .int .i64 0, .int .i64 0, .int .i64 0]) (t := 86) ?hr ?_; (case hd => rfl); (case hg => rfl); (case hr => first | (go_simp; done) | (go_simp; rfl)); intro gb697 hg w36 hbox hb; have n0_ := Aa (blk_below (g := gb693) (o := .cells #[.slice A0_0 l0_0.length c0_0, .slice (some ad696) l0_1.length c0_1] 39 (0, 0)) (by (with_reducible repeat (first | refine blk_drewN ?_ _ | refine blk_drew ?_ | refine blk_alloc ?_ _)); exact BK693.out) hb); have n1_ := Aa (below_step (by repeat (first | (with_reducible first | exact HB.out | apply below_alloc | apply Pn | apply Dn | refine below_set ?_ GE693.out) | exact HB.out)) hb); have n2_ := Aa (hbox); have n3_ := Aa ((by rw [hg]; exact (below_size (by repeat (first | (with_reducible first | exact HB.out | apply below_alloc | apply Pn | apply Dn | refine below_set ?_ GE693.out) | exact HB.out))) : w.heap.size ≤ gb697)); have n4_ := Aa ((by rw [hg]; exact (below_size (by repeat (first | (with_reducible first | exact HB.out | apply below_alloc | apply Pn | apply Dn | refine below_set ?_ GE693.out) | exact HB.out))) : w.heap.size ≤ gb697)); have n5_ := Aa ((by rw [hg]; exact Nat.ne_of_lt (blk_lt (g := gb693) (o := .cells #[.slice A0_0 l0_0.length c0_0, .slice (some ad696) l0_1.length c0_1] 39 (0, 0)) (by (with_reducible repeat (first | refine blk_drewN ?_ _ | refine blk_drew ?_ | refine blk_alloc ?_ _)); exact BK693.out)) : gb693 ≠ gb697)); have n6_ := Aa ((by rw [hg]; exact Nat.ne_of_gt (blk_lt (g := gb693) (o := .cells #[.slice A0_0 l0_0.length c0_0, .slice (some ad696) l0_1.length c0_1] 39 (0, 0)) (by (with_reducible repeat (first | refine blk_drewN ?_ _ | refine blk_drew ?_ | refine blk_alloc ?_ _)); exact BK693.out)) : gb697 ≠ gb693)); clear BK693; clear HB; have BK693 := n0_; have HB := n1_; have BK697 := n2_; have GW697 := n3_; have GE697 := n4_; have NB693_697 := n5_; have NB697_693 := n6_; clear n0_ n1_ n2_ n3_ n4_ n5_ n6_; clear hb hbox hg; have hnb37 := NB697_693.out; have hnc37 := NB693_697.out; have hcz38_0 : w36.cell? ⟨gb697, 0, none⟩ = some (.int .i64 0) := (blk_cell BK697.out 0).trans rfl; have hcz38_1 : w36.cell? ⟨gb697, 1, none⟩ = some (.int .i64 0) := (blk_cell BK697.out 1).trans rfl; have hcz38_2 : w36.cell? ⟨gb697, 2, none⟩ = some (.int .i64 0) := (blk_cell BK697.out 2).trans rfl; have hcz38_3 : w36.cell? ⟨gb697, 3, none⟩ = some (.int .i64 0) := (blk_cell BK697.out 3).trans rfl; have hfz38_0 := blk_frozen BK697.out 0; have hfz38_1 := blk_frozen BK697.out 1; have hfz38_2 := blk_frozen BK697.out 2; have hfz38_3 := blk_frozen BK697.out 3))
              go_ret
              exact ⟨by first | rfl | (simp [errW_none, errW_some] <;> rfl) | (simp [*, errW_none, errW_some] <;> rfl), by repeat (first | (with_reducible first | exact HB.out | apply below_alloc | apply Pn | apply Dn | refine below_set ?_ GE693.out | refine below_set ?_ GE697.out) | exact HB.out)⟩
             ·rw [if_neg c35] at H
              have c35b0 : decide (((rd_T86 l0_1 x26_2).f3) < 2000000) = false := decide_eq_false c35
              clear c35
              have H' := Aa H
              clear H
              have p696 : 0 ≤ (x26_2 : Int) := of_decide_eq_true (by first | (with_reducible assumption) | assumption)
              have q696 : x26_2 < (l0_1.length : Int) := of_decide_eq_true (by first | (with_reducible assumption) | assumption)
              obtain ⟨ad696, e696, hx696_0, hx696_1, hx696_2, hx696_3⟩ := at_T86 HR0_1.out x26_2 p696 q696
              cases e696
              replace hx696_0 := (HB.out.cell (World.block_lt_of_cell? w _ hx696_0)).trans hx696_0
              replace hx696_1 := (HB.out.cell (World.block_lt_of_cell? w _ hx696_1)).trans hx696_1
              replace hx696_2 := (HB.out.cell (World.block_lt_of_cell? w _ hx696_2)).trans hx696_2
              replace hx696_3 := (HB.out.cell (World.block_lt_of_cell? w _ hx696_3)).trans hx696_3
              replace p696 := eq_true p696
              replace q696 := eq_true q696
              go_wp2_with (first | ((with_reducible refine gate_dst (N := 6) rfl ?_); refine box_event ?hg (N := 6) ?hd (cs := #[.int .i64 0, .int .i64 0, .int .i64 0, .int .i64 0]) (t := 86) ?hr ?_; (case hd => rfl); (case hg => rfl); (case hr => first | (go_simp; done) | (go_simp; rfl)); intro gb697 hg w39 hbox hb; have n0_ := Aa (blk_below (g := gb693) (o := .cells #[.slice A0_0 l0_0.length c0_0, .slice (some ad696) l0_1.length c0_1] 39 (0, 0)) (by (with_reducible repeat (first | refine blk_drewN ?_ _ | refine blk_drew ?_ | refine blk_alloc ?_ _)); exact BK693.out) hb); have n1_ := Aa (below_step (by repeat (first | (with_reducible first | exact HB.out | apply below_alloc | apply Pn | apply Dn | refine below_set ?_ GE693.out) | exact HB.out)) hb); have n2_ := Aa (hbox); have n3_ := Aa ((by rw [hg]; exact (below_size (by repeat (first | (with_reducible first | exact HB.out | apply below_alloc | apply Pn | apply Dn | refine below_set ?_ GE693.out) | exact HB.out))) : w.heap.size ≤ gb697)); have n4_ := Aa ((by rw [hg]; exact (below_size (by repeat (first | (with_reducible first | exact HB.out | apply below_alloc | apply Pn | apply Dn | refine below_set ?_ GE693.out) | exact HB.out))) : w.heap.size ≤ gb697)); have n5_ := Aa ((by rw [hg]; exact Nat.ne_of_lt (blk_lt (g := gb693) (o := .cells #[.slice A0_0 l0_0.length c0_0, .slice (some ad696) l0_1.length c0_1] 39 (0, 0)) (by (with_reducible repeat (first | refine blk_drewN ?_ _ | refine blk_drew ?_ | refine blk_alloc ?_ _)); exact BK693.out)) : gb693 ≠ gb697)); have n6_ := Aa ((by rw [hg]; exact Nat.ne_of_gt (blk_lt (g := gb693) (o := .cells #[.slice A0_0 l0_0.length c0_0, .slice (some ad696) l0_1.length c0_1] 39 (0, 0)) (by (with_reducible repeat (first | refine blk_drewN ?_ _ | refine blk_drew ?_ | refine blk_alloc ?_ _)); exact BK693.out)) : gb697 ≠ gb693)); clear BK693; clear HB; have BK693 := n0_; have HB := n1_; have BK697 := n2_; have GW697 := n3_; have GE697 := n4_; have NB693_697 := n5_; have NB697_693 := n6_; clear n0_ n1_ n2_ n3_ n4_ n5_ n6_; clear hb hbox hg; have hnb40 := NB697_693.out; have hnc40 := NB693_697.out; have hcz41_0 : w39.cell? ⟨gb697, 0, none⟩ = some (.int .i64 0) := (blk_cell BK697.out 0).trans rfl; have hcz41_1 : w39.cell? ⟨gb697, 1, none⟩ = some (.int .i64 0) := (blk_cell BK697.out 1).trans rfl; have hcz41_2 : w39.cell? ⟨gb697, 2, none⟩ = some (.int .i64 0) := (blk_cell BK697.out 2).trans rfl; have hcz41_3 : w39.cell? ⟨gb697, 3, none⟩ = some (.int .i64 0) := (blk_cell BK697.out 3).trans rfl; have hfz41_0 := blk_frozen BK697.out 0; have hfz41_1 := blk_frozen BK697.out 1; have hfz41_2 := blk_frozen BK697.out 2; have hfz41_3 := blk_frozen BK697.out 3))
              go_roundg k2
              case measure => have := HK1.out; have := HK2.out; omega
              case rel => exact ⟨(wrap64 (x26_2 + 1)), (by first | rfl | (simp; done) | (simp [*]; done)), H', ⟨by have := HK1.out; have := HK2.out; omega⟩, ⟨by (with_reducible repeat (first | refine blk_drewN ?_ _ | refine blk_drew ?_ | refine blk_alloc ?_ _)); refine blk_far ?_ NB693_697.out _; (with_reducible repeat (first | refine blk_drewN ?_ _ | refine blk_drew ?_ | refine blk_alloc ?_ _)); refine blk_far ?_ NB693_697.out _; (with_reducible repeat (first | refine blk_drewN ?_ _ | refine blk_drew ?_ | refine blk_alloc ?_ _)); refine blk_far ?_ NB693_697.out _; (with_reducible repeat (first | refine blk_drewN ?_ _ | refine blk_drew ?_ | refine blk_alloc ?_ _)); refine blk_far ?_ NB693_697.out _; (with_reducible repeat (first | refine blk_drewN ?_ _ | refine blk_drew ?_ | refine blk_alloc ?_ _)); exact BK693.out⟩, ⟨by repeat (first | (with_reducible first | exact HB.out | apply below_alloc | apply Pn | apply Dn | refine below_set ?_ GE693.out | refine below_set ?_ GE697.out) | exact HB.out)⟩⟩
            ·rw [if_neg c34] at H
             have c34b0 : decide (20000 < ((rd_T86 l0_1 x26_2).f3)) = false := decide_eq_false c34
             clear c34
             have H' := Aa H
             clear H
             have p696 : 0 ≤ (x26_2 : Int) := of_decide_eq_true (by first | (with_reducible assumption) | assumption)
             have q696 : x26_2 < (l0_1.length : Int) := of_decide_eq_true (by first | (with_reducible assumption) | assumption)
             obtain ⟨ad696, e696, hx696_0, hx696_1, hx696_2, hx696_3⟩ := at_T86 HR0_1.out x26_2 p696 q696
             cases e696
             replace hx696_0 := (HB.out.cell (World.block_lt_of_cell? w _ hx696_0)).trans hx696_0
             replace hx696_1 := (HB.out.cell (World.block_lt_of_cell? w _ hx696_1)).trans hx696_1
             replace hx696_2 := (HB.out.cell (World.block_lt_of_cell? w _ hx696_2)).trans hx696_2
             replace hx696_3 := (HB.out.cell (World.block_lt_of_cell? w _ hx696_3)).trans hx696_3
             replace p696 := eq_true p696
             replace q696 := eq_true q696
             go_wp2_with (first | ((with_reducible refine gate_dst (N := 6) rfl ?_); refine box_event ?hg (N := 6) ?hd (cs := #[.int .i64 0, .int .i64 0, .int .i64 0, .int .i64 0]) (t := 86) ?hr ?_; (case hd => rfl); (case hg => rfl); (case hr => first | (go_simp; done) | (go_simp; rfl)); intro gb697 hg w42 hbox hb; have n0_ := Aa (blk_below (g := gb693) (o := .cells #[.slice A0_0 l0_0.length c0_0, .slice (some ad696) l0_1.length c0_1] 39 (0, 0)) (by (with_reducible repeat (first | refine blk_drewN ?_ _ | refine blk_drew ?_ | refine blk_alloc ?_ _)); exact BK693.out) hb); have n1_ := Aa (below_step (by repeat (first | (with_reducible first | exact HB.out | apply below_alloc | apply Pn | apply Dn | refine below_set ?_ GE693.out) | exact HB.out)) hb); have n2_ := Aa (hbox); have n3_ := Aa ((by rw [hg]; exact (below_size (by repeat (first | (with_reducible first | exact HB.out | apply below_alloc | apply Pn | apply Dn | refine below_set ?_ GE693.out) | exact HB.out))) : w.heap.size ≤ gb697)); have n4_ := Aa ((by rw [hg]; exact (below_size (by repeat (first | (with_reducible first | exact HB.out | apply below_alloc | apply Pn | apply Dn | refine below_set ?_ GE693.out) | exact HB.out))) : w.heap.size ≤ gb697)); have n5_ := Aa ((by rw [hg]; exact Nat.ne_of_lt (blk_lt (g := gb693) (o := .cells #[.slice A0_0 l0_0.length c0_0, .slice (some ad696) l0_1.length c0_1] 39 (0, 0)) (by (with_reducible repeat (first | refine blk_drewN ?_ _ | refine blk_drew ?_ | refine blk_alloc ?_ _)); exact BK693.out)) : gb693 ≠ gb697)); have n6_ := Aa ((by rw [hg]; exact Nat.ne_of_gt (blk_lt (g := gb693) (o := .cells #[.slice A0_0 l0_0.length c0_0, .slice (some ad696) l0_1.length c0_1] 39 (0, 0)) (by (with_reducible repeat (first | refine blk_drewN ?_ _ | refine blk_drew ?_ | refine blk_alloc ?_ _)); exact BK693.out)) : gb697 ≠ gb693)); clear BK693; clear HB; have BK693 := n0_; have HB := n1_; have BK697 := n2_; have GW697 := n3_; have GE697 := n4_; have NB693_697 := n5_; have NB697_693 := n6_; clear n0_ n1_ n2_ n3_ n4_ n5_ n6_; clear hb hbox hg; have hnb43 := NB697_693.out; have hnc43 := NB693_697.out; have hcz44_0 : w42.cell? ⟨gb697, 0, none⟩ = some (.int .i64 0) := (blk_cell BK697.out 0).trans rfl; have hcz44_1 : w42.cell? ⟨gb697, 1, none⟩ = some (.int .i64 0) := (blk_cell BK697.out 1).trans rfl; have hcz44_2 : w42.cell? ⟨gb697, 2, none⟩ = some (.int .i64 0) := (blk_cell BK697.out 2).trans rfl; have hcz44_3 : w42.cell? ⟨gb697, 3, none⟩ = some (.int .i64 0) := (blk_cell BK697.out 3).trans rfl; have hfz44_0 := blk_frozen BK697.out 0; have hfz44_1 := blk_frozen BK697.out 1; have hfz44_2 := blk_frozen BK697.out 2; have hfz44_3 := blk_frozen BK697.out 3))
             go_roundg k2
             case measure => have := HK1.out; have := HK2.out; omega
             case rel => exact ⟨(wrap64 (x26_2 + 1)), (by first | rfl | (simp; done) | (simp [*]; done)), H', ⟨by have := HK1.out; have := HK2.out; omega⟩, ⟨by (with_reducible repeat (first | refine blk_drewN ?_ _ | refine blk_drew ?_ | refine blk_alloc ?_ _)); refine blk_far ?_ NB693_697.out _; (with_reducible repeat (first | refine blk_drewN ?_ _ | refine blk_drew ?_ | refine blk_alloc ?_ _)); refine blk_far ?_ NB693_697.out _; (with_reducible repeat (first | refine blk_drewN ?_ _ | refine blk_drew ?_ | refine blk_alloc ?_ _)); refine blk_far ?_ NB693_697.out _; (with_reducible repeat (first | refine blk_drewN ?_ _ | refine blk_drew ?_ | refine blk_alloc ?_ _)); refine blk_far ?_ NB693_697.out _; (with_reducible repeat (first | refine blk_drewN ?_ _ | refine blk_drew ?_ | refine blk_alloc ?_ _)); exact BK693.out⟩, ⟨by repeat (first | (with_reducible first | exact HB.out | apply below_alloc | apply Pn | apply Dn | refine below_set ?_ GE693.out | refine below_set ?_ GE697.out) | exact HB.out)⟩⟩
        ·rw [if_neg c21] at H
         exact absurd H (by simp)
       ·rw [if_neg c20] at H
        exact absurd H (by simp)
      ·rw [if_neg c19] at H
       have c19b0 : decide (x26_2 < (l0_1.length : Int)) = false := decide_eq_false c19
       clear c19
       obtain rfl := Option.some.inj H
       go_wp2
       go_ret
       exact ⟨by first | rfl | (simp [errW_none, errW_some] <;> rfl) | (simp [*, errW_none, errW_some] <;> rfl), by repeat (first | (with_reducible first | exact HB.out | apply below_alloc | apply Pn | apply Dn | refine below_set ?_ GE693.out) | exact HB.out)⟩
end
section
attribute [local go_sem] max2_int min2_int max_two min_two
def slices_Index_int_int.l0 : Nat → List Int → Int → Int → Int → Option (Int)
 | 0, _, _, _, _ => none
 | k + 1, x0, x1, x7, x8 => if x8 < x7 then (if 0 ≤ x8 then (if x8 < (x0.length : Int) then (if x1 = (rd x0 x8) then (some x8) else (slices_Index_int_int.l0 k x0 x1 x7 (wrap64 (x8 + 1)))) else (none)) else (none)) else (some (-1))
def slices_Index_int_int.f (k : Nat) (l0 : List Int) (a1 : Int) : Option (Int) := slices_Index_int_int.l0 k l0 a1 (l0.length : Int) 0
set_option maxHeartbeats 8000000 in
set_option maxRecDepth 100000 in
theorem slices_Index_int_int.calls (k : Nat) (A0 : Option Addr) (c0 : Nat) (l0 : List Int) (a1 : Int) (r : Int) (w : World) (hr0 : Kd.C (Kd.int .i64) w A0 l0.length l0) (hc0 : l0.length ≤ c0) (h : slices_Index_int_int.f k l0 a1 = some r) :
  Calls Try.prog 128 #[.slice A0 l0.length c0, .int .i64 a1] w fun e w' => e = .returned (.int .i64 r) ∧ Drawn0 w w' := by
 have HR0 := Aa hr0
 have HC0 := Aa hc0
 clear hr0 hc0
 have H : (slices_Index_int_int.l0 k l0 a1 (l0.length : Int) 0) = some r := h
 clear h
 have H' := Aa H
 clear H
 go_enter Try.func128, Try.ntmps128
 go_wp2
 go_loopg [8] k (fun kq v8 w' => ∃ (x8_1 : Int), v8 = .int .i64 x8_1 ∧ Aside0 (slices_Index_int_int.l0 kq l0 a1 (l0.length : Int) x8_1 = some r) ∧ Aside0 (kq ≤ k) ∧ Drawn0 w w')
 case atStart => exact ⟨(0), (by first | rfl | (simp; done) | (simp [*]; done)), H', ⟨Nat.le_refl _⟩, by repeat (first | exact Drawn0.refl _ | apply Drawn0.step)⟩
 case round =>
  clear H'
  try clear c1
  try clear p2
  obtain ⟨x8_1, rfl, HA, HK1, ⟨m1, rfl⟩⟩ := hrel
  cases gk with
  | zero => exact absurd HA.out (by simp [slices_Index_int_int.l0])
  | succ k1 =>
   have H := HA.out
   clear HA
   simp only [slices_Index_int_int.l0] at H
   by_cases c3 : x8_1 < (l0.length : Int)
   ·rw [if_pos c3] at H
    have c3b0 : decide (x8_1 < (l0.length : Int)) = true := decide_eq_true c3
    clear c3
    by_cases c4 : 0 ≤ x8_1
    ·rw [if_pos c4] at H
     have c4b0 : decide (0 ≤ x8_1) = true := decide_eq_true c4
     clear c4
     by_cases c5 : x8_1 < (l0.length : Int)
     ·rw [if_pos c5] at H
      have c5b0 : decide (x8_1 < (l0.length : Int)) = true := decide_eq_true c5
      clear c5
      by_cases c6 : a1 = (rd l0 x8_1)
      ·rw [if_pos c6] at H
       have c6b0 : (a1 == (rd l0 x8_1)) = true := beq_iff_eq.mpr c6
       have c6b1 : (a1 != (rd l0 x8_1)) = false := bne_eq_false_iff_eq.mpr c6
       clear c6
       obtain rfl := Option.some.inj H
       have p698 : 0 ≤ (x8_1 : Int) := of_decide_eq_true (by first | (with_reducible assumption) | assumption)
       have q698 : x8_1 < (l0.length : Int) := of_decide_eq_true (by first | (with_reducible assumption) | assumption)
       obtain ⟨ad698, e698, hx698_0⟩ := Kd.at_int HR0.out x8_1 p698 q698
       cases e698
       replace p698 := eq_true p698
       replace q698 := eq_true q698
       go_wp2
       go_ret
       exact ⟨by first | rfl | (simp; done) | (simp [*]; done), by repeat (first | exact Drawn0.refl _ | apply Drawn0.step)⟩
      ·rw [if_neg c6] at H
       have c6b0 : (a1 == (rd l0 x8_1)) = false := beq_eq_false_iff_ne.mpr c6
       have c6b1 : (a1 != (rd l0 x8_1)) = true := bne_iff_ne.mpr c6
       have H' := Aa H
       clear H
       have p698 : 0 ≤ (x8_1 : Int) := of_decide_eq_true (by first | (with_reducible assumption) | assumption)
       have q698 : x8_1 < (l0.length : Int) := of_decide_eq_true (by first | (with_reducible assumption) | assumption)
       obtain ⟨ad698, e698, hx698_0⟩ := Kd.at_int HR0.out x8_1 p698 q698
       cases e698
       replace p698 := eq_true p698
       replace q698 := eq_true q698
       go_wp2
       go_roundg k1
       case measure => have := HK1.out; omega
       case rel => exact ⟨(wrap64 (x8_1 + 1)), (by first | rfl | (simp; done) | (simp [*]; done)), H', ⟨by have := HK1.out; omega⟩, by repeat (first | exact Drawn0.refl _ | apply Drawn0.step)⟩
     ·rw [if_neg c5] at H
      exact absurd H (by simp)
    ·rw [if_neg c4] at H
     exact absurd H (by simp)
   ·rw [if_neg c3] at H
    have c3b0 : decide (x8_1 < (l0.length : Int)) = false := decide_eq_false c3
    clear c3
    obtain rfl := Option.some.inj H
    go_wp2
    go_ret
    exact ⟨by first | rfl | (simp; done) | (simp [*]; done), by repeat (first | exact Drawn0.refl _ | apply Drawn0.step)⟩
end
section
attribute [local go_sem] max2_int min2_int max_two min_two
def slices_Contains_int_int.f (k : Nat) (l0 : List Int) (a1 : Int) : Option (Bool) := (slices_Index_int_int.f k l0 a1).bind fun t699 => (some (decide (t699 ≥ 0)))
set_option maxHeartbeats 8000000 in
set_option maxRecDepth 100000 in
theorem slices_Contains_int_int.calls (k : Nat) (A0 : Option Addr) (c0 : Nat) (l0 : List Int) (a1 : Int) (r : Bool) (w : World) (hr0 : Kd.C (Kd.int .i64) w A0 l0.length l0) (hc0 : l0.length ≤ c0) (h : slices_Contains_int_int.f k l0 a1 = some r) :
  Calls Try.prog 113 #[.slice A0 l0.length c0, .int .i64 a1] w fun e w' => e = .returned (.bool r) ∧ Drawn0 w w' := by
 have HR0 := Aa hr0
 have HC0 := Aa hc0
 clear hr0 hc0
 have H : ((slices_Index_int_int.f k l0 a1).bind fun t699 => (some (decide (t699 ≥ 0)))) = some r := h
 clear h
 replace H := Option.bind_eq_some_iff.mp H
 obtain ⟨t699, A30, H⟩ := H
 replace H : (some (decide (t699 ≥ 0))) = some r := H
 have A3 := Aa A30
 clear A30
 obtain rfl := Option.some.inj H
 go_enter Try.func113, Try.ntmps113
 go_wp2_with (first | ((with_reducible refine gate_callee (f := 128) rfl ?_); refine goesL_ (some 7) rfl rfl Try.func128 (by kernel_rfl) rfl #[.slice A0 l0.length c0, .int .i64 a1] rfl (by (try simp only [List.map_toArray, List.map_cons, List.map_nil]); first | done | rfl | (simp only [List.length_drop, List.length_take]; rfl)) ?_; (with_reducible refine (slices_Index_int_int.calls k _ _ l0 a1 t699 _ ?side1 ?side2 A3.out).mono ?_); (case side1 => repeat (first | exact HR0.out | (with_reducible refine Kd.C_alloc ?_ _) | (with_reducible refine Kd.C_drewN ?_ _) | (with_reducible refine Kd.C_drew ?_))); (case side2 => exact HC0.out); rintro e w' ⟨rfl, ⟨nd, rfl⟩⟩; refine ⟨_, rfl, ?_⟩))
 go_ret
 exact ⟨by first | rfl | (simp; done) | (simp [*]; done), by repeat (first | exact Drawn0.refl _ | apply Drawn0.step)⟩
end
section
attribute [local go_sem] max2_int min2_int max_two min_two
def afterwordlaw19_Span.f (a0 : Int) (a1 : Int) : Option (Int × Int) := some (a0, a1)
set_option maxHeartbeats 8000000 in
set_option maxRecDepth 100000 in
theorem afterwordlaw19_Span.calls (a0 : Int) (a1 : Int) (r1 : Int) (r2 : Int) (w : World) (h : afterwordlaw19_Span.f a0 a1 = some (r1, r2)) :
  Calls Try.prog 55 #[.int .i64 a0, .int .i64 a1] w fun e w' => e = .returned (.agg #[.int .i64 r1, .int .i64 r2]) ∧ Below w.heap.size w w' := by
 have hu27 := Try.underlying27
 have HB := Aa (Below.refl w.heap.size w)
 have H : (some (a0, a1)) = some (r1, r2) := h
 clear h
 simp only [Option.some.injEq, Prod.mk.injEq] at H
 obtain ⟨rfl, rfl⟩ := H
 go_enter Try.func55, Try.ntmps55
 go_wp2_with (first | ((with_reducible refine gate_dst (N := 4) rfl ?_); refine box_event ?hg (N := 4) ?hd (cs := #[.int .i64 0, .int .i64 0]) (t := 27) ?hr ?_; (case hd => rfl); (case hg => rfl); (case hr => first | (go_simp; done) | (go_simp; rfl)); intro gb178 hg w3 hbox hb; have n0_ := Aa (below_step (by repeat (first | (with_reducible first | exact HB.out | apply below_alloc | apply Pn | apply Dn) | exact HB.out)) hb); have n1_ := Aa (hbox); have n2_ := Aa ((by rw [hg]; exact (below_size (by repeat (first | (with_reducible first | exact HB.out | apply below_alloc | apply Pn | apply Dn) | exact HB.out))) : w.heap.size ≤ gb178)); have n3_ := Aa ((by rw [hg]; exact (below_size (by repeat (first | (with_reducible first | exact HB.out | apply below_alloc | apply Pn | apply Dn) | exact HB.out))) : w.heap.size ≤ gb178)); clear HB; have HB := n0_; have BK178 := n1_; have GW178 := n2_; have GE178 := n3_; clear n0_ n1_ n2_ n3_; clear hb hbox hg; have hcz4_0 : w3.cell? ⟨gb178, 0, none⟩ = some (.int .i64 0) := (blk_cell BK178.out 0).trans rfl; have hcz4_1 : w3.cell? ⟨gb178, 1, none⟩ = some (.int .i64 0) := (blk_cell BK178.out 1).trans rfl; have hfz4_0 := blk_frozen BK178.out 0; have hfz4_1 := blk_frozen BK178.out 1))
 refine bodyPost_ret (results_cell_row rfl _ _ gb178 27 #[.int .i64 a0, .int .i64 a1] (0, 0) _ rfl (by (with_reducible repeat (first | refine blk_drewN ?_ _ | refine blk_drew ?_ | refine blk_alloc ?_ _)); refine blk_put (cs := #[.int .i64 a0, .int .i64 0]) ?_ 1 _ rfl; (with_reducible repeat (first | refine blk_drewN ?_ _ | refine blk_drew ?_ | refine blk_alloc ?_ _)); refine blk_put (cs := #[.int .i64 0, .int .i64 0]) ?_ 0 _ rfl; (with_reducible repeat (first | refine blk_drewN ?_ _ | refine blk_drew ?_ | refine blk_alloc ?_ _)); exact BK178.out) Try.underlying27 rfl (by kernel_rfl)) rfl ?_
 exact ⟨by first | rfl | (simp [errW_none, errW_some] <;> rfl) | (simp [*, errW_none, errW_some] <;> rfl), by repeat (first | (with_reducible first | exact HB.out | apply below_alloc | apply Pn | apply Dn | refine below_set ?_ GE178.out) | exact HB.out)⟩
end
section
attribute [local go_sem] max2_int min2_int max_two min_two
mutual
def afterwordlaw19_kept.l0 : Nat → List Int → List (S27) → Int → Int → List (S27) → List (S86) → List (S27) → Option ((List (S27)) × (List (S86)))
 | 0, _, _, _, _, _, _, _ => none
 | k + 1, x1, x11, x12, x13, x701000, x701001, x703000 => if x13 < x12 then (if 0 ≤ x13 then (if x13 < (x11.length : Int) then ((slices_Contains_int_int.f k x1 x13).bind fun t705 => (if t705 = true then (if x703000.length < 8796093022208 then (afterwordlaw19_kept.l0 k x1 x11 x12 (wrap64 (x13 + 1)) x701000 x701001 (x703000 ++ [(⟨(rd_T27 x11 x13).f0, (rd_T27 x11 x13).f1⟩ : S27)])) else (none)) else ((afterwordlaw19_Span.f (-1000000) 1000000).bind fun bt709 => (if x703000.length < 8796093022208 then (afterwordlaw19_kept.l0 k x1 x11 x12 (wrap64 (x13 + 1)) x701000 x701001 (x703000 ++ [(⟨bt709.1, bt709.2⟩ : S27)])) else (none))))) else (none)) else (none)) else (afterwordlaw19_kept.l1 k x1 x701001 (x701001.length : Int) 0 x701000 x701001 x703000 ([] : List (S86)))
def afterwordlaw19_kept.l1 : Nat → List Int → List (S86) → Int → Int → List (S27) → List (S86) → List (S27) → List (S86) → Option ((List (S27)) × (List (S86)))
 | 0, _, _, _, _, _, _, _, _ => none
 | k + 1, x1, x31, x32, x33, x701000, x701001, x703000, x703001 => if x33 < x32 then (if 0 ≤ x33 then (if x33 < (x31.length : Int) then ((slices_Contains_int_int.f k x1 (wrap64 ((x701000.length : Int) + x33))).bind fun t716 => (if t716 = true then (if x703001.length < 4398046511104 then (afterwordlaw19_kept.l1 k x1 x31 x32 (wrap64 (x33 + 1)) x701000 x701001 x703000 (x703001 ++ [(⟨(rd_T86 x31 x33).f0, (rd_T86 x31 x33).f1, (rd_T86 x31 x33).f2, (rd_T86 x31 x33).f3⟩ : S86)])) else (none)) else (afterwordlaw19_kept.l1 k x1 x31 x32 (wrap64 (x33 + 1)) x701000 x701001 x703000 x703001))) else (none)) else (none)) else (some (x703000, x703001))
end
def afterwordlaw19_kept.f (k : Nat) (l0_0 : List (S27)) (l0_1 : List (S86)) (l1 : List Int) : Option ((List (S27)) × (List (S86))) := afterwordlaw19_kept.l0 k l1 l0_0 (l0_0.length : Int) 0 l0_0 l0_1 ([] : List (S27))
set_option maxHeartbeats 8000000 in
set_option maxRecDepth 100000 in
theorem afterwordlaw19_kept.calls (k : Nat) (A0_0 : Option Addr) (c0_0 : Nat) (l0_0 : List (S27)) (A0_1 : Option Addr) (c0_1 : Nat) (l0_1 : List (S86)) (A1 : Option Addr) (c1 : Nat) (l1 : List Int) (r1 : List (S27)) (r2 : List (S86)) (w : World) (hr0_0 : Kd.C k27 w A0_0 l0_0.length l0_0) (hc0_0 : l0_0.length ≤ c0_0) (hr0_1 : Kd.C k86 w A0_1 l0_1.length l0_1) (hc0_1 : l0_1.length ≤ c0_1) (hr1 : Kd.C (Kd.int .i64) w A1 l1.length l1) (hc1 : l1.length ≤ c1) (h : afterwordlaw19_kept.f k l0_0 l0_1 l1 = some (r1, r2)) :
  Calls Try.prog 61 #[.agg #[.slice A0_0 l0_0.length c0_0, .slice A0_1 l0_1.length c0_1], .slice A1 l1.length c1] w fun e w' => ∃ v0_ v1_ : Value, e = .returned (.agg #[v0_, v1_]) ∧ Kd.R k27 27 w' w.heap.size (fun _ => True) v0_ r1 ∧ Kd.R k86 86 w' w.heap.size (fun _ => True) v1_ r2 ∧ Below w.heap.size w w' := by
 have hu39 := Try.underlying39
 have hu27 := Try.underlying27
 have hu86 := Try.underlying86
 have HR0_0 := Aa hr0_0
 have HC0_0 := Aa hc0_0
 clear hr0_0 hc0_0
 have HR0_1 := Aa hr0_1
 have HC0_1 := Aa hc0_1
 clear hr0_1 hc0_1
 have HR1 := Aa hr1
 have HC1 := Aa hc1
 clear hr1 hc1
 have HB := Aa (Below.refl w.heap.size w)
 have H : (afterwordlaw19_kept.l0 k l1 l0_0 (l0_0.length : Int) 0 l0_0 l0_1 ([] : List (S27))) = some (r1, r2) := h
 clear h
 have H' := Aa H
 clear H
 go_enter Try.func61, Try.ntmps61
 go_wp2_with (first | ((with_reducible refine gate_dst (N := 2) rfl ?_); refine box_event ?hg (N := 2) ?hd (cs := #[.slice A0_0 l0_0.length c0_0, .slice A0_1 l0_1.length c0_1]) (t := 39) ?hr ?_; (case hd => rfl); (case hg => rfl); (case hr => first | (go_simp; done) | (go_simp; rfl)); intro gb700 hg w3 hbox hb; have n0_ := Aa (below_step (by repeat (first | (with_reducible first | exact HB.out | apply below_alloc | apply Pn | apply Dn) | exact HB.out)) hb); have n1_ := Aa (hbox); have n2_ := Aa ((by rw [hg]; exact (below_size (by repeat (first | (with_reducible first | exact HB.out | apply below_alloc | apply Pn | apply Dn) | exact HB.out))) : w.heap.size ≤ gb700)); have n3_ := Aa ((by rw [hg]; exact (below_size (by repeat (first | (with_reducible first | exact HB.out | apply below_alloc | apply Pn | apply Dn) | exact HB.out))) : w.heap.size ≤ gb700)); clear HB; have HB := n0_; have BK700 := n1_; have GW700 := n2_; have GE700 := n3_; clear n0_ n1_ n2_ n3_; clear hb hbox hg) | ((with_reducible refine gate_dst (N := 4) rfl ?_); refine box_event ?hg (N := 4) ?hd (cs := #[.slice none 0 0, .slice none 0 0]) (t := 39) ?hr ?_; (case hd => rfl); (case hg => rfl); (case hr => first | (go_simp; done) | (go_simp; rfl)); intro gb701 hg w4 hbox hb; have n0_ := Aa (blk_below (g := gb700) (o := .cells #[.slice A0_0 l0_0.length c0_0, .slice A0_1 l0_1.length c0_1] 39 (0, 0)) (by (with_reducible repeat (first | refine blk_drewN ?_ _ | refine blk_drew ?_ | refine blk_alloc ?_ _)); exact BK700.out) hb); have n1_ := Aa (below_step (by repeat (first | (with_reducible first | exact HB.out | apply below_alloc | apply Pn | apply Dn | refine below_set ?_ GE700.out) | exact HB.out)) hb); have n2_ := Aa (hbox); have n3_ := Aa ((by rw [hg]; exact (below_size (by repeat (first | (with_reducible first | exact HB.out | apply below_alloc | apply Pn | apply Dn | refine below_set ?_ GE700.out) | exact HB.out))) : w.heap.size ≤ gb701)); have n4_ := Aa ((by rw [hg]; exact (below_size (by repeat (first | (with_reducible first | exact HB.out | apply below_alloc | apply Pn | apply Dn | refine below_set ?_ GE700.out) | exact HB.out))) : w.heap.size ≤ gb701)); have n5_ := Aa ((by rw [hg]; exact Nat.ne_of_lt (blk_lt (g := gb700) (o := .cells #[.slice A0_0 l0_0.length c0_0, .slice A0_1 l0_1.length c0_1] 39 (0, 0)) (by (with_reducible repeat (first | refine blk_drewN ?_ _ | refine blk_drew ?_ | refine blk_alloc ?_ _)); exact BK700.out)) : gb700 ≠ gb701)); have n6_ := Aa ((by rw [hg]; exact Nat.ne_of_gt (blk_lt (g := gb700) (o := .cells #[.slice A0_0 l0_0.length c0_0, .slice A0_1 l0_1.length c0_1] 39 (0, 0)) (by (with_reducible repeat (first | refine blk_drewN ?_ _ | refine blk_drew ?_ | refine blk_alloc ?_ _)); exact BK700.out)) : gb701 ≠ gb700)); clear BK700; clear HB; have BK700 := n0_; have HB := n1_; have BK701 := n2_; have GW701 := n3_; have GE701 := n4_; have NB700_701 := n5_; have NB701_700 := n6_; clear n0_ n1_ n2_ n3_ n4_ n5_ n6_; clear hb hbox hg) | ((with_reducible refine gate_dst (N := 5) rfl ?_); refine box_event ?hg (N := 5) ?hd (cs := #[.slice none 0 0, .slice none 0 0]) (t := 39) ?hr ?_; (case hd => rfl); (case hg => rfl); (case hr => first | (go_simp; done) | (go_simp; rfl)); intro gb702 hg w5 hbox hb; have n0_ := Aa (blk_below (g := gb700) (o := .cells #[.slice A0_0 l0_0.length c0_0, .slice A0_1 l0_1.length c0_1] 39 (0, 0)) (by (with_reducible repeat (first | refine blk_drewN ?_ _ | refine blk_drew ?_ | refine blk_alloc ?_ _)); exact BK700.out) hb); have n1_ := Aa (blk_below (g := gb701) (o := .cells #[.slice none 0 0, .slice none 0 0] 39 (0, 0)) (by (with_reducible repeat (first | refine blk_drewN ?_ _ | refine blk_drew ?_ | refine blk_alloc ?_ _)); exact BK701.out) hb); have n2_ := Aa (below_step (by repeat (first | (with_reducible first | exact HB.out | apply below_alloc | apply Pn | apply Dn | refine below_set ?_ GE700.out | refine below_set ?_ GE701.out) | exact HB.out)) hb); have n3_ := Aa (hbox); have n4_ := Aa ((by rw [hg]; exact (below_size (by repeat (first | (with_reducible first | exact HB.out | apply below_alloc | apply Pn | apply Dn | refine below_set ?_ GE700.out | refine below_set ?_ GE701.out) | exact HB.out))) : w.heap.size ≤ gb702)); have n5_ := Aa ((by rw [hg]; exact (below_size (by repeat (first | (with_reducible first | exact HB.out | apply below_alloc | apply Pn | apply Dn | refine below_set ?_ GE700.out | refine below_set ?_ GE701.out) | exact HB.out))) : w.heap.size ≤ gb702)); have n6_ := Aa ((by rw [hg]; exact Nat.ne_of_lt (blk_lt (g := gb700) (o := .cells #[.slice A0_0 l0_0.length c0_0, .slice A0_1 l0_1.length c0_1] 39 (0, 0)) (by (with_reducible repeat (first | refine blk_drewN ?_ _ | refine blk_drew ?_ | refine blk_alloc ?_ _)); exact BK700.out)) : gb700 ≠ gb702)); have n7_ := Aa ((by rw [hg]; exact Nat.ne_of_gt (blk_lt (g := gb700) (o := .cells #[.slice A0_0 l0_0.length c0_0, .slice A0_1 l0_1.length c0_1] 39 (0, 0)) (by (with_reducible repeat (first | refine blk_drewN ?_ _ | refine blk_drew ?_ | refine blk_alloc ?_ _)); exact BK700.out)) : gb702 ≠ gb700)); have n8_ := Aa ((by rw [hg]; exact Nat.ne_of_lt (blk_lt (g := gb701) (o := .cells #[.slice none 0 0, .slice none 0 0] 39 (0, 0)) (by (with_reducible repeat (first | refine blk_drewN ?_ _ | refine blk_drew ?_ | refine blk_alloc ?_ _)); exact BK701.out)) : gb701 ≠ gb702)); have n9_ := Aa ((by rw [hg]; exact Nat.ne_of_gt (blk_lt (g := gb701) (o := .cells #[.slice none 0 0, .slice none 0 0] 39 (0, 0)) (by (with_reducible repeat (first | refine blk_drewN ?_ _ | refine blk_drew ?_ | refine blk_alloc ?_ _)); exact BK701.out)) : gb702 ≠ gb701)); clear BK700; clear BK701; clear HB; have BK700 := n0_; have BK701 := n1_; have HB := n2_; have BK702 := n3_; have GW702 := n4_; have GE702 := n5_; have NB700_702 := n6_; have NB702_700 := n7_; have NB701_702 := n8_; have NB702_701 := n9_; clear n0_ n1_ n2_ n3_ n4_ n5_ n6_ n7_ n8_ n9_; clear hb hbox hg; have hnb6 := NB700_701.out; have hnc6 := NB701_700.out; have hnb7 := NB700_702.out; have hnc7 := NB702_700.out; have hcz8_0 : w5.cell? ⟨gb700, 0, none⟩ = some (.slice A0_0 l0_0.length c0_0) := (blk_cell BK700.out 0).trans rfl; have hcz8_1 : w5.cell? ⟨gb700, 1, none⟩ = some (.slice A0_1 l0_1.length c0_1) := (blk_cell BK700.out 1).trans rfl; have hfz8_0 := blk_frozen BK700.out 0; have hfz8_1 := blk_frozen BK700.out 1))
 go_loopg [13] k (fun kq v13 w' => ∃ (x13_1 : Int) (x703000_1 : List (S27)) (u703000 : Value), v13 = .int .i64 x13_1 ∧ Aside0 (afterwordlaw19_kept.l0 kq l1 l0_0 (l0_0.length : Int) x13_1 l0_0 l0_1 x703000_1 = some (r1, r2)) ∧ Aside0 (kq ≤ k) ∧ Aside0 (Kd.R k27 27 w' w.heap.size (fun _ => True) u703000 x703000_1) ∧ Aside0 (w'.heap[gb700]? = some (.cells #[(.slice A0_0 l0_0.length c0_0), (.slice A0_1 l0_1.length c0_1)] 39 (0, 0))) ∧ Aside0 (w'.heap[gb701]? = some (.cells #[(.slice none 0 0), (.slice none 0 0)] 39 (0, 0))) ∧ Aside0 (w'.heap[gb702]? = some (.cells #[u703000, (.slice none 0 0)] 39 (0, 0))) ∧ Aside0 (Below w.heap.size w w'))
 case atStart => exact ⟨(0), (([] : List (S27))), (.slice none 0 0), (by first | rfl | (simp; done) | (simp [*]; done)), H', ⟨Nat.le_refl _⟩, ⟨by first | exact Kd.R_nil _ _ _ _ _ | exact Kd.N_nil _ _ _ _ _ | exact Kd.V_nil _ _ _ _ _ | exact Kd.Q_nil _ _ _ _ _ | exact Kd.S_nil _ _ _ _ _⟩, ⟨by (with_reducible repeat (first | refine blk_drewN ?_ _ | refine blk_drew ?_ | refine blk_alloc ?_ _)); exact BK700.out⟩, ⟨by (with_reducible repeat (first | refine blk_drewN ?_ _ | refine blk_drew ?_ | refine blk_alloc ?_ _)); exact BK701.out⟩, ⟨by (with_reducible repeat (first | refine blk_drewN ?_ _ | refine blk_drew ?_ | refine blk_alloc ?_ _)); exact BK702.out⟩, ⟨by repeat (first | (with_reducible first | exact HB.out | apply below_alloc | apply Pn | apply Dn | refine below_set ?_ GE700.out | refine below_set ?_ GE701.out | refine below_set ?_ GE702.out) | exact HB.out)⟩⟩
 case round =>
  clear H'
  try clear c1
  try clear p2
  try clear c6
  try clear c7
  try clear hcz8_0
  try clear hcz8_1
  try clear hfz8_0
  try clear hfz8_1
  obtain ⟨x13_1, x703000_1, u703000, rfl, HA, HK1, HO_703000, BK700, BK701, BK702, HB⟩ := hrel
  cases gk with
  | zero => exact absurd HA.out (by simp [afterwordlaw19_kept.l0])
  | succ k1 =>
   have H := HA.out
   clear HA
   simp only [afterwordlaw19_kept.l0] at H
   by_cases c9 : x13_1 < (l0_0.length : Int)
   ·rw [if_pos c9] at H
    have c9b0 : decide (x13_1 < (l0_0.length : Int)) = true := decide_eq_true c9
    clear c9
    by_cases c10 : 0 ≤ x13_1
    ·rw [if_pos c10] at H
     have c10b0 : decide (0 ≤ x13_1) = true := decide_eq_true c10
     clear c10
     by_cases c11 : x13_1 < (l0_0.length : Int)
     ·rw [if_pos c11] at H
      have c11b0 : decide (x13_1 < (l0_0.length : Int)) = true := decide_eq_true c11
      clear c11
      replace H := Option.bind_eq_some_iff.mp H
      obtain ⟨t705, A120, H⟩ := H
      replace H : (if t705 = true then (if x703000_1.length < 8796093022208 then (afterwordlaw19_kept.l0 k1 l1 l0_0 (l0_0.length : Int) (wrap64 (x13_1 + 1)) l0_0 l0_1 (x703000_1 ++ [(⟨(rd_T27 l0_0 x13_1).f0, (rd_T27 l0_0 x13_1).f1⟩ : S27)])) else (none)) else ((afterwordlaw19_Span.f (-1000000) 1000000).bind fun bt709 => (if x703000_1.length < 8796093022208 then (afterwordlaw19_kept.l0 k1 l1 l0_0 (l0_0.length : Int) (wrap64 (x13_1 + 1)) l0_0 l0_1 (x703000_1 ++ [(⟨bt709.1, bt709.2⟩ : S27)])) else (none)))) = some (r1, r2) := H
      have A12 := Aa A120
      clear A120
      by_cases c13 : t705 = true
      ·subst c13
       have H1 : (if x703000_1.length < 8796093022208 then (afterwordlaw19_kept.l0 k1 l1 l0_0 (l0_0.length : Int) (wrap64 (x13_1 + 1)) l0_0 l0_1 (x703000_1 ++ [(⟨(rd_T27 l0_0 x13_1).f0, (rd_T27 l0_0 x13_1).f1⟩ : S27)])) else (none)) = some (r1, r2) := by rw [if_pos rfl] at H; exact H
       clear H
       have H := H1
       clear H1
       by_cases c14 : x703000_1.length < 8796093022208
       ·rw [if_pos c14] at H
        have LMc14 := Aa c14
        clear c14
        obtain ⟨y706, hy706⟩ : ∃ y_ : List (S27), y_ = (x703000_1 ++ [(⟨(rd_T27 l0_0 x13_1).f0, (rd_T27 l0_0 x13_1).f1⟩ : S27)]) := ⟨_, rfl⟩
        replace H : (afterwordlaw19_kept.l0 k1 l1 l0_0 (l0_0.length : Int) (wrap64 (x13_1 + 1)) l0_0 l0_1 y706) = some (r1, r2) := by first | (rw [hy706]; with_reducible exact H) | (have H2_ := (Option.bind_some _ _).symm.trans H; rw [hy706]; with_reducible exact H2_) | (have H2_ := (Option.bind_some _ _).symm.trans H; with_reducible exact H2_) | with_reducible exact H | (rw [hy706]; exact H) | exact H
        have Ny706 := Aa hy706
        clear hy706
        have H' := Aa H
        clear H
        have p703 : 0 ≤ (x13_1 : Int) := of_decide_eq_true (by first | (with_reducible assumption) | assumption)
        have q703 : x13_1 < (l0_0.length : Int) := of_decide_eq_true (by first | (with_reducible assumption) | assumption)
        obtain ⟨ad703, e703, hx703_0, hx703_1⟩ := at_T27 HR0_0.out x13_1 p703 q703
        cases e703
        replace hx703_0 := (HB.out.cell (World.block_lt_of_cell? w _ hx703_0)).trans hx703_0
        replace hx703_1 := (HB.out.cell (World.block_lt_of_cell? w _ hx703_1)).trans hx703_1
        replace p703 := eq_true p703
        replace q703 := eq_true q703
        go_wp2_with (first | ((with_reducible refine gate_dst (N := 7) rfl ?_); refine box_event ?hg (N := 7) ?hd (cs := #[.int .i64 0, .int .i64 0]) (t := 27) ?hr ?_; (case hd => rfl); (case hg => rfl); (case hr => first | (go_simp; done) | (go_simp; rfl)); intro gb704 hg w15 hbox hb; have n0_ := Aa (Kd.R_below (Kd.R_elderB (by (with_reducible repeat (first | apply Kd.R_alloc | apply Kd.R_drewN | apply Kd.R_drew)); exact HO_703000.out) gb704 (Nat.le_of_eq hg.symm)) hb); have n1_ := Aa (blk_below (g := gb700) (o := .cells #[.slice (some ad703) l0_0.length c0_0, .slice A0_1 l0_1.length c0_1] 39 (0, 0)) (by (with_reducible repeat (first | refine blk_drewN ?_ _ | refine blk_drew ?_ | refine blk_alloc ?_ _)); exact BK700.out) hb); have n2_ := Aa (blk_below (g := gb701) (o := .cells #[.slice none 0 0, .slice none 0 0] 39 (0, 0)) (by (with_reducible repeat (first | refine blk_drewN ?_ _ | refine blk_drew ?_ | refine blk_alloc ?_ _)); exact BK701.out) hb); have n3_ := Aa (blk_below (g := gb702) (o := .cells #[u703000, .slice none 0 0] 39 (0, 0)) (by (with_reducible repeat (first | refine blk_drewN ?_ _ | refine blk_drew ?_ | refine blk_alloc ?_ _)); exact BK702.out) hb); have n4_ := Aa (below_step (by repeat (first | (with_reducible first | exact HB.out | apply below_alloc | apply Pn | apply Dn | refine below_set ?_ GE700.out | refine below_set ?_ GE701.out | refine below_set ?_ GE702.out) | exact HB.out)) hb); have n5_ := Aa (hbox); have n6_ := Aa ((by rw [hg]; exact (below_size (by repeat (first | (with_reducible first | exact HB.out | apply below_alloc | apply Pn | apply Dn | refine below_set ?_ GE700.out | refine below_set ?_ GE701.out | refine below_set ?_ GE702.out) | exact HB.out))) : w.heap.size ≤ gb704)); have n7_ := Aa ((by rw [hg]; exact (below_size (by repeat (first | (with_reducible first | exact HB.out | apply below_alloc | apply Pn | apply Dn | refine below_set ?_ GE700.out | refine below_set ?_ GE701.out | refine below_set ?_ GE702.out) | exact HB.out))) : w.heap.size ≤ gb704)); have n8_ := Aa ((by rw [hg]; exact Nat.ne_of_lt (blk_lt (g := gb700) (o := .cells #[.slice (some ad703) l0_0.length c0_0, .slice A0_1 l0_1.length c0_1] 39 (0, 0)) (by (with_reducible repeat (first | refine blk_drewN ?_ _ | refine blk_drew ?_ | refine blk_alloc ?_ _)); exact BK700.out)) : gb700 ≠ gb704)); have n9_ := Aa ((by rw [hg]; exact Nat.ne_of_gt (blk_lt (g := gb700) (o := .cells #[.slice (some ad703) l0_0.length c0_0, .slice A0_1 l0_1.length c0_1] 39 (0, 0)) (by (with_reducible repeat (first | refine blk_drewN ?_ _ | refine blk_drew ?_ | refine blk_alloc ?_ _)); exact BK700.out)) : gb704 ≠ gb700)); have n10_ := Aa ((by rw [hg]; exact Nat.ne_of_lt (blk_lt (g := gb701) (o := .cells #[.slice none 0 0, .slice none 0 0] 39 (0, 0)) (by (with_reducible repeat (first | refine blk_drewN ?_ _ | refine blk_drew ?_ | refine blk_alloc ?_ _)); exact BK701.out)) : gb701 ≠ gb704)); have n11_ := Aa ((by rw [hg]; exact Nat.ne_of_gt (blk_lt (g := gb701) (o := .cells #[.slice none 0 0, .slice none 0 0] 39 (0, 0)) (by (with_reducible repeat (first | refine blk_drewN ?_ _ | refine blk_drew ?_ | refine blk_alloc ?_ _)); exact BK701.out)) : gb704 ≠ gb701)); have n12_ := Aa ((by rw [hg]; exact Nat.ne_of_lt (blk_lt (g := gb702) (o := .cells #[u703000, .slice none 0 0] 39 (0, 0)) (by (with_reducible repeat (first | refine blk_drewN ?_ _ | refine blk_drew ?_ | refine blk_alloc ?_ _)); exact BK702.out)) : gb702 ≠ gb704)); have n13_ := Aa ((by rw [hg]; exact Nat.ne_of_gt (blk_lt (g := gb702) (o := .cells #[u703000, .slice none 0 0] 39 (0, 0)) (by (with_reducible repeat (first | refine blk_drewN ?_ _ | refine blk_drew ?_ | refine blk_alloc ?_ _)); exact BK702.out)) : gb704 ≠ gb702)); clear HO_703000; clear BK700; clear BK701; clear BK702; clear HB; have HO_703000 := n0_; have BK700 := n1_; have BK701 := n2_; have BK702 := n3_; have HB := n4_; have BK704 := n5_; have GW704 := n6_; have GE704 := n7_; have NB700_704 := n8_; have NB704_700 := n9_; have NB701_704 := n10_; have NB704_701 := n11_; have NB702_704 := n12_; have NB704_702 := n13_; clear n0_ n1_ n2_ n3_ n4_ n5_ n6_ n7_ n8_ n9_ n10_ n11_ n12_ n13_; clear hb hbox hg; have hnb16 := NB704_700.out; have hnc16 := NB700_704.out; have hnb17 := NB704_701.out; have hnc17 := NB701_704.out; have hnb18 := NB704_702.out; have hnc18 := NB702_704.out; have hcz19_0 : w15.cell? ⟨gb704, 0, none⟩ = some (.int .i64 0) := (blk_cell BK704.out 0).trans rfl; have hcz19_1 : w15.cell? ⟨gb704, 1, none⟩ = some (.int .i64 0) := (blk_cell BK704.out 1).trans rfl; have hfz19_0 := blk_frozen BK704.out 0; have hfz19_1 := blk_frozen BK704.out 1) | ((with_reducible refine gate_callee (f := 113) rfl ?_); refine goesL_ (some 20) rfl rfl Try.func113 (by kernel_rfl) rfl #[.slice A1 l1.length c1, .int .i64 x13_1] rfl (by (try simp only [List.map_toArray, List.map_cons, List.map_nil]); first | done | rfl | (simp only [List.length_drop, List.length_take]; rfl)) ?_; (with_reducible refine (slices_Contains_int_int.calls k1 _ _ l1 x13_1 true _ ?side1 ?side2 A12.out).mono ?_); (case side1 => exact Kd.C_below HR1.out (by repeat (first | (with_reducible first | exact HB.out | apply below_alloc | apply Pn | apply Dn | refine below_set ?_ GE700.out | refine below_set ?_ GE701.out | refine below_set ?_ GE702.out | refine below_set ?_ GE704.out) | exact HB.out))); (case side2 => exact HC1.out); rintro e w' ⟨rfl, ⟨nd, rfl⟩⟩; refine ⟨_, rfl, ?_⟩; have hnb20 := NB702_700.out; have hnc20 := NB700_702.out; have hnb21 := NB702_701.out; have hnc21 := NB701_702.out; have hcz22_0 : w15.cell? ⟨gb702, 0, none⟩ = some (u703000) := (blk_cell BK702.out 0).trans rfl; have hcz22_1 : w15.cell? ⟨gb702, 1, none⟩ = some (.slice none 0 0) := (blk_cell BK702.out 1).trans rfl; have hfz22_0 := blk_frozen BK702.out 0; have hfz22_1 := blk_frozen BK702.out 1) | ((with_reducible refine gate_builtin (b := .append) (xs := #[.tmp 24, .tmp 26]) rfl ?_); at_builtin; refine Kd.R_append k27 (w0 := w) w.heap.size rfl (.tmp 24) (.tmp 26) 36 27 (.agg #[(.int .i64 0), (.int .i64 0)]) 16 rfl Try.underlying36 info27 rfl (by decide) (by omega) u703000 x703000_1 (⟨(rd_T27 l0_0 x13_1).f0, (rd_T27 l0_0 x13_1).f1⟩ : S27) [.int .i64 ((rd_T27 l0_0 x13_1).f0), .int .i64 ((rd_T27 l0_0 x13_1).f1)] (fun k_ => k_ ≠ gb704) (fun _ => False) rfl (by first | (go_simp; done) | (go_simp; rfl)) ?aP (fun _ hk => hk.elim) ?aF ?aO ?aB ?aS ?aL ?_; (case aP => exact k27_mkM _ _ _ (⟨(rd_T27 l0_0 x13_1).f0, (rd_T27 l0_0 x13_1).f1⟩ : S27)); (case aB => exact (by repeat (first | (with_reducible first | exact HB.out | apply below_alloc | apply Pn | apply Dn | refine below_set ?_ GE700.out | refine below_set ?_ GE701.out | refine below_set ?_ GE702.out | refine below_set ?_ GE704.out) | exact HB.out))); (case aF => exact (fun k_ hk => Kd.freshB (g := gb704) (o := .cells #[.int .i64 ((rd_T27 l0_0 x13_1).f0), .int .i64 ((rd_T27 l0_0 x13_1).f1)] 27 (0, 0)) (by (with_reducible repeat (first | refine blk_drewN ?_ _ | refine blk_drew ?_ | refine blk_alloc ?_ _)); refine blk_put (cs := #[.int .i64 ((rd_T27 l0_0 x13_1).f0), .int .i64 0]) ?_ 1 _ rfl; (with_reducible repeat (first | refine blk_drewN ?_ _ | refine blk_drew ?_ | refine blk_alloc ?_ _)); refine blk_put (cs := #[.int .i64 0, .int .i64 0]) ?_ 0 _ rfl; (with_reducible repeat (first | refine blk_drewN ?_ _ | refine blk_drew ?_ | refine blk_alloc ?_ _)); exact BK704.out) k_ hk)); (case aO => exact (by (with_reducible repeat (first | apply Kd.R_alloc | apply Kd.R_drewN | apply Kd.R_drew)); exact Kd.R_mono (Kd.R_far (p := ⟨gb704, 1, none⟩) (Kd.R_far (p := ⟨gb704, 0, none⟩) (Kd.R_mono HO_703000.out (fun k_ hk => (⟨hk, hk.2⟩ : _ ∧ k_ ≠ gb704))) (fun _ hk => hk.2) (.int .i64 ((rd_T27 l0_0 x13_1).f0))) (fun _ hk => hk.2) (.int .i64 ((rd_T27 l0_0 x13_1).f1))) (fun _ hk => hk.1.2))); (case aS => exact (below_size (by repeat (first | (with_reducible first | exact HB.out | apply below_alloc | apply Pn | apply Dn | refine below_set ?_ GE700.out | refine below_set ?_ GE701.out | refine below_set ?_ GE702.out | refine below_set ?_ GE704.out) | exact HB.out)))); (case aL => have := LMc14.out; omega); intro v707 w23 ho hb hg hat; rw [← Ny706.out] at ho; have n0_ := Aa (blk_grown (g := gb700) (o := .cells #[.slice (some ad703) l0_0.length c0_0, .slice A0_1 l0_1.length c0_1] 39 (0, 0)) (by (with_reducible repeat (first | refine blk_drewN ?_ _ | refine blk_drew ?_ | refine blk_alloc ?_ _)); refine blk_far ?_ NB700_704.out _; (with_reducible repeat (first | refine blk_drewN ?_ _ | refine blk_drew ?_ | refine blk_alloc ?_ _)); refine blk_far ?_ NB700_704.out _; (with_reducible repeat (first | refine blk_drewN ?_ _ | refine blk_drew ?_ | refine blk_alloc ?_ _)); exact BK700.out) hg (Kd.R_ne HO_703000.out BK700.out (by decide))); have n1_ := Aa (blk_grown (g := gb701) (o := .cells #[.slice none 0 0, .slice none 0 0] 39 (0, 0)) (by (with_reducible repeat (first | refine blk_drewN ?_ _ | refine blk_drew ?_ | refine blk_alloc ?_ _)); refine blk_far ?_ NB701_704.out _; (with_reducible repeat (first | refine blk_drewN ?_ _ | refine blk_drew ?_ | refine blk_alloc ?_ _)); refine blk_far ?_ NB701_704.out _; (with_reducible repeat (first | refine blk_drewN ?_ _ | refine blk_drew ?_ | refine blk_alloc ?_ _)); exact BK701.out) hg (Kd.R_ne HO_703000.out BK701.out (by decide))); have n2_ := Aa (blk_grown (g := gb702) (o := .cells #[u703000, .slice none 0 0] 39 (0, 0)) (by (with_reducible repeat (first | refine blk_drewN ?_ _ | refine blk_drew ?_ | refine blk_alloc ?_ _)); refine blk_far ?_ NB702_704.out _; (with_reducible repeat (first | refine blk_drewN ?_ _ | refine blk_drew ?_ | refine blk_alloc ?_ _)); refine blk_far ?_ NB702_704.out _; (with_reducible repeat (first | refine blk_drewN ?_ _ | refine blk_drew ?_ | refine blk_alloc ?_ _)); exact BK702.out) hg (Kd.R_ne HO_703000.out BK702.out (by decide))); have n3_ := Aa (blk_grown (g := gb704) (o := .cells #[.int .i64 ((rd_T27 l0_0 x13_1).f0), .int .i64 ((rd_T27 l0_0 x13_1).f1)] 27 (0, 0)) (by (with_reducible repeat (first | refine blk_drewN ?_ _ | refine blk_drew ?_ | refine blk_alloc ?_ _)); refine blk_put (cs := #[.int .i64 ((rd_T27 l0_0 x13_1).f0), .int .i64 0]) ?_ 1 _ rfl; (with_reducible repeat (first | refine blk_drewN ?_ _ | refine blk_drew ?_ | refine blk_alloc ?_ _)); refine blk_put (cs := #[.int .i64 0, .int .i64 0]) ?_ 0 _ rfl; (with_reducible repeat (first | refine blk_drewN ?_ _ | refine blk_drew ?_ | refine blk_alloc ?_ _)); exact BK704.out) hg (Kd.R_away HO_703000.out (fun _ hk => hk.2))); have n4_ := Aa (hb); have n5_ := Aa (ho); clear BK700; clear BK701; clear BK702; clear BK704; clear HB; clear HO_703000; have BK700 := n0_; have BK701 := n1_; have BK702 := n2_; have BK704 := n3_; have HB := n4_; have HO708 := n5_; clear n0_ n1_ n2_ n3_ n4_ n5_; clear ho hb hg hat; obtain ⟨Ao24, co24, eo24⟩ := Kd.R_slice HO708.out; subst eo24; have hcz25_0 : w23.cell? ⟨gb702, 0, none⟩ = some (u703000) := (blk_cell BK702.out 0).trans rfl; have hcz25_1 : w23.cell? ⟨gb702, 1, none⟩ = some (.slice none 0 0) := (blk_cell BK702.out 1).trans rfl; have hfz25_0 := blk_frozen BK702.out 0; have hfz25_1 := blk_frozen BK702.out 1))
        go_roundg k1
        case measure => have := HK1.out; omega
        case rel => exact ⟨(wrap64 (x13_1 + 1)), (y706), (.slice Ao24 y706.length co24), (by first | rfl | (simp; done) | (simp [*]; done)), H', ⟨by have := HK1.out; omega⟩, ⟨by (with_reducible repeat (first | apply Kd.R_alloc | apply Kd.R_drewN | apply Kd.R_drew)); exact Kd.R_mono (Kd.R_far (p := ⟨gb702, 0, none⟩) (Kd.R_types HO708.out BK702.out (by decide)) (fun _ hk => hk.2) (.slice Ao24 y706.length co24)) (fun _ hk => trivial)⟩, ⟨by (with_reducible repeat (first | refine blk_drewN ?_ _ | refine blk_drew ?_ | refine blk_alloc ?_ _)); refine blk_far ?_ NB700_702.out _; (with_reducible repeat (first | refine blk_drewN ?_ _ | refine blk_drew ?_ | refine blk_alloc ?_ _)); exact BK700.out⟩, ⟨by (with_reducible repeat (first | refine blk_drewN ?_ _ | refine blk_drew ?_ | refine blk_alloc ?_ _)); refine blk_far ?_ NB701_702.out _; (with_reducible repeat (first | refine blk_drewN ?_ _ | refine blk_drew ?_ | refine blk_alloc ?_ _)); exact BK701.out⟩, ⟨by (with_reducible repeat (first | refine blk_drewN ?_ _ | refine blk_drew ?_ | refine blk_alloc ?_ _)); refine blk_put (cs := #[u703000, .slice none 0 0]) ?_ 0 _ rfl; (with_reducible repeat (first | refine blk_drewN ?_ _ | refine blk_drew ?_ | refine blk_alloc ?_ _)); exact BK702.out⟩, ⟨by repeat (first | (with_reducible first | exact HB.out | apply below_alloc | apply Pn | apply Dn | refine below_set ?_ GE700.out | refine below_set ?_ GE701.out | refine below_set ?_ GE702.out | refine below_set ?_ GE704.out) | exact HB.out)⟩⟩
       ·rw [if_neg c14] at H
        exact absurd H (by simp)
      ·replace c13 := Bool.eq_false_iff.mpr c13
       subst c13
       have H1 : ((afterwordlaw19_Span.f (-1000000) 1000000).bind fun bt709 => (if x703000_1.length < 8796093022208 then (afterwordlaw19_kept.l0 k1 l1 l0_0 (l0_0.length : Int) (wrap64 (x13_1 + 1)) l0_0 l0_1 (x703000_1 ++ [(⟨bt709.1, bt709.2⟩ : S27)])) else (none))) = some (r1, r2) := by rw [if_neg (show ¬ (false = true) by decide)] at H; exact H
       clear H
       have H := H1
       clear H1
       replace H := Option.bind_eq_some_iff.mp H
       obtain ⟨⟨t709, t710⟩, A260, H⟩ := H
       replace H : (if x703000_1.length < 8796093022208 then (afterwordlaw19_kept.l0 k1 l1 l0_0 (l0_0.length : Int) (wrap64 (x13_1 + 1)) l0_0 l0_1 (x703000_1 ++ [(⟨t709, t710⟩ : S27)])) else (none)) = some (r1, r2) := H
       have A26 := Aa A260
       clear A260
       by_cases c27 : x703000_1.length < 8796093022208
       ·rw [if_pos c27] at H
        have LMc27 := Aa c27
        clear c27
        obtain ⟨y711, hy711⟩ : ∃ y_ : List (S27), y_ = (x703000_1 ++ [(⟨t709, t710⟩ : S27)]) := ⟨_, rfl⟩
        replace H : (afterwordlaw19_kept.l0 k1 l1 l0_0 (l0_0.length : Int) (wrap64 (x13_1 + 1)) l0_0 l0_1 y711) = some (r1, r2) := by first | (rw [hy711]; with_reducible exact H) | (have H2_ := (Option.bind_some _ _).symm.trans H; rw [hy711]; with_reducible exact H2_) | (have H2_ := (Option.bind_some _ _).symm.trans H; with_reducible exact H2_) | with_reducible exact H | (rw [hy711]; exact H) | exact H
        have Ny711 := Aa hy711
        clear hy711
        have H' := Aa H
        clear H
        have p703 : 0 ≤ (x13_1 : Int) := of_decide_eq_true (by first | (with_reducible assumption) | assumption)
        have q703 : x13_1 < (l0_0.length : Int) := of_decide_eq_true (by first | (with_reducible assumption) | assumption)
        obtain ⟨ad703, e703, hx703_0, hx703_1⟩ := at_T27 HR0_0.out x13_1 p703 q703
        cases e703
        replace hx703_0 := (HB.out.cell (World.block_lt_of_cell? w _ hx703_0)).trans hx703_0
        replace hx703_1 := (HB.out.cell (World.block_lt_of_cell? w _ hx703_1)).trans hx703_1
        replace p703 := eq_true p703
        replace q703 := eq_true q703
        go_wp2_with (first | ((with_reducible refine gate_dst (N := 7) rfl ?_); refine box_event ?hg (N := 7) ?hd (cs := #[.int .i64 0, .int .i64 0]) (t := 27) ?hr ?_; (case hd => rfl); (case hg => rfl); (case hr => first | (go_simp; done) | (go_simp; rfl)); intro gb704 hg w28 hbox hb; have n0_ := Aa (Kd.R_below (Kd.R_elderB (by (with_reducible repeat (first | apply Kd.R_alloc | apply Kd.R_drewN | apply Kd.R_drew)); exact HO_703000.out) gb704 (Nat.le_of_eq hg.symm)) hb); have n1_ := Aa (blk_below (g := gb700) (o := .cells #[.slice (some ad703) l0_0.length c0_0, .slice A0_1 l0_1.length c0_1] 39 (0, 0)) (by (with_reducible repeat (first | refine blk_drewN ?_ _ | refine blk_drew ?_ | refine blk_alloc ?_ _)); exact BK700.out) hb); have n2_ := Aa (blk_below (g := gb701) (o := .cells #[.slice none 0 0, .slice none 0 0] 39 (0, 0)) (by (with_reducible repeat (first | refine blk_drewN ?_ _ | refine blk_drew ?_ | refine blk_alloc ?_ _)); exact BK701.out) hb); have n3_ := Aa (blk_below (g := gb702) (o := .cells #[u703000, .slice none 0 0] 39 (0, 0)) (by (with_reducible repeat (first | refine blk_drewN ?_ _ | refine blk_drew ?_ | refine blk_alloc ?_ _)); exact BK702.out) hb); have n4_ := Aa (below_step (by repeat (first | (with_reducible first | exact HB.out | apply below_alloc | apply Pn | apply Dn | refine below_set ?_ GE700.out | refine below_set ?_ GE701.out | refine below_set ?_ GE702.out) | exact HB.out)) hb); have n5_ := Aa (hbox); have n6_ := Aa ((by rw [hg]; exact (below_size (by repeat (first | (with_reducible first | exact HB.out | apply below_alloc | apply Pn | apply Dn | refine below_set ?_ GE700.out | refine below_set ?_ GE701.out | refine below_set ?_ GE702.out) | exact HB.out))) : w.heap.size ≤ gb704)); have n7_ := Aa ((by rw [hg]; exact (below_size (by repeat (first | (with_reducible first | exact HB.out | apply below_alloc | apply Pn | apply Dn | refine below_set ?_ GE700.out | refine below_set ?_ GE701.out | refine below_set ?_ GE702.out) | exact HB.out))) : w.heap.size ≤ gb704)); have n8_ := Aa ((by rw [hg]; exact Nat.ne_of_lt (blk_lt (g := gb700) (o := .cells #[.slice (some ad703) l0_0.length c0_0, .slice A0_1 l0_1.length c0_1] 39 (0, 0)) (by (with_reducible repeat (first | refine blk_drewN ?_ _ | refine blk_drew ?_ | refine blk_alloc ?_ _)); exact BK700.out)) : gb700 ≠ gb704)); have n9_ := Aa ((by rw [hg]; exact Nat.ne_of_gt (blk_lt (g := gb700) (o := .cells #[.slice (some ad703) l0_0.length c0_0, .slice A0_1 l0_1.length c0_1] 39 (0, 0)) (by (with_reducible repeat (first | refine blk_drewN ?_ _ | refine blk_drew ?_ | refine blk_alloc ?_ _)); exact BK700.out)) : gb704 ≠ gb700)); have n10_ := Aa ((by rw [hg]; exact Nat.ne_of_lt (blk_lt (g := gb701) (o := .cells #[.slice none 0 0, .slice none 0 0] 39 (0, 0)) (by (with_reducible repeat (first | refine blk_drewN ?_ _ | refine blk_drew ?_ | refine blk_alloc ?_ _)); exact BK701.out)) : gb701 ≠ gb704)); have n11_ := Aa ((by rw [hg]; exact Nat.ne_of_gt (blk_lt (g := gb701) (o := .cells #[.slice none 0 0, .slice none 0 0] 39 (0, 0)) (by (with_reducible repeat (first | refine blk_drewN ?_ _ | refine blk_drew ?_ | refine blk_alloc ?_ _)); exact BK701.out)) : gb704 ≠ gb701)); have n12_ := Aa ((by rw [hg]; exact Nat.ne_of_lt (blk_lt (g := gb702) (o := .cells #[u703000, .slice none 0 0] 39 (0, 0)) (by (with_reducible repeat (first | refine blk_drewN ?_ _ | refine blk_drew ?_ | refine blk_alloc ?_ _)); exact BK702.out)) : gb702 ≠ gb704)); have n13_ := Aa ((by rw [hg]; exact Nat.ne_of_gt (blk_lt (g := gb702) (o := .cells #[u703000, .slice none 0 0] 39 (0, 0)) (by (with_reducible repeat (first | refine blk_drewN ?_ _ | refine blk_drew ?_ | refine blk_alloc ?_ _)); exact BK702.out)) : gb704 ≠ gb702)); clear HO_703000; clear BK700; clear BK701; clear BK702; clear HB; have HO_703000 := n0_; have BK700 := n1_; have BK701 := n2_; have BK702 := n3_; have HB := n4_; have BK704 := n5_; have GW704 := n6_; have GE704 := n7_; have NB700_704 := n8_; have NB704_700 := n9_; have NB701_704 := n10_; have NB704_701 := n11_; have NB702_704 := n12_; have NB704_702 := n13_; clear n0_ n1_ n2_ n3_ n4_ n5_ n6_ n7_ n8_ n9_ n10_ n11_ n12_ n13_; clear hb hbox hg; have hnb29 := NB704_700.out; have hnc29 := NB700_704.out; have hnb30 := NB704_701.out; have hnc30 := NB701_704.out; have hnb31 := NB704_702.out; have hnc31 := NB702_704.out; have hcz32_0 : w28.cell? ⟨gb704, 0, none⟩ = some (.int .i64 0) := (blk_cell BK704.out 0).trans rfl; have hcz32_1 : w28.cell? ⟨gb704, 1, none⟩ = some (.int .i64 0) := (blk_cell BK704.out 1).trans rfl; have hfz32_0 := blk_frozen BK704.out 0; have hfz32_1 := blk_frozen BK704.out 1) | ((with_reducible refine gate_callee (f := 113) rfl ?_); refine goesL_ (some 20) rfl rfl Try.func113 (by kernel_rfl) rfl #[.slice A1 l1.length c1, .int .i64 x13_1] rfl (by (try simp only [List.map_toArray, List.map_cons, List.map_nil]); first | done | rfl | (simp only [List.length_drop, List.length_take]; rfl)) ?_; (with_reducible refine (slices_Contains_int_int.calls k1 _ _ l1 x13_1 false _ ?side1 ?side2 A12.out).mono ?_); (case side1 => exact Kd.C_below HR1.out (by repeat (first | (with_reducible first | exact HB.out | apply below_alloc | apply Pn | apply Dn | refine below_set ?_ GE700.out | refine below_set ?_ GE701.out | refine below_set ?_ GE702.out | refine below_set ?_ GE704.out) | exact HB.out))); (case side2 => exact HC1.out); rintro e w' ⟨rfl, ⟨nd, rfl⟩⟩; refine ⟨_, rfl, ?_⟩) | ((with_reducible refine gate_callee (f := 55) rfl ?_); refine goesL_ (some 22) rfl rfl Try.func55 (by kernel_rfl) rfl #[.int .i64 (-1000000), .int .i64 1000000] rfl (by (try simp only [List.map_toArray, List.map_cons, List.map_nil]); first | done | rfl | (simp only [List.length_drop, List.length_take]; rfl)) ?_; (with_reducible refine (afterwordlaw19_Span.calls (-1000000) 1000000 t709 t710 _ A26.out).mono ?_); rintro e w33 ⟨rfl, hb⟩; refine ⟨_, rfl, ?_⟩; have n0_ := Aa (Kd.R_below (by (with_reducible repeat (first | apply Kd.R_alloc | apply Kd.R_drewN | apply Kd.R_drew)); exact (Kd.R_mono (Kd.R_far (p := ⟨gb704, 1, none⟩) (Kd.R_far (p := ⟨gb704, 0, none⟩) (Kd.R_mono HO_703000.out (fun k_ hk => (⟨hk, hk.2⟩ : _ ∧ k_ ≠ gb704))) (fun _ hk => hk.2) (.int .i64 ((rd_T27 l0_0 x13_1).f0))) (fun _ hk => hk.2) (.int .i64 ((rd_T27 l0_0 x13_1).f1))) (fun _ h_ => h_.1))) hb); have n1_ := Aa (blk_below (g := gb700) (o := .cells #[.slice (some ad703) l0_0.length c0_0, .slice A0_1 l0_1.length c0_1] 39 (0, 0)) (by (with_reducible repeat (first | refine blk_drewN ?_ _ | refine blk_drew ?_ | refine blk_alloc ?_ _)); refine blk_far ?_ NB700_704.out _; (with_reducible repeat (first | refine blk_drewN ?_ _ | refine blk_drew ?_ | refine blk_alloc ?_ _)); refine blk_far ?_ NB700_704.out _; (with_reducible repeat (first | refine blk_drewN ?_ _ | refine blk_drew ?_ | refine blk_alloc ?_ _)); exact BK700.out) hb); have n2_ := Aa (blk_below (g := gb701) (o := .cells #[.slice none 0 0, .slice none 0 0] 39 (0, 0)) (by (with_reducible repeat (first | refine blk_drewN ?_ _ | refine blk_drew ?_ | refine blk_alloc ?_ _)); refine blk_far ?_ NB701_704.out _; (with_reducible repeat (first | refine blk_drewN ?_ _ | refine blk_drew ?_ | refine blk_alloc ?_ _)); refine blk_far ?_ NB701_704.out _; (with_reducible repeat (first | refine blk_drewN ?_ _ | refine blk_drew ?_ | refine blk_alloc ?_ _)); exact BK701.out) hb); have n3_ := Aa (blk_below (g := gb702) (o := .cells #[u703000, .slice none 0 0] 39 (0, 0)) (by (with_reducible repeat (first | refine blk_drewN ?_ _ | refine blk_drew ?_ | refine blk_alloc ?_ _)); refine blk_far ?_ NB702_704.out _; (with_reducible repeat (first | refine blk_drewN ?_ _ | refine blk_drew ?_ | refine blk_alloc ?_ _)); refine blk_far ?_ NB702_704.out _; (with_reducible repeat (first | refine blk_drewN ?_ _ | refine blk_drew ?_ | refine blk_alloc ?_ _)); exact BK702.out) hb); have n4_ := Aa (blk_below (g := gb704) (o := .cells #[.int .i64 ((rd_T27 l0_0 x13_1).f0), .int .i64 ((rd_T27 l0_0 x13_1).f1)] 27 (0, 0)) (by (with_reducible repeat (first | refine blk_drewN ?_ _ | refine blk_drew ?_ | refine blk_alloc ?_ _)); refine blk_put (cs := #[.int .i64 ((rd_T27 l0_0 x13_1).f0), .int .i64 0]) ?_ 1 _ rfl; (with_reducible repeat (first | refine blk_drewN ?_ _ | refine blk_drew ?_ | refine blk_alloc ?_ _)); refine blk_put (cs := #[.int .i64 0, .int .i64 0]) ?_ 0 _ rfl; (with_reducible repeat (first | refine blk_drewN ?_ _ | refine blk_drew ?_ | refine blk_alloc ?_ _)); exact BK704.out) hb); have n5_ := Aa (below_step (by repeat (first | (with_reducible first | exact HB.out | apply below_alloc | apply Pn | apply Dn | refine below_set ?_ GE700.out | refine below_set ?_ GE701.out | refine below_set ?_ GE702.out | refine below_set ?_ GE704.out) | exact HB.out)) hb); clear HO_703000; clear BK700; clear BK701; clear BK702; clear BK704; clear HB; have HO_703000 := n0_; have BK700 := n1_; have BK701 := n2_; have BK702 := n3_; have BK704 := n4_; have HB := n5_; clear n0_ n1_ n2_ n3_ n4_ n5_; (try clear hb); (try clear hb2); (try clear hk); (try clear hi); have hcz34_0 : w33.cell? ⟨gb704, 0, none⟩ = some (.int .i64 ((rd_T27 l0_0 x13_1).f0)) := (blk_cell BK704.out 0).trans rfl; have hcz34_1 : w33.cell? ⟨gb704, 1, none⟩ = some (.int .i64 ((rd_T27 l0_0 x13_1).f1)) := (blk_cell BK704.out 1).trans rfl; have hfz34_0 := blk_frozen BK704.out 0; have hfz34_1 := blk_frozen BK704.out 1; have hnb35 := NB702_700.out; have hnc35 := NB700_702.out; have hnb36 := NB702_701.out; have hnc36 := NB701_702.out; have hcz37_0 : w33.cell? ⟨gb702, 0, none⟩ = some (u703000) := (blk_cell BK702.out 0).trans rfl; have hcz37_1 : w33.cell? ⟨gb702, 1, none⟩ = some (.slice none 0 0) := (blk_cell BK702.out 1).trans rfl; have hfz37_0 := blk_frozen BK702.out 0; have hfz37_1 := blk_frozen BK702.out 1) | ((with_reducible refine gate_builtin (b := .append) (xs := #[.tmp 24, .tmp 26]) rfl ?_); at_builtin; refine Kd.R_append k27 (w0 := w) w.heap.size rfl (.tmp 24) (.tmp 26) 36 27 (.agg #[(.int .i64 0), (.int .i64 0)]) 16 rfl Try.underlying36 info27 rfl (by decide) (by omega) u703000 x703000_1 (⟨t709, t710⟩ : S27) [.int .i64 t709, .int .i64 t710] (fun k_ => k_ ≠ gb704) (fun _ => False) rfl (by first | (go_simp; done) | (go_simp; rfl)) ?aP (fun _ hk => hk.elim) ?aF ?aO ?aB ?aS ?aL ?_; (case aP => exact k27_mkM _ _ _ (⟨t709, t710⟩ : S27)); (case aB => exact (by repeat (first | (with_reducible first | exact HB.out | apply below_alloc | apply Pn | apply Dn | refine below_set ?_ GE700.out | refine below_set ?_ GE701.out | refine below_set ?_ GE702.out | refine below_set ?_ GE704.out) | exact HB.out))); (case aF => exact (fun k_ hk => Kd.freshB (g := gb704) (o := .cells #[.int .i64 t709, .int .i64 t710] 27 (0, 0)) (by (with_reducible repeat (first | refine blk_drewN ?_ _ | refine blk_drew ?_ | refine blk_alloc ?_ _)); refine blk_put (cs := #[.int .i64 t709, .int .i64 ((rd_T27 l0_0 x13_1).f1)]) ?_ 1 _ rfl; (with_reducible repeat (first | refine blk_drewN ?_ _ | refine blk_drew ?_ | refine blk_alloc ?_ _)); refine blk_put (cs := #[.int .i64 ((rd_T27 l0_0 x13_1).f0), .int .i64 ((rd_T27 l0_0 x13_1).f1)]) ?_ 0 _ rfl; (with_reducible repeat (first | refine blk_drewN ?_ _ | refine blk_drew ?_ | refine blk_alloc ?_ _)); exact BK704.out) k_ hk)); (case aO => exact (by (with_reducible repeat (first | apply Kd.R_alloc | apply Kd.R_drewN | apply Kd.R_drew)); exact Kd.R_mono (Kd.R_far (p := ⟨gb704, 1, none⟩) (Kd.R_far (p := ⟨gb704, 0, none⟩) (Kd.R_mono HO_703000.out (fun k_ hk => (⟨hk, hk.2⟩ : _ ∧ k_ ≠ gb704))) (fun _ hk => hk.2) (.int .i64 t709)) (fun _ hk => hk.2) (.int .i64 t710)) (fun _ hk => hk.1.2))); (case aS => exact (below_size (by repeat (first | (with_reducible first | exact HB.out | apply below_alloc | apply Pn | apply Dn | refine below_set ?_ GE700.out | refine below_set ?_ GE701.out | refine below_set ?_ GE702.out | refine below_set ?_ GE704.out) | exact HB.out)))); (case aL => have := LMc27.out; omega); intro v712 w38 ho hb hg hat; rw [← Ny711.out] at ho; have n0_ := Aa (blk_grown (g := gb700) (o := .cells #[.slice (some ad703) l0_0.length c0_0, .slice A0_1 l0_1.length c0_1] 39 (0, 0)) (by (with_reducible repeat (first | refine blk_drewN ?_ _ | refine blk_drew ?_ | refine blk_alloc ?_ _)); refine blk_far ?_ NB700_704.out _; (with_reducible repeat (first | refine blk_drewN ?_ _ | refine blk_drew ?_ | refine blk_alloc ?_ _)); refine blk_far ?_ NB700_704.out _; (with_reducible repeat (first | refine blk_drewN ?_ _ | refine blk_drew ?_ | refine blk_alloc ?_ _)); exact BK700.out) hg (Kd.R_ne HO_703000.out BK700.out (by decide))); have n1_ := Aa (blk_grown (g := gb701) (o := .cells #[.slice none 0 0, .slice none 0 0] 39 (0, 0)) (by (with_reducible repeat (first | refine blk_drewN ?_ _ | refine blk_drew ?_ | refine blk_alloc ?_ _)); refine blk_far ?_ NB701_704.out _; (with_reducible repeat (first | refine blk_drewN ?_ _ | refine blk_drew ?_ | refine blk_alloc ?_ _)); refine blk_far ?_ NB701_704.out _; (with_reducible repeat (first | refine blk_drewN ?_ _ | refine blk_drew ?_ | refine blk_alloc ?_ _)); exact BK701.out) hg (Kd.R_ne HO_703000.out BK701.out (by decide))); have n2_ := Aa (blk_grown (g := gb702) (o := .cells #[u703000, .slice none 0 0] 39 (0, 0)) (by (with_reducible repeat (first | refine blk_drewN ?_ _ | refine blk_drew ?_ | refine blk_alloc ?_ _)); refine blk_far ?_ NB702_704.out _; (with_reducible repeat (first | refine blk_drewN ?_ _ | refine blk_drew ?_ | refine blk_alloc ?_ _)); refine blk_far ?_ NB702_704.out _; (with_reducible repeat (first | refine blk_drewN ?_ _ | refine blk_drew ?_ | refine blk_alloc ?_ _)); exact BK702.out) hg (Kd.R_ne HO_703000.out BK702.out (by decide))); have n3_ := Aa (blk_grown (g := gb704) (o := .cells #[.int .i64 t709, .int .i64 t710] 27 (0, 0)) (by (with_reducible repeat (first | refine blk_drewN ?_ _ | refine blk_drew ?_ | refine blk_alloc ?_ _)); refine blk_put (cs := #[.int .i64 t709, .int .i64 ((rd_T27 l0_0 x13_1).f1)]) ?_ 1 _ rfl; (with_reducible repeat (first | refine blk_drewN ?_ _ | refine blk_drew ?_ | refine blk_alloc ?_ _)); refine blk_put (cs := #[.int .i64 ((rd_T27 l0_0 x13_1).f0), .int .i64 ((rd_T27 l0_0 x13_1).f1)]) ?_ 0 _ rfl; (with_reducible repeat (first | refine blk_drewN ?_ _ | refine blk_drew ?_ | refine blk_alloc ?_ _)); exact BK704.out) hg (Kd.R_away HO_703000.out (fun _ hk => hk.2))); have n4_ := Aa (hb); have n5_ := Aa (ho); clear BK700; clear BK701; clear BK702; clear BK704; clear HB; clear HO_703000; have BK700 := n0_; have BK701 := n1_; have BK702 := n2_; have BK704 := n3_; have HB := n4_; have HO713 := n5_; clear n0_ n1_ n2_ n3_ n4_ n5_; clear ho hb hg hat; obtain ⟨Ao39, co39, eo39⟩ := Kd.R_slice HO713.out; subst eo39; have hcz40_0 : w38.cell? ⟨gb702, 0, none⟩ = some (u703000) := (blk_cell BK702.out 0).trans rfl; have hcz40_1 : w38.cell? ⟨gb702, 1, none⟩ = some (.slice none 0 0) := (blk_cell BK702.out 1).trans rfl; have hfz40_0 := blk_frozen BK702.out 0; have hfz40_1 := blk_frozen BK702.out 1))
        go_roundg k1
        case measure => have := HK1.out; omega
        case rel => exact ⟨(wrap64 (x13_1 + 1)), (y711), (.slice Ao39 y711.length co39), (by first | rfl | (simp; done) | (simp [*]; done)), H', ⟨by have := HK1.out; omega⟩, ⟨by (with_reducible repeat (first | apply Kd.R_alloc | apply Kd.R_drewN | apply Kd.R_drew)); exact Kd.R_mono (Kd.R_far (p := ⟨gb702, 0, none⟩) (Kd.R_types HO713.out BK702.out (by decide)) (fun _ hk => hk.2) (.slice Ao39 y711.length co39)) (fun _ hk => trivial)⟩, ⟨by (with_reducible repeat (first | refine blk_drewN ?_ _ | refine blk_drew ?_ | refine blk_alloc ?_ _)); refine blk_far ?_ NB700_702.out _; (with_reducible repeat (first | refine blk_drewN ?_ _ | refine blk_drew ?_ | refine blk_alloc ?_ _)); exact BK700.out⟩, ⟨by (with_reducible repeat (first | refine blk_drewN ?_ _ | refine blk_drew ?_ | refine blk_alloc ?_ _)); refine blk_far ?_ NB701_702.out _; (with_reducible repeat (first | refine blk_drewN ?_ _ | refine blk_drew ?_ | refine blk_alloc ?_ _)); exact BK701.out⟩, ⟨by (with_reducible repeat (first | refine blk_drewN ?_ _ | refine blk_drew ?_ | refine blk_alloc ?_ _)); refine blk_put (cs := #[u703000, .slice none 0 0]) ?_ 0 _ rfl; (with_reducible repeat (first | refine blk_drewN ?_ _ | refine blk_drew ?_ | refine blk_alloc ?_ _)); exact BK702.out⟩, ⟨by repeat (first | (with_reducible first | exact HB.out | apply below_alloc | apply Pn | apply Dn | refine below_set ?_ GE700.out | refine below_set ?_ GE701.out | refine below_set ?_ GE702.out | refine below_set ?_ GE704.out) | exact HB.out)⟩⟩
       ·rw [if_neg c27] at H
        exact absurd H (by simp)
     ·rw [if_neg c11] at H
      exact absurd H (by simp)
    ·rw [if_neg c10] at H
     exact absurd H (by simp)
   ·rw [if_neg c9] at H
    have c9b0 : decide (x13_1 < (l0_0.length : Int)) = false := decide_eq_false c9
    clear c9
    have H' := Aa H
    clear H
    have hnb41 := NB700_701.out
    have hnc41 := NB701_700.out
    have hnb42 := NB700_702.out
    have hnc42 := NB702_700.out
    have hcz43_0 : wr.cell? ⟨gb700, 0, none⟩ = some (.slice A0_0 l0_0.length c0_0) := (blk_cell BK700.out 0).trans rfl
    have hcz43_1 : wr.cell? ⟨gb700, 1, none⟩ = some (.slice A0_1 l0_1.length c0_1) := (blk_cell BK700.out 1).trans rfl
    have hfz43_0 := blk_frozen BK700.out 0
    have hfz43_1 := blk_frozen BK700.out 1
    go_wp2
    go_loopg [33] k1 (fun kq v33 w' => ∃ (x33_2 : Int) (x703001_2 : List (S86)) (u703001 : Value), v33 = .int .i64 x33_2 ∧ Aside0 (afterwordlaw19_kept.l1 kq l1 l0_1 (l0_1.length : Int) x33_2 l0_0 l0_1 x703000_1 x703001_2 = some (r1, r2)) ∧ Aside0 (kq ≤ k1) ∧ Aside0 (Kd.R k27 27 w' w.heap.size (fun _ => True) u703000 x703000_1) ∧ Aside0 (Kd.R k86 86 w' w.heap.size (fun _ => True) u703001 x703001_2) ∧ Aside0 (w'.heap[gb700]? = some (.cells #[(.slice A0_0 l0_0.length c0_0), (.slice A0_1 l0_1.length c0_1)] 39 (0, 0))) ∧ Aside0 (w'.heap[gb701]? = some (.cells #[(.slice none 0 0), (.slice none 0 0)] 39 (0, 0))) ∧ Aside0 (w'.heap[gb702]? = some (.cells #[u703000, u703001] 39 (0, 0))) ∧ Aside0 (Below w.heap.size w w'))
    case atStart => exact ⟨(0), (([] : List (S86))), (.slice none 0 0), (by first | rfl | (simp; done) | (simp [*]; done)), H', ⟨Nat.le_refl _⟩, ⟨by (with_reducible repeat (first | apply Kd.R_alloc | apply Kd.R_drewN | apply Kd.R_drew)); exact HO_703000.out⟩, ⟨by first | exact Kd.R_nil _ _ _ _ _ | exact Kd.N_nil _ _ _ _ _ | exact Kd.V_nil _ _ _ _ _ | exact Kd.Q_nil _ _ _ _ _ | exact Kd.S_nil _ _ _ _ _⟩, ⟨by (with_reducible repeat (first | refine blk_drewN ?_ _ | refine blk_drew ?_ | refine blk_alloc ?_ _)); exact BK700.out⟩, ⟨by (with_reducible repeat (first | refine blk_drewN ?_ _ | refine blk_drew ?_ | refine blk_alloc ?_ _)); exact BK701.out⟩, ⟨by (with_reducible repeat (first | refine blk_drewN ?_ _ | refine blk_drew ?_ | refine blk_alloc ?_ _)); exact BK702.out⟩, ⟨by repeat (first | (with_reducible first | exact HB.out | apply below_alloc | apply Pn | apply Dn | refine below_set ?_ GE700.out | refine below_set ?_ GE701.out | refine below_set ?_ GE702.out) | exact HB.out)⟩⟩
    case round =>
     clear H'
     try clear c1
     try clear c2
     try clear p2
     try clear c3
     try clear c4
     try clear c5
     try clear c6
     try clear p6
     try clear c7
     try clear p7
     try clear q7
     try clear hx7
     try clear c9
     try clear c9b0
     try clear c10
     try clear c10b0
     try clear c11
     try clear c11b0
     try clear c13
     try clear c14
     try clear c16
     try clear c17
     try clear c18
     try clear c20
     try clear c21
     try clear c27
     try clear c29
     try clear c30
     try clear c31
     try clear c35
     try clear c36
     try clear c41
     try clear c42
     try clear hcz19_0
     try clear hcz19_1
     try clear hcz22_0
     try clear hcz22_1
     try clear hcz25_0
     try clear hcz25_1
     try clear hcz32_0
     try clear hcz32_1
     try clear hcz34_0
     try clear hcz34_1
     try clear hcz37_0
     try clear hcz37_1
     try clear hcz40_0
     try clear hcz40_1
     try clear hcz43_0
     try clear hcz43_1
     try clear hcz8_0
     try clear hcz8_1
     try clear hfz19_0
     try clear hfz19_1
     try clear hfz22_0
     try clear hfz22_1
     try clear hfz25_0
     try clear hfz25_1
     try clear hfz32_0
     try clear hfz32_1
     try clear hfz34_0
     try clear hfz34_1
     try clear hfz37_0
     try clear hfz37_1
     try clear hfz40_0
     try clear hfz40_1
     try clear hfz43_0
     try clear hfz43_1
     try clear hfz8_0
     try clear hfz8_1
     try clear hx703_0
     try clear hx703_1
     try clear p2
     try clear p703
     try clear q703
     obtain ⟨x33_2, x703001_2, u703001, rfl, HA, HK2, HO_703000, HO_703001, BK700, BK701, BK702, HB⟩ := hrel
     cases gk with
     | zero => exact absurd HA.out (by simp [afterwordlaw19_kept.l1])
     | succ k2 =>
      have H := HA.out
      clear HA
      simp only [afterwordlaw19_kept.l1] at H
      by_cases c44 : x33_2 < (l0_1.length : Int)
      ·rw [if_pos c44] at H
       have c44b0 : decide (x33_2 < (l0_1.length : Int)) = true := decide_eq_true c44
       clear c44
       by_cases c45 : 0 ≤ x33_2
       ·rw [if_pos c45] at H
        have c45b0 : decide (0 ≤ x33_2) = true := decide_eq_true c45
        clear c45
        by_cases c46 : x33_2 < (l0_1.length : Int)
        ·rw [if_pos c46] at H
         have c46b0 : decide (x33_2 < (l0_1.length : Int)) = true := decide_eq_true c46
         clear c46
         replace H := Option.bind_eq_some_iff.mp H
         obtain ⟨t716, A470, H⟩ := H
         replace H : (if t716 = true then (if x703001_2.length < 4398046511104 then (afterwordlaw19_kept.l1 k2 l1 l0_1 (l0_1.length : Int) (wrap64 (x33_2 + 1)) l0_0 l0_1 x703000_1 (x703001_2 ++ [(⟨(rd_T86 l0_1 x33_2).f0, (rd_T86 l0_1 x33_2).f1, (rd_T86 l0_1 x33_2).f2, (rd_T86 l0_1 x33_2).f3⟩ : S86)])) else (none)) else (afterwordlaw19_kept.l1 k2 l1 l0_1 (l0_1.length : Int) (wrap64 (x33_2 + 1)) l0_0 l0_1 x703000_1 x703001_2)) = some (r1, r2) := H
         have A47 := Aa A470
         clear A470
         by_cases c48 : t716 = true
         ·subst c48
          have H1 : (if x703001_2.length < 4398046511104 then (afterwordlaw19_kept.l1 k2 l1 l0_1 (l0_1.length : Int) (wrap64 (x33_2 + 1)) l0_0 l0_1 x703000_1 (x703001_2 ++ [(⟨(rd_T86 l0_1 x33_2).f0, (rd_T86 l0_1 x33_2).f1, (rd_T86 l0_1 x33_2).f2, (rd_T86 l0_1 x33_2).f3⟩ : S86)])) else (none)) = some (r1, r2) := by rw [if_pos rfl] at H; exact H
          clear H
          have H := H1
          clear H1
          by_cases c49 : x703001_2.length < 4398046511104
          ·rw [if_pos c49] at H
           have LMc49 := Aa c49
           clear c49
           obtain ⟨y717, hy717⟩ : ∃ y_ : List (S86), y_ = (x703001_2 ++ [(⟨(rd_T86 l0_1 x33_2).f0, (rd_T86 l0_1 x33_2).f1, (rd_T86 l0_1 x33_2).f2, (rd_T86 l0_1 x33_2).f3⟩ : S86)]) := ⟨_, rfl⟩
           replace H : (afterwordlaw19_kept.l1 k2 l1 l0_1 (l0_1.length : Int) (wrap64 (x33_2 + 1)) l0_0 l0_1 x703000_1 y717) = some (r1, r2) := by first | (rw [hy717]; with_reducible exact H) | (have H2_ := (Option.bind_some _ _).symm.trans H; rw [hy717]; with_reducible exact H2_) | (have H2_ := (Option.bind_some _ _).symm.trans H; with_reducible exact H2_) | with_reducible exact H | (rw [hy717]; exact H) | exact H
           have Ny717 := Aa hy717
           clear hy717
           have H' := Aa H
           clear H
           have p714 : 0 ≤ (x33_2 : Int) := of_decide_eq_true (by first | (with_reducible assumption) | assumption)
           have q714 : x33_2 < (l0_1.length : Int) := of_decide_eq_true (by first | (with_reducible assumption) | assumption)
           obtain ⟨ad714, e714, hx714_0, hx714_1, hx714_2, hx714_3⟩ := at_T86 HR0_1.out x33_2 p714 q714
           cases e714
           replace hx714_0 := (HB.out.cell (World.block_lt_of_cell? w _ hx714_0)).trans hx714_0
           replace hx714_1 := (HB.out.cell (World.block_lt_of_cell? w _ hx714_1)).trans hx714_1
           replace hx714_2 := (HB.out.cell (World.block_lt_of_cell? w _ hx714_2)).trans hx714_2
           replace hx714_3 := (HB.out.cell (World.block_lt_of_cell? w _ hx714_3)).trans hx714_3
           replace p714 := eq_true p714
           replace q714 := eq_true q714
           go_wp2_with (first | ((with_reducible refine gate_dst (N := 9) rfl ?_); refine box_event ?hg (N := 9) ?hd (cs := #[.int .i64 0, .int .i64 0, .int .i64 0, .int .i64 0]) (t := 86) ?hr ?_; (case hd => rfl); (case hg => rfl); (case hr => first | (go_simp; done) | (go_simp; rfl)); intro gb715 hg w50 hbox hb; have n0_ := Aa (Kd.R_below (by (with_reducible repeat (first | apply Kd.R_alloc | apply Kd.R_drewN | apply Kd.R_drew)); exact HO_703000.out) hb); have n1_ := Aa (Kd.R_below (Kd.R_elderB (by (with_reducible repeat (first | apply Kd.R_alloc | apply Kd.R_drewN | apply Kd.R_drew)); exact HO_703001.out) gb715 (Nat.le_of_eq hg.symm)) hb); have n2_ := Aa (blk_below (g := gb700) (o := .cells #[.slice A0_0 l0_0.length c0_0, .slice (some ad714) l0_1.length c0_1] 39 (0, 0)) (by (with_reducible repeat (first | refine blk_drewN ?_ _ | refine blk_drew ?_ | refine blk_alloc ?_ _)); exact BK700.out) hb); have n3_ := Aa (blk_below (g := gb701) (o := .cells #[.slice none 0 0, .slice none 0 0] 39 (0, 0)) (by (with_reducible repeat (first | refine blk_drewN ?_ _ | refine blk_drew ?_ | refine blk_alloc ?_ _)); exact BK701.out) hb); have n4_ := Aa (blk_below (g := gb702) (o := .cells #[u703000, u703001] 39 (0, 0)) (by (with_reducible repeat (first | refine blk_drewN ?_ _ | refine blk_drew ?_ | refine blk_alloc ?_ _)); exact BK702.out) hb); have n5_ := Aa (below_step (by repeat (first | (with_reducible first | exact HB.out | apply below_alloc | apply Pn | apply Dn | refine below_set ?_ GE700.out | refine below_set ?_ GE701.out | refine below_set ?_ GE702.out) | exact HB.out)) hb); have n6_ := Aa (hbox); have n7_ := Aa ((by rw [hg]; exact (below_size (by repeat (first | (with_reducible first | exact HB.out | apply below_alloc | apply Pn | apply Dn | refine below_set ?_ GE700.out | refine below_set ?_ GE701.out | refine below_set ?_ GE702.out) | exact HB.out))) : w.heap.size ≤ gb715)); have n8_ := Aa ((by rw [hg]; exact (below_size (by repeat (first | (with_reducible first | exact HB.out | apply below_alloc | apply Pn | apply Dn | refine below_set ?_ GE700.out | refine below_set ?_ GE701.out | refine below_set ?_ GE702.out) | exact HB.out))) : w.heap.size ≤ gb715)); have n9_ := Aa ((by rw [hg]; exact Nat.ne_of_lt (blk_lt (g := gb700) (o := .cells #[.slice A0_0 l0_0.length c0_0, .slice (some ad714) l0_1.length c0_1] 39 (0, 0)) (by (with_reducible repeat (first | refine blk_drewN ?_ _ | refine blk_drew ?_ | refine blk_alloc ?_ _)); exact BK700.out)) : gb700 ≠ gb715)); have n10_ := Aa ((by rw [hg]; exact Nat.ne_of_gt (blk_lt (g := gb700) (o := .cells #[.slice A0_0 l0_0.length c0_0, .slice (some ad714) l0_1.length c0_1] 39 (0, 0)) (by (with_reducible repeat (first | refine blk_drewN ?_ _ | refine blk_drew ?_ | refine blk_alloc ?_ _)); exact BK700.out)) : gb715 ≠ gb700)); have n11_ := Aa ((by rw [hg]; exact Nat.ne_of_lt (blk_lt (g := gb701) (o := .cells #[.slice none 0 0, .slice none 0 0] 39 (0, 0)) (by (with_reducible repeat (first | refine blk_drewN ?_ _ | refine blk_drew ?_ | refine blk_alloc ?_ _)); exact BK701.out)) : gb701 ≠ gb715)); have n12_ := Aa ((by rw [hg]; exact Nat.ne_of_gt (blk_lt (g := gb701) (o := .cells #[.slice none 0 0, .slice none 0 0] 39 (0, 0)) (by (with_reducible repeat (first | refine blk_drewN ?_ _ | refine blk_drew ?_ | refine blk_alloc ?_ _)); exact BK701.out)) : gb715 ≠ gb701)); have n13_ := Aa ((by rw [hg]; exact Nat.ne_of_lt (blk_lt (g := gb702) (o := .cells #[u703000, u703001] 39 (0, 0)) (by (with_reducible repeat (first | refine blk_drewN ?_ _ | refine blk_drew ?_ | refine blk_alloc ?_ _)); exact BK702.out)) : gb702 ≠ gb715)); have n14_ := Aa ((by rw [hg]; exact Nat.ne_of_gt (blk_lt (g := gb702) (o := .cells #[u703000, u703001] 39 (0, 0)) (by (with_reducible repeat (first | refine blk_drewN ?_ _ | refine blk_drew ?_ | refine blk_alloc ?_ _)); exact BK702.out)) : gb715 ≠ gb702)); clear HO_703000; clear HO_703001; clear BK700; clear BK701; clear BK702; clear HB; have HO_703000 := n0_; have HO_703001 := n1_; have BK700 := n2_; have BK701 := n3_; have BK702 := n4_; have HB := n5_; have BK715 := n6_; have GW715 := n7_; have GE715 := n8_; have NB700_715 := n9_; have NB715_700 := n10_; have NB701_715 := n11_; have NB715_701 := n12_; have NB702_715 := n13_; have NB715_702 := n14_; clear n0_ n1_ n2_ n3_ n4_ n5_ n6_ n7_ n8_ n9_ n10_ n11_ n12_ n13_ n14_; clear hb hbox hg; have hnb51 := NB715_700.out; have hnc51 := NB700_715.out; have hnb52 := NB715_701.out; have hnc52 := NB701_715.out; have hnb53 := NB715_702.out; have hnc53 := NB702_715.out; have hcz54_0 : w50.cell? ⟨gb715, 0, none⟩ = some (.int .i64 0) := (blk_cell BK715.out 0).trans rfl; have hcz54_1 : w50.cell? ⟨gb715, 1, none⟩ = some (.int .i64 0) := (blk_cell BK715.out 1).trans rfl; have hcz54_2 : w50.cell? ⟨gb715, 2, none⟩ = some (.int .i64 0) := (blk_cell BK715.out 2).trans rfl; have hcz54_3 : w50.cell? ⟨gb715, 3, none⟩ = some (.int .i64 0) := (blk_cell BK715.out 3).trans rfl; have hfz54_0 := blk_frozen BK715.out 0; have hfz54_1 := blk_frozen BK715.out 1; have hfz54_2 := blk_frozen BK715.out 2; have hfz54_3 := blk_frozen BK715.out 3; have hnb55 := NB700_701.out; have hnc55 := NB701_700.out; have hnb56 := NB700_702.out; have hnc56 := NB702_700.out; have hcz57_0 : w50.cell? ⟨gb700, 0, none⟩ = some (.slice A0_0 l0_0.length c0_0) := (blk_cell BK700.out 0).trans rfl; have hcz57_1 : w50.cell? ⟨gb700, 1, none⟩ = some (.slice (some ad714) l0_1.length c0_1) := (blk_cell BK700.out 1).trans rfl; have hfz57_0 := blk_frozen BK700.out 0; have hfz57_1 := blk_frozen BK700.out 1) | ((with_reducible refine gate_callee (f := 113) rfl ?_); refine goesL_ (some 44) rfl rfl Try.func113 (by kernel_rfl) rfl #[.slice A1 l1.length c1, .int .i64 (wrap64 ((l0_0.length : Int) + x33_2))] rfl (by (try simp only [List.map_toArray, List.map_cons, List.map_nil]); first | done | rfl | (simp only [List.length_drop, List.length_take]; rfl)) ?_; (with_reducible refine (slices_Contains_int_int.calls k2 _ _ l1 (wrap64 ((l0_0.length : Int) + x33_2)) true _ ?side1 ?side2 A47.out).mono ?_); (case side1 => exact Kd.C_below HR1.out (by repeat (first | (with_reducible first | exact HB.out | apply below_alloc | apply Pn | apply Dn | refine below_set ?_ GE700.out | refine below_set ?_ GE701.out | refine below_set ?_ GE702.out | refine below_set ?_ GE715.out) | exact HB.out))); (case side2 => exact HC1.out); rintro e w' ⟨rfl, ⟨nd, rfl⟩⟩; refine ⟨_, rfl, ?_⟩; have hnb58 := NB702_701.out; have hnc58 := NB701_702.out; have hcz59_0 : w50.cell? ⟨gb702, 0, none⟩ = some (u703000) := (blk_cell BK702.out 0).trans rfl; have hcz59_1 : w50.cell? ⟨gb702, 1, none⟩ = some (u703001) := (blk_cell BK702.out 1).trans rfl; have hfz59_0 := blk_frozen BK702.out 0; have hfz59_1 := blk_frozen BK702.out 1) | ((with_reducible refine gate_builtin (b := .append) (xs := #[.tmp 46, .tmp 48]) rfl ?_); at_builtin; refine Kd.R_append k86 (w0 := w) w.heap.size rfl (.tmp 46) (.tmp 48) 37 86 (.agg #[(.int .i64 0), (.int .i64 0), (.int .i64 0), (.int .i64 0)]) 32 rfl Try.underlying37 info86 rfl (by decide) (by omega) u703001 x703001_2 (⟨(rd_T86 l0_1 x33_2).f0, (rd_T86 l0_1 x33_2).f1, (rd_T86 l0_1 x33_2).f2, (rd_T86 l0_1 x33_2).f3⟩ : S86) [.int .i64 ((rd_T86 l0_1 x33_2).f0), .int .i64 ((rd_T86 l0_1 x33_2).f1), .int .i64 ((rd_T86 l0_1 x33_2).f2), .int .i64 ((rd_T86 l0_1 x33_2).f3)] (fun k_ => k_ ≠ gb715) (fun _ => False) rfl (by first | (go_simp; done) | (go_simp; rfl)) ?aP (fun _ hk => hk.elim) ?aF ?aO ?aB ?aS ?aL ?_; (case aP => exact k86_mkM _ _ _ (⟨(rd_T86 l0_1 x33_2).f0, (rd_T86 l0_1 x33_2).f1, (rd_T86 l0_1 x33_2).f2, (rd_T86 l0_1 x33_2).f3⟩ : S86)); (case aB => exact (by repeat (first | (with_reducible first | exact HB.out | apply below_alloc | apply Pn | apply Dn | refine below_set ?_ GE700.out | refine below_set ?_ GE701.out | refine below_set ?_ GE702.out | refine below_set ?_ GE715.out) | exact HB.out))); (case aF => exact (fun k_ hk => Kd.freshB (g := gb715) (o := .cells #[.int .i64 ((rd_T86 l0_1 x33_2).f0), .int .i64 ((rd_T86 l0_1 x33_2).f1), .int .i64 ((rd_T86 l0_1 x33_2).f2), .int .i64 ((rd_T86 l0_1 x33_2).f3)] 86 (0, 0)) (by (with_reducible repeat (first | refine blk_drewN ?_ _ | refine blk_drew ?_ | refine blk_alloc ?_ _)); refine blk_put (cs := #[.int .i64 ((rd_T86 l0_1 x33_2).f0), .int .i64 ((rd_T86 l0_1 x33_2).f1), .int .i64 ((rd_T86 l0_1 x33_2).f2), .int .i64 0]) ?_ 3 _ rfl; (with_reducible repeat (first | refine blk_drewN ?_ _ | refine blk_drew ?_ | refine blk_alloc ?_ _)); refine blk_put (cs := #[.int .i64 ((rd_T86 l0_1 x33_2).f0), .int .i64 ((rd_T86 l0_1 x33_2).f1), .int .i64 0, .int .i64 0]) ?_ 2 _ rfl; (with_reducible repeat (first | refine blk_drewN ?_ _ | refine blk_drew ?_ | refine blk_alloc ?_ _)); refine blk_put (cs := #[.int .i64 ((rd_T86 l0_1 x33_2).f0), .int .i64 0, .int .i64 0, .int .i64 0]) ?_ 1 _ rfl; (with_reducible repeat (first | refine blk_drewN ?_ _ | refine blk_drew ?_ | refine blk_alloc ?_ _)); refine blk_put (cs := #[.int .i64 0, .int .i64 0, .int .i64 0, .int .i64 0]) ?_ 0 _ rfl; (with_reducible repeat (first | refine blk_drewN ?_ _ | refine blk_drew ?_ | refine blk_alloc ?_ _)); exact BK715.out) k_ hk)); (case aO => exact (by (with_reducible repeat (first | apply Kd.R_alloc | apply Kd.R_drewN | apply Kd.R_drew)); exact Kd.R_mono (Kd.R_far (p := ⟨gb715, 3, none⟩) (Kd.R_far (p := ⟨gb715, 2, none⟩) (Kd.R_far (p := ⟨gb715, 1, none⟩) (Kd.R_far (p := ⟨gb715, 0, none⟩) (Kd.R_mono HO_703001.out (fun k_ hk => (⟨hk, hk.2⟩ : _ ∧ k_ ≠ gb715))) (fun _ hk => hk.2) (.int .i64 ((rd_T86 l0_1 x33_2).f0))) (fun _ hk => hk.2) (.int .i64 ((rd_T86 l0_1 x33_2).f1))) (fun _ hk => hk.2) (.int .i64 ((rd_T86 l0_1 x33_2).f2))) (fun _ hk => hk.2) (.int .i64 ((rd_T86 l0_1 x33_2).f3))) (fun _ hk => hk.1.2))); (case aS => exact (below_size (by repeat (first | (with_reducible first | exact HB.out | apply below_alloc | apply Pn | apply Dn | refine below_set ?_ GE700.out | refine below_set ?_ GE701.out | refine below_set ?_ GE702.out | refine below_set ?_ GE715.out) | exact HB.out)))); (case aL => have := LMc49.out; omega); intro v718 w60 ho hb hg hat; rw [← Ny717.out] at ho; have n0_ := Aa (Kd.R_over' (by (with_reducible repeat (first | apply Kd.R_alloc | apply Kd.R_drewN | apply Kd.R_drew)); exact (Kd.R_mono (Kd.R_far (p := ⟨gb715, 3, none⟩) (Kd.R_far (p := ⟨gb715, 2, none⟩) (Kd.R_far (p := ⟨gb715, 1, none⟩) (Kd.R_far (p := ⟨gb715, 0, none⟩) (Kd.R_types HO_703000.out BK715.out (by decide)) (fun _ hk => hk.2) (.int .i64 ((rd_T86 l0_1 x33_2).f0))) (fun _ hk => hk.2) (.int .i64 ((rd_T86 l0_1 x33_2).f1))) (fun _ hk => hk.2) (.int .i64 ((rd_T86 l0_1 x33_2).f2))) (fun _ hk => hk.2) (.int .i64 ((rd_T86 l0_1 x33_2).f3))) (fun _ h_ => h_.1))) (Kd.R_typed (by (with_reducible repeat (first | apply Kd.R_alloc | apply Kd.R_drewN | apply Kd.R_drew)); exact (Kd.R_mono (Kd.R_far (p := ⟨gb715, 3, none⟩) (Kd.R_far (p := ⟨gb715, 2, none⟩) (Kd.R_far (p := ⟨gb715, 1, none⟩) (Kd.R_far (p := ⟨gb715, 0, none⟩) (Kd.R_mono HO_703001.out (fun k_ hk => (⟨hk, hk.2⟩ : _ ∧ k_ ≠ gb715))) (fun _ hk => hk.2) (.int .i64 ((rd_T86 l0_1 x33_2).f0))) (fun _ hk => hk.2) (.int .i64 ((rd_T86 l0_1 x33_2).f1))) (fun _ hk => hk.2) (.int .i64 ((rd_T86 l0_1 x33_2).f2))) (fun _ hk => hk.2) (.int .i64 ((rd_T86 l0_1 x33_2).f3))) (fun _ h_ => h_.1)))) (by decide) hg); have n1_ := Aa (blk_grown (g := gb700) (o := .cells #[.slice A0_0 l0_0.length c0_0, .slice (some ad714) l0_1.length c0_1] 39 (0, 0)) (by (with_reducible repeat (first | refine blk_drewN ?_ _ | refine blk_drew ?_ | refine blk_alloc ?_ _)); refine blk_far ?_ NB700_715.out _; (with_reducible repeat (first | refine blk_drewN ?_ _ | refine blk_drew ?_ | refine blk_alloc ?_ _)); refine blk_far ?_ NB700_715.out _; (with_reducible repeat (first | refine blk_drewN ?_ _ | refine blk_drew ?_ | refine blk_alloc ?_ _)); refine blk_far ?_ NB700_715.out _; (with_reducible repeat (first | refine blk_drewN ?_ _ | refine blk_drew ?_ | refine blk_alloc ?_ _)); refine blk_far ?_ NB700_715.out _; (with_reducible repeat (first | refine blk_drewN ?_ _ | refine blk_drew ?_ | refine blk_alloc ?_ _)); exact BK700.out) hg (Kd.R_ne HO_703001.out BK700.out (by decide))); have n2_ := Aa (blk_grown (g := gb701) (o := .cells #[.slice none 0 0, .slice none 0 0] 39 (0, 0)) (by (with_reducible repeat (first | refine blk_drewN ?_ _ | refine blk_drew ?_ | refine blk_alloc ?_ _)); refine blk_far ?_ NB701_715.out _; (with_reducible repeat (first | refine blk_drewN ?_ _ | refine blk_drew ?_ | refine blk_alloc ?_ _)); refine blk_far ?_ NB701_715.out _; (with_reducible repeat (first | refine blk_drewN ?_ _ | refine blk_drew ?_ | refine blk_alloc ?_ _)); refine blk_far ?_ NB701_715.out _; (with_reducible repeat (first | refine blk_drewN ?_ _ | refine blk_drew ?_ | refine blk_alloc ?_ _)); refine blk_far ?_ NB701_715.out _; (with_reducible repeat (first | refine blk_drewN ?_ _ | refine blk_drew ?_ | refine blk_alloc ?_ _)); exact BK701.out) hg (Kd.R_ne HO_703001.out BK701.out (by decide))); have n3_ := Aa (blk_grown (g := gb702) (o := .cells #[u703000, u703001] 39 (0, 0)) (by (with_reducible repeat (first | refine blk_drewN ?_ _ | refine blk_drew ?_ | refine blk_alloc ?_ _)); refine blk_far ?_ NB702_715.out _; (with_reducible repeat (first | refine blk_drewN ?_ _ | refine blk_drew ?_ | refine blk_alloc ?_ _)); refine blk_far ?_ NB702_715.out _; (with_reducible repeat (first | refine blk_drewN ?_ _ | refine blk_drew ?_ | refine blk_alloc ?_ _)); refine blk_far ?_ NB702_715.out _; (with_reducible repeat (first | refine blk_drewN ?_ _ | refine blk_drew ?_ | refine blk_alloc ?_ _)); refine blk_far ?_ NB702_715.out _; (with_reducible repeat (first | refine blk_drewN ?_ _ | refine blk_drew ?_ | refine blk_alloc ?_ _)); exact BK702.out) hg (Kd.R_ne HO_703001.out BK702.out (by decide))); have n4_ := Aa (blk_grown (g := gb715) (o := .cells #[.int .i64 ((rd_T86 l0_1 x33_2).f0), .int .i64 ((rd_T86 l0_1 x33_2).f1), .int .i64 ((rd_T86 l0_1 x33_2).f2), .int .i64 ((rd_T86 l0_1 x33_2).f3)] 86 (0, 0)) (by (with_reducible repeat (first | refine blk_drewN ?_ _ | refine blk_drew ?_ | refine blk_alloc ?_ _)); refine blk_put (cs := #[.int .i64 ((rd_T86 l0_1 x33_2).f0), .int .i64 ((rd_T86 l0_1 x33_2).f1), .int .i64 ((rd_T86 l0_1 x33_2).f2), .int .i64 0]) ?_ 3 _ rfl; (with_reducible repeat (first | refine blk_drewN ?_ _ | refine blk_drew ?_ | refine blk_alloc ?_ _)); refine blk_put (cs := #[.int .i64 ((rd_T86 l0_1 x33_2).f0), .int .i64 ((rd_T86 l0_1 x33_2).f1), .int .i64 0, .int .i64 0]) ?_ 2 _ rfl; (with_reducible repeat (first | refine blk_drewN ?_ _ | refine blk_drew ?_ | refine blk_alloc ?_ _)); refine blk_put (cs := #[.int .i64 ((rd_T86 l0_1 x33_2).f0), .int .i64 0, .int .i64 0, .int .i64 0]) ?_ 1 _ rfl; (with_reducible repeat (first | refine blk_drewN ?_ _ | refine blk_drew ?_ | refine blk_alloc ?_ _)); refine blk_put (cs := #[.int .i64 0, .int .i64 0, .int .i64 0, .int .i64 0]) ?_ 0 _ rfl; (with_reducible repeat (first | refine blk_drewN ?_ _ | refine blk_drew ?_ | refine blk_alloc ?_ _)); exact BK715.out) hg (Kd.R_away HO_703001.out (fun _ hk => hk.2))); have n5_ := Aa (hb); have n6_ := Aa (ho); clear HO_703000; clear BK700; clear BK701; clear BK702; clear BK715; clear HB; clear HO_703001; have HO_703000 := n0_; have BK700 := n1_; have BK701 := n2_; have BK702 := n3_; have BK715 := n4_; have HB := n5_; have HO719 := n6_; clear n0_ n1_ n2_ n3_ n4_ n5_ n6_; clear ho hb hg hat; obtain ⟨Ao61, co61, eo61⟩ := Kd.R_slice HO719.out; subst eo61; have hcz62_0 : w60.cell? ⟨gb702, 0, none⟩ = some (u703000) := (blk_cell BK702.out 0).trans rfl; have hcz62_1 : w60.cell? ⟨gb702, 1, none⟩ = some (u703001) := (blk_cell BK702.out 1).trans rfl; have hfz62_0 := blk_frozen BK702.out 0; have hfz62_1 := blk_frozen BK702.out 1))
           go_roundg k2
           case measure => have := HK1.out; have := HK2.out; omega
           case rel => exact ⟨(wrap64 (x33_2 + 1)), (y717), (.slice Ao61 y717.length co61), (by first | rfl | (simp; done) | (simp [*]; done)), H', ⟨by have := HK1.out; have := HK2.out; omega⟩, ⟨by (with_reducible repeat (first | apply Kd.R_alloc | apply Kd.R_drewN | apply Kd.R_drew)); exact Kd.R_mono (Kd.R_far (p := ⟨gb702, 1, none⟩) (Kd.R_types HO_703000.out BK702.out (by decide)) (fun _ hk => hk.2) (.slice Ao61 y717.length co61)) (fun _ hk => trivial)⟩, ⟨by (with_reducible repeat (first | apply Kd.R_alloc | apply Kd.R_drewN | apply Kd.R_drew)); exact Kd.R_mono (Kd.R_far (p := ⟨gb702, 1, none⟩) (Kd.R_types HO719.out BK702.out (by decide)) (fun _ hk => hk.2) (.slice Ao61 y717.length co61)) (fun _ hk => trivial)⟩, ⟨by (with_reducible repeat (first | refine blk_drewN ?_ _ | refine blk_drew ?_ | refine blk_alloc ?_ _)); refine blk_far ?_ NB700_702.out _; (with_reducible repeat (first | refine blk_drewN ?_ _ | refine blk_drew ?_ | refine blk_alloc ?_ _)); exact BK700.out⟩, ⟨by (with_reducible repeat (first | refine blk_drewN ?_ _ | refine blk_drew ?_ | refine blk_alloc ?_ _)); refine blk_far ?_ NB701_702.out _; (with_reducible repeat (first | refine blk_drewN ?_ _ | refine blk_drew ?_ | refine blk_alloc ?_ _)); exact BK701.out⟩, ⟨by (with_reducible repeat (first | refine blk_drewN ?_ _ | refine blk_drew ?_ | refine blk_alloc ?_ _)); refine blk_put (cs := #[u703000, u703001]) ?_ 1 _ rfl; (with_reducible repeat (first | refine blk_drewN ?_ _ | refine blk_drew ?_ | refine blk_alloc ?_ _)); exact BK702.out⟩, ⟨by repeat (first | (with_reducible first | exact HB.out | apply below_alloc | apply Pn | apply Dn | refine below_set ?_ GE700.out | refine below_set ?_ GE701.out | refine below_set ?_ GE702.out | refine below_set ?_ GE715.out) | exact HB.out)⟩⟩
          ·rw [if_neg c49] at H
           exact absurd H (by simp)
         ·replace c48 := Bool.eq_false_iff.mpr c48
          subst c48
          have H1 : (afterwordlaw19_kept.l1 k2 l1 l0_1 (l0_1.length : Int) (wrap64 (x33_2 + 1)) l0_0 l0_1 x703000_1 x703001_2) = some (r1, r2) := by rw [if_neg (show ¬ (false = true) by decide)] at H; exact H
          clear H
          have H := H1
          clear H1
          have H' := Aa H
          clear H
          have p714 : 0 ≤ (x33_2 : Int) := of_decide_eq_true (by first | (with_reducible assumption) | assumption)
          have q714 : x33_2 < (l0_1.length : Int) := of_decide_eq_true (by first | (with_reducible assumption) | assumption)
          obtain ⟨ad714, e714, hx714_0, hx714_1, hx714_2, hx714_3⟩ := at_T86 HR0_1.out x33_2 p714 q714
          cases e714
          replace hx714_0 := (HB.out.cell (World.block_lt_of_cell? w _ hx714_0)).trans hx714_0
          replace hx714_1 := (HB.out.cell (World.block_lt_of_cell? w _ hx714_1)).trans hx714_1
          replace hx714_2 := (HB.out.cell (World.block_lt_of_cell? w _ hx714_2)).trans hx714_2
          replace hx714_3 := (HB.out.cell (World.block_lt_of_cell? w _ hx714_3)).trans hx714_3
          replace p714 := eq_true p714
          replace q714 := eq_true q714
          go_wp2_with (first | ((with_reducible refine gate_dst (N := 9) rfl ?_); refine box_event ?hg (N := 9) ?hd (cs := #[.int .i64 0, .int .i64 0, .int .i64 0, .int .i64 0]) (t := 86) ?hr ?_; (case hd => rfl); (case hg => rfl); (case hr => first | (go_simp; done) | (go_simp; rfl)); intro gb715 hg w63 hbox hb; have n0_ := Aa (Kd.R_below (by (with_reducible repeat (first | apply Kd.R_alloc | apply Kd.R_drewN | apply Kd.R_drew)); exact HO_703000.out) hb); have n1_ := Aa (Kd.R_below (Kd.R_elderB (by (with_reducible repeat (first | apply Kd.R_alloc | apply Kd.R_drewN | apply Kd.R_drew)); exact HO_703001.out) gb715 (Nat.le_of_eq hg.symm)) hb); have n2_ := Aa (blk_below (g := gb700) (o := .cells #[.slice A0_0 l0_0.length c0_0, .slice (some ad714) l0_1.length c0_1] 39 (0, 0)) (by (with_reducible repeat (first | refine blk_drewN ?_ _ | refine blk_drew ?_ | refine blk_alloc ?_ _)); exact BK700.out) hb); have n3_ := Aa (blk_below (g := gb701) (o := .cells #[.slice none 0 0, .slice none 0 0] 39 (0, 0)) (by (with_reducible repeat (first | refine blk_drewN ?_ _ | refine blk_drew ?_ | refine blk_alloc ?_ _)); exact BK701.out) hb); have n4_ := Aa (blk_below (g := gb702) (o := .cells #[u703000, u703001] 39 (0, 0)) (by (with_reducible repeat (first | refine blk_drewN ?_ _ | refine blk_drew ?_ | refine blk_alloc ?_ _)); exact BK702.out) hb); have n5_ := Aa (below_step (by repeat (first | (with_reducible first | exact HB.out | apply below_alloc | apply Pn | apply Dn | refine below_set ?_ GE700.out | refine below_set ?_ GE701.out | refine below_set ?_ GE702.out) | exact HB.out)) hb); have n6_ := Aa (hbox); have n7_ := Aa ((by rw [hg]; exact (below_size (by repeat (first | (with_reducible first | exact HB.out | apply below_alloc | apply Pn | apply Dn | refine below_set ?_ GE700.out | refine below_set ?_ GE701.out | refine below_set ?_ GE702.out) | exact HB.out))) : w.heap.size ≤ gb715)); have n8_ := Aa ((by rw [hg]; exact (below_size (by repeat (first | (with_reducible first | exact HB.out | apply below_alloc | apply Pn | apply Dn | refine below_set ?_ GE700.out | refine below_set ?_ GE701.out | refine below_set ?_ GE702.out) | exact HB.out))) : w.heap.size ≤ gb715)); have n9_ := Aa ((by rw [hg]; exact Nat.ne_of_lt (blk_lt (g := gb700) (o := .cells #[.slice A0_0 l0_0.length c0_0, .slice (some ad714) l0_1.length c0_1] 39 (0, 0)) (by (with_reducible repeat (first | refine blk_drewN ?_ _ | refine blk_drew ?_ | refine blk_alloc ?_ _)); exact BK700.out)) : gb700 ≠ gb715)); have n10_ := Aa ((by rw [hg]; exact Nat.ne_of_gt (blk_lt (g := gb700) (o := .cells #[.slice A0_0 l0_0.length c0_0, .slice (some ad714) l0_1.length c0_1] 39 (0, 0)) (by (with_reducible repeat (first | refine blk_drewN ?_ _ | refine blk_drew ?_ | refine blk_alloc ?_ _)); exact BK700.out)) : gb715 ≠ gb700)); have n11_ := Aa ((by rw [hg]; exact Nat.ne_of_lt (blk_lt (g := gb701) (o := .cells #[.slice none 0 0, .slice none 0 0] 39 (0, 0)) (by (with_reducible repeat (first | refine blk_drewN ?_ _ | refine blk_drew ?_ | refine blk_alloc ?_ _)); exact BK701.out)) : gb701 ≠ gb715)); have n12_ := Aa ((by rw [hg]; exact Nat.ne_of_gt (blk_lt (g := gb701) (o := .cells #[.slice none 0 0, .slice none 0 0] 39 (0, 0)) (by (with_reducible repeat (first | refine blk_drewN ?_ _ | refine blk_drew ?_ | refine blk_alloc ?_ _)); exact BK701.out)) : gb715 ≠ gb701)); have n13_ := Aa ((by rw [hg]; exact Nat.ne_of_lt (blk_lt (g := gb702) (o := .cells #[u703000, u703001] 39 (0, 0)) (by (with_reducible repeat (first | refine blk_drewN ?_ _ | refine blk_drew ?_ | refine blk_alloc ?_ _)); exact BK702.out)) : gb702 ≠ gb715)); have n14_ := Aa ((by rw [hg]; exact Nat.ne_of_gt (blk_lt (g := gb702) (o := .cells #[u703000, u703001] 39 (0, 0)) (by (with_reducible repeat (first | refine blk_drewN ?_ _ | refine blk_drew ?_ | refine blk_alloc ?_ _)); exact BK702.out)) : gb715 ≠ gb702)); clear HO_703000; clear HO_703001; clear BK700; clear BK701; clear BK702; clear HB; have HO_703000 := n0_; have HO_703001 := n1_; have BK700 := n2_; have BK701 := n3_; have BK702 := n4_; have HB := n5_; have BK715 := n6_; have GW715 := n7_; have GE715 := n8_; have NB700_715 := n9_; have NB715_700 := n10_; have NB701_715 := n11_; have NB715_701 := n12_; have NB702_715 := n13_; have NB715_702 := n14_; clear n0_ n1_ n2_ n3_ n4_ n5_ n6_ n7_ n8_ n9_ n10_ n11_ n12_ n13_ n14_; clear hb hbox hg; have hnb64 := NB715_700.out; have hnc64 := NB700_715.out; have hnb65 := NB715_701.out; have hnc65 := NB701_715.out; have hnb66 := NB715_702.out; have hnc66 := NB702_715.out; have hcz67_0 : w63.cell? ⟨gb715, 0, none⟩ = some (.int .i64 0) := (blk_cell BK715.out 0).trans rfl; have hcz67_1 : w63.cell? ⟨gb715, 1, none⟩ = some (.int .i64 0) := (blk_cell BK715.out 1).trans rfl; have hcz67_2 : w63.cell? ⟨gb715, 2, none⟩ = some (.int .i64 0) := (blk_cell BK715.out 2).trans rfl; have hcz67_3 : w63.cell? ⟨gb715, 3, none⟩ = some (.int .i64 0) := (blk_cell BK715.out 3).trans rfl; have hfz67_0 := blk_frozen BK715.out 0; have hfz67_1 := blk_frozen BK715.out 1; have hfz67_2 := blk_frozen BK715.out 2; have hfz67_3 := blk_frozen BK715.out 3; have hnb68 := NB700_701.out; have hnc68 := NB701_700.out; have hnb69 := NB700_702.out; have hnc69 := NB702_700.out; have hcz70_0 : w63.cell? ⟨gb700, 0, none⟩ = some (.slice A0_0 l0_0.length c0_0) := (blk_cell BK700.out 0).trans rfl; have hcz70_1 : w63.cell? ⟨gb700, 1, none⟩ = some (.slice (some ad714) l0_1.length c0_1) := (blk_cell BK700.out 1).trans rfl; have hfz70_0 := blk_frozen BK700.out 0; have hfz70_1 := blk_frozen BK700.out 1) | ((with_reducible refine gate_callee (f := 113) rfl ?_); refine goesL_ (some 44) rfl rfl Try.func113 (by kernel_rfl) rfl #[.slice A1 l1.length c1, .int .i64 (wrap64 ((l0_0.length : Int) + x33_2))] rfl (by (try simp only [List.map_toArray, List.map_cons, List.map_nil]); first | done | rfl | (simp only [List.length_drop, List.length_take]; rfl)) ?_; (with_reducible refine (slices_Contains_int_int.calls k2 _ _ l1 (wrap64 ((l0_0.length : Int) + x33_2)) false _ ?side1 ?side2 A47.out).mono ?_); (case side1 => exact Kd.C_below HR1.out (by repeat (first | (with_reducible first | exact HB.out | apply below_alloc | apply Pn | apply Dn | refine below_set ?_ GE700.out | refine below_set ?_ GE701.out | refine below_set ?_ GE702.out | refine below_set ?_ GE715.out) | exact HB.out))); (case side2 => exact HC1.out); rintro e w' ⟨rfl, ⟨nd, rfl⟩⟩; refine ⟨_, rfl, ?_⟩))
          go_roundg k2
          case measure => have := HK1.out; have := HK2.out; omega
          case rel => exact ⟨(wrap64 (x33_2 + 1)), (x703001_2), (u703001), (by first | rfl | (simp; done) | (simp [*]; done)), H', ⟨by have := HK1.out; have := HK2.out; omega⟩, ⟨by (with_reducible repeat (first | apply Kd.R_alloc | apply Kd.R_drewN | apply Kd.R_drew)); exact Kd.R_mono (Kd.R_far (p := ⟨gb715, 3, none⟩) (Kd.R_far (p := ⟨gb715, 2, none⟩) (Kd.R_far (p := ⟨gb715, 1, none⟩) (Kd.R_far (p := ⟨gb715, 0, none⟩) (Kd.R_types HO_703000.out BK715.out (by decide)) (fun _ hk => hk.2) (.int .i64 ((rd_T86 l0_1 x33_2).f0))) (fun _ hk => hk.2) (.int .i64 ((rd_T86 l0_1 x33_2).f1))) (fun _ hk => hk.2) (.int .i64 ((rd_T86 l0_1 x33_2).f2))) (fun _ hk => hk.2) (.int .i64 ((rd_T86 l0_1 x33_2).f3))) (fun _ hk => trivial)⟩, ⟨by (with_reducible repeat (first | apply Kd.R_alloc | apply Kd.R_drewN | apply Kd.R_drew)); exact Kd.R_mono (Kd.R_far (p := ⟨gb715, 3, none⟩) (Kd.R_far (p := ⟨gb715, 2, none⟩) (Kd.R_far (p := ⟨gb715, 1, none⟩) (Kd.R_far (p := ⟨gb715, 0, none⟩) (Kd.R_mono HO_703001.out (fun k_ hk => (⟨hk, hk.2⟩ : _ ∧ k_ ≠ gb715))) (fun _ hk => hk.2) (.int .i64 ((rd_T86 l0_1 x33_2).f0))) (fun _ hk => hk.2) (.int .i64 ((rd_T86 l0_1 x33_2).f1))) (fun _ hk => hk.2) (.int .i64 ((rd_T86 l0_1 x33_2).f2))) (fun _ hk => hk.2) (.int .i64 ((rd_T86 l0_1 x33_2).f3))) (fun _ hk => trivial)⟩, ⟨by (with_reducible repeat (first | refine blk_drewN ?_ _ | refine blk_drew ?_ | refine blk_alloc ?_ _)); refine blk_far ?_ NB700_715.out _; (with_reducible repeat (first | refine blk_drewN ?_ _ | refine blk_drew ?_ | refine blk_alloc ?_ _)); refine blk_far ?_ NB700_715.out _; (with_reducible repeat (first | refine blk_drewN ?_ _ | refine blk_drew ?_ | refine blk_alloc ?_ _)); refine blk_far ?_ NB700_715.out _; (with_reducible repeat (first | refine blk_drewN ?_ _ | refine blk_drew ?_ | refine blk_alloc ?_ _)); refine blk_far ?_ NB700_715.out _; (with_reducible repeat (first | refine blk_drewN ?_ _ | refine blk_drew ?_ | refine blk_alloc ?_ _)); exact BK700.out⟩, ⟨by (with_reducible repeat (first | refine blk_drewN ?_ _ | refine blk_drew ?_ | refine blk_alloc ?_ _)); refine blk_far ?_ NB701_715.out _; (with_reducible repeat (first | refine blk_drewN ?_ _ | refine blk_drew ?_ | refine blk_alloc ?_ _)); refine blk_far ?_ NB701_715.out _; (with_reducible repeat (first | refine blk_drewN ?_ _ | refine blk_drew ?_ | refine blk_alloc ?_ _)); refine blk_far ?_ NB701_715.out _; (with_reducible repeat (first | refine blk_drewN ?_ _ | refine blk_drew ?_ | refine blk_alloc ?_ _)); refine blk_far ?_ NB701_715.out _; (with_reducible repeat (first | refine blk_drewN ?_ _ | refine blk_drew ?_ | refine blk_alloc ?_ _)); exact BK701.out⟩, ⟨by (with_reducible repeat (first | refine blk_drewN ?_ _ | refine blk_drew ?_ | refine blk_alloc ?_ _)); refine blk_far ?_ NB702_715.out _; (with_reducible repeat (first | refine blk_drewN ?_ _ | refine blk_drew ?_ | refine blk_alloc ?_ _)); refine blk_far ?_ NB702_715.out _; (with_reducible repeat (first | refine blk_drewN ?_ _ | refine blk_drew ?_ | refine blk_alloc ?_ _)); refine blk_far ?_ NB702_715.out _; (with_reducible repeat (first | refine blk_drewN ?_ _ | refine blk_drew ?_ | refine blk_alloc ?_ _)); refine blk_far ?_ NB702_715.out _; (with_reducible repeat (first | refine blk_drewN ?_ _ | refine blk_drew ?_ | refine blk_alloc ?_ _)); exact BK702.out⟩, ⟨by repeat (first | (with_reducible first | exact HB.out | apply below_alloc | apply Pn | apply Dn | refine below_set ?_ GE700.out | refine below_set ?_ GE701.out | refine below_set ?_ GE702.out | refine below_set ?_ GE715.out) | exact HB.out)⟩⟩
        ·rw [if_neg c46] at H
         exact absurd H (by simp)
       ·rw [if_neg c45] at H
        exact absurd H (by simp)
      ·rw [if_neg c44] at H
       have c44b0 : decide (x33_2 < (l0_1.length : Int)) = false := decide_eq_false c44
       clear c44
       simp only [Option.some.injEq, Prod.mk.injEq] at H
       obtain ⟨rfl, rfl⟩ := H
       have hnb71 := NB702_700.out
       have hnc71 := NB700_702.out
       have hnb72 := NB702_701.out
       have hnc72 := NB701_702.out
       have hcz73_0 : wr.cell? ⟨gb702, 0, none⟩ = some (u703000) := (blk_cell BK702.out 0).trans rfl
       have hcz73_1 : wr.cell? ⟨gb702, 1, none⟩ = some (u703001) := (blk_cell BK702.out 1).trans rfl
       have hfz73_0 := blk_frozen BK702.out 0
       have hfz73_1 := blk_frozen BK702.out 1
       obtain ⟨Ao74, co74, eo74⟩ := Kd.R_slice HO_703000.out
       subst eo74
       have hnb75 := NB701_700.out
       have hnc75 := NB700_701.out
       have hcz76_0 : wr.cell? ⟨gb701, 0, none⟩ = some (.slice none 0 0) := (blk_cell BK701.out 0).trans rfl
       have hcz76_1 : wr.cell? ⟨gb701, 1, none⟩ = some (.slice none 0 0) := (blk_cell BK701.out 1).trans rfl
       have hfz76_0 := blk_frozen BK701.out 0
       have hfz76_1 := blk_frozen BK701.out 1
       obtain ⟨Ao77, co77, eo77⟩ := Kd.R_slice HO_703001.out
       subst eo77
       go_wp2
       refine bodyPost_ret (results_cell_row rfl _ _ gb701 39 #[.slice Ao74 x703000_1.length co74, .slice Ao77 x703001_2.length co77] (0, 0) _ rfl (by (with_reducible repeat (first | refine blk_drewN ?_ _ | refine blk_drew ?_ | refine blk_alloc ?_ _)); refine blk_put (cs := #[.slice Ao74 x703000_1.length co74, .slice none 0 0]) ?_ 1 _ rfl; (with_reducible repeat (first | refine blk_drewN ?_ _ | refine blk_drew ?_ | refine blk_alloc ?_ _)); refine blk_put (cs := #[.slice none 0 0, .slice none 0 0]) ?_ 0 _ rfl; (with_reducible repeat (first | refine blk_drewN ?_ _ | refine blk_drew ?_ | refine blk_alloc ?_ _)); exact BK701.out) Try.underlying39 rfl (by kernel_rfl)) rfl ?_
       exact ⟨_, _, by first | rfl | (simp [errW_none, errW_some] <;> rfl) | (simp [*, errW_none, errW_some] <;> rfl), by (with_reducible repeat (first | apply Kd.R_alloc | apply Kd.R_drewN | apply Kd.R_drew)); exact Kd.R_mono (Kd.R_far (p := ⟨gb701, 1, none⟩) (Kd.R_far (p := ⟨gb701, 0, none⟩) (Kd.R_types HO_703000.out BK701.out (by decide)) (fun _ hk => hk.2) (.slice Ao74 x703000_1.length co74)) (fun _ hk => hk.2) (.slice Ao77 x703001_2.length co77)) (fun _ hk => trivial), by (with_reducible repeat (first | apply Kd.R_alloc | apply Kd.R_drewN | apply Kd.R_drew)); exact Kd.R_mono (Kd.R_far (p := ⟨gb701, 1, none⟩) (Kd.R_far (p := ⟨gb701, 0, none⟩) (Kd.R_types HO_703001.out BK701.out (by decide)) (fun _ hk => hk.2) (.slice Ao74 x703000_1.length co74)) (fun _ hk => hk.2) (.slice Ao77 x703001_2.length co77)) (fun _ hk => trivial), by repeat (first | (with_reducible first | exact HB.out | apply below_alloc | apply Pn | apply Dn | refine below_set ?_ GE700.out | refine below_set ?_ GE701.out | refine below_set ?_ GE702.out) | exact HB.out)⟩
end
end Go.Proofs.Ytbffhblebigcfaa.Sk
