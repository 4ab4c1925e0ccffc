/- Words and walks of this claim, merged. -/
import Derived.Test.YtobcecgcegoooaaProg
import Derived.Below
import Derived.Deep.Draws
import Derived.Deep.AppendLies
import Derived.Maps.AppendAt
import Derived.OwnWalk
import Derived.Laws.BytesArg
import Derived.Laws.MakeOwn
import Derived.Laws.OwnMore
import Derived.Deep.OwnRows
import Derived.Tactics
import Derived.Lib.ConvBytes
import Derived.Laws.Slices
import Derived.WalkKit
import Derived.KernelRfl
import Derived.RowKit3
import Derived.Deep.LoopGhost
import Derived.Deep.QuietTactic
import Derived.BigQuiet
import Derived.WideLaws
import Derived.Deep.DeepCutAuto
import Derived.Deep.CutBlock
import Derived.Deep.RegionHeld3
import Derived.Laws.Rows
import Derived.Lib.AppendStr
import Derived.ArgAppend
import Derived.Laws.IdiomCopy
import Derived.OrdersHeld
import Derived.Laws.BitsLemmas
import Derived.RowKit
import Derived.Test.YtobcecgcegoooaaCSrW0
namespace Go.Proofs.Ytobcecgcegoooaa.Sk
open Go.RowKit Go.Proofs.YtobcecgcegoooaaW.PrintWords Go.Proofs.YtobcecgcegoooaaW.PrintLast Go.Proofs.YtobcecgcegoooaaW.PrintMore
set_option linter.unusedVariables false
set_option linter.unusedSimpArgs false
section
attribute [local go_sem] max2_int min2_int max_two min_two
theorem info3 : (Try.prog.info? 3).map (fun i => (i.zero, i.size, i.bytes)) = some (some (.int .i64 0), 1, 8) := by kernel_rfl
theorem info4 : (Try.prog.info? 4).map (fun i => (i.zero, i.size, i.bytes)) = some (some (.bool false), 1, 1) := by kernel_rfl
theorem info27 : (Try.prog.info? 27).map (fun i => (i.zero, i.size, i.bytes)) = some (some (.agg #[(.int .i64 0), (.int .i64 0)]), 2, 16) := by kernel_rfl
theorem info40 : (Try.prog.info? 40).map (fun i => (i.zero, i.size, i.bytes)) = some (some (.slice none 0 0), 1, 24) := by kernel_rfl
theorem info47 : (Try.prog.info? 47).map (fun i => (i.zero, i.size, i.bytes)) = some (some (.agg #[(.int .i64 0), (.int .i64 0)]), 2, 16) := by kernel_rfl
theorem info86 : (Try.prog.info? 86).map (fun i => (i.zero, i.size, i.bytes)) = some (some (.agg #[(.int .i64 0), (.int .i64 0), (.int .i64 0), (.int .i64 0)]), 4, 32) := by kernel_rfl
theorem info130 : (Try.prog.info? 130).map (fun i => (i.zero, i.size, i.bytes)) = some (some (.agg #[(.int .i64 0), (.int .i64 0)]), 2, 16) := by kernel_rfl
structure S27 where
 f0 : Int
 f1 : Int
def z27 : S27 := ⟨(0 : Int), (0 : Int)⟩
def k27 : Kd S27 := Kd.iso (Kd.pair (Kd.int .i64) (Kd.int .i64)) (fun x : S27 => (x.f0, x.f1))
theorem k27_open {w : World} {x : S27} {cs : List Value} (h : k27.K w x cs) : cs = [.int .i64 x.f0, .int .i64 x.f1] := by
 obtain ⟨_, _, rfl, rfl, rfl⟩ := h; exact rfl
theorem k27_mk (w : World) (x : S27)  : k27.K w x [.int .i64 x.f0, .int .i64 x.f1] := ⟨[.int .i64 x.f0], [.int .i64 x.f1], rfl, rfl, rfl⟩
theorem k27_mkM (w : World) (base : Nat) (ok : Nat → Prop) (x : S27)  : k27.M w base ok x [.int .i64 x.f0, .int .i64 x.f1] := ⟨[.int .i64 x.f0], [.int .i64 x.f1], rfl, rfl, rfl⟩
def rd_T27 (xs : List S27) (i : Int) : S27 := xs.getD i.toNat z27
theorem at_T27 {w : World} {A : Option Addr} {n : Nat} {xs : List S27} (h : Kd.C k27 w A n xs) (i : Int) (h0 : 0 ≤ i) (h1 : i < n) : ∃ ad , A = some ad ∧ w.cell? (ad.add (i.toNat * 2)) = some (.int .i64 (rd_T27 xs i).f0) ∧ w.cell? ⟨(ad.add (i.toNat * 2)).block, (ad.add (i.toNat * 2)).off + 1, none⟩ = some (.int .i64 (rd_T27 xs i).f1) := by
 obtain ⟨ad, c, e, _, hK, hc0⟩ := Kd.C_get h z27 i h0 h1; have hc : ∀ j u, c[j]? = some u → w.cell? (ad.add (i.toNat * 2 + j)) = some u := hc0; obtain rfl := k27_open hK; exact ⟨ad, e, hc 0 _ rfl, by rw [← add_field _ _ 1 (by omega)]; exact hc 1 _ rfl⟩
structure S86 where
 f0 : Int
 f1 : Int
 f2 : Int
 f3 : Int
def z86 : S86 := ⟨(0 : Int), (0 : Int), (0 : Int), (0 : Int)⟩
def k86 : Kd S86 := Kd.iso (Kd.pair (Kd.int .i64) (Kd.pair (Kd.int .i64) (Kd.pair (Kd.int .i64) (Kd.int .i64)))) (fun x : S86 => (x.f0, x.f1, x.f2, x.f3))
theorem k86_open {w : World} {x : S86} {cs : List Value} (h : k86.K w x cs) : cs = [.int .i64 x.f0, .int .i64 x.f1, .int .i64 x.f2, .int .i64 x.f3] := by
 obtain ⟨_, _, rfl, rfl, ⟨_, _, rfl, rfl, ⟨_, _, rfl, rfl, rfl⟩⟩⟩ := h; exact rfl
theorem k86_mk (w : World) (x : S86)  : k86.K w x [.int .i64 x.f0, .int .i64 x.f1, .int .i64 x.f2, .int .i64 x.f3] := ⟨[.int .i64 x.f0], [.int .i64 x.f1, .int .i64 x.f2, .int .i64 x.f3], rfl, rfl, ⟨[.int .i64 x.f1], [.int .i64 x.f2, .int .i64 x.f3], rfl, rfl, ⟨[.int .i64 x.f2], [.int .i64 x.f3], rfl, rfl, rfl⟩⟩⟩
theorem k86_mkM (w : World) (base : Nat) (ok : Nat → Prop) (x : S86)  : k86.M w base ok x [.int .i64 x.f0, .int .i64 x.f1, .int .i64 x.f2, .int .i64 x.f3] := ⟨[.int .i64 x.f0], [.int .i64 x.f1, .int .i64 x.f2, .int .i64 x.f3], rfl, rfl, ⟨[.int .i64 x.f1], [.int .i64 x.f2, .int .i64 x.f3], rfl, rfl, ⟨[.int .i64 x.f2], [.int .i64 x.f3], rfl, rfl, rfl⟩⟩⟩
def rd_T86 (xs : List S86) (i : Int) : S86 := xs.getD i.toNat z86
theorem at_T86 {w : World} {A : Option Addr} {n : Nat} {xs : List S86} (h : Kd.C k86 w A n xs) (i : Int) (h0 : 0 ≤ i) (h1 : i < n) : ∃ ad , A = some ad ∧ w.cell? (ad.add (i.toNat * 4)) = some (.int .i64 (rd_T86 xs i).f0) ∧ w.cell? ⟨(ad.add (i.toNat * 4)).block, (ad.add (i.toNat * 4)).off + 1, none⟩ = some (.int .i64 (rd_T86 xs i).f1) ∧ w.cell? ⟨(ad.add (i.toNat * 4)).block, (ad.add (i.toNat * 4)).off + 2, none⟩ = some (.int .i64 (rd_T86 xs i).f2) ∧ w.cell? ⟨(ad.add (i.toNat * 4)).block, (ad.add (i.toNat * 4)).off + 3, none⟩ = some (.int .i64 (rd_T86 xs i).f3) := by
 obtain ⟨ad, c, e, _, hK, hc0⟩ := Kd.C_get h z86 i h0 h1; have hc : ∀ j u, c[j]? = some u → w.cell? (ad.add (i.toNat * 4 + j)) = some u := hc0; obtain rfl := k86_open hK; exact ⟨ad, e, hc 0 _ rfl, by rw [← add_field _ _ 1 (by omega)]; exact hc 1 _ rfl, by rw [← add_field _ _ 2 (by omega)]; exact hc 2 _ rfl, by rw [← add_field _ _ 3 (by omega)]; exact hc 3 _ rfl⟩
structure S71 where
 f0 : Int
 f1 : Int
 f2 : Int
def z71 : S71 := ⟨(0 : Int), (0 : Int), (0 : Int)⟩
def k71 : Kd S71 := Kd.iso (Kd.pair (Kd.int .i64) (Kd.pair (Kd.int .i64) (Kd.int .i64))) (fun x : S71 => (x.f0, x.f1, x.f2))
theorem k71_open {w : World} {x : S71} {cs : List Value} (h : k71.K w x cs) : cs = [.int .i64 x.f0, .int .i64 x.f1, .int .i64 x.f2] := by
 obtain ⟨_, _, rfl, rfl, ⟨_, _, rfl, rfl, rfl⟩⟩ := h; exact rfl
theorem k71_mkM (w : World) (base : Nat) (ok : Nat → Prop) (x : S71)  : k71.M w base ok x [.int .i64 x.f0, .int .i64 x.f1, .int .i64 x.f2] := ⟨[.int .i64 x.f0], [.int .i64 x.f1, .int .i64 x.f2], rfl, rfl, ⟨[.int .i64 x.f1], [.int .i64 x.f2], rfl, rfl, rfl⟩⟩
def rd_T71 (xs : List S71) (i : Int) : S71 := xs.getD i.toNat z71
theorem at_T71 {w : World} {A : Option Addr} {n : Nat} {xs : List S71} (h : Kd.C k71 w A n xs) (i : Int) (h0 : 0 ≤ i) (h1 : i < n) : ∃ ad , A = some ad ∧ w.cell? (ad.add (i.toNat * 3)) = some (.int .i64 (rd_T71 xs i).f0) ∧ w.cell? ⟨(ad.add (i.toNat * 3)).block, (ad.add (i.toNat * 3)).off + 1, none⟩ = some (.int .i64 (rd_T71 xs i).f1) ∧ w.cell? ⟨(ad.add (i.toNat * 3)).block, (ad.add (i.toNat * 3)).off + 2, none⟩ = some (.int .i64 (rd_T71 xs i).f2) := by
 obtain ⟨ad, c, e, _, hK, hc0⟩ := Kd.C_get h z71 i h0 h1; have hc : ∀ j u, c[j]? = some u → w.cell? (ad.add (i.toNat * 3 + j)) = some u := hc0; obtain rfl := k71_open hK; exact ⟨ad, e, hc 0 _ rfl, by rw [← add_field _ _ 1 (by omega)]; exact hc 1 _ rfl, by rw [← add_field _ _ 2 (by omega)]; exact hc 2 _ rfl⟩
structure S130 where
 f0 : Int
 f1 : Int
def z130 : S130 := ⟨(0 : Int), (0 : Int)⟩
def k130 : Kd S130 := Kd.iso (Kd.pair (Kd.int .i64) (Kd.int .i64)) (fun x : S130 => (x.f0, x.f1))
theorem k130_open {w : World} {x : S130} {cs : List Value} (h : k130.K w x cs) : cs = [.int .i64 x.f0, .int .i64 x.f1] := by
 obtain ⟨_, _, rfl, rfl, rfl⟩ := h; exact rfl
theorem k130_mkM (w : World) (base : Nat) (ok : Nat → Prop) (x : S130)  : k130.M w base ok x [.int .i64 x.f0, .int .i64 x.f1] := ⟨[.int .i64 x.f0], [.int .i64 x.f1], rfl, rfl, rfl⟩
def rd_T130 (xs : List S130) (i : Int) : S130 := xs.getD i.toNat z130
theorem at_T130 {w : World} {A : Option Addr} {n : Nat} {xs : List S130} (h : Kd.C k130 w A n xs) (i : Int) (h0 : 0 ≤ i) (h1 : i < n) : ∃ ad , A = some ad ∧ w.cell? (ad.add (i.toNat * 2)) = some (.int .i64 (rd_T130 xs i).f0) ∧ w.cell? ⟨(ad.add (i.toNat * 2)).block, (ad.add (i.toNat * 2)).off + 1, none⟩ = some (.int .i64 (rd_T130 xs i).f1) := by
 obtain ⟨ad, c, e, _, hK, hc0⟩ := Kd.C_get h z130 i h0 h1; have hc : ∀ j u, c[j]? = some u → w.cell? (ad.add (i.toNat * 2 + j)) = some u := hc0; obtain rfl := k130_open hK; exact ⟨ad, e, hc 0 _ rfl, by rw [← add_field _ _ 1 (by omega)]; exact hc 1 _ rfl⟩
structure S47 where
 f0 : Int
 f1 : Int
def z47 : S47 := ⟨(0 : Int), (0 : Int)⟩
def k47 : Kd S47 := Kd.iso (Kd.pair (Kd.int .i64) (Kd.int .i64)) (fun x : S47 => (x.f0, x.f1))
theorem k47_open {w : World} {x : S47} {cs : List Value} (h : k47.K w x cs) : cs = [.int .i64 x.f0, .int .i64 x.f1] := by
 obtain ⟨_, _, rfl, rfl, rfl⟩ := h; exact rfl
theorem k47_mkM (w : World) (base : Nat) (ok : Nat → Prop) (x : S47)  : k47.M w base ok x [.int .i64 x.f0, .int .i64 x.f1] := ⟨[.int .i64 x.f0], [.int .i64 x.f1], rfl, rfl, rfl⟩
def rd_T47 (xs : List S47) (i : Int) : S47 := xs.getD i.toNat z47
theorem at_T47 {w : World} {A : Option Addr} {n : Nat} {xs : List S47} (h : Kd.C k47 w A n xs) (i : Int) (h0 : 0 ≤ i) (h1 : i < n) : ∃ ad , A = some ad ∧ w.cell? (ad.add (i.toNat * 2)) = some (.int .i64 (rd_T47 xs i).f0) ∧ w.cell? ⟨(ad.add (i.toNat * 2)).block, (ad.add (i.toNat * 2)).off + 1, none⟩ = some (.int .i64 (rd_T47 xs i).f1) := by
 obtain ⟨ad, c, e, _, hK, hc0⟩ := Kd.C_get h z47 i h0 h1; have hc : ∀ j u, c[j]? = some u → w.cell? (ad.add (i.toNat * 2 + j)) = some u := hc0; obtain rfl := k47_open hK; exact ⟨ad, e, hc 0 _ rfl, by rw [← add_field _ _ 1 (by omega)]; exact hc 1 _ rfl⟩
end
section
attribute [local go_sem] max2_int min2_int max_two min_two
def skew_formed.f (a0_0 : Int) (a0_1 : Int) : Option (Bool) := if a0_0 ≤ a0_1 then (if a0_0 ≥ (-1000000) then (some (decide (a0_1 ≤ 1000000))) else (some false)) else (some false)
set_option maxHeartbeats 8000000 in
set_option maxRecDepth 100000 in
theorem skew_formed.calls (a0_0 : Int) (a0_1 : Int) (r : Bool) (w : World) (h : skew_formed.f a0_0 a0_1 = some r) :
  Calls Try.prog 111 #[.agg #[.int .i64 a0_0, .int .i64 a0_1]] w fun e w' => e = .returned (.bool r) ∧ Below w.heap.size w w' := by
 have hu27 := Try.underlying27; have HB := Aa (Below.refl w.heap.size w); have H : (if a0_0 ≤ a0_1 then (if a0_0 ≥ (-1000000) then (some (decide (a0_1 ≤ 1000000))) else (some false)) else (some false)) = some r := h; clear h
 by_cases c2 : a0_0 ≤ a0_1
 ·rw [if_pos c2] at H; have c2b0 : decide (a0_0 ≤ a0_1) = true := decide_eq_true c2; clear c2
  by_cases c3 : a0_0 ≥ (-1000000)
  ·rw [if_pos c3] at H; have c3b0 : decide ((-1000000) ≤ a0_0) = true := decide_eq_true c3; clear c3; obtain rfl := Option.some.inj H
   go_enter Try.func111, Try.ntmps111
   go_wp2_with (first | ((with_reducible refine gate_dst (N := 1) rfl ?_); refine box_event ?hg (N := 1) ?hd (cs := #[.int .i64 a0_0, .int .i64 a0_1]) (t := 27) ?hr ?_; (case hd => rfl); (case hg => rfl); (case hr => first | (go_simp; done) | (go_simp; rfl)); intro gb640 hg w4 hbox hb; have n0_ := Aa (Bp (by repeat (first | (with_reducible first | exact HB.out | apply Ba | apply Pn | apply Dn) | exact HB.out)) hb); have n1_ := Aa (hbox); have n2_ := Aa ((by rw [hg]; exact (below_size (by repeat (first | (with_reducible first | exact HB.out | apply Ba | apply Pn | apply Dn) | exact HB.out))) : w.heap.size ≤ gb640)); have n3_ := Aa ((by rw [hg]; exact (below_size (by repeat (first | (with_reducible first | exact HB.out | apply Ba | apply Pn | apply Dn) | exact HB.out))) : w.heap.size ≤ gb640)); clear HB; have HB := n0_; have BK640 := n1_; have GW640 := n2_; have GE640 := n3_; clear n0_ n1_ n2_ n3_; clear hb hbox hg; have hcz5_0 : w4.cell? ⟨gb640, 0, none⟩ = some (.int .i64 a0_0) := (Bc BK640.out 0).trans rfl; have hcz5_1 : w4.cell? ⟨gb640, 1, none⟩ = some (.int .i64 a0_1) := (Bc BK640.out 1).trans rfl; have hfz5_0 := Bf BK640.out 0; have hfz5_1 := Bf BK640.out 1))
   go_ret; exact ⟨by first | rfl | (simp [errW_none, errW_some] <;> rfl) | (simp [*, errW_none, errW_some] <;> rfl), by repeat (first | (with_reducible first | exact HB.out | apply Ba | apply Pn | apply Dn | refine Bz ?_ GE640.out) | exact HB.out)⟩
  ·rw [if_neg c3] at H; have c3b0 : decide ((-1000000) ≤ a0_0) = false := decide_eq_false c3; clear c3; obtain rfl := Option.some.inj H
   go_enter Try.func111, Try.ntmps111
   go_wp2_with (first | ((with_reducible refine gate_dst (N := 1) rfl ?_); refine box_event ?hg (N := 1) ?hd (cs := #[.int .i64 a0_0, .int .i64 a0_1]) (t := 27) ?hr ?_; (case hd => rfl); (case hg => rfl); (case hr => first | (go_simp; done) | (go_simp; rfl)); intro gb640 hg w6 hbox hb; have n0_ := Aa (Bp (by repeat (first | (with_reducible first | exact HB.out | apply Ba | apply Pn | apply Dn) | exact HB.out)) hb); have n1_ := Aa (hbox); have n2_ := Aa ((by rw [hg]; exact (below_size (by repeat (first | (with_reducible first | exact HB.out | apply Ba | apply Pn | apply Dn) | exact HB.out))) : w.heap.size ≤ gb640)); have n3_ := Aa ((by rw [hg]; exact (below_size (by repeat (first | (with_reducible first | exact HB.out | apply Ba | apply Pn | apply Dn) | exact HB.out))) : w.heap.size ≤ gb640)); clear HB; have HB := n0_; have BK640 := n1_; have GW640 := n2_; have GE640 := n3_; clear n0_ n1_ n2_ n3_; clear hb hbox hg; have hcz7_0 : w6.cell? ⟨gb640, 0, none⟩ = some (.int .i64 a0_0) := (Bc BK640.out 0).trans rfl; have hcz7_1 : w6.cell? ⟨gb640, 1, none⟩ = some (.int .i64 a0_1) := (Bc BK640.out 1).trans rfl; have hfz7_0 := Bf BK640.out 0; have hfz7_1 := Bf BK640.out 1))
   go_ret; exact ⟨by first | rfl | (simp [errW_none, errW_some] <;> rfl) | (simp [*, errW_none, errW_some] <;> rfl), by repeat (first | (with_reducible first | exact HB.out | apply Ba | apply Pn | apply Dn | refine Bz ?_ GE640.out) | exact HB.out)⟩
 ·rw [if_neg c2] at H; have c2b0 : decide (a0_0 ≤ a0_1) = false := decide_eq_false c2; clear c2; obtain rfl := Option.some.inj H
  go_enter Try.func111, Try.ntmps111
  go_wp2_with (first | ((with_reducible refine gate_dst (N := 1) rfl ?_); refine box_event ?hg (N := 1) ?hd (cs := #[.int .i64 a0_0, .int .i64 a0_1]) (t := 27) ?hr ?_; (case hd => rfl); (case hg => rfl); (case hr => first | (go_simp; done) | (go_simp; rfl)); intro gb640 hg w8 hbox hb; have n0_ := Aa (Bp (by repeat (first | (with_reducible first | exact HB.out | apply Ba | apply Pn | apply Dn) | exact HB.out)) hb); have n1_ := Aa (hbox); have n2_ := Aa ((by rw [hg]; exact (below_size (by repeat (first | (with_reducible first | exact HB.out | apply Ba | apply Pn | apply Dn) | exact HB.out))) : w.heap.size ≤ gb640)); have n3_ := Aa ((by rw [hg]; exact (below_size (by repeat (first | (with_reducible first | exact HB.out | apply Ba | apply Pn | apply Dn) | exact HB.out))) : w.heap.size ≤ gb640)); clear HB; have HB := n0_; have BK640 := n1_; have GW640 := n2_; have GE640 := n3_; clear n0_ n1_ n2_ n3_; clear hb hbox hg; have hcz9_0 : w8.cell? ⟨gb640, 0, none⟩ = some (.int .i64 a0_0) := (Bc BK640.out 0).trans rfl; have hcz9_1 : w8.cell? ⟨gb640, 1, none⟩ = some (.int .i64 a0_1) := (Bc BK640.out 1).trans rfl; have hfz9_0 := Bf BK640.out 0; have hfz9_1 := Bf BK640.out 1))
  go_ret; exact ⟨by first | rfl | (simp [errW_none, errW_some] <;> rfl) | (simp [*, errW_none, errW_some] <;> rfl), by repeat (first | (with_reducible first | exact HB.out | apply Ba | apply Pn | apply Dn | refine Bz ?_ GE640.out) | exact HB.out)⟩
end
section
attribute [local go_sem] max2_int min2_int max_two min_two
def skew_within.f (a0 : Int) (a1 : Int) (a2 : Int) : Option (Bool) := if a0 ≥ a1 then (some (decide (a0 ≤ a2))) else (some false)
set_option maxHeartbeats 8000000 in
set_option maxRecDepth 100000 in
theorem skew_within.calls (a0 : Int) (a1 : Int) (a2 : Int) (r : Bool) (w : World) (h : skew_within.f a0 a1 a2 = some r) :
  Calls Try.prog 68 #[.int .i64 a0, .int .i64 a1, .int .i64 a2] w fun e w' => e = .returned (.bool r) ∧ Drawn0 w w' := by
 have H : (if a0 ≥ a1 then (some (decide (a0 ≤ a2))) else (some false)) = some r := h; clear h
 by_cases c4 : a0 ≥ a1
 ·rw [if_pos c4] at H; have c4b0 : decide (a1 ≤ a0) = true := decide_eq_true c4; clear c4; obtain rfl := Option.some.inj H
  go_enter Try.func68, Try.ntmps68
  go_wp2; go_ret; exact ⟨by first | rfl | (simp; done) | (simp [*]; done), by repeat (first | exact Drawn0.refl _ | apply Drawn0.step)⟩
 ·rw [if_neg c4] at H; have c4b0 : decide (a1 ≤ a0) = false := decide_eq_false c4; clear c4; obtain rfl := Option.some.inj H
  go_enter Try.func68, Try.ntmps68
  go_wp2; go_ret; exact ⟨by first | rfl | (simp; done) | (simp [*]; done), by repeat (first | exact Drawn0.refl _ | apply Drawn0.step)⟩
end
section
attribute [local go_sem] max2_int min2_int max_two min_two
def skew_isRun.l0 : Nat → List (S71) → List (S71) → Int → Int → Option (Bool)
 | 0, _, _, _, _ => none
 | k + 1, x0, x5, x6, x7 => if x7 < x6 then (if 0 ≤ x7 then (if x7 < (x5.length : Int) then ((skew_within.f ((rd_T71 x5 x7).f0) 0 5).bind fun t150 => (if t150 = true then ((skew_within.f ((rd_T71 x5 x7).f1) 0 100000).bind fun t151 => (if t151 = true then ((skew_within.f ((rd_T71 x5 x7).f2) (-1) (wrap64 (x7 - 1))).bind fun t152 => (if t152 = true then (skew_isRun.l0 k x0 x5 x6 (wrap64 (x7 + 1))) else (some false))) else (some false))) else (some false))) else (none)) else (none)) else (some (decide ((x0.length : Int) ≤ 40)))
def skew_isRun.f (k : Nat) (l0 : List (S71)) : Option (Bool) := skew_isRun.l0 k l0 l0 (l0.length : Int) 0
set_option maxHeartbeats 8000000 in
set_option maxRecDepth 100000 in
theorem skew_isRun.calls (k : Nat) (A0 : Option Addr) (c0 : Nat) (l0 : List (S71)) (r : Bool) (w : World) (hr0 : Kd.C k71 w A0 l0.length l0) (hc0 : l0.length ≤ c0) (h : skew_isRun.f k l0 = some r) :
  Calls Try.prog 83 #[.slice A0 l0.length c0] w fun e w' => e = .returned (.bool r) ∧ Below w.heap.size w w' := by
 have hu71 := Try.underlying71; have HR0 := Aa hr0; have HC0 := Aa hc0; clear hr0 hc0; have HB := Aa (Below.refl w.heap.size w); have H : (skew_isRun.l0 k l0 l0 (l0.length : Int) 0) = some r := h; clear h; have H' := Aa H; clear H
 go_enter Try.func83, Try.ntmps83
 go_wp2
 go_loopg [7] k (fun kq v7 w' => ∃ (x7_1 : Int), v7 = .int .i64 x7_1 ∧ Aside0 (skew_isRun.l0 kq l0 l0 (l0.length : Int) x7_1 = some r) ∧ Aside0 (kq ≤ k) ∧ Aside0 (Below w.heap.size w w'))
 case atStart => exact ⟨(0), (by first | rfl | (simp; done) | (simp [*]; done)), H', ⟨Nat.le_refl _⟩, ⟨by repeat (first | (with_reducible first | exact HB.out | apply Ba | apply Pn | apply Dn) | exact HB.out)⟩⟩
 case round =>
  clear H'; obtain ⟨x7_1, rfl, HA, HK1, HB⟩ := hrel
  cases gk with
  | zero => exact absurd HA.out (by simp [skew_isRun.l0])
  | succ k1 =>
   have H := HA.out; clear HA; simp only [skew_isRun.l0] at H
   by_cases c2 : x7_1 < (l0.length : Int)
   ·rw [if_pos c2] at H; have c2b0 : decide (x7_1 < (l0.length : Int)) = true := decide_eq_true c2; clear c2
    by_cases c3 : 0 ≤ x7_1
    ·rw [if_pos c3] at H; have c3b0 : decide (0 ≤ x7_1) = true := decide_eq_true c3; clear c3
     by_cases c4 : x7_1 < (l0.length : Int)
     ·rw [if_pos c4] at H; have c4b0 : decide (x7_1 < (l0.length : Int)) = true := decide_eq_true c4; clear c4; replace H := Option.bind_eq_some_iff.mp H; obtain ⟨t150, A50, H⟩ := H; replace H : (if t150 = true then ((skew_within.f ((rd_T71 l0 x7_1).f1) 0 100000).bind fun t151 => (if t151 = true then ((skew_within.f ((rd_T71 l0 x7_1).f2) (-1) (wrap64 (x7_1 - 1))).bind fun t152 => (if t152 = true then (skew_isRun.l0 k1 l0 l0 (l0.length : Int) (wrap64 (x7_1 + 1))) else (some false))) else (some false))) else (some false)) = some r := H; have A5 := Aa A50; clear A50
      by_cases c6 : t150 = true
      ·subst c6
       have H1 : ((skew_within.f ((rd_T71 l0 x7_1).f1) 0 100000).bind fun t151 => (if t151 = true then ((skew_within.f ((rd_T71 l0 x7_1).f2) (-1) (wrap64 (x7_1 - 1))).bind fun t152 => (if t152 = true then (skew_isRun.l0 k1 l0 l0 (l0.length : Int) (wrap64 (x7_1 + 1))) else (some false))) else (some false))) = some r := by rw [if_pos rfl] at H; exact H
       clear H; have H := H1; clear H1; replace H := Option.bind_eq_some_iff.mp H; obtain ⟨t151, A70, H⟩ := H; replace H : (if t151 = true then ((skew_within.f ((rd_T71 l0 x7_1).f2) (-1) (wrap64 (x7_1 - 1))).bind fun t152 => (if t152 = true then (skew_isRun.l0 k1 l0 l0 (l0.length : Int) (wrap64 (x7_1 + 1))) else (some false))) else (some false)) = some r := H; have A7 := Aa A70; clear A70
       by_cases c8 : t151 = true
       ·subst c8
        have H1 : ((skew_within.f ((rd_T71 l0 x7_1).f2) (-1) (wrap64 (x7_1 - 1))).bind fun t152 => (if t152 = true then (skew_isRun.l0 k1 l0 l0 (l0.length : Int) (wrap64 (x7_1 + 1))) else (some false))) = some r := by rw [if_pos rfl] at H; exact H
        clear H; have H := H1; clear H1; replace H := Option.bind_eq_some_iff.mp H; obtain ⟨t152, A90, H⟩ := H; replace H : (if t152 = true then (skew_isRun.l0 k1 l0 l0 (l0.length : Int) (wrap64 (x7_1 + 1))) else (some false)) = some r := H; have A9 := Aa A90; clear A90
        by_cases c10 : t152 = true
        ·subst c10
         have H1 : (skew_isRun.l0 k1 l0 l0 (l0.length : Int) (wrap64 (x7_1 + 1))) = some r := by rw [if_pos rfl] at H; exact H
         clear H; have H := H1; clear H1; have H' := Aa H; clear H; have p148 : 0 ≤ (x7_1 : Int) := Od (by first | (with_reducible assumption) | assumption); have q148 : x7_1 < (l0.length : Int) := Od (by first | (with_reducible assumption) | assumption); obtain ⟨ad148, e148, hx148_0, hx148_1, hx148_2⟩ := at_T71 HR0.out x7_1 p148 q148; cases e148; replace hx148_0 := (HB.out.cell (Wb w _ hx148_0)).trans hx148_0; replace hx148_1 := (HB.out.cell (Wb w _ hx148_1)).trans hx148_1; replace hx148_2 := (HB.out.cell (Wb w _ hx148_2)).trans hx148_2; replace p148 := eq_true p148; replace q148 := eq_true q148
         go_wp2_with (first | ((with_reducible refine gate_dst (N := 4) rfl ?_); refine box_event ?hg (N := 4) ?hd (cs := #[.int .i64 0, .int .i64 0, .int .i64 0]) (t := 71) ?hr ?_; (case hd => rfl); (case hg => rfl); (case hr => first | (go_simp; done) | (go_simp; rfl)); intro gb149 hg w11 hbox hb; have n0_ := Aa (Bp (by repeat (first | (with_reducible first | exact HB.out | apply Ba | apply Pn | apply Dn) | exact HB.out)) hb); have n1_ := Aa (hbox); have n2_ := Aa ((by rw [hg]; exact (below_size (by repeat (first | (with_reducible first | exact HB.out | apply Ba | apply Pn | apply Dn) | exact HB.out))) : w.heap.size ≤ gb149)); have n3_ := Aa ((by rw [hg]; exact (below_size (by repeat (first | (with_reducible first | exact HB.out | apply Ba | apply Pn | apply Dn) | exact HB.out))) : w.heap.size ≤ gb149)); clear HB; have HB := n0_; have BK149 := n1_; have GW149 := n2_; have GE149 := n3_; clear n0_ n1_ n2_ n3_; clear hb hbox hg; have hcz12_0 : w11.cell? ⟨gb149, 0, none⟩ = some (.int .i64 0) := (Bc BK149.out 0).trans rfl; have hcz12_1 : w11.cell? ⟨gb149, 1, none⟩ = some (.int .i64 0) := (Bc BK149.out 1).trans rfl; have hcz12_2 : w11.cell? ⟨gb149, 2, none⟩ = some (.int .i64 0) := (Bc BK149.out 2).trans rfl; have hfz12_0 := Bf BK149.out 0; have hfz12_1 := Bf BK149.out 1; have hfz12_2 := Bf BK149.out 2) | ((with_reducible refine gate_callee (f := 68) rfl ?_); refine goesL_ (some 14) rfl rfl Try.func68 (by kernel_rfl) rfl #[.int .i64 ((rd_T71 l0 x7_1).f0), .int .i64 0, .int .i64 5] rfl (by (try simp only [List.map_toArray, List.map_cons, List.map_nil]); first | done | rfl | (simp only [List.length_drop, List.length_take]; rfl)) ?_; (with_reducible refine (skew_within.calls ((rd_T71 l0 x7_1).f0) 0 5 true _ A5.out).mono ?_); rintro e w' ⟨rfl, ⟨nd, rfl⟩⟩; refine ⟨_, rfl, ?_⟩) | (go_at_call 68; (with_reducible refine (skew_within.calls ((rd_T71 l0 x7_1).f1) 0 100000 true _ A7.out).mono ?_); rintro e w' ⟨rfl, ⟨nd, rfl⟩⟩) | (go_at_call 68; (with_reducible refine (skew_within.calls ((rd_T71 l0 x7_1).f2) (-1) (wrap64 (x7_1 - 1)) true _ A9.out).mono ?_); rintro e w' ⟨rfl, ⟨nd, rfl⟩⟩))
         go_roundg k1
         case measure => have := HK1.out; omega
         case rel => exact ⟨(wrap64 (x7_1 + 1)), (by first | rfl | (simp; done) | (simp [*]; done)), H', ⟨by have := HK1.out; omega⟩, ⟨by repeat (first | (with_reducible first | exact HB.out | apply Ba | apply Pn | apply Dn | refine Bz ?_ GE149.out) | exact HB.out)⟩⟩
        ·replace c10 := Bool.eq_false_iff.mpr c10; subst c10
         have H1 : (some false) = some r := by rw [if_neg (show ¬ (false = true) by decide)] at H; exact H
         clear H; have H := H1; clear H1; obtain rfl := Option.some.inj H; have p148 : 0 ≤ (x7_1 : Int) := Od (by first | (with_reducible assumption) | assumption); have q148 : x7_1 < (l0.length : Int) := Od (by first | (with_reducible assumption) | assumption); obtain ⟨ad148, e148, hx148_0, hx148_1, hx148_2⟩ := at_T71 HR0.out x7_1 p148 q148; cases e148; replace hx148_0 := (HB.out.cell (Wb w _ hx148_0)).trans hx148_0; replace hx148_1 := (HB.out.cell (Wb w _ hx148_1)).trans hx148_1; replace hx148_2 := (HB.out.cell (Wb w _ hx148_2)).trans hx148_2; replace p148 := eq_true p148; replace q148 := eq_true q148
         go_wp2_with (first | ((with_reducible refine gate_dst (N := 4) rfl ?_); refine box_event ?hg (N := 4) ?hd (cs := #[.int .i64 0, .int .i64 0, .int .i64 0]) (t := 71) ?hr ?_; (case hd => rfl); (case hg => rfl); (case hr => first | (go_simp; done) | (go_simp; rfl)); intro gb149 hg w13 hbox hb; have n0_ := Aa (Bp (by repeat (first | (with_reducible first | exact HB.out | apply Ba | apply Pn | apply Dn) | exact HB.out)) hb); have n1_ := Aa (hbox); have n2_ := Aa ((by rw [hg]; exact (below_size (by repeat (first | (with_reducible first | exact HB.out | apply Ba | apply Pn | apply Dn) | exact HB.out))) : w.heap.size ≤ gb149)); have n3_ := Aa ((by rw [hg]; exact (below_size (by repeat (first | (with_reducible first | exact HB.out | apply Ba | apply Pn | apply Dn) | exact HB.out))) : w.heap.size ≤ gb149)); clear HB; have HB := n0_; have BK149 := n1_; have GW149 := n2_; have GE149 := n3_; clear n0_ n1_ n2_ n3_; clear hb hbox hg; have hcz14_0 : w13.cell? ⟨gb149, 0, none⟩ = some (.int .i64 0) := (Bc BK149.out 0).trans rfl; have hcz14_1 : w13.cell? ⟨gb149, 1, none⟩ = some (.int .i64 0) := (Bc BK149.out 1).trans rfl; have hcz14_2 : w13.cell? ⟨gb149, 2, none⟩ = some (.int .i64 0) := (Bc BK149.out 2).trans rfl; have hfz14_0 := Bf BK149.out 0; have hfz14_1 := Bf BK149.out 1; have hfz14_2 := Bf BK149.out 2) | ((with_reducible refine gate_callee (f := 68) rfl ?_); refine goesL_ (some 14) rfl rfl Try.func68 (by kernel_rfl) rfl #[.int .i64 ((rd_T71 l0 x7_1).f0), .int .i64 0, .int .i64 5] rfl (by (try simp only [List.map_toArray, List.map_cons, List.map_nil]); first | done | rfl | (simp only [List.length_drop, List.length_take]; rfl)) ?_; (with_reducible refine (skew_within.calls ((rd_T71 l0 x7_1).f0) 0 5 true _ A5.out).mono ?_); rintro e w' ⟨rfl, ⟨nd, rfl⟩⟩; refine ⟨_, rfl, ?_⟩) | (go_at_call 68; (with_reducible refine (skew_within.calls ((rd_T71 l0 x7_1).f1) 0 100000 true _ A7.out).mono ?_); rintro e w' ⟨rfl, ⟨nd, rfl⟩⟩) | (go_at_call 68; (with_reducible refine (skew_within.calls ((rd_T71 l0 x7_1).f2) (-1) (wrap64 (x7_1 - 1)) false _ A9.out).mono ?_); rintro e w' ⟨rfl, ⟨nd, rfl⟩⟩))
         go_ret; exact ⟨by first | rfl | (simp [errW_none, errW_some] <;> rfl) | (simp [*, errW_none, errW_some] <;> rfl), by repeat (first | (with_reducible first | exact HB.out | apply Ba | apply Pn | apply Dn | refine Bz ?_ GE149.out) | exact HB.out)⟩
       ·replace c8 := Bool.eq_false_iff.mpr c8; subst c8
        have H1 : (some false) = some r := by rw [if_neg (show ¬ (false = true) by decide)] at H; exact H
        clear H; have H := H1; clear H1; obtain rfl := Option.some.inj H; have p148 : 0 ≤ (x7_1 : Int) := Od (by first | (with_reducible assumption) | assumption); have q148 : x7_1 < (l0.length : Int) := Od (by first | (with_reducible assumption) | assumption); obtain ⟨ad148, e148, hx148_0, hx148_1, hx148_2⟩ := at_T71 HR0.out x7_1 p148 q148; cases e148; replace hx148_0 := (HB.out.cell (Wb w _ hx148_0)).trans hx148_0; replace hx148_1 := (HB.out.cell (Wb w _ hx148_1)).trans hx148_1; replace hx148_2 := (HB.out.cell (Wb w _ hx148_2)).trans hx148_2; replace p148 := eq_true p148; replace q148 := eq_true q148
        go_wp2_with (first | ((with_reducible refine gate_dst (N := 4) rfl ?_); refine box_event ?hg (N := 4) ?hd (cs := #[.int .i64 0, .int .i64 0, .int .i64 0]) (t := 71) ?hr ?_; (case hd => rfl); (case hg => rfl); (case hr => first | (go_simp; done) | (go_simp; rfl)); intro gb149 hg w15 hbox hb; have n0_ := Aa (Bp (by repeat (first | (with_reducible first | exact HB.out | apply Ba | apply Pn | apply Dn) | exact HB.out)) hb); have n1_ := Aa (hbox); have n2_ := Aa ((by rw [hg]; exact (below_size (by repeat (first | (with_reducible first | exact HB.out | apply Ba | apply Pn | apply Dn) | exact HB.out))) : w.heap.size ≤ gb149)); have n3_ := Aa ((by rw [hg]; exact (below_size (by repeat (first | (with_reducible first | exact HB.out | apply Ba | apply Pn | apply Dn) | exact HB.out))) : w.heap.size ≤ gb149)); clear HB; have HB := n0_; have BK149 := n1_; have GW149 := n2_; have GE149 := n3_; clear n0_ n1_ n2_ n3_; clear hb hbox hg; have hcz16_0 : w15.cell? ⟨gb149, 0, none⟩ = some (.int .i64 0) := (Bc BK149.out 0).trans rfl; have hcz16_1 : w15.cell? ⟨gb149, 1, none⟩ = some (.int .i64 0) := (Bc BK149.out 1).trans rfl; have hcz16_2 : w15.cell? ⟨gb149, 2, none⟩ = some (.int .i64 0) := (Bc BK149.out 2).trans rfl; have hfz16_0 := Bf BK149.out 0; have hfz16_1 := Bf BK149.out 1; have hfz16_2 := Bf BK149.out 2) | ((with_reducible refine gate_callee (f := 68) rfl ?_); refine goesL_ (some 14) rfl rfl Try.func68 (by kernel_rfl) rfl #[.int .i64 ((rd_T71 l0 x7_1).f0), .int .i64 0, .int .i64 5] rfl (by (try simp only [List.map_toArray, List.map_cons, List.map_nil]); first | done | rfl | (simp only [List.length_drop, List.length_take]; rfl)) ?_; (with_reducible refine (skew_within.calls ((rd_T71 l0 x7_1).f0) 0 5 true _ A5.out).mono ?_); rintro e w' ⟨rfl, ⟨nd, rfl⟩⟩; refine ⟨_, rfl, ?_⟩) | (go_at_call 68; (with_reducible refine (skew_within.calls ((rd_T71 l0 x7_1).f1) 0 100000 false _ A7.out).mono ?_); rintro e w' ⟨rfl, ⟨nd, rfl⟩⟩))
        go_ret; exact ⟨by first | rfl | (simp [errW_none, errW_some] <;> rfl) | (simp [*, errW_none, errW_some] <;> rfl), by repeat (first | (with_reducible first | exact HB.out | apply Ba | apply Pn | apply Dn | refine Bz ?_ GE149.out) | exact HB.out)⟩
      ·replace c6 := Bool.eq_false_iff.mpr c6; subst c6
       have H1 : (some false) = some r := by rw [if_neg (show ¬ (false = true) by decide)] at H; exact H
       clear H; have H := H1; clear H1; obtain rfl := Option.some.inj H; have p148 : 0 ≤ (x7_1 : Int) := Od (by first | (with_reducible assumption) | assumption); have q148 : x7_1 < (l0.length : Int) := Od (by first | (with_reducible assumption) | assumption); obtain ⟨ad148, e148, hx148_0, hx148_1, hx148_2⟩ := at_T71 HR0.out x7_1 p148 q148; cases e148; replace hx148_0 := (HB.out.cell (Wb w _ hx148_0)).trans hx148_0; replace hx148_1 := (HB.out.cell (Wb w _ hx148_1)).trans hx148_1; replace hx148_2 := (HB.out.cell (Wb w _ hx148_2)).trans hx148_2; replace p148 := eq_true p148; replace q148 := eq_true q148
       go_wp2_with (first | ((with_reducible refine gate_dst (N := 4) rfl ?_); refine box_event ?hg (N := 4) ?hd (cs := #[.int .i64 0, .int .i64 0, .int .i64 0]) (t := 71) ?hr ?_; (case hd => rfl); (case hg => rfl); (case hr => first | (go_simp; done) | (go_simp; rfl)); intro gb149 hg w17 hbox hb; have n0_ := Aa (Bp (by repeat (first | (with_reducible first | exact HB.out | apply Ba | apply Pn | apply Dn) | exact HB.out)) hb); have n1_ := Aa (hbox); have n2_ := Aa ((by rw [hg]; exact (below_size (by repeat (first | (with_reducible first | exact HB.out | apply Ba | apply Pn | apply Dn) | exact HB.out))) : w.heap.size ≤ gb149)); have n3_ := Aa ((by rw [hg]; exact (below_size (by repeat (first | (with_reducible first | exact HB.out | apply Ba | apply Pn | apply Dn) | exact HB.out))) : w.heap.size ≤ gb149)); clear HB; have HB := n0_; have BK149 := n1_; have GW149 := n2_; have GE149 := n3_; clear n0_ n1_ n2_ n3_; clear hb hbox hg; have hcz18_0 : w17.cell? ⟨gb149, 0, none⟩ = some (.int .i64 0) := (Bc BK149.out 0).trans rfl; have hcz18_1 : w17.cell? ⟨gb149, 1, none⟩ = some (.int .i64 0) := (Bc BK149.out 1).trans rfl; have hcz18_2 : w17.cell? ⟨gb149, 2, none⟩ = some (.int .i64 0) := (Bc BK149.out 2).trans rfl; have hfz18_0 := Bf BK149.out 0; have hfz18_1 := Bf BK149.out 1; have hfz18_2 := Bf BK149.out 2) | ((with_reducible refine gate_callee (f := 68) rfl ?_); refine goesL_ (some 14) rfl rfl Try.func68 (by kernel_rfl) rfl #[.int .i64 ((rd_T71 l0 x7_1).f0), .int .i64 0, .int .i64 5] rfl (by (try simp only [List.map_toArray, List.map_cons, List.map_nil]); first | done | rfl | (simp only [List.length_drop, List.length_take]; rfl)) ?_; (with_reducible refine (skew_within.calls ((rd_T71 l0 x7_1).f0) 0 5 false _ A5.out).mono ?_); rintro e w' ⟨rfl, ⟨nd, rfl⟩⟩; refine ⟨_, rfl, ?_⟩))
       go_ret; exact ⟨by first | rfl | (simp [errW_none, errW_some] <;> rfl) | (simp [*, errW_none, errW_some] <;> rfl), by repeat (first | (with_reducible first | exact HB.out | apply Ba | apply Pn | apply Dn | refine Bz ?_ GE149.out) | exact HB.out)⟩
     ·rw [if_neg c4] at H; exact absurd H (by simp)
    ·rw [if_neg c3] at H; exact absurd H (by simp)
   ·rw [if_neg c2] at H; have c2b0 : decide (x7_1 < (l0.length : Int)) = false := decide_eq_false c2; clear c2; obtain rfl := Option.some.inj H; go_wp2; go_ret; exact ⟨by first | rfl | (simp [errW_none, errW_some] <;> rfl) | (simp [*, errW_none, errW_some] <;> rfl), by repeat (first | (with_reducible first | exact HB.out | apply Ba | apply Pn | apply Dn) | exact HB.out)⟩
end
section
attribute [local go_sem] max2_int min2_int max_two min_two
def bits_OnesCount64.f (a0 : Int) : Option (Int) := some (Go.bits .and .i64 (wrap64 (IntKind.u64.wrap ((IntKind.u64.wrap ((IntKind.u64.wrap ((Go.bits .and .u64 (IntKind.u64.wrap (((IntKind.u64.wrap ((Go.bits .and .u64 ((IntKind.u64.wrap ((Go.bits .and .u64 (a0 / 2) 6148914691236517205) + (Go.bits .and .u64 a0 6148914691236517205))) / 4) 3689348814741910323) + (Go.bits .and .u64 (IntKind.u64.wrap ((Go.bits .and .u64 (a0 / 2) 6148914691236517205) + (Go.bits .and .u64 a0 6148914691236517205))) 3689348814741910323))) / 16) + (IntKind.u64.wrap ((Go.bits .and .u64 ((IntKind.u64.wrap ((Go.bits .and .u64 (a0 / 2) 6148914691236517205) + (Go.bits .and .u64 a0 6148914691236517205))) / 4) 3689348814741910323) + (Go.bits .and .u64 (IntKind.u64.wrap ((Go.bits .and .u64 (a0 / 2) 6148914691236517205) + (Go.bits .and .u64 a0 6148914691236517205))) 3689348814741910323))))) 1085102592571150095) + ((Go.bits .and .u64 (IntKind.u64.wrap (((IntKind.u64.wrap ((Go.bits .and .u64 ((IntKind.u64.wrap ((Go.bits .and .u64 (a0 / 2) 6148914691236517205) + (Go.bits .and .u64 a0 6148914691236517205))) / 4) 3689348814741910323) + (Go.bits .and .u64 (IntKind.u64.wrap ((Go.bits .and .u64 (a0 / 2) 6148914691236517205) + (Go.bits .and .u64 a0 6148914691236517205))) 3689348814741910323))) / 16) + (IntKind.u64.wrap ((Go.bits .and .u64 ((IntKind.u64.wrap ((Go.bits .and .u64 (a0 / 2) 6148914691236517205) + (Go.bits .and .u64 a0 6148914691236517205))) / 4) 3689348814741910323) + (Go.bits .and .u64 (IntKind.u64.wrap ((Go.bits .and .u64 (a0 / 2) 6148914691236517205) + (Go.bits .and .u64 a0 6148914691236517205))) 3689348814741910323))))) 1085102592571150095) / 256))) + ((IntKind.u64.wrap ((Go.bits .and .u64 (IntKind.u64.wrap (((IntKind.u64.wrap ((Go.bits .and .u64 ((IntKind.u64.wrap ((Go.bits .and .u64 (a0 / 2) 6148914691236517205) + (Go.bits .and .u64 a0 6148914691236517205))) / 4) 3689348814741910323) + (Go.bits .and .u64 (IntKind.u64.wrap ((Go.bits .and .u64 (a0 / 2) 6148914691236517205) + (Go.bits .and .u64 a0 6148914691236517205))) 3689348814741910323))) / 16) + (IntKind.u64.wrap ((Go.bits .and .u64 ((IntKind.u64.wrap ((Go.bits .and .u64 (a0 / 2) 6148914691236517205) + (Go.bits .and .u64 a0 6148914691236517205))) / 4) 3689348814741910323) + (Go.bits .and .u64 (IntKind.u64.wrap ((Go.bits .and .u64 (a0 / 2) 6148914691236517205) + (Go.bits .and .u64 a0 6148914691236517205))) 3689348814741910323))))) 1085102592571150095) + ((Go.bits .and .u64 (IntKind.u64.wrap (((IntKind.u64.wrap ((Go.bits .and .u64 ((IntKind.u64.wrap ((Go.bits .and .u64 (a0 / 2) 6148914691236517205) + (Go.bits .and .u64 a0 6148914691236517205))) / 4) 3689348814741910323) + (Go.bits .and .u64 (IntKind.u64.wrap ((Go.bits .and .u64 (a0 / 2) 6148914691236517205) + (Go.bits .and .u64 a0 6148914691236517205))) 3689348814741910323))) / 16) + (IntKind.u64.wrap ((Go.bits .and .u64 ((IntKind.u64.wrap ((Go.bits .and .u64 (a0 / 2) 6148914691236517205) + (Go.bits .and .u64 a0 6148914691236517205))) / 4) 3689348814741910323) + (Go.bits .and .u64 (IntKind.u64.wrap ((Go.bits .and .u64 (a0 / 2) 6148914691236517205) + (Go.bits .and .u64 a0 6148914691236517205))) 3689348814741910323))))) 1085102592571150095) / 256))) / 65536))) + ((IntKind.u64.wrap ((IntKind.u64.wrap ((Go.bits .and .u64 (IntKind.u64.wrap (((IntKind.u64.wrap ((Go.bits .and .u64 ((IntKind.u64.wrap ((Go.bits .and .u64 (a0 / 2) 6148914691236517205) + (Go.bits .and .u64 a0 6148914691236517205))) / 4) 3689348814741910323) + (Go.bits .and .u64 (IntKind.u64.wrap ((Go.bits .and .u64 (a0 / 2) 6148914691236517205) + (Go.bits .and .u64 a0 6148914691236517205))) 3689348814741910323))) / 16) + (IntKind.u64.wrap ((Go.bits .and .u64 ((IntKind.u64.wrap ((Go.bits .and .u64 (a0 / 2) 6148914691236517205) + (Go.bits .and .u64 a0 6148914691236517205))) / 4) 3689348814741910323) + (Go.bits .and .u64 (IntKind.u64.wrap ((Go.bits .and .u64 (a0 / 2) 6148914691236517205) + (Go.bits .and .u64 a0 6148914691236517205))) 3689348814741910323))))) 1085102592571150095) + ((Go.bits .and .u64 (IntKind.u64.wrap (((IntKind.u64.wrap ((Go.bits .and .u64 ((IntKind.u64.wrap ((Go.bits .and .u64 (a0 / 2) 6148914691236517205) + (Go.bits .and .u64 a0 6148914691236517205))) / 4) 3689348814741910323) + (Go.bits .and .u64 (IntKind.u64.wrap ((Go.bits .and .u64 (a0 / 2) 6148914691236517205) + (Go.bits .and .u64 a0 6148914691236517205))) 3689348814741910323))) / 16) + (IntKind.u64.wrap ((Go.bits .and .u64 ((IntKind.u64.wrap ((Go.bits .and .u64 (a0 / 2) 6148914691236517205) + (Go.bits .and .u64 a0 6148914691236517205))) / 4) 3689348814741910323) + (Go.bits .and .u64 (IntKind.u64.wrap ((Go.bits .and .u64 (a0 / 2) 6148914691236517205) + (Go.bits .and .u64 a0 6148914691236517205))) 3689348814741910323))))) 1085102592571150095) / 256))) + ((IntKind.u64.wrap ((Go.bits .and .u64 (IntKind.u64.wrap (((IntKind.u64.wrap ((Go.bits .and .u64 ((IntKind.u64.wrap ((Go.bits .and .u64 (a0 / 2) 6148914691236517205) + (Go.bits .and .u64 a0 6148914691236517205))) / 4) 3689348814741910323) + (Go.bits .and .u64 (IntKind.u64.wrap ((Go.bits .and .u64 (a0 / 2) 6148914691236517205) + (Go.bits .and .u64 a0 6148914691236517205))) 3689348814741910323))) / 16) + (IntKind.u64.wrap ((Go.bits .and .u64 ((IntKind.u64.wrap ((Go.bits .and .u64 (a0 / 2) 6148914691236517205) + (Go.bits .and .u64 a0 6148914691236517205))) / 4) 3689348814741910323) + (Go.bits .and .u64 (IntKind.u64.wrap ((Go.bits .and .u64 (a0 / 2) 6148914691236517205) + (Go.bits .and .u64 a0 6148914691236517205))) 3689348814741910323))))) 1085102592571150095) + ((Go.bits .and .u64 (IntKind.u64.wrap (((IntKind.u64.wrap ((Go.bits .and .u64 ((IntKind.u64.wrap ((Go.bits .and .u64 (a0 / 2) 6148914691236517205) + (Go.bits .and .u64 a0 6148914691236517205))) / 4) 3689348814741910323) + (Go.bits .and .u64 (IntKind.u64.wrap ((Go.bits .and .u64 (a0 / 2) 6148914691236517205) + (Go.bits .and .u64 a0 6148914691236517205))) 3689348814741910323))) / 16) + (IntKind.u64.wrap ((Go.bits .and .u64 ((IntKind.u64.wrap ((Go.bits .and .u64 (a0 / 2) 6148914691236517205) + (Go.bits .and .u64 a0 6148914691236517205))) / 4) 3689348814741910323) + (Go.bits .and .u64 (IntKind.u64.wrap ((Go.bits .and .u64 (a0 / 2) 6148914691236517205) + (Go.bits .and .u64 a0 6148914691236517205))) 3689348814741910323))))) 1085102592571150095) / 256))) / 65536))) / 4294967296)))) 127)
end
section
attribute [local go_sem] max2_int min2_int max_two min_two
def skew_set_has.f (a0 : Int) (a1 : Int) : Option (Bool) := if 0 ≤ a1 then (some ((Go.bits .and .u64 (shr .u64 a0 a1) 1) == 1)) else (none)
set_option maxHeartbeats 8000000 in
set_option maxRecDepth 100000 in
theorem skew_set_has.calls (a0 : Int) (a1 : Int) (r : Bool) (w : World) (h : skew_set_has.f a0 a1 = some r) :
  Calls Try.prog 88 #[.int .u64 a0, .int .i64 a1] w fun e w' => e = .returned (.bool r) ∧ Drawn0 w w' := by
 have H : (if 0 ≤ a1 then (some ((Go.bits .and .u64 (shr .u64 a0 a1) 1) == 1)) else (none)) = some r := h; clear h
 by_cases c3 : 0 ≤ a1
 ·rw [if_pos c3] at H; have c3b0 := eq_true c3; have c3b1 : decide (0 ≤ a1) = true := decide_eq_true c3; clear c3
  obtain ⟨ji4, hji4⟩ : ∃ j_ : Int, (shr .u64 a0 a1) = j_ := ⟨_, rfl⟩
  replace H : (some ((Go.bits .and .u64 (ji4) 1) == 1)) = some r := by first | (rw [hji4] at H; exact H) | (simp only [hji4] at H ⊢; exact H)
  have hji4_ : (a0 / 2 ^ min a1.toNat 64) = ji4 := hji4; have hji4z : a1 ≤ 64 → (a0 / 2 ^ a1.toNat) = ji4 := shr_small hji4; obtain rfl := Option.some.inj H
  go_enter Try.func88, Try.ntmps88
  go_wp2; go_ret; exact ⟨by first | rfl | (simp; done) | (simp only [← hji4] <;> (first | rfl | simp)) | (simp [*]; done), by repeat (first | exact Drawn0.refl _ | apply Drawn0.step)⟩
 ·rw [if_neg c3] at H; exact absurd H (by simp)
end
section
attribute [local go_sem] max2_int min2_int max_two min_two
end
section
attribute [local go_sem] max2_int min2_int max_two min_two
def skew_greater.f (a0 : Int) (a1 : Int) : Option (Bool) := some (decide (a0 > a1))
set_option maxHeartbeats 8000000 in
set_option maxRecDepth 100000 in
theorem skew_greater.calls (a0 : Int) (a1 : Int) (r : Bool) (w : World) (h : skew_greater.f a0 a1 = some r) :
  Calls Try.prog 103 #[.int .i64 a0, .int .i64 a1] w fun e w' => e = .returned (.bool r) ∧ Drawn0 w w' := by
 have H : (some (decide (a0 > a1))) = some r := h; clear h; obtain rfl := Option.some.inj H
 go_enter Try.func103, Try.ntmps103
 go_wp2; go_ret; exact ⟨by first | rfl | (simp; done) | (simp [*]; done), by repeat (first | exact Drawn0.refl _ | apply Drawn0.step)⟩
end
section
attribute [local go_sem] max2_int min2_int max_two min_two
end
section
attribute [local go_sem] max2_int min2_int max_two min_two
end
section
attribute [local go_sem] max2_int min2_int max_two min_two
end
section
attribute [local go_sem] max2_int min2_int max_two min_two
def rf_Time.f (a0 : Int) : Option (Bool) := if a0 ≥ (-1000000) then (some (decide (a0 ≤ 1000000))) else (some false)
set_option maxHeartbeats 8000000 in
set_option maxRecDepth 100000 in
theorem rf_Time.calls (a0 : Int) (r : Bool) (w : World) (h : rf_Time.f a0 = some r) :
  Calls Try.prog 71 #[.int .i64 a0] w fun e w' => e = .returned (.bool r) ∧ Drawn0 w w' := by
 have H : (if a0 ≥ (-1000000) then (some (decide (a0 ≤ 1000000))) else (some false)) = some r := h; clear h
 by_cases c2 : a0 ≥ (-1000000)
 ·rw [if_pos c2] at H; have c2b0 : decide ((-1000000) ≤ a0) = true := decide_eq_true c2; clear c2; obtain rfl := Option.some.inj H
  go_enter Try.func71, Try.ntmps71
  go_wp2; go_ret; exact ⟨by first | rfl | (simp; done) | (simp [*]; done), by repeat (first | exact Drawn0.refl _ | apply Drawn0.step)⟩
 ·rw [if_neg c2] at H; have c2b0 : decide ((-1000000) ≤ a0) = false := decide_eq_false c2; clear c2; obtain rfl := Option.some.inj H
  go_enter Try.func71, Try.ntmps71
  go_wp2; go_ret; exact ⟨by first | rfl | (simp; done) | (simp [*]; done), by repeat (first | exact Drawn0.refl _ | apply Drawn0.step)⟩
end
section
attribute [local go_sem] max2_int min2_int max_two min_two
def rf_Good.f (a0_0 : Int) (a0_1 : Int) : Option (Bool) := if a0_0 ≤ a0_1 then ((rf_Time.f a0_0).bind fun t215 => (if t215 = true then ((rf_Time.f a0_1).bind fun t216 => (some t216)) else (some false))) else (some false)
set_option maxHeartbeats 8000000 in
set_option maxRecDepth 100000 in
theorem rf_Good.calls (a0_0 : Int) (a0_1 : Int) (r : Bool) (w : World) (h : rf_Good.f a0_0 a0_1 = some r) :
  Calls Try.prog 45 #[.agg #[.int .i64 a0_0, .int .i64 a0_1]] w fun e w' => e = .returned (.bool r) ∧ Below w.heap.size w w' := by
 have hu27 := Try.underlying27; have HB := Aa (Below.refl w.heap.size w); have H : (if a0_0 ≤ a0_1 then ((rf_Time.f a0_0).bind fun t215 => (if t215 = true then ((rf_Time.f a0_1).bind fun t216 => (some t216)) else (some false))) else (some false)) = some r := h; clear h
 by_cases c2 : a0_0 ≤ a0_1
 ·rw [if_pos c2] at H; have c2b0 : decide (a0_0 ≤ a0_1) = true := decide_eq_true c2; clear c2; replace H := Option.bind_eq_some_iff.mp H; obtain ⟨t215, A30, H⟩ := H; replace H : (if t215 = true then ((rf_Time.f a0_1).bind fun t216 => (some t216)) else (some false)) = some r := H; have A3 := Aa A30; clear A30
  by_cases c4 : t215 = true
  ·subst c4
   have H1 : ((rf_Time.f a0_1).bind fun t216 => (some t216)) = some r := by rw [if_pos rfl] at H; exact H
   clear H; have H := H1; clear H1; replace H := Option.bind_eq_some_iff.mp H; obtain ⟨t216, A50, H⟩ := H; replace H : (some t216) = some r := H; have A5 := Aa A50; clear A50; obtain rfl := Option.some.inj H
   go_enter Try.func45, Try.ntmps45
   go_wp2_with (first | ((with_reducible refine gate_dst (N := 1) rfl ?_); refine box_event ?hg (N := 1) ?hd (cs := #[.int .i64 a0_0, .int .i64 a0_1]) (t := 27) ?hr ?_; (case hd => rfl); (case hg => rfl); (case hr => first | (go_simp; done) | (go_simp; rfl)); intro gb214 hg w6 hbox hb; have n0_ := Aa (Bp (by repeat (first | (with_reducible first | exact HB.out | apply Ba | apply Pn | apply Dn) | exact HB.out)) hb); have n1_ := Aa (hbox); have n2_ := Aa ((by rw [hg]; exact (below_size (by repeat (first | (with_reducible first | exact HB.out | apply Ba | apply Pn | apply Dn) | exact HB.out))) : w.heap.size ≤ gb214)); have n3_ := Aa ((by rw [hg]; exact (below_size (by repeat (first | (with_reducible first | exact HB.out | apply Ba | apply Pn | apply Dn) | exact HB.out))) : w.heap.size ≤ gb214)); clear HB; have HB := n0_; have BK214 := n1_; have GW214 := n2_; have GE214 := n3_; clear n0_ n1_ n2_ n3_; clear hb hbox hg; have hcz7_0 : w6.cell? ⟨gb214, 0, none⟩ = some (.int .i64 a0_0) := (Bc BK214.out 0).trans rfl; have hcz7_1 : w6.cell? ⟨gb214, 1, none⟩ = some (.int .i64 a0_1) := (Bc BK214.out 1).trans rfl; have hfz7_0 := Bf BK214.out 0; have hfz7_1 := Bf BK214.out 1) | (go_at_call 71; (with_reducible refine (rf_Time.calls a0_0 true _ A3.out).mono ?_); rintro e w' ⟨rfl, ⟨nd, rfl⟩⟩) | (go_at_call 71; (with_reducible refine (rf_Time.calls a0_1 t216 _ A5.out).mono ?_); rintro e w' ⟨rfl, ⟨nd, rfl⟩⟩))
   go_ret; exact ⟨by first | rfl | (simp [errW_none, errW_some] <;> rfl) | (simp [*, errW_none, errW_some] <;> rfl), by repeat (first | (with_reducible first | exact HB.out | apply Ba | apply Pn | apply Dn | refine Bz ?_ GE214.out) | exact HB.out)⟩
  ·replace c4 := Bool.eq_false_iff.mpr c4; subst c4
   have H1 : (some false) = some r := by rw [if_neg (show ¬ (false = true) by decide)] at H; exact H
   clear H; have H := H1; clear H1; obtain rfl := Option.some.inj H
   go_enter Try.func45, Try.ntmps45
   go_wp2_with (first | ((with_reducible refine gate_dst (N := 1) rfl ?_); refine box_event ?hg (N := 1) ?hd (cs := #[.int .i64 a0_0, .int .i64 a0_1]) (t := 27) ?hr ?_; (case hd => rfl); (case hg => rfl); (case hr => first | (go_simp; done) | (go_simp; rfl)); intro gb214 hg w8 hbox hb; have n0_ := Aa (Bp (by repeat (first | (with_reducible first | exact HB.out | apply Ba | apply Pn | apply Dn) | exact HB.out)) hb); have n1_ := Aa (hbox); have n2_ := Aa ((by rw [hg]; exact (below_size (by repeat (first | (with_reducible first | exact HB.out | apply Ba | apply Pn | apply Dn) | exact HB.out))) : w.heap.size ≤ gb214)); have n3_ := Aa ((by rw [hg]; exact (below_size (by repeat (first | (with_reducible first | exact HB.out | apply Ba | apply Pn | apply Dn) | exact HB.out))) : w.heap.size ≤ gb214)); clear HB; have HB := n0_; have BK214 := n1_; have GW214 := n2_; have GE214 := n3_; clear n0_ n1_ n2_ n3_; clear hb hbox hg; have hcz9_0 : w8.cell? ⟨gb214, 0, none⟩ = some (.int .i64 a0_0) := (Bc BK214.out 0).trans rfl; have hcz9_1 : w8.cell? ⟨gb214, 1, none⟩ = some (.int .i64 a0_1) := (Bc BK214.out 1).trans rfl; have hfz9_0 := Bf BK214.out 0; have hfz9_1 := Bf BK214.out 1) | (go_at_call 71; (with_reducible refine (rf_Time.calls a0_0 false _ A3.out).mono ?_); rintro e w' ⟨rfl, ⟨nd, rfl⟩⟩))
   go_ret; exact ⟨by first | rfl | (simp [errW_none, errW_some] <;> rfl) | (simp [*, errW_none, errW_some] <;> rfl), by repeat (first | (with_reducible first | exact HB.out | apply Ba | apply Pn | apply Dn | refine Bz ?_ GE214.out) | exact HB.out)⟩
 ·rw [if_neg c2] at H; have c2b0 : decide (a0_0 ≤ a0_1) = false := decide_eq_false c2; clear c2; obtain rfl := Option.some.inj H
  go_enter Try.func45, Try.ntmps45
  go_wp2_with (first | ((with_reducible refine gate_dst (N := 1) rfl ?_); refine box_event ?hg (N := 1) ?hd (cs := #[.int .i64 a0_0, .int .i64 a0_1]) (t := 27) ?hr ?_; (case hd => rfl); (case hg => rfl); (case hr => first | (go_simp; done) | (go_simp; rfl)); intro gb214 hg w10 hbox hb; have n0_ := Aa (Bp (by repeat (first | (with_reducible first | exact HB.out | apply Ba | apply Pn | apply Dn) | exact HB.out)) hb); have n1_ := Aa (hbox); have n2_ := Aa ((by rw [hg]; exact (below_size (by repeat (first | (with_reducible first | exact HB.out | apply Ba | apply Pn | apply Dn) | exact HB.out))) : w.heap.size ≤ gb214)); have n3_ := Aa ((by rw [hg]; exact (below_size (by repeat (first | (with_reducible first | exact HB.out | apply Ba | apply Pn | apply Dn) | exact HB.out))) : w.heap.size ≤ gb214)); clear HB; have HB := n0_; have BK214 := n1_; have GW214 := n2_; have GE214 := n3_; clear n0_ n1_ n2_ n3_; clear hb hbox hg; have hcz11_0 : w10.cell? ⟨gb214, 0, none⟩ = some (.int .i64 a0_0) := (Bc BK214.out 0).trans rfl; have hcz11_1 : w10.cell? ⟨gb214, 1, none⟩ = some (.int .i64 a0_1) := (Bc BK214.out 1).trans rfl; have hfz11_0 := Bf BK214.out 0; have hfz11_1 := Bf BK214.out 1))
  go_ret; exact ⟨by first | rfl | (simp [errW_none, errW_some] <;> rfl) | (simp [*, errW_none, errW_some] <;> rfl), by repeat (first | (with_reducible first | exact HB.out | apply Ba | apply Pn | apply Dn | refine Bz ?_ GE214.out) | exact HB.out)⟩
end
section
attribute [local go_sem] max2_int min2_int max_two min_two
def rf_Goods.l0 : Nat → List (S27) → Int → Option (Bool)
 | 0, _, _ => none
 | k + 1, x0, x5 => if x5 < (x0.length : Int) then (if 0 ≤ x5 then ((rf_Good.f ((rd_T27 x0 x5).f0) ((rd_T27 x0 x5).f1)).bind fun t218 => (if t218 = true then (rf_Goods.l0 k x0 (wrap64 (x5 + 1))) else (some false))) else (none)) else (some true)
def rf_Goods.f (k : Nat) (l0 : List (S27)) (a1 : Int) : Option (Bool) := if (l0.length : Int) > a1 then (some false) else (rf_Goods.l0 k l0 0)
set_option maxHeartbeats 8000000 in
set_option maxRecDepth 100000 in
theorem rf_Goods.calls (k : Nat) (A0 : Option Addr) (c0 : Nat) (l0 : List (S27)) (a1 : Int) (r : Bool) (w : World) (hr0 : Kd.C k27 w A0 l0.length l0) (hc0 : l0.length ≤ c0) (h : rf_Goods.f k l0 a1 = some r) :
  Calls Try.prog 44 #[.slice A0 l0.length c0, .int .i64 a1] w fun e w' => e = .returned (.bool r) ∧ Below w.heap.size w w' := by
 have hu27 := Try.underlying27; have HR0 := Aa hr0; have HC0 := Aa hc0; clear hr0 hc0; have HB := Aa (Below.refl w.heap.size w); have H : (if (l0.length : Int) > a1 then (some false) else (rf_Goods.l0 k l0 0)) = some r := h; clear h
 by_cases c3 : (l0.length : Int) > a1
 ·rw [if_pos c3] at H; have c3b0 : decide (a1 < (l0.length : Int)) = true := decide_eq_true c3; clear c3; obtain rfl := Option.some.inj H
  go_enter Try.func44, Try.ntmps44
  go_wp2; go_ret; exact ⟨by first | rfl | (simp [errW_none, errW_some] <;> rfl) | (simp [*, errW_none, errW_some] <;> rfl), by repeat (first | (with_reducible first | exact HB.out | apply Ba | apply Pn | apply Dn) | exact HB.out)⟩
 ·rw [if_neg c3] at H; have c3b0 : decide (a1 < (l0.length : Int)) = false := decide_eq_false c3; clear c3; have H' := Aa H; clear H
  go_enter Try.func44, Try.ntmps44
  go_wp2
  go_loopg [5] k (fun kq v5 w' => ∃ (x5_1 : Int), v5 = .int .i64 x5_1 ∧ Aside0 (rf_Goods.l0 kq l0 x5_1 = some r) ∧ Aside0 (kq ≤ k) ∧ Aside0 (Below w.heap.size w w'))
  case atStart => exact ⟨(0), (by first | rfl | (simp; done) | (simp [*]; done)), H', ⟨Nat.le_refl _⟩, ⟨by repeat (first | (with_reducible first | exact HB.out | apply Ba | apply Pn | apply Dn) | exact HB.out)⟩⟩
  case round =>
   clear H'; try clear p2
   try clear c3
   try clear c3b0
   obtain ⟨x5_1, rfl, HA, HK1, HB⟩ := hrel
   cases gk with
   | zero => exact absurd HA.out (by simp [rf_Goods.l0])
   | succ k1 =>
    have H := HA.out; clear HA; simp only [rf_Goods.l0] at H
    by_cases c4 : x5_1 < (l0.length : Int)
    ·rw [if_pos c4] at H; have c4b0 : decide (x5_1 < (l0.length : Int)) = true := decide_eq_true c4; clear c4
     by_cases c5 : 0 ≤ x5_1
     ·rw [if_pos c5] at H; have c5b0 : decide (0 ≤ x5_1) = true := decide_eq_true c5; clear c5; replace H := Option.bind_eq_some_iff.mp H; obtain ⟨t218, A60, H⟩ := H; replace H : (if t218 = true then (rf_Goods.l0 k1 l0 (wrap64 (x5_1 + 1))) else (some false)) = some r := H; have A6 := Aa A60; clear A60
      by_cases c7 : t218 = true
      ·subst c7
       have H1 : (rf_Goods.l0 k1 l0 (wrap64 (x5_1 + 1))) = some r := by rw [if_pos rfl] at H; exact H
       clear H; have H := H1; clear H1; have H' := Aa H; clear H; have p217 : 0 ≤ (x5_1 : Int) := Od (by first | (with_reducible assumption) | assumption); have q217 : x5_1 < (l0.length : Int) := Od (by first | (with_reducible assumption) | assumption); obtain ⟨ad217, e217, hx217_0, hx217_1⟩ := at_T27 HR0.out x5_1 p217 q217; cases e217; replace hx217_0 := (HB.out.cell (Wb w _ hx217_0)).trans hx217_0; replace hx217_1 := (HB.out.cell (Wb w _ hx217_1)).trans hx217_1; replace p217 := eq_true p217; replace q217 := eq_true q217
       go_wp2_with (first | ((with_reducible refine gate_callee (f := 45) rfl ?_); refine goesL_ (some 20) rfl rfl Try.func45 (by kernel_rfl) rfl #[.agg #[.int .i64 ((rd_T27 l0 x5_1).f0), .int .i64 ((rd_T27 l0 x5_1).f1)]] rfl (by (try simp only [List.map_toArray, List.map_cons, List.map_nil]); first | done | rfl | (simp only [List.length_drop, List.length_take]; rfl)) ?_; (with_reducible refine (rf_Good.calls ((rd_T27 l0 x5_1).f0) ((rd_T27 l0 x5_1).f1) true _ A6.out).mono ?_); rintro e w8 ⟨rfl, hb⟩; refine ⟨_, rfl, ?_⟩; have n0_ := Aa (Bp (by repeat (first | (with_reducible first | exact HB.out | apply Ba | apply Pn | apply Dn) | exact HB.out)) hb); clear HB; have HB := n0_; clear n0_; (try clear hb); (try clear hb2); (try clear hk); (try clear hi)))
       go_roundg k1
       case measure => have := HK1.out; omega
       case rel => exact ⟨(wrap64 (x5_1 + 1)), (by first | rfl | (simp; done) | (simp [*]; done)), H', ⟨by have := HK1.out; omega⟩, ⟨by repeat (first | (with_reducible first | exact HB.out | apply Ba | apply Pn | apply Dn) | exact HB.out)⟩⟩
      ·replace c7 := Bool.eq_false_iff.mpr c7; subst c7
       have H1 : (some false) = some r := by rw [if_neg (show ¬ (false = true) by decide)] at H; exact H
       clear H; have H := H1; clear H1; obtain rfl := Option.some.inj H; have p217 : 0 ≤ (x5_1 : Int) := Od (by first | (with_reducible assumption) | assumption); have q217 : x5_1 < (l0.length : Int) := Od (by first | (with_reducible assumption) | assumption); obtain ⟨ad217, e217, hx217_0, hx217_1⟩ := at_T27 HR0.out x5_1 p217 q217; cases e217; replace hx217_0 := (HB.out.cell (Wb w _ hx217_0)).trans hx217_0; replace hx217_1 := (HB.out.cell (Wb w _ hx217_1)).trans hx217_1; replace p217 := eq_true p217; replace q217 := eq_true q217
       go_wp2_with (first | ((with_reducible refine gate_callee (f := 45) rfl ?_); refine goesL_ (some 20) rfl rfl Try.func45 (by kernel_rfl) rfl #[.agg #[.int .i64 ((rd_T27 l0 x5_1).f0), .int .i64 ((rd_T27 l0 x5_1).f1)]] rfl (by (try simp only [List.map_toArray, List.map_cons, List.map_nil]); first | done | rfl | (simp only [List.length_drop, List.length_take]; rfl)) ?_; (with_reducible refine (rf_Good.calls ((rd_T27 l0 x5_1).f0) ((rd_T27 l0 x5_1).f1) false _ A6.out).mono ?_); rintro e w9 ⟨rfl, hb⟩; refine ⟨_, rfl, ?_⟩; have n0_ := Aa (Bp (by repeat (first | (with_reducible first | exact HB.out | apply Ba | apply Pn | apply Dn) | exact HB.out)) hb); clear HB; have HB := n0_; clear n0_; (try clear hb); (try clear hb2); (try clear hk); (try clear hi)))
       go_ret; exact ⟨by first | rfl | (simp [errW_none, errW_some] <;> rfl) | (simp [*, errW_none, errW_some] <;> rfl), by repeat (first | (with_reducible first | exact HB.out | apply Ba | apply Pn | apply Dn) | exact HB.out)⟩
     ·rw [if_neg c5] at H; exact absurd H (by simp)
    ·rw [if_neg c4] at H; have c4b0 : decide (x5_1 < (l0.length : Int)) = false := decide_eq_false c4; clear c4; obtain rfl := Option.some.inj H; go_wp2; go_ret; exact ⟨by first | rfl | (simp [errW_none, errW_some] <;> rfl) | (simp [*, errW_none, errW_some] <;> rfl), by repeat (first | (with_reducible first | exact HB.out | apply Ba | apply Pn | apply Dn) | exact HB.out)⟩
end
section
attribute [local go_sem] max2_int min2_int max_two min_two
end
section
attribute [local go_sem] max2_int min2_int max_two min_two
end
section
attribute [local go_sem] max2_int min2_int max_two min_two
end
section
attribute [local go_sem] max2_int min2_int max_two min_two
end
section
attribute [local go_sem] max2_int min2_int max_two min_two
end
section
attribute [local go_sem] max2_int min2_int max_two min_two
end
section
attribute [local go_sem] max2_int min2_int max_two min_two
end
section
attribute [local go_sem] max2_int min2_int max_two min_two
mutual
def rf_Hist.j0 : Nat → Bool → List (S27) → List (S86) → Option (Bool)
 | 0, _, _, _ => none
 | k + 1, x14, x220000, x220001 => if x14 = true then (some false) else (rf_Hist.l0 k 0 x220000 x220001)
def rf_Hist.l0 : Nat → Int → List (S27) → List (S86) → Option (Bool)
 | 0, _, _, _ => none
 | k + 1, x3, x220000, x220001 => if x3 < (x220001.length : Int) then (if 0 ≤ x3 then (if ((rd_T86 x220001 x3).f0) < 0 then (rf_Hist.j2 k x3 true x220000 x220001 ((rd_T86 x220001 x3).f0) ((rd_T86 x220001 x3).f1) ((rd_T86 x220001 x3).f2) ((rd_T86 x220001 x3).f3)) else (if ((rd_T86 x220001 x3).f0) ≥ (x220000.length : Int) then (rf_Hist.j2 k x3 true x220000 x220001 ((rd_T86 x220001 x3).f0) ((rd_T86 x220001 x3).f1) ((rd_T86 x220001 x3).f2) ((rd_T86 x220001 x3).f3)) else (if ((rd_T86 x220001 x3).f1) < 0 then (rf_Hist.j2 k x3 true x220000 x220001 ((rd_T86 x220001 x3).f0) ((rd_T86 x220001 x3).f1) ((rd_T86 x220001 x3).f2) ((rd_T86 x220001 x3).f3)) else (if ((rd_T86 x220001 x3).f1) ≥ (x220000.length : Int) then (rf_Hist.j2 k x3 true x220000 x220001 ((rd_T86 x220001 x3).f0) ((rd_T86 x220001 x3).f1) ((rd_T86 x220001 x3).f2) ((rd_T86 x220001 x3).f3)) else (rf_Hist.j2 k x3 (((rd_T86 x220001 x3).f0) == ((rd_T86 x220001 x3).f1)) x220000 x220001 ((rd_T86 x220001 x3).f0) ((rd_T86 x220001 x3).f1) ((rd_T86 x220001 x3).f2) ((rd_T86 x220001 x3).f3)))))) else (none)) else (some true)
def rf_Hist.j2 : Nat → Int → Bool → List (S27) → List (S86) → Int → Int → Int → Int → Option (Bool)
 | 0, _, _, _, _, _, _, _, _ => none
 | k + 1, x3, x57, x220000, x220001, x223000, x223001, x223002, x223003 => if x57 = true then (some false) else (if x223002 > x223003 then (some false) else (if x223002 < (-2000000) then (some false) else (if x223003 > 2000000 then (some false) else (rf_Hist.l0 k (wrap64 (x3 + 1)) x220000 x220001))))
end
def rf_Hist.f (k : Nat) (l0_0 : List (S27)) (l0_1 : List (S86)) : Option (Bool) := (rf_Goods.f k l0_0 10).bind fun t220 => (if t220 = true then (rf_Hist.j0 k (decide ((l0_1.length : Int) > 20)) l0_0 l0_1) else (rf_Hist.j0 k true l0_0 l0_1))
set_option maxHeartbeats 8000000 in
set_option maxRecDepth 100000 in
theorem rf_Hist.calls (k : Nat) (A0_0 : Option Addr) (c0_0 : Nat) (l0_0 : List (S27)) (A0_1 : Option Addr) (c0_1 : Nat) (l0_1 : List (S86)) (r : Bool) (w : World) (hr0_0 : Kd.C k27 w A0_0 l0_0.length l0_0) (hc0_0 : l0_0.length ≤ c0_0) (hr0_1 : Kd.C k86 w A0_1 l0_1.length l0_1) (hc0_1 : l0_1.length ≤ c0_1) (h : rf_Hist.f k l0_0 l0_1 = some r) :
  Calls Try.prog 52 #[.agg #[.slice A0_0 l0_0.length c0_0, .slice A0_1 l0_1.length c0_1]] w fun e w' => e = .returned (.bool r) ∧ Below w.heap.size w w' := by
 have hu39 := Try.underlying39; have hu86 := Try.underlying86; have HR0_0 := Aa hr0_0; have HC0_0 := Aa hc0_0; clear hr0_0 hc0_0; have HR0_1 := Aa hr0_1; have HC0_1 := Aa hc0_1; clear hr0_1 hc0_1; have HB := Aa (Below.refl w.heap.size w); have H : ((rf_Goods.f k l0_0 10).bind fun t220 => (if t220 = true then (rf_Hist.j0 k (decide ((l0_1.length : Int) > 20)) l0_0 l0_1) else (rf_Hist.j0 k true l0_0 l0_1))) = some r := h; clear h; have HC2 := Aa H; clear H
 go_enter Try.func52, Try.ntmps52
 go_upto_region 1 with (first | ((with_reducible refine gate_dst (N := 1) rfl ?_); (try (refine gate_guard (by rfl) ?_; dsimp only)); refine box_event ?hg (N := 1) ?hd (cs := #[.slice A0_0 l0_0.length c0_0, .slice A0_1 l0_1.length c0_1]) (t := 39) ?hr ?_; (case hd => rfl); (case hg => rfl); (case hr => first | (go_simp; done) | (go_simp; rfl)); intro gb219 hg w3 hbox hb; have n0_ := Aa (Bp (by repeat (first | (with_reducible first | exact HB.out | apply Ba | apply Pn | apply Dn) | exact HB.out)) hb); have n1_ := Aa (hbox); have n2_ := Aa ((by rw [hg]; exact (below_size (by repeat (first | (with_reducible first | exact HB.out | apply Ba | apply Pn | apply Dn) | exact HB.out))) : w.heap.size ≤ gb219)); have n3_ := Aa ((by rw [hg]; exact (below_size (by repeat (first | (with_reducible first | exact HB.out | apply Ba | apply Pn | apply Dn) | exact HB.out))) : w.heap.size ≤ gb219)); clear HB; have HB := n0_; have BK219 := n1_; have GW219 := n2_; have GE219 := n3_; clear n0_ n1_ n2_ n3_; clear hb hbox hg))
 (try simp only [Act.put, Sa, Sb, Sc])
 go_cut [14] (fun v14 wc => ∃ (kq : Nat) (x14_1 : Bool), v14 = .bool x14_1 ∧ Aside0 (rf_Hist.j0 kq x14_1 l0_0 l0_1 = some r) ∧ Aside0 (kq ≤ k) ∧ Aside0 (wc.heap[gb219]? = some (.cells #[(.slice A0_0 l0_0.length c0_0), (.slice A0_1 l0_1.length c0_1)] 39 (0, 0))) ∧ Aside0 (Below w.heap.size w wc))
 case first =>
  have H := HC2.out; clear HC2; replace H := Option.bind_eq_some_iff.mp H; obtain ⟨t220, A40, H⟩ := H; replace H : (if t220 = true then (rf_Hist.j0 k (decide ((l0_1.length : Int) > 20)) l0_0 l0_1) else (rf_Hist.j0 k true l0_0 l0_1)) = some r := H; have A4 := Aa A40; clear A40
  by_cases c5 : t220 = true
  ·subst c5
   have H1 : (rf_Hist.j0 k (decide ((l0_1.length : Int) > 20)) l0_0 l0_1) = some r := by rw [if_pos rfl] at H; exact H
   clear H; have H := H1; clear H1; have H' := Aa H; clear H; have hcz6_0 : w3.cell? ⟨gb219, 0, none⟩ = some (.slice A0_0 l0_0.length c0_0) := (Bc BK219.out 0).trans rfl; have hcz6_1 : w3.cell? ⟨gb219, 1, none⟩ = some (.slice A0_1 l0_1.length c0_1) := (Bc BK219.out 1).trans rfl; have hfz6_0 := Bf BK219.out 0; have hfz6_1 := Bf BK219.out 1
   go_wp2_with (first | ((with_reducible refine gate_callee (f := 44) rfl ?_); refine goesL_ (some 7) rfl rfl Try.func44 (by kernel_rfl) rfl #[.slice A0_0 l0_0.length c0_0, .int .i64 10] rfl (by (try simp only [List.map_toArray, List.map_cons, List.map_nil]); first | done | rfl | (simp only [List.length_drop, List.length_take]; rfl)) ?_; (with_reducible refine (rf_Goods.calls k _ _ l0_0 10 true _ ?side1 ?side2 A4.out).mono ?_); (case side1 => repeat (first | exact (Kd.C_below HR0_0.out HB.out) | (with_reducible refine Kd.C_alloc ?_ _) | (with_reducible refine Kd.C_drewN ?_ _) | (with_reducible refine Kd.C_drew ?_))); (case side2 => exact HC0_0.out); rintro e w7 ⟨rfl, hb⟩; refine ⟨_, rfl, ?_⟩; have n0_ := Aa (blk_below (g := gb219) (o := .cells #[.slice A0_0 l0_0.length c0_0, .slice A0_1 l0_1.length c0_1] 39 (0, 0)) (by (with_reducible repeat (first | refine Kn ?_ _ | refine Kw ?_ | refine Ka ?_ _)); exact BK219.out) hb); have n1_ := Aa (Bp (by repeat (first | (with_reducible first | exact HB.out | apply Ba | apply Pn | apply Dn | refine Bz ?_ GE219.out) | exact HB.out)) hb); clear BK219; clear HB; have BK219 := n0_; have HB := n1_; clear n0_ n1_; (try clear hb); (try clear hb2); (try clear hk); (try clear hi); have hcz8_0 : w7.cell? ⟨gb219, 0, none⟩ = some (.slice A0_0 l0_0.length c0_0) := (Bc BK219.out 0).trans rfl; have hcz8_1 : w7.cell? ⟨gb219, 1, none⟩ = some (.slice A0_1 l0_1.length c0_1) := (Bc BK219.out 1).trans rfl; have hfz8_0 := Bf BK219.out 0; have hfz8_1 := Bf BK219.out 1))
   go_meet
   case rel => exact ⟨_, (decide ((l0_1.length : Int) > 20)), (by first | rfl | (simp; done) | (simp [*]; done)), H', ⟨by first | omega | exact Nat.le_refl _⟩, ⟨by (with_reducible repeat (first | refine Kn ?_ _ | refine Kw ?_ | refine Ka ?_ _)); exact BK219.out⟩, ⟨by repeat (first | (with_reducible first | exact HB.out | apply Ba | apply Pn | apply Dn | refine Bz ?_ GE219.out) | exact HB.out)⟩⟩
  ·replace c5 := Bool.eq_false_iff.mpr c5; subst c5
   have H1 : (rf_Hist.j0 k true l0_0 l0_1) = some r := by rw [if_neg (show ¬ (false = true) by decide)] at H; exact H
   clear H; have H := H1; clear H1; have H' := Aa H; clear H; have hcz9_0 : w3.cell? ⟨gb219, 0, none⟩ = some (.slice A0_0 l0_0.length c0_0) := (Bc BK219.out 0).trans rfl; have hcz9_1 : w3.cell? ⟨gb219, 1, none⟩ = some (.slice A0_1 l0_1.length c0_1) := (Bc BK219.out 1).trans rfl; have hfz9_0 := Bf BK219.out 0; have hfz9_1 := Bf BK219.out 1
   go_wp2_with (first | ((with_reducible refine gate_callee (f := 44) rfl ?_); refine goesL_ (some 7) rfl rfl Try.func44 (by kernel_rfl) rfl #[.slice A0_0 l0_0.length c0_0, .int .i64 10] rfl (by (try simp only [List.map_toArray, List.map_cons, List.map_nil]); first | done | rfl | (simp only [List.length_drop, List.length_take]; rfl)) ?_; (with_reducible refine (rf_Goods.calls k _ _ l0_0 10 false _ ?side1 ?side2 A4.out).mono ?_); (case side1 => repeat (first | exact (Kd.C_below HR0_0.out HB.out) | (with_reducible refine Kd.C_alloc ?_ _) | (with_reducible refine Kd.C_drewN ?_ _) | (with_reducible refine Kd.C_drew ?_))); (case side2 => exact HC0_0.out); rintro e w10 ⟨rfl, hb⟩; refine ⟨_, rfl, ?_⟩; have n0_ := Aa (blk_below (g := gb219) (o := .cells #[.slice A0_0 l0_0.length c0_0, .slice A0_1 l0_1.length c0_1] 39 (0, 0)) (by (with_reducible repeat (first | refine Kn ?_ _ | refine Kw ?_ | refine Ka ?_ _)); exact BK219.out) hb); have n1_ := Aa (Bp (by repeat (first | (with_reducible first | exact HB.out | apply Ba | apply Pn | apply Dn | refine Bz ?_ GE219.out) | exact HB.out)) hb); clear BK219; clear HB; have BK219 := n0_; have HB := n1_; clear n0_ n1_; (try clear hb); (try clear hb2); (try clear hk); (try clear hi)))
   go_meet
   case rel => exact ⟨_, (true), (by first | rfl | (simp; done) | (simp [*]; done)), H', ⟨by first | omega | exact Nat.le_refl _⟩, ⟨by (with_reducible repeat (first | refine Kn ?_ _ | refine Kw ?_ | refine Ka ?_ _)); exact BK219.out⟩, ⟨by repeat (first | (with_reducible first | exact HB.out | apply Ba | apply Pn | apply Dn | refine Bz ?_ GE219.out) | exact HB.out)⟩⟩
 case rest =>
  clear HC2; try clear p2
  try clear c4
  try clear c5
  try clear hcz6_0
  try clear hcz6_1
  try clear hcz8_0
  try clear hcz8_1
  try clear hcz9_0
  try clear hcz9_1
  try clear hfz6_0
  try clear hfz6_1
  try clear hfz8_0
  try clear hfz8_1
  try clear hfz9_0
  try clear hfz9_1
  obtain ⟨kq, x14_1, rfl, HA, HJ1, BK219, HB⟩ := hcut
  cases kq with
  | zero => exact absurd HA.out (by simp [rf_Hist.j0])
  | succ kj1 =>
   have H := HA.out; clear HA; simp only [rf_Hist.j0] at H
   by_cases c11 : x14_1 = true
   ·subst c11
    have H1 : (some false) = some r := by rw [if_pos rfl] at H; exact H
    clear H; have H := H1; clear H1; obtain rfl := Option.some.inj H; go_wp2; go_ret; exact ⟨by first | rfl | (simp [errW_none, errW_some] <;> rfl) | (simp [*, errW_none, errW_some] <;> rfl), by repeat (first | (with_reducible first | exact HB.out | apply Ba | apply Pn | apply Dn | refine Bz ?_ GE219.out) | exact HB.out)⟩
   ·replace c11 := Bool.eq_false_iff.mpr c11; subst c11
    have H1 : (rf_Hist.l0 kj1 0 l0_0 l0_1) = some r := by rw [if_neg (show ¬ (false = true) by decide)] at H; exact H
    clear H; have H := H1; clear H1; have H' := Aa H; clear H; go_wp2
    go_loopg [3] kj1 (fun kq v3 w' => ∃ (x3_2 : Int), v3 = .int .i64 x3_2 ∧ Aside0 (rf_Hist.l0 kq x3_2 l0_0 l0_1 = some r) ∧ Aside0 (kq ≤ kj1) ∧ Aside0 (w'.heap[gb219]? = some (.cells #[(.slice A0_0 l0_0.length c0_0), (.slice A0_1 l0_1.length c0_1)] 39 (0, 0))) ∧ Aside0 (Below w.heap.size w w'))
    case atStart => exact ⟨(0), (by first | rfl | (simp; done) | (simp [*]; done)), H', ⟨Nat.le_refl _⟩, ⟨by (with_reducible repeat (first | refine Kn ?_ _ | refine Kw ?_ | refine Ka ?_ _)); exact BK219.out⟩, ⟨by repeat (first | (with_reducible first | exact HB.out | apply Ba | apply Pn | apply Dn | refine Bz ?_ GE219.out) | exact HB.out)⟩⟩
    case round =>
     clear H'; try clear c1
     try clear p2
     try clear c4
     try clear c5
     try clear c11
     try clear hcz6_0
     try clear hcz6_1
     try clear hcz8_0
     try clear hcz8_1
     try clear hcz9_0
     try clear hcz9_1
     try clear hfz6_0
     try clear hfz6_1
     try clear hfz8_0
     try clear hfz8_1
     try clear hfz9_0
     try clear hfz9_1
     try clear p2
     obtain ⟨x3_2, rfl, HA, HK2, BK219, HB⟩ := hrel
     cases gk with
     | zero => exact absurd HA.out (by simp [rf_Hist.l0])
     | succ k2 =>
      have H := HA.out; clear HA; simp only [rf_Hist.l0] at H
      by_cases c12 : x3_2 < (l0_1.length : Int)
      ·rw [if_pos c12] at H; have c12b0 : decide (x3_2 < (l0_1.length : Int)) = true := decide_eq_true c12; clear c12
       by_cases c13 : 0 ≤ x3_2
       ·rw [if_pos c13] at H; have c13b0 : decide (0 ≤ x3_2) = true := decide_eq_true c13; clear c13; have HC14 := Aa H; clear H; have hcz15_0 : wr.cell? ⟨gb219, 0, none⟩ = some (.slice A0_0 l0_0.length c0_0) := (Bc BK219.out 0).trans rfl; have hcz15_1 : wr.cell? ⟨gb219, 1, none⟩ = some (.slice A0_1 l0_1.length c0_1) := (Bc BK219.out 1).trans rfl; have hfz15_0 := Bf BK219.out 0; have hfz15_1 := Bf BK219.out 1; have p221 : 0 ≤ (x3_2 : Int) := Od (by first | (with_reducible assumption) | assumption); have q221 : x3_2 < (l0_1.length : Int) := Od (by first | (with_reducible assumption) | assumption); obtain ⟨ad221, e221, hx221_0, hx221_1, hx221_2, hx221_3⟩ := at_T86 HR0_1.out x3_2 p221 q221; cases e221; replace hx221_0 := (HB.out.cell (Wb w _ hx221_0)).trans hx221_0; replace hx221_1 := (HB.out.cell (Wb w _ hx221_1)).trans hx221_1; replace hx221_2 := (HB.out.cell (Wb w _ hx221_2)).trans hx221_2; replace hx221_3 := (HB.out.cell (Wb w _ hx221_3)).trans hx221_3; replace p221 := eq_true p221; replace q221 := eq_true q221
        go_upto_region 7 with (first | ((with_reducible refine gate_dst (N := 4) rfl ?_); (try (refine gate_guard (by rfl) ?_; dsimp only)); refine box_event ?hg (N := 4) ?hd (cs := #[.int .i64 0, .int .i64 0, .int .i64 0, .int .i64 0]) (t := 86) ?hr ?_; (case hd => rfl); (case hg => rfl); (case hr => first | (go_simp; done) | (go_simp; rfl)); intro gb222 hg w16 hbox hb; have n0_ := Aa (blk_below (g := gb219) (o := .cells #[.slice A0_0 l0_0.length c0_0, .slice (some ad221) l0_1.length c0_1] 39 (0, 0)) (by (with_reducible repeat (first | refine Kn ?_ _ | refine Kw ?_ | refine Ka ?_ _)); exact BK219.out) hb); have n1_ := Aa (Bp (by repeat (first | (with_reducible first | exact HB.out | apply Ba | apply Pn | apply Dn | refine Bz ?_ GE219.out) | exact HB.out)) hb); have n2_ := Aa (hbox); have n3_ := Aa ((by rw [hg]; exact (below_size (by repeat (first | (with_reducible first | exact HB.out | apply Ba | apply Pn | apply Dn | refine Bz ?_ GE219.out) | exact HB.out))) : w.heap.size ≤ gb222)); have n4_ := Aa ((by rw [hg]; exact (below_size (by repeat (first | (with_reducible first | exact HB.out | apply Ba | apply Pn | apply Dn | refine Bz ?_ GE219.out) | exact HB.out))) : w.heap.size ≤ gb222)); have n5_ := Aa ((by rw [hg]; exact Nat.ne_of_lt (blk_lt (g := gb219) (o := .cells #[.slice A0_0 l0_0.length c0_0, .slice (some ad221) l0_1.length c0_1] 39 (0, 0)) (by (with_reducible repeat (first | refine Kn ?_ _ | refine Kw ?_ | refine Ka ?_ _)); exact BK219.out)) : gb219 ≠ gb222)); have n6_ := Aa ((by rw [hg]; exact Nat.ne_of_gt (blk_lt (g := gb219) (o := .cells #[.slice A0_0 l0_0.length c0_0, .slice (some ad221) l0_1.length c0_1] 39 (0, 0)) (by (with_reducible repeat (first | refine Kn ?_ _ | refine Kw ?_ | refine Ka ?_ _)); exact BK219.out)) : gb222 ≠ gb219)); clear BK219; clear HB; have BK219 := n0_; have HB := n1_; have BK222 := n2_; have GW222 := n3_; have GE222 := n4_; have NB219_222 := n5_; have NB222_219 := n6_; clear n0_ n1_ n2_ n3_ n4_ n5_ n6_; clear hb hbox hg; have hnb17 := NB222_219.out; have hnc17 := NB219_222.out; have hcz18_0 : w16.cell? ⟨gb222, 0, none⟩ = some (.int .i64 0) := (Bc BK222.out 0).trans rfl; have hcz18_1 : w16.cell? ⟨gb222, 1, none⟩ = some (.int .i64 0) := (Bc BK222.out 1).trans rfl; have hcz18_2 : w16.cell? ⟨gb222, 2, none⟩ = some (.int .i64 0) := (Bc BK222.out 2).trans rfl; have hcz18_3 : w16.cell? ⟨gb222, 3, none⟩ = some (.int .i64 0) := (Bc BK222.out 3).trans rfl; have hfz18_0 := Bf BK222.out 0; have hfz18_1 := Bf BK222.out 1; have hfz18_2 := Bf BK222.out 2; have hfz18_3 := Bf BK222.out 3))
        (try simp only [Act.put, Sa, Sb, Sc])
        go_cut [57] (fun v57 wc => ∃ (kq : Nat) (x57_13 : Bool), v57 = .bool x57_13 ∧ Aside0 (rf_Hist.j2 kq x3_2 x57_13 l0_0 l0_1 ((rd_T86 l0_1 x3_2).f0) ((rd_T86 l0_1 x3_2).f1) ((rd_T86 l0_1 x3_2).f2) ((rd_T86 l0_1 x3_2).f3) = some r) ∧ Aside0 (kq ≤ k2) ∧ Aside0 (wc.heap[gb219]? = some (.cells #[(.slice A0_0 l0_0.length c0_0), (.slice (some ad221) l0_1.length c0_1)] 39 (0, 0))) ∧ Aside0 (wc.heap[gb222]? = some (.cells #[.int .i64 ((rd_T86 l0_1 x3_2).f0), .int .i64 ((rd_T86 l0_1 x3_2).f1), .int .i64 ((rd_T86 l0_1 x3_2).f2), .int .i64 ((rd_T86 l0_1 x3_2).f3)] 86 (0, 0))) ∧ Aside0 (Below w.heap.size w wc))
        case first =>
         have H := HC14.out; clear HC14
         by_cases c19 : ((rd_T86 l0_1 x3_2).f0) < 0
         ·rw [if_pos c19] at H; have c19b0 : decide (((rd_T86 l0_1 x3_2).f0) < 0) = true := decide_eq_true c19; clear c19
          (first | rw [c19b0] | (simp only [i64_w, i32_w]; rw [c19b0]) | skip)
          have H' := Aa H; clear H; have hnb20 := NB222_219.out; have hnc20 := NB219_222.out; have hcz21_0 : w16.cell? ⟨gb222, 0, none⟩ = some (.int .i64 0) := (Bc BK222.out 0).trans rfl; have hcz21_1 : w16.cell? ⟨gb222, 1, none⟩ = some (.int .i64 0) := (Bc BK222.out 1).trans rfl; have hcz21_2 : w16.cell? ⟨gb222, 2, none⟩ = some (.int .i64 0) := (Bc BK222.out 2).trans rfl; have hcz21_3 : w16.cell? ⟨gb222, 3, none⟩ = some (.int .i64 0) := (Bc BK222.out 3).trans rfl; have hfz21_0 := Bf BK222.out 0; have hfz21_1 := Bf BK222.out 1; have hfz21_2 := Bf BK222.out 2; have hfz21_3 := Bf BK222.out 3; go_wp2
          go_meet
          case rel => exact ⟨_, (true), (by first | rfl | (simp; done) | (simp [*]; done)), H', ⟨by have := HJ1.out; have := HK2.out; first | omega | exact Nat.le_refl _⟩, ⟨by (with_reducible repeat (first | refine Kn ?_ _ | refine Kw ?_ | refine Ka ?_ _)); refine blk_far ?_ NB219_222.out _; (with_reducible repeat (first | refine Kn ?_ _ | refine Kw ?_ | refine Ka ?_ _)); refine blk_far ?_ NB219_222.out _; (with_reducible repeat (first | refine Kn ?_ _ | refine Kw ?_ | refine Ka ?_ _)); refine blk_far ?_ NB219_222.out _; (with_reducible repeat (first | refine Kn ?_ _ | refine Kw ?_ | refine Ka ?_ _)); refine blk_far ?_ NB219_222.out _; (with_reducible repeat (first | refine Kn ?_ _ | refine Kw ?_ | refine Ka ?_ _)); exact BK219.out⟩, ⟨by (with_reducible repeat (first | refine Kn ?_ _ | refine Kw ?_ | refine Ka ?_ _)); refine blk_put (cs := #[.int .i64 ((rd_T86 l0_1 x3_2).f0), .int .i64 ((rd_T86 l0_1 x3_2).f1), .int .i64 ((rd_T86 l0_1 x3_2).f2), .int .i64 0]) ?_ 3 _ rfl; (with_reducible repeat (first | refine Kn ?_ _ | refine Kw ?_ | refine Ka ?_ _)); refine blk_put (cs := #[.int .i64 ((rd_T86 l0_1 x3_2).f0), .int .i64 ((rd_T86 l0_1 x3_2).f1), .int .i64 0, .int .i64 0]) ?_ 2 _ rfl; (with_reducible repeat (first | refine Kn ?_ _ | refine Kw ?_ | refine Ka ?_ _)); refine blk_put (cs := #[.int .i64 ((rd_T86 l0_1 x3_2).f0), .int .i64 0, .int .i64 0, .int .i64 0]) ?_ 1 _ rfl; (with_reducible repeat (first | refine Kn ?_ _ | refine Kw ?_ | refine Ka ?_ _)); refine blk_put (cs := #[.int .i64 0, .int .i64 0, .int .i64 0, .int .i64 0]) ?_ 0 _ rfl; (with_reducible repeat (first | refine Kn ?_ _ | refine Kw ?_ | refine Ka ?_ _)); exact BK222.out⟩, ⟨by repeat (first | (with_reducible first | exact HB.out | apply Ba | apply Pn | apply Dn | refine Bz ?_ GE219.out | refine Bz ?_ GE222.out) | exact HB.out)⟩⟩
         ·rw [if_neg c19] at H; have c19b0 : decide (((rd_T86 l0_1 x3_2).f0) < 0) = false := decide_eq_false c19; clear c19
          (first | rw [c19b0] | (simp only [i64_w, i32_w]; rw [c19b0]) | skip)
          by_cases c22 : ((rd_T86 l0_1 x3_2).f0) ≥ (l0_0.length : Int)
          ·rw [if_pos c22] at H; have c22b0 : decide ((l0_0.length : Int) ≤ ((rd_T86 l0_1 x3_2).f0)) = true := decide_eq_true c22; clear c22; have H' := Aa H; clear H; have hnb23 := NB222_219.out; have hnc23 := NB219_222.out; have hcz24_0 : w16.cell? ⟨gb222, 0, none⟩ = some (.int .i64 0) := (Bc BK222.out 0).trans rfl; have hcz24_1 : w16.cell? ⟨gb222, 1, none⟩ = some (.int .i64 0) := (Bc BK222.out 1).trans rfl; have hcz24_2 : w16.cell? ⟨gb222, 2, none⟩ = some (.int .i64 0) := (Bc BK222.out 2).trans rfl; have hcz24_3 : w16.cell? ⟨gb222, 3, none⟩ = some (.int .i64 0) := (Bc BK222.out 3).trans rfl; have hfz24_0 := Bf BK222.out 0; have hfz24_1 := Bf BK222.out 1; have hfz24_2 := Bf BK222.out 2; have hfz24_3 := Bf BK222.out 3; have hcz25_0 : w16.cell? ⟨gb219, 0, none⟩ = some (.slice A0_0 l0_0.length c0_0) := (Bc BK219.out 0).trans rfl; have hcz25_1 : w16.cell? ⟨gb219, 1, none⟩ = some (.slice (some ad221) l0_1.length c0_1) := (Bc BK219.out 1).trans rfl; have hfz25_0 := Bf BK219.out 0; have hfz25_1 := Bf BK219.out 1; go_wp2
           go_meet
           case rel => exact ⟨_, (true), (by first | rfl | (simp; done) | (simp [*]; done)), H', ⟨by have := HJ1.out; have := HK2.out; first | omega | exact Nat.le_refl _⟩, ⟨by (with_reducible repeat (first | refine Kn ?_ _ | refine Kw ?_ | refine Ka ?_ _)); refine blk_far ?_ NB219_222.out _; (with_reducible repeat (first | refine Kn ?_ _ | refine Kw ?_ | refine Ka ?_ _)); refine blk_far ?_ NB219_222.out _; (with_reducible repeat (first | refine Kn ?_ _ | refine Kw ?_ | refine Ka ?_ _)); refine blk_far ?_ NB219_222.out _; (with_reducible repeat (first | refine Kn ?_ _ | refine Kw ?_ | refine Ka ?_ _)); refine blk_far ?_ NB219_222.out _; (with_reducible repeat (first | refine Kn ?_ _ | refine Kw ?_ | refine Ka ?_ _)); exact BK219.out⟩, ⟨by (with_reducible repeat (first | refine Kn ?_ _ | refine Kw ?_ | refine Ka ?_ _)); refine blk_put (cs := #[.int .i64 ((rd_T86 l0_1 x3_2).f0), .int .i64 ((rd_T86 l0_1 x3_2).f1), .int .i64 ((rd_T86 l0_1 x3_2).f2), .int .i64 0]) ?_ 3 _ rfl; (with_reducible repeat (first | refine Kn ?_ _ | refine Kw ?_ | refine Ka ?_ _)); refine blk_put (cs := #[.int .i64 ((rd_T86 l0_1 x3_2).f0), .int .i64 ((rd_T86 l0_1 x3_2).f1), .int .i64 0, .int .i64 0]) ?_ 2 _ rfl; (with_reducible repeat (first | refine Kn ?_ _ | refine Kw ?_ | refine Ka ?_ _)); refine blk_put (cs := #[.int .i64 ((rd_T86 l0_1 x3_2).f0), .int .i64 0, .int .i64 0, .int .i64 0]) ?_ 1 _ rfl; (with_reducible repeat (first | refine Kn ?_ _ | refine Kw ?_ | refine Ka ?_ _)); refine blk_put (cs := #[.int .i64 0, .int .i64 0, .int .i64 0, .int .i64 0]) ?_ 0 _ rfl; (with_reducible repeat (first | refine Kn ?_ _ | refine Kw ?_ | refine Ka ?_ _)); exact BK222.out⟩, ⟨by repeat (first | (with_reducible first | exact HB.out | apply Ba | apply Pn | apply Dn | refine Bz ?_ GE219.out | refine Bz ?_ GE222.out) | exact HB.out)⟩⟩
          ·rw [if_neg c22] at H; have c22b0 : decide ((l0_0.length : Int) ≤ ((rd_T86 l0_1 x3_2).f0)) = false := decide_eq_false c22; clear c22
           by_cases c26 : ((rd_T86 l0_1 x3_2).f1) < 0
           ·rw [if_pos c26] at H; have c26b0 : decide (((rd_T86 l0_1 x3_2).f1) < 0) = true := decide_eq_true c26; clear c26; have H' := Aa H; clear H; have hnb27 := NB222_219.out; have hnc27 := NB219_222.out; have hcz28_0 : w16.cell? ⟨gb222, 0, none⟩ = some (.int .i64 0) := (Bc BK222.out 0).trans rfl; have hcz28_1 : w16.cell? ⟨gb222, 1, none⟩ = some (.int .i64 0) := (Bc BK222.out 1).trans rfl; have hcz28_2 : w16.cell? ⟨gb222, 2, none⟩ = some (.int .i64 0) := (Bc BK222.out 2).trans rfl; have hcz28_3 : w16.cell? ⟨gb222, 3, none⟩ = some (.int .i64 0) := (Bc BK222.out 3).trans rfl; have hfz28_0 := Bf BK222.out 0; have hfz28_1 := Bf BK222.out 1; have hfz28_2 := Bf BK222.out 2; have hfz28_3 := Bf BK222.out 3; have hcz29_0 : w16.cell? ⟨gb219, 0, none⟩ = some (.slice A0_0 l0_0.length c0_0) := (Bc BK219.out 0).trans rfl; have hcz29_1 : w16.cell? ⟨gb219, 1, none⟩ = some (.slice (some ad221) l0_1.length c0_1) := (Bc BK219.out 1).trans rfl; have hfz29_0 := Bf BK219.out 0; have hfz29_1 := Bf BK219.out 1; go_wp2
            go_meet
            case rel => exact ⟨_, (true), (by first | rfl | (simp; done) | (simp [*]; done)), H', ⟨by have := HJ1.out; have := HK2.out; first | omega | exact Nat.le_refl _⟩, ⟨by (with_reducible repeat (first | refine Kn ?_ _ | refine Kw ?_ | refine Ka ?_ _)); refine blk_far ?_ NB219_222.out _; (with_reducible repeat (first | refine Kn ?_ _ | refine Kw ?_ | refine Ka ?_ _)); refine blk_far ?_ NB219_222.out _; (with_reducible repeat (first | refine Kn ?_ _ | refine Kw ?_ | refine Ka ?_ _)); refine blk_far ?_ NB219_222.out _; (with_reducible repeat (first | refine Kn ?_ _ | refine Kw ?_ | refine Ka ?_ _)); refine blk_far ?_ NB219_222.out _; (with_reducible repeat (first | refine Kn ?_ _ | refine Kw ?_ | refine Ka ?_ _)); exact BK219.out⟩, ⟨by (with_reducible repeat (first | refine Kn ?_ _ | refine Kw ?_ | refine Ka ?_ _)); refine blk_put (cs := #[.int .i64 ((rd_T86 l0_1 x3_2).f0), .int .i64 ((rd_T86 l0_1 x3_2).f1), .int .i64 ((rd_T86 l0_1 x3_2).f2), .int .i64 0]) ?_ 3 _ rfl; (with_reducible repeat (first | refine Kn ?_ _ | refine Kw ?_ | refine Ka ?_ _)); refine blk_put (cs := #[.int .i64 ((rd_T86 l0_1 x3_2).f0), .int .i64 ((rd_T86 l0_1 x3_2).f1), .int .i64 0, .int .i64 0]) ?_ 2 _ rfl; (with_reducible repeat (first | refine Kn ?_ _ | refine Kw ?_ | refine Ka ?_ _)); refine blk_put (cs := #[.int .i64 ((rd_T86 l0_1 x3_2).f0), .int .i64 0, .int .i64 0, .int .i64 0]) ?_ 1 _ rfl; (with_reducible repeat (first | refine Kn ?_ _ | refine Kw ?_ | refine Ka ?_ _)); refine blk_put (cs := #[.int .i64 0, .int .i64 0, .int .i64 0, .int .i64 0]) ?_ 0 _ rfl; (with_reducible repeat (first | refine Kn ?_ _ | refine Kw ?_ | refine Ka ?_ _)); exact BK222.out⟩, ⟨by repeat (first | (with_reducible first | exact HB.out | apply Ba | apply Pn | apply Dn | refine Bz ?_ GE219.out | refine Bz ?_ GE222.out) | exact HB.out)⟩⟩
           ·rw [if_neg c26] at H; have c26b0 : decide (((rd_T86 l0_1 x3_2).f1) < 0) = false := decide_eq_false c26; clear c26
            by_cases c30 : ((rd_T86 l0_1 x3_2).f1) ≥ (l0_0.length : Int)
            ·rw [if_pos c30] at H; have c30b0 : decide ((l0_0.length : Int) ≤ ((rd_T86 l0_1 x3_2).f1)) = true := decide_eq_true c30; clear c30; have H' := Aa H; clear H; have hnb31 := NB222_219.out; have hnc31 := NB219_222.out; have hcz32_0 : w16.cell? ⟨gb222, 0, none⟩ = some (.int .i64 0) := (Bc BK222.out 0).trans rfl; have hcz32_1 : w16.cell? ⟨gb222, 1, none⟩ = some (.int .i64 0) := (Bc BK222.out 1).trans rfl; have hcz32_2 : w16.cell? ⟨gb222, 2, none⟩ = some (.int .i64 0) := (Bc BK222.out 2).trans rfl; have hcz32_3 : w16.cell? ⟨gb222, 3, none⟩ = some (.int .i64 0) := (Bc BK222.out 3).trans rfl; have hfz32_0 := Bf BK222.out 0; have hfz32_1 := Bf BK222.out 1; have hfz32_2 := Bf BK222.out 2; have hfz32_3 := Bf BK222.out 3; have hcz33_0 : w16.cell? ⟨gb219, 0, none⟩ = some (.slice A0_0 l0_0.length c0_0) := (Bc BK219.out 0).trans rfl; have hcz33_1 : w16.cell? ⟨gb219, 1, none⟩ = some (.slice (some ad221) l0_1.length c0_1) := (Bc BK219.out 1).trans rfl; have hfz33_0 := Bf BK219.out 0; have hfz33_1 := Bf BK219.out 1; go_wp2
             go_meet
             case rel => exact ⟨_, (true), (by first | rfl | (simp; done) | (simp [*]; done)), H', ⟨by have := HJ1.out; have := HK2.out; first | omega | exact Nat.le_refl _⟩, ⟨by (with_reducible repeat (first | refine Kn ?_ _ | refine Kw ?_ | refine Ka ?_ _)); refine blk_far ?_ NB219_222.out _; (with_reducible repeat (first | refine Kn ?_ _ | refine Kw ?_ | refine Ka ?_ _)); refine blk_far ?_ NB219_222.out _; (with_reducible repeat (first | refine Kn ?_ _ | refine Kw ?_ | refine Ka ?_ _)); refine blk_far ?_ NB219_222.out _; (with_reducible repeat (first | refine Kn ?_ _ | refine Kw ?_ | refine Ka ?_ _)); refine blk_far ?_ NB219_222.out _; (with_reducible repeat (first | refine Kn ?_ _ | refine Kw ?_ | refine Ka ?_ _)); exact BK219.out⟩, ⟨by (with_reducible repeat (first | refine Kn ?_ _ | refine Kw ?_ | refine Ka ?_ _)); refine blk_put (cs := #[.int .i64 ((rd_T86 l0_1 x3_2).f0), .int .i64 ((rd_T86 l0_1 x3_2).f1), .int .i64 ((rd_T86 l0_1 x3_2).f2), .int .i64 0]) ?_ 3 _ rfl; (with_reducible repeat (first | refine Kn ?_ _ | refine Kw ?_ | refine Ka ?_ _)); refine blk_put (cs := #[.int .i64 ((rd_T86 l0_1 x3_2).f0), .int .i64 ((rd_T86 l0_1 x3_2).f1), .int .i64 0, .int .i64 0]) ?_ 2 _ rfl; (with_reducible repeat (first | refine Kn ?_ _ | refine Kw ?_ | refine Ka ?_ _)); refine blk_put (cs := #[.int .i64 ((rd_T86 l0_1 x3_2).f0), .int .i64 0, .int .i64 0, .int .i64 0]) ?_ 1 _ rfl; (with_reducible repeat (first | refine Kn ?_ _ | refine Kw ?_ | refine Ka ?_ _)); refine blk_put (cs := #[.int .i64 0, .int .i64 0, .int .i64 0, .int .i64 0]) ?_ 0 _ rfl; (with_reducible repeat (first | refine Kn ?_ _ | refine Kw ?_ | refine Ka ?_ _)); exact BK222.out⟩, ⟨by repeat (first | (with_reducible first | exact HB.out | apply Ba | apply Pn | apply Dn | refine Bz ?_ GE219.out | refine Bz ?_ GE222.out) | exact HB.out)⟩⟩
            ·rw [if_neg c30] at H; have c30b0 : decide ((l0_0.length : Int) ≤ ((rd_T86 l0_1 x3_2).f1)) = false := decide_eq_false c30; clear c30; have H' := Aa H; clear H; have hnb34 := NB222_219.out; have hnc34 := NB219_222.out; have hcz35_0 : w16.cell? ⟨gb222, 0, none⟩ = some (.int .i64 0) := (Bc BK222.out 0).trans rfl; have hcz35_1 : w16.cell? ⟨gb222, 1, none⟩ = some (.int .i64 0) := (Bc BK222.out 1).trans rfl; have hcz35_2 : w16.cell? ⟨gb222, 2, none⟩ = some (.int .i64 0) := (Bc BK222.out 2).trans rfl; have hcz35_3 : w16.cell? ⟨gb222, 3, none⟩ = some (.int .i64 0) := (Bc BK222.out 3).trans rfl; have hfz35_0 := Bf BK222.out 0; have hfz35_1 := Bf BK222.out 1; have hfz35_2 := Bf BK222.out 2; have hfz35_3 := Bf BK222.out 3; have hcz36_0 : w16.cell? ⟨gb219, 0, none⟩ = some (.slice A0_0 l0_0.length c0_0) := (Bc BK219.out 0).trans rfl; have hcz36_1 : w16.cell? ⟨gb219, 1, none⟩ = some (.slice (some ad221) l0_1.length c0_1) := (Bc BK219.out 1).trans rfl; have hfz36_0 := Bf BK219.out 0; have hfz36_1 := Bf BK219.out 1; go_wp2
             go_meet
             case rel => exact ⟨_, ((((rd_T86 l0_1 x3_2).f0) == ((rd_T86 l0_1 x3_2).f1))), (by first | rfl | (simp; done) | (simp [*]; done)), H', ⟨by have := HJ1.out; have := HK2.out; first | omega | exact Nat.le_refl _⟩, ⟨by (with_reducible repeat (first | refine Kn ?_ _ | refine Kw ?_ | refine Ka ?_ _)); refine blk_far ?_ NB219_222.out _; (with_reducible repeat (first | refine Kn ?_ _ | refine Kw ?_ | refine Ka ?_ _)); refine blk_far ?_ NB219_222.out _; (with_reducible repeat (first | refine Kn ?_ _ | refine Kw ?_ | refine Ka ?_ _)); refine blk_far ?_ NB219_222.out _; (with_reducible repeat (first | refine Kn ?_ _ | refine Kw ?_ | refine Ka ?_ _)); refine blk_far ?_ NB219_222.out _; (with_reducible repeat (first | refine Kn ?_ _ | refine Kw ?_ | refine Ka ?_ _)); exact BK219.out⟩, ⟨by (with_reducible repeat (first | refine Kn ?_ _ | refine Kw ?_ | refine Ka ?_ _)); refine blk_put (cs := #[.int .i64 ((rd_T86 l0_1 x3_2).f0), .int .i64 ((rd_T86 l0_1 x3_2).f1), .int .i64 ((rd_T86 l0_1 x3_2).f2), .int .i64 0]) ?_ 3 _ rfl; (with_reducible repeat (first | refine Kn ?_ _ | refine Kw ?_ | refine Ka ?_ _)); refine blk_put (cs := #[.int .i64 ((rd_T86 l0_1 x3_2).f0), .int .i64 ((rd_T86 l0_1 x3_2).f1), .int .i64 0, .int .i64 0]) ?_ 2 _ rfl; (with_reducible repeat (first | refine Kn ?_ _ | refine Kw ?_ | refine Ka ?_ _)); refine blk_put (cs := #[.int .i64 ((rd_T86 l0_1 x3_2).f0), .int .i64 0, .int .i64 0, .int .i64 0]) ?_ 1 _ rfl; (with_reducible repeat (first | refine Kn ?_ _ | refine Kw ?_ | refine Ka ?_ _)); refine blk_put (cs := #[.int .i64 0, .int .i64 0, .int .i64 0, .int .i64 0]) ?_ 0 _ rfl; (with_reducible repeat (first | refine Kn ?_ _ | refine Kw ?_ | refine Ka ?_ _)); exact BK222.out⟩, ⟨by repeat (first | (with_reducible first | exact HB.out | apply Ba | apply Pn | apply Dn | refine Bz ?_ GE219.out | refine Bz ?_ GE222.out) | exact HB.out)⟩⟩
        case rest =>
         clear HC14; try clear c1
         try clear c2
         try clear p2
         try clear q2
         try clear hx2
         try clear c3
         try clear c4
         try clear c5
         try clear c11
         try clear c12
         try clear c12b0
         try clear c13
         try clear c13b0
         try clear c17
         try clear c19
         try clear c19b0
         try clear c20
         try clear c22
         try clear c22b0
         try clear p22
         try clear q22
         try clear hx22
         try clear c23
         try clear c26
         try clear c26b0
         try clear c27
         try clear c30
         try clear c30b0
         try clear c31
         try clear c34
         try clear hcz15_0
         try clear hcz15_1
         try clear hcz18_0
         try clear hcz18_1
         try clear hcz18_2
         try clear hcz18_3
         try clear hcz21_0
         try clear hcz21_1
         try clear hcz21_2
         try clear hcz21_3
         try clear hcz24_0
         try clear hcz24_1
         try clear hcz24_2
         try clear hcz24_3
         try clear hcz25_0
         try clear hcz25_1
         try clear hcz28_0
         try clear hcz28_1
         try clear hcz28_2
         try clear hcz28_3
         try clear hcz29_0
         try clear hcz29_1
         try clear hcz32_0
         try clear hcz32_1
         try clear hcz32_2
         try clear hcz32_3
         try clear hcz33_0
         try clear hcz33_1
         try clear hcz35_0
         try clear hcz35_1
         try clear hcz35_2
         try clear hcz35_3
         try clear hcz36_0
         try clear hcz36_1
         try clear hcz6_0
         try clear hcz6_1
         try clear hcz8_0
         try clear hcz8_1
         try clear hcz9_0
         try clear hcz9_1
         try clear hfz15_0
         try clear hfz15_1
         try clear hfz18_0
         try clear hfz18_1
         try clear hfz18_2
         try clear hfz18_3
         try clear hfz21_0
         try clear hfz21_1
         try clear hfz21_2
         try clear hfz21_3
         try clear hfz24_0
         try clear hfz24_1
         try clear hfz24_2
         try clear hfz24_3
         try clear hfz25_0
         try clear hfz25_1
         try clear hfz28_0
         try clear hfz28_1
         try clear hfz28_2
         try clear hfz28_3
         try clear hfz29_0
         try clear hfz29_1
         try clear hfz32_0
         try clear hfz32_1
         try clear hfz32_2
         try clear hfz32_3
         try clear hfz33_0
         try clear hfz33_1
         try clear hfz35_0
         try clear hfz35_1
         try clear hfz35_2
         try clear hfz35_3
         try clear hfz36_0
         try clear hfz36_1
         try clear hfz6_0
         try clear hfz6_1
         try clear hfz8_0
         try clear hfz8_1
         try clear hfz9_0
         try clear hfz9_1
         try clear hx221_0
         try clear hx221_1
         try clear hx221_2
         try clear hx221_3
         try clear p2
         try clear p221
         try clear q221
         obtain ⟨kq, x57_13, rfl, HA, HJ13, BK219, BK222, HB⟩ := hcut
         cases kq with
         | zero => exact absurd HA.out (by simp [rf_Hist.j2])
         | succ kj13 =>
          have H := HA.out; clear HA; simp only [rf_Hist.j2] at H
          by_cases c37 : x57_13 = true
          ·subst c37
           have H1 : (some false) = some r := by rw [if_pos rfl] at H; exact H
           clear H; have H := H1; clear H1; obtain rfl := Option.some.inj H; go_wp2; go_ret; exact ⟨by first | rfl | (simp [errW_none, errW_some] <;> rfl) | (simp [*, errW_none, errW_some] <;> rfl), by repeat (first | (with_reducible first | exact HB.out | apply Ba | apply Pn | apply Dn | refine Bz ?_ GE219.out | refine Bz ?_ GE222.out) | exact HB.out)⟩
          ·replace c37 := Bool.eq_false_iff.mpr c37; subst c37
           have H1 : (if ((rd_T86 l0_1 x3_2).f2) > ((rd_T86 l0_1 x3_2).f3) then (some false) else (if ((rd_T86 l0_1 x3_2).f2) < (-2000000) then (some false) else (if ((rd_T86 l0_1 x3_2).f3) > 2000000 then (some false) else (rf_Hist.l0 kj13 (wrap64 (x3_2 + 1)) l0_0 l0_1)))) = some r := by rw [if_neg (show ¬ (false = true) by decide)] at H; exact H
           clear H; have H := H1; clear H1
           by_cases c38 : ((rd_T86 l0_1 x3_2).f2) > ((rd_T86 l0_1 x3_2).f3)
           ·rw [if_pos c38] at H; have c38b0 : decide (((rd_T86 l0_1 x3_2).f3) < ((rd_T86 l0_1 x3_2).f2)) = true := decide_eq_true c38; clear c38; obtain rfl := Option.some.inj H; have hnb39 := NB222_219.out; have hnc39 := NB219_222.out; have hcz40_0 : wc.cell? ⟨gb222, 0, none⟩ = some (.int .i64 ((rd_T86 l0_1 x3_2).f0)) := (Bc BK222.out 0).trans rfl; have hcz40_1 : wc.cell? ⟨gb222, 1, none⟩ = some (.int .i64 ((rd_T86 l0_1 x3_2).f1)) := (Bc BK222.out 1).trans rfl; have hcz40_2 : wc.cell? ⟨gb222, 2, none⟩ = some (.int .i64 ((rd_T86 l0_1 x3_2).f2)) := (Bc BK222.out 2).trans rfl; have hcz40_3 : wc.cell? ⟨gb222, 3, none⟩ = some (.int .i64 ((rd_T86 l0_1 x3_2).f3)) := (Bc BK222.out 3).trans rfl; have hfz40_0 := Bf BK222.out 0; have hfz40_1 := Bf BK222.out 1; have hfz40_2 := Bf BK222.out 2; have hfz40_3 := Bf BK222.out 3; go_wp2; go_ret; exact ⟨by first | rfl | (simp [errW_none, errW_some] <;> rfl) | (simp [*, errW_none, errW_some] <;> rfl), by repeat (first | (with_reducible first | exact HB.out | apply Ba | apply Pn | apply Dn | refine Bz ?_ GE219.out | refine Bz ?_ GE222.out) | exact HB.out)⟩
           ·rw [if_neg c38] at H; have c38b0 : decide (((rd_T86 l0_1 x3_2).f3) < ((rd_T86 l0_1 x3_2).f2)) = false := decide_eq_false c38; clear c38
            by_cases c41 : ((rd_T86 l0_1 x3_2).f2) < (-2000000)
            ·rw [if_pos c41] at H; have c41b0 : decide (((rd_T86 l0_1 x3_2).f2) < (-2000000)) = true := decide_eq_true c41; clear c41; obtain rfl := Option.some.inj H; have hnb42 := NB222_219.out; have hnc42 := NB219_222.out; have hcz43_0 : wc.cell? ⟨gb222, 0, none⟩ = some (.int .i64 ((rd_T86 l0_1 x3_2).f0)) := (Bc BK222.out 0).trans rfl; have hcz43_1 : wc.cell? ⟨gb222, 1, none⟩ = some (.int .i64 ((rd_T86 l0_1 x3_2).f1)) := (Bc BK222.out 1).trans rfl; have hcz43_2 : wc.cell? ⟨gb222, 2, none⟩ = some (.int .i64 ((rd_T86 l0_1 x3_2).f2)) := (Bc BK222.out 2).trans rfl; have hcz43_3 : wc.cell? ⟨gb222, 3, none⟩ = some (.int .i64 ((rd_T86 l0_1 x3_2).f3)) := (Bc BK222.out 3).trans rfl; have hfz43_0 := Bf BK222.out 0; have hfz43_1 := Bf BK222.out 1; have hfz43_2 := Bf BK222.out 2; have hfz43_3 := Bf BK222.out 3; go_wp2; go_ret; exact ⟨by first | rfl | (simp [errW_none, errW_some] <;> rfl) | (simp [*, errW_none, errW_some] <;> rfl), by repeat (first | (with_reducible first | exact HB.out | apply Ba | apply Pn | apply Dn | refine Bz ?_ GE219.out | refine Bz ?_ GE222.out) | exact HB.out)⟩
            ·rw [if_neg c41] at H; have c41b0 : decide (((rd_T86 l0_1 x3_2).f2) < (-2000000)) = false := decide_eq_false c41; clear c41
             by_cases c44 : ((rd_T86 l0_1 x3_2).f3) > 2000000
             ·rw [if_pos c44] at H; have c44b0 : decide (2000000 < ((rd_T86 l0_1 x3_2).f3)) = true := decide_eq_true c44; clear c44; obtain rfl := Option.some.inj H; have hnb45 := NB222_219.out; have hnc45 := NB219_222.out; have hcz46_0 : wc.cell? ⟨gb222, 0, none⟩ = some (.int .i64 ((rd_T86 l0_1 x3_2).f0)) := (Bc BK222.out 0).trans rfl; have hcz46_1 : wc.cell? ⟨gb222, 1, none⟩ = some (.int .i64 ((rd_T86 l0_1 x3_2).f1)) := (Bc BK222.out 1).trans rfl; have hcz46_2 : wc.cell? ⟨gb222, 2, none⟩ = some (.int .i64 ((rd_T86 l0_1 x3_2).f2)) := (Bc BK222.out 2).trans rfl; have hcz46_3 : wc.cell? ⟨gb222, 3, none⟩ = some (.int .i64 ((rd_T86 l0_1 x3_2).f3)) := (Bc BK222.out 3).trans rfl; have hfz46_0 := Bf BK222.out 0; have hfz46_1 := Bf BK222.out 1; have hfz46_2 := Bf BK222.out 2; have hfz46_3 := Bf BK222.out 3; go_wp2; go_ret; exact ⟨by first | rfl | (simp [errW_none, errW_some] <;> rfl) | (simp [*, errW_none, errW_some] <;> rfl), by repeat (first | (with_reducible first | exact HB.out | apply Ba | apply Pn | apply Dn | refine Bz ?_ GE219.out | refine Bz ?_ GE222.out) | exact HB.out)⟩
             ·rw [if_neg c44] at H; have c44b0 : decide (2000000 < ((rd_T86 l0_1 x3_2).f3)) = false := decide_eq_false c44; clear c44; have H' := Aa H; clear H; have hnb47 := NB222_219.out; have hnc47 := NB219_222.out; have hcz48_0 : wc.cell? ⟨gb222, 0, none⟩ = some (.int .i64 ((rd_T86 l0_1 x3_2).f0)) := (Bc BK222.out 0).trans rfl; have hcz48_1 : wc.cell? ⟨gb222, 1, none⟩ = some (.int .i64 ((rd_T86 l0_1 x3_2).f1)) := (Bc BK222.out 1).trans rfl; have hcz48_2 : wc.cell? ⟨gb222, 2, none⟩ = some (.int .i64 ((rd_T86 l0_1 x3_2).f2)) := (Bc BK222.out 2).trans rfl; have hcz48_3 : wc.cell? ⟨gb222, 3, none⟩ = some (.int .i64 ((rd_T86 l0_1 x3_2).f3)) := (Bc BK222.out 3).trans rfl; have hfz48_0 := Bf BK222.out 0; have hfz48_1 := Bf BK222.out 1; have hfz48_2 := Bf BK222.out 2; have hfz48_3 := Bf BK222.out 3; go_wp2
              go_roundg kj13
              case measure => have := HJ1.out; have := HK2.out; have := HJ13.out; omega
              case rel => exact ⟨(wrap64 (x3_2 + 1)), (by first | rfl | (simp; done) | (simp [*]; done)), H', ⟨by have := HJ1.out; have := HK2.out; have := HJ13.out; omega⟩, ⟨by (with_reducible repeat (first | refine Kn ?_ _ | refine Kw ?_ | refine Ka ?_ _)); exact BK219.out⟩, ⟨by repeat (first | (with_reducible first | exact HB.out | apply Ba | apply Pn | apply Dn | refine Bz ?_ GE219.out | refine Bz ?_ GE222.out) | exact HB.out)⟩⟩
       ·rw [if_neg c13] at H; exact absurd H (by simp)
      ·rw [if_neg c12] at H; have c12b0 : decide (x3_2 < (l0_1.length : Int)) = false := decide_eq_false c12; clear c12; obtain rfl := Option.some.inj H; have hcz49_0 : wr.cell? ⟨gb219, 0, none⟩ = some (.slice A0_0 l0_0.length c0_0) := (Bc BK219.out 0).trans rfl; have hcz49_1 : wr.cell? ⟨gb219, 1, none⟩ = some (.slice A0_1 l0_1.length c0_1) := (Bc BK219.out 1).trans rfl; have hfz49_0 := Bf BK219.out 0; have hfz49_1 := Bf BK219.out 1; go_wp2; go_ret; exact ⟨by first | rfl | (simp [errW_none, errW_some] <;> rfl) | (simp [*, errW_none, errW_some] <;> rfl), by repeat (first | (with_reducible first | exact HB.out | apply Ba | apply Pn | apply Dn | refine Bz ?_ GE219.out) | exact HB.out)⟩
end
section
attribute [local go_sem] max2_int min2_int max_two min_two
end
section
attribute [local go_sem] max2_int min2_int max_two min_two
def slices_Index_int_int.l0 : Nat → List Int → Int → Int → Int → Option (Int)
 | 0, _, _, _, _ => none
 | k + 1, x0, x1, x7, x8 => if x8 < x7 then (if 0 ≤ x8 then (if x8 < (x0.length : Int) then (if x1 = (rd x0 x8) then (some x8) else (slices_Index_int_int.l0 k x0 x1 x7 (wrap64 (x8 + 1)))) else (none)) else (none)) else (some (-1))
def slices_Index_int_int.f (k : Nat) (l0 : List Int) (a1 : Int) : Option (Int) := slices_Index_int_int.l0 k l0 a1 (l0.length : Int) 0
set_option maxHeartbeats 8000000 in
set_option maxRecDepth 100000 in
theorem slices_Index_int_int.calls (k : Nat) (A0 : Option Addr) (c0 : Nat) (l0 : List Int) (a1 : Int) (r : Int) (w : World) (hr0 : Kd.C (Kd.int .i64) w A0 l0.length l0) (hc0 : l0.length ≤ c0) (h : slices_Index_int_int.f k l0 a1 = some r) :
  Calls Try.prog 63 #[.slice A0 l0.length c0, .int .i64 a1] w fun e w' => e = .returned (.int .i64 r) ∧ Drawn0 w w' := by
 have HR0 := Aa hr0; have HC0 := Aa hc0; clear hr0 hc0; have H : (slices_Index_int_int.l0 k l0 a1 (l0.length : Int) 0) = some r := h; clear h; have H' := Aa H; clear H
 go_enter Try.func63, Try.ntmps63
 go_wp2
 go_loopg [8] k (fun kq v8 w' => ∃ (x8_1 : Int), v8 = .int .i64 x8_1 ∧ Aside0 (slices_Index_int_int.l0 kq l0 a1 (l0.length : Int) x8_1 = some r) ∧ Aside0 (kq ≤ k) ∧ Drawn0 w w')
 case atStart => exact ⟨(0), (by first | rfl | (simp; done) | (simp [*]; done)), H', ⟨Nat.le_refl _⟩, by repeat (first | exact Drawn0.refl _ | apply Drawn0.step)⟩
 case round =>
  clear H'; try clear p2
  obtain ⟨x8_1, rfl, HA, HK1, ⟨m1, rfl⟩⟩ := hrel
  cases gk with
  | zero => exact absurd HA.out (by simp [slices_Index_int_int.l0])
  | succ k1 =>
   have H := HA.out; clear HA; simp only [slices_Index_int_int.l0] at H
   by_cases c3 : x8_1 < (l0.length : Int)
   ·rw [if_pos c3] at H; have c3b0 : decide (x8_1 < (l0.length : Int)) = true := decide_eq_true c3; clear c3
    by_cases c4 : 0 ≤ x8_1
    ·rw [if_pos c4] at H; have c4b0 : decide (0 ≤ x8_1) = true := decide_eq_true c4; clear c4
     by_cases c5 : x8_1 < (l0.length : Int)
     ·rw [if_pos c5] at H; have c5b0 : decide (x8_1 < (l0.length : Int)) = true := decide_eq_true c5; clear c5
      by_cases c6 : a1 = (rd l0 x8_1)
      ·rw [if_pos c6] at H; have c6b0 : (a1 == (rd l0 x8_1)) = true := beq_iff_eq.mpr c6; have c6b1 : (a1 != (rd l0 x8_1)) = false := bne_eq_false_iff_eq.mpr c6; clear c6; obtain rfl := Option.some.inj H; have p821 : 0 ≤ (x8_1 : Int) := Od (by first | (with_reducible assumption) | assumption); have q821 : x8_1 < (l0.length : Int) := Od (by first | (with_reducible assumption) | assumption); obtain ⟨ad821, e821, hx821_0⟩ := Kd.at_int HR0.out x8_1 p821 q821; cases e821; replace p821 := eq_true p821; replace q821 := eq_true q821; go_wp2; go_ret; exact ⟨by first | rfl | (simp; done) | (simp [*]; done), by repeat (first | exact Drawn0.refl _ | apply Drawn0.step)⟩
      ·rw [if_neg c6] at H; have c6b0 : (a1 == (rd l0 x8_1)) = false := beq_eq_false_iff_ne.mpr c6; have c6b1 : (a1 != (rd l0 x8_1)) = true := bne_iff_ne.mpr c6; have H' := Aa H; clear H; have p821 : 0 ≤ (x8_1 : Int) := Od (by first | (with_reducible assumption) | assumption); have q821 : x8_1 < (l0.length : Int) := Od (by first | (with_reducible assumption) | assumption); obtain ⟨ad821, e821, hx821_0⟩ := Kd.at_int HR0.out x8_1 p821 q821; cases e821; replace p821 := eq_true p821; replace q821 := eq_true q821; go_wp2
       go_roundg k1
       case measure => have := HK1.out; omega
       case rel => exact ⟨(wrap64 (x8_1 + 1)), (by first | rfl | (simp; done) | (simp [*]; done)), H', ⟨by have := HK1.out; omega⟩, by repeat (first | exact Drawn0.refl _ | apply Drawn0.step)⟩
     ·rw [if_neg c5] at H; exact absurd H (by simp)
    ·rw [if_neg c4] at H; exact absurd H (by simp)
   ·rw [if_neg c3] at H; have c3b0 : decide (x8_1 < (l0.length : Int)) = false := decide_eq_false c3; clear c3; obtain rfl := Option.some.inj H; go_wp2; go_ret; exact ⟨by first | rfl | (simp; done) | (simp [*]; done), by repeat (first | exact Drawn0.refl _ | apply Drawn0.step)⟩
end
section
attribute [local go_sem] max2_int min2_int max_two min_two
def rf_IsOrder.l0 : Nat → List Int → Int → List Bool → Int → Option (Bool)
 | 0, _, _, _, _ => none
 | k + 1, x0, x1, x5, x6 => if x6 < x1 then (if 0 ≤ x6 then (if x6 < (x0.length : Int) then (if (rd x0 x6) < 0 then (some false) else (if (rd x0 x6) ≥ x1 then (some false) else (if 0 ≤ (rd x0 x6) then (if (rd x0 x6) < (x5.length : Int) then (if rdOf false x5 (rd x0 x6) = true then (some false) else (rf_IsOrder.l0 k x0 x1 (x5.set ((rd x0 x6) : Int).toNat true) (wrap64 (x6 + 1)))) else (none)) else (none)))) else (none)) else (none)) else (some true)
def rf_IsOrder.f (k : Nat) (l0 : List Int) (a1 : Int) : Option (Bool) := if (l0.length : Int) = a1 then (if 0 ≤ a1 then (if (a1 : Int).toNat ≤ 281474976710656 then (rf_IsOrder.l0 k l0 a1 (List.replicate (a1 : Int).toNat false) 0) else (none)) else (none)) else (some false)
set_option maxHeartbeats 8000000 in
set_option maxRecDepth 100000 in
theorem rf_IsOrder.calls (k : Nat) (A0 : Option Addr) (c0 : Nat) (l0 : List Int) (a1 : Int) (r : Bool) (w : World) (hr0 : Kd.C (Kd.int .i64) w A0 l0.length l0) (hc0 : l0.length ≤ c0) (h : rf_IsOrder.f k l0 a1 = some r) :
  Calls Try.prog 65 #[.slice A0 l0.length c0, .int .i64 a1] w fun e w' => e = .returned (.bool r) ∧ Below w.heap.size w w' := by
 have HR0 := Aa hr0; have HC0 := Aa hc0; clear hr0 hc0; have HB := Aa (Below.refl w.heap.size w); have H : (if (l0.length : Int) = a1 then (if 0 ≤ a1 then (if (a1 : Int).toNat ≤ 281474976710656 then (rf_IsOrder.l0 k l0 a1 (List.replicate (a1 : Int).toNat false) 0) else (none)) else (none)) else (some false)) = some r := h; clear h
 by_cases c3 : (l0.length : Int) = a1
 ·rw [if_pos c3] at H; have c3b0 : ((l0.length : Int) == a1) = true := beq_iff_eq.mpr c3; have c3b1 : ((l0.length : Int) != a1) = false := bne_eq_false_iff_eq.mpr c3; clear c3
  by_cases c4 : 0 ≤ a1
  ·rw [if_pos c4] at H; have c4b0 := eq_true c4; have c4b1 : decide (0 ≤ a1) = true := decide_eq_true c4; clear c4
   by_cases c5 : (a1 : Int).toNat ≤ 281474976710656
   ·rw [if_pos c5] at H; have c5b0 := eq_true c5; have c5b1 : decide ((a1 : Int).toNat ≤ 281474976710656) = true := decide_eq_true c5; clear c5
    obtain ⟨y822, hy822⟩ : ∃ y_ : List Bool, y_ = (List.replicate (a1 : Int).toNat false) := ⟨_, rfl⟩
    replace H : (rf_IsOrder.l0 k l0 a1 y822 0) = some r := by first | (rw [hy822]; with_reducible exact H) | (have H2_ := (Option.bind_some _ _).symm.trans H; rw [hy822]; with_reducible exact H2_) | (have H2_ := (Option.bind_some _ _).symm.trans H; with_reducible exact H2_) | with_reducible exact H | (rw [hy822]; exact H) | exact H
    have Ny822 := Aa hy822; clear hy822; have H' := Aa H; clear H
    go_enter Try.func65, Try.ntmps65
    go_wp2_with (first | ((with_reducible refine gate_dst (N := 12) rfl ?_); refine Kd.R_make Kd.bool _ 4 rfl (N := 12) rfl 139 _ _ rfl a1 rfl rfl Try.underlying139 (.bool false) 1 info4 rfl (by decide) (by omega) false (ok := fun _ => True) (okp := fun _ => True) rfl (fun _ hk => hk) trivial (Od (by first | (with_reducible assumption) | assumption)) (Nat.le_trans (Nat.mul_le_mul_right _ (Od (by first | (with_reducible assumption) | assumption) : a1.toNat ≤ 281474976710656)) (by omega)) (Below.refl _ _) (Nat.le_refl _) ?_; intro v823 w6 ho7 hb hg_ hnew_; clear hg_ hnew_; (first | rw [← Ny822.out] at ho7 | (simp only [Int.reduceToNat] at ho7; rw [← Ny822.out] at ho7)); have n0_ := Aa (Kd.R_lower ho7 (below_size (by repeat (first | (with_reducible first | exact HB.out | apply Ba | apply Pn | apply Dn) | exact HB.out)))); have n1_ := Aa (Bp (by repeat (first | (with_reducible first | exact HB.out | apply Ba | apply Pn | apply Dn) | exact HB.out)) hb); clear HB; have HO824 := n0_; have HB := n1_; clear n0_ n1_; clear hb ho7))
    go_loopg [6] k (fun kq v6 w' => ∃ (x5_1 : List Bool) (x6_1 : Int), v6 = .int .i64 x6_1 ∧ Aside0 (rf_IsOrder.l0 kq l0 a1 x5_1 x6_1 = some r) ∧ Aside0 (kq ≤ k) ∧ Aside0 (Kd.R Kd.bool 4 w' w.heap.size (fun _ => True) v823 x5_1) ∧ Aside0 (Below w.heap.size w w'))
    case atStart => exact ⟨(y822), (0), (by first | rfl | (simp; done) | (simp [*]; done)), H', ⟨Nat.le_refl _⟩, ⟨by (with_reducible repeat (first | apply Kd.R_alloc | apply Kd.R_drewN | apply Kd.R_drew)); exact HO824.out⟩, ⟨by repeat (first | (with_reducible first | exact HB.out | apply Ba | apply Pn | apply Dn) | exact HB.out)⟩⟩
    case round =>
     clear H'; try clear p2
     try clear c3
     try clear c3b0
     try clear c3b1
     try clear c4
     try clear c4b0
     try clear c4b1
     try clear c5
     try clear c5b0
     try clear c5b1
     try clear c6
     obtain ⟨x5_1, x6_1, rfl, HA, HK1, HO_5, HB⟩ := hrel
     cases gk with
     | zero => exact absurd HA.out (by simp [rf_IsOrder.l0])
     | succ k1 =>
      have H := HA.out; clear HA; simp only [rf_IsOrder.l0] at H
      by_cases c8 : x6_1 < a1
      ·rw [if_pos c8] at H; have c8b0 : decide (x6_1 < a1) = true := decide_eq_true c8; clear c8
       by_cases c9 : 0 ≤ x6_1
       ·rw [if_pos c9] at H; have c9b0 : decide (0 ≤ x6_1) = true := decide_eq_true c9; clear c9
        by_cases c10 : x6_1 < (l0.length : Int)
        ·rw [if_pos c10] at H; have c10b0 : decide (x6_1 < (l0.length : Int)) = true := decide_eq_true c10; clear c10
         by_cases c11 : (rd l0 x6_1) < 0
         ·rw [if_pos c11] at H; have c11b0 : decide ((rd l0 x6_1) < 0) = true := decide_eq_true c11; clear c11; obtain rfl := Option.some.inj H; have p825 : 0 ≤ (x6_1 : Int) := Od (by first | (with_reducible assumption) | assumption); have q825 : x6_1 < (l0.length : Int) := Od (by first | (with_reducible assumption) | assumption); obtain ⟨ad825, e825, hx825_0⟩ := Kd.at_int HR0.out x6_1 p825 q825; cases e825; replace hx825_0 := (HB.out.cell (Wb w _ hx825_0)).trans hx825_0; replace p825 := eq_true p825; replace q825 := eq_true q825; go_wp2; go_ret; exact ⟨by first | rfl | (simp [errW_none, errW_some] <;> rfl) | (simp [*, errW_none, errW_some] <;> rfl), by repeat (first | (with_reducible first | exact HB.out | apply Ba | apply Pn | apply Dn) | exact HB.out)⟩
         ·rw [if_neg c11] at H; have c11b0 : decide ((rd l0 x6_1) < 0) = false := decide_eq_false c11; clear c11
          by_cases c12 : (rd l0 x6_1) ≥ a1
          ·rw [if_pos c12] at H; have c12b0 : decide (a1 ≤ (rd l0 x6_1)) = true := decide_eq_true c12; clear c12; obtain rfl := Option.some.inj H; have p825 : 0 ≤ (x6_1 : Int) := Od (by first | (with_reducible assumption) | assumption); have q825 : x6_1 < (l0.length : Int) := Od (by first | (with_reducible assumption) | assumption); obtain ⟨ad825, e825, hx825_0⟩ := Kd.at_int HR0.out x6_1 p825 q825; cases e825; replace hx825_0 := (HB.out.cell (Wb w _ hx825_0)).trans hx825_0; replace p825 := eq_true p825; replace q825 := eq_true q825; have p826 : 0 ≤ (x6_1 : Int) := Od (by first | (with_reducible assumption) | assumption); have q826 : x6_1 < (l0.length : Int) := Od (by first | (with_reducible assumption) | assumption); obtain ⟨ad826, e826, hx826_0⟩ := Kd.at_int HR0.out x6_1 p826 q826
           obtain rfl : ad825 = ad826 := (by injection e826)
           replace hx826_0 := (HB.out.cell (Wb w _ hx826_0)).trans hx826_0; replace p826 := eq_true p826; replace q826 := eq_true q826; go_wp2; go_ret; exact ⟨by first | rfl | (simp [errW_none, errW_some] <;> rfl) | (simp [*, errW_none, errW_some] <;> rfl), by repeat (first | (with_reducible first | exact HB.out | apply Ba | apply Pn | apply Dn) | exact HB.out)⟩
          ·rw [if_neg c12] at H; have c12b0 : decide (a1 ≤ (rd l0 x6_1)) = false := decide_eq_false c12; clear c12
           by_cases c13 : 0 ≤ (rd l0 x6_1)
           ·rw [if_pos c13] at H; have c13b0 : decide (0 ≤ (rd l0 x6_1)) = true := decide_eq_true c13; clear c13
            by_cases c14 : (rd l0 x6_1) < (x5_1.length : Int)
            ·rw [if_pos c14] at H; have c14b0 : decide ((rd l0 x6_1) < (x5_1.length : Int)) = true := decide_eq_true c14; clear c14
             obtain ⟨bq15, hbq15⟩ : ∃ b_ : Bool, b_ = (rdOf false x5_1 (rd l0 x6_1)) := ⟨_, rfl⟩
             replace H : (if bq15 = true then (some false) else (rf_IsOrder.l0 k1 l0 a1 (x5_1.set ((rd l0 x6_1) : Int).toNat true) (wrap64 (x6_1 + 1)))) = some r := by rw [← hbq15] at H; exact H
             have Nbq15 := Aa hbq15; clear hbq15
             by_cases c16 : bq15 = true
             ·subst c16
              have H1 : (some false) = some r := by rw [if_pos rfl] at H; exact H
              clear H; have H := H1; clear H1; obtain rfl := Option.some.inj H; have p825 : 0 ≤ (x6_1 : Int) := Od (by first | (with_reducible assumption) | assumption); have q825 : x6_1 < (l0.length : Int) := Od (by first | (with_reducible assumption) | assumption); obtain ⟨ad825, e825, hx825_0⟩ := Kd.at_int HR0.out x6_1 p825 q825; cases e825; replace hx825_0 := (HB.out.cell (Wb w _ hx825_0)).trans hx825_0; replace p825 := eq_true p825; replace q825 := eq_true q825; have p826 : 0 ≤ (x6_1 : Int) := Od (by first | (with_reducible assumption) | assumption); have q826 : x6_1 < (l0.length : Int) := Od (by first | (with_reducible assumption) | assumption); obtain ⟨ad826, e826, hx826_0⟩ := Kd.at_int HR0.out x6_1 p826 q826
              obtain rfl : ad825 = ad826 := (by injection e826)
              replace hx826_0 := (HB.out.cell (Wb w _ hx826_0)).trans hx826_0; replace p826 := eq_true p826; replace q826 := eq_true q826; have p827 : 0 ≤ (x6_1 : Int) := Od (by first | (with_reducible assumption) | assumption); have q827 : x6_1 < (l0.length : Int) := Od (by first | (with_reducible assumption) | assumption); obtain ⟨ad827, e827, hx827_0⟩ := Kd.at_int HR0.out x6_1 p827 q827
              obtain rfl : ad825 = ad827 := (by injection e827)
              replace hx827_0 := (HB.out.cell (Wb w _ hx827_0)).trans hx827_0; replace p827 := eq_true p827; replace q827 := eq_true q827; obtain ⟨Ao17, co17, eo17⟩ := Kd.R_slice HO_5.out; subst eo17; have p828 : 0 ≤ ((rd l0 x6_1) : Int) := Od (by first | (with_reducible assumption) | assumption); have q828 : (rd l0 x6_1) < (x5_1.length : Int) := Od (by first | (with_reducible assumption) | assumption); obtain ⟨ad828, e828, hx828_0⟩ := Kd.at_bool (Kd.R_reads' HO_5.out).2.2 (rd l0 x6_1) p828 q828
              (try rw [← Nbq15.out] at hx828_0)
              cases e828; replace p828 := eq_true p828; replace q828 := eq_true q828; go_wp2; go_ret; exact ⟨by first | rfl | (simp [errW_none, errW_some] <;> rfl) | (simp [*, errW_none, errW_some] <;> rfl), by repeat (first | (with_reducible first | exact HB.out | apply Ba | apply Pn | apply Dn) | exact HB.out)⟩
             ·replace c16 := Bool.eq_false_iff.mpr c16; subst c16
              have H1 : (rf_IsOrder.l0 k1 l0 a1 (x5_1.set ((rd l0 x6_1) : Int).toNat true) (wrap64 (x6_1 + 1))) = some r := by rw [if_neg (show ¬ (false = true) by decide)] at H; exact H
              clear H; have H := H1; clear H1
              obtain ⟨y830, hy830⟩ : ∃ y_ : List Bool, y_ = (x5_1.set ((rd l0 x6_1) : Int).toNat true) := ⟨_, rfl⟩
              replace H : (rf_IsOrder.l0 k1 l0 a1 y830 (wrap64 (x6_1 + 1))) = some r := by first | (rw [hy830]; with_reducible exact H) | (have H2_ := (Option.bind_some _ _).symm.trans H; rw [hy830]; with_reducible exact H2_) | (have H2_ := (Option.bind_some _ _).symm.trans H; with_reducible exact H2_) | with_reducible exact H | (rw [hy830]; exact H) | exact H
              have Ny830 := Aa hy830; clear hy830; have H' := Aa H; clear H; have p825 : 0 ≤ (x6_1 : Int) := Od (by first | (with_reducible assumption) | assumption); have q825 : x6_1 < (l0.length : Int) := Od (by first | (with_reducible assumption) | assumption); obtain ⟨ad825, e825, hx825_0⟩ := Kd.at_int HR0.out x6_1 p825 q825; cases e825; replace hx825_0 := (HB.out.cell (Wb w _ hx825_0)).trans hx825_0; replace p825 := eq_true p825; replace q825 := eq_true q825; have p826 : 0 ≤ (x6_1 : Int) := Od (by first | (with_reducible assumption) | assumption); have q826 : x6_1 < (l0.length : Int) := Od (by first | (with_reducible assumption) | assumption); obtain ⟨ad826, e826, hx826_0⟩ := Kd.at_int HR0.out x6_1 p826 q826
              obtain rfl : ad825 = ad826 := (by injection e826)
              replace hx826_0 := (HB.out.cell (Wb w _ hx826_0)).trans hx826_0; replace p826 := eq_true p826; replace q826 := eq_true q826; have p827 : 0 ≤ (x6_1 : Int) := Od (by first | (with_reducible assumption) | assumption); have q827 : x6_1 < (l0.length : Int) := Od (by first | (with_reducible assumption) | assumption); obtain ⟨ad827, e827, hx827_0⟩ := Kd.at_int HR0.out x6_1 p827 q827
              obtain rfl : ad825 = ad827 := (by injection e827)
              replace hx827_0 := (HB.out.cell (Wb w _ hx827_0)).trans hx827_0; replace p827 := eq_true p827; replace q827 := eq_true q827; obtain ⟨Ao19, co19, eo19⟩ := Kd.R_slice HO_5.out; subst eo19; have p828 : 0 ≤ ((rd l0 x6_1) : Int) := Od (by first | (with_reducible assumption) | assumption); have q828 : (rd l0 x6_1) < (x5_1.length : Int) := Od (by first | (with_reducible assumption) | assumption); obtain ⟨ad828, e828, hx828_0⟩ := Kd.at_bool (Kd.R_reads' HO_5.out).2.2 (rd l0 x6_1) p828 q828
              (try rw [← Nbq15.out] at hx828_0)
              cases e828; replace p828 := eq_true p828; replace q828 := eq_true q828; have p829 : 0 ≤ (x6_1 : Int) := Od (by first | (with_reducible assumption) | assumption); have q829 : x6_1 < (l0.length : Int) := Od (by first | (with_reducible assumption) | assumption); obtain ⟨ad829, e829, hx829_0⟩ := Kd.at_int HR0.out x6_1 p829 q829
              obtain rfl : ad825 = ad829 := (by injection e829)
              replace hx829_0 := (HB.out.cell (Wb w _ hx829_0)).trans hx829_0; replace p829 := eq_true p829; replace q829 := eq_true q829; have p18 : 0 ≤ ((rd l0 x6_1) : Int) := Od (by first | (with_reducible assumption) | assumption); have q18 : ((rd l0 x6_1) : Int) < ((x5_1.length : Int) : Int) := Od (by first | (with_reducible assumption) | assumption); obtain ⟨go18, co18, eo18, gb18, gl18, cl18, HG18⟩ := Kd.R_form HO_5.out (by omega)
              (first | cases eo18 | (injection eo18 with ea_ en_ ec_; (first | subst ea_ | (injection ea_ with ea_; subst ea_)); subst ec_; clear en_))
              have GB18 := Aa gb18; have GG18 := Aa HG18; clear gb18 gl18 HG18
              (first | simp only [add_plain] at hx828_0 | skip)
              obtain ⟨hx18_0, hf18_0⟩ := Kd.R_celln false HO_5.out ((rd l0 x6_1) : Int) p18 q18; replace p18 := eq_true p18; replace q18 := eq_true q18; have HP20 := Kd.R_putg HO_5.out ((rd l0 x6_1) : Int) true
              go_wp2_with (first | ((with_reducible refine gate_store (t := 4) (p := 45) rfl ?_); refine store_event (t := 4) (p := 45) (v := ?vo_w21) (w1 := (wr.setCell ⟨go18, ((rd l0 x6_1) : Int).toNat, none⟩ (.bool true))) ?hg ?ho ?hn ?hr ?_; (case ho => rfl); (case hg => rfl); (case hn => rfl); (case hr => first | (go_simp; done) | (go_simp; rfl)); intro w21 hw; have hg : wr.grownBy w21 (some go18) := (by rw [hw]; exact HP20.2); have hp_ : Kd.R Kd.bool 4 w21 w.heap.size (fun _ => True) (.slice (some ⟨go18, 0, none⟩) x5_1.length co19) y830 := (by rw [hw, Ny830.out]; exact HP20.1); clear HP20; have n0_ := Aa (hp_); have n1_ := Aa ((by rw [hw]; exact Bz (HB.out) GB18.out : Below w.heap.size w w21)); clear HO_5; clear HB; have HO_5 := n0_; have HB := n1_; clear n0_ n1_; clear hg hw hp_))
              go_roundg k1
              case measure => have := HK1.out; omega
              case rel => exact ⟨(y830), (wrap64 (x6_1 + 1)), (by first | rfl | (simp; done) | (simp [*]; done)), H', ⟨by have := HK1.out; omega⟩, ⟨by (with_reducible repeat (first | apply Kd.R_alloc | apply Kd.R_drewN | apply Kd.R_drew)); exact HO_5.out⟩, ⟨by repeat (first | (with_reducible first | exact HB.out | apply Ba | apply Pn | apply Dn) | exact HB.out)⟩⟩
            ·rw [if_neg c14] at H; exact absurd H (by simp)
           ·rw [if_neg c13] at H; exact absurd H (by simp)
        ·rw [if_neg c10] at H; exact absurd H (by simp)
       ·rw [if_neg c9] at H; exact absurd H (by simp)
      ·rw [if_neg c8] at H; have c8b0 : decide (x6_1 < a1) = false := decide_eq_false c8; clear c8; obtain rfl := Option.some.inj H; go_wp2; go_ret; exact ⟨by first | rfl | (simp [errW_none, errW_some] <;> rfl) | (simp [*, errW_none, errW_some] <;> rfl), by repeat (first | (with_reducible first | exact HB.out | apply Ba | apply Pn | apply Dn) | exact HB.out)⟩
   ·rw [if_neg c5] at H; exact absurd H (by simp)
  ·rw [if_neg c4] at H; exact absurd H (by simp)
 ·rw [if_neg c3] at H; have c3b0 : ((l0.length : Int) == a1) = false := beq_eq_false_iff_ne.mpr c3; have c3b1 : ((l0.length : Int) != a1) = true := bne_iff_ne.mpr c3; obtain rfl := Option.some.inj H
  go_enter Try.func65, Try.ntmps65
  go_wp2; go_ret; exact ⟨by first | rfl | (simp [errW_none, errW_some] <;> rfl) | (simp [*, errW_none, errW_some] <;> rfl), by repeat (first | (with_reducible first | exact HB.out | apply Ba | apply Pn | apply Dn) | exact HB.out)⟩
end
section
attribute [local go_sem] max2_int min2_int max_two min_two
def skew_reads.f (a0_0 : Int) (a0_1 : Int) (a0_2 : Int) (a1 : Int) : Option (Bool) := (skew_within.f a0_0 0 100000).bind fun t102 => (if t102 = true then ((skew_within.f a0_1 0 1000).bind fun t103 => (if t103 = true then ((skew_within.f a0_2 0 100000).bind fun t104 => (if t104 = true then ((skew_within.f a1 a0_0 100000).bind fun t105 => (some t105)) else (some false))) else (some false))) else (some false))
set_option maxHeartbeats 8000000 in
set_option maxRecDepth 100000 in
theorem skew_reads.calls (a0_0 : Int) (a0_1 : Int) (a0_2 : Int) (a1 : Int) (r : Bool) (w : World) (h : skew_reads.f a0_0 a0_1 a0_2 a1 = some r) :
  Calls Try.prog 66 #[.agg #[.int .i64 a0_0, .int .i64 a0_1, .int .i64 a0_2], .int .i64 a1] w fun e w' => e = .returned (.bool r) ∧ Below w.heap.size w w' := by
 have hu23 := Try.underlying23; have HB := Aa (Below.refl w.heap.size w); have H : ((skew_within.f a0_0 0 100000).bind fun t102 => (if t102 = true then ((skew_within.f a0_1 0 1000).bind fun t103 => (if t103 = true then ((skew_within.f a0_2 0 100000).bind fun t104 => (if t104 = true then ((skew_within.f a1 a0_0 100000).bind fun t105 => (some t105)) else (some false))) else (some false))) else (some false))) = some r := h; clear h; replace H := Option.bind_eq_some_iff.mp H; obtain ⟨t102, A30, H⟩ := H; replace H : (if t102 = true then ((skew_within.f a0_1 0 1000).bind fun t103 => (if t103 = true then ((skew_within.f a0_2 0 100000).bind fun t104 => (if t104 = true then ((skew_within.f a1 a0_0 100000).bind fun t105 => (some t105)) else (some false))) else (some false))) else (some false)) = some r := H; have A3 := Aa A30; clear A30
 by_cases c4 : t102 = true
 ·subst c4
  have H1 : ((skew_within.f a0_1 0 1000).bind fun t103 => (if t103 = true then ((skew_within.f a0_2 0 100000).bind fun t104 => (if t104 = true then ((skew_within.f a1 a0_0 100000).bind fun t105 => (some t105)) else (some false))) else (some false))) = some r := by rw [if_pos rfl] at H; exact H
  clear H; have H := H1; clear H1; replace H := Option.bind_eq_some_iff.mp H; obtain ⟨t103, A50, H⟩ := H; replace H : (if t103 = true then ((skew_within.f a0_2 0 100000).bind fun t104 => (if t104 = true then ((skew_within.f a1 a0_0 100000).bind fun t105 => (some t105)) else (some false))) else (some false)) = some r := H; have A5 := Aa A50; clear A50
  by_cases c6 : t103 = true
  ·subst c6
   have H1 : ((skew_within.f a0_2 0 100000).bind fun t104 => (if t104 = true then ((skew_within.f a1 a0_0 100000).bind fun t105 => (some t105)) else (some false))) = some r := by rw [if_pos rfl] at H; exact H
   clear H; have H := H1; clear H1; replace H := Option.bind_eq_some_iff.mp H; obtain ⟨t104, A70, H⟩ := H; replace H : (if t104 = true then ((skew_within.f a1 a0_0 100000).bind fun t105 => (some t105)) else (some false)) = some r := H; have A7 := Aa A70; clear A70
   by_cases c8 : t104 = true
   ·subst c8
    have H1 : ((skew_within.f a1 a0_0 100000).bind fun t105 => (some t105)) = some r := by rw [if_pos rfl] at H; exact H
    clear H; have H := H1; clear H1; replace H := Option.bind_eq_some_iff.mp H; obtain ⟨t105, A90, H⟩ := H; replace H : (some t105) = some r := H; have A9 := Aa A90; clear A90; obtain rfl := Option.some.inj H
    go_enter Try.func66, Try.ntmps66
    go_wp2_with (first | ((with_reducible refine gate_dst (N := 2) rfl ?_); refine box_event ?hg (N := 2) ?hd (cs := #[.int .i64 a0_0, .int .i64 a0_1, .int .i64 a0_2]) (t := 23) ?hr ?_; (case hd => rfl); (case hg => rfl); (case hr => first | (go_simp; done) | (go_simp; rfl)); intro gb101 hg w10 hbox hb; have n0_ := Aa (Bp (by repeat (first | (with_reducible first | exact HB.out | apply Ba | apply Pn | apply Dn) | exact HB.out)) hb); have n1_ := Aa (hbox); have n2_ := Aa ((by rw [hg]; exact (below_size (by repeat (first | (with_reducible first | exact HB.out | apply Ba | apply Pn | apply Dn) | exact HB.out))) : w.heap.size ≤ gb101)); have n3_ := Aa ((by rw [hg]; exact (below_size (by repeat (first | (with_reducible first | exact HB.out | apply Ba | apply Pn | apply Dn) | exact HB.out))) : w.heap.size ≤ gb101)); clear HB; have HB := n0_; have BK101 := n1_; have GW101 := n2_; have GE101 := n3_; clear n0_ n1_ n2_ n3_; clear hb hbox hg; have hcz11_0 : w10.cell? ⟨gb101, 0, none⟩ = some (.int .i64 a0_0) := (Bc BK101.out 0).trans rfl; have hcz11_1 : w10.cell? ⟨gb101, 1, none⟩ = some (.int .i64 a0_1) := (Bc BK101.out 1).trans rfl; have hcz11_2 : w10.cell? ⟨gb101, 2, none⟩ = some (.int .i64 a0_2) := (Bc BK101.out 2).trans rfl; have hfz11_0 := Bf BK101.out 0; have hfz11_1 := Bf BK101.out 1; have hfz11_2 := Bf BK101.out 2) | ((with_reducible refine gate_callee (f := 68) rfl ?_); refine goesL_ (some 7) rfl rfl Try.func68 (by kernel_rfl) rfl #[.int .i64 a0_0, .int .i64 0, .int .i64 100000] rfl (by (try simp only [List.map_toArray, List.map_cons, List.map_nil]); first | done | rfl | (simp only [List.length_drop, List.length_take]; rfl)) ?_; (with_reducible refine (skew_within.calls a0_0 0 100000 true _ A3.out).mono ?_); rintro e w' ⟨rfl, ⟨nd, rfl⟩⟩; refine ⟨_, rfl, ?_⟩) | (go_at_call 68; (with_reducible refine (skew_within.calls a0_1 0 1000 true _ A5.out).mono ?_); rintro e w' ⟨rfl, ⟨nd, rfl⟩⟩) | (go_at_call 68; (with_reducible refine (skew_within.calls a0_2 0 100000 true _ A7.out).mono ?_); rintro e w' ⟨rfl, ⟨nd, rfl⟩⟩) | (go_at_call 68; (with_reducible refine (skew_within.calls a1 a0_0 100000 t105 _ A9.out).mono ?_); rintro e w' ⟨rfl, ⟨nd, rfl⟩⟩))
    go_ret; exact ⟨by first | rfl | (simp [errW_none, errW_some] <;> rfl) | (simp [*, errW_none, errW_some] <;> rfl), by repeat (first | (with_reducible first | exact HB.out | apply Ba | apply Pn | apply Dn | refine Bz ?_ GE101.out) | exact HB.out)⟩
   ·replace c8 := Bool.eq_false_iff.mpr c8; subst c8
    have H1 : (some false) = some r := by rw [if_neg (show ¬ (false = true) by decide)] at H; exact H
    clear H; have H := H1; clear H1; obtain rfl := Option.some.inj H
    go_enter Try.func66, Try.ntmps66
    go_wp2_with (first | ((with_reducible refine gate_dst (N := 2) rfl ?_); refine box_event ?hg (N := 2) ?hd (cs := #[.int .i64 a0_0, .int .i64 a0_1, .int .i64 a0_2]) (t := 23) ?hr ?_; (case hd => rfl); (case hg => rfl); (case hr => first | (go_simp; done) | (go_simp; rfl)); intro gb101 hg w12 hbox hb; have n0_ := Aa (Bp (by repeat (first | (with_reducible first | exact HB.out | apply Ba | apply Pn | apply Dn) | exact HB.out)) hb); have n1_ := Aa (hbox); have n2_ := Aa ((by rw [hg]; exact (below_size (by repeat (first | (with_reducible first | exact HB.out | apply Ba | apply Pn | apply Dn) | exact HB.out))) : w.heap.size ≤ gb101)); have n3_ := Aa ((by rw [hg]; exact (below_size (by repeat (first | (with_reducible first | exact HB.out | apply Ba | apply Pn | apply Dn) | exact HB.out))) : w.heap.size ≤ gb101)); clear HB; have HB := n0_; have BK101 := n1_; have GW101 := n2_; have GE101 := n3_; clear n0_ n1_ n2_ n3_; clear hb hbox hg; have hcz13_0 : w12.cell? ⟨gb101, 0, none⟩ = some (.int .i64 a0_0) := (Bc BK101.out 0).trans rfl; have hcz13_1 : w12.cell? ⟨gb101, 1, none⟩ = some (.int .i64 a0_1) := (Bc BK101.out 1).trans rfl; have hcz13_2 : w12.cell? ⟨gb101, 2, none⟩ = some (.int .i64 a0_2) := (Bc BK101.out 2).trans rfl; have hfz13_0 := Bf BK101.out 0; have hfz13_1 := Bf BK101.out 1; have hfz13_2 := Bf BK101.out 2) | ((with_reducible refine gate_callee (f := 68) rfl ?_); refine goesL_ (some 7) rfl rfl Try.func68 (by kernel_rfl) rfl #[.int .i64 a0_0, .int .i64 0, .int .i64 100000] rfl (by (try simp only [List.map_toArray, List.map_cons, List.map_nil]); first | done | rfl | (simp only [List.length_drop, List.length_take]; rfl)) ?_; (with_reducible refine (skew_within.calls a0_0 0 100000 true _ A3.out).mono ?_); rintro e w' ⟨rfl, ⟨nd, rfl⟩⟩; refine ⟨_, rfl, ?_⟩) | (go_at_call 68; (with_reducible refine (skew_within.calls a0_1 0 1000 true _ A5.out).mono ?_); rintro e w' ⟨rfl, ⟨nd, rfl⟩⟩) | (go_at_call 68; (with_reducible refine (skew_within.calls a0_2 0 100000 false _ A7.out).mono ?_); rintro e w' ⟨rfl, ⟨nd, rfl⟩⟩))
    go_ret; exact ⟨by first | rfl | (simp [errW_none, errW_some] <;> rfl) | (simp [*, errW_none, errW_some] <;> rfl), by repeat (first | (with_reducible first | exact HB.out | apply Ba | apply Pn | apply Dn | refine Bz ?_ GE101.out) | exact HB.out)⟩
  ·replace c6 := Bool.eq_false_iff.mpr c6; subst c6
   have H1 : (some false) = some r := by rw [if_neg (show ¬ (false = true) by decide)] at H; exact H
   clear H; have H := H1; clear H1; obtain rfl := Option.some.inj H
   go_enter Try.func66, Try.ntmps66
   go_wp2_with (first | ((with_reducible refine gate_dst (N := 2) rfl ?_); refine box_event ?hg (N := 2) ?hd (cs := #[.int .i64 a0_0, .int .i64 a0_1, .int .i64 a0_2]) (t := 23) ?hr ?_; (case hd => rfl); (case hg => rfl); (case hr => first | (go_simp; done) | (go_simp; rfl)); intro gb101 hg w14 hbox hb; have n0_ := Aa (Bp (by repeat (first | (with_reducible first | exact HB.out | apply Ba | apply Pn | apply Dn) | exact HB.out)) hb); have n1_ := Aa (hbox); have n2_ := Aa ((by rw [hg]; exact (below_size (by repeat (first | (with_reducible first | exact HB.out | apply Ba | apply Pn | apply Dn) | exact HB.out))) : w.heap.size ≤ gb101)); have n3_ := Aa ((by rw [hg]; exact (below_size (by repeat (first | (with_reducible first | exact HB.out | apply Ba | apply Pn | apply Dn) | exact HB.out))) : w.heap.size ≤ gb101)); clear HB; have HB := n0_; have BK101 := n1_; have GW101 := n2_; have GE101 := n3_; clear n0_ n1_ n2_ n3_; clear hb hbox hg; have hcz15_0 : w14.cell? ⟨gb101, 0, none⟩ = some (.int .i64 a0_0) := (Bc BK101.out 0).trans rfl; have hcz15_1 : w14.cell? ⟨gb101, 1, none⟩ = some (.int .i64 a0_1) := (Bc BK101.out 1).trans rfl; have hcz15_2 : w14.cell? ⟨gb101, 2, none⟩ = some (.int .i64 a0_2) := (Bc BK101.out 2).trans rfl; have hfz15_0 := Bf BK101.out 0; have hfz15_1 := Bf BK101.out 1; have hfz15_2 := Bf BK101.out 2) | ((with_reducible refine gate_callee (f := 68) rfl ?_); refine goesL_ (some 7) rfl rfl Try.func68 (by kernel_rfl) rfl #[.int .i64 a0_0, .int .i64 0, .int .i64 100000] rfl (by (try simp only [List.map_toArray, List.map_cons, List.map_nil]); first | done | rfl | (simp only [List.length_drop, List.length_take]; rfl)) ?_; (with_reducible refine (skew_within.calls a0_0 0 100000 true _ A3.out).mono ?_); rintro e w' ⟨rfl, ⟨nd, rfl⟩⟩; refine ⟨_, rfl, ?_⟩) | (go_at_call 68; (with_reducible refine (skew_within.calls a0_1 0 1000 false _ A5.out).mono ?_); rintro e w' ⟨rfl, ⟨nd, rfl⟩⟩))
   go_ret; exact ⟨by first | rfl | (simp [errW_none, errW_some] <;> rfl) | (simp [*, errW_none, errW_some] <;> rfl), by repeat (first | (with_reducible first | exact HB.out | apply Ba | apply Pn | apply Dn | refine Bz ?_ GE101.out) | exact HB.out)⟩
 ·replace c4 := Bool.eq_false_iff.mpr c4; subst c4
  have H1 : (some false) = some r := by rw [if_neg (show ¬ (false = true) by decide)] at H; exact H
  clear H; have H := H1; clear H1; obtain rfl := Option.some.inj H
  go_enter Try.func66, Try.ntmps66
  go_wp2_with (first | ((with_reducible refine gate_dst (N := 2) rfl ?_); refine box_event ?hg (N := 2) ?hd (cs := #[.int .i64 a0_0, .int .i64 a0_1, .int .i64 a0_2]) (t := 23) ?hr ?_; (case hd => rfl); (case hg => rfl); (case hr => first | (go_simp; done) | (go_simp; rfl)); intro gb101 hg w16 hbox hb; have n0_ := Aa (Bp (by repeat (first | (with_reducible first | exact HB.out | apply Ba | apply Pn | apply Dn) | exact HB.out)) hb); have n1_ := Aa (hbox); have n2_ := Aa ((by rw [hg]; exact (below_size (by repeat (first | (with_reducible first | exact HB.out | apply Ba | apply Pn | apply Dn) | exact HB.out))) : w.heap.size ≤ gb101)); have n3_ := Aa ((by rw [hg]; exact (below_size (by repeat (first | (with_reducible first | exact HB.out | apply Ba | apply Pn | apply Dn) | exact HB.out))) : w.heap.size ≤ gb101)); clear HB; have HB := n0_; have BK101 := n1_; have GW101 := n2_; have GE101 := n3_; clear n0_ n1_ n2_ n3_; clear hb hbox hg; have hcz17_0 : w16.cell? ⟨gb101, 0, none⟩ = some (.int .i64 a0_0) := (Bc BK101.out 0).trans rfl; have hcz17_1 : w16.cell? ⟨gb101, 1, none⟩ = some (.int .i64 a0_1) := (Bc BK101.out 1).trans rfl; have hcz17_2 : w16.cell? ⟨gb101, 2, none⟩ = some (.int .i64 a0_2) := (Bc BK101.out 2).trans rfl; have hfz17_0 := Bf BK101.out 0; have hfz17_1 := Bf BK101.out 1; have hfz17_2 := Bf BK101.out 2) | ((with_reducible refine gate_callee (f := 68) rfl ?_); refine goesL_ (some 7) rfl rfl Try.func68 (by kernel_rfl) rfl #[.int .i64 a0_0, .int .i64 0, .int .i64 100000] rfl (by (try simp only [List.map_toArray, List.map_cons, List.map_nil]); first | done | rfl | (simp only [List.length_drop, List.length_take]; rfl)) ?_; (with_reducible refine (skew_within.calls a0_0 0 100000 false _ A3.out).mono ?_); rintro e w' ⟨rfl, ⟨nd, rfl⟩⟩; refine ⟨_, rfl, ?_⟩))
  go_ret; exact ⟨by first | rfl | (simp [errW_none, errW_some] <;> rfl) | (simp [*, errW_none, errW_some] <;> rfl), by repeat (first | (with_reducible first | exact HB.out | apply Ba | apply Pn | apply Dn | refine Bz ?_ GE101.out) | exact HB.out)⟩
end
section
attribute [local go_sem] max2_int min2_int max_two min_two
def skew_of.f (a0_0 : Int) (a0_1 : Int) (a0_2 : Int) (a1 : Int) : Option (Int × Int) := if a0_2 > 0 then (if a0_2 = 0 then (none) else (some (wrap64 (a1 - (wrap64 (a0_1 + (wrap64 (Int.tdiv (wrap64 ((wrap64 ((wrap64 (a1 - a0_0)) + a0_2)) - 1)) a0_2))))), wrap64 (a1 + (wrap64 (a0_1 + (wrap64 (Int.tdiv (wrap64 ((wrap64 ((wrap64 (a1 - a0_0)) + a0_2)) - 1)) a0_2)))))))) else (some (wrap64 (a1 - a0_1), wrap64 (a1 + a0_1)))
set_option maxHeartbeats 8000000 in
set_option maxRecDepth 100000 in
theorem skew_of.calls (a0_0 : Int) (a0_1 : Int) (a0_2 : Int) (a1 : Int) (r1 : Int) (r2 : Int) (w : World) (h : skew_of.f a0_0 a0_1 a0_2 a1 = some (r1, r2)) :
  Calls Try.prog 67 #[.agg #[.int .i64 a0_0, .int .i64 a0_1, .int .i64 a0_2], .int .i64 a1] w fun e w' => e = .returned (.agg #[.int .i64 r1, .int .i64 r2]) ∧ Below w.heap.size w w' := by
 have hu23 := Try.underlying23; have hu27 := Try.underlying27; have HB := Aa (Below.refl w.heap.size w); have H : (if a0_2 > 0 then (if a0_2 = 0 then (none) else (some (wrap64 (a1 - (wrap64 (a0_1 + (wrap64 (Int.tdiv (wrap64 ((wrap64 ((wrap64 (a1 - a0_0)) + a0_2)) - 1)) a0_2))))), wrap64 (a1 + (wrap64 (a0_1 + (wrap64 (Int.tdiv (wrap64 ((wrap64 ((wrap64 (a1 - a0_0)) + a0_2)) - 1)) a0_2)))))))) else (some (wrap64 (a1 - a0_1), wrap64 (a1 + a0_1)))) = some (r1, r2) := h; clear h
 by_cases c3 : a0_2 > 0
 ·rw [if_pos c3] at H; have c3b0 : decide (0 < a0_2) = true := decide_eq_true c3; clear c3
  by_cases c4 : a0_2 = 0
  ·rw [if_pos c4] at H; exact absurd H (by simp)
  ·rw [if_neg c4] at H; have c4b0 : (a0_2 == 0) = false := beq_eq_false_iff_ne.mpr c4; have c4b1 : (a0_2 != 0) = true := bne_iff_ne.mpr c4; simp only [Option.some.injEq, Prod.mk.injEq] at H; obtain ⟨rfl, rfl⟩ := H
   go_enter Try.func67, Try.ntmps67
   go_wp2_with (first | ((with_reducible refine gate_dst (N := 2) rfl ?_); refine box_event ?hg (N := 2) ?hd (cs := #[.int .i64 a0_0, .int .i64 a0_1, .int .i64 a0_2]) (t := 23) ?hr ?_; (case hd => rfl); (case hg => rfl); (case hr => first | (go_simp; done) | (go_simp; rfl)); intro gb106 hg w5 hbox hb; have n0_ := Aa (Bp (by repeat (first | (with_reducible first | exact HB.out | apply Ba | apply Pn | apply Dn) | exact HB.out)) hb); have n1_ := Aa (hbox); have n2_ := Aa ((by rw [hg]; exact (below_size (by repeat (first | (with_reducible first | exact HB.out | apply Ba | apply Pn | apply Dn) | exact HB.out))) : w.heap.size ≤ gb106)); have n3_ := Aa ((by rw [hg]; exact (below_size (by repeat (first | (with_reducible first | exact HB.out | apply Ba | apply Pn | apply Dn) | exact HB.out))) : w.heap.size ≤ gb106)); clear HB; have HB := n0_; have BK106 := n1_; have GW106 := n2_; have GE106 := n3_; clear n0_ n1_ n2_ n3_; clear hb hbox hg) | ((with_reducible refine gate_dst (N := 4) rfl ?_); refine box_event ?hg (N := 4) ?hd (cs := #[.int .i64 0, .int .i64 0]) (t := 27) ?hr ?_; (case hd => rfl); (case hg => rfl); (case hr => first | (go_simp; done) | (go_simp; rfl)); intro gb107 hg w6 hbox hb; have n0_ := Aa (blk_below (g := gb106) (o := .cells #[.int .i64 a0_0, .int .i64 a0_1, .int .i64 a0_2] 23 (0, 0)) (by (with_reducible repeat (first | refine Kn ?_ _ | refine Kw ?_ | refine Ka ?_ _)); exact BK106.out) hb); have n1_ := Aa (Bp (by repeat (first | (with_reducible first | exact HB.out | apply Ba | apply Pn | apply Dn | refine Bz ?_ GE106.out) | exact HB.out)) hb); have n2_ := Aa (hbox); have n3_ := Aa ((by rw [hg]; exact (below_size (by repeat (first | (with_reducible first | exact HB.out | apply Ba | apply Pn | apply Dn | refine Bz ?_ GE106.out) | exact HB.out))) : w.heap.size ≤ gb107)); have n4_ := Aa ((by rw [hg]; exact (below_size (by repeat (first | (with_reducible first | exact HB.out | apply Ba | apply Pn | apply Dn | refine Bz ?_ GE106.out) | exact HB.out))) : w.heap.size ≤ gb107)); have n5_ := Aa ((by rw [hg]; exact Nat.ne_of_lt (blk_lt (g := gb106) (o := .cells #[.int .i64 a0_0, .int .i64 a0_1, .int .i64 a0_2] 23 (0, 0)) (by (with_reducible repeat (first | refine Kn ?_ _ | refine Kw ?_ | refine Ka ?_ _)); exact BK106.out)) : gb106 ≠ gb107)); have n6_ := Aa ((by rw [hg]; exact Nat.ne_of_gt (blk_lt (g := gb106) (o := .cells #[.int .i64 a0_0, .int .i64 a0_1, .int .i64 a0_2] 23 (0, 0)) (by (with_reducible repeat (first | refine Kn ?_ _ | refine Kw ?_ | refine Ka ?_ _)); exact BK106.out)) : gb107 ≠ gb106)); clear BK106; clear HB; have BK106 := n0_; have HB := n1_; have BK107 := n2_; have GW107 := n3_; have GE107 := n4_; have NB106_107 := n5_; have NB107_106 := n6_; clear n0_ n1_ n2_ n3_ n4_ n5_ n6_; clear hb hbox hg; have hnb7 := NB106_107.out; have hnc7 := NB107_106.out; have hcz8_0 : w6.cell? ⟨gb106, 0, none⟩ = some (.int .i64 a0_0) := (Bc BK106.out 0).trans rfl; have hcz8_1 : w6.cell? ⟨gb106, 1, none⟩ = some (.int .i64 a0_1) := (Bc BK106.out 1).trans rfl; have hcz8_2 : w6.cell? ⟨gb106, 2, none⟩ = some (.int .i64 a0_2) := (Bc BK106.out 2).trans rfl; have hfz8_0 := Bf BK106.out 0; have hfz8_1 := Bf BK106.out 1; have hfz8_2 := Bf BK106.out 2; have hcz9_0 : w6.cell? ⟨gb107, 0, none⟩ = some (.int .i64 0) := (Bc BK107.out 0).trans rfl; have hcz9_1 : w6.cell? ⟨gb107, 1, none⟩ = some (.int .i64 0) := (Bc BK107.out 1).trans rfl; have hfz9_0 := Bf BK107.out 0; have hfz9_1 := Bf BK107.out 1))
   refine bodyPost_ret (results_cell_row rfl _ _ gb107 27 #[.int .i64 (wrap64 (a1 - (wrap64 (a0_1 + (wrap64 (Int.tdiv (wrap64 ((wrap64 ((wrap64 (a1 - a0_0)) + a0_2)) - 1)) a0_2)))))), .int .i64 (wrap64 (a1 + (wrap64 (a0_1 + (wrap64 (Int.tdiv (wrap64 ((wrap64 ((wrap64 (a1 - a0_0)) + a0_2)) - 1)) a0_2))))))] (0, 0) _ rfl (by (with_reducible repeat (first | refine Kn ?_ _ | refine Kw ?_ | refine Ka ?_ _)); refine blk_put (cs := #[.int .i64 (wrap64 (a1 - (wrap64 (a0_1 + (wrap64 (Int.tdiv (wrap64 ((wrap64 ((wrap64 (a1 - a0_0)) + a0_2)) - 1)) a0_2)))))), .int .i64 0]) ?_ 1 _ rfl; (with_reducible repeat (first | refine Kn ?_ _ | refine Kw ?_ | refine Ka ?_ _)); refine blk_put (cs := #[.int .i64 0, .int .i64 0]) ?_ 0 _ rfl; (with_reducible repeat (first | refine Kn ?_ _ | refine Kw ?_ | refine Ka ?_ _)); exact BK107.out) Try.underlying27 rfl (by kernel_rfl)) rfl ?_; exact ⟨by first | rfl | (simp [errW_none, errW_some] <;> rfl) | (simp [*, errW_none, errW_some] <;> rfl), by repeat (first | (with_reducible first | exact HB.out | apply Ba | apply Pn | apply Dn | refine Bz ?_ GE106.out | refine Bz ?_ GE107.out) | exact HB.out)⟩
 ·rw [if_neg c3] at H; have c3b0 : decide (0 < a0_2) = false := decide_eq_false c3; clear c3; simp only [Option.some.injEq, Prod.mk.injEq] at H; obtain ⟨rfl, rfl⟩ := H
  go_enter Try.func67, Try.ntmps67
  go_wp2_with (first | ((with_reducible refine gate_dst (N := 2) rfl ?_); refine box_event ?hg (N := 2) ?hd (cs := #[.int .i64 a0_0, .int .i64 a0_1, .int .i64 a0_2]) (t := 23) ?hr ?_; (case hd => rfl); (case hg => rfl); (case hr => first | (go_simp; done) | (go_simp; rfl)); intro gb106 hg w10 hbox hb; have n0_ := Aa (Bp (by repeat (first | (with_reducible first | exact HB.out | apply Ba | apply Pn | apply Dn) | exact HB.out)) hb); have n1_ := Aa (hbox); have n2_ := Aa ((by rw [hg]; exact (below_size (by repeat (first | (with_reducible first | exact HB.out | apply Ba | apply Pn | apply Dn) | exact HB.out))) : w.heap.size ≤ gb106)); have n3_ := Aa ((by rw [hg]; exact (below_size (by repeat (first | (with_reducible first | exact HB.out | apply Ba | apply Pn | apply Dn) | exact HB.out))) : w.heap.size ≤ gb106)); clear HB; have HB := n0_; have BK106 := n1_; have GW106 := n2_; have GE106 := n3_; clear n0_ n1_ n2_ n3_; clear hb hbox hg) | ((with_reducible refine gate_dst (N := 4) rfl ?_); refine box_event ?hg (N := 4) ?hd (cs := #[.int .i64 0, .int .i64 0]) (t := 27) ?hr ?_; (case hd => rfl); (case hg => rfl); (case hr => first | (go_simp; done) | (go_simp; rfl)); intro gb107 hg w11 hbox hb; have n0_ := Aa (blk_below (g := gb106) (o := .cells #[.int .i64 a0_0, .int .i64 a0_1, .int .i64 a0_2] 23 (0, 0)) (by (with_reducible repeat (first | refine Kn ?_ _ | refine Kw ?_ | refine Ka ?_ _)); exact BK106.out) hb); have n1_ := Aa (Bp (by repeat (first | (with_reducible first | exact HB.out | apply Ba | apply Pn | apply Dn | refine Bz ?_ GE106.out) | exact HB.out)) hb); have n2_ := Aa (hbox); have n3_ := Aa ((by rw [hg]; exact (below_size (by repeat (first | (with_reducible first | exact HB.out | apply Ba | apply Pn | apply Dn | refine Bz ?_ GE106.out) | exact HB.out))) : w.heap.size ≤ gb107)); have n4_ := Aa ((by rw [hg]; exact (below_size (by repeat (first | (with_reducible first | exact HB.out | apply Ba | apply Pn | apply Dn | refine Bz ?_ GE106.out) | exact HB.out))) : w.heap.size ≤ gb107)); have n5_ := Aa ((by rw [hg]; exact Nat.ne_of_lt (blk_lt (g := gb106) (o := .cells #[.int .i64 a0_0, .int .i64 a0_1, .int .i64 a0_2] 23 (0, 0)) (by (with_reducible repeat (first | refine Kn ?_ _ | refine Kw ?_ | refine Ka ?_ _)); exact BK106.out)) : gb106 ≠ gb107)); have n6_ := Aa ((by rw [hg]; exact Nat.ne_of_gt (blk_lt (g := gb106) (o := .cells #[.int .i64 a0_0, .int .i64 a0_1, .int .i64 a0_2] 23 (0, 0)) (by (with_reducible repeat (first | refine Kn ?_ _ | refine Kw ?_ | refine Ka ?_ _)); exact BK106.out)) : gb107 ≠ gb106)); clear BK106; clear HB; have BK106 := n0_; have HB := n1_; have BK107 := n2_; have GW107 := n3_; have GE107 := n4_; have NB106_107 := n5_; have NB107_106 := n6_; clear n0_ n1_ n2_ n3_ n4_ n5_ n6_; clear hb hbox hg; have hnb12 := NB106_107.out; have hnc12 := NB107_106.out; have hcz13_0 : w11.cell? ⟨gb106, 0, none⟩ = some (.int .i64 a0_0) := (Bc BK106.out 0).trans rfl; have hcz13_1 : w11.cell? ⟨gb106, 1, none⟩ = some (.int .i64 a0_1) := (Bc BK106.out 1).trans rfl; have hcz13_2 : w11.cell? ⟨gb106, 2, none⟩ = some (.int .i64 a0_2) := (Bc BK106.out 2).trans rfl; have hfz13_0 := Bf BK106.out 0; have hfz13_1 := Bf BK106.out 1; have hfz13_2 := Bf BK106.out 2; have hcz14_0 : w11.cell? ⟨gb107, 0, none⟩ = some (.int .i64 0) := (Bc BK107.out 0).trans rfl; have hcz14_1 : w11.cell? ⟨gb107, 1, none⟩ = some (.int .i64 0) := (Bc BK107.out 1).trans rfl; have hfz14_0 := Bf BK107.out 0; have hfz14_1 := Bf BK107.out 1))
  refine bodyPost_ret (results_cell_row rfl _ _ gb107 27 #[.int .i64 (wrap64 (a1 - a0_1)), .int .i64 (wrap64 (a1 + a0_1))] (0, 0) _ rfl (by (with_reducible repeat (first | refine Kn ?_ _ | refine Kw ?_ | refine Ka ?_ _)); refine blk_put (cs := #[.int .i64 (wrap64 (a1 - a0_1)), .int .i64 0]) ?_ 1 _ rfl; (with_reducible repeat (first | refine Kn ?_ _ | refine Kw ?_ | refine Ka ?_ _)); refine blk_put (cs := #[.int .i64 0, .int .i64 0]) ?_ 0 _ rfl; (with_reducible repeat (first | refine Kn ?_ _ | refine Kw ?_ | refine Ka ?_ _)); exact BK107.out) Try.underlying27 rfl (by kernel_rfl)) rfl ?_; exact ⟨by first | rfl | (simp [errW_none, errW_some] <;> rfl) | (simp [*, errW_none, errW_some] <;> rfl), by repeat (first | (with_reducible first | exact HB.out | apply Ba | apply Pn | apply Dn | refine Bz ?_ GE106.out | refine Bz ?_ GE107.out) | exact HB.out)⟩
end
section
attribute [local go_sem] max2_int min2_int max_two min_two
theorem eqA130 (d : Nat) (w : World) (x0 y0 : Int) (x1 y1 : Int) :
  (Op.equalIn (d + 2) 130 (.agg #[.int .i64 x0, .int .i64 x1]) (.agg #[.int .i64 y0, .int .i64 y1])).run Try.prog w = .ok (x0 == y0 && (x1 == y1)) w := by
 refine eqA_of Try.underlying130 (by kernel_rfl) ?_; refine eqf_cons (by rfl) (by go_simp; rfl) (by go_simp; rfl) (by go_simp) ?_; exact eqf_last (by rfl) (by go_simp; rfl) (by go_simp; rfl) (by go_simp)
end
section
attribute [local go_sem] max2_int min2_int max_two min_two
attribute [local go_sem high] eqA130
def skew_stamp_compare.f (a0_0 : Int) (a0_1 : Int) (a1_0 : Int) (a1_1 : Int) : Option (Int) := if (a0_0 == a1_0 && (a0_1 == a1_1)) = true then (some 0) else (if a0_0 < a1_0 then (some (-1)) else (if a0_0 = a1_0 then (if a0_1 < a1_1 then (some (-1)) else (some 1)) else (some 1)))
set_option maxHeartbeats 8000000 in
set_option maxRecDepth 100000 in
theorem skew_stamp_compare.calls (a0_0 : Int) (a0_1 : Int) (a1_0 : Int) (a1_1 : Int) (r : Int) (w : World) (h : skew_stamp_compare.f a0_0 a0_1 a1_0 a1_1 = some r) :
  Calls Try.prog 92 #[.agg #[.int .i64 a0_0, .int .i64 a0_1], .agg #[.int .i64 a1_0, .int .i64 a1_1]] w fun e w' => e = .returned (.int .i64 r) ∧ Below w.heap.size w w' := by
 have hu130 := Try.underlying130; have HB := Aa (Below.refl w.heap.size w); have H : (if (a0_0 == a1_0 && (a0_1 == a1_1)) = true then (some 0) else (if a0_0 < a1_0 then (some (-1)) else (if a0_0 = a1_0 then (if a0_1 < a1_1 then (some (-1)) else (some 1)) else (some 1)))) = some r := h; clear h
 by_cases c3 : (a0_0 == a1_0 && (a0_1 == a1_1)) = true
 ·rw [if_pos c3] at H; have c3b0 : (a0_0 == a1_0 && (a0_1 == a1_1)) = true := c3
  (try (have c3b1 : decide (a0_0 = a1_0 && (a0_1 == a1_1)) = true := by simpa using c3))
  (try (have c3b2 : (a0_0 == a1_0 && (a0_1 == a1_1)) = true := by simpa using c3))
  clear c3; obtain rfl := Option.some.inj H
  go_enter Try.func92, Try.ntmps92
  go_wp2_with (first | ((with_reducible refine gate_dst (N := 2) rfl ?_); refine box_event ?hg (N := 2) ?hd (cs := #[.int .i64 a0_0, .int .i64 a0_1]) (t := 130) ?hr ?_; (case hd => rfl); (case hg => rfl); (case hr => first | (go_simp; done) | (go_simp; rfl)); intro gb153 hg w4 hbox hb; have n0_ := Aa (Bp (by repeat (first | (with_reducible first | exact HB.out | apply Ba | apply Pn | apply Dn) | exact HB.out)) hb); have n1_ := Aa (hbox); have n2_ := Aa ((by rw [hg]; exact (below_size (by repeat (first | (with_reducible first | exact HB.out | apply Ba | apply Pn | apply Dn) | exact HB.out))) : w.heap.size ≤ gb153)); have n3_ := Aa ((by rw [hg]; exact (below_size (by repeat (first | (with_reducible first | exact HB.out | apply Ba | apply Pn | apply Dn) | exact HB.out))) : w.heap.size ≤ gb153)); clear HB; have HB := n0_; have BK153 := n1_; have GW153 := n2_; have GE153 := n3_; clear n0_ n1_ n2_ n3_; clear hb hbox hg) | ((with_reducible refine gate_dst (N := 3) rfl ?_); refine box_event ?hg (N := 3) ?hd (cs := #[.int .i64 a1_0, .int .i64 a1_1]) (t := 130) ?hr ?_; (case hd => rfl); (case hg => rfl); (case hr => first | (go_simp; done) | (go_simp; rfl)); intro gb154 hg w5 hbox hb; have n0_ := Aa (blk_below (g := gb153) (o := .cells #[.int .i64 a0_0, .int .i64 a0_1] 130 (0, 0)) (by (with_reducible repeat (first | refine Kn ?_ _ | refine Kw ?_ | refine Ka ?_ _)); exact BK153.out) hb); have n1_ := Aa (Bp (by repeat (first | (with_reducible first | exact HB.out | apply Ba | apply Pn | apply Dn | refine Bz ?_ GE153.out) | exact HB.out)) hb); have n2_ := Aa (hbox); have n3_ := Aa ((by rw [hg]; exact (below_size (by repeat (first | (with_reducible first | exact HB.out | apply Ba | apply Pn | apply Dn | refine Bz ?_ GE153.out) | exact HB.out))) : w.heap.size ≤ gb154)); have n4_ := Aa ((by rw [hg]; exact (below_size (by repeat (first | (with_reducible first | exact HB.out | apply Ba | apply Pn | apply Dn | refine Bz ?_ GE153.out) | exact HB.out))) : w.heap.size ≤ gb154)); have n5_ := Aa ((by rw [hg]; exact Nat.ne_of_lt (blk_lt (g := gb153) (o := .cells #[.int .i64 a0_0, .int .i64 a0_1] 130 (0, 0)) (by (with_reducible repeat (first | refine Kn ?_ _ | refine Kw ?_ | refine Ka ?_ _)); exact BK153.out)) : gb153 ≠ gb154)); have n6_ := Aa ((by rw [hg]; exact Nat.ne_of_gt (blk_lt (g := gb153) (o := .cells #[.int .i64 a0_0, .int .i64 a0_1] 130 (0, 0)) (by (with_reducible repeat (first | refine Kn ?_ _ | refine Kw ?_ | refine Ka ?_ _)); exact BK153.out)) : gb154 ≠ gb153)); clear BK153; clear HB; have BK153 := n0_; have HB := n1_; have BK154 := n2_; have GW154 := n3_; have GE154 := n4_; have NB153_154 := n5_; have NB154_153 := n6_; clear n0_ n1_ n2_ n3_ n4_ n5_ n6_; clear hb hbox hg; have hnb6 := NB153_154.out; have hnc6 := NB154_153.out; have hcz7_0 : w5.cell? ⟨gb153, 0, none⟩ = some (.int .i64 a0_0) := (Bc BK153.out 0).trans rfl; have hcz7_1 : w5.cell? ⟨gb153, 1, none⟩ = some (.int .i64 a0_1) := (Bc BK153.out 1).trans rfl; have hfz7_0 := Bf BK153.out 0; have hfz7_1 := Bf BK153.out 1; have hcz8_0 : w5.cell? ⟨gb154, 0, none⟩ = some (.int .i64 a1_0) := (Bc BK154.out 0).trans rfl; have hcz8_1 : w5.cell? ⟨gb154, 1, none⟩ = some (.int .i64 a1_1) := (Bc BK154.out 1).trans rfl; have hfz8_0 := Bf BK154.out 0; have hfz8_1 := Bf BK154.out 1))
  go_ret; exact ⟨by first | rfl | (simp [errW_none, errW_some] <;> rfl) | (simp [*, errW_none, errW_some] <;> rfl), by repeat (first | (with_reducible first | exact HB.out | apply Ba | apply Pn | apply Dn | refine Bz ?_ GE153.out | refine Bz ?_ GE154.out) | exact HB.out)⟩
 ·rw [if_neg c3] at H
  have c3b0 : (a0_0 == a1_0 && (a0_1 == a1_1)) = false := by simpa using c3
  (try (have c3b1 : decide (a0_0 = a1_0 && (a0_1 == a1_1)) = false := by simpa using c3))
  (try (have c3b2 : (a0_0 == a1_0 && (a0_1 == a1_1)) = false := by simpa using c3))
  (try (have c3b3 : ¬ (a0_0 = a1_0 && (a0_1 == a1_1)) := by simpa using c3))
  clear c3
  by_cases c9 : a0_0 < a1_0
  ·rw [if_pos c9] at H; have c9b0 : decide (a0_0 < a1_0) = true := decide_eq_true c9; clear c9; obtain rfl := Option.some.inj H
   go_enter Try.func92, Try.ntmps92
   go_wp2_with (first | ((with_reducible refine gate_dst (N := 2) rfl ?_); refine box_event ?hg (N := 2) ?hd (cs := #[.int .i64 a0_0, .int .i64 a0_1]) (t := 130) ?hr ?_; (case hd => rfl); (case hg => rfl); (case hr => first | (go_simp; done) | (go_simp; rfl)); intro gb153 hg w10 hbox hb; have n0_ := Aa (Bp (by repeat (first | (with_reducible first | exact HB.out | apply Ba | apply Pn | apply Dn) | exact HB.out)) hb); have n1_ := Aa (hbox); have n2_ := Aa ((by rw [hg]; exact (below_size (by repeat (first | (with_reducible first | exact HB.out | apply Ba | apply Pn | apply Dn) | exact HB.out))) : w.heap.size ≤ gb153)); have n3_ := Aa ((by rw [hg]; exact (below_size (by repeat (first | (with_reducible first | exact HB.out | apply Ba | apply Pn | apply Dn) | exact HB.out))) : w.heap.size ≤ gb153)); clear HB; have HB := n0_; have BK153 := n1_; have GW153 := n2_; have GE153 := n3_; clear n0_ n1_ n2_ n3_; clear hb hbox hg) | ((with_reducible refine gate_dst (N := 3) rfl ?_); refine box_event ?hg (N := 3) ?hd (cs := #[.int .i64 a1_0, .int .i64 a1_1]) (t := 130) ?hr ?_; (case hd => rfl); (case hg => rfl); (case hr => first | (go_simp; done) | (go_simp; rfl)); intro gb154 hg w11 hbox hb; have n0_ := Aa (blk_below (g := gb153) (o := .cells #[.int .i64 a0_0, .int .i64 a0_1] 130 (0, 0)) (by (with_reducible repeat (first | refine Kn ?_ _ | refine Kw ?_ | refine Ka ?_ _)); exact BK153.out) hb); have n1_ := Aa (Bp (by repeat (first | (with_reducible first | exact HB.out | apply Ba | apply Pn | apply Dn | refine Bz ?_ GE153.out) | exact HB.out)) hb); have n2_ := Aa (hbox); have n3_ := Aa ((by rw [hg]; exact (below_size (by repeat (first | (with_reducible first | exact HB.out | apply Ba | apply Pn | apply Dn | refine Bz ?_ GE153.out) | exact HB.out))) : w.heap.size ≤ gb154)); have n4_ := Aa ((by rw [hg]; exact (below_size (by repeat (first | (with_reducible first | exact HB.out | apply Ba | apply Pn | apply Dn | refine Bz ?_ GE153.out) | exact HB.out))) : w.heap.size ≤ gb154)); have n5_ := Aa ((by rw [hg]; exact Nat.ne_of_lt (blk_lt (g := gb153) (o := .cells #[.int .i64 a0_0, .int .i64 a0_1] 130 (0, 0)) (by (with_reducible repeat (first | refine Kn ?_ _ | refine Kw ?_ | refine Ka ?_ _)); exact BK153.out)) : gb153 ≠ gb154)); have n6_ := Aa ((by rw [hg]; exact Nat.ne_of_gt (blk_lt (g := gb153) (o := .cells #[.int .i64 a0_0, .int .i64 a0_1] 130 (0, 0)) (by (with_reducible repeat (first | refine Kn ?_ _ | refine Kw ?_ | refine Ka ?_ _)); exact BK153.out)) : gb154 ≠ gb153)); clear BK153; clear HB; have BK153 := n0_; have HB := n1_; have BK154 := n2_; have GW154 := n3_; have GE154 := n4_; have NB153_154 := n5_; have NB154_153 := n6_; clear n0_ n1_ n2_ n3_ n4_ n5_ n6_; clear hb hbox hg; have hnb12 := NB153_154.out; have hnc12 := NB154_153.out; have hcz13_0 : w11.cell? ⟨gb153, 0, none⟩ = some (.int .i64 a0_0) := (Bc BK153.out 0).trans rfl; have hcz13_1 : w11.cell? ⟨gb153, 1, none⟩ = some (.int .i64 a0_1) := (Bc BK153.out 1).trans rfl; have hfz13_0 := Bf BK153.out 0; have hfz13_1 := Bf BK153.out 1; have hcz14_0 : w11.cell? ⟨gb154, 0, none⟩ = some (.int .i64 a1_0) := (Bc BK154.out 0).trans rfl; have hcz14_1 : w11.cell? ⟨gb154, 1, none⟩ = some (.int .i64 a1_1) := (Bc BK154.out 1).trans rfl; have hfz14_0 := Bf BK154.out 0; have hfz14_1 := Bf BK154.out 1))
   go_ret; exact ⟨by first | rfl | (simp [errW_none, errW_some] <;> rfl) | (simp [*, errW_none, errW_some] <;> rfl), by repeat (first | (with_reducible first | exact HB.out | apply Ba | apply Pn | apply Dn | refine Bz ?_ GE153.out | refine Bz ?_ GE154.out) | exact HB.out)⟩
  ·rw [if_neg c9] at H; have c9b0 : decide (a0_0 < a1_0) = false := decide_eq_false c9; clear c9
   by_cases c15 : a0_0 = a1_0
   ·rw [if_pos c15] at H; have c15b0 : (a0_0 == a1_0) = true := beq_iff_eq.mpr c15; have c15b1 : (a0_0 != a1_0) = false := bne_eq_false_iff_eq.mpr c15; clear c15
    by_cases c16 : a0_1 < a1_1
    ·rw [if_pos c16] at H; have c16b0 : decide (a0_1 < a1_1) = true := decide_eq_true c16; clear c16
     have c16x : (a0_1 == a1_1) = false := by cases hh : (a0_1 == a1_1) with | false => rfl | true => rw [c15b0, hh] at c3b0; cases c3b0
     obtain rfl := Option.some.inj H
     go_enter Try.func92, Try.ntmps92
     go_wp2_with (first | ((with_reducible refine gate_dst (N := 2) rfl ?_); refine box_event ?hg (N := 2) ?hd (cs := #[.int .i64 a0_0, .int .i64 a0_1]) (t := 130) ?hr ?_; (case hd => rfl); (case hg => rfl); (case hr => first | (go_simp; done) | (go_simp; rfl)); intro gb153 hg w17 hbox hb; have n0_ := Aa (Bp (by repeat (first | (with_reducible first | exact HB.out | apply Ba | apply Pn | apply Dn) | exact HB.out)) hb); have n1_ := Aa (hbox); have n2_ := Aa ((by rw [hg]; exact (below_size (by repeat (first | (with_reducible first | exact HB.out | apply Ba | apply Pn | apply Dn) | exact HB.out))) : w.heap.size ≤ gb153)); have n3_ := Aa ((by rw [hg]; exact (below_size (by repeat (first | (with_reducible first | exact HB.out | apply Ba | apply Pn | apply Dn) | exact HB.out))) : w.heap.size ≤ gb153)); clear HB; have HB := n0_; have BK153 := n1_; have GW153 := n2_; have GE153 := n3_; clear n0_ n1_ n2_ n3_; clear hb hbox hg) | ((with_reducible refine gate_dst (N := 3) rfl ?_); refine box_event ?hg (N := 3) ?hd (cs := #[.int .i64 a1_0, .int .i64 a1_1]) (t := 130) ?hr ?_; (case hd => rfl); (case hg => rfl); (case hr => first | (go_simp; done) | (go_simp; rfl)); intro gb154 hg w18 hbox hb; have n0_ := Aa (blk_below (g := gb153) (o := .cells #[.int .i64 a0_0, .int .i64 a0_1] 130 (0, 0)) (by (with_reducible repeat (first | refine Kn ?_ _ | refine Kw ?_ | refine Ka ?_ _)); exact BK153.out) hb); have n1_ := Aa (Bp (by repeat (first | (with_reducible first | exact HB.out | apply Ba | apply Pn | apply Dn | refine Bz ?_ GE153.out) | exact HB.out)) hb); have n2_ := Aa (hbox); have n3_ := Aa ((by rw [hg]; exact (below_size (by repeat (first | (with_reducible first | exact HB.out | apply Ba | apply Pn | apply Dn | refine Bz ?_ GE153.out) | exact HB.out))) : w.heap.size ≤ gb154)); have n4_ := Aa ((by rw [hg]; exact (below_size (by repeat (first | (with_reducible first | exact HB.out | apply Ba | apply Pn | apply Dn | refine Bz ?_ GE153.out) | exact HB.out))) : w.heap.size ≤ gb154)); have n5_ := Aa ((by rw [hg]; exact Nat.ne_of_lt (blk_lt (g := gb153) (o := .cells #[.int .i64 a0_0, .int .i64 a0_1] 130 (0, 0)) (by (with_reducible repeat (first | refine Kn ?_ _ | refine Kw ?_ | refine Ka ?_ _)); exact BK153.out)) : gb153 ≠ gb154)); have n6_ := Aa ((by rw [hg]; exact Nat.ne_of_gt (blk_lt (g := gb153) (o := .cells #[.int .i64 a0_0, .int .i64 a0_1] 130 (0, 0)) (by (with_reducible repeat (first | refine Kn ?_ _ | refine Kw ?_ | refine Ka ?_ _)); exact BK153.out)) : gb154 ≠ gb153)); clear BK153; clear HB; have BK153 := n0_; have HB := n1_; have BK154 := n2_; have GW154 := n3_; have GE154 := n4_; have NB153_154 := n5_; have NB154_153 := n6_; clear n0_ n1_ n2_ n3_ n4_ n5_ n6_; clear hb hbox hg; have hnb19 := NB153_154.out; have hnc19 := NB154_153.out; have hcz20_0 : w18.cell? ⟨gb153, 0, none⟩ = some (.int .i64 a0_0) := (Bc BK153.out 0).trans rfl; have hcz20_1 : w18.cell? ⟨gb153, 1, none⟩ = some (.int .i64 a0_1) := (Bc BK153.out 1).trans rfl; have hfz20_0 := Bf BK153.out 0; have hfz20_1 := Bf BK153.out 1; have hcz21_0 : w18.cell? ⟨gb154, 0, none⟩ = some (.int .i64 a1_0) := (Bc BK154.out 0).trans rfl; have hcz21_1 : w18.cell? ⟨gb154, 1, none⟩ = some (.int .i64 a1_1) := (Bc BK154.out 1).trans rfl; have hfz21_0 := Bf BK154.out 0; have hfz21_1 := Bf BK154.out 1))
     go_ret; exact ⟨by first | rfl | (simp [errW_none, errW_some] <;> rfl) | (simp [*, errW_none, errW_some] <;> rfl), by repeat (first | (with_reducible first | exact HB.out | apply Ba | apply Pn | apply Dn | refine Bz ?_ GE153.out | refine Bz ?_ GE154.out) | exact HB.out)⟩
    ·rw [if_neg c16] at H; have c16b0 : decide (a0_1 < a1_1) = false := decide_eq_false c16; clear c16
     have c16x : (a0_1 == a1_1) = false := by cases hh : (a0_1 == a1_1) with | false => rfl | true => rw [c15b0, hh] at c3b0; cases c3b0
     obtain rfl := Option.some.inj H
     go_enter Try.func92, Try.ntmps92
     go_wp2_with (first | ((with_reducible refine gate_dst (N := 2) rfl ?_); refine box_event ?hg (N := 2) ?hd (cs := #[.int .i64 a0_0, .int .i64 a0_1]) (t := 130) ?hr ?_; (case hd => rfl); (case hg => rfl); (case hr => first | (go_simp; done) | (go_simp; rfl)); intro gb153 hg w22 hbox hb; have n0_ := Aa (Bp (by repeat (first | (with_reducible first | exact HB.out | apply Ba | apply Pn | apply Dn) | exact HB.out)) hb); have n1_ := Aa (hbox); have n2_ := Aa ((by rw [hg]; exact (below_size (by repeat (first | (with_reducible first | exact HB.out | apply Ba | apply Pn | apply Dn) | exact HB.out))) : w.heap.size ≤ gb153)); have n3_ := Aa ((by rw [hg]; exact (below_size (by repeat (first | (with_reducible first | exact HB.out | apply Ba | apply Pn | apply Dn) | exact HB.out))) : w.heap.size ≤ gb153)); clear HB; have HB := n0_; have BK153 := n1_; have GW153 := n2_; have GE153 := n3_; clear n0_ n1_ n2_ n3_; clear hb hbox hg) | ((with_reducible refine gate_dst (N := 3) rfl ?_); refine box_event ?hg (N := 3) ?hd (cs := #[.int .i64 a1_0, .int .i64 a1_1]) (t := 130) ?hr ?_; (case hd => rfl); (case hg => rfl); (case hr => first | (go_simp; done) | (go_simp; rfl)); intro gb154 hg w23 hbox hb; have n0_ := Aa (blk_below (g := gb153) (o := .cells #[.int .i64 a0_0, .int .i64 a0_1] 130 (0, 0)) (by (with_reducible repeat (first | refine Kn ?_ _ | refine Kw ?_ | refine Ka ?_ _)); exact BK153.out) hb); have n1_ := Aa (Bp (by repeat (first | (with_reducible first | exact HB.out | apply Ba | apply Pn | apply Dn | refine Bz ?_ GE153.out) | exact HB.out)) hb); have n2_ := Aa (hbox); have n3_ := Aa ((by rw [hg]; exact (below_size (by repeat (first | (with_reducible first | exact HB.out | apply Ba | apply Pn | apply Dn | refine Bz ?_ GE153.out) | exact HB.out))) : w.heap.size ≤ gb154)); have n4_ := Aa ((by rw [hg]; exact (below_size (by repeat (first | (with_reducible first | exact HB.out | apply Ba | apply Pn | apply Dn | refine Bz ?_ GE153.out) | exact HB.out))) : w.heap.size ≤ gb154)); have n5_ := Aa ((by rw [hg]; exact Nat.ne_of_lt (blk_lt (g := gb153) (o := .cells #[.int .i64 a0_0, .int .i64 a0_1] 130 (0, 0)) (by (with_reducible repeat (first | refine Kn ?_ _ | refine Kw ?_ | refine Ka ?_ _)); exact BK153.out)) : gb153 ≠ gb154)); have n6_ := Aa ((by rw [hg]; exact Nat.ne_of_gt (blk_lt (g := gb153) (o := .cells #[.int .i64 a0_0, .int .i64 a0_1] 130 (0, 0)) (by (with_reducible repeat (first | refine Kn ?_ _ | refine Kw ?_ | refine Ka ?_ _)); exact BK153.out)) : gb154 ≠ gb153)); clear BK153; clear HB; have BK153 := n0_; have HB := n1_; have BK154 := n2_; have GW154 := n3_; have GE154 := n4_; have NB153_154 := n5_; have NB154_153 := n6_; clear n0_ n1_ n2_ n3_ n4_ n5_ n6_; clear hb hbox hg; have hnb24 := NB153_154.out; have hnc24 := NB154_153.out; have hcz25_0 : w23.cell? ⟨gb153, 0, none⟩ = some (.int .i64 a0_0) := (Bc BK153.out 0).trans rfl; have hcz25_1 : w23.cell? ⟨gb153, 1, none⟩ = some (.int .i64 a0_1) := (Bc BK153.out 1).trans rfl; have hfz25_0 := Bf BK153.out 0; have hfz25_1 := Bf BK153.out 1; have hcz26_0 : w23.cell? ⟨gb154, 0, none⟩ = some (.int .i64 a1_0) := (Bc BK154.out 0).trans rfl; have hcz26_1 : w23.cell? ⟨gb154, 1, none⟩ = some (.int .i64 a1_1) := (Bc BK154.out 1).trans rfl; have hfz26_0 := Bf BK154.out 0; have hfz26_1 := Bf BK154.out 1))
     go_ret; exact ⟨by first | rfl | (simp [errW_none, errW_some] <;> rfl) | (simp [*, errW_none, errW_some] <;> rfl), by repeat (first | (with_reducible first | exact HB.out | apply Ba | apply Pn | apply Dn | refine Bz ?_ GE153.out | refine Bz ?_ GE154.out) | exact HB.out)⟩
   ·rw [if_neg c15] at H; have c15b0 : (a0_0 == a1_0) = false := beq_eq_false_iff_ne.mpr c15; have c15b1 : (a0_0 != a1_0) = true := bne_iff_ne.mpr c15; obtain rfl := Option.some.inj H
    go_enter Try.func92, Try.ntmps92
    go_wp2_with (first | ((with_reducible refine gate_dst (N := 2) rfl ?_); refine box_event ?hg (N := 2) ?hd (cs := #[.int .i64 a0_0, .int .i64 a0_1]) (t := 130) ?hr ?_; (case hd => rfl); (case hg => rfl); (case hr => first | (go_simp; done) | (go_simp; rfl)); intro gb153 hg w27 hbox hb; have n0_ := Aa (Bp (by repeat (first | (with_reducible first | exact HB.out | apply Ba | apply Pn | apply Dn) | exact HB.out)) hb); have n1_ := Aa (hbox); have n2_ := Aa ((by rw [hg]; exact (below_size (by repeat (first | (with_reducible first | exact HB.out | apply Ba | apply Pn | apply Dn) | exact HB.out))) : w.heap.size ≤ gb153)); have n3_ := Aa ((by rw [hg]; exact (below_size (by repeat (first | (with_reducible first | exact HB.out | apply Ba | apply Pn | apply Dn) | exact HB.out))) : w.heap.size ≤ gb153)); clear HB; have HB := n0_; have BK153 := n1_; have GW153 := n2_; have GE153 := n3_; clear n0_ n1_ n2_ n3_; clear hb hbox hg) | ((with_reducible refine gate_dst (N := 3) rfl ?_); refine box_event ?hg (N := 3) ?hd (cs := #[.int .i64 a1_0, .int .i64 a1_1]) (t := 130) ?hr ?_; (case hd => rfl); (case hg => rfl); (case hr => first | (go_simp; done) | (go_simp; rfl)); intro gb154 hg w28 hbox hb; have n0_ := Aa (blk_below (g := gb153) (o := .cells #[.int .i64 a0_0, .int .i64 a0_1] 130 (0, 0)) (by (with_reducible repeat (first | refine Kn ?_ _ | refine Kw ?_ | refine Ka ?_ _)); exact BK153.out) hb); have n1_ := Aa (Bp (by repeat (first | (with_reducible first | exact HB.out | apply Ba | apply Pn | apply Dn | refine Bz ?_ GE153.out) | exact HB.out)) hb); have n2_ := Aa (hbox); have n3_ := Aa ((by rw [hg]; exact (below_size (by repeat (first | (with_reducible first | exact HB.out | apply Ba | apply Pn | apply Dn | refine Bz ?_ GE153.out) | exact HB.out))) : w.heap.size ≤ gb154)); have n4_ := Aa ((by rw [hg]; exact (below_size (by repeat (first | (with_reducible first | exact HB.out | apply Ba | apply Pn | apply Dn | refine Bz ?_ GE153.out) | exact HB.out))) : w.heap.size ≤ gb154)); have n5_ := Aa ((by rw [hg]; exact Nat.ne_of_lt (blk_lt (g := gb153) (o := .cells #[.int .i64 a0_0, .int .i64 a0_1] 130 (0, 0)) (by (with_reducible repeat (first | refine Kn ?_ _ | refine Kw ?_ | refine Ka ?_ _)); exact BK153.out)) : gb153 ≠ gb154)); have n6_ := Aa ((by rw [hg]; exact Nat.ne_of_gt (blk_lt (g := gb153) (o := .cells #[.int .i64 a0_0, .int .i64 a0_1] 130 (0, 0)) (by (with_reducible repeat (first | refine Kn ?_ _ | refine Kw ?_ | refine Ka ?_ _)); exact BK153.out)) : gb154 ≠ gb153)); clear BK153; clear HB; have BK153 := n0_; have HB := n1_; have BK154 := n2_; have GW154 := n3_; have GE154 := n4_; have NB153_154 := n5_; have NB154_153 := n6_; clear n0_ n1_ n2_ n3_ n4_ n5_ n6_; clear hb hbox hg; have hnb29 := NB153_154.out; have hnc29 := NB154_153.out; have hcz30_0 : w28.cell? ⟨gb153, 0, none⟩ = some (.int .i64 a0_0) := (Bc BK153.out 0).trans rfl; have hcz30_1 : w28.cell? ⟨gb153, 1, none⟩ = some (.int .i64 a0_1) := (Bc BK153.out 1).trans rfl; have hfz30_0 := Bf BK153.out 0; have hfz30_1 := Bf BK153.out 1; have hcz31_0 : w28.cell? ⟨gb154, 0, none⟩ = some (.int .i64 a1_0) := (Bc BK154.out 0).trans rfl; have hcz31_1 : w28.cell? ⟨gb154, 1, none⟩ = some (.int .i64 a1_1) := (Bc BK154.out 1).trans rfl; have hfz31_0 := Bf BK154.out 0; have hfz31_1 := Bf BK154.out 1))
    go_ret; exact ⟨by first | rfl | (simp [errW_none, errW_some] <;> rfl) | (simp [*, errW_none, errW_some] <;> rfl), by repeat (first | (with_reducible first | exact HB.out | apply Ba | apply Pn | apply Dn | refine Bz ?_ GE153.out | refine Bz ?_ GE154.out) | exact HB.out)⟩
end
section
attribute [local go_sem] max2_int min2_int max_two min_two
def skew_Span.f (a0_0 : Int) (a0_1 : Int) (a0_2 : Int) (a1 : Int) : Option (Int × Int × Int) := (skew_reads.f a0_0 a0_1 a0_2 a1).bind fun t110 => (if t110 = true then ((skew_of.f a0_0 a0_1 a0_2 a1).bind fun bt111 => (some (bt111.1, bt111.2, 0))) else (some (0, 0, 2)))
set_option maxHeartbeats 8000000 in
set_option maxRecDepth 100000 in
theorem skew_Span.calls (a0_0 : Int) (a0_1 : Int) (a0_2 : Int) (a1 : Int) (r1 : Int) (r2 : Int) (r3 : Int) (w : World) (h : skew_Span.f a0_0 a0_1 a0_2 a1 = some (r1, r2, r3)) :
  Calls Try.prog 14 #[.agg #[.int .i64 a0_0, .int .i64 a0_1, .int .i64 a0_2], .int .i64 a1] w fun e w' => e = .returned (.tuple #[.agg #[.int .i64 r1, .int .i64 r2], .int .i64 r3]) ∧ Below w.heap.size w w' := by
 have hu23 := Try.underlying23; have hu27 := Try.underlying27; have HB := Aa (Below.refl w.heap.size w); have H : ((skew_reads.f a0_0 a0_1 a0_2 a1).bind fun t110 => (if t110 = true then ((skew_of.f a0_0 a0_1 a0_2 a1).bind fun bt111 => (some (bt111.1, bt111.2, 0))) else (some (0, 0, 2)))) = some (r1, r2, r3) := h; clear h; replace H := Option.bind_eq_some_iff.mp H; obtain ⟨t110, A30, H⟩ := H; replace H : (if t110 = true then ((skew_of.f a0_0 a0_1 a0_2 a1).bind fun bt111 => (some (bt111.1, bt111.2, 0))) else (some (0, 0, 2))) = some (r1, r2, r3) := H; have A3 := Aa A30; clear A30
 by_cases c4 : t110 = true
 ·subst c4
  have H1 : ((skew_of.f a0_0 a0_1 a0_2 a1).bind fun bt111 => (some (bt111.1, bt111.2, 0))) = some (r1, r2, r3) := by rw [if_pos rfl] at H; exact H
  clear H; have H := H1; clear H1; replace H := Option.bind_eq_some_iff.mp H; obtain ⟨⟨t111, t112⟩, A50, H⟩ := H; replace H : (some (t111, t112, 0)) = some (r1, r2, r3) := H; have A5 := Aa A50; clear A50; simp only [Option.some.injEq, Prod.mk.injEq] at H; obtain ⟨rfl, rfl, rfl⟩ := H
  go_enter Try.func14, Try.ntmps14
  go_wp2_with (first | ((with_reducible refine gate_dst (N := 2) rfl ?_); refine box_event ?hg (N := 2) ?hd (cs := #[.int .i64 a0_0, .int .i64 a0_1, .int .i64 a0_2]) (t := 23) ?hr ?_; (case hd => rfl); (case hg => rfl); (case hr => first | (go_simp; done) | (go_simp; rfl)); intro gb108 hg w6 hbox hb; have n0_ := Aa (Bp (by repeat (first | (with_reducible first | exact HB.out | apply Ba | apply Pn | apply Dn) | exact HB.out)) hb); have n1_ := Aa (hbox); have n2_ := Aa ((by rw [hg]; exact (below_size (by repeat (first | (with_reducible first | exact HB.out | apply Ba | apply Pn | apply Dn) | exact HB.out))) : w.heap.size ≤ gb108)); have n3_ := Aa ((by rw [hg]; exact (below_size (by repeat (first | (with_reducible first | exact HB.out | apply Ba | apply Pn | apply Dn) | exact HB.out))) : w.heap.size ≤ gb108)); clear HB; have HB := n0_; have BK108 := n1_; have GW108 := n2_; have GE108 := n3_; clear n0_ n1_ n2_ n3_; clear hb hbox hg) | ((with_reducible refine gate_dst (N := 4) rfl ?_); refine box_event ?hg (N := 4) ?hd (cs := #[.int .i64 0, .int .i64 0]) (t := 27) ?hr ?_; (case hd => rfl); (case hg => rfl); (case hr => first | (go_simp; done) | (go_simp; rfl)); intro gb109 hg w7 hbox hb; have n0_ := Aa (blk_below (g := gb108) (o := .cells #[.int .i64 a0_0, .int .i64 a0_1, .int .i64 a0_2] 23 (0, 0)) (by (with_reducible repeat (first | refine Kn ?_ _ | refine Kw ?_ | refine Ka ?_ _)); exact BK108.out) hb); have n1_ := Aa (Bp (by repeat (first | (with_reducible first | exact HB.out | apply Ba | apply Pn | apply Dn | refine Bz ?_ GE108.out) | exact HB.out)) hb); have n2_ := Aa (hbox); have n3_ := Aa ((by rw [hg]; exact (below_size (by repeat (first | (with_reducible first | exact HB.out | apply Ba | apply Pn | apply Dn | refine Bz ?_ GE108.out) | exact HB.out))) : w.heap.size ≤ gb109)); have n4_ := Aa ((by rw [hg]; exact (below_size (by repeat (first | (with_reducible first | exact HB.out | apply Ba | apply Pn | apply Dn | refine Bz ?_ GE108.out) | exact HB.out))) : w.heap.size ≤ gb109)); have n5_ := Aa ((by rw [hg]; exact Nat.ne_of_lt (blk_lt (g := gb108) (o := .cells #[.int .i64 a0_0, .int .i64 a0_1, .int .i64 a0_2] 23 (0, 0)) (by (with_reducible repeat (first | refine Kn ?_ _ | refine Kw ?_ | refine Ka ?_ _)); exact BK108.out)) : gb108 ≠ gb109)); have n6_ := Aa ((by rw [hg]; exact Nat.ne_of_gt (blk_lt (g := gb108) (o := .cells #[.int .i64 a0_0, .int .i64 a0_1, .int .i64 a0_2] 23 (0, 0)) (by (with_reducible repeat (first | refine Kn ?_ _ | refine Kw ?_ | refine Ka ?_ _)); exact BK108.out)) : gb109 ≠ gb108)); clear BK108; clear HB; have BK108 := n0_; have HB := n1_; have BK109 := n2_; have GW109 := n3_; have GE109 := n4_; have NB108_109 := n5_; have NB109_108 := n6_; clear n0_ n1_ n2_ n3_ n4_ n5_ n6_; clear hb hbox hg; have hnb8 := NB108_109.out; have hnc8 := NB109_108.out; have hcz9_0 : w7.cell? ⟨gb108, 0, none⟩ = some (.int .i64 a0_0) := (Bc BK108.out 0).trans rfl; have hcz9_1 : w7.cell? ⟨gb108, 1, none⟩ = some (.int .i64 a0_1) := (Bc BK108.out 1).trans rfl; have hcz9_2 : w7.cell? ⟨gb108, 2, none⟩ = some (.int .i64 a0_2) := (Bc BK108.out 2).trans rfl; have hfz9_0 := Bf BK108.out 0; have hfz9_1 := Bf BK108.out 1; have hfz9_2 := Bf BK108.out 2) | ((with_reducible refine gate_callee (f := 66) rfl ?_); refine goesL_ (some 8) rfl rfl Try.func66 (by kernel_rfl) rfl #[.agg #[.int .i64 a0_0, .int .i64 a0_1, .int .i64 a0_2], .int .i64 a1] rfl (by (try simp only [List.map_toArray, List.map_cons, List.map_nil]); first | done | rfl | (simp only [List.length_drop, List.length_take]; rfl)) ?_; (with_reducible refine (skew_reads.calls a0_0 a0_1 a0_2 a1 true _ A3.out).mono ?_); rintro e w10 ⟨rfl, hb⟩; refine ⟨_, rfl, ?_⟩; have n0_ := Aa (blk_below (g := gb108) (o := .cells #[.int .i64 a0_0, .int .i64 a0_1, .int .i64 a0_2] 23 (0, 0)) (by (with_reducible repeat (first | refine Kn ?_ _ | refine Kw ?_ | refine Ka ?_ _)); exact BK108.out) hb); have n1_ := Aa (blk_below (g := gb109) (o := .cells #[.int .i64 0, .int .i64 0] 27 (0, 0)) (by (with_reducible repeat (first | refine Kn ?_ _ | refine Kw ?_ | refine Ka ?_ _)); exact BK109.out) hb); have n2_ := Aa (Bp (by repeat (first | (with_reducible first | exact HB.out | apply Ba | apply Pn | apply Dn | refine Bz ?_ GE108.out | refine Bz ?_ GE109.out) | exact HB.out)) hb); clear BK108; clear BK109; clear HB; have BK108 := n0_; have BK109 := n1_; have HB := n2_; clear n0_ n1_ n2_; (try clear hb); (try clear hb2); (try clear hk); (try clear hi); have hcz11_0 : w10.cell? ⟨gb108, 0, none⟩ = some (.int .i64 a0_0) := (Bc BK108.out 0).trans rfl; have hcz11_1 : w10.cell? ⟨gb108, 1, none⟩ = some (.int .i64 a0_1) := (Bc BK108.out 1).trans rfl; have hcz11_2 : w10.cell? ⟨gb108, 2, none⟩ = some (.int .i64 a0_2) := (Bc BK108.out 2).trans rfl; have hfz11_0 := Bf BK108.out 0; have hfz11_1 := Bf BK108.out 1; have hfz11_2 := Bf BK108.out 2) | ((with_reducible refine gate_callee (f := 67) rfl ?_); refine goesL_ (some 13) rfl rfl Try.func67 (by kernel_rfl) rfl #[.agg #[.int .i64 a0_0, .int .i64 a0_1, .int .i64 a0_2], .int .i64 a1] rfl (by (try simp only [List.map_toArray, List.map_cons, List.map_nil]); first | done | rfl | (simp only [List.length_drop, List.length_take]; rfl)) ?_; (with_reducible refine (skew_of.calls a0_0 a0_1 a0_2 a1 t111 t112 _ A5.out).mono ?_); rintro e w12 ⟨rfl, hb⟩; refine ⟨_, rfl, ?_⟩; have n0_ := Aa (blk_below (g := gb108) (o := .cells #[.int .i64 a0_0, .int .i64 a0_1, .int .i64 a0_2] 23 (0, 0)) (by (with_reducible repeat (first | refine Kn ?_ _ | refine Kw ?_ | refine Ka ?_ _)); exact BK108.out) hb); have n1_ := Aa (blk_below (g := gb109) (o := .cells #[.int .i64 0, .int .i64 0] 27 (0, 0)) (by (with_reducible repeat (first | refine Kn ?_ _ | refine Kw ?_ | refine Ka ?_ _)); exact BK109.out) hb); have n2_ := Aa (Bp (by repeat (first | (with_reducible first | exact HB.out | apply Ba | apply Pn | apply Dn | refine Bz ?_ GE108.out | refine Bz ?_ GE109.out) | exact HB.out)) hb); clear BK108; clear BK109; clear HB; have BK108 := n0_; have BK109 := n1_; have HB := n2_; clear n0_ n1_ n2_; (try clear hb); (try clear hb2); (try clear hk); (try clear hi); have hcz13_0 : w12.cell? ⟨gb109, 0, none⟩ = some (.int .i64 0) := (Bc BK109.out 0).trans rfl; have hcz13_1 : w12.cell? ⟨gb109, 1, none⟩ = some (.int .i64 0) := (Bc BK109.out 1).trans rfl; have hfz13_0 := Bf BK109.out 0; have hfz13_1 := Bf BK109.out 1))
  refine bodyPost_ret (results_ct rfl _ _ gb109 27 #[.int .i64 t111, .int .i64 t112] (0, 0) _ rfl (by (with_reducible repeat (first | refine Kn ?_ _ | refine Kw ?_ | refine Ka ?_ _)); refine blk_put (cs := #[.int .i64 t111, .int .i64 0]) ?_ 1 _ rfl; (with_reducible repeat (first | refine Kn ?_ _ | refine Kw ?_ | refine Ka ?_ _)); refine blk_put (cs := #[.int .i64 0, .int .i64 0]) ?_ 0 _ rfl; (with_reducible repeat (first | refine Kn ?_ _ | refine Kw ?_ | refine Ka ?_ _)); exact BK109.out) Try.underlying27 rfl (by kernel_rfl)) rfl ?_; exact ⟨by first | rfl | (simp [errW_none, errW_some] <;> rfl) | (simp [*, errW_none, errW_some] <;> rfl), by repeat (first | (with_reducible first | exact HB.out | apply Ba | apply Pn | apply Dn | refine Bz ?_ GE108.out | refine Bz ?_ GE109.out) | exact HB.out)⟩
 ·replace c4 := Bool.eq_false_iff.mpr c4; subst c4
  have H1 : (some (0, 0, 2)) = some (r1, r2, r3) := by rw [if_neg (show ¬ (false = true) by decide)] at H; exact H
  clear H; have H := H1; clear H1; simp only [Option.some.injEq, Prod.mk.injEq] at H; obtain ⟨rfl, rfl, rfl⟩ := H
  go_enter Try.func14, Try.ntmps14
  go_wp2_with (first | ((with_reducible refine gate_dst (N := 2) rfl ?_); refine box_event ?hg (N := 2) ?hd (cs := #[.int .i64 a0_0, .int .i64 a0_1, .int .i64 a0_2]) (t := 23) ?hr ?_; (case hd => rfl); (case hg => rfl); (case hr => first | (go_simp; done) | (go_simp; rfl)); intro gb108 hg w14 hbox hb; have n0_ := Aa (Bp (by repeat (first | (with_reducible first | exact HB.out | apply Ba | apply Pn | apply Dn) | exact HB.out)) hb); have n1_ := Aa (hbox); have n2_ := Aa ((by rw [hg]; exact (below_size (by repeat (first | (with_reducible first | exact HB.out | apply Ba | apply Pn | apply Dn) | exact HB.out))) : w.heap.size ≤ gb108)); have n3_ := Aa ((by rw [hg]; exact (below_size (by repeat (first | (with_reducible first | exact HB.out | apply Ba | apply Pn | apply Dn) | exact HB.out))) : w.heap.size ≤ gb108)); clear HB; have HB := n0_; have BK108 := n1_; have GW108 := n2_; have GE108 := n3_; clear n0_ n1_ n2_ n3_; clear hb hbox hg) | ((with_reducible refine gate_dst (N := 4) rfl ?_); refine box_event ?hg (N := 4) ?hd (cs := #[.int .i64 0, .int .i64 0]) (t := 27) ?hr ?_; (case hd => rfl); (case hg => rfl); (case hr => first | (go_simp; done) | (go_simp; rfl)); intro gb109 hg w15 hbox hb; have n0_ := Aa (blk_below (g := gb108) (o := .cells #[.int .i64 a0_0, .int .i64 a0_1, .int .i64 a0_2] 23 (0, 0)) (by (with_reducible repeat (first | refine Kn ?_ _ | refine Kw ?_ | refine Ka ?_ _)); exact BK108.out) hb); have n1_ := Aa (Bp (by repeat (first | (with_reducible first | exact HB.out | apply Ba | apply Pn | apply Dn | refine Bz ?_ GE108.out) | exact HB.out)) hb); have n2_ := Aa (hbox); have n3_ := Aa ((by rw [hg]; exact (below_size (by repeat (first | (with_reducible first | exact HB.out | apply Ba | apply Pn | apply Dn | refine Bz ?_ GE108.out) | exact HB.out))) : w.heap.size ≤ gb109)); have n4_ := Aa ((by rw [hg]; exact (below_size (by repeat (first | (with_reducible first | exact HB.out | apply Ba | apply Pn | apply Dn | refine Bz ?_ GE108.out) | exact HB.out))) : w.heap.size ≤ gb109)); have n5_ := Aa ((by rw [hg]; exact Nat.ne_of_lt (blk_lt (g := gb108) (o := .cells #[.int .i64 a0_0, .int .i64 a0_1, .int .i64 a0_2] 23 (0, 0)) (by (with_reducible repeat (first | refine Kn ?_ _ | refine Kw ?_ | refine Ka ?_ _)); exact BK108.out)) : gb108 ≠ gb109)); have n6_ := Aa ((by rw [hg]; exact Nat.ne_of_gt (blk_lt (g := gb108) (o := .cells #[.int .i64 a0_0, .int .i64 a0_1, .int .i64 a0_2] 23 (0, 0)) (by (with_reducible repeat (first | refine Kn ?_ _ | refine Kw ?_ | refine Ka ?_ _)); exact BK108.out)) : gb109 ≠ gb108)); clear BK108; clear HB; have BK108 := n0_; have HB := n1_; have BK109 := n2_; have GW109 := n3_; have GE109 := n4_; have NB108_109 := n5_; have NB109_108 := n6_; clear n0_ n1_ n2_ n3_ n4_ n5_ n6_; clear hb hbox hg; have hnb16 := NB108_109.out; have hnc16 := NB109_108.out; have hcz17_0 : w15.cell? ⟨gb108, 0, none⟩ = some (.int .i64 a0_0) := (Bc BK108.out 0).trans rfl; have hcz17_1 : w15.cell? ⟨gb108, 1, none⟩ = some (.int .i64 a0_1) := (Bc BK108.out 1).trans rfl; have hcz17_2 : w15.cell? ⟨gb108, 2, none⟩ = some (.int .i64 a0_2) := (Bc BK108.out 2).trans rfl; have hfz17_0 := Bf BK108.out 0; have hfz17_1 := Bf BK108.out 1; have hfz17_2 := Bf BK108.out 2) | ((with_reducible refine gate_callee (f := 66) rfl ?_); refine goesL_ (some 8) rfl rfl Try.func66 (by kernel_rfl) rfl #[.agg #[.int .i64 a0_0, .int .i64 a0_1, .int .i64 a0_2], .int .i64 a1] rfl (by (try simp only [List.map_toArray, List.map_cons, List.map_nil]); first | done | rfl | (simp only [List.length_drop, List.length_take]; rfl)) ?_; (with_reducible refine (skew_reads.calls a0_0 a0_1 a0_2 a1 false _ A3.out).mono ?_); rintro e w18 ⟨rfl, hb⟩; refine ⟨_, rfl, ?_⟩; have n0_ := Aa (blk_below (g := gb108) (o := .cells #[.int .i64 a0_0, .int .i64 a0_1, .int .i64 a0_2] 23 (0, 0)) (by (with_reducible repeat (first | refine Kn ?_ _ | refine Kw ?_ | refine Ka ?_ _)); exact BK108.out) hb); have n1_ := Aa (blk_below (g := gb109) (o := .cells #[.int .i64 0, .int .i64 0] 27 (0, 0)) (by (with_reducible repeat (first | refine Kn ?_ _ | refine Kw ?_ | refine Ka ?_ _)); exact BK109.out) hb); have n2_ := Aa (Bp (by repeat (first | (with_reducible first | exact HB.out | apply Ba | apply Pn | apply Dn | refine Bz ?_ GE108.out | refine Bz ?_ GE109.out) | exact HB.out)) hb); clear BK108; clear BK109; clear HB; have BK108 := n0_; have BK109 := n1_; have HB := n2_; clear n0_ n1_ n2_; (try clear hb); (try clear hb2); (try clear hk); (try clear hi); have hcz19_0 : w18.cell? ⟨gb109, 0, none⟩ = some (.int .i64 0) := (Bc BK109.out 0).trans rfl; have hcz19_1 : w18.cell? ⟨gb109, 1, none⟩ = some (.int .i64 0) := (Bc BK109.out 1).trans rfl; have hfz19_0 := Bf BK109.out 0; have hfz19_1 := Bf BK109.out 1))
  refine bodyPost_ret (results_ct rfl _ _ gb109 27 #[.int .i64 0, .int .i64 0] (0, 0) _ rfl (by (with_reducible repeat (first | refine Kn ?_ _ | refine Kw ?_ | refine Ka ?_ _)); refine blk_put (cs := #[.int .i64 0, .int .i64 0]) ?_ 1 _ rfl; (with_reducible repeat (first | refine Kn ?_ _ | refine Kw ?_ | refine Ka ?_ _)); refine blk_put (cs := #[.int .i64 0, .int .i64 0]) ?_ 0 _ rfl; (with_reducible repeat (first | refine Kn ?_ _ | refine Kw ?_ | refine Ka ?_ _)); exact BK109.out) Try.underlying27 rfl (by kernel_rfl)) rfl ?_; exact ⟨by first | rfl | (simp [errW_none, errW_some] <;> rfl) | (simp [*, errW_none, errW_some] <;> rfl), by repeat (first | (with_reducible first | exact HB.out | apply Ba | apply Pn | apply Dn | refine Bz ?_ GE108.out | refine Bz ?_ GE109.out) | exact HB.out)⟩
end
section
attribute [local go_sem] max2_int min2_int max_two min_two
def skew_Mark.f (a0_0 : Int) (a0_1 : Int) (a0_2 : Int) (a1 : Int) (a2 : Int) (a3 : Int) : Option (Int × Int) := (skew_reads.f a0_0 a0_1 a0_2 a1).bind fun t130 => (if t130 = true then ((skew_within.f a2 0 100000).bind fun t131 => (if t131 = true then ((skew_within.f a3 0 100000).bind fun t132 => (if t132 = true then ((skew_of.f a0_0 a0_1 a0_2 a1).bind fun bt133 => (some (mx 0 (wrap64 ((wrap64 (bt133.1 - a2)) - a3)), 0))) else (some (0, 2)))) else (some (0, 2)))) else (some (0, 2)))
set_option maxHeartbeats 8000000 in
set_option maxRecDepth 100000 in
theorem skew_Mark.calls (a0_0 : Int) (a0_1 : Int) (a0_2 : Int) (a1 : Int) (a2 : Int) (a3 : Int) (r1 : Int) (r2 : Int) (w : World) (h : skew_Mark.f a0_0 a0_1 a0_2 a1 a2 a3 = some (r1, r2)) :
  Calls Try.prog 18 #[.agg #[.int .i64 a0_0, .int .i64 a0_1, .int .i64 a0_2], .int .i64 a1, .int .i64 a2, .int .i64 a3] w fun e w' => e = .returned (.tuple #[.int .i64 r1, .int .i64 r2]) ∧ Below w.heap.size w w' := by
 have hfd27_0 : ∀ (x0 x1 : Int) (W : World), (Instr.field 27 (.agg #[.int .i64 x0, .int .i64 x1]) 0).run Try.prog W = .ok (.int .i64 x0) W := fun _ _ _ => by kernel_rfl
 have hu23 := Try.underlying23; have HB := Aa (Below.refl w.heap.size w); have H : ((skew_reads.f a0_0 a0_1 a0_2 a1).bind fun t130 => (if t130 = true then ((skew_within.f a2 0 100000).bind fun t131 => (if t131 = true then ((skew_within.f a3 0 100000).bind fun t132 => (if t132 = true then ((skew_of.f a0_0 a0_1 a0_2 a1).bind fun bt133 => (some (mx 0 (wrap64 ((wrap64 (bt133.1 - a2)) - a3)), 0))) else (some (0, 2)))) else (some (0, 2)))) else (some (0, 2)))) = some (r1, r2) := h; clear h; replace H := Option.bind_eq_some_iff.mp H; obtain ⟨t130, A50, H⟩ := H; replace H : (if t130 = true then ((skew_within.f a2 0 100000).bind fun t131 => (if t131 = true then ((skew_within.f a3 0 100000).bind fun t132 => (if t132 = true then ((skew_of.f a0_0 a0_1 a0_2 a1).bind fun bt133 => (some (mx 0 (wrap64 ((wrap64 (bt133.1 - a2)) - a3)), 0))) else (some (0, 2)))) else (some (0, 2)))) else (some (0, 2))) = some (r1, r2) := H; have A5 := Aa A50; clear A50
 by_cases c6 : t130 = true
 ·subst c6
  have H1 : ((skew_within.f a2 0 100000).bind fun t131 => (if t131 = true then ((skew_within.f a3 0 100000).bind fun t132 => (if t132 = true then ((skew_of.f a0_0 a0_1 a0_2 a1).bind fun bt133 => (some (mx 0 (wrap64 ((wrap64 (bt133.1 - a2)) - a3)), 0))) else (some (0, 2)))) else (some (0, 2)))) = some (r1, r2) := by rw [if_pos rfl] at H; exact H
  clear H; have H := H1; clear H1; replace H := Option.bind_eq_some_iff.mp H; obtain ⟨t131, A70, H⟩ := H; replace H : (if t131 = true then ((skew_within.f a3 0 100000).bind fun t132 => (if t132 = true then ((skew_of.f a0_0 a0_1 a0_2 a1).bind fun bt133 => (some (mx 0 (wrap64 ((wrap64 (bt133.1 - a2)) - a3)), 0))) else (some (0, 2)))) else (some (0, 2))) = some (r1, r2) := H; have A7 := Aa A70; clear A70
  by_cases c8 : t131 = true
  ·subst c8
   have H1 : ((skew_within.f a3 0 100000).bind fun t132 => (if t132 = true then ((skew_of.f a0_0 a0_1 a0_2 a1).bind fun bt133 => (some (mx 0 (wrap64 ((wrap64 (bt133.1 - a2)) - a3)), 0))) else (some (0, 2)))) = some (r1, r2) := by rw [if_pos rfl] at H; exact H
   clear H; have H := H1; clear H1; replace H := Option.bind_eq_some_iff.mp H; obtain ⟨t132, A90, H⟩ := H; replace H : (if t132 = true then ((skew_of.f a0_0 a0_1 a0_2 a1).bind fun bt133 => (some (mx 0 (wrap64 ((wrap64 (bt133.1 - a2)) - a3)), 0))) else (some (0, 2))) = some (r1, r2) := H; have A9 := Aa A90; clear A90
   by_cases c10 : t132 = true
   ·subst c10
    have H1 : ((skew_of.f a0_0 a0_1 a0_2 a1).bind fun bt133 => (some (mx 0 (wrap64 ((wrap64 (bt133.1 - a2)) - a3)), 0))) = some (r1, r2) := by rw [if_pos rfl] at H; exact H
    clear H; have H := H1; clear H1; replace H := Option.bind_eq_some_iff.mp H; obtain ⟨⟨t133, t134⟩, A110, H⟩ := H; replace H : (some (mx 0 (wrap64 ((wrap64 (t133 - a2)) - a3)), 0)) = some (r1, r2) := H; have A11 := Aa A110; clear A110
    obtain ⟨ji12, hji12⟩ : ∃ j_ : Int, (mx 0 (wrap64 ((wrap64 (t133 - a2)) - a3))) = j_ := ⟨_, rfl⟩
    replace H : (some (ji12, 0)) = some (r1, r2) := by first | (rw [hji12] at H; exact H) | (simp only [hji12] at H ⊢; exact H)
    (try rw [hji12] at A5)
    (try rw [hji12] at A7)
    (try rw [hji12] at A9)
    (try rw [hji12] at A11)
    (try (have hji12l : 0 ≤ ji12 := by (rw [← hji12]; unfold mx; (repeat' split) <;> omega)))
    (try (have hji12m : 0 ≤ ji12 := by omega))
    have hji12_ : (if 0 < (wrap64 ((wrap64 (t133 - a2)) - a3)) then (wrap64 ((wrap64 (t133 - a2)) - a3)) else 0) = ji12 := hji12; simp only [Option.some.injEq, Prod.mk.injEq] at H; obtain ⟨rfl, rfl⟩ := H
    go_enter Try.func18, Try.ntmps18
    go_wp2_with (first | ((with_reducible refine gate_dst (N := 4) rfl ?_); refine box_event ?hg (N := 4) ?hd (cs := #[.int .i64 a0_0, .int .i64 a0_1, .int .i64 a0_2]) (t := 23) ?hr ?_; (case hd => rfl); (case hg => rfl); (case hr => first | (go_simp; done) | (go_simp; rfl)); intro gb129 hg w13 hbox hb; have n0_ := Aa (Bp (by repeat (first | (with_reducible first | exact HB.out | apply Ba | apply Pn | apply Dn) | exact HB.out)) hb); have n1_ := Aa (hbox); have n2_ := Aa ((by rw [hg]; exact (below_size (by repeat (first | (with_reducible first | exact HB.out | apply Ba | apply Pn | apply Dn) | exact HB.out))) : w.heap.size ≤ gb129)); have n3_ := Aa ((by rw [hg]; exact (below_size (by repeat (first | (with_reducible first | exact HB.out | apply Ba | apply Pn | apply Dn) | exact HB.out))) : w.heap.size ≤ gb129)); clear HB; have HB := n0_; have BK129 := n1_; have GW129 := n2_; have GE129 := n3_; clear n0_ n1_ n2_ n3_; clear hb hbox hg; have hcz14_0 : w13.cell? ⟨gb129, 0, none⟩ = some (.int .i64 a0_0) := (Bc BK129.out 0).trans rfl; have hcz14_1 : w13.cell? ⟨gb129, 1, none⟩ = some (.int .i64 a0_1) := (Bc BK129.out 1).trans rfl; have hcz14_2 : w13.cell? ⟨gb129, 2, none⟩ = some (.int .i64 a0_2) := (Bc BK129.out 2).trans rfl; have hfz14_0 := Bf BK129.out 0; have hfz14_1 := Bf BK129.out 1; have hfz14_2 := Bf BK129.out 2) | ((with_reducible refine gate_callee (f := 66) rfl ?_); refine goesL_ (some 12) rfl rfl Try.func66 (by kernel_rfl) rfl #[.agg #[.int .i64 a0_0, .int .i64 a0_1, .int .i64 a0_2], .int .i64 a1] rfl (by (try simp only [List.map_toArray, List.map_cons, List.map_nil]); first | done | rfl | (simp only [List.length_drop, List.length_take]; rfl)) ?_; (with_reducible refine (skew_reads.calls a0_0 a0_1 a0_2 a1 true _ A5.out).mono ?_); rintro e w15 ⟨rfl, hb⟩; refine ⟨_, rfl, ?_⟩; have n0_ := Aa (blk_below (g := gb129) (o := .cells #[.int .i64 a0_0, .int .i64 a0_1, .int .i64 a0_2] 23 (0, 0)) (by (with_reducible repeat (first | refine Kn ?_ _ | refine Kw ?_ | refine Ka ?_ _)); exact BK129.out) hb); have n1_ := Aa (Bp (by repeat (first | (with_reducible first | exact HB.out | apply Ba | apply Pn | apply Dn | refine Bz ?_ GE129.out) | exact HB.out)) hb); clear BK129; clear HB; have BK129 := n0_; have HB := n1_; clear n0_ n1_; (try clear hb); (try clear hb2); (try clear hk); (try clear hi)) | (go_at_call 68; (with_reducible refine (skew_within.calls a2 0 100000 true _ A7.out).mono ?_); rintro e w' ⟨rfl, ⟨nd, rfl⟩⟩) | (go_at_call 68; (with_reducible refine (skew_within.calls a3 0 100000 true _ A9.out).mono ?_); rintro e w' ⟨rfl, ⟨nd, rfl⟩⟩; have hcz16_0 : w15.cell? ⟨gb129, 0, none⟩ = some (.int .i64 a0_0) := (Bc BK129.out 0).trans rfl; have hcz16_1 : w15.cell? ⟨gb129, 1, none⟩ = some (.int .i64 a0_1) := (Bc BK129.out 1).trans rfl; have hcz16_2 : w15.cell? ⟨gb129, 2, none⟩ = some (.int .i64 a0_2) := (Bc BK129.out 2).trans rfl; have hfz16_0 := Bf BK129.out 0; have hfz16_1 := Bf BK129.out 1; have hfz16_2 := Bf BK129.out 2) | ((with_reducible refine gate_callee (f := 67) rfl ?_); refine goesL_ (some 26) rfl rfl Try.func67 (by kernel_rfl) rfl #[.agg #[.int .i64 a0_0, .int .i64 a0_1, .int .i64 a0_2], .int .i64 a1] rfl (by (try simp only [List.map_toArray, List.map_cons, List.map_nil]); first | done | rfl | (simp only [List.length_drop, List.length_take]; rfl)) ?_; (with_reducible refine (skew_of.calls a0_0 a0_1 a0_2 a1 t133 t134 _ A11.out).mono ?_); rintro e w17 ⟨rfl, hb⟩; refine ⟨_, rfl, ?_⟩; have n0_ := Aa (blk_below (g := gb129) (o := .cells #[.int .i64 a0_0, .int .i64 a0_1, .int .i64 a0_2] 23 (0, 0)) (by (with_reducible repeat (first | refine Kn ?_ _ | refine Kw ?_ | refine Ka ?_ _)); exact BK129.out) hb); have n1_ := Aa (Bp (by repeat (first | (with_reducible first | exact HB.out | apply Ba | apply Pn | apply Dn | refine Bz ?_ GE129.out) | exact HB.out)) hb); clear BK129; clear HB; have BK129 := n0_; have HB := n1_; clear n0_ n1_; (try clear hb); (try clear hb2); (try clear hk); (try clear hi)))
    go_ret2; exact ⟨by first | rfl | (simp [errW_none, errW_some] <;> rfl) | (simp only [← hji12]; first | rfl | (simp [errW_none, errW_some] <;> rfl)) | (simp [*, errW_none, errW_some] <;> rfl), by repeat (first | (with_reducible first | exact HB.out | apply Ba | apply Pn | apply Dn | refine Bz ?_ GE129.out) | exact HB.out)⟩
   ·replace c10 := Bool.eq_false_iff.mpr c10; subst c10
    have H1 : (some (0, 2)) = some (r1, r2) := by rw [if_neg (show ¬ (false = true) by decide)] at H; exact H
    clear H; have H := H1; clear H1; simp only [Option.some.injEq, Prod.mk.injEq] at H; obtain ⟨rfl, rfl⟩ := H
    go_enter Try.func18, Try.ntmps18
    go_wp2_with (first | ((with_reducible refine gate_dst (N := 4) rfl ?_); refine box_event ?hg (N := 4) ?hd (cs := #[.int .i64 a0_0, .int .i64 a0_1, .int .i64 a0_2]) (t := 23) ?hr ?_; (case hd => rfl); (case hg => rfl); (case hr => first | (go_simp; done) | (go_simp; rfl)); intro gb129 hg w18 hbox hb; have n0_ := Aa (Bp (by repeat (first | (with_reducible first | exact HB.out | apply Ba | apply Pn | apply Dn) | exact HB.out)) hb); have n1_ := Aa (hbox); have n2_ := Aa ((by rw [hg]; exact (below_size (by repeat (first | (with_reducible first | exact HB.out | apply Ba | apply Pn | apply Dn) | exact HB.out))) : w.heap.size ≤ gb129)); have n3_ := Aa ((by rw [hg]; exact (below_size (by repeat (first | (with_reducible first | exact HB.out | apply Ba | apply Pn | apply Dn) | exact HB.out))) : w.heap.size ≤ gb129)); clear HB; have HB := n0_; have BK129 := n1_; have GW129 := n2_; have GE129 := n3_; clear n0_ n1_ n2_ n3_; clear hb hbox hg; have hcz19_0 : w18.cell? ⟨gb129, 0, none⟩ = some (.int .i64 a0_0) := (Bc BK129.out 0).trans rfl; have hcz19_1 : w18.cell? ⟨gb129, 1, none⟩ = some (.int .i64 a0_1) := (Bc BK129.out 1).trans rfl; have hcz19_2 : w18.cell? ⟨gb129, 2, none⟩ = some (.int .i64 a0_2) := (Bc BK129.out 2).trans rfl; have hfz19_0 := Bf BK129.out 0; have hfz19_1 := Bf BK129.out 1; have hfz19_2 := Bf BK129.out 2) | ((with_reducible refine gate_callee (f := 66) rfl ?_); refine goesL_ (some 12) rfl rfl Try.func66 (by kernel_rfl) rfl #[.agg #[.int .i64 a0_0, .int .i64 a0_1, .int .i64 a0_2], .int .i64 a1] rfl (by (try simp only [List.map_toArray, List.map_cons, List.map_nil]); first | done | rfl | (simp only [List.length_drop, List.length_take]; rfl)) ?_; (with_reducible refine (skew_reads.calls a0_0 a0_1 a0_2 a1 true _ A5.out).mono ?_); rintro e w20 ⟨rfl, hb⟩; refine ⟨_, rfl, ?_⟩; have n0_ := Aa (blk_below (g := gb129) (o := .cells #[.int .i64 a0_0, .int .i64 a0_1, .int .i64 a0_2] 23 (0, 0)) (by (with_reducible repeat (first | refine Kn ?_ _ | refine Kw ?_ | refine Ka ?_ _)); exact BK129.out) hb); have n1_ := Aa (Bp (by repeat (first | (with_reducible first | exact HB.out | apply Ba | apply Pn | apply Dn | refine Bz ?_ GE129.out) | exact HB.out)) hb); clear BK129; clear HB; have BK129 := n0_; have HB := n1_; clear n0_ n1_; (try clear hb); (try clear hb2); (try clear hk); (try clear hi)) | (go_at_call 68; (with_reducible refine (skew_within.calls a2 0 100000 true _ A7.out).mono ?_); rintro e w' ⟨rfl, ⟨nd, rfl⟩⟩) | (go_at_call 68; (with_reducible refine (skew_within.calls a3 0 100000 false _ A9.out).mono ?_); rintro e w' ⟨rfl, ⟨nd, rfl⟩⟩))
    go_ret2; exact ⟨by first | rfl | (simp [errW_none, errW_some] <;> rfl) | (simp [*, errW_none, errW_some] <;> rfl), by repeat (first | (with_reducible first | exact HB.out | apply Ba | apply Pn | apply Dn | refine Bz ?_ GE129.out) | exact HB.out)⟩
  ·replace c8 := Bool.eq_false_iff.mpr c8; subst c8
   have H1 : (some (0, 2)) = some (r1, r2) := by rw [if_neg (show ¬ (false = true) by decide)] at H; exact H
   clear H; have H := H1; clear H1; simp only [Option.some.injEq, Prod.mk.injEq] at H; obtain ⟨rfl, rfl⟩ := H
   go_enter Try.func18, Try.ntmps18
   go_wp2_with (first | ((with_reducible refine gate_dst (N := 4) rfl ?_); refine box_event ?hg (N := 4) ?hd (cs := #[.int .i64 a0_0, .int .i64 a0_1, .int .i64 a0_2]) (t := 23) ?hr ?_; (case hd => rfl); (case hg => rfl); (case hr => first | (go_simp; done) | (go_simp; rfl)); intro gb129 hg w21 hbox hb; have n0_ := Aa (Bp (by repeat (first | (with_reducible first | exact HB.out | apply Ba | apply Pn | apply Dn) | exact HB.out)) hb); have n1_ := Aa (hbox); have n2_ := Aa ((by rw [hg]; exact (below_size (by repeat (first | (with_reducible first | exact HB.out | apply Ba | apply Pn | apply Dn) | exact HB.out))) : w.heap.size ≤ gb129)); have n3_ := Aa ((by rw [hg]; exact (below_size (by repeat (first | (with_reducible first | exact HB.out | apply Ba | apply Pn | apply Dn) | exact HB.out))) : w.heap.size ≤ gb129)); clear HB; have HB := n0_; have BK129 := n1_; have GW129 := n2_; have GE129 := n3_; clear n0_ n1_ n2_ n3_; clear hb hbox hg; have hcz22_0 : w21.cell? ⟨gb129, 0, none⟩ = some (.int .i64 a0_0) := (Bc BK129.out 0).trans rfl; have hcz22_1 : w21.cell? ⟨gb129, 1, none⟩ = some (.int .i64 a0_1) := (Bc BK129.out 1).trans rfl; have hcz22_2 : w21.cell? ⟨gb129, 2, none⟩ = some (.int .i64 a0_2) := (Bc BK129.out 2).trans rfl; have hfz22_0 := Bf BK129.out 0; have hfz22_1 := Bf BK129.out 1; have hfz22_2 := Bf BK129.out 2) | ((with_reducible refine gate_callee (f := 66) rfl ?_); refine goesL_ (some 12) rfl rfl Try.func66 (by kernel_rfl) rfl #[.agg #[.int .i64 a0_0, .int .i64 a0_1, .int .i64 a0_2], .int .i64 a1] rfl (by (try simp only [List.map_toArray, List.map_cons, List.map_nil]); first | done | rfl | (simp only [List.length_drop, List.length_take]; rfl)) ?_; (with_reducible refine (skew_reads.calls a0_0 a0_1 a0_2 a1 true _ A5.out).mono ?_); rintro e w23 ⟨rfl, hb⟩; refine ⟨_, rfl, ?_⟩; have n0_ := Aa (blk_below (g := gb129) (o := .cells #[.int .i64 a0_0, .int .i64 a0_1, .int .i64 a0_2] 23 (0, 0)) (by (with_reducible repeat (first | refine Kn ?_ _ | refine Kw ?_ | refine Ka ?_ _)); exact BK129.out) hb); have n1_ := Aa (Bp (by repeat (first | (with_reducible first | exact HB.out | apply Ba | apply Pn | apply Dn | refine Bz ?_ GE129.out) | exact HB.out)) hb); clear BK129; clear HB; have BK129 := n0_; have HB := n1_; clear n0_ n1_; (try clear hb); (try clear hb2); (try clear hk); (try clear hi)) | (go_at_call 68; (with_reducible refine (skew_within.calls a2 0 100000 false _ A7.out).mono ?_); rintro e w' ⟨rfl, ⟨nd, rfl⟩⟩))
   go_ret2; exact ⟨by first | rfl | (simp [errW_none, errW_some] <;> rfl) | (simp [*, errW_none, errW_some] <;> rfl), by repeat (first | (with_reducible first | exact HB.out | apply Ba | apply Pn | apply Dn | refine Bz ?_ GE129.out) | exact HB.out)⟩
 ·replace c6 := Bool.eq_false_iff.mpr c6; subst c6
  have H1 : (some (0, 2)) = some (r1, r2) := by rw [if_neg (show ¬ (false = true) by decide)] at H; exact H
  clear H; have H := H1; clear H1; simp only [Option.some.injEq, Prod.mk.injEq] at H; obtain ⟨rfl, rfl⟩ := H
  go_enter Try.func18, Try.ntmps18
  go_wp2_with (first | ((with_reducible refine gate_dst (N := 4) rfl ?_); refine box_event ?hg (N := 4) ?hd (cs := #[.int .i64 a0_0, .int .i64 a0_1, .int .i64 a0_2]) (t := 23) ?hr ?_; (case hd => rfl); (case hg => rfl); (case hr => first | (go_simp; done) | (go_simp; rfl)); intro gb129 hg w24 hbox hb; have n0_ := Aa (Bp (by repeat (first | (with_reducible first | exact HB.out | apply Ba | apply Pn | apply Dn) | exact HB.out)) hb); have n1_ := Aa (hbox); have n2_ := Aa ((by rw [hg]; exact (below_size (by repeat (first | (with_reducible first | exact HB.out | apply Ba | apply Pn | apply Dn) | exact HB.out))) : w.heap.size ≤ gb129)); have n3_ := Aa ((by rw [hg]; exact (below_size (by repeat (first | (with_reducible first | exact HB.out | apply Ba | apply Pn | apply Dn) | exact HB.out))) : w.heap.size ≤ gb129)); clear HB; have HB := n0_; have BK129 := n1_; have GW129 := n2_; have GE129 := n3_; clear n0_ n1_ n2_ n3_; clear hb hbox hg; have hcz25_0 : w24.cell? ⟨gb129, 0, none⟩ = some (.int .i64 a0_0) := (Bc BK129.out 0).trans rfl; have hcz25_1 : w24.cell? ⟨gb129, 1, none⟩ = some (.int .i64 a0_1) := (Bc BK129.out 1).trans rfl; have hcz25_2 : w24.cell? ⟨gb129, 2, none⟩ = some (.int .i64 a0_2) := (Bc BK129.out 2).trans rfl; have hfz25_0 := Bf BK129.out 0; have hfz25_1 := Bf BK129.out 1; have hfz25_2 := Bf BK129.out 2) | ((with_reducible refine gate_callee (f := 66) rfl ?_); refine goesL_ (some 12) rfl rfl Try.func66 (by kernel_rfl) rfl #[.agg #[.int .i64 a0_0, .int .i64 a0_1, .int .i64 a0_2], .int .i64 a1] rfl (by (try simp only [List.map_toArray, List.map_cons, List.map_nil]); first | done | rfl | (simp only [List.length_drop, List.length_take]; rfl)) ?_; (with_reducible refine (skew_reads.calls a0_0 a0_1 a0_2 a1 false _ A5.out).mono ?_); rintro e w26 ⟨rfl, hb⟩; refine ⟨_, rfl, ?_⟩; have n0_ := Aa (blk_below (g := gb129) (o := .cells #[.int .i64 a0_0, .int .i64 a0_1, .int .i64 a0_2] 23 (0, 0)) (by (with_reducible repeat (first | refine Kn ?_ _ | refine Kw ?_ | refine Ka ?_ _)); exact BK129.out) hb); have n1_ := Aa (Bp (by repeat (first | (with_reducible first | exact HB.out | apply Ba | apply Pn | apply Dn | refine Bz ?_ GE129.out) | exact HB.out)) hb); clear BK129; clear HB; have BK129 := n0_; have HB := n1_; clear n0_ n1_; (try clear hb); (try clear hb2); (try clear hk); (try clear hi)))
  go_ret2; exact ⟨by first | rfl | (simp [errW_none, errW_some] <;> rfl) | (simp [*, errW_none, errW_some] <;> rfl), by repeat (first | (with_reducible first | exact HB.out | apply Ba | apply Pn | apply Dn | refine Bz ?_ GE129.out) | exact HB.out)⟩
end
section
attribute [local go_sem] max2_int min2_int max_two min_two
def lw_Clock.f  : Option (Int × Int × Int) := some (100, 3, 50)
set_option maxHeartbeats 8000000 in
set_option maxRecDepth 100000 in
theorem lw_Clock.calls  (r1 : Int) (r2 : Int) (r3 : Int) (w : World) (h : lw_Clock.f  = some (r1, r2, r3)) :
  Calls Try.prog 72 #[] w fun e w' => e = .returned (.agg #[.int .i64 r1, .int .i64 r2, .int .i64 r3]) ∧ Below w.heap.size w w' := by
 have hu23 := Try.underlying23; have HB := Aa (Below.refl w.heap.size w); have H : (some (100, 3, 50)) = some (r1, r2, r3) := h; clear h; simp only [Option.some.injEq, Prod.mk.injEq] at H; obtain ⟨rfl, rfl, rfl⟩ := H
 go_enter Try.func72, Try.ntmps72
 go_wp2_with (first | ((with_reducible refine gate_dst (N := 0) rfl ?_); refine box_event ?hg (N := 0) ?hd (cs := #[.int .i64 0, .int .i64 0, .int .i64 0]) (t := 23) ?hr ?_; (case hd => rfl); (case hg => rfl); (case hr => first | (go_simp; done) | (go_simp; rfl)); intro gb179 hg w1 hbox hb; have n0_ := Aa (Bp (by repeat (first | (with_reducible first | exact HB.out | apply Ba | apply Pn | apply Dn) | exact HB.out)) hb); have n1_ := Aa (hbox); have n2_ := Aa ((by rw [hg]; exact (below_size (by repeat (first | (with_reducible first | exact HB.out | apply Ba | apply Pn | apply Dn) | exact HB.out))) : w.heap.size ≤ gb179)); have n3_ := Aa ((by rw [hg]; exact (below_size (by repeat (first | (with_reducible first | exact HB.out | apply Ba | apply Pn | apply Dn) | exact HB.out))) : w.heap.size ≤ gb179)); clear HB; have HB := n0_; have BK179 := n1_; have GW179 := n2_; have GE179 := n3_; clear n0_ n1_ n2_ n3_; clear hb hbox hg; have hcz2_0 : w1.cell? ⟨gb179, 0, none⟩ = some (.int .i64 0) := (Bc BK179.out 0).trans rfl; have hcz2_1 : w1.cell? ⟨gb179, 1, none⟩ = some (.int .i64 0) := (Bc BK179.out 1).trans rfl; have hcz2_2 : w1.cell? ⟨gb179, 2, none⟩ = some (.int .i64 0) := (Bc BK179.out 2).trans rfl; have hfz2_0 := Bf BK179.out 0; have hfz2_1 := Bf BK179.out 1; have hfz2_2 := Bf BK179.out 2))
 refine bodyPost_ret (results_cell_row rfl _ _ gb179 23 #[.int .i64 100, .int .i64 3, .int .i64 50] (0, 0) _ rfl (by (with_reducible repeat (first | refine Kn ?_ _ | refine Kw ?_ | refine Ka ?_ _)); refine blk_put (cs := #[.int .i64 100, .int .i64 3, .int .i64 0]) ?_ 2 _ rfl; (with_reducible repeat (first | refine Kn ?_ _ | refine Kw ?_ | refine Ka ?_ _)); refine blk_put (cs := #[.int .i64 100, .int .i64 0, .int .i64 0]) ?_ 1 _ rfl; (with_reducible repeat (first | refine Kn ?_ _ | refine Kw ?_ | refine Ka ?_ _)); refine blk_put (cs := #[.int .i64 0, .int .i64 0, .int .i64 0]) ?_ 0 _ rfl; (with_reducible repeat (first | refine Kn ?_ _ | refine Kw ?_ | refine Ka ?_ _)); exact BK179.out) Try.underlying23 rfl (by kernel_rfl)) rfl ?_; exact ⟨by first | rfl | (simp [errW_none, errW_some] <;> rfl) | (simp [*, errW_none, errW_some] <;> rfl), by repeat (first | (with_reducible first | exact HB.out | apply Ba | apply Pn | apply Dn | refine Bz ?_ GE179.out) | exact HB.out)⟩
end
section
attribute [local go_sem] max2_int min2_int max_two min_two
def lw_Span.f (a0 : Int) (a1 : Int) : Option (Int × Int) := some (a0, a1)
set_option maxHeartbeats 8000000 in
set_option maxRecDepth 100000 in
theorem lw_Span.calls (a0 : Int) (a1 : Int) (r1 : Int) (r2 : Int) (w : World) (h : lw_Span.f a0 a1 = some (r1, r2)) :
  Calls Try.prog 54 #[.int .i64 a0, .int .i64 a1] w fun e w' => e = .returned (.agg #[.int .i64 r1, .int .i64 r2]) ∧ Below w.heap.size w w' := by
 have hu27 := Try.underlying27; have HB := Aa (Below.refl w.heap.size w); have H : (some (a0, a1)) = some (r1, r2) := h; clear h; simp only [Option.some.injEq, Prod.mk.injEq] at H; obtain ⟨rfl, rfl⟩ := H
 go_enter Try.func54, Try.ntmps54
 go_wp2_with (first | ((with_reducible refine gate_dst (N := 4) rfl ?_); refine box_event ?hg (N := 4) ?hd (cs := #[.int .i64 0, .int .i64 0]) (t := 27) ?hr ?_; (case hd => rfl); (case hg => rfl); (case hr => first | (go_simp; done) | (go_simp; rfl)); intro gb178 hg w3 hbox hb; have n0_ := Aa (Bp (by repeat (first | (with_reducible first | exact HB.out | apply Ba | apply Pn | apply Dn) | exact HB.out)) hb); have n1_ := Aa (hbox); have n2_ := Aa ((by rw [hg]; exact (below_size (by repeat (first | (with_reducible first | exact HB.out | apply Ba | apply Pn | apply Dn) | exact HB.out))) : w.heap.size ≤ gb178)); have n3_ := Aa ((by rw [hg]; exact (below_size (by repeat (first | (with_reducible first | exact HB.out | apply Ba | apply Pn | apply Dn) | exact HB.out))) : w.heap.size ≤ gb178)); clear HB; have HB := n0_; have BK178 := n1_; have GW178 := n2_; have GE178 := n3_; clear n0_ n1_ n2_ n3_; clear hb hbox hg; have hcz4_0 : w3.cell? ⟨gb178, 0, none⟩ = some (.int .i64 0) := (Bc BK178.out 0).trans rfl; have hcz4_1 : w3.cell? ⟨gb178, 1, none⟩ = some (.int .i64 0) := (Bc BK178.out 1).trans rfl; have hfz4_0 := Bf BK178.out 0; have hfz4_1 := Bf BK178.out 1))
 refine bodyPost_ret (results_cell_row rfl _ _ gb178 27 #[.int .i64 a0, .int .i64 a1] (0, 0) _ rfl (by (with_reducible repeat (first | refine Kn ?_ _ | refine Kw ?_ | refine Ka ?_ _)); refine blk_put (cs := #[.int .i64 a0, .int .i64 0]) ?_ 1 _ rfl; (with_reducible repeat (first | refine Kn ?_ _ | refine Kw ?_ | refine Ka ?_ _)); refine blk_put (cs := #[.int .i64 0, .int .i64 0]) ?_ 0 _ rfl; (with_reducible repeat (first | refine Kn ?_ _ | refine Kw ?_ | refine Ka ?_ _)); exact BK178.out) Try.underlying27 rfl (by kernel_rfl)) rfl ?_; exact ⟨by first | rfl | (simp [errW_none, errW_some] <;> rfl) | (simp [*, errW_none, errW_some] <;> rfl), by repeat (first | (with_reducible first | exact HB.out | apply Ba | apply Pn | apply Dn | refine Bz ?_ GE178.out) | exact HB.out)⟩
end
section
attribute [local go_sem] max2_int min2_int max_two min_two
def lw_Hist.f  : Option ((List (S27)) × (List (S86))) := (lw_Span.f 10 20).bind fun bt181 => ((lw_Span.f 0 30).bind fun bt183 => ((lw_Span.f 15 40).bind fun bt185 => (some ((([(⟨bt181.1, bt181.2⟩ : S27), (⟨bt183.1, bt183.2⟩ : S27), (⟨bt185.1, bt185.2⟩ : S27)] : List (S27))), (([(⟨0, 1, 5, 8⟩ : S86), (⟨1, 2, 1, 100⟩ : S86)] : List (S86)))))))
set_option maxHeartbeats 8000000 in
set_option maxRecDepth 100000 in
theorem lw_Hist.calls  (r1 : List (S27)) (r2 : List (S86)) (w : World) (h : lw_Hist.f  = some (r1, r2)) :
  Calls Try.prog 73 #[] w fun e w' => ∃ v0_ v1_ : Value, e = .returned (.agg #[v0_, v1_]) ∧ Kd.R k27 27 w' w.heap.size (fun _ => True) v0_ r1 ∧ Kd.R k86 86 w' w.heap.size (fun _ => True) v1_ r2 ∧ Below w.heap.size w w' := by
 have hu39 := Try.underlying39; have hu86 := Try.underlying86; have HB := Aa (Below.refl w.heap.size w); have H : ((lw_Span.f 10 20).bind fun bt181 => ((lw_Span.f 0 30).bind fun bt183 => ((lw_Span.f 15 40).bind fun bt185 => (some ((([(⟨bt181.1, bt181.2⟩ : S27), (⟨bt183.1, bt183.2⟩ : S27), (⟨bt185.1, bt185.2⟩ : S27)] : List (S27))), (([(⟨0, 1, 5, 8⟩ : S86), (⟨1, 2, 1, 100⟩ : S86)] : List (S86)))))))) = some (r1, r2) := h; clear h; replace H := Option.bind_eq_some_iff.mp H; obtain ⟨⟨t181, t182⟩, A10, H⟩ := H; replace H : ((lw_Span.f 0 30).bind fun bt183 => ((lw_Span.f 15 40).bind fun bt185 => (some ((([(⟨t181, t182⟩ : S27), (⟨bt183.1, bt183.2⟩ : S27), (⟨bt185.1, bt185.2⟩ : S27)] : List (S27))), (([(⟨0, 1, 5, 8⟩ : S86), (⟨1, 2, 1, 100⟩ : S86)] : List (S86))))))) = some (r1, r2) := H; have A1 := Aa A10; clear A10; replace H := Option.bind_eq_some_iff.mp H; obtain ⟨⟨t183, t184⟩, A20, H⟩ := H; replace H : ((lw_Span.f 15 40).bind fun bt185 => (some ((([(⟨t181, t182⟩ : S27), (⟨t183, t184⟩ : S27), (⟨bt185.1, bt185.2⟩ : S27)] : List (S27))), (([(⟨0, 1, 5, 8⟩ : S86), (⟨1, 2, 1, 100⟩ : S86)] : List (S86)))))) = some (r1, r2) := H; have A2 := Aa A20; clear A20; replace H := Option.bind_eq_some_iff.mp H; obtain ⟨⟨t185, t186⟩, A30, H⟩ := H; replace H : (some ((([(⟨t181, t182⟩ : S27), (⟨t183, t184⟩ : S27), (⟨t185, t186⟩ : S27)] : List (S27))), (([(⟨0, 1, 5, 8⟩ : S86), (⟨1, 2, 1, 100⟩ : S86)] : List (S86))))) = some (r1, r2) := H; have A3 := Aa A30; clear A30
 obtain ⟨y187, hy187⟩ : ∃ y_ : List (S27), y_ = (([(⟨t181, t182⟩ : S27), (⟨t183, t184⟩ : S27), (⟨t185, t186⟩ : S27)] : List (S27))) := ⟨_, rfl⟩
 replace H : (some (y187, (([(⟨0, 1, 5, 8⟩ : S86), (⟨1, 2, 1, 100⟩ : S86)] : List (S86))))) = some (r1, r2) := by first | (rw [hy187]; with_reducible exact H) | (have H2_ := (Option.bind_some _ _).symm.trans H; rw [hy187]; with_reducible exact H2_) | (have H2_ := (Option.bind_some _ _).symm.trans H; with_reducible exact H2_) | with_reducible exact H | (rw [hy187]; exact H) | exact H
 have Ny187 := Aa hy187; clear hy187
 obtain ⟨y190, hy190⟩ : ∃ y_ : List (S86), y_ = (([(⟨0, 1, 5, 8⟩ : S86), (⟨1, 2, 1, 100⟩ : S86)] : List (S86))) := ⟨_, rfl⟩
 replace H : (some (y187, y190)) = some (r1, r2) := by first | (rw [hy190]; with_reducible exact H) | (have H2_ := (Option.bind_some _ _).symm.trans H; rw [hy190]; with_reducible exact H2_) | (have H2_ := (Option.bind_some _ _).symm.trans H; with_reducible exact H2_) | with_reducible exact H | (rw [hy190]; exact H) | exact H
 have Ny190 := Aa hy190; clear hy190; simp only [Option.some.injEq, Prod.mk.injEq] at H; obtain ⟨rfl, rfl⟩ := H
 go_enter Try.func73, Try.ntmps73
 go_wp2_with (first | ((with_reducible refine gate_dst (N := 0) rfl ?_); refine box_event ?hg (N := 0) ?hd (cs := #[.slice none 0 0, .slice none 0 0]) (t := 39) ?hr ?_; (case hd => rfl); (case hg => rfl); (case hr => first | (go_simp; done) | (go_simp; rfl)); intro gb180 hg w4 hbox hb; have n0_ := Aa (Bp (by repeat (first | (with_reducible first | exact HB.out | apply Ba | apply Pn | apply Dn) | exact HB.out)) hb); have n1_ := Aa (hbox); have n2_ := Aa ((by rw [hg]; exact (below_size (by repeat (first | (with_reducible first | exact HB.out | apply Ba | apply Pn | apply Dn) | exact HB.out))) : w.heap.size ≤ gb180)); have n3_ := Aa ((by rw [hg]; exact (below_size (by repeat (first | (with_reducible first | exact HB.out | apply Ba | apply Pn | apply Dn) | exact HB.out))) : w.heap.size ≤ gb180)); clear HB; have HB := n0_; have BK180 := n1_; have GW180 := n2_; have GE180 := n3_; clear n0_ n1_ n2_ n3_; clear hb hbox hg) | ((with_reducible refine gate_callee (f := 54) rfl ?_); refine goesL_ (some 1) rfl rfl Try.func54 (by kernel_rfl) rfl #[.int .i64 10, .int .i64 20] rfl (by (try simp only [List.map_toArray, List.map_cons, List.map_nil]); first | done | rfl | (simp only [List.length_drop, List.length_take]; rfl)) ?_; (with_reducible refine (lw_Span.calls 10 20 t181 t182 _ A1.out).mono ?_); rintro e w5 ⟨rfl, hb⟩; refine ⟨_, rfl, ?_⟩; have n0_ := Aa (blk_below (g := gb180) (o := .cells #[.slice none 0 0, .slice none 0 0] 39 (0, 0)) (by (with_reducible repeat (first | refine Kn ?_ _ | refine Kw ?_ | refine Ka ?_ _)); exact BK180.out) hb); have n1_ := Aa (Bp (by repeat (first | (with_reducible first | exact HB.out | apply Ba | apply Pn | apply Dn | refine Bz ?_ GE180.out) | exact HB.out)) hb); clear BK180; clear HB; have BK180 := n0_; have HB := n1_; clear n0_ n1_; (try clear hb); (try clear hb2); (try clear hk); (try clear hi)) | ((with_reducible refine gate_callee (f := 54) rfl ?_); refine goesL_ (some 2) rfl rfl Try.func54 (by kernel_rfl) rfl #[.int .i64 0, .int .i64 30] rfl (by (try simp only [List.map_toArray, List.map_cons, List.map_nil]); first | done | rfl | (simp only [List.length_drop, List.length_take]; rfl)) ?_; (with_reducible refine (lw_Span.calls 0 30 t183 t184 _ A2.out).mono ?_); rintro e w6 ⟨rfl, hb⟩; refine ⟨_, rfl, ?_⟩; have n0_ := Aa (blk_below (g := gb180) (o := .cells #[.slice none 0 0, .slice none 0 0] 39 (0, 0)) (by (with_reducible repeat (first | refine Kn ?_ _ | refine Kw ?_ | refine Ka ?_ _)); exact BK180.out) hb); have n1_ := Aa (Bp (by repeat (first | (with_reducible first | exact HB.out | apply Ba | apply Pn | apply Dn | refine Bz ?_ GE180.out) | exact HB.out)) hb); clear BK180; clear HB; have BK180 := n0_; have HB := n1_; clear n0_ n1_; (try clear hb); (try clear hb2); (try clear hk); (try clear hi)) | ((with_reducible refine gate_callee (f := 54) rfl ?_); refine goesL_ (some 3) rfl rfl Try.func54 (by kernel_rfl) rfl #[.int .i64 15, .int .i64 40] rfl (by (try simp only [List.map_toArray, List.map_cons, List.map_nil]); first | done | rfl | (simp only [List.length_drop, List.length_take]; rfl)) ?_; (with_reducible refine (lw_Span.calls 15 40 t185 t186 _ A3.out).mono ?_); rintro e w7 ⟨rfl, hb⟩; refine ⟨_, rfl, ?_⟩; have n0_ := Aa (blk_below (g := gb180) (o := .cells #[.slice none 0 0, .slice none 0 0] 39 (0, 0)) (by (with_reducible repeat (first | refine Kn ?_ _ | refine Kw ?_ | refine Ka ?_ _)); exact BK180.out) hb); have n1_ := Aa (Bp (by repeat (first | (with_reducible first | exact HB.out | apply Ba | apply Pn | apply Dn | refine Bz ?_ GE180.out) | exact HB.out)) hb); clear BK180; clear HB; have BK180 := n0_; have HB := n1_; clear n0_ n1_; (try clear hb); (try clear hb2); (try clear hk); (try clear hi)) | ((with_reducible refine gate_dst (N := 4) rfl ?_); refine Kd.R_lit k27 _ 27 ?hg (N := 4) ?hd (xs := ([(⟨t181, t182⟩ : S27), (⟨t183, t184⟩ : S27), (⟨t185, t186⟩ : S27)] : List (S27))) (inner := [.int .i64 t181, .int .i64 t182, .int .i64 t183, .int .i64 t184, .int .i64 t185, .int .i64 t186]) (ok := fun _ => True) (okp := fun _ => True) ?hr ?hp (fun _ hk => hk) trivial (Below.refl _ _) (Nat.le_refl _) (by simp) ?_; (case hd => rfl); (case hg => rfl); (case hr => first | (go_simp; done) | (go_simp; rfl)); (case hp => exact (Reps.c2 (show Kd.M k27 _ _ _ (⟨t181, t182⟩ : S27) [.int .i64 t181, .int .i64 t182] from (k27_mkM _ _ _ (⟨t181, t182⟩ : S27) )) (Reps.c2 (show Kd.M k27 _ _ _ (⟨t183, t184⟩ : S27) [.int .i64 t183, .int .i64 t184] from (k27_mkM _ _ _ (⟨t183, t184⟩ : S27) )) (Reps.c2 (show Kd.M k27 _ _ _ (⟨t185, t186⟩ : S27) [.int .i64 t185, .int .i64 t186] from (k27_mkM _ _ _ (⟨t185, t186⟩ : S27) )) (Reps.none _ _))))); intro v188 w8 ho9 hb hg_ hnew_; clear hg_ hnew_; (first | rw [← Ny187.out] at ho9 | (simp only [Int.reduceToNat] at ho9; rw [← Ny187.out] at ho9)); have n0_ := Aa (Kd.R_lower ho9 (below_size (by repeat (first | (with_reducible first | exact HB.out | apply Ba | apply Pn | apply Dn | refine Bz ?_ GE180.out) | exact HB.out)))); have n1_ := Aa (blk_below (g := gb180) (o := .cells #[.slice none 0 0, .slice none 0 0] 39 (0, 0)) (by (with_reducible repeat (first | refine Kn ?_ _ | refine Kw ?_ | refine Ka ?_ _)); exact BK180.out) hb); have n2_ := Aa (Bp (by repeat (first | (with_reducible first | exact HB.out | apply Ba | apply Pn | apply Dn | refine Bz ?_ GE180.out) | exact HB.out)) hb); clear BK180; clear HB; have HO189 := n0_; have BK180 := n1_; have HB := n2_; clear n0_ n1_ n2_; clear hb ho9) | ((with_reducible refine gate_dst (N := 7) rfl ?_); refine Kd.R_lit k86 _ 86 ?hg (N := 7) ?hd (xs := ([(⟨0, 1, 5, 8⟩ : S86), (⟨1, 2, 1, 100⟩ : S86)] : List (S86))) (inner := [.int .i64 0, .int .i64 1, .int .i64 5, .int .i64 8, .int .i64 1, .int .i64 2, .int .i64 1, .int .i64 100]) (ok := fun _ => True) (okp := fun _ => True) ?hr ?hp (fun _ hk => hk) trivial (Below.refl _ _) (Nat.le_refl _) (by simp) ?_; (case hd => rfl); (case hg => rfl); (case hr => first | (go_simp; done) | (go_simp; rfl)); (case hp => exact (Reps.c4 (show Kd.M k86 _ _ _ (⟨0, 1, 5, 8⟩ : S86) [.int .i64 0, .int .i64 1, .int .i64 5, .int .i64 8] from (k86_mkM _ _ _ (⟨0, 1, 5, 8⟩ : S86) )) (Reps.c4 (show Kd.M k86 _ _ _ (⟨1, 2, 1, 100⟩ : S86) [.int .i64 1, .int .i64 2, .int .i64 1, .int .i64 100] from (k86_mkM _ _ _ (⟨1, 2, 1, 100⟩ : S86) )) (Reps.none _ _)))); intro v191 w10 ho11 hb hg_ hnew_; clear hg_ hnew_; (first | rw [← Ny190.out] at ho11 | (simp only [Int.reduceToNat] at ho11; rw [← Ny190.out] at ho11)); have n0_ := Aa (Kd.R_below (by (with_reducible repeat (first | apply Kd.R_alloc | apply Kd.R_drewN | apply Kd.R_drew)); exact HO189.out) hb); have n1_ := Aa (Kd.R_lower ho11 (below_size (by repeat (first | (with_reducible first | exact HB.out | apply Ba | apply Pn | apply Dn | refine Bz ?_ GE180.out) | exact HB.out)))); have n2_ := Aa (blk_below (g := gb180) (o := .cells #[.slice none 0 0, .slice none 0 0] 39 (0, 0)) (by (with_reducible repeat (first | refine Kn ?_ _ | refine Kw ?_ | refine Ka ?_ _)); exact BK180.out) hb); have n3_ := Aa (Bp (by repeat (first | (with_reducible first | exact HB.out | apply Ba | apply Pn | apply Dn | refine Bz ?_ GE180.out) | exact HB.out)) hb); clear HO189; clear BK180; clear HB; have HO189 := n0_; have HO192 := n1_; have BK180 := n2_; have HB := n3_; clear n0_ n1_ n2_ n3_; clear hb ho11; obtain ⟨Ao12, co12, eo12⟩ := Kd.R_slice HO192.out; subst eo12; obtain ⟨Ao13, co13, eo13⟩ := Kd.R_slice HO189.out; subst eo13; have hcz14_0 : w10.cell? ⟨gb180, 0, none⟩ = some (.slice none 0 0) := (Bc BK180.out 0).trans rfl; have hcz14_1 : w10.cell? ⟨gb180, 1, none⟩ = some (.slice none 0 0) := (Bc BK180.out 1).trans rfl; have hfz14_0 := Bf BK180.out 0; have hfz14_1 := Bf BK180.out 1))
 refine bodyPost_ret (results_cell_row rfl _ _ gb180 39 #[.slice Ao13 y187.length co13, .slice Ao12 y190.length co12] (0, 0) _ rfl (by (with_reducible repeat (first | refine Kn ?_ _ | refine Kw ?_ | refine Ka ?_ _)); refine blk_put (cs := #[.slice Ao13 y187.length co13, .slice none 0 0]) ?_ 1 _ rfl; (with_reducible repeat (first | refine Kn ?_ _ | refine Kw ?_ | refine Ka ?_ _)); refine blk_put (cs := #[.slice none 0 0, .slice none 0 0]) ?_ 0 _ rfl; (with_reducible repeat (first | refine Kn ?_ _ | refine Kw ?_ | refine Ka ?_ _)); exact BK180.out) Try.underlying39 rfl (by kernel_rfl)) rfl ?_; exact ⟨_, _, by first | rfl | (simp [errW_none, errW_some] <;> rfl) | (simp [*, errW_none, errW_some] <;> rfl), by (with_reducible repeat (first | apply Kd.R_alloc | apply Kd.R_drewN | apply Kd.R_drew)); exact Kd.R_mono (Kd.R_far (p := ⟨gb180, 1, none⟩) (Kd.R_far (p := ⟨gb180, 0, none⟩) (Kd.R_types HO189.out BK180.out (by decide)) (fun _ hk => hk.2) (.slice Ao13 y187.length co13)) (fun _ hk => hk.2) (.slice Ao12 y190.length co12)) (fun _ hk => trivial), by (with_reducible repeat (first | apply Kd.R_alloc | apply Kd.R_drewN | apply Kd.R_drew)); exact Kd.R_mono (Kd.R_far (p := ⟨gb180, 1, none⟩) (Kd.R_far (p := ⟨gb180, 0, none⟩) (Kd.R_types HO192.out BK180.out (by decide)) (fun _ hk => hk.2) (.slice Ao13 y187.length co13)) (fun _ hk => hk.2) (.slice Ao12 y190.length co12)) (fun _ hk => trivial), by repeat (first | (with_reducible first | exact HB.out | apply Ba | apply Pn | apply Dn | refine Bz ?_ GE180.out) | exact HB.out)⟩
end
section
attribute [local go_sem] max2_int min2_int max_two min_two
def lw_Run.f  : Option ((List (S71))) := some (([(⟨0, 50, (-1)⟩ : S71), (⟨1, 10, 0⟩ : S71), (⟨1, 50, (-1)⟩ : S71), (⟨0, 40, 2⟩ : S71), (⟨2, 60, (-1)⟩ : S71)] : List (S71)))
set_option maxHeartbeats 8000000 in
set_option maxRecDepth 100000 in
theorem lw_Run.calls  (r : List (S71)) (w : World) (h : lw_Run.f  = some r) :
  Calls Try.prog 74 #[] w fun e w' => ∃ v0_ : Value, e = .returned (v0_) ∧ Kd.R k71 71 w' w.heap.size (fun _ => True) v0_ r ∧ Below w.heap.size w w' := by
 have hu71 := Try.underlying71; have HB := Aa (Below.refl w.heap.size w); have H : (some (([(⟨0, 50, (-1)⟩ : S71), (⟨1, 10, 0⟩ : S71), (⟨1, 50, (-1)⟩ : S71), (⟨0, 40, 2⟩ : S71), (⟨2, 60, (-1)⟩ : S71)] : List (S71)))) = some r := h; clear h
 obtain ⟨y193, hy193⟩ : ∃ y_ : List (S71), y_ = (([(⟨0, 50, (-1)⟩ : S71), (⟨1, 10, 0⟩ : S71), (⟨1, 50, (-1)⟩ : S71), (⟨0, 40, 2⟩ : S71), (⟨2, 60, (-1)⟩ : S71)] : List (S71))) := ⟨_, rfl⟩
 replace H : (some y193) = some r := by first | (rw [hy193]; with_reducible exact H) | (have H2_ := (Option.bind_some _ _).symm.trans H; rw [hy193]; with_reducible exact H2_) | (have H2_ := (Option.bind_some _ _).symm.trans H; with_reducible exact H2_) | with_reducible exact H | (rw [hy193]; exact H) | exact H
 have Ny193 := Aa hy193; clear hy193; obtain rfl := Option.some.inj H
 go_enter Try.func74, Try.ntmps74
 go_wp2_with (first | ((with_reducible refine gate_dst (N := 6) rfl ?_); refine Kd.R_lit k71 _ 71 ?hg (N := 6) ?hd (xs := ([(⟨0, 50, (-1)⟩ : S71), (⟨1, 10, 0⟩ : S71), (⟨1, 50, (-1)⟩ : S71), (⟨0, 40, 2⟩ : S71), (⟨2, 60, (-1)⟩ : S71)] : List (S71))) (inner := [.int .i64 0, .int .i64 50, .int .i64 (-1), .int .i64 1, .int .i64 10, .int .i64 0, .int .i64 1, .int .i64 50, .int .i64 (-1), .int .i64 0, .int .i64 40, .int .i64 2, .int .i64 2, .int .i64 60, .int .i64 (-1)]) (ok := fun _ => True) (okp := fun _ => True) ?hr ?hp (fun _ hk => hk) trivial (Below.refl _ _) (Nat.le_refl _) (by simp) ?_; (case hd => rfl); (case hg => rfl); (case hr => first | (go_simp; done) | (go_simp; rfl)); (case hp => exact (Reps.c3 (show Kd.M k71 _ _ _ (⟨0, 50, (-1)⟩ : S71) [.int .i64 0, .int .i64 50, .int .i64 (-1)] from (k71_mkM _ _ _ (⟨0, 50, (-1)⟩ : S71) )) (Reps.c3 (show Kd.M k71 _ _ _ (⟨1, 10, 0⟩ : S71) [.int .i64 1, .int .i64 10, .int .i64 0] from (k71_mkM _ _ _ (⟨1, 10, 0⟩ : S71) )) (Reps.c3 (show Kd.M k71 _ _ _ (⟨1, 50, (-1)⟩ : S71) [.int .i64 1, .int .i64 50, .int .i64 (-1)] from (k71_mkM _ _ _ (⟨1, 50, (-1)⟩ : S71) )) (Reps.c3 (show Kd.M k71 _ _ _ (⟨0, 40, 2⟩ : S71) [.int .i64 0, .int .i64 40, .int .i64 2] from (k71_mkM _ _ _ (⟨0, 40, 2⟩ : S71) )) (Reps.c3 (show Kd.M k71 _ _ _ (⟨2, 60, (-1)⟩ : S71) [.int .i64 2, .int .i64 60, .int .i64 (-1)] from (k71_mkM _ _ _ (⟨2, 60, (-1)⟩ : S71) )) (Reps.none _ _))))))); intro v194 w1 ho2 hb hg_ hnew_; clear hg_ hnew_; (first | rw [← Ny193.out] at ho2 | (simp only [Int.reduceToNat] at ho2; rw [← Ny193.out] at ho2)); have n0_ := Aa (Kd.R_lower ho2 (below_size (by repeat (first | (with_reducible first | exact HB.out | apply Ba | apply Pn | apply Dn) | exact HB.out)))); have n1_ := Aa (Bp (by repeat (first | (with_reducible first | exact HB.out | apply Ba | apply Pn | apply Dn) | exact HB.out)) hb); clear HB; have HO195 := n0_; have HB := n1_; clear n0_ n1_; clear hb ho2))
 go_ret; exact ⟨_, by first | rfl | (simp [errW_none, errW_some] <;> rfl) | (simp [*, errW_none, errW_some] <;> rfl), by (with_reducible repeat (first | apply Kd.R_alloc | apply Kd.R_drewN | apply Kd.R_drew)); exact HO195.out, by repeat (first | (with_reducible first | exact HB.out | apply Ba | apply Pn | apply Dn) | exact HB.out)⟩
end
section
attribute [local go_sem] max2_int min2_int max_two min_two
theorem eqA27 (d : Nat) (w : World) (x0 y0 : Int) (x1 y1 : Int) :
  (Op.equalIn (d + 2) 27 (.agg #[.int .i64 x0, .int .i64 x1]) (.agg #[.int .i64 y0, .int .i64 y1])).run Try.prog w = .ok (x0 == y0 && (x1 == y1)) w := by
 refine eqA_of Try.underlying27 (by kernel_rfl) ?_; refine eqf_cons (by rfl) (by go_simp; rfl) (by go_simp; rfl) (by go_simp) ?_; exact eqf_last (by rfl) (by go_simp; rfl) (by go_simp; rfl) (by go_simp)
end
section
attribute [local go_sem] max2_int min2_int max_two min_two
attribute [local go_sem high] eqA27
def rf_SameSpans.l0 : Nat → List (S27) → List (S27) → Int → Option (Bool)
 | 0, _, _, _ => none
 | k + 1, x0, x1, x5 => if x5 < (x0.length : Int) then (if 0 ≤ x5 then (if x5 < (x1.length : Int) then (if (!(((rd_T27 x0 x5).f0) == ((rd_T27 x1 x5).f0)) || (!(((rd_T27 x0 x5).f1) == ((rd_T27 x1 x5).f1)))) = true then (some false) else (rf_SameSpans.l0 k x0 x1 (wrap64 (x5 + 1)))) else (none)) else (none)) else (some true)
def rf_SameSpans.f (k : Nat) (l0 : List (S27)) (l1 : List (S27)) : Option (Bool) := if (l0.length : Int) = (l1.length : Int) then (rf_SameSpans.l0 k l0 l1 0) else (some false)
set_option maxHeartbeats 8000000 in
set_option maxRecDepth 100000 in
theorem rf_SameSpans.calls (k : Nat) (A0 : Option Addr) (c0 : Nat) (l0 : List (S27)) (A1 : Option Addr) (c1 : Nat) (l1 : List (S27)) (r : Bool) (w : World) (hr0 : Kd.C k27 w A0 l0.length l0) (hc0 : l0.length ≤ c0) (hr1 : Kd.C k27 w A1 l1.length l1) (hc1 : l1.length ≤ c1) (h : rf_SameSpans.f k l0 l1 = some r) :
  Calls Try.prog 51 #[.slice A0 l0.length c0, .slice A1 l1.length c1] w fun e w' => e = .returned (.bool r) ∧ Drawn0 w w' := by
 have hu27 := Try.underlying27; have HR0 := Aa hr0; have HC0 := Aa hc0; clear hr0 hc0; have HR1 := Aa hr1; have HC1 := Aa hc1; clear hr1 hc1; have H : (if (l0.length : Int) = (l1.length : Int) then (rf_SameSpans.l0 k l0 l1 0) else (some false)) = some r := h; clear h
 by_cases c3 : (l0.length : Int) = (l1.length : Int)
 ·rw [if_pos c3] at H; have c3b0 : ((l0.length : Int) == (l1.length : Int)) = true := beq_iff_eq.mpr c3; have c3b1 : ((l0.length : Int) != (l1.length : Int)) = false := bne_eq_false_iff_eq.mpr c3
  have c3b2 : (l0.length == l1.length) = true := by first | simpa using c3 | (simp at c3 ⊢; omega)
  clear c3; have H' := Aa H; clear H
  go_enter Try.func51, Try.ntmps51
  go_wp2
  repeat (go_quiet (fail); try go_wp2)
  go_loopg [5] k (fun kq v5 w' => ∃ (x5_1 : Int), v5 = .int .i64 x5_1 ∧ Aside0 (rf_SameSpans.l0 kq l0 l1 x5_1 = some r) ∧ Aside0 (kq ≤ k) ∧ Drawn0 w w')
  case atStart => exact ⟨(0), (by first | rfl | (simp; done) | (simp [*]; done)), H', ⟨Nat.le_refl _⟩, by repeat (first | exact Drawn0.refl _ | apply Drawn0.step)⟩
  case round =>
   clear H'; try clear c1
   try clear p2
   try clear c3
   try clear c3b0
   try clear c3b1
   try clear c3b2
   obtain ⟨x5_1, rfl, HA, HK1, ⟨m1, rfl⟩⟩ := hrel
   cases gk with
   | zero => exact absurd HA.out (by simp [rf_SameSpans.l0])
   | succ k1 =>
    have H := HA.out; clear HA; simp only [rf_SameSpans.l0] at H
    by_cases c4 : x5_1 < (l0.length : Int)
    ·rw [if_pos c4] at H; have c4b0 : decide (x5_1 < (l0.length : Int)) = true := decide_eq_true c4; clear c4
     by_cases c5 : 0 ≤ x5_1
     ·rw [if_pos c5] at H; have c5b0 : decide (0 ≤ x5_1) = true := decide_eq_true c5; clear c5
      by_cases c6 : x5_1 < (l1.length : Int)
      ·rw [if_pos c6] at H; have c6b0 : decide (x5_1 < (l1.length : Int)) = true := decide_eq_true c6; clear c6
       by_cases c7 : (!(((rd_T27 l0 x5_1).f0) == ((rd_T27 l1 x5_1).f0)) || (!(((rd_T27 l0 x5_1).f1) == ((rd_T27 l1 x5_1).f1)))) = true
       ·rw [if_pos c7] at H; have c7b0 : (!(((rd_T27 l0 x5_1).f0) == ((rd_T27 l1 x5_1).f0)) || (!(((rd_T27 l0 x5_1).f1) == ((rd_T27 l1 x5_1).f1)))) = true := c7; clear c7; obtain rfl := Option.some.inj H; have p176 : 0 ≤ (x5_1 : Int) := Od (by first | (with_reducible assumption) | assumption); have q176 : x5_1 < (l0.length : Int) := Od (by first | (with_reducible assumption) | assumption); obtain ⟨ad176, e176, hx176_0, hx176_1⟩ := at_T27 HR0.out x5_1 p176 q176; cases e176; replace p176 := eq_true p176; replace q176 := eq_true q176; have p177 : 0 ≤ (x5_1 : Int) := Od (by first | (with_reducible assumption) | assumption); have q177 : x5_1 < (l1.length : Int) := Od (by first | (with_reducible assumption) | assumption); obtain ⟨ad177, e177, hx177_0, hx177_1⟩ := at_T27 HR1.out x5_1 p177 q177; cases e177; replace p177 := eq_true p177; replace q177 := eq_true q177; go_wp2
        repeat (go_quiet (fail); try go_wp2)
        go_ret; exact ⟨by first | rfl | (simp; done) | (simp [*]; done), by repeat (first | exact Drawn0.refl _ | apply Drawn0.step)⟩
       ·rw [if_neg c7] at H
        have c7b0 : (!(((rd_T27 l0 x5_1).f0) == ((rd_T27 l1 x5_1).f0)) || (!(((rd_T27 l0 x5_1).f1) == ((rd_T27 l1 x5_1).f1)))) = false := by simpa using c7
        clear c7; have H' := Aa H; clear H; have p176 : 0 ≤ (x5_1 : Int) := Od (by first | (with_reducible assumption) | assumption); have q176 : x5_1 < (l0.length : Int) := Od (by first | (with_reducible assumption) | assumption); obtain ⟨ad176, e176, hx176_0, hx176_1⟩ := at_T27 HR0.out x5_1 p176 q176; cases e176; replace p176 := eq_true p176; replace q176 := eq_true q176; have p177 : 0 ≤ (x5_1 : Int) := Od (by first | (with_reducible assumption) | assumption); have q177 : x5_1 < (l1.length : Int) := Od (by first | (with_reducible assumption) | assumption); obtain ⟨ad177, e177, hx177_0, hx177_1⟩ := at_T27 HR1.out x5_1 p177 q177; cases e177; replace p177 := eq_true p177; replace q177 := eq_true q177; go_wp2
        repeat (go_quiet (fail); try go_wp2)
        go_roundg k1
        case measure => have := HK1.out; omega
        case rel => exact ⟨(wrap64 (x5_1 + 1)), (by first | rfl | (simp; done) | (simp [*]; done)), H', ⟨by have := HK1.out; omega⟩, by repeat (first | exact Drawn0.refl _ | apply Drawn0.step)⟩
      ·rw [if_neg c6] at H; exact absurd H (by simp)
     ·rw [if_neg c5] at H; exact absurd H (by simp)
    ·rw [if_neg c4] at H; have c4b0 : decide (x5_1 < (l0.length : Int)) = false := decide_eq_false c4; clear c4; obtain rfl := Option.some.inj H; go_wp2
     repeat (go_quiet (fail); try go_wp2)
     go_ret; exact ⟨by first | rfl | (simp; done) | (simp [*]; done), by repeat (first | exact Drawn0.refl _ | apply Drawn0.step)⟩
 ·rw [if_neg c3] at H; have c3b0 : ((l0.length : Int) == (l1.length : Int)) = false := beq_eq_false_iff_ne.mpr c3; have c3b1 : ((l0.length : Int) != (l1.length : Int)) = true := bne_iff_ne.mpr c3
  have c3b2 : (l0.length == l1.length) = false := by first | simpa using c3 | (simp at c3 ⊢; omega)
  obtain rfl := Option.some.inj H
  go_enter Try.func51, Try.ntmps51
  go_wp2
  repeat (go_quiet (fail); try go_wp2)
  go_ret; exact ⟨by first | rfl | (simp; done) | (simp [*]; done), by repeat (first | exact Drawn0.refl _ | apply Drawn0.step)⟩
end
section
attribute [local go_sem] max2_int min2_int max_two min_two
def rf_Same.l0 : Nat → List Int → List Int → Int → Option (Bool)
 | 0, _, _, _ => none
 | k + 1, x0, x1, x5 => if x5 < (x0.length : Int) then (if 0 ≤ x5 then (if x5 < (x1.length : Int) then (if (rd x0 x5) = (rd x1 x5) then (rf_Same.l0 k x0 x1 (wrap64 (x5 + 1))) else (some false)) else (none)) else (none)) else (some true)
def rf_Same.f (k : Nat) (l0 : List Int) (l1 : List Int) : Option (Bool) := if (l0.length : Int) = (l1.length : Int) then (rf_Same.l0 k l0 l1 0) else (some false)
set_option maxHeartbeats 8000000 in
set_option maxRecDepth 100000 in
theorem rf_Same.calls (k : Nat) (A0 : Option Addr) (c0 : Nat) (l0 : List Int) (A1 : Option Addr) (c1 : Nat) (l1 : List Int) (r : Bool) (w : World) (hr0 : Kd.C (Kd.int .i64) w A0 l0.length l0) (hc0 : l0.length ≤ c0) (hr1 : Kd.C (Kd.int .i64) w A1 l1.length l1) (hc1 : l1.length ≤ c1) (h : rf_Same.f k l0 l1 = some r) :
  Calls Try.prog 23 #[.slice A0 l0.length c0, .slice A1 l1.length c1] w fun e w' => e = .returned (.bool r) ∧ Drawn0 w w' := by
 have HR0 := Aa hr0; have HC0 := Aa hc0; clear hr0 hc0; have HR1 := Aa hr1; have HC1 := Aa hc1; clear hr1 hc1; have H : (if (l0.length : Int) = (l1.length : Int) then (rf_Same.l0 k l0 l1 0) else (some false)) = some r := h; clear h
 by_cases c3 : (l0.length : Int) = (l1.length : Int)
 ·rw [if_pos c3] at H; have c3b0 : ((l0.length : Int) == (l1.length : Int)) = true := beq_iff_eq.mpr c3; have c3b1 : ((l0.length : Int) != (l1.length : Int)) = false := bne_eq_false_iff_eq.mpr c3
  have c3b2 : (l0.length == l1.length) = true := by first | simpa using c3 | (simp at c3 ⊢; omega)
  clear c3; have H' := Aa H; clear H
  go_enter Try.func23, Try.ntmps23
  go_wp2
  repeat (go_quiet (fail); try go_wp2)
  go_loopg [5] k (fun kq v5 w' => ∃ (x5_1 : Int), v5 = .int .i64 x5_1 ∧ Aside0 (rf_Same.l0 kq l0 l1 x5_1 = some r) ∧ Aside0 (kq ≤ k) ∧ Drawn0 w w')
  case atStart => exact ⟨(0), (by first | rfl | (simp; done) | (simp [*]; done)), H', ⟨Nat.le_refl _⟩, by repeat (first | exact Drawn0.refl _ | apply Drawn0.step)⟩
  case round =>
   clear H'; try clear c1
   try clear c2
   try clear p2
   try clear c3
   try clear c3b0
   try clear c3b1
   try clear c3b2
   obtain ⟨x5_1, rfl, HA, HK1, ⟨m1, rfl⟩⟩ := hrel
   cases gk with
   | zero => exact absurd HA.out (by simp [rf_Same.l0])
   | succ k1 =>
    have H := HA.out; clear HA; simp only [rf_Same.l0] at H
    by_cases c4 : x5_1 < (l0.length : Int)
    ·rw [if_pos c4] at H; have c4b0 : decide (x5_1 < (l0.length : Int)) = true := decide_eq_true c4; clear c4
     by_cases c5 : 0 ≤ x5_1
     ·rw [if_pos c5] at H; have c5b0 : decide (0 ≤ x5_1) = true := decide_eq_true c5; clear c5
      by_cases c6 : x5_1 < (l1.length : Int)
      ·rw [if_pos c6] at H; have c6b0 : decide (x5_1 < (l1.length : Int)) = true := decide_eq_true c6; clear c6
       by_cases c7 : (rd l0 x5_1) = (rd l1 x5_1)
       ·rw [if_pos c7] at H; have c7b0 : ((rd l0 x5_1) == (rd l1 x5_1)) = true := beq_iff_eq.mpr c7; have c7b1 : ((rd l0 x5_1) != (rd l1 x5_1)) = false := bne_eq_false_iff_eq.mpr c7; clear c7; have H' := Aa H; clear H; have p146 : 0 ≤ (x5_1 : Int) := Od (by first | (with_reducible assumption) | assumption); have q146 : x5_1 < (l0.length : Int) := Od (by first | (with_reducible assumption) | assumption); obtain ⟨ad146, e146, hx146_0⟩ := Kd.at_int HR0.out x5_1 p146 q146; cases e146; replace p146 := eq_true p146; replace q146 := eq_true q146; have p147 : 0 ≤ (x5_1 : Int) := Od (by first | (with_reducible assumption) | assumption); have q147 : x5_1 < (l1.length : Int) := Od (by first | (with_reducible assumption) | assumption); obtain ⟨ad147, e147, hx147_0⟩ := Kd.at_int HR1.out x5_1 p147 q147; cases e147; replace p147 := eq_true p147; replace q147 := eq_true q147; go_wp2
        repeat (go_quiet (fail); try go_wp2)
        go_roundg k1
        case measure => have := HK1.out; omega
        case rel => exact ⟨(wrap64 (x5_1 + 1)), (by first | rfl | (simp; done) | (simp [*]; done)), H', ⟨by have := HK1.out; omega⟩, by repeat (first | exact Drawn0.refl _ | apply Drawn0.step)⟩
       ·rw [if_neg c7] at H; have c7b0 : ((rd l0 x5_1) == (rd l1 x5_1)) = false := beq_eq_false_iff_ne.mpr c7; have c7b1 : ((rd l0 x5_1) != (rd l1 x5_1)) = true := bne_iff_ne.mpr c7; obtain rfl := Option.some.inj H; have p146 : 0 ≤ (x5_1 : Int) := Od (by first | (with_reducible assumption) | assumption); have q146 : x5_1 < (l0.length : Int) := Od (by first | (with_reducible assumption) | assumption); obtain ⟨ad146, e146, hx146_0⟩ := Kd.at_int HR0.out x5_1 p146 q146; cases e146; replace p146 := eq_true p146; replace q146 := eq_true q146; have p147 : 0 ≤ (x5_1 : Int) := Od (by first | (with_reducible assumption) | assumption); have q147 : x5_1 < (l1.length : Int) := Od (by first | (with_reducible assumption) | assumption); obtain ⟨ad147, e147, hx147_0⟩ := Kd.at_int HR1.out x5_1 p147 q147; cases e147; replace p147 := eq_true p147; replace q147 := eq_true q147; go_wp2
        repeat (go_quiet (fail); try go_wp2)
        go_ret; exact ⟨by first | rfl | (simp; done) | (simp [*]; done), by repeat (first | exact Drawn0.refl _ | apply Drawn0.step)⟩
      ·rw [if_neg c6] at H; exact absurd H (by simp)
     ·rw [if_neg c5] at H; exact absurd H (by simp)
    ·rw [if_neg c4] at H; have c4b0 : decide (x5_1 < (l0.length : Int)) = false := decide_eq_false c4; clear c4; obtain rfl := Option.some.inj H; go_wp2
     repeat (go_quiet (fail); try go_wp2)
     go_ret; exact ⟨by first | rfl | (simp; done) | (simp [*]; done), by repeat (first | exact Drawn0.refl _ | apply Drawn0.step)⟩
 ·rw [if_neg c3] at H; have c3b0 : ((l0.length : Int) == (l1.length : Int)) = false := beq_eq_false_iff_ne.mpr c3; have c3b1 : ((l0.length : Int) != (l1.length : Int)) = true := bne_iff_ne.mpr c3
  have c3b2 : (l0.length == l1.length) = false := by first | simpa using c3 | (simp at c3 ⊢; omega)
  obtain rfl := Option.some.inj H
  go_enter Try.func23, Try.ntmps23
  go_wp2
  repeat (go_quiet (fail); try go_wp2)
  go_ret; exact ⟨by first | rfl | (simp; done) | (simp [*]; done), by repeat (first | exact Drawn0.refl _ | apply Drawn0.step)⟩
end
section
attribute [local go_sem] max2_int min2_int max_two min_two
theorem eqA47 (d : Nat) (w : World) (x0 y0 : Int) (x1 y1 : Int) :
  (Op.equalIn (d + 2) 47 (.agg #[.int .i64 x0, .int .i64 x1]) (.agg #[.int .i64 y0, .int .i64 y1])).run Try.prog w = .ok (x0 == y0 && (x1 == y1)) w := by
 refine eqA_of Try.underlying47 (by kernel_rfl) ?_; refine eqf_cons (by rfl) (by go_simp; rfl) (by go_simp; rfl) (by go_simp) ?_; exact eqf_last (by rfl) (by go_simp; rfl) (by go_simp; rfl) (by go_simp)
end
end Go.Proofs.Ytobcecgcegoooaa.Sk
