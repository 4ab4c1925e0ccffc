/- Words and walks of this claim, merged. -/
import Derived.Test.YtobcecgcegoooaaGreatProg
import Derived.Below
import Derived.Deep.Draws
import Derived.Deep.AppendLies
import Derived.Maps.AppendAt
import Derived.OwnWalk
import Derived.Laws.BytesArg
import Derived.Laws.MakeOwn
import Derived.Laws.OwnMore
import Derived.Deep.OwnRows
import Derived.Tactics
import Derived.Lib.ConvBytes
import Derived.Laws.Slices
import Derived.WalkKit
import Derived.KernelRfl
import Derived.RowKit3
import Derived.Deep.LoopGhost
import Derived.Deep.QuietTactic
import Derived.BigQuiet
import Derived.WideLaws
import Derived.Deep.DeepCutAuto
import Derived.Deep.CutBlock
import Derived.Deep.RegionHeld3
import Derived.Laws.Rows
import Derived.Lib.AppendStr
import Derived.ArgAppend
import Derived.Laws.IdiomCopy
import Derived.OrdersHeld
import Derived.Laws.BitsLemmas
import Derived.RowKit
import Derived.Test.YtobcecgcegoooaaGreatCSuW0
namespace Go.Proofs.YtobcecgcegoooaaGreat.Sk
open Go.RowKit Go.Proofs.YtobcecgcegoooaaGreatW.PrintWords Go.Proofs.YtobcecgcegoooaaGreatW.PrintLast Go.Proofs.YtobcecgcegoooaaGreatW.PrintMore
set_option linter.unusedVariables false
set_option linter.unusedSimpArgs false
section
attribute [local go_sem] max2_int min2_int max_two min_two
theorem info3 : (Tryz.prog.info? 3).map (fun i => (i.zero, i.size, i.bytes)) = some (some (.int .i64 0), 1, 8) := by kernel_rfl
theorem info4 : (Tryz.prog.info? 4).map (fun i => (i.zero, i.size, i.bytes)) = some (some (.bool false), 1, 1) := by kernel_rfl
theorem info26 : (Tryz.prog.info? 26).map (fun i => (i.zero, i.size, i.bytes)) = some (some (.slice none 0 0), 1, 24) := by kernel_rfl
theorem info65 : (Tryz.prog.info? 65).map (fun i => (i.zero, i.size, i.bytes)) = some (some (.agg #[(.int .i64 0), (.int .i64 0)]), 2, 16) := by kernel_rfl
theorem info82 : (Tryz.prog.info? 82).map (fun i => (i.zero, i.size, i.bytes)) = some (some (.agg #[(.int .i64 0), (.int .i64 0), (.int .i64 0), (.int .i64 0)]), 4, 32) := by kernel_rfl
theorem info93 : (Tryz.prog.info? 93).map (fun i => (i.zero, i.size, i.bytes)) = some (some (.agg #[(.int .i64 0), (.int .i64 0)]), 2, 16) := by kernel_rfl
theorem info118 : (Tryz.prog.info? 118).map (fun i => (i.zero, i.size, i.bytes)) = some (some (.agg #[(.int .i64 0), (.int .i64 0)]), 2, 16) := by kernel_rfl
structure S65 where
 f0 : Int
 f1 : Int
def z65 : S65 := ⟨(0 : Int), (0 : Int)⟩
def k65 : Kd S65 := Kd.iso (Kd.pair (Kd.int .i64) (Kd.int .i64)) (fun x : S65 => (x.f0, x.f1))
theorem k65_open {w : World} {x : S65} {cs : List Value} (h : k65.K w x cs) : cs = [.int .i64 x.f0, .int .i64 x.f1] := by
 obtain ⟨_, _, rfl, rfl, rfl⟩ := h; exact rfl
theorem k65_mk (w : World) (x : S65)  : k65.K w x [.int .i64 x.f0, .int .i64 x.f1] := ⟨[.int .i64 x.f0], [.int .i64 x.f1], rfl, rfl, rfl⟩
theorem k65_mkM (w : World) (base : Nat) (ok : Nat → Prop) (x : S65)  : k65.M w base ok x [.int .i64 x.f0, .int .i64 x.f1] := ⟨[.int .i64 x.f0], [.int .i64 x.f1], rfl, rfl, rfl⟩
def rd_T65 (xs : List S65) (i : Int) : S65 := xs.getD i.toNat z65
theorem at_T65 {w : World} {A : Option Addr} {n : Nat} {xs : List S65} (h : Kd.C k65 w A n xs) (i : Int) (h0 : 0 ≤ i) (h1 : i < n) : ∃ ad , A = some ad ∧ w.cell? (ad.add (i.toNat * 2)) = some (.int .i64 (rd_T65 xs i).f0) ∧ w.cell? ⟨(ad.add (i.toNat * 2)).block, (ad.add (i.toNat * 2)).off + 1, none⟩ = some (.int .i64 (rd_T65 xs i).f1) := by
 obtain ⟨ad, c, e, _, hK, hc0⟩ := Kd.C_get h z65 i h0 h1; have hc : ∀ j u, c[j]? = some u → w.cell? (ad.add (i.toNat * 2 + j)) = some u := hc0; obtain rfl := k65_open hK; exact ⟨ad, e, hc 0 _ rfl, by rw [← add_field _ _ 1 (by omega)]; exact hc 1 _ rfl⟩
structure S82 where
 f0 : Int
 f1 : Int
 f2 : Int
 f3 : Int
def z82 : S82 := ⟨(0 : Int), (0 : Int), (0 : Int), (0 : Int)⟩
def k82 : Kd S82 := Kd.iso (Kd.pair (Kd.int .i64) (Kd.pair (Kd.int .i64) (Kd.pair (Kd.int .i64) (Kd.int .i64)))) (fun x : S82 => (x.f0, x.f1, x.f2, x.f3))
theorem k82_open {w : World} {x : S82} {cs : List Value} (h : k82.K w x cs) : cs = [.int .i64 x.f0, .int .i64 x.f1, .int .i64 x.f2, .int .i64 x.f3] := by
 obtain ⟨_, _, rfl, rfl, ⟨_, _, rfl, rfl, ⟨_, _, rfl, rfl, rfl⟩⟩⟩ := h; exact rfl
theorem k82_mk (w : World) (x : S82)  : k82.K w x [.int .i64 x.f0, .int .i64 x.f1, .int .i64 x.f2, .int .i64 x.f3] := ⟨[.int .i64 x.f0], [.int .i64 x.f1, .int .i64 x.f2, .int .i64 x.f3], rfl, rfl, ⟨[.int .i64 x.f1], [.int .i64 x.f2, .int .i64 x.f3], rfl, rfl, ⟨[.int .i64 x.f2], [.int .i64 x.f3], rfl, rfl, rfl⟩⟩⟩
theorem k82_mkM (w : World) (base : Nat) (ok : Nat → Prop) (x : S82)  : k82.M w base ok x [.int .i64 x.f0, .int .i64 x.f1, .int .i64 x.f2, .int .i64 x.f3] := ⟨[.int .i64 x.f0], [.int .i64 x.f1, .int .i64 x.f2, .int .i64 x.f3], rfl, rfl, ⟨[.int .i64 x.f1], [.int .i64 x.f2, .int .i64 x.f3], rfl, rfl, ⟨[.int .i64 x.f2], [.int .i64 x.f3], rfl, rfl, rfl⟩⟩⟩
def rd_T82 (xs : List S82) (i : Int) : S82 := xs.getD i.toNat z82
theorem at_T82 {w : World} {A : Option Addr} {n : Nat} {xs : List S82} (h : Kd.C k82 w A n xs) (i : Int) (h0 : 0 ≤ i) (h1 : i < n) : ∃ ad , A = some ad ∧ w.cell? (ad.add (i.toNat * 4)) = some (.int .i64 (rd_T82 xs i).f0) ∧ w.cell? ⟨(ad.add (i.toNat * 4)).block, (ad.add (i.toNat * 4)).off + 1, none⟩ = some (.int .i64 (rd_T82 xs i).f1) ∧ w.cell? ⟨(ad.add (i.toNat * 4)).block, (ad.add (i.toNat * 4)).off + 2, none⟩ = some (.int .i64 (rd_T82 xs i).f2) ∧ w.cell? ⟨(ad.add (i.toNat * 4)).block, (ad.add (i.toNat * 4)).off + 3, none⟩ = some (.int .i64 (rd_T82 xs i).f3) := by
 obtain ⟨ad, c, e, _, hK, hc0⟩ := Kd.C_get h z82 i h0 h1; have hc : ∀ j u, c[j]? = some u → w.cell? (ad.add (i.toNat * 4 + j)) = some u := hc0; obtain rfl := k82_open hK; exact ⟨ad, e, hc 0 _ rfl, by rw [← add_field _ _ 1 (by omega)]; exact hc 1 _ rfl, by rw [← add_field _ _ 2 (by omega)]; exact hc 2 _ rfl, by rw [← add_field _ _ 3 (by omega)]; exact hc 3 _ rfl⟩
structure S121 where
 f0 : Int
 f1 : Int
 f2 : Int
def z121 : S121 := ⟨(0 : Int), (0 : Int), (0 : Int)⟩
def k121 : Kd S121 := Kd.iso (Kd.pair (Kd.int .i64) (Kd.pair (Kd.int .i64) (Kd.int .i64))) (fun x : S121 => (x.f0, x.f1, x.f2))
theorem k121_open {w : World} {x : S121} {cs : List Value} (h : k121.K w x cs) : cs = [.int .i64 x.f0, .int .i64 x.f1, .int .i64 x.f2] := by
 obtain ⟨_, _, rfl, rfl, ⟨_, _, rfl, rfl, rfl⟩⟩ := h; exact rfl
theorem k121_mkM (w : World) (base : Nat) (ok : Nat → Prop) (x : S121)  : k121.M w base ok x [.int .i64 x.f0, .int .i64 x.f1, .int .i64 x.f2] := ⟨[.int .i64 x.f0], [.int .i64 x.f1, .int .i64 x.f2], rfl, rfl, ⟨[.int .i64 x.f1], [.int .i64 x.f2], rfl, rfl, rfl⟩⟩
def rd_T121 (xs : List S121) (i : Int) : S121 := xs.getD i.toNat z121
theorem at_T121 {w : World} {A : Option Addr} {n : Nat} {xs : List S121} (h : Kd.C k121 w A n xs) (i : Int) (h0 : 0 ≤ i) (h1 : i < n) : ∃ ad , A = some ad ∧ w.cell? (ad.add (i.toNat * 3)) = some (.int .i64 (rd_T121 xs i).f0) ∧ w.cell? ⟨(ad.add (i.toNat * 3)).block, (ad.add (i.toNat * 3)).off + 1, none⟩ = some (.int .i64 (rd_T121 xs i).f1) ∧ w.cell? ⟨(ad.add (i.toNat * 3)).block, (ad.add (i.toNat * 3)).off + 2, none⟩ = some (.int .i64 (rd_T121 xs i).f2) := by
 obtain ⟨ad, c, e, _, hK, hc0⟩ := Kd.C_get h z121 i h0 h1; have hc : ∀ j u, c[j]? = some u → w.cell? (ad.add (i.toNat * 3 + j)) = some u := hc0; obtain rfl := k121_open hK; exact ⟨ad, e, hc 0 _ rfl, by rw [← add_field _ _ 1 (by omega)]; exact hc 1 _ rfl, by rw [← add_field _ _ 2 (by omega)]; exact hc 2 _ rfl⟩
structure S118 where
 f0 : Int
 f1 : Int
def z118 : S118 := ⟨(0 : Int), (0 : Int)⟩
def k118 : Kd S118 := Kd.iso (Kd.pair (Kd.int .i64) (Kd.int .i64)) (fun x : S118 => (x.f0, x.f1))
theorem k118_open {w : World} {x : S118} {cs : List Value} (h : k118.K w x cs) : cs = [.int .i64 x.f0, .int .i64 x.f1] := by
 obtain ⟨_, _, rfl, rfl, rfl⟩ := h; exact rfl
theorem k118_mkM (w : World) (base : Nat) (ok : Nat → Prop) (x : S118)  : k118.M w base ok x [.int .i64 x.f0, .int .i64 x.f1] := ⟨[.int .i64 x.f0], [.int .i64 x.f1], rfl, rfl, rfl⟩
def rd_T118 (xs : List S118) (i : Int) : S118 := xs.getD i.toNat z118
theorem at_T118 {w : World} {A : Option Addr} {n : Nat} {xs : List S118} (h : Kd.C k118 w A n xs) (i : Int) (h0 : 0 ≤ i) (h1 : i < n) : ∃ ad , A = some ad ∧ w.cell? (ad.add (i.toNat * 2)) = some (.int .i64 (rd_T118 xs i).f0) ∧ w.cell? ⟨(ad.add (i.toNat * 2)).block, (ad.add (i.toNat * 2)).off + 1, none⟩ = some (.int .i64 (rd_T118 xs i).f1) := by
 obtain ⟨ad, c, e, _, hK, hc0⟩ := Kd.C_get h z118 i h0 h1; have hc : ∀ j u, c[j]? = some u → w.cell? (ad.add (i.toNat * 2 + j)) = some u := hc0; obtain rfl := k118_open hK; exact ⟨ad, e, hc 0 _ rfl, by rw [← add_field _ _ 1 (by omega)]; exact hc 1 _ rfl⟩
structure S93 where
 f0 : Int
 f1 : Int
def z93 : S93 := ⟨(0 : Int), (0 : Int)⟩
def k93 : Kd S93 := Kd.iso (Kd.pair (Kd.int .i64) (Kd.int .i64)) (fun x : S93 => (x.f0, x.f1))
theorem k93_open {w : World} {x : S93} {cs : List Value} (h : k93.K w x cs) : cs = [.int .i64 x.f0, .int .i64 x.f1] := by
 obtain ⟨_, _, rfl, rfl, rfl⟩ := h; exact rfl
theorem k93_mkM (w : World) (base : Nat) (ok : Nat → Prop) (x : S93)  : k93.M w base ok x [.int .i64 x.f0, .int .i64 x.f1] := ⟨[.int .i64 x.f0], [.int .i64 x.f1], rfl, rfl, rfl⟩
def rd_T93 (xs : List S93) (i : Int) : S93 := xs.getD i.toNat z93
theorem at_T93 {w : World} {A : Option Addr} {n : Nat} {xs : List S93} (h : Kd.C k93 w A n xs) (i : Int) (h0 : 0 ≤ i) (h1 : i < n) : ∃ ad , A = some ad ∧ w.cell? (ad.add (i.toNat * 2)) = some (.int .i64 (rd_T93 xs i).f0) ∧ w.cell? ⟨(ad.add (i.toNat * 2)).block, (ad.add (i.toNat * 2)).off + 1, none⟩ = some (.int .i64 (rd_T93 xs i).f1) := by
 obtain ⟨ad, c, e, _, hK, hc0⟩ := Kd.C_get h z93 i h0 h1; have hc : ∀ j u, c[j]? = some u → w.cell? (ad.add (i.toNat * 2 + j)) = some u := hc0; obtain rfl := k93_open hK; exact ⟨ad, e, hc 0 _ rfl, by rw [← add_field _ _ 1 (by omega)]; exact hc 1 _ rfl⟩
end
section
attribute [local go_sem] max2_int min2_int max_two min_two
def skew_formed.f (a0_0 : Int) (a0_1 : Int) : Option (Bool) := if a0_0 ≤ a0_1 then (if a0_0 ≥ (-1000000) then (some (decide (a0_1 ≤ 1000000))) else (some false)) else (some false)
set_option maxHeartbeats 8000000 in
set_option maxRecDepth 100000 in
theorem skew_formed.calls (a0_0 : Int) (a0_1 : Int) (r : Bool) (w : World) (h : skew_formed.f a0_0 a0_1 = some r) :
  Calls Tryz.prog 78 #[.agg #[.int .i64 a0_0, .int .i64 a0_1]] w fun e w' => e = .returned (.bool r) ∧ Below w.heap.size w w' := by
 have hu65 := Tryz.underlying65; have HB := Aa (Below.refl w.heap.size w); have H : (if a0_0 ≤ a0_1 then (if a0_0 ≥ (-1000000) then (some (decide (a0_1 ≤ 1000000))) else (some false)) else (some false)) = some r := h; clear h
 by_cases c2 : a0_0 ≤ a0_1
 ·rw [if_pos c2] at H; have c2b0 : decide (a0_0 ≤ a0_1) = true := decide_eq_true c2; clear c2
  by_cases c3 : a0_0 ≥ (-1000000)
  ·rw [if_pos c3] at H; have c3b0 : decide ((-1000000) ≤ a0_0) = true := decide_eq_true c3; clear c3; obtain rfl := Option.some.inj H
   go_enter Tryz.func78, Tryz.ntmps78
   go_wp2_with (first | ((with_reducible refine gate_dst (N := 1) rfl ?_); refine box_event ?hg (N := 1) ?hd (cs := #[.int .i64 a0_0, .int .i64 a0_1]) (t := 65) ?hr ?_; (case hd => rfl); (case hg => rfl); (case hr => first | (go_simp; done) | (go_simp; rfl)); intro gb427 hg w4 hbox hb; have n0_ := Aa (Bp (by repeat (first | (with_reducible first | exact HB.out | apply Ba | apply Pn | apply Dn) | exact HB.out)) hb); have n1_ := Aa (hbox); have n2_ := Aa ((by rw [hg]; exact (below_size (by repeat (first | (with_reducible first | exact HB.out | apply Ba | apply Pn | apply Dn) | exact HB.out))) : w.heap.size ≤ gb427)); have n3_ := Aa ((by rw [hg]; exact (below_size (by repeat (first | (with_reducible first | exact HB.out | apply Ba | apply Pn | apply Dn) | exact HB.out))) : w.heap.size ≤ gb427)); clear HB; have HB := n0_; have BK427 := n1_; have GW427 := n2_; have GE427 := n3_; clear n0_ n1_ n2_ n3_; clear hb hbox hg; have hcz5_0 : w4.cell? ⟨gb427, 0, none⟩ = some (.int .i64 a0_0) := (Bc BK427.out 0).trans rfl; have hcz5_1 : w4.cell? ⟨gb427, 1, none⟩ = some (.int .i64 a0_1) := (Bc BK427.out 1).trans rfl; have hfz5_0 := Bf BK427.out 0; have hfz5_1 := Bf BK427.out 1))
   go_ret; exact ⟨by first | rfl | (simp [errW_none, errW_some] <;> rfl) | (simp [*, errW_none, errW_some] <;> rfl), by repeat (first | (with_reducible first | exact HB.out | apply Ba | apply Pn | apply Dn | refine Bz ?_ GE427.out) | exact HB.out)⟩
  ·rw [if_neg c3] at H; have c3b0 : decide ((-1000000) ≤ a0_0) = false := decide_eq_false c3; clear c3; obtain rfl := Option.some.inj H
   go_enter Tryz.func78, Tryz.ntmps78
   go_wp2_with (first | ((with_reducible refine gate_dst (N := 1) rfl ?_); refine box_event ?hg (N := 1) ?hd (cs := #[.int .i64 a0_0, .int .i64 a0_1]) (t := 65) ?hr ?_; (case hd => rfl); (case hg => rfl); (case hr => first | (go_simp; done) | (go_simp; rfl)); intro gb427 hg w6 hbox hb; have n0_ := Aa (Bp (by repeat (first | (with_reducible first | exact HB.out | apply Ba | apply Pn | apply Dn) | exact HB.out)) hb); have n1_ := Aa (hbox); have n2_ := Aa ((by rw [hg]; exact (below_size (by repeat (first | (with_reducible first | exact HB.out | apply Ba | apply Pn | apply Dn) | exact HB.out))) : w.heap.size ≤ gb427)); have n3_ := Aa ((by rw [hg]; exact (below_size (by repeat (first | (with_reducible first | exact HB.out | apply Ba | apply Pn | apply Dn) | exact HB.out))) : w.heap.size ≤ gb427)); clear HB; have HB := n0_; have BK427 := n1_; have GW427 := n2_; have GE427 := n3_; clear n0_ n1_ n2_ n3_; clear hb hbox hg; have hcz7_0 : w6.cell? ⟨gb427, 0, none⟩ = some (.int .i64 a0_0) := (Bc BK427.out 0).trans rfl; have hcz7_1 : w6.cell? ⟨gb427, 1, none⟩ = some (.int .i64 a0_1) := (Bc BK427.out 1).trans rfl; have hfz7_0 := Bf BK427.out 0; have hfz7_1 := Bf BK427.out 1))
   go_ret; exact ⟨by first | rfl | (simp [errW_none, errW_some] <;> rfl) | (simp [*, errW_none, errW_some] <;> rfl), by repeat (first | (with_reducible first | exact HB.out | apply Ba | apply Pn | apply Dn | refine Bz ?_ GE427.out) | exact HB.out)⟩
 ·rw [if_neg c2] at H; have c2b0 : decide (a0_0 ≤ a0_1) = false := decide_eq_false c2; clear c2; obtain rfl := Option.some.inj H
  go_enter Tryz.func78, Tryz.ntmps78
  go_wp2_with (first | ((with_reducible refine gate_dst (N := 1) rfl ?_); refine box_event ?hg (N := 1) ?hd (cs := #[.int .i64 a0_0, .int .i64 a0_1]) (t := 65) ?hr ?_; (case hd => rfl); (case hg => rfl); (case hr => first | (go_simp; done) | (go_simp; rfl)); intro gb427 hg w8 hbox hb; have n0_ := Aa (Bp (by repeat (first | (with_reducible first | exact HB.out | apply Ba | apply Pn | apply Dn) | exact HB.out)) hb); have n1_ := Aa (hbox); have n2_ := Aa ((by rw [hg]; exact (below_size (by repeat (first | (with_reducible first | exact HB.out | apply Ba | apply Pn | apply Dn) | exact HB.out))) : w.heap.size ≤ gb427)); have n3_ := Aa ((by rw [hg]; exact (below_size (by repeat (first | (with_reducible first | exact HB.out | apply Ba | apply Pn | apply Dn) | exact HB.out))) : w.heap.size ≤ gb427)); clear HB; have HB := n0_; have BK427 := n1_; have GW427 := n2_; have GE427 := n3_; clear n0_ n1_ n2_ n3_; clear hb hbox hg; have hcz9_0 : w8.cell? ⟨gb427, 0, none⟩ = some (.int .i64 a0_0) := (Bc BK427.out 0).trans rfl; have hcz9_1 : w8.cell? ⟨gb427, 1, none⟩ = some (.int .i64 a0_1) := (Bc BK427.out 1).trans rfl; have hfz9_0 := Bf BK427.out 0; have hfz9_1 := Bf BK427.out 1))
  go_ret; exact ⟨by first | rfl | (simp [errW_none, errW_some] <;> rfl) | (simp [*, errW_none, errW_some] <;> rfl), by repeat (first | (with_reducible first | exact HB.out | apply Ba | apply Pn | apply Dn | refine Bz ?_ GE427.out) | exact HB.out)⟩
end
section
attribute [local go_sem] max2_int min2_int max_two min_two
def skew_within.f (a0 : Int) (a1 : Int) (a2 : Int) : Option (Bool) := if a0 ≥ a1 then (some (decide (a0 ≤ a2))) else (some false)
set_option maxHeartbeats 8000000 in
set_option maxRecDepth 100000 in
theorem skew_within.calls (a0 : Int) (a1 : Int) (a2 : Int) (r : Bool) (w : World) (h : skew_within.f a0 a1 a2 = some r) :
  Calls Tryz.prog 13 #[.int .i64 a0, .int .i64 a1, .int .i64 a2] w fun e w' => e = .returned (.bool r) ∧ Drawn0 w w' := by
 have H : (if a0 ≥ a1 then (some (decide (a0 ≤ a2))) else (some false)) = some r := h; clear h
 by_cases c4 : a0 ≥ a1
 ·rw [if_pos c4] at H; have c4b0 : decide (a1 ≤ a0) = true := decide_eq_true c4; clear c4; obtain rfl := Option.some.inj H
  go_enter Tryz.func13, Tryz.ntmps13
  go_wp2; go_ret; exact ⟨by first | rfl | (simp; done) | (simp [*]; done), by repeat (first | exact Drawn0.refl _ | apply Drawn0.step)⟩
 ·rw [if_neg c4] at H; have c4b0 : decide (a1 ≤ a0) = false := decide_eq_false c4; clear c4; obtain rfl := Option.some.inj H
  go_enter Tryz.func13, Tryz.ntmps13
  go_wp2; go_ret; exact ⟨by first | rfl | (simp; done) | (simp [*]; done), by repeat (first | exact Drawn0.refl _ | apply Drawn0.step)⟩
end
section
attribute [local go_sem] max2_int min2_int max_two min_two
mutual
def rf_least.l0 : Nat → List Int → List (S82) → List Int → Int → Option (List Int × Bool)
 | 0, _, _, _, _ => none
 | k + 1, x0, x1, x6, x7 => if x7 ≤ (x0.length : Int) then (rf_least.l1 k x0 x1 x6 x7 false 0) else (some (([] : List Int), false))
def rf_least.l1 : Nat → List Int → List (S82) → List Int → Int → Bool → Int → Option (List Int × Bool)
 | 0, _, _, _, _, _, _ => none
 | k + 1, x0, x1, x6, x7, x8, x9 => if x9 < (x1.length : Int) then (if 0 ≤ x9 then (if 0 ≤ ((rd_T82 x1 x9).f1) then (if ((rd_T82 x1 x9).f1) < (x6.length : Int) then (if 0 ≤ ((rd_T82 x1 x9).f0) then (if ((rd_T82 x1 x9).f0) < (x6.length : Int) then (if (rd x6 ((rd_T82 x1 x9).f1)) < (wrap64 ((rd x6 ((rd_T82 x1 x9).f0)) + ((rd_T82 x1 x9).f2))) then ((some (x6.set (((rd_T82 x1 x9).f1) : Int).toNat (wrap64 ((rd x6 ((rd_T82 x1 x9).f0)) + ((rd_T82 x1 x9).f2))) : List Int)).bind fun y127 => (if (rd y127 ((rd_T82 x1 x9).f0)) < (wrap64 ((rd y127 ((rd_T82 x1 x9).f1)) - ((rd_T82 x1 x9).f3))) then (rf_least.l1 k x0 x1 (y127.set (((rd_T82 x1 x9).f0) : Int).toNat (wrap64 ((rd y127 ((rd_T82 x1 x9).f1)) - ((rd_T82 x1 x9).f3)))) x7 true (wrap64 (x9 + 1))) else (rf_least.l1 k x0 x1 y127 x7 true (wrap64 (x9 + 1))))) else (if (rd x6 ((rd_T82 x1 x9).f0)) < (wrap64 ((rd x6 ((rd_T82 x1 x9).f1)) - ((rd_T82 x1 x9).f3))) then (rf_least.l1 k x0 x1 (x6.set (((rd_T82 x1 x9).f0) : Int).toNat (wrap64 ((rd x6 ((rd_T82 x1 x9).f1)) - ((rd_T82 x1 x9).f3)))) x7 true (wrap64 (x9 + 1))) else (rf_least.l1 k x0 x1 x6 x7 x8 (wrap64 (x9 + 1))))) else (none)) else (none)) else (none)) else (none)) else (none)) else (if x8 = true then (rf_least.l0 k x0 x1 x6 (wrap64 (x7 + 1))) else (some (x6, true)))
end
def rf_least.f (k : Nat) (l0 : List Int) (l1 : List (S82)) : Option (List Int × Bool) := (some (([] : List Int) : List Int)).bind fun y116 => (if y116.length + l0.length < 17592186044416 then (rf_least.l0 k l0 l1 (y116 ++ l0) 0) else (none))
def rf_least.T10 : Bool × List (List Nat × List Nat) := (true, [([], []), ([], []), ([1], [1]), ([0, 2], [0, 2]), ([3], [3]), ([], []), ([], []), ([6], [6]), ([5, 7], [5, 7]), ([8], [8]), ([], []), ([10], [10]), ([9, 11], [9, 11]), ([4, 12], [4, 12])])
def rf_least.B10 : List Nat := [0, 0, 2, 7, 15, 0, 0, 64, 224, 480, 0, 1024, 4064, 8191]
theorem rf_least.tab10 : rtab .any (opsOf Tryz.f80 10) = rf_least.T10 := by kernel_rfl
theorem rf_least.bits10 : waitsOk rf_least.T10.2 rf_least.B10 = true := by kernel_rfl
def rf_least.T11 : Bool × List (List Nat × List Nat) := (true, [([], []), ([], []), ([1], [1]), ([], []), ([], []), ([4], [4]), ([3, 5], [3, 5]), ([6], [6]), ([], []), ([8], [8]), ([7, 9], [7, 9]), ([0, 2, 0, 1, 2, 3, 4, 5, 6, 7, 8, 9, 10], [0, 2]), ([11, 10, 0, 1, 2, 3, 4, 5, 6, 7, 8, 9, 10], [10, 11])])
def rf_least.B11 : List Nat := [0, 0, 2, 0, 0, 16, 56, 120, 0, 256, 1016, 2047, 4095]
theorem rf_least.tab11 : rtab .any (opsOf Tryz.f80 11) = rf_least.T11 := by kernel_rfl
theorem rf_least.bits11 : waitsOk rf_least.T11.2 rf_least.B11 = true := by kernel_rfl
def rf_least.T13 : Bool × List (List Nat × List Nat) := (true, [([], []), ([], []), ([1], [1]), ([0, 2], [0, 2]), ([3], [3]), ([], []), ([], []), ([6], [6]), ([5, 7], [5, 7]), ([8], [8]), ([], []), ([10], [10]), ([9, 11], [9, 11]), ([4, 12], [4, 12])])
def rf_least.B13 : List Nat := [0, 0, 2, 7, 15, 0, 0, 64, 224, 480, 0, 1024, 4064, 8191]
theorem rf_least.tab13 : rtab .any (opsOf Tryz.f80 13) = rf_least.T13 := by kernel_rfl
theorem rf_least.bits13 : waitsOk rf_least.T13.2 rf_least.B13 = true := by kernel_rfl
def rf_least.T14 : Bool × List (List Nat × List Nat) := (true, [([], []), ([], []), ([1], [1]), ([], []), ([], []), ([4], [4]), ([3, 5], [3, 5]), ([6], [6]), ([], []), ([8], [8]), ([7, 9], [7, 9]), ([0, 2, 0, 1, 2, 3, 4, 5, 6, 7, 8, 9, 10], [0, 2]), ([11, 10, 0, 1, 2, 3, 4, 5, 6, 7, 8, 9, 10], [10, 11])])
def rf_least.B14 : List Nat := [0, 0, 2, 0, 0, 16, 56, 120, 0, 256, 1016, 2047, 4095]
theorem rf_least.tab14 : rtab .any (opsOf Tryz.f80 14) = rf_least.T14 := by kernel_rfl
theorem rf_least.bits14 : waitsOk rf_least.T14.2 rf_least.B14 = true := by kernel_rfl
set_option maxHeartbeats 8000000 in
set_option maxRecDepth 100000 in
theorem rf_least.calls (k : Nat) (A0 : Option Addr) (c0 : Nat) (l0 : List Int) (A1 : Option Addr) (c1 : Nat) (l1 : List (S82)) (r1 : List Int) (r2 : Bool) (w : World) (hr0 : Kd.C (Kd.int .i64) w A0 l0.length l0) (hc0 : l0.length ≤ c0) (hr1 : Kd.C k82 w A1 l1.length l1) (hc1 : l1.length ≤ c1) (h : rf_least.f k l0 l1 = some (r1, r2)) :
  Calls Tryz.prog 80 #[.slice A0 l0.length c0, .slice A1 l1.length c1] w fun e w' => ∃ v0_ : Value, e = .returned (.tuple #[v0_, .bool r2]) ∧ Kd.R (Kd.int .i64) 3 w' w.heap.size (fun _ => True) v0_ r1 ∧ Below w.heap.size w w' := by
 have hu82 := Tryz.underlying82; have HR0 := Aa hr0; have HC0 := Aa hc0; clear hr0 hc0; have HR1 := Aa hr1; have HC1 := Aa hc1; clear hr1 hc1; have HB := Aa (Below.refl w.heap.size w); have H : ((some (([] : List Int) : List Int)).bind fun y116 => (if y116.length + l0.length < 17592186044416 then (rf_least.l0 k l0 l1 (y116 ++ l0) 0) else (none))) = some (r1, r2) := h; clear h
 obtain ⟨y116, hy116⟩ : ∃ y_ : List Int, y_ = (([] : List Int)) := ⟨_, rfl⟩
 replace H : (if y116.length + l0.length < 17592186044416 then (rf_least.l0 k l0 l1 (y116 ++ l0) 0) else (none)) = some (r1, r2) := by first | (rw [hy116]; with_reducible exact H) | (have H2_ := (Option.bind_some _ _).symm.trans H; rw [hy116]; with_reducible exact H2_) | (have H2_ := (Option.bind_some _ _).symm.trans H; with_reducible exact H2_) | with_reducible exact H | (rw [hy116]; exact H) | exact H
 have Ny116 := Aa hy116; clear hy116
 by_cases c3 : y116.length + l0.length < 17592186044416
 ·rw [if_pos c3] at H; have LMc3 := Aa c3; clear c3
  obtain ⟨y119, hy119⟩ : ∃ y_ : List Int, y_ = (y116 ++ l0) := ⟨_, rfl⟩
  replace H : (rf_least.l0 k l0 l1 y119 0) = some (r1, r2) := by first | (rw [hy119]; with_reducible exact H) | (have H2_ := (Option.bind_some _ _).symm.trans H; rw [hy119]; with_reducible exact H2_) | (have H2_ := (Option.bind_some _ _).symm.trans H; with_reducible exact H2_) | with_reducible exact H | (rw [hy119]; exact H) | exact H
  have Ny119 := Aa hy119; clear hy119; have H' := Aa H; clear H
  go_enter Tryz.func80, Tryz.ntmps80
  go_wp2_with (first | ((with_reducible refine gate_dst (N := 11) rfl ?_); refine Kd.R_lit (Kd.int .i64) _ 3 ?hg (N := 11) ?hd (xs := ([] : List Int)) (inner := []) (ok := fun _ => True) (okp := fun _ => True) ?hr ?hp (fun _ hk => hk) trivial (Below.refl _ _) (Nat.le_refl _) (by simp) ?_; (case hd => rfl); (case hg => rfl); (case hr => first | (go_simp; done) | (go_simp; rfl)); (case hp => exact (Reps.none _ _)); intro v117 w4 ho5 hb hg_ hnew_; clear hg_ hnew_; (first | rw [← Ny116.out] at ho5 | (simp only [Int.reduceToNat] at ho5; rw [← Ny116.out] at ho5)); have n0_ := Aa (Kd.R_lower ho5 (below_size (by repeat (first | (with_reducible first | exact HB.out | apply Ba | apply Pn | apply Dn) | exact HB.out)))); have n1_ := Aa (Bp (by repeat (first | (with_reducible first | exact HB.out | apply Ba | apply Pn | apply Dn) | exact HB.out)) hb); clear HB; have HO118 := n0_; have HB := n1_; clear n0_ n1_; clear hb ho5) | ((with_reducible refine gate_builtin (b := .append) (xs := #[.tmp 11, .tmp 12]) rfl ?_); at_builtin; refine Kd.R_append_rows (Kd.int .i64) (w0 := w) w.heap.size rfl (.tmp 11) (.tmp 12) 26 3 (.int .i64 0) 8 rfl Tryz.underlying26 info3 rfl (by decide) (by omega) v117 y116 l0 _ _ _ (fun _ => True) (fun _ => False) rfl rfl ?aO ?aR (fun _ _ h => h) (fun _ h => h.elim) ?aF ?aB ?aS ?aL ?_; (case aR => repeat (first | exact (Kd.C_below HR0.out HB.out) | (with_reducible refine Kd.C_alloc ?_ _) | (with_reducible refine Kd.C_drewN ?_ _) | (with_reducible refine Kd.C_drew ?_))); (case aB => exact (by repeat (first | (with_reducible first | exact HB.out | apply Ba | apply Pn | apply Dn) | exact HB.out))); (case aF => exact (fun _ _ => trivial)); (case aO => exact (by (with_reducible repeat (first | apply Kd.R_alloc | apply Kd.R_drewN | apply Kd.R_drew)); exact HO118.out)); (case aS => exact (below_size (by repeat (first | (with_reducible first | exact HB.out | apply Ba | apply Pn | apply Dn) | exact HB.out)))); (case aL => have := LMc3.out; omega); intro v120 w6 ho hb hg hat; rw [← Ny119.out] at ho; have n0_ := Aa (hb); have n1_ := Aa (ho); clear HB; clear HO118; have HB := n0_; have HO121 := n1_; clear n0_ n1_; clear ho hb hg hat))
  go_loopg [7] k (fun kq v7 w' => ∃ (x6_1 : List Int) (x7_1 : Int), v7 = .int .i64 x7_1 ∧ Aside0 (rf_least.l0 kq l0 l1 x6_1 x7_1 = some (r1, r2)) ∧ Aside0 (kq ≤ k) ∧ Aside0 (Kd.R (Kd.int .i64) 3 w' w.heap.size (fun _ => True) v120 x6_1) ∧ Aside0 (Below w.heap.size w w'))
  case atStart => exact ⟨(y119), (0), (by first | rfl | (simp; done) | (simp [*]; done)), H', ⟨Nat.le_refl _⟩, ⟨by (with_reducible repeat (first | apply Kd.R_alloc | apply Kd.R_drewN | apply Kd.R_drew)); exact HO121.out⟩, ⟨by repeat (first | (with_reducible first | exact HB.out | apply Ba | apply Pn | apply Dn) | exact HB.out)⟩⟩
  case round =>
   clear H'; try clear c1
   try clear p2
   try clear c3
   obtain ⟨x6_1, x7_1, rfl, HA, HK1, HO_6, HB⟩ := hrel
   cases gk with
   | zero => exact absurd HA.out (by simp [rf_least.l0])
   | succ k1 =>
    have H := HA.out; clear HA; simp only [rf_least.l0] at H
    by_cases c7 : x7_1 ≤ (l0.length : Int)
    ·rw [if_pos c7] at H; have c7b0 : decide (x7_1 ≤ (l0.length : Int)) = true := decide_eq_true c7; clear c7; have H' := Aa H; clear H; go_wp2
     go_loopg [8, 9] k1 (fun kq v8 v9 w' => ∃ (x6_2 : List Int) (x8_2 : Bool) (x9_2 : Int), v8 = .bool x8_2 ∧ v9 = .int .i64 x9_2 ∧ Aside0 (rf_least.l1 kq l0 l1 x6_2 x7_1 x8_2 x9_2 = some (r1, r2)) ∧ Aside0 (kq ≤ k1) ∧ Aside0 (Kd.R (Kd.int .i64) 3 w' w.heap.size (fun _ => True) v120 x6_2) ∧ Aside0 (Below w.heap.size w w'))
     case atStart => exact ⟨(x6_1), (false), (0), (by first | rfl | (simp; done) | (simp [*]; done)), (by first | rfl | (simp; done) | (simp [*]; done)), H', ⟨Nat.le_refl _⟩, ⟨by (with_reducible repeat (first | apply Kd.R_alloc | apply Kd.R_drewN | apply Kd.R_drew)); exact HO_6.out⟩, ⟨by repeat (first | (with_reducible first | exact HB.out | apply Ba | apply Pn | apply Dn) | exact HB.out)⟩⟩
     case round =>
      clear H'; try clear c1
      try clear p2
      try clear c3
      try clear c7
      try clear c7b0
      try clear p2
      obtain ⟨x6_2, x8_2, x9_2, rfl, rfl, HA, HK2, HO_6, HB⟩ := hrel
      cases gk with
      | zero => exact absurd HA.out (by simp [rf_least.l1])
      | succ k2 =>
       have H := HA.out; clear HA; simp only [rf_least.l1] at H
       by_cases c8 : x9_2 < (l1.length : Int)
       ·rw [if_pos c8] at H; have c8b0 : decide (x9_2 < (l1.length : Int)) = true := decide_eq_true c8; clear c8
        by_cases c9 : 0 ≤ x9_2
        ·rw [if_pos c9] at H; have c9b0 : decide (0 ≤ x9_2) = true := decide_eq_true c9; clear c9
         by_cases c10 : 0 ≤ ((rd_T82 l1 x9_2).f1)
         ·rw [if_pos c10] at H; have c10b0 : decide (0 ≤ ((rd_T82 l1 x9_2).f1)) = true := decide_eq_true c10; clear c10
          by_cases c11 : ((rd_T82 l1 x9_2).f1) < (x6_2.length : Int)
          ·rw [if_pos c11] at H; have c11b0 : decide (((rd_T82 l1 x9_2).f1) < (x6_2.length : Int)) = true := decide_eq_true c11; clear c11
           by_cases c12 : 0 ≤ ((rd_T82 l1 x9_2).f0)
           ·rw [if_pos c12] at H; have c12b0 : decide (0 ≤ ((rd_T82 l1 x9_2).f0)) = true := decide_eq_true c12; clear c12
            by_cases c13 : ((rd_T82 l1 x9_2).f0) < (x6_2.length : Int)
            ·rw [if_pos c13] at H; have c13b0 : decide (((rd_T82 l1 x9_2).f0) < (x6_2.length : Int)) = true := decide_eq_true c13; clear c13
             by_cases c14 : (rd x6_2 ((rd_T82 l1 x9_2).f1)) < (wrap64 ((rd x6_2 ((rd_T82 l1 x9_2).f0)) + ((rd_T82 l1 x9_2).f2)))
             ·rw [if_pos c14] at H; have c14b0 : decide ((rd x6_2 ((rd_T82 l1 x9_2).f1)) < (wrap64 ((rd x6_2 ((rd_T82 l1 x9_2).f0)) + ((rd_T82 l1 x9_2).f2)))) = true := decide_eq_true c14; clear c14
              obtain ⟨y127, hy127⟩ : ∃ y_ : List Int, y_ = (x6_2.set (((rd_T82 l1 x9_2).f1) : Int).toNat (wrap64 ((rd x6_2 ((rd_T82 l1 x9_2).f0)) + ((rd_T82 l1 x9_2).f2)))) := ⟨_, rfl⟩
              replace H : (if (rd y127 ((rd_T82 l1 x9_2).f0)) < (wrap64 ((rd y127 ((rd_T82 l1 x9_2).f1)) - ((rd_T82 l1 x9_2).f3))) then (rf_least.l1 k2 l0 l1 (y127.set (((rd_T82 l1 x9_2).f0) : Int).toNat (wrap64 ((rd y127 ((rd_T82 l1 x9_2).f1)) - ((rd_T82 l1 x9_2).f3)))) x7_1 true (wrap64 (x9_2 + 1))) else (rf_least.l1 k2 l0 l1 y127 x7_1 true (wrap64 (x9_2 + 1)))) = some (r1, r2) := by first | (rw [hy127]; with_reducible exact H) | (have H2_ := (Option.bind_some _ _).symm.trans H; rw [hy127]; with_reducible exact H2_) | (have H2_ := (Option.bind_some _ _).symm.trans H; with_reducible exact H2_) | with_reducible exact H | (rw [hy127]; exact H) | exact H
              have Ny127 := Aa hy127; clear hy127
              by_cases c16 : (rd y127 ((rd_T82 l1 x9_2).f0)) < (wrap64 ((rd y127 ((rd_T82 l1 x9_2).f1)) - ((rd_T82 l1 x9_2).f3)))
              ·rw [if_pos c16] at H; have c16b0 : decide ((rd y127 ((rd_T82 l1 x9_2).f0)) < (wrap64 ((rd y127 ((rd_T82 l1 x9_2).f1)) - ((rd_T82 l1 x9_2).f3)))) = true := decide_eq_true c16; clear c16
               obtain ⟨y131, hy131⟩ : ∃ y_ : List Int, y_ = (y127.set (((rd_T82 l1 x9_2).f0) : Int).toNat (wrap64 ((rd y127 ((rd_T82 l1 x9_2).f1)) - ((rd_T82 l1 x9_2).f3)))) := ⟨_, rfl⟩
               replace H : (rf_least.l1 k2 l0 l1 y131 x7_1 true (wrap64 (x9_2 + 1))) = some (r1, r2) := by first | (rw [hy131]; with_reducible exact H) | (have H2_ := (Option.bind_some _ _).symm.trans H; rw [hy131]; with_reducible exact H2_) | (have H2_ := (Option.bind_some _ _).symm.trans H; with_reducible exact H2_) | with_reducible exact H | (rw [hy131]; exact H) | exact H
               have Ny131 := Aa hy131; clear hy131; have H' := Aa H; clear H; have p122 : 0 ≤ (x9_2 : Int) := Od (by first | (with_reducible assumption) | assumption); have q122 : x9_2 < (l1.length : Int) := Od (by first | (with_reducible assumption) | assumption); obtain ⟨ad122, e122, hx122_0, hx122_1, hx122_2, hx122_3⟩ := at_T82 HR1.out x9_2 p122 q122; cases e122; replace hx122_0 := (HB.out.cell (Wb w _ hx122_0)).trans hx122_0; replace hx122_1 := (HB.out.cell (Wb w _ hx122_1)).trans hx122_1; replace hx122_2 := (HB.out.cell (Wb w _ hx122_2)).trans hx122_2; replace hx122_3 := (HB.out.cell (Wb w _ hx122_3)).trans hx122_3; replace p122 := eq_true p122; replace q122 := eq_true q122; try go_wp2_with (first | ((with_reducible refine gate_dst (N := 10) rfl ?_); refine box_event ?hg (N := 10) ?hd (cs := #[.int .i64 0, .int .i64 0, .int .i64 0, .int .i64 0]) (t := 82) ?hr ?_; (case hd => rfl); (case hg => rfl); (case hr => first | (go_simp; done) | (go_simp; rfl)); intro gb123 hg w18 hbox hb; have n0_ := Aa (Kd.R_below (by (with_reducible repeat (first | apply Kd.R_alloc | apply Kd.R_drewN | apply Kd.R_drew)); exact HO_6.out) hb); have n1_ := Aa (Bp (by repeat (first | (with_reducible first | exact HB.out | apply Ba | apply Pn | apply Dn) | exact HB.out)) hb); have n2_ := Aa (hbox); have n3_ := Aa ((by rw [hg]; exact (below_size (by repeat (first | (with_reducible first | exact HB.out | apply Ba | apply Pn | apply Dn) | exact HB.out))) : w.heap.size ≤ gb123)); have n4_ := Aa ((by rw [hg]; exact (below_size (by repeat (first | (with_reducible first | exact HB.out | apply Ba | apply Pn | apply Dn) | exact HB.out))) : w.heap.size ≤ gb123)); clear HO_6; clear HB; have HO_6 := n0_; have HB := n1_; have BK123 := n2_; have GW123 := n3_; have GE123 := n4_; clear n0_ n1_ n2_ n3_ n4_; clear hb hbox hg; have hcz19_0 : w18.cell? ⟨gb123, 0, none⟩ = some (.int .i64 0) := (Bc BK123.out 0).trans rfl; have hcz19_1 : w18.cell? ⟨gb123, 1, none⟩ = some (.int .i64 0) := (Bc BK123.out 1).trans rfl; have hcz19_2 : w18.cell? ⟨gb123, 2, none⟩ = some (.int .i64 0) := (Bc BK123.out 2).trans rfl; have hcz19_3 : w18.cell? ⟨gb123, 3, none⟩ = some (.int .i64 0) := (Bc BK123.out 3).trans rfl; have hfz19_0 := Bf BK123.out 0; have hfz19_1 := Bf BK123.out 1; have hfz19_2 := Bf BK123.out 2; have hfz19_3 := Bf BK123.out 3))
               have n0_ : Aside0 (Kd.R (Kd.int .i64) 3 ((((w18.setCell ⟨gb123, 0, none⟩ (.int .i64 ((rd_T82 l1 x9_2).f0))).setCell ⟨gb123, 1, none⟩ (.int .i64 ((rd_T82 l1 x9_2).f1))).setCell ⟨gb123, 2, none⟩ (.int .i64 ((rd_T82 l1 x9_2).f2))).setCell ⟨gb123, 3, none⟩ (.int .i64 ((rd_T82 l1 x9_2).f3))) w.heap.size (fun _ => True) v120 x6_2) := ⟨by (with_reducible repeat (first | apply Kd.R_alloc | apply Kd.R_drewN | apply Kd.R_drew)); exact Kd.R_mono (Kd.R_far (p := ⟨gb123, 3, none⟩) (Kd.R_far (p := ⟨gb123, 2, none⟩) (Kd.R_far (p := ⟨gb123, 1, none⟩) (Kd.R_far (p := ⟨gb123, 0, none⟩) (Kd.R_types HO_6.out BK123.out (by decide)) (fun _ hk => hk.2) (.int .i64 ((rd_T82 l1 x9_2).f0))) (fun _ hk => hk.2) (.int .i64 ((rd_T82 l1 x9_2).f1))) (fun _ hk => hk.2) (.int .i64 ((rd_T82 l1 x9_2).f2))) (fun _ hk => hk.2) (.int .i64 ((rd_T82 l1 x9_2).f3))) (fun _ hk => trivial)⟩
               have n1_ : Aside0 (((((w18.setCell ⟨gb123, 0, none⟩ (.int .i64 ((rd_T82 l1 x9_2).f0))).setCell ⟨gb123, 1, none⟩ (.int .i64 ((rd_T82 l1 x9_2).f1))).setCell ⟨gb123, 2, none⟩ (.int .i64 ((rd_T82 l1 x9_2).f2))).setCell ⟨gb123, 3, none⟩ (.int .i64 ((rd_T82 l1 x9_2).f3))).heap[gb123]? = some (.cells #[.int .i64 ((rd_T82 l1 x9_2).f0), .int .i64 ((rd_T82 l1 x9_2).f1), .int .i64 ((rd_T82 l1 x9_2).f2), .int .i64 ((rd_T82 l1 x9_2).f3)] 82 (0, 0))) := ⟨by (with_reducible repeat (first | refine Kn ?_ _ | refine Kw ?_ | refine Ka ?_ _)); refine blk_put (cs := #[.int .i64 ((rd_T82 l1 x9_2).f0), .int .i64 ((rd_T82 l1 x9_2).f1), .int .i64 ((rd_T82 l1 x9_2).f2), .int .i64 0]) ?_ 3 _ rfl; (with_reducible repeat (first | refine Kn ?_ _ | refine Kw ?_ | refine Ka ?_ _)); refine blk_put (cs := #[.int .i64 ((rd_T82 l1 x9_2).f0), .int .i64 ((rd_T82 l1 x9_2).f1), .int .i64 0, .int .i64 0]) ?_ 2 _ rfl; (with_reducible repeat (first | refine Kn ?_ _ | refine Kw ?_ | refine Ka ?_ _)); refine blk_put (cs := #[.int .i64 ((rd_T82 l1 x9_2).f0), .int .i64 0, .int .i64 0, .int .i64 0]) ?_ 1 _ rfl; (with_reducible repeat (first | refine Kn ?_ _ | refine Kw ?_ | refine Ka ?_ _)); refine blk_put (cs := #[.int .i64 0, .int .i64 0, .int .i64 0, .int .i64 0]) ?_ 0 _ rfl; (with_reducible repeat (first | refine Kn ?_ _ | refine Kw ?_ | refine Ka ?_ _)); exact BK123.out⟩
               have n2_ : Aside0 (Below w.heap.size w ((((w18.setCell ⟨gb123, 0, none⟩ (.int .i64 ((rd_T82 l1 x9_2).f0))).setCell ⟨gb123, 1, none⟩ (.int .i64 ((rd_T82 l1 x9_2).f1))).setCell ⟨gb123, 2, none⟩ (.int .i64 ((rd_T82 l1 x9_2).f2))).setCell ⟨gb123, 3, none⟩ (.int .i64 ((rd_T82 l1 x9_2).f3)))) := ⟨by repeat (first | (with_reducible first | exact HB.out | apply Ba | apply Pn | apply Dn | refine Bz ?_ GE123.out) | exact HB.out)⟩
               (try clear HO_6)
               (try clear BK123)
               (try clear HB)
               generalize ((((w18.setCell ⟨gb123, 0, none⟩ (.int .i64 ((rd_T82 l1 x9_2).f0))).setCell ⟨gb123, 1, none⟩ (.int .i64 ((rd_T82 l1 x9_2).f1))).setCell ⟨gb123, 2, none⟩ (.int .i64 ((rd_T82 l1 x9_2).f2))).setCell ⟨gb123, 3, none⟩ (.int .i64 ((rd_T82 l1 x9_2).f3))) = w20 at n0_ n1_ n2_ ⊢; have HO_6 := n0_; have BK123 := n1_; have HB := n2_; clear n0_ n1_ n2_; have n0_ := Aa (Kd.R_drew HO_6.out); have n1_ := Aa (Kw BK123.out); have n2_ := Aa (Dn HB.out); clear HO_6; clear BK123; clear HB; have HO_6 := n0_; have BK123 := n1_; have HB := n2_; clear n0_ n1_ n2_; obtain ⟨Ao22, co22, eo22⟩ := Kd.R_slice HO_6.out
               (first | subst eo22 | (injection eo22 with f1_ f2_ f3_; have f4_ := f1_.symm; have f5_ := f3_.symm; clear f1_ f2_ f3_; subst f4_; subst f5_))
               have p124 : 0 ≤ (((rd_T82 l1 x9_2).f1) : Int) := Od (by first | (with_reducible assumption) | assumption); have q124 : ((rd_T82 l1 x9_2).f1) < (x6_2.length : Int) := Od (by first | (with_reducible assumption) | assumption); obtain ⟨ad124, e124, hx124_0⟩ := Kd.at_int (Kd.R_reads' HO_6.out).2.2 ((rd_T82 l1 x9_2).f1) p124 q124; cases e124; replace p124 := eq_true p124; replace q124 := eq_true q124; have p125 : 0 ≤ (((rd_T82 l1 x9_2).f0) : Int) := Od (by first | (with_reducible assumption) | assumption); have q125 : ((rd_T82 l1 x9_2).f0) < (x6_2.length : Int) := Od (by first | (with_reducible assumption) | assumption); obtain ⟨ad125, e125, hx125_0⟩ := Kd.at_int (Kd.R_reads' HO_6.out).2.2 ((rd_T82 l1 x9_2).f0) p125 q125
               obtain rfl : ad124 = ad125 := (by injection e125)
               replace p125 := eq_true p125; replace q125 := eq_true q125; refine start_ (n := 14) (S := fun w' => w'.cell? ⟨gb123, 0, none⟩ = some (.int .i64 ((rd_T82 l1 x9_2).f0)) ∧ w'.cell? ⟨gb123, 1, none⟩ = some (.int .i64 ((rd_T82 l1 x9_2).f1)) ∧ w'.cell? ⟨gb123, 2, none⟩ = some (.int .i64 ((rd_T82 l1 x9_2).f2)) ∧ w'.cell? ⟨gb123, 3, none⟩ = some (.int .i64 ((rd_T82 l1 x9_2).f3)) ∧ w'.cell? (ad124.add (((rd_T82 l1 x9_2).f1)).toNat) = some (.int .i64 (rd x6_2 ((rd_T82 l1 x9_2).f1))) ∧ w'.cell? (ad124.add (((rd_T82 l1 x9_2).f0)).toNat) = some (.int .i64 (rd x6_2 ((rd_T82 l1 x9_2).f0)))) (ds := []) #[false, false, false, false, false, false, false, false, false, false, false, false, false, false] (by kernel_rfl) rfl rfl ⟨(Bc BK123.out 0).trans rfl, (Bc BK123.out 1).trans rfl, (Bc BK123.out 2).trans rfl, (Bc BK123.out 3).trans rfl, hx124_0, hx125_0⟩ (fun hHeld => ?_); refine with_tabW rf_least.tab10 rf_least.bits10 (fun HT_ HW_ => ?_); generalize w20.drew = w21 at HO_6 BK123 HB hx124_0 hx125_0 hHeld ⊢; refine pure_ (i := 0) (N := some 30) (v := ?_) (a' := ?_) #[true, false, false, false, false, false, false, false, false, false, false, false, false, false] rfl rfl (any_of HT_.out (by kernel_rfl)) (fun _ _ _ h => h) (Or.inl ⟨by rfl, ?_⟩) ?_ ?_; rotate_left
               ·intro w'; go_simp; with_reducible rfl
               rotate_left
               ·simp only [Act.put, Sa, Sb, Sc, i64_w, i32_w]; rfl
               refine pure_ (i := 1) (N := some 31) (v := ?_) (a' := ?_) #[true, true, false, false, false, false, false, false, false, false, false, false, false, false] rfl rfl (any_of HT_.out (by kernel_rfl)) (fun _ _ _ h => h) (Or.inl ⟨by rfl, ?_⟩) ?_ ?_; rotate_left
               ·intro w'; go_simp; with_reducible rfl
               rotate_left
               ·simp only [Act.put, Sa, Sb, Sc, i64_w, i32_w]; rfl
               refine pure_ (i := 5) (N := some 35) (v := ?_) (a' := ?_) #[true, true, false, false, false, true, false, false, false, false, false, false, false, false] rfl rfl (any_of HT_.out (by kernel_rfl)) (fun _ _ _ h => h) (Or.inl ⟨by rfl, ?_⟩) ?_ ?_; rotate_left
               ·intro w'; go_simp; with_reducible rfl
               rotate_left
               ·simp only [Act.put, Sa, Sb, Sc, i64_w, i32_w]; rfl
               refine pure_ (i := 6) (N := some 36) (v := ?_) (a' := ?_) #[true, true, false, false, false, true, true, false, false, false, false, false, false, false] rfl rfl (any_of HT_.out (by kernel_rfl)) (fun _ _ _ h => h) (Or.inl ⟨by rfl, ?_⟩) ?_ ?_; rotate_left
               ·intro w'; go_simp; with_reducible rfl
               rotate_left
               ·simp only [Act.put, Sa, Sb, Sc, i64_w, i32_w]; rfl
               refine pure_ (i := 10) (N := some 40) (v := ?_) (a' := ?_) #[true, true, false, false, false, true, true, false, false, false, true, false, false, false] rfl rfl (any_of HT_.out (by kernel_rfl)) (fun _ _ _ h => h) (Or.inl ⟨by rfl, ?_⟩) ?_ ?_; rotate_left
               ·intro w'; go_simp; with_reducible rfl
               rotate_left
               ·simp only [Act.put, Sa, Sb, Sc, i64_w, i32_w]; rfl
               refine take_ (i := 2) (N := some 32) (v := ?_) (a' := ?_) #[true, true, true, false, false, true, true, false, false, false, true, false, false, false] rfl rfl (take_ofW HT_.out HW_.out (by kernel_rfl)) (fun _ _ _ h => h) (Or.inl ⟨by rfl, ?_⟩) hHeld ?_ ?_; rotate_left
               ·rintro w' ⟨s0, s1, s2, s3, s4, s5⟩; go_simp; with_reducible rfl
               rotate_left
               ·simp only [Act.put, Sa, Sb, Sc, i64_w, i32_w]; rfl
               refine pure_ (i := 3) (N := some 33) (v := ?_) (a' := ?_) #[true, true, true, true, false, true, true, false, false, false, true, false, false, false] rfl rfl (any_of HT_.out (by kernel_rfl)) (fun _ _ _ h => h) (Or.inl ⟨by rfl, ?_⟩) ?_ ?_; rotate_left
               ·intro w'; go_simp; with_reducible rfl
               rotate_left
               ·simp only [Act.put, Sa, Sb, Sc, i64_w, i32_w]; rfl
               refine take_ (i := 4) (N := some 34) (v := ?_) (a' := ?_) #[true, true, true, true, true, true, true, false, false, false, true, false, false, false] rfl rfl (take_ofW HT_.out HW_.out (by kernel_rfl)) (fun _ _ _ h => h) (Or.inl ⟨by rfl, ?_⟩) hHeld ?_ ?_; rotate_left
               ·rintro w' ⟨s0, s1, s2, s3, s4, s5⟩; go_simp; with_reducible rfl
               rotate_left
               ·simp only [Act.put, Sa, Sb, Sc, i64_w, i32_w]; rfl
               refine take_ (i := 7) (N := some 37) (v := ?_) (a' := ?_) #[true, true, true, true, true, true, true, true, false, false, true, false, false, false] rfl rfl (take_ofW HT_.out HW_.out (by kernel_rfl)) (fun _ _ _ h => h) (Or.inl ⟨by rfl, ?_⟩) hHeld ?_ ?_; rotate_left
               ·rintro w' ⟨s0, s1, s2, s3, s4, s5⟩; go_simp; with_reducible rfl
               rotate_left
               ·simp only [Act.put, Sa, Sb, Sc, i64_w, i32_w]; rfl
               refine pure_ (i := 8) (N := some 38) (v := ?_) (a' := ?_) #[true, true, true, true, true, true, true, true, true, false, true, false, false, false] rfl rfl (any_of HT_.out (by kernel_rfl)) (fun _ _ _ h => h) (Or.inl ⟨by rfl, ?_⟩) ?_ ?_; rotate_left
               ·intro w'; go_simp; with_reducible rfl
               rotate_left
               ·simp only [Act.put, Sa, Sb, Sc, i64_w, i32_w]; rfl
               refine take_ (i := 9) (N := some 39) (v := ?_) (a' := ?_) #[true, true, true, true, true, true, true, true, true, true, true, false, false, false] rfl rfl (take_ofW HT_.out HW_.out (by kernel_rfl)) (fun _ _ _ h => h) (Or.inl ⟨by rfl, ?_⟩) hHeld ?_ ?_; rotate_left
               ·rintro w' ⟨s0, s1, s2, s3, s4, s5⟩; go_simp; with_reducible rfl
               rotate_left
               ·simp only [Act.put, Sa, Sb, Sc, i64_w, i32_w]; rfl
               refine take_ (i := 11) (N := some 41) (v := ?_) (a' := ?_) #[true, true, true, true, true, true, true, true, true, true, true, true, false, false] rfl rfl (take_ofW HT_.out HW_.out (by kernel_rfl)) (fun _ _ _ h => h) (Or.inl ⟨by rfl, ?_⟩) hHeld ?_ ?_; rotate_left
               ·rintro w' ⟨s0, s1, s2, s3, s4, s5⟩; go_simp; with_reducible rfl
               rotate_left
               ·simp only [Act.put, Sa, Sb, Sc, i64_w, i32_w]; rfl
               refine pure_ (i := 12) (N := some 42) (v := ?_) (a' := ?_) #[true, true, true, true, true, true, true, true, true, true, true, true, true, false] rfl rfl (any_of HT_.out (by kernel_rfl)) (fun _ _ _ h => h) (Or.inl ⟨by rfl, ?_⟩) ?_ ?_; rotate_left
               ·intro w'; go_simp; with_reducible rfl
               rotate_left
               ·simp only [Act.put, Sa, Sb, Sc, i64_w, i32_w]; rfl
               refine pure_ (i := 13) (N := some 43) (v := ?_) (a' := ?_) #[true, true, true, true, true, true, true, true, true, true, true, true, true, true] rfl rfl (any_of HT_.out (by kernel_rfl)) (fun _ _ _ h => h) (Or.inl ⟨by rfl, ?_⟩) ?_ ?_; rotate_left
               ·intro w'; go_simp; with_reducible rfl
               rotate_left
               ·simp only [Act.put, Sa, Sb, Sc, i64_w, i32_w]; rfl
               refine done_ (done_of HT_.out (by kernel_rfl)) ?_; try go_wp2
               have n0_ := Aa (Kd.R_drew HO_6.out); have n1_ := Aa (Kw BK123.out); have n2_ := Aa (Dn HB.out); clear HO_6; clear BK123; clear HB; have HO_6 := n0_; have BK123 := n1_; have HB := n2_; clear n0_ n1_ n2_; have p126 : 0 ≤ (((rd_T82 l1 x9_2).f0) : Int) := Od (by first | (with_reducible assumption) | assumption); have q126 : ((rd_T82 l1 x9_2).f0) < (x6_2.length : Int) := Od (by first | (with_reducible assumption) | assumption); obtain ⟨ad126, e126, hx126_0⟩ := Kd.at_int (Kd.R_reads' HO_6.out).2.2 ((rd_T82 l1 x9_2).f0) p126 q126
               obtain rfl : ad124 = ad126 := (by injection e126)
               replace p126 := eq_true p126; replace q126 := eq_true q126; have p15 : 0 ≤ (((rd_T82 l1 x9_2).f1) : Int) := Od (by first | (with_reducible assumption) | assumption); have q15 : (((rd_T82 l1 x9_2).f1) : Int) < ((x6_2.length : Int) : Int) := Od (by first | (with_reducible assumption) | assumption); obtain ⟨go15, co15, eo15, gb15, gl15, cl15, HG15⟩ := Kd.R_form HO_6.out (by omega)
               (first | cases eo15 | (injection eo15 with ea_ en_ ec_; (first | subst ea_ | (injection ea_ with ea_; subst ea_)); subst ec_; clear en_))
               have GB15 := Aa gb15; have GG15 := Aa HG15; clear gb15 gl15 HG15
               (first | simp only [add_plain] at hx124_0 | skip)
               (first | simp only [add_plain] at hx125_0 | skip)
               (first | simp only [add_plain] at hx126_0 | skip)
               obtain ⟨hx15_0, hf15_0⟩ := Kd.R_celln 0 HO_6.out (((rd_T82 l1 x9_2).f1) : Int) p15 q15; replace p15 := eq_true p15; replace q15 := eq_true q15; have HP24 := Kd.R_putn HO_6.out (((rd_T82 l1 x9_2).f1) : Int) (wrap64 ((rd x6_2 ((rd_T82 l1 x9_2).f0)) + ((rd_T82 l1 x9_2).f2))); rw [← Ny127.out] at HP24; have HQ24 := Aa HP24; clear HP24; refine start_ (n := 13) (S := fun w' => w'.cell? ⟨gb123, 0, none⟩ = some (.int .i64 ((rd_T82 l1 x9_2).f0)) ∧ w'.cell? ⟨gb123, 1, none⟩ = some (.int .i64 ((rd_T82 l1 x9_2).f1)) ∧ w'.cell? ⟨gb123, 2, none⟩ = some (.int .i64 ((rd_T82 l1 x9_2).f2)) ∧ w'.cell? ⟨gb123, 3, none⟩ = some (.int .i64 ((rd_T82 l1 x9_2).f3)) ∧ w'.cell? ⟨go15, (((rd_T82 l1 x9_2).f0)).toNat, none⟩ = some (.int .i64 (rd x6_2 ((rd_T82 l1 x9_2).f0)))) (ds := [12]) #[false, false, false, false, false, false, false, false, false, false, false, false, false] (by kernel_rfl) rfl rfl ⟨(Bc BK123.out 0).trans rfl, (Bc BK123.out 1).trans rfl, (Bc BK123.out 2).trans rfl, (Bc BK123.out 3).trans rfl, hx126_0⟩ (fun hHeld => ?_); refine with_tabW rf_least.tab11 rf_least.bits11 (fun HT_ HW_ => ?_); generalize w21.drew = w23 at HO_6 BK123 HB GG15 HQ24 hf15_0 hx124_0 hx125_0 hx126_0 hx15_0 hHeld ⊢; refine pure_ (i := 0) (N := some 44) (v := ?_) (a' := ?_) #[true, false, false, false, false, false, false, false, false, false, false, false, false] rfl rfl (any_of HT_.out (by kernel_rfl)) (fun _ _ _ h => h) (Or.inl ⟨by rfl, ?_⟩) ?_ ?_; rotate_left
               ·intro w'; go_simp; with_reducible rfl
               rotate_left
               ·simp only [Act.put, Sa, Sb, Sc, i64_w, i32_w]; rfl
               refine pure_ (i := 1) (N := some 45) (v := ?_) (a' := ?_) #[true, true, false, false, false, false, false, false, false, false, false, false, false] rfl rfl (any_of HT_.out (by kernel_rfl)) (fun _ _ _ h => h) (Or.inl ⟨by rfl, ?_⟩) ?_ ?_; rotate_left
               ·intro w'; go_simp; with_reducible rfl
               rotate_left
               ·simp only [Act.put, Sa, Sb, Sc, i64_w, i32_w]; rfl
               refine pure_ (i := 3) (N := some 47) (v := ?_) (a' := ?_) #[true, true, false, true, false, false, false, false, false, false, false, false, false] rfl rfl (any_of HT_.out (by kernel_rfl)) (fun _ _ _ h => h) (Or.inl ⟨by rfl, ?_⟩) ?_ ?_; rotate_left
               ·intro w'; go_simp; with_reducible rfl
               rotate_left
               ·simp only [Act.put, Sa, Sb, Sc, i64_w, i32_w]; rfl
               refine pure_ (i := 4) (N := some 48) (v := ?_) (a' := ?_) #[true, true, false, true, true, false, false, false, false, false, false, false, false] rfl rfl (any_of HT_.out (by kernel_rfl)) (fun _ _ _ h => h) (Or.inl ⟨by rfl, ?_⟩) ?_ ?_; rotate_left
               ·intro w'; go_simp; with_reducible rfl
               rotate_left
               ·simp only [Act.put, Sa, Sb, Sc, i64_w, i32_w]; rfl
               refine pure_ (i := 8) (N := some 52) (v := ?_) (a' := ?_) #[true, true, false, true, true, false, false, false, true, false, false, false, false] rfl rfl (any_of HT_.out (by kernel_rfl)) (fun _ _ _ h => h) (Or.inl ⟨by rfl, ?_⟩) ?_ ?_; rotate_left
               ·intro w'; go_simp; with_reducible rfl
               rotate_left
               ·simp only [Act.put, Sa, Sb, Sc, i64_w, i32_w]; rfl
               refine take_ (i := 2) (N := some 46) (v := ?_) (a' := ?_) #[true, true, true, true, true, false, false, false, true, false, false, false, false] rfl rfl (take_ofW HT_.out HW_.out (by kernel_rfl)) (fun _ _ _ h => h) (Or.inl ⟨by rfl, ?_⟩) hHeld ?_ ?_; rotate_left
               ·rintro w' ⟨s0, s1, s2, s3, s4⟩; go_simp; with_reducible rfl
               rotate_left
               ·simp only [Act.put, Sa, Sb, Sc, i64_w, i32_w]; rfl
               refine take_ (i := 5) (N := some 49) (v := ?_) (a' := ?_) #[true, true, true, true, true, true, false, false, true, false, false, false, false] rfl rfl (take_ofW HT_.out HW_.out (by kernel_rfl)) (fun _ _ _ h => h) (Or.inl ⟨by rfl, ?_⟩) hHeld ?_ ?_; rotate_left
               ·rintro w' ⟨s0, s1, s2, s3, s4⟩; go_simp; with_reducible rfl
               rotate_left
               ·simp only [Act.put, Sa, Sb, Sc, i64_w, i32_w]; rfl
               refine pure_ (i := 6) (N := some 50) (v := ?_) (a' := ?_) #[true, true, true, true, true, true, true, false, true, false, false, false, false] rfl rfl (any_of HT_.out (by kernel_rfl)) (fun _ _ _ h => h) (Or.inl ⟨by rfl, ?_⟩) ?_ ?_; rotate_left
               ·intro w'; go_simp; with_reducible rfl
               rotate_left
               ·simp only [Act.put, Sa, Sb, Sc, i64_w, i32_w]; rfl
               refine take_ (i := 7) (N := some 51) (v := ?_) (a' := ?_) #[true, true, true, true, true, true, true, true, true, false, false, false, false] rfl rfl (take_ofW HT_.out HW_.out (by kernel_rfl)) (fun _ _ _ h => h) (Or.inl ⟨by rfl, ?_⟩) hHeld ?_ ?_; rotate_left
               ·rintro w' ⟨s0, s1, s2, s3, s4⟩; go_simp; with_reducible rfl
               rotate_left
               ·simp only [Act.put, Sa, Sb, Sc, i64_w, i32_w]; rfl
               refine take_ (i := 9) (N := some 53) (v := ?_) (a' := ?_) #[true, true, true, true, true, true, true, true, true, true, false, false, false] rfl rfl (take_ofW HT_.out HW_.out (by kernel_rfl)) (fun _ _ _ h => h) (Or.inl ⟨by rfl, ?_⟩) hHeld ?_ ?_; rotate_left
               ·rintro w' ⟨s0, s1, s2, s3, s4⟩; go_simp; with_reducible rfl
               rotate_left
               ·simp only [Act.put, Sa, Sb, Sc, i64_w, i32_w]; rfl
               refine pure_ (i := 10) (N := some 54) (v := ?_) (a' := ?_) #[true, true, true, true, true, true, true, true, true, true, true, false, false] rfl rfl (any_of HT_.out (by kernel_rfl)) (fun _ _ _ h => h) (Or.inl ⟨by rfl, ?_⟩) ?_ ?_; rotate_left
               ·intro w'; go_simp; with_reducible rfl
               rotate_left
               ·simp only [Act.put, Sa, Sb, Sc, i64_w, i32_w]; rfl
               refine pure_ (i := 11) (N := some 55) (v := ?_) (a' := ?_) #[true, true, true, true, true, true, true, true, true, true, true, true, false] rfl rfl (any_of HT_.out (by kernel_rfl)) (fun _ _ _ h => h) (Or.inl ⟨by rfl, ?_⟩) ?_ ?_; rotate_left
               ·intro w'; go_simp; with_reducible rfl
               rotate_left
               ·simp only [Act.put, Sa, Sb, Sc, i64_w, i32_w]; rfl
               refine last_ (i := 12) (N := none) #[true, true, true, true, true, true, true, true, true, true, true, true, true] rfl rfl (one_of HT_.out (by kernel_rfl)) (by decide) (fun K hK => ?_); refine skip_ (w1 := ?_) (by rfl) rfl ?_ ?_; rotate_left
               ·go_simp; rfl
               refine hK.out _ _ ?_; clear hK K; refine done_ (done_of HT_.out (by kernel_rfl)) ?_; try go_wp2
               have n0_ : Aside0 (Kd.R (Kd.int .i64) 3 (w23.setCell ⟨go15, (((rd_T82 l1 x9_2).f1) : Int).toNat, none⟩ (.int .i64 (wrap64 ((rd x6_2 ((rd_T82 l1 x9_2).f0)) + ((rd_T82 l1 x9_2).f2))))) w.heap.size (fun _ => True) (.slice (some ⟨go15, 0, none⟩) x6_2.length co22) y127) := ⟨by (with_reducible repeat (first | apply Kd.R_alloc | apply Kd.R_drewN | apply Kd.R_drew)); exact HQ24.out⟩
               have n1_ : Aside0 ((w23.setCell ⟨go15, (((rd_T82 l1 x9_2).f1) : Int).toNat, none⟩ (.int .i64 (wrap64 ((rd x6_2 ((rd_T82 l1 x9_2).f0)) + ((rd_T82 l1 x9_2).f2))))).heap[gb123]? = some (.cells #[.int .i64 ((rd_T82 l1 x9_2).f0), .int .i64 ((rd_T82 l1 x9_2).f1), .int .i64 ((rd_T82 l1 x9_2).f2), .int .i64 ((rd_T82 l1 x9_2).f3)] 82 (0, 0))) := ⟨by (with_reducible repeat (first | refine Kn ?_ _ | refine Kw ?_ | refine Ka ?_ _)); refine blk_far ?_ (by have h_ := Kd.R_ne HO_6.out BK123.out (by decide); intro e_; exact h_ (by rw [e_]; rfl)) _; (with_reducible repeat (first | refine Kn ?_ _ | refine Kw ?_ | refine Ka ?_ _)); exact BK123.out⟩
               have n2_ : Aside0 (Below w.heap.size w (w23.setCell ⟨go15, (((rd_T82 l1 x9_2).f1) : Int).toNat, none⟩ (.int .i64 (wrap64 ((rd x6_2 ((rd_T82 l1 x9_2).f0)) + ((rd_T82 l1 x9_2).f2)))))) := ⟨by repeat (first | (with_reducible first | exact HB.out | apply Ba | apply Pn | apply Dn | refine Bz ?_ GB15.out | refine Bz ?_ GE123.out) | exact HB.out)⟩
               (try clear HO_6)
               (try clear BK123)
               (try clear HB)
               generalize (w23.setCell ⟨go15, (((rd_T82 l1 x9_2).f1) : Int).toNat, none⟩ (.int .i64 (wrap64 ((rd x6_2 ((rd_T82 l1 x9_2).f0)) + ((rd_T82 l1 x9_2).f2))))) = w25 at n0_ n1_ n2_ ⊢; have HO_6 := n0_; have BK123 := n1_; have HB := n2_; clear n0_ n1_ n2_; have n0_ := Aa (Kd.R_drew HO_6.out); have n1_ := Aa (Kw BK123.out); have n2_ := Aa (Dn HB.out); clear HO_6; clear BK123; clear HB; have HO_6 := n0_; have BK123 := n1_; have HB := n2_; clear n0_ n1_ n2_; have p128 : 0 ≤ (((rd_T82 l1 x9_2).f0) : Int) := Od (by first | (with_reducible assumption) | assumption)
               have q128 : ((rd_T82 l1 x9_2).f0) < (y127.length : Int) := (by have h_ : (((rd_T82 l1 x9_2).f0) : Int) < ((x6_2.length : Int) : Int) := Od (by first | (with_reducible assumption) | assumption); first | (have e_ := (Kd.R_reads' HO_6.out).1; omega) | simpa only [Ny127.out, List.length_set] using h_)
               have ql128 : ((((rd_T82 l1 x9_2).f0) : Int) < ((x6_2.length : Int) : Int)) = True := eq_true (Od (by first | (with_reducible assumption) | assumption)); obtain ⟨ad128, e128, hx128_0⟩ := Kd.at_int (Kd.R_reads' HO_6.out).2.2 ((rd_T82 l1 x9_2).f0) p128 q128
               obtain rfl : (⟨go15, 0, none⟩ : Addr) = ad128 := (by injection e128)
               (first | simp only [add_plain] at hx128_0 | simp only [add_at] at hx128_0 | simp only [Addr.add, Nat.zero_add] at hx128_0 | skip)
               replace p128 := eq_true p128; replace q128 := eq_true q128; have p129 : 0 ≤ (((rd_T82 l1 x9_2).f1) : Int) := Od (by first | (with_reducible assumption) | assumption)
               have q129 : ((rd_T82 l1 x9_2).f1) < (y127.length : Int) := (by have h_ : (((rd_T82 l1 x9_2).f1) : Int) < ((x6_2.length : Int) : Int) := Od (by first | (with_reducible assumption) | assumption); first | (have e_ := (Kd.R_reads' HO_6.out).1; omega) | simpa only [Ny127.out, List.length_set] using h_)
               have ql129 : ((((rd_T82 l1 x9_2).f1) : Int) < ((x6_2.length : Int) : Int)) = True := eq_true (Od (by first | (with_reducible assumption) | assumption)); obtain ⟨ad129, e129, hx129_0⟩ := Kd.at_int (Kd.R_reads' HO_6.out).2.2 ((rd_T82 l1 x9_2).f1) p129 q129
               obtain rfl : (⟨go15, 0, none⟩ : Addr) = ad129 := (by injection e129)
               (first | simp only [add_plain] at hx129_0 | simp only [add_at] at hx129_0 | simp only [Addr.add, Nat.zero_add] at hx129_0 | skip)
               replace p129 := eq_true p129; replace q129 := eq_true q129; refine start_ (n := 14) (S := fun w' => w'.cell? ⟨gb123, 0, none⟩ = some (.int .i64 ((rd_T82 l1 x9_2).f0)) ∧ w'.cell? ⟨gb123, 1, none⟩ = some (.int .i64 ((rd_T82 l1 x9_2).f1)) ∧ w'.cell? ⟨gb123, 2, none⟩ = some (.int .i64 ((rd_T82 l1 x9_2).f2)) ∧ w'.cell? ⟨gb123, 3, none⟩ = some (.int .i64 ((rd_T82 l1 x9_2).f3)) ∧ w'.cell? ⟨go15, (((rd_T82 l1 x9_2).f0)).toNat, none⟩ = some (.int .i64 (rd y127 ((rd_T82 l1 x9_2).f0))) ∧ w'.cell? ⟨go15, (((rd_T82 l1 x9_2).f1)).toNat, none⟩ = some (.int .i64 (rd y127 ((rd_T82 l1 x9_2).f1)))) (ds := []) #[false, false, false, false, false, false, false, false, false, false, false, false, false, false] (by kernel_rfl) rfl rfl ⟨(Bc BK123.out 0).trans rfl, (Bc BK123.out 1).trans rfl, (Bc BK123.out 2).trans rfl, (Bc BK123.out 3).trans rfl, hx128_0, hx129_0⟩ (fun hHeld => ?_); refine with_tabW rf_least.tab13 rf_least.bits13 (fun HT_ HW_ => ?_); generalize w25.drew = w26 at HO_6 BK123 HB HQ24 hx128_0 hx129_0 hHeld ⊢; refine pure_ (i := 0) (N := some 56) (v := ?_) (a' := ?_) #[true, false, false, false, false, false, false, false, false, false, false, false, false, false] rfl rfl (any_of HT_.out (by kernel_rfl)) (fun _ _ _ h => h) (Or.inl ⟨by rfl, ?_⟩) ?_ ?_; rotate_left
               ·intro w'; go_simp; with_reducible rfl
               rotate_left
               ·simp only [Act.put, Sa, Sb, Sc, i64_w, i32_w]; rfl
               refine pure_ (i := 1) (N := some 57) (v := ?_) (a' := ?_) #[true, true, false, false, false, false, false, false, false, false, false, false, false, false] rfl rfl (any_of HT_.out (by kernel_rfl)) (fun _ _ _ h => h) (Or.inl ⟨by rfl, ?_⟩) ?_ ?_; rotate_left
               ·intro w'; go_simp; with_reducible rfl
               rotate_left
               ·simp only [Act.put, Sa, Sb, Sc, i64_w, i32_w]; rfl
               refine pure_ (i := 5) (N := some 61) (v := ?_) (a' := ?_) #[true, true, false, false, false, true, false, false, false, false, false, false, false, false] rfl rfl (any_of HT_.out (by kernel_rfl)) (fun _ _ _ h => h) (Or.inl ⟨by rfl, ?_⟩) ?_ ?_; rotate_left
               ·intro w'; go_simp; with_reducible rfl
               rotate_left
               ·simp only [Act.put, Sa, Sb, Sc, i64_w, i32_w]; rfl
               refine pure_ (i := 6) (N := some 62) (v := ?_) (a' := ?_) #[true, true, false, false, false, true, true, false, false, false, false, false, false, false] rfl rfl (any_of HT_.out (by kernel_rfl)) (fun _ _ _ h => h) (Or.inl ⟨by rfl, ?_⟩) ?_ ?_; rotate_left
               ·intro w'; go_simp; with_reducible rfl
               rotate_left
               ·simp only [Act.put, Sa, Sb, Sc, i64_w, i32_w]; rfl
               refine pure_ (i := 10) (N := some 66) (v := ?_) (a' := ?_) #[true, true, false, false, false, true, true, false, false, false, true, false, false, false] rfl rfl (any_of HT_.out (by kernel_rfl)) (fun _ _ _ h => h) (Or.inl ⟨by rfl, ?_⟩) ?_ ?_; rotate_left
               ·intro w'; go_simp; with_reducible rfl
               rotate_left
               ·simp only [Act.put, Sa, Sb, Sc, i64_w, i32_w]; rfl
               refine take_ (i := 2) (N := some 58) (v := ?_) (a' := ?_) #[true, true, true, false, false, true, true, false, false, false, true, false, false, false] rfl rfl (take_ofW HT_.out HW_.out (by kernel_rfl)) (fun _ _ _ h => h) (Or.inl ⟨by rfl, ?_⟩) hHeld ?_ ?_; rotate_left
               ·rintro w' ⟨s0, s1, s2, s3, s4, s5⟩; go_simp; with_reducible rfl
               rotate_left
               ·simp only [Act.put, Sa, Sb, Sc, i64_w, i32_w]; rfl
               refine pure_ (i := 3) (N := some 59) (v := ?_) (a' := ?_) #[true, true, true, true, false, true, true, false, false, false, true, false, false, false] rfl rfl (any_of HT_.out (by kernel_rfl)) (fun _ _ _ h => h) (Or.inl ⟨by rfl, ?_⟩) ?_ ?_; rotate_left
               ·intro w'; go_simp; with_reducible rfl
               rotate_left
               ·simp only [Act.put, Sa, Sb, Sc, i64_w, i32_w]; rfl
               refine take_ (i := 4) (N := some 60) (v := ?_) (a' := ?_) #[true, true, true, true, true, true, true, false, false, false, true, false, false, false] rfl rfl (take_ofW HT_.out HW_.out (by kernel_rfl)) (fun _ _ _ h => h) (Or.inl ⟨by rfl, ?_⟩) hHeld ?_ ?_; rotate_left
               ·rintro w' ⟨s0, s1, s2, s3, s4, s5⟩; go_simp; with_reducible rfl
               rotate_left
               ·simp only [Act.put, Sa, Sb, Sc, i64_w, i32_w]; rfl
               refine take_ (i := 7) (N := some 63) (v := ?_) (a' := ?_) #[true, true, true, true, true, true, true, true, false, false, true, false, false, false] rfl rfl (take_ofW HT_.out HW_.out (by kernel_rfl)) (fun _ _ _ h => h) (Or.inl ⟨by rfl, ?_⟩) hHeld ?_ ?_; rotate_left
               ·rintro w' ⟨s0, s1, s2, s3, s4, s5⟩; go_simp; with_reducible rfl
               rotate_left
               ·simp only [Act.put, Sa, Sb, Sc, i64_w, i32_w]; rfl
               refine pure_ (i := 8) (N := some 64) (v := ?_) (a' := ?_) #[true, true, true, true, true, true, true, true, true, false, true, false, false, false] rfl rfl (any_of HT_.out (by kernel_rfl)) (fun _ _ _ h => h) (Or.inl ⟨by rfl, ?_⟩) ?_ ?_; rotate_left
               ·intro w'; go_simp; with_reducible rfl
               rotate_left
               ·simp only [Act.put, Sa, Sb, Sc, i64_w, i32_w]; rfl
               refine take_ (i := 9) (N := some 65) (v := ?_) (a' := ?_) #[true, true, true, true, true, true, true, true, true, true, true, false, false, false] rfl rfl (take_ofW HT_.out HW_.out (by kernel_rfl)) (fun _ _ _ h => h) (Or.inl ⟨by rfl, ?_⟩) hHeld ?_ ?_; rotate_left
               ·rintro w' ⟨s0, s1, s2, s3, s4, s5⟩; go_simp; with_reducible rfl
               rotate_left
               ·simp only [Act.put, Sa, Sb, Sc, i64_w, i32_w]; rfl
               refine take_ (i := 11) (N := some 67) (v := ?_) (a' := ?_) #[true, true, true, true, true, true, true, true, true, true, true, true, false, false] rfl rfl (take_ofW HT_.out HW_.out (by kernel_rfl)) (fun _ _ _ h => h) (Or.inl ⟨by rfl, ?_⟩) hHeld ?_ ?_; rotate_left
               ·rintro w' ⟨s0, s1, s2, s3, s4, s5⟩; go_simp; with_reducible rfl
               rotate_left
               ·simp only [Act.put, Sa, Sb, Sc, i64_w, i32_w]; rfl
               refine pure_ (i := 12) (N := some 68) (v := ?_) (a' := ?_) #[true, true, true, true, true, true, true, true, true, true, true, true, true, false] rfl rfl (any_of HT_.out (by kernel_rfl)) (fun _ _ _ h => h) (Or.inl ⟨by rfl, ?_⟩) ?_ ?_; rotate_left
               ·intro w'; go_simp; with_reducible rfl
               rotate_left
               ·simp only [Act.put, Sa, Sb, Sc, i64_w, i32_w]; rfl
               refine pure_ (i := 13) (N := some 69) (v := ?_) (a' := ?_) #[true, true, true, true, true, true, true, true, true, true, true, true, true, true] rfl rfl (any_of HT_.out (by kernel_rfl)) (fun _ _ _ h => h) (Or.inl ⟨by rfl, ?_⟩) ?_ ?_; rotate_left
               ·intro w'; go_simp; with_reducible rfl
               rotate_left
               ·simp only [Act.put, Sa, Sb, Sc, i64_w, i32_w]; rfl
               refine done_ (done_of HT_.out (by kernel_rfl)) ?_; try go_wp2
               have n0_ := Aa (Kd.R_drew HO_6.out); have n1_ := Aa (Kw BK123.out); have n2_ := Aa (Dn HB.out); clear HO_6; clear BK123; clear HB; have HO_6 := n0_; have BK123 := n1_; have HB := n2_; clear n0_ n1_ n2_; have p130 : 0 ≤ (((rd_T82 l1 x9_2).f1) : Int) := Od (by first | (with_reducible assumption) | assumption)
               have q130 : ((rd_T82 l1 x9_2).f1) < (y127.length : Int) := (by have h_ : (((rd_T82 l1 x9_2).f1) : Int) < ((x6_2.length : Int) : Int) := Od (by first | (with_reducible assumption) | assumption); first | (have e_ := (Kd.R_reads' HO_6.out).1; omega) | simpa only [Ny127.out, List.length_set] using h_)
               have ql130 : ((((rd_T82 l1 x9_2).f1) : Int) < ((x6_2.length : Int) : Int)) = True := eq_true (Od (by first | (with_reducible assumption) | assumption)); obtain ⟨ad130, e130, hx130_0⟩ := Kd.at_int (Kd.R_reads' HO_6.out).2.2 ((rd_T82 l1 x9_2).f1) p130 q130
               obtain rfl : (⟨go15, 0, none⟩ : Addr) = ad130 := (by injection e130)
               (first | simp only [add_plain] at hx130_0 | simp only [add_at] at hx130_0 | simp only [Addr.add, Nat.zero_add] at hx130_0 | skip)
               replace p130 := eq_true p130; replace q130 := eq_true q130; have p17 : 0 ≤ (((rd_T82 l1 x9_2).f0) : Int) := Od (by first | (with_reducible assumption) | assumption); have q17 : (((rd_T82 l1 x9_2).f0) : Int) < ((x6_2.length : Int) : Int) := Od (by first | (with_reducible assumption) | assumption); obtain ⟨hx17_0, hf17_0⟩ := Kd.R_celln 0 HO_6.out (((rd_T82 l1 x9_2).f0) : Int) p17 q17; replace p17 := eq_true p17; replace q17 := eq_true q17; have HP28 := Kd.R_putn HO_6.out (((rd_T82 l1 x9_2).f0) : Int) (wrap64 ((rd y127 ((rd_T82 l1 x9_2).f1)) - ((rd_T82 l1 x9_2).f3))); rw [← Ny131.out] at HP28; have HQ28 := Aa HP28; clear HP28; refine start_ (n := 13) (S := fun w' => w'.cell? ⟨gb123, 0, none⟩ = some (.int .i64 ((rd_T82 l1 x9_2).f0)) ∧ w'.cell? ⟨gb123, 1, none⟩ = some (.int .i64 ((rd_T82 l1 x9_2).f1)) ∧ w'.cell? ⟨gb123, 2, none⟩ = some (.int .i64 ((rd_T82 l1 x9_2).f2)) ∧ w'.cell? ⟨gb123, 3, none⟩ = some (.int .i64 ((rd_T82 l1 x9_2).f3)) ∧ w'.cell? ⟨go15, (((rd_T82 l1 x9_2).f1)).toNat, none⟩ = some (.int .i64 (rd y127 ((rd_T82 l1 x9_2).f1)))) (ds := [12]) #[false, false, false, false, false, false, false, false, false, false, false, false, false] (by kernel_rfl) rfl rfl ⟨(Bc BK123.out 0).trans rfl, (Bc BK123.out 1).trans rfl, (Bc BK123.out 2).trans rfl, (Bc BK123.out 3).trans rfl, hx130_0⟩ (fun hHeld => ?_); refine with_tabW rf_least.tab14 rf_least.bits14 (fun HT_ HW_ => ?_); generalize w26.drew = w27 at HO_6 BK123 HB HQ28 hf17_0 hx130_0 hx17_0 hHeld ⊢; refine pure_ (i := 0) (N := some 70) (v := ?_) (a' := ?_) #[true, false, false, false, false, false, false, false, false, false, false, false, false] rfl rfl (any_of HT_.out (by kernel_rfl)) (fun _ _ _ h => h) (Or.inl ⟨by rfl, ?_⟩) ?_ ?_; rotate_left
               ·intro w'; go_simp; with_reducible rfl
               rotate_left
               ·simp only [Act.put, Sa, Sb, Sc, i64_w, i32_w]; rfl
               refine pure_ (i := 1) (N := some 71) (v := ?_) (a' := ?_) #[true, true, false, false, false, false, false, false, false, false, false, false, false] rfl rfl (any_of HT_.out (by kernel_rfl)) (fun _ _ _ h => h) (Or.inl ⟨by rfl, ?_⟩) ?_ ?_; rotate_left
               ·intro w'; go_simp; with_reducible rfl
               rotate_left
               ·simp only [Act.put, Sa, Sb, Sc, i64_w, i32_w]; rfl
               refine pure_ (i := 3) (N := some 73) (v := ?_) (a' := ?_) #[true, true, false, true, false, false, false, false, false, false, false, false, false] rfl rfl (any_of HT_.out (by kernel_rfl)) (fun _ _ _ h => h) (Or.inl ⟨by rfl, ?_⟩) ?_ ?_; rotate_left
               ·intro w'; go_simp; with_reducible rfl
               rotate_left
               ·simp only [Act.put, Sa, Sb, Sc, i64_w, i32_w]; rfl
               refine pure_ (i := 4) (N := some 74) (v := ?_) (a' := ?_) #[true, true, false, true, true, false, false, false, false, false, false, false, false] rfl rfl (any_of HT_.out (by kernel_rfl)) (fun _ _ _ h => h) (Or.inl ⟨by rfl, ?_⟩) ?_ ?_; rotate_left
               ·intro w'; go_simp; with_reducible rfl
               rotate_left
               ·simp only [Act.put, Sa, Sb, Sc, i64_w, i32_w]; rfl
               refine pure_ (i := 8) (N := some 78) (v := ?_) (a' := ?_) #[true, true, false, true, true, false, false, false, true, false, false, false, false] rfl rfl (any_of HT_.out (by kernel_rfl)) (fun _ _ _ h => h) (Or.inl ⟨by rfl, ?_⟩) ?_ ?_; rotate_left
               ·intro w'; go_simp; with_reducible rfl
               rotate_left
               ·simp only [Act.put, Sa, Sb, Sc, i64_w, i32_w]; rfl
               refine take_ (i := 2) (N := some 72) (v := ?_) (a' := ?_) #[true, true, true, true, true, false, false, false, true, false, false, false, false] rfl rfl (take_ofW HT_.out HW_.out (by kernel_rfl)) (fun _ _ _ h => h) (Or.inl ⟨by rfl, ?_⟩) hHeld ?_ ?_; rotate_left
               ·rintro w' ⟨s0, s1, s2, s3, s4⟩; go_simp; with_reducible rfl
               rotate_left
               ·simp only [Act.put, Sa, Sb, Sc, i64_w, i32_w]; rfl
               refine take_ (i := 5) (N := some 75) (v := ?_) (a' := ?_) #[true, true, true, true, true, true, false, false, true, false, false, false, false] rfl rfl (take_ofW HT_.out HW_.out (by kernel_rfl)) (fun _ _ _ h => h) (Or.inl ⟨by rfl, ?_⟩) hHeld ?_ ?_; rotate_left
               ·rintro w' ⟨s0, s1, s2, s3, s4⟩; go_simp; with_reducible rfl
               rotate_left
               ·simp only [Act.put, Sa, Sb, Sc, i64_w, i32_w]; rfl
               refine pure_ (i := 6) (N := some 76) (v := ?_) (a' := ?_) #[true, true, true, true, true, true, true, false, true, false, false, false, false] rfl rfl (any_of HT_.out (by kernel_rfl)) (fun _ _ _ h => h) (Or.inl ⟨by rfl, ?_⟩) ?_ ?_; rotate_left
               ·intro w'; go_simp; with_reducible rfl
               rotate_left
               ·simp only [Act.put, Sa, Sb, Sc, i64_w, i32_w]; rfl
               refine take_ (i := 7) (N := some 77) (v := ?_) (a' := ?_) #[true, true, true, true, true, true, true, true, true, false, false, false, false] rfl rfl (take_ofW HT_.out HW_.out (by kernel_rfl)) (fun _ _ _ h => h) (Or.inl ⟨by rfl, ?_⟩) hHeld ?_ ?_; rotate_left
               ·rintro w' ⟨s0, s1, s2, s3, s4⟩; go_simp; with_reducible rfl
               rotate_left
               ·simp only [Act.put, Sa, Sb, Sc, i64_w, i32_w]; rfl
               refine take_ (i := 9) (N := some 79) (v := ?_) (a' := ?_) #[true, true, true, true, true, true, true, true, true, true, false, false, false] rfl rfl (take_ofW HT_.out HW_.out (by kernel_rfl)) (fun _ _ _ h => h) (Or.inl ⟨by rfl, ?_⟩) hHeld ?_ ?_; rotate_left
               ·rintro w' ⟨s0, s1, s2, s3, s4⟩; go_simp; with_reducible rfl
               rotate_left
               ·simp only [Act.put, Sa, Sb, Sc, i64_w, i32_w]; rfl
               refine pure_ (i := 10) (N := some 80) (v := ?_) (a' := ?_) #[true, true, true, true, true, true, true, true, true, true, true, false, false] rfl rfl (any_of HT_.out (by kernel_rfl)) (fun _ _ _ h => h) (Or.inl ⟨by rfl, ?_⟩) ?_ ?_; rotate_left
               ·intro w'; go_simp; with_reducible rfl
               rotate_left
               ·simp only [Act.put, Sa, Sb, Sc, i64_w, i32_w]; rfl
               refine pure_ (i := 11) (N := some 81) (v := ?_) (a' := ?_) #[true, true, true, true, true, true, true, true, true, true, true, true, false] rfl rfl (any_of HT_.out (by kernel_rfl)) (fun _ _ _ h => h) (Or.inl ⟨by rfl, ?_⟩) ?_ ?_; rotate_left
               ·intro w'; go_simp; with_reducible rfl
               rotate_left
               ·simp only [Act.put, Sa, Sb, Sc, i64_w, i32_w]; rfl
               refine last_ (i := 12) (N := none) #[true, true, true, true, true, true, true, true, true, true, true, true, true] rfl rfl (one_of HT_.out (by kernel_rfl)) (by decide) (fun K hK => ?_); refine skip_ (w1 := ?_) (by rfl) rfl ?_ ?_; rotate_left
               ·go_simp; rfl
               refine hK.out _ _ ?_; clear hK K; refine done_ (done_of HT_.out (by kernel_rfl)) ?_; try go_wp2
               go_roundg k2
               case measure => have := HK1.out; have := HK2.out; omega
               case rel => exact ⟨(y131), (true), (wrap64 (x9_2 + 1)), (by first | rfl | (simp; done) | (simp [*]; done)), (by first | rfl | (simp; done) | (simp [*]; done)), H', ⟨by have := HK1.out; have := HK2.out; omega⟩, ⟨by (with_reducible repeat (first | apply Kd.R_alloc | apply Kd.R_drewN | apply Kd.R_drew)); exact HQ28.out⟩, ⟨by repeat (first | (with_reducible first | exact HB.out | apply Ba | apply Pn | apply Dn | refine Bz ?_ GB15.out | refine Bz ?_ GE123.out) | exact HB.out)⟩⟩
              ·rw [if_neg c16] at H; have c16b0 : decide ((rd y127 ((rd_T82 l1 x9_2).f0)) < (wrap64 ((rd y127 ((rd_T82 l1 x9_2).f1)) - ((rd_T82 l1 x9_2).f3)))) = false := decide_eq_false c16; clear c16; have H' := Aa H; clear H; have p122 : 0 ≤ (x9_2 : Int) := Od (by first | (with_reducible assumption) | assumption); have q122 : x9_2 < (l1.length : Int) := Od (by first | (with_reducible assumption) | assumption); obtain ⟨ad122, e122, hx122_0, hx122_1, hx122_2, hx122_3⟩ := at_T82 HR1.out x9_2 p122 q122; cases e122; replace hx122_0 := (HB.out.cell (Wb w _ hx122_0)).trans hx122_0; replace hx122_1 := (HB.out.cell (Wb w _ hx122_1)).trans hx122_1; replace hx122_2 := (HB.out.cell (Wb w _ hx122_2)).trans hx122_2; replace hx122_3 := (HB.out.cell (Wb w _ hx122_3)).trans hx122_3; replace p122 := eq_true p122; replace q122 := eq_true q122; try go_wp2_with (first | ((with_reducible refine gate_dst (N := 10) rfl ?_); refine box_event ?hg (N := 10) ?hd (cs := #[.int .i64 0, .int .i64 0, .int .i64 0, .int .i64 0]) (t := 82) ?hr ?_; (case hd => rfl); (case hg => rfl); (case hr => first | (go_simp; done) | (go_simp; rfl)); intro gb123 hg w29 hbox hb; have n0_ := Aa (Kd.R_below (by (with_reducible repeat (first | apply Kd.R_alloc | apply Kd.R_drewN | apply Kd.R_drew)); exact HO_6.out) hb); have n1_ := Aa (Bp (by repeat (first | (with_reducible first | exact HB.out | apply Ba | apply Pn | apply Dn) | exact HB.out)) hb); have n2_ := Aa (hbox); have n3_ := Aa ((by rw [hg]; exact (below_size (by repeat (first | (with_reducible first | exact HB.out | apply Ba | apply Pn | apply Dn) | exact HB.out))) : w.heap.size ≤ gb123)); have n4_ := Aa ((by rw [hg]; exact (below_size (by repeat (first | (with_reducible first | exact HB.out | apply Ba | apply Pn | apply Dn) | exact HB.out))) : w.heap.size ≤ gb123)); clear HO_6; clear HB; have HO_6 := n0_; have HB := n1_; have BK123 := n2_; have GW123 := n3_; have GE123 := n4_; clear n0_ n1_ n2_ n3_ n4_; clear hb hbox hg; have hcz30_0 : w29.cell? ⟨gb123, 0, none⟩ = some (.int .i64 0) := (Bc BK123.out 0).trans rfl; have hcz30_1 : w29.cell? ⟨gb123, 1, none⟩ = some (.int .i64 0) := (Bc BK123.out 1).trans rfl; have hcz30_2 : w29.cell? ⟨gb123, 2, none⟩ = some (.int .i64 0) := (Bc BK123.out 2).trans rfl; have hcz30_3 : w29.cell? ⟨gb123, 3, none⟩ = some (.int .i64 0) := (Bc BK123.out 3).trans rfl; have hfz30_0 := Bf BK123.out 0; have hfz30_1 := Bf BK123.out 1; have hfz30_2 := Bf BK123.out 2; have hfz30_3 := Bf BK123.out 3))
               have n0_ : Aside0 (Kd.R (Kd.int .i64) 3 ((((w29.setCell ⟨gb123, 0, none⟩ (.int .i64 ((rd_T82 l1 x9_2).f0))).setCell ⟨gb123, 1, none⟩ (.int .i64 ((rd_T82 l1 x9_2).f1))).setCell ⟨gb123, 2, none⟩ (.int .i64 ((rd_T82 l1 x9_2).f2))).setCell ⟨gb123, 3, none⟩ (.int .i64 ((rd_T82 l1 x9_2).f3))) w.heap.size (fun _ => True) v120 x6_2) := ⟨by (with_reducible repeat (first | apply Kd.R_alloc | apply Kd.R_drewN | apply Kd.R_drew)); exact Kd.R_mono (Kd.R_far (p := ⟨gb123, 3, none⟩) (Kd.R_far (p := ⟨gb123, 2, none⟩) (Kd.R_far (p := ⟨gb123, 1, none⟩) (Kd.R_far (p := ⟨gb123, 0, none⟩) (Kd.R_types HO_6.out BK123.out (by decide)) (fun _ hk => hk.2) (.int .i64 ((rd_T82 l1 x9_2).f0))) (fun _ hk => hk.2) (.int .i64 ((rd_T82 l1 x9_2).f1))) (fun _ hk => hk.2) (.int .i64 ((rd_T82 l1 x9_2).f2))) (fun _ hk => hk.2) (.int .i64 ((rd_T82 l1 x9_2).f3))) (fun _ hk => trivial)⟩
               have n1_ : Aside0 (((((w29.setCell ⟨gb123, 0, none⟩ (.int .i64 ((rd_T82 l1 x9_2).f0))).setCell ⟨gb123, 1, none⟩ (.int .i64 ((rd_T82 l1 x9_2).f1))).setCell ⟨gb123, 2, none⟩ (.int .i64 ((rd_T82 l1 x9_2).f2))).setCell ⟨gb123, 3, none⟩ (.int .i64 ((rd_T82 l1 x9_2).f3))).heap[gb123]? = some (.cells #[.int .i64 ((rd_T82 l1 x9_2).f0), .int .i64 ((rd_T82 l1 x9_2).f1), .int .i64 ((rd_T82 l1 x9_2).f2), .int .i64 ((rd_T82 l1 x9_2).f3)] 82 (0, 0))) := ⟨by (with_reducible repeat (first | refine Kn ?_ _ | refine Kw ?_ | refine Ka ?_ _)); refine blk_put (cs := #[.int .i64 ((rd_T82 l1 x9_2).f0), .int .i64 ((rd_T82 l1 x9_2).f1), .int .i64 ((rd_T82 l1 x9_2).f2), .int .i64 0]) ?_ 3 _ rfl; (with_reducible repeat (first | refine Kn ?_ _ | refine Kw ?_ | refine Ka ?_ _)); refine blk_put (cs := #[.int .i64 ((rd_T82 l1 x9_2).f0), .int .i64 ((rd_T82 l1 x9_2).f1), .int .i64 0, .int .i64 0]) ?_ 2 _ rfl; (with_reducible repeat (first | refine Kn ?_ _ | refine Kw ?_ | refine Ka ?_ _)); refine blk_put (cs := #[.int .i64 ((rd_T82 l1 x9_2).f0), .int .i64 0, .int .i64 0, .int .i64 0]) ?_ 1 _ rfl; (with_reducible repeat (first | refine Kn ?_ _ | refine Kw ?_ | refine Ka ?_ _)); refine blk_put (cs := #[.int .i64 0, .int .i64 0, .int .i64 0, .int .i64 0]) ?_ 0 _ rfl; (with_reducible repeat (first | refine Kn ?_ _ | refine Kw ?_ | refine Ka ?_ _)); exact BK123.out⟩
               have n2_ : Aside0 (Below w.heap.size w ((((w29.setCell ⟨gb123, 0, none⟩ (.int .i64 ((rd_T82 l1 x9_2).f0))).setCell ⟨gb123, 1, none⟩ (.int .i64 ((rd_T82 l1 x9_2).f1))).setCell ⟨gb123, 2, none⟩ (.int .i64 ((rd_T82 l1 x9_2).f2))).setCell ⟨gb123, 3, none⟩ (.int .i64 ((rd_T82 l1 x9_2).f3)))) := ⟨by repeat (first | (with_reducible first | exact HB.out | apply Ba | apply Pn | apply Dn | refine Bz ?_ GE123.out) | exact HB.out)⟩
               (try clear HO_6)
               (try clear BK123)
               (try clear HB)
               generalize ((((w29.setCell ⟨gb123, 0, none⟩ (.int .i64 ((rd_T82 l1 x9_2).f0))).setCell ⟨gb123, 1, none⟩ (.int .i64 ((rd_T82 l1 x9_2).f1))).setCell ⟨gb123, 2, none⟩ (.int .i64 ((rd_T82 l1 x9_2).f2))).setCell ⟨gb123, 3, none⟩ (.int .i64 ((rd_T82 l1 x9_2).f3))) = w31 at n0_ n1_ n2_ ⊢; have HO_6 := n0_; have BK123 := n1_; have HB := n2_; clear n0_ n1_ n2_; have n0_ := Aa (Kd.R_drew HO_6.out); have n1_ := Aa (Kw BK123.out); have n2_ := Aa (Dn HB.out); clear HO_6; clear BK123; clear HB; have HO_6 := n0_; have BK123 := n1_; have HB := n2_; clear n0_ n1_ n2_; obtain ⟨Ao33, co33, eo33⟩ := Kd.R_slice HO_6.out
               (first | subst eo33 | (injection eo33 with f1_ f2_ f3_; have f4_ := f1_.symm; have f5_ := f3_.symm; clear f1_ f2_ f3_; subst f4_; subst f5_))
               have p124 : 0 ≤ (((rd_T82 l1 x9_2).f1) : Int) := Od (by first | (with_reducible assumption) | assumption); have q124 : ((rd_T82 l1 x9_2).f1) < (x6_2.length : Int) := Od (by first | (with_reducible assumption) | assumption); obtain ⟨ad124, e124, hx124_0⟩ := Kd.at_int (Kd.R_reads' HO_6.out).2.2 ((rd_T82 l1 x9_2).f1) p124 q124; cases e124; replace p124 := eq_true p124; replace q124 := eq_true q124; have p125 : 0 ≤ (((rd_T82 l1 x9_2).f0) : Int) := Od (by first | (with_reducible assumption) | assumption); have q125 : ((rd_T82 l1 x9_2).f0) < (x6_2.length : Int) := Od (by first | (with_reducible assumption) | assumption); obtain ⟨ad125, e125, hx125_0⟩ := Kd.at_int (Kd.R_reads' HO_6.out).2.2 ((rd_T82 l1 x9_2).f0) p125 q125
               obtain rfl : ad124 = ad125 := (by injection e125)
               replace p125 := eq_true p125; replace q125 := eq_true q125; refine start_ (n := 14) (S := fun w' => w'.cell? ⟨gb123, 0, none⟩ = some (.int .i64 ((rd_T82 l1 x9_2).f0)) ∧ w'.cell? ⟨gb123, 1, none⟩ = some (.int .i64 ((rd_T82 l1 x9_2).f1)) ∧ w'.cell? ⟨gb123, 2, none⟩ = some (.int .i64 ((rd_T82 l1 x9_2).f2)) ∧ w'.cell? ⟨gb123, 3, none⟩ = some (.int .i64 ((rd_T82 l1 x9_2).f3)) ∧ w'.cell? (ad124.add (((rd_T82 l1 x9_2).f1)).toNat) = some (.int .i64 (rd x6_2 ((rd_T82 l1 x9_2).f1))) ∧ w'.cell? (ad124.add (((rd_T82 l1 x9_2).f0)).toNat) = some (.int .i64 (rd x6_2 ((rd_T82 l1 x9_2).f0)))) (ds := []) #[false, false, false, false, false, false, false, false, false, false, false, false, false, false] (by kernel_rfl) rfl rfl ⟨(Bc BK123.out 0).trans rfl, (Bc BK123.out 1).trans rfl, (Bc BK123.out 2).trans rfl, (Bc BK123.out 3).trans rfl, hx124_0, hx125_0⟩ (fun hHeld => ?_); refine with_tabW rf_least.tab10 rf_least.bits10 (fun HT_ HW_ => ?_); generalize w31.drew = w32 at HO_6 BK123 HB hx124_0 hx125_0 hHeld ⊢; refine pure_ (i := 0) (N := some 30) (v := ?_) (a' := ?_) #[true, false, false, false, false, false, false, false, false, false, false, false, false, false] rfl rfl (any_of HT_.out (by kernel_rfl)) (fun _ _ _ h => h) (Or.inl ⟨by rfl, ?_⟩) ?_ ?_; rotate_left
               ·intro w'; go_simp; with_reducible rfl
               rotate_left
               ·simp only [Act.put, Sa, Sb, Sc, i64_w, i32_w]; rfl
               refine pure_ (i := 1) (N := some 31) (v := ?_) (a' := ?_) #[true, true, false, false, false, false, false, false, false, false, false, false, false, false] rfl rfl (any_of HT_.out (by kernel_rfl)) (fun _ _ _ h => h) (Or.inl ⟨by rfl, ?_⟩) ?_ ?_; rotate_left
               ·intro w'; go_simp; with_reducible rfl
               rotate_left
               ·simp only [Act.put, Sa, Sb, Sc, i64_w, i32_w]; rfl
               refine pure_ (i := 5) (N := some 35) (v := ?_) (a' := ?_) #[true, true, false, false, false, true, false, false, false, false, false, false, false, false] rfl rfl (any_of HT_.out (by kernel_rfl)) (fun _ _ _ h => h) (Or.inl ⟨by rfl, ?_⟩) ?_ ?_; rotate_left
               ·intro w'; go_simp; with_reducible rfl
               rotate_left
               ·simp only [Act.put, Sa, Sb, Sc, i64_w, i32_w]; rfl
               refine pure_ (i := 6) (N := some 36) (v := ?_) (a' := ?_) #[true, true, false, false, false, true, true, false, false, false, false, false, false, false] rfl rfl (any_of HT_.out (by kernel_rfl)) (fun _ _ _ h => h) (Or.inl ⟨by rfl, ?_⟩) ?_ ?_; rotate_left
               ·intro w'; go_simp; with_reducible rfl
               rotate_left
               ·simp only [Act.put, Sa, Sb, Sc, i64_w, i32_w]; rfl
               refine pure_ (i := 10) (N := some 40) (v := ?_) (a' := ?_) #[true, true, false, false, false, true, true, false, false, false, true, false, false, false] rfl rfl (any_of HT_.out (by kernel_rfl)) (fun _ _ _ h => h) (Or.inl ⟨by rfl, ?_⟩) ?_ ?_; rotate_left
               ·intro w'; go_simp; with_reducible rfl
               rotate_left
               ·simp only [Act.put, Sa, Sb, Sc, i64_w, i32_w]; rfl
               refine take_ (i := 2) (N := some 32) (v := ?_) (a' := ?_) #[true, true, true, false, false, true, true, false, false, false, true, false, false, false] rfl rfl (take_ofW HT_.out HW_.out (by kernel_rfl)) (fun _ _ _ h => h) (Or.inl ⟨by rfl, ?_⟩) hHeld ?_ ?_; rotate_left
               ·rintro w' ⟨s0, s1, s2, s3, s4, s5⟩; go_simp; with_reducible rfl
               rotate_left
               ·simp only [Act.put, Sa, Sb, Sc, i64_w, i32_w]; rfl
               refine pure_ (i := 3) (N := some 33) (v := ?_) (a' := ?_) #[true, true, true, true, false, true, true, false, false, false, true, false, false, false] rfl rfl (any_of HT_.out (by kernel_rfl)) (fun _ _ _ h => h) (Or.inl ⟨by rfl, ?_⟩) ?_ ?_; rotate_left
               ·intro w'; go_simp; with_reducible rfl
               rotate_left
               ·simp only [Act.put, Sa, Sb, Sc, i64_w, i32_w]; rfl
               refine take_ (i := 4) (N := some 34) (v := ?_) (a' := ?_) #[true, true, true, true, true, true, true, false, false, false, true, false, false, false] rfl rfl (take_ofW HT_.out HW_.out (by kernel_rfl)) (fun _ _ _ h => h) (Or.inl ⟨by rfl, ?_⟩) hHeld ?_ ?_; rotate_left
               ·rintro w' ⟨s0, s1, s2, s3, s4, s5⟩; go_simp; with_reducible rfl
               rotate_left
               ·simp only [Act.put, Sa, Sb, Sc, i64_w, i32_w]; rfl
               refine take_ (i := 7) (N := some 37) (v := ?_) (a' := ?_) #[true, true, true, true, true, true, true, true, false, false, true, false, false, false] rfl rfl (take_ofW HT_.out HW_.out (by kernel_rfl)) (fun _ _ _ h => h) (Or.inl ⟨by rfl, ?_⟩) hHeld ?_ ?_; rotate_left
               ·rintro w' ⟨s0, s1, s2, s3, s4, s5⟩; go_simp; with_reducible rfl
               rotate_left
               ·simp only [Act.put, Sa, Sb, Sc, i64_w, i32_w]; rfl
               refine pure_ (i := 8) (N := some 38) (v := ?_) (a' := ?_) #[true, true, true, true, true, true, true, true, true, false, true, false, false, false] rfl rfl (any_of HT_.out (by kernel_rfl)) (fun _ _ _ h => h) (Or.inl ⟨by rfl, ?_⟩) ?_ ?_; rotate_left
               ·intro w'; go_simp; with_reducible rfl
               rotate_left
               ·simp only [Act.put, Sa, Sb, Sc, i64_w, i32_w]; rfl
               refine take_ (i := 9) (N := some 39) (v := ?_) (a' := ?_) #[true, true, true, true, true, true, true, true, true, true, true, false, false, false] rfl rfl (take_ofW HT_.out HW_.out (by kernel_rfl)) (fun _ _ _ h => h) (Or.inl ⟨by rfl, ?_⟩) hHeld ?_ ?_; rotate_left
               ·rintro w' ⟨s0, s1, s2, s3, s4, s5⟩; go_simp; with_reducible rfl
               rotate_left
               ·simp only [Act.put, Sa, Sb, Sc, i64_w, i32_w]; rfl
               refine take_ (i := 11) (N := some 41) (v := ?_) (a' := ?_) #[true, true, true, true, true, true, true, true, true, true, true, true, false, false] rfl rfl (take_ofW HT_.out HW_.out (by kernel_rfl)) (fun _ _ _ h => h) (Or.inl ⟨by rfl, ?_⟩) hHeld ?_ ?_; rotate_left
               ·rintro w' ⟨s0, s1, s2, s3, s4, s5⟩; go_simp; with_reducible rfl
               rotate_left
               ·simp only [Act.put, Sa, Sb, Sc, i64_w, i32_w]; rfl
               refine pure_ (i := 12) (N := some 42) (v := ?_) (a' := ?_) #[true, true, true, true, true, true, true, true, true, true, true, true, true, false] rfl rfl (any_of HT_.out (by kernel_rfl)) (fun _ _ _ h => h) (Or.inl ⟨by rfl, ?_⟩) ?_ ?_; rotate_left
               ·intro w'; go_simp; with_reducible rfl
               rotate_left
               ·simp only [Act.put, Sa, Sb, Sc, i64_w, i32_w]; rfl
               refine pure_ (i := 13) (N := some 43) (v := ?_) (a' := ?_) #[true, true, true, true, true, true, true, true, true, true, true, true, true, true] rfl rfl (any_of HT_.out (by kernel_rfl)) (fun _ _ _ h => h) (Or.inl ⟨by rfl, ?_⟩) ?_ ?_; rotate_left
               ·intro w'; go_simp; with_reducible rfl
               rotate_left
               ·simp only [Act.put, Sa, Sb, Sc, i64_w, i32_w]; rfl
               refine done_ (done_of HT_.out (by kernel_rfl)) ?_; try go_wp2
               have n0_ := Aa (Kd.R_drew HO_6.out); have n1_ := Aa (Kw BK123.out); have n2_ := Aa (Dn HB.out); clear HO_6; clear BK123; clear HB; have HO_6 := n0_; have BK123 := n1_; have HB := n2_; clear n0_ n1_ n2_; have p126 : 0 ≤ (((rd_T82 l1 x9_2).f0) : Int) := Od (by first | (with_reducible assumption) | assumption); have q126 : ((rd_T82 l1 x9_2).f0) < (x6_2.length : Int) := Od (by first | (with_reducible assumption) | assumption); obtain ⟨ad126, e126, hx126_0⟩ := Kd.at_int (Kd.R_reads' HO_6.out).2.2 ((rd_T82 l1 x9_2).f0) p126 q126
               obtain rfl : ad124 = ad126 := (by injection e126)
               replace p126 := eq_true p126; replace q126 := eq_true q126; have p15 : 0 ≤ (((rd_T82 l1 x9_2).f1) : Int) := Od (by first | (with_reducible assumption) | assumption); have q15 : (((rd_T82 l1 x9_2).f1) : Int) < ((x6_2.length : Int) : Int) := Od (by first | (with_reducible assumption) | assumption); obtain ⟨go15, co15, eo15, gb15, gl15, cl15, HG15⟩ := Kd.R_form HO_6.out (by omega)
               (first | cases eo15 | (injection eo15 with ea_ en_ ec_; (first | subst ea_ | (injection ea_ with ea_; subst ea_)); subst ec_; clear en_))
               have GB15 := Aa gb15; have GG15 := Aa HG15; clear gb15 gl15 HG15
               (first | simp only [add_plain] at hx124_0 | skip)
               (first | simp only [add_plain] at hx125_0 | skip)
               (first | simp only [add_plain] at hx126_0 | skip)
               obtain ⟨hx15_0, hf15_0⟩ := Kd.R_celln 0 HO_6.out (((rd_T82 l1 x9_2).f1) : Int) p15 q15; replace p15 := eq_true p15; replace q15 := eq_true q15; have HP35 := Kd.R_putn HO_6.out (((rd_T82 l1 x9_2).f1) : Int) (wrap64 ((rd x6_2 ((rd_T82 l1 x9_2).f0)) + ((rd_T82 l1 x9_2).f2))); rw [← Ny127.out] at HP35; have HQ35 := Aa HP35; clear HP35; refine start_ (n := 13) (S := fun w' => w'.cell? ⟨gb123, 0, none⟩ = some (.int .i64 ((rd_T82 l1 x9_2).f0)) ∧ w'.cell? ⟨gb123, 1, none⟩ = some (.int .i64 ((rd_T82 l1 x9_2).f1)) ∧ w'.cell? ⟨gb123, 2, none⟩ = some (.int .i64 ((rd_T82 l1 x9_2).f2)) ∧ w'.cell? ⟨gb123, 3, none⟩ = some (.int .i64 ((rd_T82 l1 x9_2).f3)) ∧ w'.cell? ⟨go15, (((rd_T82 l1 x9_2).f0)).toNat, none⟩ = some (.int .i64 (rd x6_2 ((rd_T82 l1 x9_2).f0)))) (ds := [12]) #[false, false, false, false, false, false, false, false, false, false, false, false, false] (by kernel_rfl) rfl rfl ⟨(Bc BK123.out 0).trans rfl, (Bc BK123.out 1).trans rfl, (Bc BK123.out 2).trans rfl, (Bc BK123.out 3).trans rfl, hx126_0⟩ (fun hHeld => ?_); refine with_tabW rf_least.tab11 rf_least.bits11 (fun HT_ HW_ => ?_); generalize w32.drew = w34 at HO_6 BK123 HB GG15 HQ35 hf15_0 hx124_0 hx125_0 hx126_0 hx15_0 hHeld ⊢; refine pure_ (i := 0) (N := some 44) (v := ?_) (a' := ?_) #[true, false, false, false, false, false, false, false, false, false, false, false, false] rfl rfl (any_of HT_.out (by kernel_rfl)) (fun _ _ _ h => h) (Or.inl ⟨by rfl, ?_⟩) ?_ ?_; rotate_left
               ·intro w'; go_simp; with_reducible rfl
               rotate_left
               ·simp only [Act.put, Sa, Sb, Sc, i64_w, i32_w]; rfl
               refine pure_ (i := 1) (N := some 45) (v := ?_) (a' := ?_) #[true, true, false, false, false, false, false, false, false, false, false, false, false] rfl rfl (any_of HT_.out (by kernel_rfl)) (fun _ _ _ h => h) (Or.inl ⟨by rfl, ?_⟩) ?_ ?_; rotate_left
               ·intro w'; go_simp; with_reducible rfl
               rotate_left
               ·simp only [Act.put, Sa, Sb, Sc, i64_w, i32_w]; rfl
               refine pure_ (i := 3) (N := some 47) (v := ?_) (a' := ?_) #[true, true, false, true, false, false, false, false, false, false, false, false, false] rfl rfl (any_of HT_.out (by kernel_rfl)) (fun _ _ _ h => h) (Or.inl ⟨by rfl, ?_⟩) ?_ ?_; rotate_left
               ·intro w'; go_simp; with_reducible rfl
               rotate_left
               ·simp only [Act.put, Sa, Sb, Sc, i64_w, i32_w]; rfl
               refine pure_ (i := 4) (N := some 48) (v := ?_) (a' := ?_) #[true, true, false, true, true, false, false, false, false, false, false, false, false] rfl rfl (any_of HT_.out (by kernel_rfl)) (fun _ _ _ h => h) (Or.inl ⟨by rfl, ?_⟩) ?_ ?_; rotate_left
               ·intro w'; go_simp; with_reducible rfl
               rotate_left
               ·simp only [Act.put, Sa, Sb, Sc, i64_w, i32_w]; rfl
               refine pure_ (i := 8) (N := some 52) (v := ?_) (a' := ?_) #[true, true, false, true, true, false, false, false, true, false, false, false, false] rfl rfl (any_of HT_.out (by kernel_rfl)) (fun _ _ _ h => h) (Or.inl ⟨by rfl, ?_⟩) ?_ ?_; rotate_left
               ·intro w'; go_simp; with_reducible rfl
               rotate_left
               ·simp only [Act.put, Sa, Sb, Sc, i64_w, i32_w]; rfl
               refine take_ (i := 2) (N := some 46) (v := ?_) (a' := ?_) #[true, true, true, true, true, false, false, false, true, false, false, false, false] rfl rfl (take_ofW HT_.out HW_.out (by kernel_rfl)) (fun _ _ _ h => h) (Or.inl ⟨by rfl, ?_⟩) hHeld ?_ ?_; rotate_left
               ·rintro w' ⟨s0, s1, s2, s3, s4⟩; go_simp; with_reducible rfl
               rotate_left
               ·simp only [Act.put, Sa, Sb, Sc, i64_w, i32_w]; rfl
               refine take_ (i := 5) (N := some 49) (v := ?_) (a' := ?_) #[true, true, true, true, true, true, false, false, true, false, false, false, false] rfl rfl (take_ofW HT_.out HW_.out (by kernel_rfl)) (fun _ _ _ h => h) (Or.inl ⟨by rfl, ?_⟩) hHeld ?_ ?_; rotate_left
               ·rintro w' ⟨s0, s1, s2, s3, s4⟩; go_simp; with_reducible rfl
               rotate_left
               ·simp only [Act.put, Sa, Sb, Sc, i64_w, i32_w]; rfl
               refine pure_ (i := 6) (N := some 50) (v := ?_) (a' := ?_) #[true, true, true, true, true, true, true, false, true, false, false, false, false] rfl rfl (any_of HT_.out (by kernel_rfl)) (fun _ _ _ h => h) (Or.inl ⟨by rfl, ?_⟩) ?_ ?_; rotate_left
               ·intro w'; go_simp; with_reducible rfl
               rotate_left
               ·simp only [Act.put, Sa, Sb, Sc, i64_w, i32_w]; rfl
               refine take_ (i := 7) (N := some 51) (v := ?_) (a' := ?_) #[true, true, true, true, true, true, true, true, true, false, false, false, false] rfl rfl (take_ofW HT_.out HW_.out (by kernel_rfl)) (fun _ _ _ h => h) (Or.inl ⟨by rfl, ?_⟩) hHeld ?_ ?_; rotate_left
               ·rintro w' ⟨s0, s1, s2, s3, s4⟩; go_simp; with_reducible rfl
               rotate_left
               ·simp only [Act.put, Sa, Sb, Sc, i64_w, i32_w]; rfl
               refine take_ (i := 9) (N := some 53) (v := ?_) (a' := ?_) #[true, true, true, true, true, true, true, true, true, true, false, false, false] rfl rfl (take_ofW HT_.out HW_.out (by kernel_rfl)) (fun _ _ _ h => h) (Or.inl ⟨by rfl, ?_⟩) hHeld ?_ ?_; rotate_left
               ·rintro w' ⟨s0, s1, s2, s3, s4⟩; go_simp; with_reducible rfl
               rotate_left
               ·simp only [Act.put, Sa, Sb, Sc, i64_w, i32_w]; rfl
               refine pure_ (i := 10) (N := some 54) (v := ?_) (a' := ?_) #[true, true, true, true, true, true, true, true, true, true, true, false, false] rfl rfl (any_of HT_.out (by kernel_rfl)) (fun _ _ _ h => h) (Or.inl ⟨by rfl, ?_⟩) ?_ ?_; rotate_left
               ·intro w'; go_simp; with_reducible rfl
               rotate_left
               ·simp only [Act.put, Sa, Sb, Sc, i64_w, i32_w]; rfl
               refine pure_ (i := 11) (N := some 55) (v := ?_) (a' := ?_) #[true, true, true, true, true, true, true, true, true, true, true, true, false] rfl rfl (any_of HT_.out (by kernel_rfl)) (fun _ _ _ h => h) (Or.inl ⟨by rfl, ?_⟩) ?_ ?_; rotate_left
               ·intro w'; go_simp; with_reducible rfl
               rotate_left
               ·simp only [Act.put, Sa, Sb, Sc, i64_w, i32_w]; rfl
               refine last_ (i := 12) (N := none) #[true, true, true, true, true, true, true, true, true, true, true, true, true] rfl rfl (one_of HT_.out (by kernel_rfl)) (by decide) (fun K hK => ?_); refine skip_ (w1 := ?_) (by rfl) rfl ?_ ?_; rotate_left
               ·go_simp; rfl
               refine hK.out _ _ ?_; clear hK K; refine done_ (done_of HT_.out (by kernel_rfl)) ?_; try go_wp2
               have n0_ : Aside0 (Kd.R (Kd.int .i64) 3 (w34.setCell ⟨go15, (((rd_T82 l1 x9_2).f1) : Int).toNat, none⟩ (.int .i64 (wrap64 ((rd x6_2 ((rd_T82 l1 x9_2).f0)) + ((rd_T82 l1 x9_2).f2))))) w.heap.size (fun _ => True) (.slice (some ⟨go15, 0, none⟩) x6_2.length co33) y127) := ⟨by (with_reducible repeat (first | apply Kd.R_alloc | apply Kd.R_drewN | apply Kd.R_drew)); exact HQ35.out⟩
               have n1_ : Aside0 ((w34.setCell ⟨go15, (((rd_T82 l1 x9_2).f1) : Int).toNat, none⟩ (.int .i64 (wrap64 ((rd x6_2 ((rd_T82 l1 x9_2).f0)) + ((rd_T82 l1 x9_2).f2))))).heap[gb123]? = some (.cells #[.int .i64 ((rd_T82 l1 x9_2).f0), .int .i64 ((rd_T82 l1 x9_2).f1), .int .i64 ((rd_T82 l1 x9_2).f2), .int .i64 ((rd_T82 l1 x9_2).f3)] 82 (0, 0))) := ⟨by (with_reducible repeat (first | refine Kn ?_ _ | refine Kw ?_ | refine Ka ?_ _)); refine blk_far ?_ (by have h_ := Kd.R_ne HO_6.out BK123.out (by decide); intro e_; exact h_ (by rw [e_]; rfl)) _; (with_reducible repeat (first | refine Kn ?_ _ | refine Kw ?_ | refine Ka ?_ _)); exact BK123.out⟩
               have n2_ : Aside0 (Below w.heap.size w (w34.setCell ⟨go15, (((rd_T82 l1 x9_2).f1) : Int).toNat, none⟩ (.int .i64 (wrap64 ((rd x6_2 ((rd_T82 l1 x9_2).f0)) + ((rd_T82 l1 x9_2).f2)))))) := ⟨by repeat (first | (with_reducible first | exact HB.out | apply Ba | apply Pn | apply Dn | refine Bz ?_ GB15.out | refine Bz ?_ GE123.out) | exact HB.out)⟩
               (try clear HO_6)
               (try clear BK123)
               (try clear HB)
               generalize (w34.setCell ⟨go15, (((rd_T82 l1 x9_2).f1) : Int).toNat, none⟩ (.int .i64 (wrap64 ((rd x6_2 ((rd_T82 l1 x9_2).f0)) + ((rd_T82 l1 x9_2).f2))))) = w36 at n0_ n1_ n2_ ⊢; have HO_6 := n0_; have BK123 := n1_; have HB := n2_; clear n0_ n1_ n2_; have n0_ := Aa (Kd.R_drew HO_6.out); have n1_ := Aa (Kw BK123.out); have n2_ := Aa (Dn HB.out); clear HO_6; clear BK123; clear HB; have HO_6 := n0_; have BK123 := n1_; have HB := n2_; clear n0_ n1_ n2_; have p128 : 0 ≤ (((rd_T82 l1 x9_2).f0) : Int) := Od (by first | (with_reducible assumption) | assumption)
               have q128 : ((rd_T82 l1 x9_2).f0) < (y127.length : Int) := (by have h_ : (((rd_T82 l1 x9_2).f0) : Int) < ((x6_2.length : Int) : Int) := Od (by first | (with_reducible assumption) | assumption); first | (have e_ := (Kd.R_reads' HO_6.out).1; omega) | simpa only [Ny127.out, List.length_set] using h_)
               have ql128 : ((((rd_T82 l1 x9_2).f0) : Int) < ((x6_2.length : Int) : Int)) = True := eq_true (Od (by first | (with_reducible assumption) | assumption)); obtain ⟨ad128, e128, hx128_0⟩ := Kd.at_int (Kd.R_reads' HO_6.out).2.2 ((rd_T82 l1 x9_2).f0) p128 q128
               obtain rfl : (⟨go15, 0, none⟩ : Addr) = ad128 := (by injection e128)
               (first | simp only [add_plain] at hx128_0 | simp only [add_at] at hx128_0 | simp only [Addr.add, Nat.zero_add] at hx128_0 | skip)
               replace p128 := eq_true p128; replace q128 := eq_true q128; have p129 : 0 ≤ (((rd_T82 l1 x9_2).f1) : Int) := Od (by first | (with_reducible assumption) | assumption)
               have q129 : ((rd_T82 l1 x9_2).f1) < (y127.length : Int) := (by have h_ : (((rd_T82 l1 x9_2).f1) : Int) < ((x6_2.length : Int) : Int) := Od (by first | (with_reducible assumption) | assumption); first | (have e_ := (Kd.R_reads' HO_6.out).1; omega) | simpa only [Ny127.out, List.length_set] using h_)
               have ql129 : ((((rd_T82 l1 x9_2).f1) : Int) < ((x6_2.length : Int) : Int)) = True := eq_true (Od (by first | (with_reducible assumption) | assumption)); obtain ⟨ad129, e129, hx129_0⟩ := Kd.at_int (Kd.R_reads' HO_6.out).2.2 ((rd_T82 l1 x9_2).f1) p129 q129
               obtain rfl : (⟨go15, 0, none⟩ : Addr) = ad129 := (by injection e129)
               (first | simp only [add_plain] at hx129_0 | simp only [add_at] at hx129_0 | simp only [Addr.add, Nat.zero_add] at hx129_0 | skip)
               replace p129 := eq_true p129; replace q129 := eq_true q129; refine start_ (n := 14) (S := fun w' => w'.cell? ⟨gb123, 0, none⟩ = some (.int .i64 ((rd_T82 l1 x9_2).f0)) ∧ w'.cell? ⟨gb123, 1, none⟩ = some (.int .i64 ((rd_T82 l1 x9_2).f1)) ∧ w'.cell? ⟨gb123, 2, none⟩ = some (.int .i64 ((rd_T82 l1 x9_2).f2)) ∧ w'.cell? ⟨gb123, 3, none⟩ = some (.int .i64 ((rd_T82 l1 x9_2).f3)) ∧ w'.cell? ⟨go15, (((rd_T82 l1 x9_2).f0)).toNat, none⟩ = some (.int .i64 (rd y127 ((rd_T82 l1 x9_2).f0))) ∧ w'.cell? ⟨go15, (((rd_T82 l1 x9_2).f1)).toNat, none⟩ = some (.int .i64 (rd y127 ((rd_T82 l1 x9_2).f1)))) (ds := []) #[false, false, false, false, false, false, false, false, false, false, false, false, false, false] (by kernel_rfl) rfl rfl ⟨(Bc BK123.out 0).trans rfl, (Bc BK123.out 1).trans rfl, (Bc BK123.out 2).trans rfl, (Bc BK123.out 3).trans rfl, hx128_0, hx129_0⟩ (fun hHeld => ?_); refine with_tabW rf_least.tab13 rf_least.bits13 (fun HT_ HW_ => ?_); generalize w36.drew = w37 at HO_6 BK123 HB HQ35 hx128_0 hx129_0 hHeld ⊢; refine pure_ (i := 0) (N := some 56) (v := ?_) (a' := ?_) #[true, false, false, false, false, false, false, false, false, false, false, false, false, false] rfl rfl (any_of HT_.out (by kernel_rfl)) (fun _ _ _ h => h) (Or.inl ⟨by rfl, ?_⟩) ?_ ?_; rotate_left
               ·intro w'; go_simp; with_reducible rfl
               rotate_left
               ·simp only [Act.put, Sa, Sb, Sc, i64_w, i32_w]; rfl
               refine pure_ (i := 1) (N := some 57) (v := ?_) (a' := ?_) #[true, true, false, false, false, false, false, false, false, false, false, false, false, false] rfl rfl (any_of HT_.out (by kernel_rfl)) (fun _ _ _ h => h) (Or.inl ⟨by rfl, ?_⟩) ?_ ?_; rotate_left
               ·intro w'; go_simp; with_reducible rfl
               rotate_left
               ·simp only [Act.put, Sa, Sb, Sc, i64_w, i32_w]; rfl
               refine pure_ (i := 5) (N := some 61) (v := ?_) (a' := ?_) #[true, true, false, false, false, true, false, false, false, false, false, false, false, false] rfl rfl (any_of HT_.out (by kernel_rfl)) (fun _ _ _ h => h) (Or.inl ⟨by rfl, ?_⟩) ?_ ?_; rotate_left
               ·intro w'; go_simp; with_reducible rfl
               rotate_left
               ·simp only [Act.put, Sa, Sb, Sc, i64_w, i32_w]; rfl
               refine pure_ (i := 6) (N := some 62) (v := ?_) (a' := ?_) #[true, true, false, false, false, true, true, false, false, false, false, false, false, false] rfl rfl (any_of HT_.out (by kernel_rfl)) (fun _ _ _ h => h) (Or.inl ⟨by rfl, ?_⟩) ?_ ?_; rotate_left
               ·intro w'; go_simp; with_reducible rfl
               rotate_left
               ·simp only [Act.put, Sa, Sb, Sc, i64_w, i32_w]; rfl
               refine pure_ (i := 10) (N := some 66) (v := ?_) (a' := ?_) #[true, true, false, false, false, true, true, false, false, false, true, false, false, false] rfl rfl (any_of HT_.out (by kernel_rfl)) (fun _ _ _ h => h) (Or.inl ⟨by rfl, ?_⟩) ?_ ?_; rotate_left
               ·intro w'; go_simp; with_reducible rfl
               rotate_left
               ·simp only [Act.put, Sa, Sb, Sc, i64_w, i32_w]; rfl
               refine take_ (i := 2) (N := some 58) (v := ?_) (a' := ?_) #[true, true, true, false, false, true, true, false, false, false, true, false, false, false] rfl rfl (take_ofW HT_.out HW_.out (by kernel_rfl)) (fun _ _ _ h => h) (Or.inl ⟨by rfl, ?_⟩) hHeld ?_ ?_; rotate_left
               ·rintro w' ⟨s0, s1, s2, s3, s4, s5⟩; go_simp; with_reducible rfl
               rotate_left
               ·simp only [Act.put, Sa, Sb, Sc, i64_w, i32_w]; rfl
               refine pure_ (i := 3) (N := some 59) (v := ?_) (a' := ?_) #[true, true, true, true, false, true, true, false, false, false, true, false, false, false] rfl rfl (any_of HT_.out (by kernel_rfl)) (fun _ _ _ h => h) (Or.inl ⟨by rfl, ?_⟩) ?_ ?_; rotate_left
               ·intro w'; go_simp; with_reducible rfl
               rotate_left
               ·simp only [Act.put, Sa, Sb, Sc, i64_w, i32_w]; rfl
               refine take_ (i := 4) (N := some 60) (v := ?_) (a' := ?_) #[true, true, true, true, true, true, true, false, false, false, true, false, false, false] rfl rfl (take_ofW HT_.out HW_.out (by kernel_rfl)) (fun _ _ _ h => h) (Or.inl ⟨by rfl, ?_⟩) hHeld ?_ ?_; rotate_left
               ·rintro w' ⟨s0, s1, s2, s3, s4, s5⟩; go_simp; with_reducible rfl
               rotate_left
               ·simp only [Act.put, Sa, Sb, Sc, i64_w, i32_w]; rfl
               refine take_ (i := 7) (N := some 63) (v := ?_) (a' := ?_) #[true, true, true, true, true, true, true, true, false, false, true, false, false, false] rfl rfl (take_ofW HT_.out HW_.out (by kernel_rfl)) (fun _ _ _ h => h) (Or.inl ⟨by rfl, ?_⟩) hHeld ?_ ?_; rotate_left
               ·rintro w' ⟨s0, s1, s2, s3, s4, s5⟩; go_simp; with_reducible rfl
               rotate_left
               ·simp only [Act.put, Sa, Sb, Sc, i64_w, i32_w]; rfl
               refine pure_ (i := 8) (N := some 64) (v := ?_) (a' := ?_) #[true, true, true, true, true, true, true, true, true, false, true, false, false, false] rfl rfl (any_of HT_.out (by kernel_rfl)) (fun _ _ _ h => h) (Or.inl ⟨by rfl, ?_⟩) ?_ ?_; rotate_left
               ·intro w'; go_simp; with_reducible rfl
               rotate_left
               ·simp only [Act.put, Sa, Sb, Sc, i64_w, i32_w]; rfl
               refine take_ (i := 9) (N := some 65) (v := ?_) (a' := ?_) #[true, true, true, true, true, true, true, true, true, true, true, false, false, false] rfl rfl (take_ofW HT_.out HW_.out (by kernel_rfl)) (fun _ _ _ h => h) (Or.inl ⟨by rfl, ?_⟩) hHeld ?_ ?_; rotate_left
               ·rintro w' ⟨s0, s1, s2, s3, s4, s5⟩; go_simp; with_reducible rfl
               rotate_left
               ·simp only [Act.put, Sa, Sb, Sc, i64_w, i32_w]; rfl
               refine take_ (i := 11) (N := some 67) (v := ?_) (a' := ?_) #[true, true, true, true, true, true, true, true, true, true, true, true, false, false] rfl rfl (take_ofW HT_.out HW_.out (by kernel_rfl)) (fun _ _ _ h => h) (Or.inl ⟨by rfl, ?_⟩) hHeld ?_ ?_; rotate_left
               ·rintro w' ⟨s0, s1, s2, s3, s4, s5⟩; go_simp; with_reducible rfl
               rotate_left
               ·simp only [Act.put, Sa, Sb, Sc, i64_w, i32_w]; rfl
               refine pure_ (i := 12) (N := some 68) (v := ?_) (a' := ?_) #[true, true, true, true, true, true, true, true, true, true, true, true, true, false] rfl rfl (any_of HT_.out (by kernel_rfl)) (fun _ _ _ h => h) (Or.inl ⟨by rfl, ?_⟩) ?_ ?_; rotate_left
               ·intro w'; go_simp; with_reducible rfl
               rotate_left
               ·simp only [Act.put, Sa, Sb, Sc, i64_w, i32_w]; rfl
               refine pure_ (i := 13) (N := some 69) (v := ?_) (a' := ?_) #[true, true, true, true, true, true, true, true, true, true, true, true, true, true] rfl rfl (any_of HT_.out (by kernel_rfl)) (fun _ _ _ h => h) (Or.inl ⟨by rfl, ?_⟩) ?_ ?_; rotate_left
               ·intro w'; go_simp; with_reducible rfl
               rotate_left
               ·simp only [Act.put, Sa, Sb, Sc, i64_w, i32_w]; rfl
               refine done_ (done_of HT_.out (by kernel_rfl)) ?_; try go_wp2
               go_roundg k2
               case measure => have := HK1.out; have := HK2.out; omega
               case rel => exact ⟨(y127), (true), (wrap64 (x9_2 + 1)), (by first | rfl | (simp; done) | (simp [*]; done)), (by first | rfl | (simp; done) | (simp [*]; done)), H', ⟨by have := HK1.out; have := HK2.out; omega⟩, ⟨by (with_reducible repeat (first | apply Kd.R_alloc | apply Kd.R_drewN | apply Kd.R_drew)); exact HO_6.out⟩, ⟨by repeat (first | (with_reducible first | exact HB.out | apply Ba | apply Pn | apply Dn | refine Bz ?_ GE123.out) | exact HB.out)⟩⟩
             ·rw [if_neg c14] at H; have c14b0 : decide ((rd x6_2 ((rd_T82 l1 x9_2).f1)) < (wrap64 ((rd x6_2 ((rd_T82 l1 x9_2).f0)) + ((rd_T82 l1 x9_2).f2)))) = false := decide_eq_false c14; clear c14
              by_cases c38 : (rd x6_2 ((rd_T82 l1 x9_2).f0)) < (wrap64 ((rd x6_2 ((rd_T82 l1 x9_2).f1)) - ((rd_T82 l1 x9_2).f3)))
              ·rw [if_pos c38] at H; have c38b0 : decide ((rd x6_2 ((rd_T82 l1 x9_2).f0)) < (wrap64 ((rd x6_2 ((rd_T82 l1 x9_2).f1)) - ((rd_T82 l1 x9_2).f3)))) = true := decide_eq_true c38; clear c38
               obtain ⟨y135, hy135⟩ : ∃ y_ : List Int, y_ = (x6_2.set (((rd_T82 l1 x9_2).f0) : Int).toNat (wrap64 ((rd x6_2 ((rd_T82 l1 x9_2).f1)) - ((rd_T82 l1 x9_2).f3)))) := ⟨_, rfl⟩
               replace H : (rf_least.l1 k2 l0 l1 y135 x7_1 true (wrap64 (x9_2 + 1))) = some (r1, r2) := by first | (rw [hy135]; with_reducible exact H) | (have H2_ := (Option.bind_some _ _).symm.trans H; rw [hy135]; with_reducible exact H2_) | (have H2_ := (Option.bind_some _ _).symm.trans H; with_reducible exact H2_) | with_reducible exact H | (rw [hy135]; exact H) | exact H
               have Ny135 := Aa hy135; clear hy135; have H' := Aa H; clear H; have p122 : 0 ≤ (x9_2 : Int) := Od (by first | (with_reducible assumption) | assumption); have q122 : x9_2 < (l1.length : Int) := Od (by first | (with_reducible assumption) | assumption); obtain ⟨ad122, e122, hx122_0, hx122_1, hx122_2, hx122_3⟩ := at_T82 HR1.out x9_2 p122 q122; cases e122; replace hx122_0 := (HB.out.cell (Wb w _ hx122_0)).trans hx122_0; replace hx122_1 := (HB.out.cell (Wb w _ hx122_1)).trans hx122_1; replace hx122_2 := (HB.out.cell (Wb w _ hx122_2)).trans hx122_2; replace hx122_3 := (HB.out.cell (Wb w _ hx122_3)).trans hx122_3; replace p122 := eq_true p122; replace q122 := eq_true q122; try go_wp2_with (first | ((with_reducible refine gate_dst (N := 10) rfl ?_); refine box_event ?hg (N := 10) ?hd (cs := #[.int .i64 0, .int .i64 0, .int .i64 0, .int .i64 0]) (t := 82) ?hr ?_; (case hd => rfl); (case hg => rfl); (case hr => first | (go_simp; done) | (go_simp; rfl)); intro gb123 hg w40 hbox hb; have n0_ := Aa (Kd.R_below (by (with_reducible repeat (first | apply Kd.R_alloc | apply Kd.R_drewN | apply Kd.R_drew)); exact HO_6.out) hb); have n1_ := Aa (Bp (by repeat (first | (with_reducible first | exact HB.out | apply Ba | apply Pn | apply Dn) | exact HB.out)) hb); have n2_ := Aa (hbox); have n3_ := Aa ((by rw [hg]; exact (below_size (by repeat (first | (with_reducible first | exact HB.out | apply Ba | apply Pn | apply Dn) | exact HB.out))) : w.heap.size ≤ gb123)); have n4_ := Aa ((by rw [hg]; exact (below_size (by repeat (first | (with_reducible first | exact HB.out | apply Ba | apply Pn | apply Dn) | exact HB.out))) : w.heap.size ≤ gb123)); clear HO_6; clear HB; have HO_6 := n0_; have HB := n1_; have BK123 := n2_; have GW123 := n3_; have GE123 := n4_; clear n0_ n1_ n2_ n3_ n4_; clear hb hbox hg; have hcz41_0 : w40.cell? ⟨gb123, 0, none⟩ = some (.int .i64 0) := (Bc BK123.out 0).trans rfl; have hcz41_1 : w40.cell? ⟨gb123, 1, none⟩ = some (.int .i64 0) := (Bc BK123.out 1).trans rfl; have hcz41_2 : w40.cell? ⟨gb123, 2, none⟩ = some (.int .i64 0) := (Bc BK123.out 2).trans rfl; have hcz41_3 : w40.cell? ⟨gb123, 3, none⟩ = some (.int .i64 0) := (Bc BK123.out 3).trans rfl; have hfz41_0 := Bf BK123.out 0; have hfz41_1 := Bf BK123.out 1; have hfz41_2 := Bf BK123.out 2; have hfz41_3 := Bf BK123.out 3))
               have n0_ : Aside0 (Kd.R (Kd.int .i64) 3 ((((w40.setCell ⟨gb123, 0, none⟩ (.int .i64 ((rd_T82 l1 x9_2).f0))).setCell ⟨gb123, 1, none⟩ (.int .i64 ((rd_T82 l1 x9_2).f1))).setCell ⟨gb123, 2, none⟩ (.int .i64 ((rd_T82 l1 x9_2).f2))).setCell ⟨gb123, 3, none⟩ (.int .i64 ((rd_T82 l1 x9_2).f3))) w.heap.size (fun _ => True) v120 x6_2) := ⟨by (with_reducible repeat (first | apply Kd.R_alloc | apply Kd.R_drewN | apply Kd.R_drew)); exact Kd.R_mono (Kd.R_far (p := ⟨gb123, 3, none⟩) (Kd.R_far (p := ⟨gb123, 2, none⟩) (Kd.R_far (p := ⟨gb123, 1, none⟩) (Kd.R_far (p := ⟨gb123, 0, none⟩) (Kd.R_types HO_6.out BK123.out (by decide)) (fun _ hk => hk.2) (.int .i64 ((rd_T82 l1 x9_2).f0))) (fun _ hk => hk.2) (.int .i64 ((rd_T82 l1 x9_2).f1))) (fun _ hk => hk.2) (.int .i64 ((rd_T82 l1 x9_2).f2))) (fun _ hk => hk.2) (.int .i64 ((rd_T82 l1 x9_2).f3))) (fun _ hk => trivial)⟩
               have n1_ : Aside0 (((((w40.setCell ⟨gb123, 0, none⟩ (.int .i64 ((rd_T82 l1 x9_2).f0))).setCell ⟨gb123, 1, none⟩ (.int .i64 ((rd_T82 l1 x9_2).f1))).setCell ⟨gb123, 2, none⟩ (.int .i64 ((rd_T82 l1 x9_2).f2))).setCell ⟨gb123, 3, none⟩ (.int .i64 ((rd_T82 l1 x9_2).f3))).heap[gb123]? = some (.cells #[.int .i64 ((rd_T82 l1 x9_2).f0), .int .i64 ((rd_T82 l1 x9_2).f1), .int .i64 ((rd_T82 l1 x9_2).f2), .int .i64 ((rd_T82 l1 x9_2).f3)] 82 (0, 0))) := ⟨by (with_reducible repeat (first | refine Kn ?_ _ | refine Kw ?_ | refine Ka ?_ _)); refine blk_put (cs := #[.int .i64 ((rd_T82 l1 x9_2).f0), .int .i64 ((rd_T82 l1 x9_2).f1), .int .i64 ((rd_T82 l1 x9_2).f2), .int .i64 0]) ?_ 3 _ rfl; (with_reducible repeat (first | refine Kn ?_ _ | refine Kw ?_ | refine Ka ?_ _)); refine blk_put (cs := #[.int .i64 ((rd_T82 l1 x9_2).f0), .int .i64 ((rd_T82 l1 x9_2).f1), .int .i64 0, .int .i64 0]) ?_ 2 _ rfl; (with_reducible repeat (first | refine Kn ?_ _ | refine Kw ?_ | refine Ka ?_ _)); refine blk_put (cs := #[.int .i64 ((rd_T82 l1 x9_2).f0), .int .i64 0, .int .i64 0, .int .i64 0]) ?_ 1 _ rfl; (with_reducible repeat (first | refine Kn ?_ _ | refine Kw ?_ | refine Ka ?_ _)); refine blk_put (cs := #[.int .i64 0, .int .i64 0, .int .i64 0, .int .i64 0]) ?_ 0 _ rfl; (with_reducible repeat (first | refine Kn ?_ _ | refine Kw ?_ | refine Ka ?_ _)); exact BK123.out⟩
               have n2_ : Aside0 (Below w.heap.size w ((((w40.setCell ⟨gb123, 0, none⟩ (.int .i64 ((rd_T82 l1 x9_2).f0))).setCell ⟨gb123, 1, none⟩ (.int .i64 ((rd_T82 l1 x9_2).f1))).setCell ⟨gb123, 2, none⟩ (.int .i64 ((rd_T82 l1 x9_2).f2))).setCell ⟨gb123, 3, none⟩ (.int .i64 ((rd_T82 l1 x9_2).f3)))) := ⟨by repeat (first | (with_reducible first | exact HB.out | apply Ba | apply Pn | apply Dn | refine Bz ?_ GE123.out) | exact HB.out)⟩
               (try clear HO_6)
               (try clear BK123)
               (try clear HB)
               generalize ((((w40.setCell ⟨gb123, 0, none⟩ (.int .i64 ((rd_T82 l1 x9_2).f0))).setCell ⟨gb123, 1, none⟩ (.int .i64 ((rd_T82 l1 x9_2).f1))).setCell ⟨gb123, 2, none⟩ (.int .i64 ((rd_T82 l1 x9_2).f2))).setCell ⟨gb123, 3, none⟩ (.int .i64 ((rd_T82 l1 x9_2).f3))) = w42 at n0_ n1_ n2_ ⊢; have HO_6 := n0_; have BK123 := n1_; have HB := n2_; clear n0_ n1_ n2_; have n0_ := Aa (Kd.R_drew HO_6.out); have n1_ := Aa (Kw BK123.out); have n2_ := Aa (Dn HB.out); clear HO_6; clear BK123; clear HB; have HO_6 := n0_; have BK123 := n1_; have HB := n2_; clear n0_ n1_ n2_; obtain ⟨Ao44, co44, eo44⟩ := Kd.R_slice HO_6.out
               (first | subst eo44 | (injection eo44 with f1_ f2_ f3_; have f4_ := f1_.symm; have f5_ := f3_.symm; clear f1_ f2_ f3_; subst f4_; subst f5_))
               have p124 : 0 ≤ (((rd_T82 l1 x9_2).f1) : Int) := Od (by first | (with_reducible assumption) | assumption); have q124 : ((rd_T82 l1 x9_2).f1) < (x6_2.length : Int) := Od (by first | (with_reducible assumption) | assumption); obtain ⟨ad124, e124, hx124_0⟩ := Kd.at_int (Kd.R_reads' HO_6.out).2.2 ((rd_T82 l1 x9_2).f1) p124 q124; cases e124; replace p124 := eq_true p124; replace q124 := eq_true q124; have p125 : 0 ≤ (((rd_T82 l1 x9_2).f0) : Int) := Od (by first | (with_reducible assumption) | assumption); have q125 : ((rd_T82 l1 x9_2).f0) < (x6_2.length : Int) := Od (by first | (with_reducible assumption) | assumption); obtain ⟨ad125, e125, hx125_0⟩ := Kd.at_int (Kd.R_reads' HO_6.out).2.2 ((rd_T82 l1 x9_2).f0) p125 q125
               obtain rfl : ad124 = ad125 := (by injection e125)
               replace p125 := eq_true p125; replace q125 := eq_true q125; refine start_ (n := 14) (S := fun w' => w'.cell? ⟨gb123, 0, none⟩ = some (.int .i64 ((rd_T82 l1 x9_2).f0)) ∧ w'.cell? ⟨gb123, 1, none⟩ = some (.int .i64 ((rd_T82 l1 x9_2).f1)) ∧ w'.cell? ⟨gb123, 2, none⟩ = some (.int .i64 ((rd_T82 l1 x9_2).f2)) ∧ w'.cell? ⟨gb123, 3, none⟩ = some (.int .i64 ((rd_T82 l1 x9_2).f3)) ∧ w'.cell? (ad124.add (((rd_T82 l1 x9_2).f1)).toNat) = some (.int .i64 (rd x6_2 ((rd_T82 l1 x9_2).f1))) ∧ w'.cell? (ad124.add (((rd_T82 l1 x9_2).f0)).toNat) = some (.int .i64 (rd x6_2 ((rd_T82 l1 x9_2).f0)))) (ds := []) #[false, false, false, false, false, false, false, false, false, false, false, false, false, false] (by kernel_rfl) rfl rfl ⟨(Bc BK123.out 0).trans rfl, (Bc BK123.out 1).trans rfl, (Bc BK123.out 2).trans rfl, (Bc BK123.out 3).trans rfl, hx124_0, hx125_0⟩ (fun hHeld => ?_); refine with_tabW rf_least.tab10 rf_least.bits10 (fun HT_ HW_ => ?_); generalize w42.drew = w43 at HO_6 BK123 HB hx124_0 hx125_0 hHeld ⊢; refine pure_ (i := 0) (N := some 30) (v := ?_) (a' := ?_) #[true, false, false, false, false, false, false, false, false, false, false, false, false, false] rfl rfl (any_of HT_.out (by kernel_rfl)) (fun _ _ _ h => h) (Or.inl ⟨by rfl, ?_⟩) ?_ ?_; rotate_left
               ·intro w'; go_simp; with_reducible rfl
               rotate_left
               ·simp only [Act.put, Sa, Sb, Sc, i64_w, i32_w]; rfl
               refine pure_ (i := 1) (N := some 31) (v := ?_) (a' := ?_) #[true, true, false, false, false, false, false, false, false, false, false, false, false, false] rfl rfl (any_of HT_.out (by kernel_rfl)) (fun _ _ _ h => h) (Or.inl ⟨by rfl, ?_⟩) ?_ ?_; rotate_left
               ·intro w'; go_simp; with_reducible rfl
               rotate_left
               ·simp only [Act.put, Sa, Sb, Sc, i64_w, i32_w]; rfl
               refine pure_ (i := 5) (N := some 35) (v := ?_) (a' := ?_) #[true, true, false, false, false, true, false, false, false, false, false, false, false, false] rfl rfl (any_of HT_.out (by kernel_rfl)) (fun _ _ _ h => h) (Or.inl ⟨by rfl, ?_⟩) ?_ ?_; rotate_left
               ·intro w'; go_simp; with_reducible rfl
               rotate_left
               ·simp only [Act.put, Sa, Sb, Sc, i64_w, i32_w]; rfl
               refine pure_ (i := 6) (N := some 36) (v := ?_) (a' := ?_) #[true, true, false, false, false, true, true, false, false, false, false, false, false, false] rfl rfl (any_of HT_.out (by kernel_rfl)) (fun _ _ _ h => h) (Or.inl ⟨by rfl, ?_⟩) ?_ ?_; rotate_left
               ·intro w'; go_simp; with_reducible rfl
               rotate_left
               ·simp only [Act.put, Sa, Sb, Sc, i64_w, i32_w]; rfl
               refine pure_ (i := 10) (N := some 40) (v := ?_) (a' := ?_) #[true, true, false, false, false, true, true, false, false, false, true, false, false, false] rfl rfl (any_of HT_.out (by kernel_rfl)) (fun _ _ _ h => h) (Or.inl ⟨by rfl, ?_⟩) ?_ ?_; rotate_left
               ·intro w'; go_simp; with_reducible rfl
               rotate_left
               ·simp only [Act.put, Sa, Sb, Sc, i64_w, i32_w]; rfl
               refine take_ (i := 2) (N := some 32) (v := ?_) (a' := ?_) #[true, true, true, false, false, true, true, false, false, false, true, false, false, false] rfl rfl (take_ofW HT_.out HW_.out (by kernel_rfl)) (fun _ _ _ h => h) (Or.inl ⟨by rfl, ?_⟩) hHeld ?_ ?_; rotate_left
               ·rintro w' ⟨s0, s1, s2, s3, s4, s5⟩; go_simp; with_reducible rfl
               rotate_left
               ·simp only [Act.put, Sa, Sb, Sc, i64_w, i32_w]; rfl
               refine pure_ (i := 3) (N := some 33) (v := ?_) (a' := ?_) #[true, true, true, true, false, true, true, false, false, false, true, false, false, false] rfl rfl (any_of HT_.out (by kernel_rfl)) (fun _ _ _ h => h) (Or.inl ⟨by rfl, ?_⟩) ?_ ?_; rotate_left
               ·intro w'; go_simp; with_reducible rfl
               rotate_left
               ·simp only [Act.put, Sa, Sb, Sc, i64_w, i32_w]; rfl
               refine take_ (i := 4) (N := some 34) (v := ?_) (a' := ?_) #[true, true, true, true, true, true, true, false, false, false, true, false, false, false] rfl rfl (take_ofW HT_.out HW_.out (by kernel_rfl)) (fun _ _ _ h => h) (Or.inl ⟨by rfl, ?_⟩) hHeld ?_ ?_; rotate_left
               ·rintro w' ⟨s0, s1, s2, s3, s4, s5⟩; go_simp; with_reducible rfl
               rotate_left
               ·simp only [Act.put, Sa, Sb, Sc, i64_w, i32_w]; rfl
               refine take_ (i := 7) (N := some 37) (v := ?_) (a' := ?_) #[true, true, true, true, true, true, true, true, false, false, true, false, false, false] rfl rfl (take_ofW HT_.out HW_.out (by kernel_rfl)) (fun _ _ _ h => h) (Or.inl ⟨by rfl, ?_⟩) hHeld ?_ ?_; rotate_left
               ·rintro w' ⟨s0, s1, s2, s3, s4, s5⟩; go_simp; with_reducible rfl
               rotate_left
               ·simp only [Act.put, Sa, Sb, Sc, i64_w, i32_w]; rfl
               refine pure_ (i := 8) (N := some 38) (v := ?_) (a' := ?_) #[true, true, true, true, true, true, true, true, true, false, true, false, false, false] rfl rfl (any_of HT_.out (by kernel_rfl)) (fun _ _ _ h => h) (Or.inl ⟨by rfl, ?_⟩) ?_ ?_; rotate_left
               ·intro w'; go_simp; with_reducible rfl
               rotate_left
               ·simp only [Act.put, Sa, Sb, Sc, i64_w, i32_w]; rfl
               refine take_ (i := 9) (N := some 39) (v := ?_) (a' := ?_) #[true, true, true, true, true, true, true, true, true, true, true, false, false, false] rfl rfl (take_ofW HT_.out HW_.out (by kernel_rfl)) (fun _ _ _ h => h) (Or.inl ⟨by rfl, ?_⟩) hHeld ?_ ?_; rotate_left
               ·rintro w' ⟨s0, s1, s2, s3, s4, s5⟩; go_simp; with_reducible rfl
               rotate_left
               ·simp only [Act.put, Sa, Sb, Sc, i64_w, i32_w]; rfl
               refine take_ (i := 11) (N := some 41) (v := ?_) (a' := ?_) #[true, true, true, true, true, true, true, true, true, true, true, true, false, false] rfl rfl (take_ofW HT_.out HW_.out (by kernel_rfl)) (fun _ _ _ h => h) (Or.inl ⟨by rfl, ?_⟩) hHeld ?_ ?_; rotate_left
               ·rintro w' ⟨s0, s1, s2, s3, s4, s5⟩; go_simp; with_reducible rfl
               rotate_left
               ·simp only [Act.put, Sa, Sb, Sc, i64_w, i32_w]; rfl
               refine pure_ (i := 12) (N := some 42) (v := ?_) (a' := ?_) #[true, true, true, true, true, true, true, true, true, true, true, true, true, false] rfl rfl (any_of HT_.out (by kernel_rfl)) (fun _ _ _ h => h) (Or.inl ⟨by rfl, ?_⟩) ?_ ?_; rotate_left
               ·intro w'; go_simp; with_reducible rfl
               rotate_left
               ·simp only [Act.put, Sa, Sb, Sc, i64_w, i32_w]; rfl
               refine pure_ (i := 13) (N := some 43) (v := ?_) (a' := ?_) #[true, true, true, true, true, true, true, true, true, true, true, true, true, true] rfl rfl (any_of HT_.out (by kernel_rfl)) (fun _ _ _ h => h) (Or.inl ⟨by rfl, ?_⟩) ?_ ?_; rotate_left
               ·intro w'; go_simp; with_reducible rfl
               rotate_left
               ·simp only [Act.put, Sa, Sb, Sc, i64_w, i32_w]; rfl
               refine done_ (done_of HT_.out (by kernel_rfl)) ?_; try go_wp2
               have n0_ := Aa (Kd.R_drew HO_6.out); have n1_ := Aa (Kw BK123.out); have n2_ := Aa (Dn HB.out); clear HO_6; clear BK123; clear HB; have HO_6 := n0_; have BK123 := n1_; have HB := n2_; clear n0_ n1_ n2_; have p132 : 0 ≤ (((rd_T82 l1 x9_2).f0) : Int) := Od (by first | (with_reducible assumption) | assumption); have q132 : ((rd_T82 l1 x9_2).f0) < (x6_2.length : Int) := Od (by first | (with_reducible assumption) | assumption); obtain ⟨ad132, e132, hx132_0⟩ := Kd.at_int (Kd.R_reads' HO_6.out).2.2 ((rd_T82 l1 x9_2).f0) p132 q132
               obtain rfl : ad124 = ad132 := (by injection e132)
               replace p132 := eq_true p132; replace q132 := eq_true q132; have p133 : 0 ≤ (((rd_T82 l1 x9_2).f1) : Int) := Od (by first | (with_reducible assumption) | assumption); have q133 : ((rd_T82 l1 x9_2).f1) < (x6_2.length : Int) := Od (by first | (with_reducible assumption) | assumption); obtain ⟨ad133, e133, hx133_0⟩ := Kd.at_int (Kd.R_reads' HO_6.out).2.2 ((rd_T82 l1 x9_2).f1) p133 q133
               obtain rfl : ad124 = ad133 := (by injection e133)
               replace p133 := eq_true p133; replace q133 := eq_true q133; refine start_ (n := 14) (S := fun w' => w'.cell? ⟨gb123, 0, none⟩ = some (.int .i64 ((rd_T82 l1 x9_2).f0)) ∧ w'.cell? ⟨gb123, 1, none⟩ = some (.int .i64 ((rd_T82 l1 x9_2).f1)) ∧ w'.cell? ⟨gb123, 2, none⟩ = some (.int .i64 ((rd_T82 l1 x9_2).f2)) ∧ w'.cell? ⟨gb123, 3, none⟩ = some (.int .i64 ((rd_T82 l1 x9_2).f3)) ∧ w'.cell? (ad124.add (((rd_T82 l1 x9_2).f0)).toNat) = some (.int .i64 (rd x6_2 ((rd_T82 l1 x9_2).f0))) ∧ w'.cell? (ad124.add (((rd_T82 l1 x9_2).f1)).toNat) = some (.int .i64 (rd x6_2 ((rd_T82 l1 x9_2).f1)))) (ds := []) #[false, false, false, false, false, false, false, false, false, false, false, false, false, false] (by kernel_rfl) rfl rfl ⟨(Bc BK123.out 0).trans rfl, (Bc BK123.out 1).trans rfl, (Bc BK123.out 2).trans rfl, (Bc BK123.out 3).trans rfl, hx132_0, hx133_0⟩ (fun hHeld => ?_); refine with_tabW rf_least.tab13 rf_least.bits13 (fun HT_ HW_ => ?_); generalize w43.drew = w45 at HO_6 BK123 HB hx132_0 hx133_0 hHeld ⊢; refine pure_ (i := 0) (N := some 56) (v := ?_) (a' := ?_) #[true, false, false, false, false, false, false, false, false, false, false, false, false, false] rfl rfl (any_of HT_.out (by kernel_rfl)) (fun _ _ _ h => h) (Or.inl ⟨by rfl, ?_⟩) ?_ ?_; rotate_left
               ·intro w'; go_simp; with_reducible rfl
               rotate_left
               ·simp only [Act.put, Sa, Sb, Sc, i64_w, i32_w]; rfl
               refine pure_ (i := 1) (N := some 57) (v := ?_) (a' := ?_) #[true, true, false, false, false, false, false, false, false, false, false, false, false, false] rfl rfl (any_of HT_.out (by kernel_rfl)) (fun _ _ _ h => h) (Or.inl ⟨by rfl, ?_⟩) ?_ ?_; rotate_left
               ·intro w'; go_simp; with_reducible rfl
               rotate_left
               ·simp only [Act.put, Sa, Sb, Sc, i64_w, i32_w]; rfl
               refine pure_ (i := 5) (N := some 61) (v := ?_) (a' := ?_) #[true, true, false, false, false, true, false, false, false, false, false, false, false, false] rfl rfl (any_of HT_.out (by kernel_rfl)) (fun _ _ _ h => h) (Or.inl ⟨by rfl, ?_⟩) ?_ ?_; rotate_left
               ·intro w'; go_simp; with_reducible rfl
               rotate_left
               ·simp only [Act.put, Sa, Sb, Sc, i64_w, i32_w]; rfl
               refine pure_ (i := 6) (N := some 62) (v := ?_) (a' := ?_) #[true, true, false, false, false, true, true, false, false, false, false, false, false, false] rfl rfl (any_of HT_.out (by kernel_rfl)) (fun _ _ _ h => h) (Or.inl ⟨by rfl, ?_⟩) ?_ ?_; rotate_left
               ·intro w'; go_simp; with_reducible rfl
               rotate_left
               ·simp only [Act.put, Sa, Sb, Sc, i64_w, i32_w]; rfl
               refine pure_ (i := 10) (N := some 66) (v := ?_) (a' := ?_) #[true, true, false, false, false, true, true, false, false, false, true, false, false, false] rfl rfl (any_of HT_.out (by kernel_rfl)) (fun _ _ _ h => h) (Or.inl ⟨by rfl, ?_⟩) ?_ ?_; rotate_left
               ·intro w'; go_simp; with_reducible rfl
               rotate_left
               ·simp only [Act.put, Sa, Sb, Sc, i64_w, i32_w]; rfl
               refine take_ (i := 2) (N := some 58) (v := ?_) (a' := ?_) #[true, true, true, false, false, true, true, false, false, false, true, false, false, false] rfl rfl (take_ofW HT_.out HW_.out (by kernel_rfl)) (fun _ _ _ h => h) (Or.inl ⟨by rfl, ?_⟩) hHeld ?_ ?_; rotate_left
               ·rintro w' ⟨s0, s1, s2, s3, s4, s5⟩; go_simp; with_reducible rfl
               rotate_left
               ·simp only [Act.put, Sa, Sb, Sc, i64_w, i32_w]; rfl
               refine pure_ (i := 3) (N := some 59) (v := ?_) (a' := ?_) #[true, true, true, true, false, true, true, false, false, false, true, false, false, false] rfl rfl (any_of HT_.out (by kernel_rfl)) (fun _ _ _ h => h) (Or.inl ⟨by rfl, ?_⟩) ?_ ?_; rotate_left
               ·intro w'; go_simp; with_reducible rfl
               rotate_left
               ·simp only [Act.put, Sa, Sb, Sc, i64_w, i32_w]; rfl
               refine take_ (i := 4) (N := some 60) (v := ?_) (a' := ?_) #[true, true, true, true, true, true, true, false, false, false, true, false, false, false] rfl rfl (take_ofW HT_.out HW_.out (by kernel_rfl)) (fun _ _ _ h => h) (Or.inl ⟨by rfl, ?_⟩) hHeld ?_ ?_; rotate_left
               ·rintro w' ⟨s0, s1, s2, s3, s4, s5⟩; go_simp; with_reducible rfl
               rotate_left
               ·simp only [Act.put, Sa, Sb, Sc, i64_w, i32_w]; rfl
               refine take_ (i := 7) (N := some 63) (v := ?_) (a' := ?_) #[true, true, true, true, true, true, true, true, false, false, true, false, false, false] rfl rfl (take_ofW HT_.out HW_.out (by kernel_rfl)) (fun _ _ _ h => h) (Or.inl ⟨by rfl, ?_⟩) hHeld ?_ ?_; rotate_left
               ·rintro w' ⟨s0, s1, s2, s3, s4, s5⟩; go_simp; with_reducible rfl
               rotate_left
               ·simp only [Act.put, Sa, Sb, Sc, i64_w, i32_w]; rfl
               refine pure_ (i := 8) (N := some 64) (v := ?_) (a' := ?_) #[true, true, true, true, true, true, true, true, true, false, true, false, false, false] rfl rfl (any_of HT_.out (by kernel_rfl)) (fun _ _ _ h => h) (Or.inl ⟨by rfl, ?_⟩) ?_ ?_; rotate_left
               ·intro w'; go_simp; with_reducible rfl
               rotate_left
               ·simp only [Act.put, Sa, Sb, Sc, i64_w, i32_w]; rfl
               refine take_ (i := 9) (N := some 65) (v := ?_) (a' := ?_) #[true, true, true, true, true, true, true, true, true, true, true, false, false, false] rfl rfl (take_ofW HT_.out HW_.out (by kernel_rfl)) (fun _ _ _ h => h) (Or.inl ⟨by rfl, ?_⟩) hHeld ?_ ?_; rotate_left
               ·rintro w' ⟨s0, s1, s2, s3, s4, s5⟩; go_simp; with_reducible rfl
               rotate_left
               ·simp only [Act.put, Sa, Sb, Sc, i64_w, i32_w]; rfl
               refine take_ (i := 11) (N := some 67) (v := ?_) (a' := ?_) #[true, true, true, true, true, true, true, true, true, true, true, true, false, false] rfl rfl (take_ofW HT_.out HW_.out (by kernel_rfl)) (fun _ _ _ h => h) (Or.inl ⟨by rfl, ?_⟩) hHeld ?_ ?_; rotate_left
               ·rintro w' ⟨s0, s1, s2, s3, s4, s5⟩; go_simp; with_reducible rfl
               rotate_left
               ·simp only [Act.put, Sa, Sb, Sc, i64_w, i32_w]; rfl
               refine pure_ (i := 12) (N := some 68) (v := ?_) (a' := ?_) #[true, true, true, true, true, true, true, true, true, true, true, true, true, false] rfl rfl (any_of HT_.out (by kernel_rfl)) (fun _ _ _ h => h) (Or.inl ⟨by rfl, ?_⟩) ?_ ?_; rotate_left
               ·intro w'; go_simp; with_reducible rfl
               rotate_left
               ·simp only [Act.put, Sa, Sb, Sc, i64_w, i32_w]; rfl
               refine pure_ (i := 13) (N := some 69) (v := ?_) (a' := ?_) #[true, true, true, true, true, true, true, true, true, true, true, true, true, true] rfl rfl (any_of HT_.out (by kernel_rfl)) (fun _ _ _ h => h) (Or.inl ⟨by rfl, ?_⟩) ?_ ?_; rotate_left
               ·intro w'; go_simp; with_reducible rfl
               rotate_left
               ·simp only [Act.put, Sa, Sb, Sc, i64_w, i32_w]; rfl
               refine done_ (done_of HT_.out (by kernel_rfl)) ?_; try go_wp2
               have n0_ := Aa (Kd.R_drew HO_6.out); have n1_ := Aa (Kw BK123.out); have n2_ := Aa (Dn HB.out); clear HO_6; clear BK123; clear HB; have HO_6 := n0_; have BK123 := n1_; have HB := n2_; clear n0_ n1_ n2_; have p134 : 0 ≤ (((rd_T82 l1 x9_2).f1) : Int) := Od (by first | (with_reducible assumption) | assumption); have q134 : ((rd_T82 l1 x9_2).f1) < (x6_2.length : Int) := Od (by first | (with_reducible assumption) | assumption); obtain ⟨ad134, e134, hx134_0⟩ := Kd.at_int (Kd.R_reads' HO_6.out).2.2 ((rd_T82 l1 x9_2).f1) p134 q134
               obtain rfl : ad124 = ad134 := (by injection e134)
               replace p134 := eq_true p134; replace q134 := eq_true q134; have p39 : 0 ≤ (((rd_T82 l1 x9_2).f0) : Int) := Od (by first | (with_reducible assumption) | assumption); have q39 : (((rd_T82 l1 x9_2).f0) : Int) < ((x6_2.length : Int) : Int) := Od (by first | (with_reducible assumption) | assumption); obtain ⟨go39, co39, eo39, gb39, gl39, cl39, HG39⟩ := Kd.R_form HO_6.out (by omega)
               (first | cases eo39 | (injection eo39 with ea_ en_ ec_; (first | subst ea_ | (injection ea_ with ea_; subst ea_)); subst ec_; clear en_))
               have GB39 := Aa gb39; have GG39 := Aa HG39; clear gb39 gl39 HG39
               (first | simp only [add_plain] at hx124_0 | skip)
               (first | simp only [add_plain] at hx125_0 | skip)
               (first | simp only [add_plain] at hx132_0 | skip)
               (first | simp only [add_plain] at hx133_0 | skip)
               (first | simp only [add_plain] at hx134_0 | skip)
               obtain ⟨hx39_0, hf39_0⟩ := Kd.R_celln 0 HO_6.out (((rd_T82 l1 x9_2).f0) : Int) p39 q39; replace p39 := eq_true p39; replace q39 := eq_true q39; have HP47 := Kd.R_putn HO_6.out (((rd_T82 l1 x9_2).f0) : Int) (wrap64 ((rd x6_2 ((rd_T82 l1 x9_2).f1)) - ((rd_T82 l1 x9_2).f3))); rw [← Ny135.out] at HP47; have HQ47 := Aa HP47; clear HP47; refine start_ (n := 13) (S := fun w' => w'.cell? ⟨gb123, 0, none⟩ = some (.int .i64 ((rd_T82 l1 x9_2).f0)) ∧ w'.cell? ⟨gb123, 1, none⟩ = some (.int .i64 ((rd_T82 l1 x9_2).f1)) ∧ w'.cell? ⟨gb123, 2, none⟩ = some (.int .i64 ((rd_T82 l1 x9_2).f2)) ∧ w'.cell? ⟨gb123, 3, none⟩ = some (.int .i64 ((rd_T82 l1 x9_2).f3)) ∧ w'.cell? ⟨go39, (((rd_T82 l1 x9_2).f1)).toNat, none⟩ = some (.int .i64 (rd x6_2 ((rd_T82 l1 x9_2).f1)))) (ds := [12]) #[false, false, false, false, false, false, false, false, false, false, false, false, false] (by kernel_rfl) rfl rfl ⟨(Bc BK123.out 0).trans rfl, (Bc BK123.out 1).trans rfl, (Bc BK123.out 2).trans rfl, (Bc BK123.out 3).trans rfl, hx134_0⟩ (fun hHeld => ?_); refine with_tabW rf_least.tab14 rf_least.bits14 (fun HT_ HW_ => ?_); generalize w45.drew = w46 at HO_6 BK123 HB GG39 HQ47 hf39_0 hx124_0 hx125_0 hx132_0 hx133_0 hx134_0 hx39_0 hHeld ⊢; refine pure_ (i := 0) (N := some 70) (v := ?_) (a' := ?_) #[true, false, false, false, false, false, false, false, false, false, false, false, false] rfl rfl (any_of HT_.out (by kernel_rfl)) (fun _ _ _ h => h) (Or.inl ⟨by rfl, ?_⟩) ?_ ?_; rotate_left
               ·intro w'; go_simp; with_reducible rfl
               rotate_left
               ·simp only [Act.put, Sa, Sb, Sc, i64_w, i32_w]; rfl
               refine pure_ (i := 1) (N := some 71) (v := ?_) (a' := ?_) #[true, true, false, false, false, false, false, false, false, false, false, false, false] rfl rfl (any_of HT_.out (by kernel_rfl)) (fun _ _ _ h => h) (Or.inl ⟨by rfl, ?_⟩) ?_ ?_; rotate_left
               ·intro w'; go_simp; with_reducible rfl
               rotate_left
               ·simp only [Act.put, Sa, Sb, Sc, i64_w, i32_w]; rfl
               refine pure_ (i := 3) (N := some 73) (v := ?_) (a' := ?_) #[true, true, false, true, false, false, false, false, false, false, false, false, false] rfl rfl (any_of HT_.out (by kernel_rfl)) (fun _ _ _ h => h) (Or.inl ⟨by rfl, ?_⟩) ?_ ?_; rotate_left
               ·intro w'; go_simp; with_reducible rfl
               rotate_left
               ·simp only [Act.put, Sa, Sb, Sc, i64_w, i32_w]; rfl
               refine pure_ (i := 4) (N := some 74) (v := ?_) (a' := ?_) #[true, true, false, true, true, false, false, false, false, false, false, false, false] rfl rfl (any_of HT_.out (by kernel_rfl)) (fun _ _ _ h => h) (Or.inl ⟨by rfl, ?_⟩) ?_ ?_; rotate_left
               ·intro w'; go_simp; with_reducible rfl
               rotate_left
               ·simp only [Act.put, Sa, Sb, Sc, i64_w, i32_w]; rfl
               refine pure_ (i := 8) (N := some 78) (v := ?_) (a' := ?_) #[true, true, false, true, true, false, false, false, true, false, false, false, false] rfl rfl (any_of HT_.out (by kernel_rfl)) (fun _ _ _ h => h) (Or.inl ⟨by rfl, ?_⟩) ?_ ?_; rotate_left
               ·intro w'; go_simp; with_reducible rfl
               rotate_left
               ·simp only [Act.put, Sa, Sb, Sc, i64_w, i32_w]; rfl
               refine take_ (i := 2) (N := some 72) (v := ?_) (a' := ?_) #[true, true, true, true, true, false, false, false, true, false, false, false, false] rfl rfl (take_ofW HT_.out HW_.out (by kernel_rfl)) (fun _ _ _ h => h) (Or.inl ⟨by rfl, ?_⟩) hHeld ?_ ?_; rotate_left
               ·rintro w' ⟨s0, s1, s2, s3, s4⟩; go_simp; with_reducible rfl
               rotate_left
               ·simp only [Act.put, Sa, Sb, Sc, i64_w, i32_w]; rfl
               refine take_ (i := 5) (N := some 75) (v := ?_) (a' := ?_) #[true, true, true, true, true, true, false, false, true, false, false, false, false] rfl rfl (take_ofW HT_.out HW_.out (by kernel_rfl)) (fun _ _ _ h => h) (Or.inl ⟨by rfl, ?_⟩) hHeld ?_ ?_; rotate_left
               ·rintro w' ⟨s0, s1, s2, s3, s4⟩; go_simp; with_reducible rfl
               rotate_left
               ·simp only [Act.put, Sa, Sb, Sc, i64_w, i32_w]; rfl
               refine pure_ (i := 6) (N := some 76) (v := ?_) (a' := ?_) #[true, true, true, true, true, true, true, false, true, false, false, false, false] rfl rfl (any_of HT_.out (by kernel_rfl)) (fun _ _ _ h => h) (Or.inl ⟨by rfl, ?_⟩) ?_ ?_; rotate_left
               ·intro w'; go_simp; with_reducible rfl
               rotate_left
               ·simp only [Act.put, Sa, Sb, Sc, i64_w, i32_w]; rfl
               refine take_ (i := 7) (N := some 77) (v := ?_) (a' := ?_) #[true, true, true, true, true, true, true, true, true, false, false, false, false] rfl rfl (take_ofW HT_.out HW_.out (by kernel_rfl)) (fun _ _ _ h => h) (Or.inl ⟨by rfl, ?_⟩) hHeld ?_ ?_; rotate_left
               ·rintro w' ⟨s0, s1, s2, s3, s4⟩; go_simp; with_reducible rfl
               rotate_left
               ·simp only [Act.put, Sa, Sb, Sc, i64_w, i32_w]; rfl
               refine take_ (i := 9) (N := some 79) (v := ?_) (a' := ?_) #[true, true, true, true, true, true, true, true, true, true, false, false, false] rfl rfl (take_ofW HT_.out HW_.out (by kernel_rfl)) (fun _ _ _ h => h) (Or.inl ⟨by rfl, ?_⟩) hHeld ?_ ?_; rotate_left
               ·rintro w' ⟨s0, s1, s2, s3, s4⟩; go_simp; with_reducible rfl
               rotate_left
               ·simp only [Act.put, Sa, Sb, Sc, i64_w, i32_w]; rfl
               refine pure_ (i := 10) (N := some 80) (v := ?_) (a' := ?_) #[true, true, true, true, true, true, true, true, true, true, true, false, false] rfl rfl (any_of HT_.out (by kernel_rfl)) (fun _ _ _ h => h) (Or.inl ⟨by rfl, ?_⟩) ?_ ?_; rotate_left
               ·intro w'; go_simp; with_reducible rfl
               rotate_left
               ·simp only [Act.put, Sa, Sb, Sc, i64_w, i32_w]; rfl
               refine pure_ (i := 11) (N := some 81) (v := ?_) (a' := ?_) #[true, true, true, true, true, true, true, true, true, true, true, true, false] rfl rfl (any_of HT_.out (by kernel_rfl)) (fun _ _ _ h => h) (Or.inl ⟨by rfl, ?_⟩) ?_ ?_; rotate_left
               ·intro w'; go_simp; with_reducible rfl
               rotate_left
               ·simp only [Act.put, Sa, Sb, Sc, i64_w, i32_w]; rfl
               refine last_ (i := 12) (N := none) #[true, true, true, true, true, true, true, true, true, true, true, true, true] rfl rfl (one_of HT_.out (by kernel_rfl)) (by decide) (fun K hK => ?_); refine skip_ (w1 := ?_) (by rfl) rfl ?_ ?_; rotate_left
               ·go_simp; rfl
               refine hK.out _ _ ?_; clear hK K; refine done_ (done_of HT_.out (by kernel_rfl)) ?_; try go_wp2
               go_roundg k2
               case measure => have := HK1.out; have := HK2.out; omega
               case rel => exact ⟨(y135), (true), (wrap64 (x9_2 + 1)), (by first | rfl | (simp; done) | (simp [*]; done)), (by first | rfl | (simp; done) | (simp [*]; done)), H', ⟨by have := HK1.out; have := HK2.out; omega⟩, ⟨by (with_reducible repeat (first | apply Kd.R_alloc | apply Kd.R_drewN | apply Kd.R_drew)); exact HQ47.out⟩, ⟨by repeat (first | (with_reducible first | exact HB.out | apply Ba | apply Pn | apply Dn | refine Bz ?_ GB39.out | refine Bz ?_ GE123.out) | exact HB.out)⟩⟩
              ·rw [if_neg c38] at H; have c38b0 : decide ((rd x6_2 ((rd_T82 l1 x9_2).f0)) < (wrap64 ((rd x6_2 ((rd_T82 l1 x9_2).f1)) - ((rd_T82 l1 x9_2).f3)))) = false := decide_eq_false c38; clear c38; have H' := Aa H; clear H; have p122 : 0 ≤ (x9_2 : Int) := Od (by first | (with_reducible assumption) | assumption); have q122 : x9_2 < (l1.length : Int) := Od (by first | (with_reducible assumption) | assumption); obtain ⟨ad122, e122, hx122_0, hx122_1, hx122_2, hx122_3⟩ := at_T82 HR1.out x9_2 p122 q122; cases e122; replace hx122_0 := (HB.out.cell (Wb w _ hx122_0)).trans hx122_0; replace hx122_1 := (HB.out.cell (Wb w _ hx122_1)).trans hx122_1; replace hx122_2 := (HB.out.cell (Wb w _ hx122_2)).trans hx122_2; replace hx122_3 := (HB.out.cell (Wb w _ hx122_3)).trans hx122_3; replace p122 := eq_true p122; replace q122 := eq_true q122; try go_wp2_with (first | ((with_reducible refine gate_dst (N := 10) rfl ?_); refine box_event ?hg (N := 10) ?hd (cs := #[.int .i64 0, .int .i64 0, .int .i64 0, .int .i64 0]) (t := 82) ?hr ?_; (case hd => rfl); (case hg => rfl); (case hr => first | (go_simp; done) | (go_simp; rfl)); intro gb123 hg w48 hbox hb; have n0_ := Aa (Kd.R_below (by (with_reducible repeat (first | apply Kd.R_alloc | apply Kd.R_drewN | apply Kd.R_drew)); exact HO_6.out) hb); have n1_ := Aa (Bp (by repeat (first | (with_reducible first | exact HB.out | apply Ba | apply Pn | apply Dn) | exact HB.out)) hb); have n2_ := Aa (hbox); have n3_ := Aa ((by rw [hg]; exact (below_size (by repeat (first | (with_reducible first | exact HB.out | apply Ba | apply Pn | apply Dn) | exact HB.out))) : w.heap.size ≤ gb123)); have n4_ := Aa ((by rw [hg]; exact (below_size (by repeat (first | (with_reducible first | exact HB.out | apply Ba | apply Pn | apply Dn) | exact HB.out))) : w.heap.size ≤ gb123)); clear HO_6; clear HB; have HO_6 := n0_; have HB := n1_; have BK123 := n2_; have GW123 := n3_; have GE123 := n4_; clear n0_ n1_ n2_ n3_ n4_; clear hb hbox hg; have hcz49_0 : w48.cell? ⟨gb123, 0, none⟩ = some (.int .i64 0) := (Bc BK123.out 0).trans rfl; have hcz49_1 : w48.cell? ⟨gb123, 1, none⟩ = some (.int .i64 0) := (Bc BK123.out 1).trans rfl; have hcz49_2 : w48.cell? ⟨gb123, 2, none⟩ = some (.int .i64 0) := (Bc BK123.out 2).trans rfl; have hcz49_3 : w48.cell? ⟨gb123, 3, none⟩ = some (.int .i64 0) := (Bc BK123.out 3).trans rfl; have hfz49_0 := Bf BK123.out 0; have hfz49_1 := Bf BK123.out 1; have hfz49_2 := Bf BK123.out 2; have hfz49_3 := Bf BK123.out 3))
               have n0_ : Aside0 (Kd.R (Kd.int .i64) 3 ((((w48.setCell ⟨gb123, 0, none⟩ (.int .i64 ((rd_T82 l1 x9_2).f0))).setCell ⟨gb123, 1, none⟩ (.int .i64 ((rd_T82 l1 x9_2).f1))).setCell ⟨gb123, 2, none⟩ (.int .i64 ((rd_T82 l1 x9_2).f2))).setCell ⟨gb123, 3, none⟩ (.int .i64 ((rd_T82 l1 x9_2).f3))) w.heap.size (fun _ => True) v120 x6_2) := ⟨by (with_reducible repeat (first | apply Kd.R_alloc | apply Kd.R_drewN | apply Kd.R_drew)); exact Kd.R_mono (Kd.R_far (p := ⟨gb123, 3, none⟩) (Kd.R_far (p := ⟨gb123, 2, none⟩) (Kd.R_far (p := ⟨gb123, 1, none⟩) (Kd.R_far (p := ⟨gb123, 0, none⟩) (Kd.R_types HO_6.out BK123.out (by decide)) (fun _ hk => hk.2) (.int .i64 ((rd_T82 l1 x9_2).f0))) (fun _ hk => hk.2) (.int .i64 ((rd_T82 l1 x9_2).f1))) (fun _ hk => hk.2) (.int .i64 ((rd_T82 l1 x9_2).f2))) (fun _ hk => hk.2) (.int .i64 ((rd_T82 l1 x9_2).f3))) (fun _ hk => trivial)⟩
               have n1_ : Aside0 (((((w48.setCell ⟨gb123, 0, none⟩ (.int .i64 ((rd_T82 l1 x9_2).f0))).setCell ⟨gb123, 1, none⟩ (.int .i64 ((rd_T82 l1 x9_2).f1))).setCell ⟨gb123, 2, none⟩ (.int .i64 ((rd_T82 l1 x9_2).f2))).setCell ⟨gb123, 3, none⟩ (.int .i64 ((rd_T82 l1 x9_2).f3))).heap[gb123]? = some (.cells #[.int .i64 ((rd_T82 l1 x9_2).f0), .int .i64 ((rd_T82 l1 x9_2).f1), .int .i64 ((rd_T82 l1 x9_2).f2), .int .i64 ((rd_T82 l1 x9_2).f3)] 82 (0, 0))) := ⟨by (with_reducible repeat (first | refine Kn ?_ _ | refine Kw ?_ | refine Ka ?_ _)); refine blk_put (cs := #[.int .i64 ((rd_T82 l1 x9_2).f0), .int .i64 ((rd_T82 l1 x9_2).f1), .int .i64 ((rd_T82 l1 x9_2).f2), .int .i64 0]) ?_ 3 _ rfl; (with_reducible repeat (first | refine Kn ?_ _ | refine Kw ?_ | refine Ka ?_ _)); refine blk_put (cs := #[.int .i64 ((rd_T82 l1 x9_2).f0), .int .i64 ((rd_T82 l1 x9_2).f1), .int .i64 0, .int .i64 0]) ?_ 2 _ rfl; (with_reducible repeat (first | refine Kn ?_ _ | refine Kw ?_ | refine Ka ?_ _)); refine blk_put (cs := #[.int .i64 ((rd_T82 l1 x9_2).f0), .int .i64 0, .int .i64 0, .int .i64 0]) ?_ 1 _ rfl; (with_reducible repeat (first | refine Kn ?_ _ | refine Kw ?_ | refine Ka ?_ _)); refine blk_put (cs := #[.int .i64 0, .int .i64 0, .int .i64 0, .int .i64 0]) ?_ 0 _ rfl; (with_reducible repeat (first | refine Kn ?_ _ | refine Kw ?_ | refine Ka ?_ _)); exact BK123.out⟩
               have n2_ : Aside0 (Below w.heap.size w ((((w48.setCell ⟨gb123, 0, none⟩ (.int .i64 ((rd_T82 l1 x9_2).f0))).setCell ⟨gb123, 1, none⟩ (.int .i64 ((rd_T82 l1 x9_2).f1))).setCell ⟨gb123, 2, none⟩ (.int .i64 ((rd_T82 l1 x9_2).f2))).setCell ⟨gb123, 3, none⟩ (.int .i64 ((rd_T82 l1 x9_2).f3)))) := ⟨by repeat (first | (with_reducible first | exact HB.out | apply Ba | apply Pn | apply Dn | refine Bz ?_ GE123.out) | exact HB.out)⟩
               (try clear HO_6)
               (try clear BK123)
               (try clear HB)
               generalize ((((w48.setCell ⟨gb123, 0, none⟩ (.int .i64 ((rd_T82 l1 x9_2).f0))).setCell ⟨gb123, 1, none⟩ (.int .i64 ((rd_T82 l1 x9_2).f1))).setCell ⟨gb123, 2, none⟩ (.int .i64 ((rd_T82 l1 x9_2).f2))).setCell ⟨gb123, 3, none⟩ (.int .i64 ((rd_T82 l1 x9_2).f3))) = w50 at n0_ n1_ n2_ ⊢; have HO_6 := n0_; have BK123 := n1_; have HB := n2_; clear n0_ n1_ n2_; have n0_ := Aa (Kd.R_drew HO_6.out); have n1_ := Aa (Kw BK123.out); have n2_ := Aa (Dn HB.out); clear HO_6; clear BK123; clear HB; have HO_6 := n0_; have BK123 := n1_; have HB := n2_; clear n0_ n1_ n2_; obtain ⟨Ao52, co52, eo52⟩ := Kd.R_slice HO_6.out
               (first | subst eo52 | (injection eo52 with f1_ f2_ f3_; have f4_ := f1_.symm; have f5_ := f3_.symm; clear f1_ f2_ f3_; subst f4_; subst f5_))
               have p124 : 0 ≤ (((rd_T82 l1 x9_2).f1) : Int) := Od (by first | (with_reducible assumption) | assumption); have q124 : ((rd_T82 l1 x9_2).f1) < (x6_2.length : Int) := Od (by first | (with_reducible assumption) | assumption); obtain ⟨ad124, e124, hx124_0⟩ := Kd.at_int (Kd.R_reads' HO_6.out).2.2 ((rd_T82 l1 x9_2).f1) p124 q124; cases e124; replace p124 := eq_true p124; replace q124 := eq_true q124; have p125 : 0 ≤ (((rd_T82 l1 x9_2).f0) : Int) := Od (by first | (with_reducible assumption) | assumption); have q125 : ((rd_T82 l1 x9_2).f0) < (x6_2.length : Int) := Od (by first | (with_reducible assumption) | assumption); obtain ⟨ad125, e125, hx125_0⟩ := Kd.at_int (Kd.R_reads' HO_6.out).2.2 ((rd_T82 l1 x9_2).f0) p125 q125
               obtain rfl : ad124 = ad125 := (by injection e125)
               replace p125 := eq_true p125; replace q125 := eq_true q125; refine start_ (n := 14) (S := fun w' => w'.cell? ⟨gb123, 0, none⟩ = some (.int .i64 ((rd_T82 l1 x9_2).f0)) ∧ w'.cell? ⟨gb123, 1, none⟩ = some (.int .i64 ((rd_T82 l1 x9_2).f1)) ∧ w'.cell? ⟨gb123, 2, none⟩ = some (.int .i64 ((rd_T82 l1 x9_2).f2)) ∧ w'.cell? ⟨gb123, 3, none⟩ = some (.int .i64 ((rd_T82 l1 x9_2).f3)) ∧ w'.cell? (ad124.add (((rd_T82 l1 x9_2).f1)).toNat) = some (.int .i64 (rd x6_2 ((rd_T82 l1 x9_2).f1))) ∧ w'.cell? (ad124.add (((rd_T82 l1 x9_2).f0)).toNat) = some (.int .i64 (rd x6_2 ((rd_T82 l1 x9_2).f0)))) (ds := []) #[false, false, false, false, false, false, false, false, false, false, false, false, false, false] (by kernel_rfl) rfl rfl ⟨(Bc BK123.out 0).trans rfl, (Bc BK123.out 1).trans rfl, (Bc BK123.out 2).trans rfl, (Bc BK123.out 3).trans rfl, hx124_0, hx125_0⟩ (fun hHeld => ?_); refine with_tabW rf_least.tab10 rf_least.bits10 (fun HT_ HW_ => ?_); generalize w50.drew = w51 at HO_6 BK123 HB hx124_0 hx125_0 hHeld ⊢; refine pure_ (i := 0) (N := some 30) (v := ?_) (a' := ?_) #[true, false, false, false, false, false, false, false, false, false, false, false, false, false] rfl rfl (any_of HT_.out (by kernel_rfl)) (fun _ _ _ h => h) (Or.inl ⟨by rfl, ?_⟩) ?_ ?_; rotate_left
               ·intro w'; go_simp; with_reducible rfl
               rotate_left
               ·simp only [Act.put, Sa, Sb, Sc, i64_w, i32_w]; rfl
               refine pure_ (i := 1) (N := some 31) (v := ?_) (a' := ?_) #[true, true, false, false, false, false, false, false, false, false, false, false, false, false] rfl rfl (any_of HT_.out (by kernel_rfl)) (fun _ _ _ h => h) (Or.inl ⟨by rfl, ?_⟩) ?_ ?_; rotate_left
               ·intro w'; go_simp; with_reducible rfl
               rotate_left
               ·simp only [Act.put, Sa, Sb, Sc, i64_w, i32_w]; rfl
               refine pure_ (i := 5) (N := some 35) (v := ?_) (a' := ?_) #[true, true, false, false, false, true, false, false, false, false, false, false, false, false] rfl rfl (any_of HT_.out (by kernel_rfl)) (fun _ _ _ h => h) (Or.inl ⟨by rfl, ?_⟩) ?_ ?_; rotate_left
               ·intro w'; go_simp; with_reducible rfl
               rotate_left
               ·simp only [Act.put, Sa, Sb, Sc, i64_w, i32_w]; rfl
               refine pure_ (i := 6) (N := some 36) (v := ?_) (a' := ?_) #[true, true, false, false, false, true, true, false, false, false, false, false, false, false] rfl rfl (any_of HT_.out (by kernel_rfl)) (fun _ _ _ h => h) (Or.inl ⟨by rfl, ?_⟩) ?_ ?_; rotate_left
               ·intro w'; go_simp; with_reducible rfl
               rotate_left
               ·simp only [Act.put, Sa, Sb, Sc, i64_w, i32_w]; rfl
               refine pure_ (i := 10) (N := some 40) (v := ?_) (a' := ?_) #[true, true, false, false, false, true, true, false, false, false, true, false, false, false] rfl rfl (any_of HT_.out (by kernel_rfl)) (fun _ _ _ h => h) (Or.inl ⟨by rfl, ?_⟩) ?_ ?_; rotate_left
               ·intro w'; go_simp; with_reducible rfl
               rotate_left
               ·simp only [Act.put, Sa, Sb, Sc, i64_w, i32_w]; rfl
               refine take_ (i := 2) (N := some 32) (v := ?_) (a' := ?_) #[true, true, true, false, false, true, true, false, false, false, true, false, false, false] rfl rfl (take_ofW HT_.out HW_.out (by kernel_rfl)) (fun _ _ _ h => h) (Or.inl ⟨by rfl, ?_⟩) hHeld ?_ ?_; rotate_left
               ·rintro w' ⟨s0, s1, s2, s3, s4, s5⟩; go_simp; with_reducible rfl
               rotate_left
               ·simp only [Act.put, Sa, Sb, Sc, i64_w, i32_w]; rfl
               refine pure_ (i := 3) (N := some 33) (v := ?_) (a' := ?_) #[true, true, true, true, false, true, true, false, false, false, true, false, false, false] rfl rfl (any_of HT_.out (by kernel_rfl)) (fun _ _ _ h => h) (Or.inl ⟨by rfl, ?_⟩) ?_ ?_; rotate_left
               ·intro w'; go_simp; with_reducible rfl
               rotate_left
               ·simp only [Act.put, Sa, Sb, Sc, i64_w, i32_w]; rfl
               refine take_ (i := 4) (N := some 34) (v := ?_) (a' := ?_) #[true, true, true, true, true, true, true, false, false, false, true, false, false, false] rfl rfl (take_ofW HT_.out HW_.out (by kernel_rfl)) (fun _ _ _ h => h) (Or.inl ⟨by rfl, ?_⟩) hHeld ?_ ?_; rotate_left
               ·rintro w' ⟨s0, s1, s2, s3, s4, s5⟩; go_simp; with_reducible rfl
               rotate_left
               ·simp only [Act.put, Sa, Sb, Sc, i64_w, i32_w]; rfl
               refine take_ (i := 7) (N := some 37) (v := ?_) (a' := ?_) #[true, true, true, true, true, true, true, true, false, false, true, false, false, false] rfl rfl (take_ofW HT_.out HW_.out (by kernel_rfl)) (fun _ _ _ h => h) (Or.inl ⟨by rfl, ?_⟩) hHeld ?_ ?_; rotate_left
               ·rintro w' ⟨s0, s1, s2, s3, s4, s5⟩; go_simp; with_reducible rfl
               rotate_left
               ·simp only [Act.put, Sa, Sb, Sc, i64_w, i32_w]; rfl
               refine pure_ (i := 8) (N := some 38) (v := ?_) (a' := ?_) #[true, true, true, true, true, true, true, true, true, false, true, false, false, false] rfl rfl (any_of HT_.out (by kernel_rfl)) (fun _ _ _ h => h) (Or.inl ⟨by rfl, ?_⟩) ?_ ?_; rotate_left
               ·intro w'; go_simp; with_reducible rfl
               rotate_left
               ·simp only [Act.put, Sa, Sb, Sc, i64_w, i32_w]; rfl
               refine take_ (i := 9) (N := some 39) (v := ?_) (a' := ?_) #[true, true, true, true, true, true, true, true, true, true, true, false, false, false] rfl rfl (take_ofW HT_.out HW_.out (by kernel_rfl)) (fun _ _ _ h => h) (Or.inl ⟨by rfl, ?_⟩) hHeld ?_ ?_; rotate_left
               ·rintro w' ⟨s0, s1, s2, s3, s4, s5⟩; go_simp; with_reducible rfl
               rotate_left
               ·simp only [Act.put, Sa, Sb, Sc, i64_w, i32_w]; rfl
               refine take_ (i := 11) (N := some 41) (v := ?_) (a' := ?_) #[true, true, true, true, true, true, true, true, true, true, true, true, false, false] rfl rfl (take_ofW HT_.out HW_.out (by kernel_rfl)) (fun _ _ _ h => h) (Or.inl ⟨by rfl, ?_⟩) hHeld ?_ ?_; rotate_left
               ·rintro w' ⟨s0, s1, s2, s3, s4, s5⟩; go_simp; with_reducible rfl
               rotate_left
               ·simp only [Act.put, Sa, Sb, Sc, i64_w, i32_w]; rfl
               refine pure_ (i := 12) (N := some 42) (v := ?_) (a' := ?_) #[true, true, true, true, true, true, true, true, true, true, true, true, true, false] rfl rfl (any_of HT_.out (by kernel_rfl)) (fun _ _ _ h => h) (Or.inl ⟨by rfl, ?_⟩) ?_ ?_; rotate_left
               ·intro w'; go_simp; with_reducible rfl
               rotate_left
               ·simp only [Act.put, Sa, Sb, Sc, i64_w, i32_w]; rfl
               refine pure_ (i := 13) (N := some 43) (v := ?_) (a' := ?_) #[true, true, true, true, true, true, true, true, true, true, true, true, true, true] rfl rfl (any_of HT_.out (by kernel_rfl)) (fun _ _ _ h => h) (Or.inl ⟨by rfl, ?_⟩) ?_ ?_; rotate_left
               ·intro w'; go_simp; with_reducible rfl
               rotate_left
               ·simp only [Act.put, Sa, Sb, Sc, i64_w, i32_w]; rfl
               refine done_ (done_of HT_.out (by kernel_rfl)) ?_; try go_wp2
               have n0_ := Aa (Kd.R_drew HO_6.out); have n1_ := Aa (Kw BK123.out); have n2_ := Aa (Dn HB.out); clear HO_6; clear BK123; clear HB; have HO_6 := n0_; have BK123 := n1_; have HB := n2_; clear n0_ n1_ n2_; have p132 : 0 ≤ (((rd_T82 l1 x9_2).f0) : Int) := Od (by first | (with_reducible assumption) | assumption); have q132 : ((rd_T82 l1 x9_2).f0) < (x6_2.length : Int) := Od (by first | (with_reducible assumption) | assumption); obtain ⟨ad132, e132, hx132_0⟩ := Kd.at_int (Kd.R_reads' HO_6.out).2.2 ((rd_T82 l1 x9_2).f0) p132 q132
               obtain rfl : ad124 = ad132 := (by injection e132)
               replace p132 := eq_true p132; replace q132 := eq_true q132; have p133 : 0 ≤ (((rd_T82 l1 x9_2).f1) : Int) := Od (by first | (with_reducible assumption) | assumption); have q133 : ((rd_T82 l1 x9_2).f1) < (x6_2.length : Int) := Od (by first | (with_reducible assumption) | assumption); obtain ⟨ad133, e133, hx133_0⟩ := Kd.at_int (Kd.R_reads' HO_6.out).2.2 ((rd_T82 l1 x9_2).f1) p133 q133
               obtain rfl : ad124 = ad133 := (by injection e133)
               replace p133 := eq_true p133; replace q133 := eq_true q133; refine start_ (n := 14) (S := fun w' => w'.cell? ⟨gb123, 0, none⟩ = some (.int .i64 ((rd_T82 l1 x9_2).f0)) ∧ w'.cell? ⟨gb123, 1, none⟩ = some (.int .i64 ((rd_T82 l1 x9_2).f1)) ∧ w'.cell? ⟨gb123, 2, none⟩ = some (.int .i64 ((rd_T82 l1 x9_2).f2)) ∧ w'.cell? ⟨gb123, 3, none⟩ = some (.int .i64 ((rd_T82 l1 x9_2).f3)) ∧ w'.cell? (ad124.add (((rd_T82 l1 x9_2).f0)).toNat) = some (.int .i64 (rd x6_2 ((rd_T82 l1 x9_2).f0))) ∧ w'.cell? (ad124.add (((rd_T82 l1 x9_2).f1)).toNat) = some (.int .i64 (rd x6_2 ((rd_T82 l1 x9_2).f1)))) (ds := []) #[false, false, false, false, false, false, false, false, false, false, false, false, false, false] (by kernel_rfl) rfl rfl ⟨(Bc BK123.out 0).trans rfl, (Bc BK123.out 1).trans rfl, (Bc BK123.out 2).trans rfl, (Bc BK123.out 3).trans rfl, hx132_0, hx133_0⟩ (fun hHeld => ?_); refine with_tabW rf_least.tab13 rf_least.bits13 (fun HT_ HW_ => ?_); generalize w51.drew = w53 at HO_6 BK123 HB hx132_0 hx133_0 hHeld ⊢; refine pure_ (i := 0) (N := some 56) (v := ?_) (a' := ?_) #[true, false, false, false, false, false, false, false, false, false, false, false, false, false] rfl rfl (any_of HT_.out (by kernel_rfl)) (fun _ _ _ h => h) (Or.inl ⟨by rfl, ?_⟩) ?_ ?_; rotate_left
               ·intro w'; go_simp; with_reducible rfl
               rotate_left
               ·simp only [Act.put, Sa, Sb, Sc, i64_w, i32_w]; rfl
               refine pure_ (i := 1) (N := some 57) (v := ?_) (a' := ?_) #[true, true, false, false, false, false, false, false, false, false, false, false, false, false] rfl rfl (any_of HT_.out (by kernel_rfl)) (fun _ _ _ h => h) (Or.inl ⟨by rfl, ?_⟩) ?_ ?_; rotate_left
               ·intro w'; go_simp; with_reducible rfl
               rotate_left
               ·simp only [Act.put, Sa, Sb, Sc, i64_w, i32_w]; rfl
               refine pure_ (i := 5) (N := some 61) (v := ?_) (a' := ?_) #[true, true, false, false, false, true, false, false, false, false, false, false, false, false] rfl rfl (any_of HT_.out (by kernel_rfl)) (fun _ _ _ h => h) (Or.inl ⟨by rfl, ?_⟩) ?_ ?_; rotate_left
               ·intro w'; go_simp; with_reducible rfl
               rotate_left
               ·simp only [Act.put, Sa, Sb, Sc, i64_w, i32_w]; rfl
               refine pure_ (i := 6) (N := some 62) (v := ?_) (a' := ?_) #[true, true, false, false, false, true, true, false, false, false, false, false, false, false] rfl rfl (any_of HT_.out (by kernel_rfl)) (fun _ _ _ h => h) (Or.inl ⟨by rfl, ?_⟩) ?_ ?_; rotate_left
               ·intro w'; go_simp; with_reducible rfl
               rotate_left
               ·simp only [Act.put, Sa, Sb, Sc, i64_w, i32_w]; rfl
               refine pure_ (i := 10) (N := some 66) (v := ?_) (a' := ?_) #[true, true, false, false, false, true, true, false, false, false, true, false, false, false] rfl rfl (any_of HT_.out (by kernel_rfl)) (fun _ _ _ h => h) (Or.inl ⟨by rfl, ?_⟩) ?_ ?_; rotate_left
               ·intro w'; go_simp; with_reducible rfl
               rotate_left
               ·simp only [Act.put, Sa, Sb, Sc, i64_w, i32_w]; rfl
               refine take_ (i := 2) (N := some 58) (v := ?_) (a' := ?_) #[true, true, true, false, false, true, true, false, false, false, true, false, false, false] rfl rfl (take_ofW HT_.out HW_.out (by kernel_rfl)) (fun _ _ _ h => h) (Or.inl ⟨by rfl, ?_⟩) hHeld ?_ ?_; rotate_left
               ·rintro w' ⟨s0, s1, s2, s3, s4, s5⟩; go_simp; with_reducible rfl
               rotate_left
               ·simp only [Act.put, Sa, Sb, Sc, i64_w, i32_w]; rfl
               refine pure_ (i := 3) (N := some 59) (v := ?_) (a' := ?_) #[true, true, true, true, false, true, true, false, false, false, true, false, false, false] rfl rfl (any_of HT_.out (by kernel_rfl)) (fun _ _ _ h => h) (Or.inl ⟨by rfl, ?_⟩) ?_ ?_; rotate_left
               ·intro w'; go_simp; with_reducible rfl
               rotate_left
               ·simp only [Act.put, Sa, Sb, Sc, i64_w, i32_w]; rfl
               refine take_ (i := 4) (N := some 60) (v := ?_) (a' := ?_) #[true, true, true, true, true, true, true, false, false, false, true, false, false, false] rfl rfl (take_ofW HT_.out HW_.out (by kernel_rfl)) (fun _ _ _ h => h) (Or.inl ⟨by rfl, ?_⟩) hHeld ?_ ?_; rotate_left
               ·rintro w' ⟨s0, s1, s2, s3, s4, s5⟩; go_simp; with_reducible rfl
               rotate_left
               ·simp only [Act.put, Sa, Sb, Sc, i64_w, i32_w]; rfl
               refine take_ (i := 7) (N := some 63) (v := ?_) (a' := ?_) #[true, true, true, true, true, true, true, true, false, false, true, false, false, false] rfl rfl (take_ofW HT_.out HW_.out (by kernel_rfl)) (fun _ _ _ h => h) (Or.inl ⟨by rfl, ?_⟩) hHeld ?_ ?_; rotate_left
               ·rintro w' ⟨s0, s1, s2, s3, s4, s5⟩; go_simp; with_reducible rfl
               rotate_left
               ·simp only [Act.put, Sa, Sb, Sc, i64_w, i32_w]; rfl
               refine pure_ (i := 8) (N := some 64) (v := ?_) (a' := ?_) #[true, true, true, true, true, true, true, true, true, false, true, false, false, false] rfl rfl (any_of HT_.out (by kernel_rfl)) (fun _ _ _ h => h) (Or.inl ⟨by rfl, ?_⟩) ?_ ?_; rotate_left
               ·intro w'; go_simp; with_reducible rfl
               rotate_left
               ·simp only [Act.put, Sa, Sb, Sc, i64_w, i32_w]; rfl
               refine take_ (i := 9) (N := some 65) (v := ?_) (a' := ?_) #[true, true, true, true, true, true, true, true, true, true, true, false, false, false] rfl rfl (take_ofW HT_.out HW_.out (by kernel_rfl)) (fun _ _ _ h => h) (Or.inl ⟨by rfl, ?_⟩) hHeld ?_ ?_; rotate_left
               ·rintro w' ⟨s0, s1, s2, s3, s4, s5⟩; go_simp; with_reducible rfl
               rotate_left
               ·simp only [Act.put, Sa, Sb, Sc, i64_w, i32_w]; rfl
               refine take_ (i := 11) (N := some 67) (v := ?_) (a' := ?_) #[true, true, true, true, true, true, true, true, true, true, true, true, false, false] rfl rfl (take_ofW HT_.out HW_.out (by kernel_rfl)) (fun _ _ _ h => h) (Or.inl ⟨by rfl, ?_⟩) hHeld ?_ ?_; rotate_left
               ·rintro w' ⟨s0, s1, s2, s3, s4, s5⟩; go_simp; with_reducible rfl
               rotate_left
               ·simp only [Act.put, Sa, Sb, Sc, i64_w, i32_w]; rfl
               refine pure_ (i := 12) (N := some 68) (v := ?_) (a' := ?_) #[true, true, true, true, true, true, true, true, true, true, true, true, true, false] rfl rfl (any_of HT_.out (by kernel_rfl)) (fun _ _ _ h => h) (Or.inl ⟨by rfl, ?_⟩) ?_ ?_; rotate_left
               ·intro w'; go_simp; with_reducible rfl
               rotate_left
               ·simp only [Act.put, Sa, Sb, Sc, i64_w, i32_w]; rfl
               refine pure_ (i := 13) (N := some 69) (v := ?_) (a' := ?_) #[true, true, true, true, true, true, true, true, true, true, true, true, true, true] rfl rfl (any_of HT_.out (by kernel_rfl)) (fun _ _ _ h => h) (Or.inl ⟨by rfl, ?_⟩) ?_ ?_; rotate_left
               ·intro w'; go_simp; with_reducible rfl
               rotate_left
               ·simp only [Act.put, Sa, Sb, Sc, i64_w, i32_w]; rfl
               refine done_ (done_of HT_.out (by kernel_rfl)) ?_; try go_wp2
               go_roundg k2
               case measure => have := HK1.out; have := HK2.out; omega
               case rel => exact ⟨(x6_2), (x8_2), (wrap64 (x9_2 + 1)), (by first | rfl | (simp; done) | (simp [*]; done)), (by first | rfl | (simp; done) | (simp [*]; done)), H', ⟨by have := HK1.out; have := HK2.out; omega⟩, ⟨by (with_reducible repeat (first | apply Kd.R_alloc | apply Kd.R_drewN | apply Kd.R_drew)); exact HO_6.out⟩, ⟨by repeat (first | (with_reducible first | exact HB.out | apply Ba | apply Pn | apply Dn | refine Bz ?_ GE123.out) | exact HB.out)⟩⟩
            ·rw [if_neg c13] at H; exact absurd H (by simp)
           ·rw [if_neg c12] at H; exact absurd H (by simp)
          ·rw [if_neg c11] at H; exact absurd H (by simp)
         ·rw [if_neg c10] at H; exact absurd H (by simp)
        ·rw [if_neg c9] at H; exact absurd H (by simp)
       ·rw [if_neg c8] at H; have c8b0 : decide (x9_2 < (l1.length : Int)) = false := decide_eq_false c8; clear c8
        by_cases c54 : x8_2 = true
        ·subst c54
         have H1 : (rf_least.l0 k2 l0 l1 x6_2 (wrap64 (x7_1 + 1))) = some (r1, r2) := by rw [if_pos rfl] at H; exact H
         clear H; have H := H1; clear H1; have H' := Aa H; clear H; go_wp2
         go_roundg k2
         case measure => have := HK1.out; have := HK2.out; omega
         case rel => exact ⟨(x6_2), (wrap64 (x7_1 + 1)), (by first | rfl | (simp; done) | (simp [*]; done)), H', ⟨by have := HK1.out; have := HK2.out; omega⟩, ⟨by (with_reducible repeat (first | apply Kd.R_alloc | apply Kd.R_drewN | apply Kd.R_drew)); exact HO_6.out⟩, ⟨by repeat (first | (with_reducible first | exact HB.out | apply Ba | apply Pn | apply Dn) | exact HB.out)⟩⟩
        ·replace c54 := Bool.eq_false_iff.mpr c54; subst c54
         have H1 : (some (x6_2, true)) = some (r1, r2) := by rw [if_neg (show ¬ (false = true) by decide)] at H; exact H
         clear H; have H := H1; clear H1; simp only [Option.some.injEq, Prod.mk.injEq] at H; obtain ⟨rfl, rfl⟩ := H; go_wp2; go_ret2; exact ⟨_, by first | rfl | (simp [errW_none, errW_some] <;> rfl) | (simp [*, errW_none, errW_some] <;> rfl), by (with_reducible repeat (first | apply Kd.R_alloc | apply Kd.R_drewN | apply Kd.R_drew)); exact HO_6.out, by repeat (first | (with_reducible first | exact HB.out | apply Ba | apply Pn | apply Dn) | exact HB.out)⟩
    ·rw [if_neg c7] at H; have c7b0 : decide (x7_1 ≤ (l0.length : Int)) = false := decide_eq_false c7; clear c7; simp only [Option.some.injEq, Prod.mk.injEq] at H; obtain ⟨rfl, rfl⟩ := H; go_wp2; go_ret2; exact ⟨_, by first | rfl | (simp [errW_none, errW_some] <;> rfl) | (simp [*, errW_none, errW_some] <;> rfl), by first | exact Kd.R_nil _ _ _ _ _ | exact Kd.N_nil _ _ _ _ _ | exact Kd.V_nil _ _ _ _ _ | exact Kd.Q_nil _ _ _ _ _ | exact Kd.S_nil _ _ _ _ _, by repeat (first | (with_reducible first | exact HB.out | apply Ba | apply Pn | apply Dn) | exact HB.out)⟩
 ·rw [if_neg c3] at H; exact absurd H (by simp)
end
section
attribute [local go_sem] max2_int min2_int max_two min_two
def skew_greater.f (a0 : Int) (a1 : Int) : Option (Bool) := some (decide (a0 > a1))
set_option maxHeartbeats 8000000 in
set_option maxRecDepth 100000 in
theorem skew_greater.calls (a0 : Int) (a1 : Int) (r : Bool) (w : World) (h : skew_greater.f a0 a1 = some r) :
  Calls Tryz.prog 62 #[.int .i64 a0, .int .i64 a1] w fun e w' => e = .returned (.bool r) ∧ Drawn0 w w' := by
 have H : (some (decide (a0 > a1))) = some r := h; clear h; obtain rfl := Option.some.inj H
 go_enter Tryz.func62, Tryz.ntmps62
 go_wp2; go_ret; exact ⟨by first | rfl | (simp; done) | (simp [*]; done), by repeat (first | exact Drawn0.refl _ | apply Drawn0.step)⟩
end
section
attribute [local go_sem] max2_int min2_int max_two min_two
def rf_Time.f (a0 : Int) : Option (Bool) := if a0 ≥ (-1000000) then (some (decide (a0 ≤ 1000000))) else (some false)
set_option maxHeartbeats 8000000 in
set_option maxRecDepth 100000 in
theorem rf_Time.calls (a0 : Int) (r : Bool) (w : World) (h : rf_Time.f a0 = some r) :
  Calls Tryz.prog 88 #[.int .i64 a0] w fun e w' => e = .returned (.bool r) ∧ Drawn0 w w' := by
 have H : (if a0 ≥ (-1000000) then (some (decide (a0 ≤ 1000000))) else (some false)) = some r := h; clear h
 by_cases c2 : a0 ≥ (-1000000)
 ·rw [if_pos c2] at H; have c2b0 : decide ((-1000000) ≤ a0) = true := decide_eq_true c2; clear c2; obtain rfl := Option.some.inj H
  go_enter Tryz.func88, Tryz.ntmps88
  go_wp2; go_ret; exact ⟨by first | rfl | (simp; done) | (simp [*]; done), by repeat (first | exact Drawn0.refl _ | apply Drawn0.step)⟩
 ·rw [if_neg c2] at H; have c2b0 : decide ((-1000000) ≤ a0) = false := decide_eq_false c2; clear c2; obtain rfl := Option.some.inj H
  go_enter Tryz.func88, Tryz.ntmps88
  go_wp2; go_ret; exact ⟨by first | rfl | (simp; done) | (simp [*]; done), by repeat (first | exact Drawn0.refl _ | apply Drawn0.step)⟩
end
section
attribute [local go_sem] max2_int min2_int max_two min_two
def rf_Good.f (a0_0 : Int) (a0_1 : Int) : Option (Bool) := if a0_0 ≤ a0_1 then ((rf_Time.f a0_0).bind fun t108 => (if t108 = true then ((rf_Time.f a0_1).bind fun t109 => (some t109)) else (some false))) else (some false)
set_option maxHeartbeats 8000000 in
set_option maxRecDepth 100000 in
theorem rf_Good.calls (a0_0 : Int) (a0_1 : Int) (r : Bool) (w : World) (h : rf_Good.f a0_0 a0_1 = some r) :
  Calls Tryz.prog 79 #[.agg #[.int .i64 a0_0, .int .i64 a0_1]] w fun e w' => e = .returned (.bool r) ∧ Below w.heap.size w w' := by
 have hu65 := Tryz.underlying65; have HB := Aa (Below.refl w.heap.size w); have H : (if a0_0 ≤ a0_1 then ((rf_Time.f a0_0).bind fun t108 => (if t108 = true then ((rf_Time.f a0_1).bind fun t109 => (some t109)) else (some false))) else (some false)) = some r := h; clear h
 by_cases c2 : a0_0 ≤ a0_1
 ·rw [if_pos c2] at H; have c2b0 : decide (a0_0 ≤ a0_1) = true := decide_eq_true c2; clear c2; replace H := Option.bind_eq_some_iff.mp H; obtain ⟨t108, A30, H⟩ := H; replace H : (if t108 = true then ((rf_Time.f a0_1).bind fun t109 => (some t109)) else (some false)) = some r := H; have A3 := Aa A30; clear A30
  by_cases c4 : t108 = true
  ·subst c4
   have H1 : ((rf_Time.f a0_1).bind fun t109 => (some t109)) = some r := by rw [if_pos rfl] at H; exact H
   clear H; have H := H1; clear H1; replace H := Option.bind_eq_some_iff.mp H; obtain ⟨t109, A50, H⟩ := H; replace H : (some t109) = some r := H; have A5 := Aa A50; clear A50; obtain rfl := Option.some.inj H
   go_enter Tryz.func79, Tryz.ntmps79
   go_wp2_with (first | ((with_reducible refine gate_dst (N := 1) rfl ?_); refine box_event ?hg (N := 1) ?hd (cs := #[.int .i64 a0_0, .int .i64 a0_1]) (t := 65) ?hr ?_; (case hd => rfl); (case hg => rfl); (case hr => first | (go_simp; done) | (go_simp; rfl)); intro gb107 hg w6 hbox hb; have n0_ := Aa (Bp (by repeat (first | (with_reducible first | exact HB.out | apply Ba | apply Pn | apply Dn) | exact HB.out)) hb); have n1_ := Aa (hbox); have n2_ := Aa ((by rw [hg]; exact (below_size (by repeat (first | (with_reducible first | exact HB.out | apply Ba | apply Pn | apply Dn) | exact HB.out))) : w.heap.size ≤ gb107)); have n3_ := Aa ((by rw [hg]; exact (below_size (by repeat (first | (with_reducible first | exact HB.out | apply Ba | apply Pn | apply Dn) | exact HB.out))) : w.heap.size ≤ gb107)); clear HB; have HB := n0_; have BK107 := n1_; have GW107 := n2_; have GE107 := n3_; clear n0_ n1_ n2_ n3_; clear hb hbox hg; have hcz7_0 : w6.cell? ⟨gb107, 0, none⟩ = some (.int .i64 a0_0) := (Bc BK107.out 0).trans rfl; have hcz7_1 : w6.cell? ⟨gb107, 1, none⟩ = some (.int .i64 a0_1) := (Bc BK107.out 1).trans rfl; have hfz7_0 := Bf BK107.out 0; have hfz7_1 := Bf BK107.out 1) | (go_at_call 88; (with_reducible refine (rf_Time.calls a0_0 true _ A3.out).mono ?_); rintro e w' ⟨rfl, ⟨nd, rfl⟩⟩) | (go_at_call 88; (with_reducible refine (rf_Time.calls a0_1 t109 _ A5.out).mono ?_); rintro e w' ⟨rfl, ⟨nd, rfl⟩⟩))
   go_ret; exact ⟨by first | rfl | (simp [errW_none, errW_some] <;> rfl) | (simp [*, errW_none, errW_some] <;> rfl), by repeat (first | (with_reducible first | exact HB.out | apply Ba | apply Pn | apply Dn | refine Bz ?_ GE107.out) | exact HB.out)⟩
  ·replace c4 := Bool.eq_false_iff.mpr c4; subst c4
   have H1 : (some false) = some r := by rw [if_neg (show ¬ (false = true) by decide)] at H; exact H
   clear H; have H := H1; clear H1; obtain rfl := Option.some.inj H
   go_enter Tryz.func79, Tryz.ntmps79
   go_wp2_with (first | ((with_reducible refine gate_dst (N := 1) rfl ?_); refine box_event ?hg (N := 1) ?hd (cs := #[.int .i64 a0_0, .int .i64 a0_1]) (t := 65) ?hr ?_; (case hd => rfl); (case hg => rfl); (case hr => first | (go_simp; done) | (go_simp; rfl)); intro gb107 hg w8 hbox hb; have n0_ := Aa (Bp (by repeat (first | (with_reducible first | exact HB.out | apply Ba | apply Pn | apply Dn) | exact HB.out)) hb); have n1_ := Aa (hbox); have n2_ := Aa ((by rw [hg]; exact (below_size (by repeat (first | (with_reducible first | exact HB.out | apply Ba | apply Pn | apply Dn) | exact HB.out))) : w.heap.size ≤ gb107)); have n3_ := Aa ((by rw [hg]; exact (below_size (by repeat (first | (with_reducible first | exact HB.out | apply Ba | apply Pn | apply Dn) | exact HB.out))) : w.heap.size ≤ gb107)); clear HB; have HB := n0_; have BK107 := n1_; have GW107 := n2_; have GE107 := n3_; clear n0_ n1_ n2_ n3_; clear hb hbox hg; have hcz9_0 : w8.cell? ⟨gb107, 0, none⟩ = some (.int .i64 a0_0) := (Bc BK107.out 0).trans rfl; have hcz9_1 : w8.cell? ⟨gb107, 1, none⟩ = some (.int .i64 a0_1) := (Bc BK107.out 1).trans rfl; have hfz9_0 := Bf BK107.out 0; have hfz9_1 := Bf BK107.out 1) | (go_at_call 88; (with_reducible refine (rf_Time.calls a0_0 false _ A3.out).mono ?_); rintro e w' ⟨rfl, ⟨nd, rfl⟩⟩))
   go_ret; exact ⟨by first | rfl | (simp [errW_none, errW_some] <;> rfl) | (simp [*, errW_none, errW_some] <;> rfl), by repeat (first | (with_reducible first | exact HB.out | apply Ba | apply Pn | apply Dn | refine Bz ?_ GE107.out) | exact HB.out)⟩
 ·rw [if_neg c2] at H; have c2b0 : decide (a0_0 ≤ a0_1) = false := decide_eq_false c2; clear c2; obtain rfl := Option.some.inj H
  go_enter Tryz.func79, Tryz.ntmps79
  go_wp2_with (first | ((with_reducible refine gate_dst (N := 1) rfl ?_); refine box_event ?hg (N := 1) ?hd (cs := #[.int .i64 a0_0, .int .i64 a0_1]) (t := 65) ?hr ?_; (case hd => rfl); (case hg => rfl); (case hr => first | (go_simp; done) | (go_simp; rfl)); intro gb107 hg w10 hbox hb; have n0_ := Aa (Bp (by repeat (first | (with_reducible first | exact HB.out | apply Ba | apply Pn | apply Dn) | exact HB.out)) hb); have n1_ := Aa (hbox); have n2_ := Aa ((by rw [hg]; exact (below_size (by repeat (first | (with_reducible first | exact HB.out | apply Ba | apply Pn | apply Dn) | exact HB.out))) : w.heap.size ≤ gb107)); have n3_ := Aa ((by rw [hg]; exact (below_size (by repeat (first | (with_reducible first | exact HB.out | apply Ba | apply Pn | apply Dn) | exact HB.out))) : w.heap.size ≤ gb107)); clear HB; have HB := n0_; have BK107 := n1_; have GW107 := n2_; have GE107 := n3_; clear n0_ n1_ n2_ n3_; clear hb hbox hg; have hcz11_0 : w10.cell? ⟨gb107, 0, none⟩ = some (.int .i64 a0_0) := (Bc BK107.out 0).trans rfl; have hcz11_1 : w10.cell? ⟨gb107, 1, none⟩ = some (.int .i64 a0_1) := (Bc BK107.out 1).trans rfl; have hfz11_0 := Bf BK107.out 0; have hfz11_1 := Bf BK107.out 1))
  go_ret; exact ⟨by first | rfl | (simp [errW_none, errW_some] <;> rfl) | (simp [*, errW_none, errW_some] <;> rfl), by repeat (first | (with_reducible first | exact HB.out | apply Ba | apply Pn | apply Dn | refine Bz ?_ GE107.out) | exact HB.out)⟩
end
section
attribute [local go_sem] max2_int min2_int max_two min_two
def rf_Goods.l0 : Nat → List (S65) → Int → Option (Bool)
 | 0, _, _ => none
 | k + 1, x0, x5 => if x5 < (x0.length : Int) then (if 0 ≤ x5 then ((rf_Good.f ((rd_T65 x0 x5).f0) ((rd_T65 x0 x5).f1)).bind fun t111 => (if t111 = true then (rf_Goods.l0 k x0 (wrap64 (x5 + 1))) else (some false))) else (none)) else (some true)
def rf_Goods.f (k : Nat) (l0 : List (S65)) (a1 : Int) : Option (Bool) := if (l0.length : Int) > a1 then (some false) else (rf_Goods.l0 k l0 0)
set_option maxHeartbeats 8000000 in
set_option maxRecDepth 100000 in
theorem rf_Goods.calls (k : Nat) (A0 : Option Addr) (c0 : Nat) (l0 : List (S65)) (a1 : Int) (r : Bool) (w : World) (hr0 : Kd.C k65 w A0 l0.length l0) (hc0 : l0.length ≤ c0) (h : rf_Goods.f k l0 a1 = some r) :
  Calls Tryz.prog 49 #[.slice A0 l0.length c0, .int .i64 a1] w fun e w' => e = .returned (.bool r) ∧ Below w.heap.size w w' := by
 have hu65 := Tryz.underlying65; have HR0 := Aa hr0; have HC0 := Aa hc0; clear hr0 hc0; have HB := Aa (Below.refl w.heap.size w); have H : (if (l0.length : Int) > a1 then (some false) else (rf_Goods.l0 k l0 0)) = some r := h; clear h
 by_cases c3 : (l0.length : Int) > a1
 ·rw [if_pos c3] at H; have c3b0 : decide (a1 < (l0.length : Int)) = true := decide_eq_true c3; clear c3; obtain rfl := Option.some.inj H
  go_enter Tryz.func49, Tryz.ntmps49
  go_wp2; go_ret; exact ⟨by first | rfl | (simp [errW_none, errW_some] <;> rfl) | (simp [*, errW_none, errW_some] <;> rfl), by repeat (first | (with_reducible first | exact HB.out | apply Ba | apply Pn | apply Dn) | exact HB.out)⟩
 ·rw [if_neg c3] at H; have c3b0 : decide (a1 < (l0.length : Int)) = false := decide_eq_false c3; clear c3; have H' := Aa H; clear H
  go_enter Tryz.func49, Tryz.ntmps49
  go_wp2
  go_loopg [5] k (fun kq v5 w' => ∃ (x5_1 : Int), v5 = .int .i64 x5_1 ∧ Aside0 (rf_Goods.l0 kq l0 x5_1 = some r) ∧ Aside0 (kq ≤ k) ∧ Aside0 (Below w.heap.size w w'))
  case atStart => exact ⟨(0), (by first | rfl | (simp; done) | (simp [*]; done)), H', ⟨Nat.le_refl _⟩, ⟨by repeat (first | (with_reducible first | exact HB.out | apply Ba | apply Pn | apply Dn) | exact HB.out)⟩⟩
  case round =>
   clear H'; try clear p2
   try clear c3
   try clear c3b0
   obtain ⟨x5_1, rfl, HA, HK1, HB⟩ := hrel
   cases gk with
   | zero => exact absurd HA.out (by simp [rf_Goods.l0])
   | succ k1 =>
    have H := HA.out; clear HA; simp only [rf_Goods.l0] at H
    by_cases c4 : x5_1 < (l0.length : Int)
    ·rw [if_pos c4] at H; have c4b0 : decide (x5_1 < (l0.length : Int)) = true := decide_eq_true c4; clear c4
     by_cases c5 : 0 ≤ x5_1
     ·rw [if_pos c5] at H; have c5b0 : decide (0 ≤ x5_1) = true := decide_eq_true c5; clear c5; replace H := Option.bind_eq_some_iff.mp H; obtain ⟨t111, A60, H⟩ := H; replace H : (if t111 = true then (rf_Goods.l0 k1 l0 (wrap64 (x5_1 + 1))) else (some false)) = some r := H; have A6 := Aa A60; clear A60
      by_cases c7 : t111 = true
      ·subst c7
       have H1 : (rf_Goods.l0 k1 l0 (wrap64 (x5_1 + 1))) = some r := by rw [if_pos rfl] at H; exact H
       clear H; have H := H1; clear H1; have H' := Aa H; clear H; have p110 : 0 ≤ (x5_1 : Int) := Od (by first | (with_reducible assumption) | assumption); have q110 : x5_1 < (l0.length : Int) := Od (by first | (with_reducible assumption) | assumption); obtain ⟨ad110, e110, hx110_0, hx110_1⟩ := at_T65 HR0.out x5_1 p110 q110; cases e110; replace hx110_0 := (HB.out.cell (Wb w _ hx110_0)).trans hx110_0; replace hx110_1 := (HB.out.cell (Wb w _ hx110_1)).trans hx110_1; replace p110 := eq_true p110; replace q110 := eq_true q110
       go_wp2_with (first | ((with_reducible refine gate_callee (f := 79) rfl ?_); refine goesL_ (some 20) rfl rfl Tryz.func79 (by kernel_rfl) rfl #[.agg #[.int .i64 ((rd_T65 l0 x5_1).f0), .int .i64 ((rd_T65 l0 x5_1).f1)]] rfl (by (try simp only [List.map_toArray, List.map_cons, List.map_nil]); first | done | rfl | (simp only [List.length_drop, List.length_take]; rfl)) ?_; (with_reducible refine (rf_Good.calls ((rd_T65 l0 x5_1).f0) ((rd_T65 l0 x5_1).f1) true _ A6.out).mono ?_); rintro e w8 ⟨rfl, hb⟩; refine ⟨_, rfl, ?_⟩; have n0_ := Aa (Bp (by repeat (first | (with_reducible first | exact HB.out | apply Ba | apply Pn | apply Dn) | exact HB.out)) hb); clear HB; have HB := n0_; clear n0_; (try clear hb); (try clear hb2); (try clear hk); (try clear hi)))
       go_roundg k1
       case measure => have := HK1.out; omega
       case rel => exact ⟨(wrap64 (x5_1 + 1)), (by first | rfl | (simp; done) | (simp [*]; done)), H', ⟨by have := HK1.out; omega⟩, ⟨by repeat (first | (with_reducible first | exact HB.out | apply Ba | apply Pn | apply Dn) | exact HB.out)⟩⟩
      ·replace c7 := Bool.eq_false_iff.mpr c7; subst c7
       have H1 : (some false) = some r := by rw [if_neg (show ¬ (false = true) by decide)] at H; exact H
       clear H; have H := H1; clear H1; obtain rfl := Option.some.inj H; have p110 : 0 ≤ (x5_1 : Int) := Od (by first | (with_reducible assumption) | assumption); have q110 : x5_1 < (l0.length : Int) := Od (by first | (with_reducible assumption) | assumption); obtain ⟨ad110, e110, hx110_0, hx110_1⟩ := at_T65 HR0.out x5_1 p110 q110; cases e110; replace hx110_0 := (HB.out.cell (Wb w _ hx110_0)).trans hx110_0; replace hx110_1 := (HB.out.cell (Wb w _ hx110_1)).trans hx110_1; replace p110 := eq_true p110; replace q110 := eq_true q110
       go_wp2_with (first | ((with_reducible refine gate_callee (f := 79) rfl ?_); refine goesL_ (some 20) rfl rfl Tryz.func79 (by kernel_rfl) rfl #[.agg #[.int .i64 ((rd_T65 l0 x5_1).f0), .int .i64 ((rd_T65 l0 x5_1).f1)]] rfl (by (try simp only [List.map_toArray, List.map_cons, List.map_nil]); first | done | rfl | (simp only [List.length_drop, List.length_take]; rfl)) ?_; (with_reducible refine (rf_Good.calls ((rd_T65 l0 x5_1).f0) ((rd_T65 l0 x5_1).f1) false _ A6.out).mono ?_); rintro e w9 ⟨rfl, hb⟩; refine ⟨_, rfl, ?_⟩; have n0_ := Aa (Bp (by repeat (first | (with_reducible first | exact HB.out | apply Ba | apply Pn | apply Dn) | exact HB.out)) hb); clear HB; have HB := n0_; clear n0_; (try clear hb); (try clear hb2); (try clear hk); (try clear hi)))
       go_ret; exact ⟨by first | rfl | (simp [errW_none, errW_some] <;> rfl) | (simp [*, errW_none, errW_some] <;> rfl), by repeat (first | (with_reducible first | exact HB.out | apply Ba | apply Pn | apply Dn) | exact HB.out)⟩
     ·rw [if_neg c5] at H; exact absurd H (by simp)
    ·rw [if_neg c4] at H; have c4b0 : decide (x5_1 < (l0.length : Int)) = false := decide_eq_false c4; clear c4; obtain rfl := Option.some.inj H; go_wp2; go_ret; exact ⟨by first | rfl | (simp [errW_none, errW_some] <;> rfl) | (simp [*, errW_none, errW_some] <;> rfl), by repeat (first | (with_reducible first | exact HB.out | apply Ba | apply Pn | apply Dn) | exact HB.out)⟩
end
section
attribute [local go_sem] max2_int min2_int max_two min_two
def rf_turned.l0 : Nat → List (S82) → List (S82) → Int → Option ((List (S82)))
 | 0, _, _, _ => none
 | k + 1, x0, x3, x4 => if x4 < (x0.length : Int) then (if 0 ≤ x4 then (if x3.length < 4398046511104 then (rf_turned.l0 k x0 (x3 ++ [(⟨(rd_T82 x0 x4).f1, (rd_T82 x0 x4).f0, (rd_T82 x0 x4).f2, (rd_T82 x0 x4).f3⟩ : S82)]) (wrap64 (x4 + 1))) else (none)) else (none)) else (some x3)
def rf_turned.f (k : Nat) (l0 : List (S82)) : Option ((List (S82))) := rf_turned.l0 k l0 ([] : List (S82)) 0
set_option maxHeartbeats 8000000 in
set_option maxRecDepth 100000 in
theorem rf_turned.calls (k : Nat) (A0 : Option Addr) (c0 : Nat) (l0 : List (S82)) (r : List (S82)) (w : World) (hr0 : Kd.C k82 w A0 l0.length l0) (hc0 : l0.length ≤ c0) (h : rf_turned.f k l0 = some r) :
  Calls Tryz.prog 81 #[.slice A0 l0.length c0] w fun e w' => ∃ v0_ : Value, e = .returned (v0_) ∧ Kd.R k82 82 w' w.heap.size (fun _ => True) v0_ r ∧ Below w.heap.size w w' := by
 have hu82 := Tryz.underlying82; have HR0 := Aa hr0; have HC0 := Aa hc0; clear hr0 hc0; have HB := Aa (Below.refl w.heap.size w); have H : (rf_turned.l0 k l0 ([] : List (S82)) 0) = some r := h; clear h; have H' := Aa H; clear H
 go_enter Tryz.func81, Tryz.ntmps81
 go_wp2
 go_loopg [3, 4] k (fun kq v3 v4 w' => ∃ (x3_1 : List (S82)) (x4_1 : Int), v4 = .int .i64 x4_1 ∧ Aside0 (rf_turned.l0 kq l0 x3_1 x4_1 = some r) ∧ Aside0 (kq ≤ k) ∧ Aside0 (Kd.R k82 82 w' w.heap.size (fun _ => True) v3 x3_1) ∧ Aside0 (Below w.heap.size w w'))
 case atStart => exact ⟨(([] : List (S82))), (0), (by first | rfl | (simp; done) | (simp [*]; done)), H', ⟨Nat.le_refl _⟩, ⟨by first | exact Kd.R_nil _ _ _ _ _ | exact Kd.N_nil _ _ _ _ _ | exact Kd.V_nil _ _ _ _ _ | exact Kd.Q_nil _ _ _ _ _ | exact Kd.S_nil _ _ _ _ _⟩, ⟨by repeat (first | (with_reducible first | exact HB.out | apply Ba | apply Pn | apply Dn) | exact HB.out)⟩⟩
 case round =>
  clear H'; obtain ⟨x3_1, x4_1, rfl, HA, HK1, HO_3, HB⟩ := hrel
  cases gk with
  | zero => exact absurd HA.out (by simp [rf_turned.l0])
  | succ k1 =>
   have H := HA.out; clear HA; simp only [rf_turned.l0] at H
   by_cases c2 : x4_1 < (l0.length : Int)
   ·rw [if_pos c2] at H; have c2b0 : decide (x4_1 < (l0.length : Int)) = true := decide_eq_true c2; clear c2
    by_cases c3 : 0 ≤ x4_1
    ·rw [if_pos c3] at H; have c3b0 : decide (0 ≤ x4_1) = true := decide_eq_true c3; clear c3
     by_cases c4 : x3_1.length < 4398046511104
     ·rw [if_pos c4] at H; have LMc4 := Aa c4; clear c4
      obtain ⟨y138, hy138⟩ : ∃ y_ : List (S82), y_ = (x3_1 ++ [(⟨(rd_T82 l0 x4_1).f1, (rd_T82 l0 x4_1).f0, (rd_T82 l0 x4_1).f2, (rd_T82 l0 x4_1).f3⟩ : S82)]) := ⟨_, rfl⟩
      replace H : (rf_turned.l0 k1 l0 y138 (wrap64 (x4_1 + 1))) = some r := by first | (rw [hy138]; with_reducible exact H) | (have H2_ := (Option.bind_some _ _).symm.trans H; rw [hy138]; with_reducible exact H2_) | (have H2_ := (Option.bind_some _ _).symm.trans H; with_reducible exact H2_) | with_reducible exact H | (rw [hy138]; exact H) | exact H
      have Ny138 := Aa hy138; clear hy138; have H' := Aa H; clear H; have p136 : 0 ≤ (x4_1 : Int) := Od (by first | (with_reducible assumption) | assumption); have q136 : x4_1 < (l0.length : Int) := Od (by first | (with_reducible assumption) | assumption); obtain ⟨ad136, e136, hx136_0, hx136_1, hx136_2, hx136_3⟩ := at_T82 HR0.out x4_1 p136 q136; cases e136; replace hx136_0 := (HB.out.cell (Wb w _ hx136_0)).trans hx136_0; replace hx136_1 := (HB.out.cell (Wb w _ hx136_1)).trans hx136_1; replace hx136_2 := (HB.out.cell (Wb w _ hx136_2)).trans hx136_2; replace hx136_3 := (HB.out.cell (Wb w _ hx136_3)).trans hx136_3; replace p136 := eq_true p136; replace q136 := eq_true q136
      go_wp2_with (first | ((with_reducible refine gate_dst (N := 5) rfl ?_); refine box_event ?hg (N := 5) ?hd (cs := #[.int .i64 0, .int .i64 0, .int .i64 0, .int .i64 0]) (t := 82) ?hr ?_; (case hd => rfl); (case hg => rfl); (case hr => first | (go_simp; done) | (go_simp; rfl)); intro gb137 hg w5 hbox hb; have n0_ := Aa (Kd.R_below (Kd.R_elderB (by (with_reducible repeat (first | apply Kd.R_alloc | apply Kd.R_drewN | apply Kd.R_drew)); exact HO_3.out) gb137 (Nat.le_of_eq hg.symm)) hb); have n1_ := Aa (Bp (by repeat (first | (with_reducible first | exact HB.out | apply Ba | apply Pn | apply Dn) | exact HB.out)) hb); have n2_ := Aa (hbox); have n3_ := Aa ((by rw [hg]; exact (below_size (by repeat (first | (with_reducible first | exact HB.out | apply Ba | apply Pn | apply Dn) | exact HB.out))) : w.heap.size ≤ gb137)); have n4_ := Aa ((by rw [hg]; exact (below_size (by repeat (first | (with_reducible first | exact HB.out | apply Ba | apply Pn | apply Dn) | exact HB.out))) : w.heap.size ≤ gb137)); clear HO_3; clear HB; have HO_3 := n0_; have HB := n1_; have BK137 := n2_; have GW137 := n3_; have GE137 := n4_; clear n0_ n1_ n2_ n3_ n4_; clear hb hbox hg; have hcz6_0 : w5.cell? ⟨gb137, 0, none⟩ = some (.int .i64 0) := (Bc BK137.out 0).trans rfl; have hcz6_1 : w5.cell? ⟨gb137, 1, none⟩ = some (.int .i64 0) := (Bc BK137.out 1).trans rfl; have hcz6_2 : w5.cell? ⟨gb137, 2, none⟩ = some (.int .i64 0) := (Bc BK137.out 2).trans rfl; have hcz6_3 : w5.cell? ⟨gb137, 3, none⟩ = some (.int .i64 0) := (Bc BK137.out 3).trans rfl; have hfz6_0 := Bf BK137.out 0; have hfz6_1 := Bf BK137.out 1; have hfz6_2 := Bf BK137.out 2; have hfz6_3 := Bf BK137.out 3) | ((with_reducible refine gate_builtin (b := .append) (xs := #[.tmp 16, .tmp 26]) rfl ?_); at_builtin; refine Kd.R_append k82 (w0 := w) w.heap.size rfl (.tmp 16) (.tmp 26) 23 82 (.agg #[(.int .i64 0), (.int .i64 0), (.int .i64 0), (.int .i64 0)]) 32 rfl Tryz.underlying23 info82 rfl (by decide) (by omega) u3 x3_1 (⟨(rd_T82 l0 x4_1).f1, (rd_T82 l0 x4_1).f0, (rd_T82 l0 x4_1).f2, (rd_T82 l0 x4_1).f3⟩ : S82) [.int .i64 ((rd_T82 l0 x4_1).f1), .int .i64 ((rd_T82 l0 x4_1).f0), .int .i64 ((rd_T82 l0 x4_1).f2), .int .i64 ((rd_T82 l0 x4_1).f3)] (fun k_ => k_ ≠ gb137) (fun _ => False) rfl (by first | (go_simp; done) | (go_simp; rfl)) ?aP (fun _ hk => hk.elim) ?aF ?aO ?aB ?aS ?aL ?_; (case aP => exact k82_mkM _ _ _ (⟨(rd_T82 l0 x4_1).f1, (rd_T82 l0 x4_1).f0, (rd_T82 l0 x4_1).f2, (rd_T82 l0 x4_1).f3⟩ : S82)); (case aB => exact (by repeat (first | (with_reducible first | exact HB.out | apply Ba | apply Pn | apply Dn | refine Bz ?_ GE137.out) | exact HB.out))); (case aF => exact (fun k_ hk => Kd.freshB (g := gb137) (o := .cells #[.int .i64 ((rd_T82 l0 x4_1).f0), .int .i64 ((rd_T82 l0 x4_1).f1), .int .i64 ((rd_T82 l0 x4_1).f2), .int .i64 ((rd_T82 l0 x4_1).f3)] 82 (0, 0)) (by (with_reducible repeat (first | refine Kn ?_ _ | refine Kw ?_ | refine Ka ?_ _)); refine blk_put (cs := #[.int .i64 ((rd_T82 l0 x4_1).f0), .int .i64 ((rd_T82 l0 x4_1).f1), .int .i64 ((rd_T82 l0 x4_1).f2), .int .i64 0]) ?_ 3 _ rfl; (with_reducible repeat (first | refine Kn ?_ _ | refine Kw ?_ | refine Ka ?_ _)); refine blk_put (cs := #[.int .i64 ((rd_T82 l0 x4_1).f0), .int .i64 ((rd_T82 l0 x4_1).f1), .int .i64 0, .int .i64 0]) ?_ 2 _ rfl; (with_reducible repeat (first | refine Kn ?_ _ | refine Kw ?_ | refine Ka ?_ _)); refine blk_put (cs := #[.int .i64 ((rd_T82 l0 x4_1).f0), .int .i64 0, .int .i64 0, .int .i64 0]) ?_ 1 _ rfl; (with_reducible repeat (first | refine Kn ?_ _ | refine Kw ?_ | refine Ka ?_ _)); refine blk_put (cs := #[.int .i64 0, .int .i64 0, .int .i64 0, .int .i64 0]) ?_ 0 _ rfl; (with_reducible repeat (first | refine Kn ?_ _ | refine Kw ?_ | refine Ka ?_ _)); exact BK137.out) k_ hk)); (case aO => exact (by (with_reducible repeat (first | apply Kd.R_alloc | apply Kd.R_drewN | apply Kd.R_drew)); exact Kd.R_mono (Kd.R_far (p := ⟨gb137, 3, none⟩) (Kd.R_far (p := ⟨gb137, 2, none⟩) (Kd.R_far (p := ⟨gb137, 1, none⟩) (Kd.R_far (p := ⟨gb137, 0, none⟩) (Kd.R_mono HO_3.out (fun k_ hk => (⟨hk, hk.2⟩ : _ ∧ k_ ≠ gb137))) (fun _ hk => hk.2) (.int .i64 ((rd_T82 l0 x4_1).f0))) (fun _ hk => hk.2) (.int .i64 ((rd_T82 l0 x4_1).f1))) (fun _ hk => hk.2) (.int .i64 ((rd_T82 l0 x4_1).f2))) (fun _ hk => hk.2) (.int .i64 ((rd_T82 l0 x4_1).f3))) (fun _ hk => hk.1.2))); (case aS => exact (below_size (by repeat (first | (with_reducible first | exact HB.out | apply Ba | apply Pn | apply Dn | refine Bz ?_ GE137.out) | exact HB.out)))); (case aL => have := LMc4.out; omega); intro v139 w7 ho hb hg hat; rw [← Ny138.out] at ho; have n0_ := Aa (blk_grown (g := gb137) (o := .cells #[.int .i64 ((rd_T82 l0 x4_1).f0), .int .i64 ((rd_T82 l0 x4_1).f1), .int .i64 ((rd_T82 l0 x4_1).f2), .int .i64 ((rd_T82 l0 x4_1).f3)] 82 (0, 0)) (by (with_reducible repeat (first | refine Kn ?_ _ | refine Kw ?_ | refine Ka ?_ _)); refine blk_put (cs := #[.int .i64 ((rd_T82 l0 x4_1).f0), .int .i64 ((rd_T82 l0 x4_1).f1), .int .i64 ((rd_T82 l0 x4_1).f2), .int .i64 0]) ?_ 3 _ rfl; (with_reducible repeat (first | refine Kn ?_ _ | refine Kw ?_ | refine Ka ?_ _)); refine blk_put (cs := #[.int .i64 ((rd_T82 l0 x4_1).f0), .int .i64 ((rd_T82 l0 x4_1).f1), .int .i64 0, .int .i64 0]) ?_ 2 _ rfl; (with_reducible repeat (first | refine Kn ?_ _ | refine Kw ?_ | refine Ka ?_ _)); refine blk_put (cs := #[.int .i64 ((rd_T82 l0 x4_1).f0), .int .i64 0, .int .i64 0, .int .i64 0]) ?_ 1 _ rfl; (with_reducible repeat (first | refine Kn ?_ _ | refine Kw ?_ | refine Ka ?_ _)); refine blk_put (cs := #[.int .i64 0, .int .i64 0, .int .i64 0, .int .i64 0]) ?_ 0 _ rfl; (with_reducible repeat (first | refine Kn ?_ _ | refine Kw ?_ | refine Ka ?_ _)); exact BK137.out) hg (Kd.R_away HO_3.out (fun _ hk => hk.2))); have n1_ := Aa (hb); have n2_ := Aa (ho); clear BK137; clear HB; clear HO_3; have BK137 := n0_; have HB := n1_; have HO140 := n2_; clear n0_ n1_ n2_; clear ho hb hg hat))
      go_roundg k1
      case measure => have := HK1.out; omega
      case rel => exact ⟨(y138), (wrap64 (x4_1 + 1)), (by first | rfl | (simp; done) | (simp [*]; done)), H', ⟨by have := HK1.out; omega⟩, ⟨by (with_reducible repeat (first | apply Kd.R_alloc | apply Kd.R_drewN | apply Kd.R_drew)); exact Kd.R_mono HO140.out (fun _ hk => trivial)⟩, ⟨by repeat (first | (with_reducible first | exact HB.out | apply Ba | apply Pn | apply Dn | refine Bz ?_ GE137.out) | exact HB.out)⟩⟩
     ·rw [if_neg c4] at H; exact absurd H (by simp)
    ·rw [if_neg c3] at H; exact absurd H (by simp)
   ·rw [if_neg c2] at H; have c2b0 : decide (x4_1 < (l0.length : Int)) = false := decide_eq_false c2; clear c2; obtain rfl := Option.some.inj H; go_wp2; go_ret; exact ⟨_, by first | rfl | (simp [errW_none, errW_some] <;> rfl) | (simp [*, errW_none, errW_some] <;> rfl), by (with_reducible repeat (first | apply Kd.R_alloc | apply Kd.R_drewN | apply Kd.R_drew)); exact HO_3.out, by repeat (first | (with_reducible first | exact HB.out | apply Ba | apply Pn | apply Dn) | exact HB.out)⟩
end
end Go.Proofs.YtobcecgcegoooaaGreat.Sk
