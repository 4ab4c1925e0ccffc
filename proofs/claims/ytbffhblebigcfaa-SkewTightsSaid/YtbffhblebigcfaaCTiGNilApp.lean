/- append(nil, ys...): a new list of the same. -/
import Derived.Test.YtbffhblebigcfaaCTiGBase
namespace Go.Proofs.Ytbffhblebigcfaa.Sk
open Go.RowKit Go.Proofs.YtbffhblebigcfaaW.PrintWords Go.Proofs.YtbffhblebigcfaaW.PrintLast Go.Proofs.YtbffhblebigcfaaW.PrintMore
set_option linter.unusedVariables false
set_option linter.unusedSimpArgs false
section
variable {P : Program} {ops : Array Oper} {rest : List Oper} {o : Oper} {a : Act} {Q : Exit → Act → World → Prop} {Kc : Act → World → Prop} {α : Type}
theorem nil_append_step (d : Kd α) {W : World} (hw : Region.wanted o (yielded ops a.tmps) = true) (s x : Operand) (t e : TypeId) (z : Value) (bytes : Nat)
  (ho : o.op = .call { callee := .builtin .append, args := #[s, x], argTypes := #[t, t] }) (hs : a.eval s = .slice none 0 0)
  (ht : P.underlying t = some (.slice e)) (hinfo : (P.info? e).map (fun i => (i.zero, i.size, i.bytes)) = some (some z, d.sz, bytes)) (hz : z.cells.size = d.sz) (hs0 : 0 < d.sz) (hb0 : 0 < bytes)
  (ys : List α) (A : Option Addr) (c : Nat) (hx : a.eval x = .slice A ys.length c) (HR : Kd.C d W A ys.length ys) (hKM : ∀ x cs, d.K W x cs → d.M W W.heap.size (fun _ => False) x cs) (hl : ys.length * bytes ≤ 140737488355328)
  (h : ∀ v1 w1, d.R e w1 W.heap.size (fun _ => True) v1 ys → Below W.heap.size W w1 → Kc (a.put o.dst v1) w1) :
  if Region.wanted o (yielded ops a.tmps) = true then Oper.wp P o a W Kc Q else Kc (a.put o.dst undef) W := by
 refine Kd.R_append_rows_step d (Rr := d.K W) (w0 := W) (W := W) W.heap.size hw s x t e z bytes ho ht hinfo hz hs0 hb0 (.slice none 0 0) [] ys A ys.length c (fun _ => True) (fun _ => False) hs hx (Kd.R_nil _ _ _ _ _) HR hKM (fun _ hk => hk.elim) (fun _ _ => trivial) (Below.refl _ _) (Nat.le_refl _) (by simpa using hl) ?_
 intro v1 w1 ho1 hb1 _ _
 exact h v1 w1 ho1 hb1
theorem nil_append (d : Kd α) {W : World} (hgd : o.guard = none) (s x : Operand) (t e : TypeId) (z : Value) (bytes : Nat)
  (ho : o.op = .call { callee := .builtin .append, args := #[s, x], argTypes := #[t, t] }) (hs : a.eval s = .slice none 0 0)
  (ht : P.underlying t = some (.slice e)) (hinfo : (P.info? e).map (fun i => (i.zero, i.size, i.bytes)) = some (some z, d.sz, bytes)) (hz : z.cells.size = d.sz) (hs0 : 0 < d.sz) (hb0 : 0 < bytes)
  (ys : List α) (A : Option Addr) (c : Nat) (hx : a.eval x = .slice A ys.length c) (HR : Kd.C d W A ys.length ys) (hKM : ∀ x cs, d.K W x cs → d.M W W.heap.size (fun _ => False) x cs) (hl : ys.length * bytes ≤ 140737488355328)
  (h : ∀ v1 w1, d.R e w1 W.heap.size (fun _ => True) v1 ys → Below W.heap.size W w1 → wpList P ops Q rest (a.put o.dst v1) w1) :
  wpList P ops Q (o :: rest) a W := by
 refine Kd.R_append_rows d (Rr := d.K W) (w0 := W) (W := W) W.heap.size hgd s x t e z bytes ho ht hinfo hz hs0 hb0 (.slice none 0 0) [] ys A ys.length c (fun _ => True) (fun _ => False) hs hx (Kd.R_nil _ _ _ _ _) HR hKM (fun _ hk => hk.elim) (fun _ _ => trivial) (Below.refl _ _) (Nat.le_refl _) (by simpa using hl) ?_
 intro v1 w1 ho1 hb1 _ _
 exact h v1 w1 ho1 hb1
end
theorem km27 (W : World) (b : Nat) (x : S27) (cs : List Value) (h : k27.K W x cs) : k27.M W b (fun _ => False) x cs := by
 rw [k27_open h]; exact k27_mkM W b _ x
theorem km86 (W : World) (b : Nat) (x : S86) (cs : List Value) (h : k86.K W x cs) : k86.M W b (fun _ => False) x cs := by
 rw [k86_open h]; exact k86_mkM W b _ x
theorem kmI (W : World) (b : Nat) (x : Int) (cs : List Value) (h : (Kd.int .i64).K W x cs) : (Kd.int .i64).M W b (fun _ => False) x cs := h
structure Copied (evs : List S27) (gaps : List S86) (w1 W : World) (n5 : Nat) (B0 B1 : Option Addr) (d0 d1 : Nat) : Prop where
 blk : W.heap[n5]? = some (.cells #[.slice B0 evs.length d0, .slice B1 gaps.length d1] 39 (0, 0))
 l0 : evs.length ≤ d0
 l1 : gaps.length ≤ d1
 r0 : Kd.C k27 W B0 evs.length evs
 r1 : Kd.C k86 W B1 gaps.length gaps
 bel : Below w1.heap.size w1 W
section
variable {evs : List S27} {gaps : List S86} {w1 w5 w6 W : World} {B0 B1 : Option Addr} {d0 d1 b1 b2 : Nat} {ok1 ok2 : Nat → Prop}
theorem copied_last (h1 : Below w1.heap.size w1 w5) (h2 : Below w5.heap.size w5 w6) (ho1 : k27.R 27 w5 b1 ok1 (.slice B0 evs.length d0) evs) (ho2 : k86.R 86 w6 b2 ok2 (.slice B1 gaps.length d1) gaps) :
  Copied evs gaps w1 (w6.alloc (.cells #[.slice B0 evs.length d0, .slice B1 gaps.length d1] 39)) w6.heap.size B0 B1 d0 d1 :=
 ⟨blk_new _ _, (Kd.R_reads' ho1).2.1, (Kd.R_reads' ho2).2.1, Kd.C_alloc (Kd.C_below (Kd.R_reads' ho1).2.2 h2) _, Kd.C_alloc (Kd.R_reads' ho2).2.2 _, below_alloc (below_step h1 h2) _⟩
theorem copied_set {n5 : Nat} {x y : Value} (hn : w1.heap.size ≤ n5) (hk : w6.heap[n5]? = some (.cells #[x, y] 39 (0, 0))) (h : Below w1.heap.size w1 w6) (ho1 : k27.R 27 w6 b1 ok1 (.slice B0 evs.length d0) evs) (ho2 : k86.R 86 w6 b2 ok2 (.slice B1 gaps.length d1) gaps) :
  Copied evs gaps w1 ((w6.setCell ⟨n5, 0, none⟩ (.slice B0 evs.length d0)).setCell ⟨n5, 1, none⟩ (.slice B1 gaps.length d1)) n5 B0 B1 d0 d1 := by
 have k1 := blk_put hk 0 (.slice B0 evs.length d0) (cs' := #[.slice B0 evs.length d0, y]) rfl
 have k2 := blk_put k1 1 (.slice B1 gaps.length d1) (cs' := #[.slice B0 evs.length d0, .slice B1 gaps.length d1]) rfl
 have r1 := Kd.R_set (Kd.R_set ho1 hk (by decide) 0 (.slice B0 evs.length d0)) k1 (by decide) 1 (.slice B1 gaps.length d1)
 have r2 := Kd.R_set (Kd.R_set ho2 hk (by decide) 0 (.slice B0 evs.length d0)) k1 (by decide) 1 (.slice B1 gaps.length d1)
 exact ⟨k2, (Kd.R_reads' ho1).2.1, (Kd.R_reads' ho2).2.1, (Kd.R_reads' r1).2.2, (Kd.R_reads' r2).2.2, below_set (below_set h hn) hn⟩
end
end Go.Proofs.Ytbffhblebigcfaa.Sk
