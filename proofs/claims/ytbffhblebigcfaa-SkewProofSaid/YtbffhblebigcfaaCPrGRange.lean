/- Ranges over a map of sets, what is still to come as a plain predicate. -/
import Derived.Test.YtbffhblebigcfaaCPrGMap
namespace Go.Proofs.Ytbffhblebigcfaa.Sk
open Go.RowKit Go.Proofs.YtbffhblebigcfaaW.PrintWords Go.Proofs.YtbffhblebigcfaaW.PrintLast Go.Proofs.YtbffhblebigcfaaW.PrintMore
open Go.Maps
set_option linter.unusedVariables false
set_option linter.unusedSimpArgs false
def RangeIs (w : World) (b r n : Nat) (f : Int → Option Int) (todo : Int → Prop) (cnt : Nat) : Prop :=
 ∃ (D : DataW Unit) (left : Lit → Bool), w.ranges Try.prog 3 (plainElem Try.prog 118) b r n D left cnt ∧
  (∀ m, okI m → (f m = none → Maps.has D (.int .i64 m) = false) ∧ ∀ x, f m = some x → Maps.has D (.int .i64 m) = true ∧ ∀ z, D.atKey (.int .i64 m) z = elS.dat x) ∧
  ∀ m, okI m → (f m).isSome = true → todo m → left (.int .i64 m) = true
theorem RangeIs.left_eq {w : World} {b r n cnt : Nat} {f : Int → Option Int} {todo : Int → Prop} (h : RangeIs w b r n f todo cnt) : w.rangeLeft b r = cnt := by
 obtain ⟨D, left, h, _⟩ := h; exact h.left_eq
section
variable {b n : Nat} {f : Int → Option Int} (w : World) {ops : Array Oper} {rest : List Oper} {o : Oper} {a : Act} {Q : Exit → Act → World → Prop}
theorem wpList_range_is (hg : o.guard = none) (m : Operand) (t : TypeId) (hop : o.op = Op.range t m) (ht : Try.prog.underlying t = some (.map 3 118)) (b n : Nat) (f : Int → Option Int)
  (hm : a.eval m = .map (some b)) (h : MapIs elS w b n f)
  (hK : ∀ w' cnt, RangeIs w' b w.heap.size n f (fun _ => True) cnt → w.grownBy w' none → w'.heap.size = w.heap.size + 1 → wpList Try.prog ops Q rest (a.put o.dst (.pointer (some ⟨w.heap.size, 0, none⟩))) w') :
  wpList Try.prog ops Q (o :: rest) a w := by
 obtain ⟨D, ho, hf⟩ := h
 refine wpList_range_own w hg m t hop 3 118 law3 ht _ b n D hm ho fun w' hr hgr hsz => hK w' _ ⟨D, _, hr, fun m hm => ⟨(hf m hm).1, fun x hx => ((hf m hm).2 x hx).2⟩, fun m hm hs _ => ?_⟩ hgr hsz
 obtain ⟨x, hx⟩ := Option.isSome_iff_exists.mp hs
 exact ((hf m hm).2 x hx).2.1
theorem wpList_next_is (hg : o.guard = none) (it : Operand) (hop : o.op = Op.next it false) (b r n : Nat) (f : Int → Option Int) (todo : Int → Prop) (cnt : Nat) (hit : a.eval it = .pointer (some ⟨r, 0, none⟩)) (h : RangeIs w b r n f todo cnt)
  (hDone : (∀ m, okI m → (f m).isSome = true → ¬ todo m) → wpList Try.prog ops Q rest (a.put o.dst (.tuple #[.bool false])) w)
  (hMore : ∀ (x c : Int) (w' : World) (cnt' : Nat), okI x → f x = some c → RangeIs w' b r n f (fun m => todo m ∧ m ≠ x) cnt' → cnt' < cnt → w.grownBy w' (some r) → w'.heap.size = w.heap.size →
   (Instr.entry (.pointer (some ⟨r, 0, none⟩))).run Try.prog w' = .ok (.tuple #[.int .i64 x, .int .u64 c]) w' → wpList Try.prog ops Q rest (a.put o.dst (.tuple #[.bool true, .int .i64 x, .int .u64 c])) w') :
  wpList Try.prog ops Q (o :: rest) a w := by
 obtain ⟨D, left, hr, hf, hl⟩ := h
 refine wpList_next_ranges_ii w hg it hop 3 118 .i64 .u64 law3 Try.underlying3 Try.underlying118 b r n D left cnt hit hr (fun h0 hno => hDone fun m hm hs ht => ?_) fun x c w' cnt' hx hc hlx hat hr' hlt hgr hsz hen => ?_
 ·have := hl m hm hs ht
  rw [hno] at this; cases this
 ·have hh := Maps.has_true_of_atKey hat
  have hfx : f x = some c := by
   cases hfx : f x with
   | none => rw [(hf x hx).1 hfx] at hh; cases hh
   | some y =>
    have e1 := ((hf x hx).2 y hfx).2 (.lit (.int .i64 0))
    rw [hat] at e1
    rw [lit_int e1]
  refine hMore x c w' cnt' hx hfx ⟨D, _, hr', hf, fun m hm hs ht => ?_⟩ hlt hgr hsz hen
  have h1 := hl m hm hs ht.1
  have hne : (Lit.int .i64 m).sameKey (.int .i64 x) = false := by
   cases hh : (Lit.int .i64 m).sameKey (.int .i64 x) with
   | false => rfl
   | true =>
    have := (WideAt.sameKey_iff (law3.key (okI_key hx))).1 hh
    injection this with _ h3
    exact absurd h3 ht.2
  simp only [h1, hne, Bool.not_false, Bool.and_self]
end
theorem below_next {w w' : World} {base r : Nat} (h : w.grownBy w' (some r)) (hr : base ≤ r) (hb : base ≤ w.heap.size) : Below base w w' :=
 ⟨h.os, h.tape, h.output, h.size, fun k hk => h.block k (Nat.lt_of_lt_of_le hk hb) (fun e => by injection e with e; omega)⟩
theorem below_grown0 {w w' : World} (h : w.grownBy w' none) : Below w.heap.size w w' :=
 ⟨h.os, h.tape, h.output, h.size, fun k hk => h.block k hk (by simp)⟩
end Go.Proofs.Ytbffhblebigcfaa.Sk
