/- Maps keyed by int that the call makes: what they hold as a plain function. -/
import Derived.Maps.OwnSet
import Derived.Maps.RangeWalk
import Derived.Test.YtbffhblebigcfaaCPrGBase
namespace Go.Proofs.Ytbffhblebigcfaa.Sk
open Go.RowKit Go.Proofs.YtbffhblebigcfaaW.PrintWords Go.Proofs.YtbffhblebigcfaaW.PrintLast Go.Proofs.YtbffhblebigcfaaW.PrintMore
open Go.Maps
set_option linter.unusedVariables false
set_option linter.unusedSimpArgs false
theorem law3 : Keyed Try.prog 3 := int_keyed Try.underlying3
def okI (m : Int) : Prop := (Lit.int .i64 m).wf = true
theorem okI_of {m : Int} (h : -9223372036854775808 ≤ m ∧ m ≤ 9223372036854775807) : okI m := WalkArith.wf_i64 h
theorem okI_key {m : Int} (h : okI m) : keyOf Try.prog 3 (.int .i64 m) = some (.int .i64 m) := keyOf_int_mk Try.underlying3 h
structure El (α : Type) (e : TypeId) where
 enc : α → Value
 dat : α → DataW Unit
 ok : α → Prop
 put : ∀ x, ok x → plainElem Try.prog e (enc x) = some (dat x, [])
 inv : ∀ v x ps, plainElem Try.prog e v = some (dat x, ps) → v = enc x
 z : α
 okz : ok z
 zero : ∀ w : World, (zeroValue e).run Try.prog w = .ok (enc z) w
theorem lit_int {q : IntKind} {x c : Int} (h : (DataW.lit (.int q x) : DataW Unit) = .lit (.int q c)) : x = c := by
 simp only [DataW.lit.injEq, Lit.int.injEq, true_and] at h; exact h
theorem lit_bool {x c : Bool} (h : (DataW.lit (.bool x) : DataW Unit) = .lit (.bool c)) : x = c := by
 simp only [DataW.lit.injEq, Lit.bool.injEq] at h; exact h
def elI : El Int 3 where
 enc := fun x => .int .i64 x
 dat := fun x => .lit (.int .i64 x)
 ok := okI
 put := fun x h => plainElem_int Try.underlying3 h
 inv := fun v x ps h => by
  obtain ⟨c, rfl, h1, _⟩ := plainElem_int_inv Try.underlying3 h
  rw [lit_int (congrArg Prod.fst h1)]
 z := 0
 okz := okI_of (by omega)
 zero := fun w => by kernel_rfl
def elS : El Int 118 where
 enc := fun x => .int .u64 x
 dat := fun x => .lit (.int .u64 x)
 ok := fun x => (Lit.int .u64 x).wf = true
 put := fun x h => plainElem_int Try.underlying118 h
 inv := fun v x ps h => by
  obtain ⟨c, rfl, h1, _⟩ := plainElem_int_inv Try.underlying118 h
  rw [lit_int (congrArg Prod.fst h1)]
 z := 0
 okz := by decide
 zero := fun w => by kernel_rfl
theorem plainElem_bool_inv {v : Value} {z : DataW Unit × List MemPlace} (h : plainElem Try.prog 4 v = some z) : ∃ b, v = .bool b ∧ z = (.lit (.bool b), []) := by
 unfold plainElem at h
 simp only [Try.underlying4] at h
 split at h <;> simp_all
def elB : El Bool 4 where
 enc := fun x => .bool x
 dat := fun x => .lit (.bool x)
 ok := fun _ => True
 put := fun x _ => plainElem_bool Try.underlying4 x
 inv := fun v x ps h => by
  obtain ⟨c, rfl, h1⟩ := plainElem_bool_inv h
  rw [lit_bool (congrArg Prod.fst h1)]
 z := false
 okz := trivial
 zero := fun w => by kernel_rfl
section
variable {α : Type} {e : TypeId} {E : El α e} {w w' : World} {b n : Nat} {f : Int → Option α}
def MapIs (E : El α e) (w : World) (b n : Nat) (f : Int → Option α) : Prop :=
 ∃ D : DataW Unit, w.ownsMap Try.prog 3 (plainElem Try.prog e) b n D ∧ ∀ m, okI m → (f m = none → Maps.has D (.int .i64 m) = false) ∧ ∀ x, f m = some x → E.ok x ∧ Maps.has D (.int .i64 m) = true ∧ ∀ z, D.atKey (.int .i64 m) z = E.dat x
theorem MapIs.made (w : World) : MapIs E (w.alloc (.map #[] 0)) w.heap.size 0 (fun _ => none) :=
 ⟨.map [], World.ownsMap_made _ _ _ _, fun m _ => ⟨fun _ => rfl, fun x h => by cases h⟩⟩
theorem MapIs.lt (h : MapIs E w b n f) : b < w.heap.size := by obtain ⟨D, ho, _⟩ := h; exact ho.lt
theorem MapIs.kept {row : Option Nat} (h : MapIs E w b n f) (hg : w.grownBy w' row) (hne : some b ≠ row) : MapIs E w' b n f := by
 obtain ⟨D, ho, hf⟩ := h; exact ⟨D, ho.kept hg hne, hf⟩
theorem MapIs.below (h : MapIs E w b n f) (hb : Below w.heap.size w w') : MapIs E w' b n f := h.kept (grown_of_below hb none) (by simp)
theorem MapIs.alloc (h : MapIs E w b n f) (o : Obj) : MapIs E (w.alloc o) b n f := h.below (below_alloc (Below.refl _ _) _)
theorem MapIs.drew (h : MapIs E w b n f) : MapIs E w.drew b n f := h
theorem MapIs.setCell (h : MapIs E w b n f) {a : Addr} (ha : b ≠ a.block) (u : Value) : MapIs E (w.setCell a u) b n f := by
 obtain ⟨D, ho, hf⟩ := h; exact ⟨D, ho.setCell ha u, hf⟩
theorem MapIs.look_run {t : TypeId} (h : MapIs E w b n f) (ht : Try.prog.underlying t = some (.map 3 e)) {m : Int} (hm : okI m) (c : Bool) :
  (Instr.lookup t (.map (some b)) (.int .i64 m) c).run Try.prog w = .ok (if c then .tuple #[E.enc ((f m).getD E.z), .bool (f m).isSome] else E.enc ((f m).getD E.z)) w := by
 obtain ⟨D, ⟨es, clock, hb, F, _, rfl⟩, hf⟩ := h
 obtain ⟨hn, hs⟩ := hf m hm
 rcases Maps.fit_look c law3 ht (E.zero w) hb F (okI_key hm) with ⟨hrun, _, hat⟩ | ⟨e0, y, _, _, hrun, hRv, hat, _⟩
 ·have hh := Maps.has_false_of_atKey hat
  cases hfm : f m with
  | none => rw [hrun]; rfl
  | some x => obtain ⟨_, h1, _⟩ := hs x hfm; rw [hh] at h1; cases h1
 ·have hh := Maps.has_true_of_atKey hat
  cases hfm : f m with
  | none => rw [hn hfm] at hh; cases hh
  | some x =>
   obtain ⟨_, _, h2⟩ := hs x hfm
   have e1 := h2 (.lit (.int .i64 0))
   rw [hat] at e1
   have : e0.val = E.enc x := E.inv _ _ y.2 (by rw [hRv, ← e1])
   rw [hrun, this]; rfl
def upd (f : Int → Option α) (m : Int) (x : α) : Int → Option α := fun k => if k = m then some x else f k
theorem MapIs.store_run {t : TypeId} (h : MapIs E w b n f) (ht : Try.prog.underlying t = some (.map 3 e)) (hn : n < maxLen) {m : Int} (hm : okI m) {x : α} (hx : E.ok x) :
  ∃ w', (Instr.mapUpdate t (.map (some b)) (.int .i64 m) (E.enc x)).run Try.prog w = .ok () w' ∧ MapIs E w' b (n + 1) (upd f m x) ∧ w.grownBy w' (some b) := by
 obtain ⟨D, ho, hf⟩ := h
 have hM := ho.isMap
 have hk : WideAt.IsKeyLit (.int .i64 m) := law3.key (okI_key hm)
 obtain ⟨w', hrun, ho', ht'⟩ := ho.store law3 ht hn (okI_key hm) (E.put x hx)
 refine ⟨w', hrun, ⟨_, ho', fun k hk' => ?_⟩, ht'.grown⟩
 by_cases hkm : k = m
 ·subst hkm
  refine ⟨fun h0 => by simp [upd] at h0, fun y hy => ?_⟩
  have : y = x := by simpa [upd] using hy.symm
  subst this
  exact ⟨hx, Maps.has_put_same hM hk _, fun z => Maps.atKey_put_same hM hk _ z⟩
 ·have hne : (Lit.int .i64 k) ≠ .int .i64 m := fun h0 => hkm (by injection h0)
  have e1 : upd f m x k = f k := by simp [upd, hkm]
  rw [e1]
  obtain ⟨h1, h2⟩ := hf k hk'
  exact ⟨fun h0 => by rw [Maps.has_put_other hne]; exact h1 h0, fun y hy => ⟨(h2 y hy).1, by rw [Maps.has_put_other hne]; exact (h2 y hy).2.1, fun z => by rw [Maps.atKey_put_other hne]; exact (h2 y hy).2.2 z⟩⟩
theorem MapIs.mono (h : MapIs E w b n f) {n' : Nat} (hn : n ≤ n') : MapIs E w b n' f := by
 obtain ⟨D, ho, hf⟩ := h; exact ⟨D, ho.mono hn, hf⟩
end
section
variable {α : Type} {e : TypeId} {E : El α e} {b n : Nat} {f : Int → Option α} (w : World) {ops : Array Oper} {rest : List Oper} {o : Oper} {a : Act} {Q : Exit → Act → World → Prop}
theorem wpList_mapIs_look (hg : o.guard = none) (m x : Operand) (t : TypeId) (c : Bool) (hop : o.op = Op.lookup t m x c) (ht : Try.prog.underlying t = some (.map 3 e)) (b n : Nat) (f : Int → Option α) (h : MapIs E w b n f)
  (hm : a.eval m = .map (some b)) (k : Int) (hx : a.eval x = .int .i64 k) (hk : okI k) (r : Value) (hr : (if c then .tuple #[E.enc ((f k).getD E.z), .bool (f k).isSome] else E.enc ((f k).getD E.z)) = r)
  (hK : wpList Try.prog ops Q rest (a.put o.dst r) w) : wpList Try.prog ops Q (o :: rest) a w := by
 refine wpList_plain hg fun K' hK' => ?_
 have hrun := h.look_run ht hk c
 rw [hr] at hrun
 unfold Oper.wp
 simp [execOp, hop, hm, hx, hrun, Result.andThen]
 exact hK' _ _ hK
theorem wpList_mapIs_store (hg : o.guard = none) (m x v : Operand) (t : TypeId) (hop : o.op = Op.mapUpdate t m x v) (ht : Try.prog.underlying t = some (.map 3 e)) (b n : Nat) (f : Int → Option α) (h : MapIs E w b n f) (hn : n < maxLen)
  (hm : a.eval m = .map (some b)) (k : Int) (hx : a.eval x = .int .i64 k) (hk : okI k) (y : α) (hy : E.ok y) (hv : a.eval v = E.enc y)
  (hK : ∀ w', MapIs E w' b (n + 1) (upd f k y) → w.grownBy w' (some b) → wpList Try.prog ops Q rest (a.put o.dst undef) w') : wpList Try.prog ops Q (o :: rest) a w := by
 refine wpList_plain hg fun K' hK' => ?_
 obtain ⟨w', hrun, h1, h2⟩ := h.store_run ht hn hk hy
 unfold Oper.wp
 simp [execOp, hop, hm, hx, hv, hrun, Result.andThen]
 exact hK' _ _ (hK w' h1 h2)
end
end Go.Proofs.Ytbffhblebigcfaa.Sk
