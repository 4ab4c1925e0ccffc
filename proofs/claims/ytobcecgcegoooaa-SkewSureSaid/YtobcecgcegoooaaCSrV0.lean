/- The walk of skew.all: whether all spans of a list are formed. -/
import Derived.Test.YtobcecgcegoooaaRows
import Derived.WalkKit
import Derived.ProofKit
import Derived.OpenShut
import Derived.ShutString
import Derived.ChangeOld
import Derived.Below
import Derived.SizedLaws
import Derived.Deep.Slices
import Derived.Maps.OwnSet
import Derived.Maps.RangeWalk
import Derived.StillTailTactics
import Derived.WalkMore
import Derived.RangeFuncNested
import Derived.RangeFuncBound
import Derived.RangeFuncCalls
import Derived.RangeFuncLeaves
import Derived.Shelf.Abstract
import Derived.Shelf.RegionOpen
import Derived.OwnWalkIn
import Derived.TacticsInMore
import Derived.LoopNIn
import Derived.LoopIn
import Derived.Test.YtobcecgcegoooaaCSrS0
namespace Go.Proofs.Ytobcecgcegoooaa.Sk
open Go.RowKit Go.Deep Go.WideShapes Go.ChangeShapes Go.Proofs.YtobcecgcegoooaaW.PrintWords Go.Proofs.YtobcecgcegoooaaW.PrintLast Go.Proofs.YtobcecgcegoooaaW.PrintMore
set_option linter.unusedVariables false
set_option linter.unusedSimpArgs false
def I64 (z : Int) : Prop := (Lit.int .i64 z).wf = true
def Rd {α : Type} (w : World) (t : TypeId) (d : Kd α) (ok : α → Prop) : Prop := ∀ {H : Type} (enc : TypeId × Value → H) (spare : Nat → Bool) (held : Bool) (n : Nat) (cs : List Value) (x : DataW H × List MemPlace), DataW.trod enc Try.prog w 0 spare held n t cs = some x → ∃ a : α, d.K w a cs ∧ ok a
theorem Rd.int (w : World) {t : TypeId} {k : IntKind} (ht : Try.prog.underlying t = some (.int k)) : Rd w t (Kd.int k) (fun z => (Lit.int k z).wf = true) := by
 intro H enc spare held n cs x h; obtain ⟨z, rfl, _, hz⟩ := DataW.trod_int ht h; exact ⟨z, rfl, hz⟩
theorem ints_of_struct {w : World} {t : TypeId} {fs : Array Field} (hs : Try.prog.underlying t = some (.struct fs)) (hc : Try.prog.cellsOf t = fs.size) (hf : ∀ (i : Nat) (f : Field), fs[i]? = some f → f.offset = i ∧ Try.prog.underlying f.type = some (.int .i64) ∧ Try.prog.cellsOf f.type = 1)
  {H : Type} {enc : TypeId × Value → H} {spare : Nat → Bool} {held : Bool} {n : Nat} {cs : List Value} {x : DataW H × List MemPlace} (h : DataW.trod enc Try.prog w 0 spare held n t cs = some x) :
  cs.length = fs.size ∧ ∀ i, i < fs.size → ∃ z, cs[i]? = some (.int .i64 z) ∧ I64 z := by
 obtain ⟨xs, m, _, _, hl, hxl, hg⟩ := DataW.trod_struct hs h; refine ⟨hl.trans hc, fun i hi => ?_⟩; obtain ⟨h1, h2, h3⟩ := hf i fs[i] (by simp [hi]); have h4 := hg i fs[i] (by simp [hi]); rw [h1, h3, List.getElem?_eq_getElem (by omega)] at h4; obtain ⟨z, hz, _, hw⟩ := DataW.trod_int h2 h4; refine ⟨z, ?_, hw⟩; have h5 := congrArg (·[0]?) hz
 simpa using h5
theorem list2 {α : Type} {l : List α} (h : l.length = 2) : ∃ a b, l = [a, b] := by
 match l, h with
 | [a, b], _ => exact ⟨a, b, rfl⟩
theorem list4 {α : Type} {l : List α} (h : l.length = 4) : ∃ a b c d, l = [a, b, c, d] := by
 match l, h with
 | [a, b, c, d], _ => exact ⟨a, b, c, d, rfl⟩
def ok27 (x : S27) : Prop := I64 x.f0 ∧ I64 x.f1
def ok86 (x : S86) : Prop := I64 x.f0 ∧ I64 x.f1 ∧ I64 x.f2 ∧ I64 x.f3
theorem fields2 {e : TypeId} (he : Try.prog.underlying e = some (.int .i64)) (hc : Try.prog.cellsOf e = 1) {fs : Array Field} (h : fs.toList.map (fun f => (f.offset, f.type)) = [(0, e), (1, e)]) : ∀ (i : Nat) (f : Field), fs[i]? = some f → f.offset = i ∧ Try.prog.underlying f.type = some (.int .i64) ∧ Try.prog.cellsOf f.type = 1 := by
 intro i f hi; have h1 := congrArg (·[i]?) h
 simp [hi] at h1
 rcases i with _ | _ | i <;> simp_all
theorem fields4 {e : TypeId} (he : Try.prog.underlying e = some (.int .i64)) (hc : Try.prog.cellsOf e = 1) {fs : Array Field} (h : fs.toList.map (fun f => (f.offset, f.type)) = [(0, e), (1, e), (2, e), (3, e)]) : ∀ (i : Nat) (f : Field), fs[i]? = some f → f.offset = i ∧ Try.prog.underlying f.type = some (.int .i64) ∧ Try.prog.cellsOf f.type = 1 := by
 intro i f hi; have h1 := congrArg (·[i]?) h
 simp [hi] at h1
 rcases i with _ | _ | _ | _ | i <;> simp_all
theorem cells3 : Try.prog.cellsOf 3 = 1 := by kernel_rfl
theorem two_of {w : World} {t : TypeId} {fs : Array Field} (hs : Try.prog.underlying t = some (.struct fs)) (hc : Try.prog.cellsOf t = 2) (h : fs.toList.map (fun f => (f.offset, f.type)) = [(0, 3), (1, 3)])
  {H : Type} {enc : TypeId × Value → H} {spare : Nat → Bool} {held : Bool} {n : Nat} {cs : List Value} {x : DataW H × List MemPlace} (hx : DataW.trod enc Try.prog w 0 spare held n t cs = some x) : ∃ a b, cs = [.int .i64 a, .int .i64 b] ∧ I64 a ∧ I64 b := by
 have hsz : fs.size = 2 := by have := congrArg List.length h; simpa using this
 obtain ⟨hl, hg⟩ := ints_of_struct hs (by rw [hc, hsz]) (fields2 Try.underlying3 cells3 h) hx; obtain ⟨u, v, rfl⟩ := list2 (hl.trans hsz); obtain ⟨a, ha, wa⟩ := hg 0 (by omega); obtain ⟨b, hb, wb⟩ := hg 1 (by omega)
 simp at ha hb
 exact ⟨a, b, by rw [ha, hb], wa, wb⟩
theorem four_of {w : World} {t : TypeId} {fs : Array Field} (hs : Try.prog.underlying t = some (.struct fs)) (hc : Try.prog.cellsOf t = 4) (h : fs.toList.map (fun f => (f.offset, f.type)) = [(0, 3), (1, 3), (2, 3), (3, 3)])
  {H : Type} {enc : TypeId × Value → H} {spare : Nat → Bool} {held : Bool} {n : Nat} {cs : List Value} {x : DataW H × List MemPlace} (hx : DataW.trod enc Try.prog w 0 spare held n t cs = some x) : ∃ a b c d, cs = [.int .i64 a, .int .i64 b, .int .i64 c, .int .i64 d] ∧ I64 a ∧ I64 b ∧ I64 c ∧ I64 d := by
 have hsz : fs.size = 4 := by have := congrArg List.length h; simpa using this
 obtain ⟨hl, hg⟩ := ints_of_struct hs (by rw [hc, hsz]) (fields4 Try.underlying3 cells3 h) hx; obtain ⟨u, v, q, r, rfl⟩ := list4 (hl.trans hsz); obtain ⟨a, ha, wa⟩ := hg 0 (by omega); obtain ⟨b, hb, wb⟩ := hg 1 (by omega); obtain ⟨c, hc', wc⟩ := hg 2 (by omega); obtain ⟨d, hd, wd⟩ := hg 3 (by omega)
 simp at ha hb hc' hd
 exact ⟨a, b, c, d, by rw [ha, hb, hc', hd], wa, wb, wc, wd⟩
theorem Rd.s27 (w : World) : Rd w 27 k27 ok27 := by
 intro H enc spare held n cs x h; obtain ⟨a, b, rfl, wa, wb⟩ := two_of Try.underlying27 (by kernel_rfl) (by kernel_rfl) h; exact ⟨⟨a, b⟩, k27_mk w _, wa, wb⟩
theorem Rd.s86 (w : World) : Rd w 86 k86 ok86 := by
 intro H enc spare held n cs x h; obtain ⟨a, b, c, d, rfl, wa, wb, wc, wd⟩ := four_of Try.underlying86 (by kernel_rfl) (by kernel_rfl) h; exact ⟨⟨a, b, c, d⟩, k86_mk w _, wa, wb, wc, wd⟩
theorem Rd.slice {α : Type} {w : World} {t e : TypeId} {d : Kd α} {ok : α → Prop} (ht : Try.prog.underlying t = some (.slice e)) (hs : Try.prog.cellsOf e = d.sz) (hd : Rd w e d ok)
  {H : Type} {enc : TypeId × Value → H} {spare : Nat → Bool} {held : Bool} {n : Nat} {cs : List Value} {x : DataW H × List MemPlace} (h : DataW.trod enc Try.prog w 0 spare held n t cs = some x) :
  ∃ (A : Option Addr) (c : Nat) (xs : List α), cs = [.slice A xs.length c] ∧ xs.length ≤ c ∧ d.C w A xs.length xs ∧ ∀ a ∈ xs, ok a := by
 rcases open_slice ht h with ⟨rfl, _⟩ | ⟨a, len, cap, m, k, D, Pl, rfl, _, hl, hm, hmm, _, hx⟩
 ·exact ⟨none, 0, [], rfl, Nat.le_refl _, ⟨rfl, Nat.zero_le _, fun h => by simp at h⟩, fun a h => by simp at h⟩
 ·have hlm : len ≤ m := by rw [hmm]; split <;> omega
  have each : ∀ i, i < len → ∃ q : α, ok q ∧ ∃ c : List Value, c.length = d.sz ∧ d.K w q c ∧ ∀ j u, c[j]? = some u → w.cell? (a.add (i * d.sz + j)) = some u := by
   intro i hi; obtain ⟨cs', h1, h2⟩ := hx i (by omega); obtain ⟨q, hK, hq⟩ := hd enc spare held k cs' _ h2; obtain ⟨_, hlen, hcell⟩ := World.cells?_some h1; refine ⟨q, hq, cs', d.K_len hK, hK, fun j u hu => ?_⟩; have hj := (List.getElem?_eq_some_iff.mp hu).1; have := hcell j (by omega); rw [Deep.add_add, hs] at this; rw [this, hu]
  rcases Nat.eq_zero_or_pos len with h0 | h0
  ·subst h0; exact ⟨some a, cap, [], rfl, Nat.zero_le _, ⟨rfl, Nat.zero_le _, fun h => by simp at h⟩, fun a h => by simp at h⟩
  ·obtain ⟨q0, _⟩ := each 0 h0
   haveI : Inhabited α := ⟨q0⟩
   obtain ⟨f, hf⟩ := choose_lt each
   have hlen : ((List.range len).map f).length = len := by simp
   refine ⟨some a, cap, (List.range len).map f, by rw [hlen], by rw [hlen]; exact hl, ⟨rfl, by rw [hlen]; simp only [maxLen] at hm; omega, fun _ => ⟨a, rfl, fun j p hj => ?_⟩⟩, fun p hp => ?_⟩
   ·have hjl : j < len := by have := (List.getElem?_eq_some_iff.mp hj).1; simpa using this
    have hp : p = f j := by
     rw [List.getElem?_map, List.getElem?_range hjl] at hj
     simpa using hj.symm
    subst hp; obtain ⟨_, c, h1, h2, h3⟩ := hf j hjl; exact ⟨c, h1, h2, h3⟩
   ·obtain ⟨i, hi, rfl⟩ := List.mem_map.mp hp; exact (hf i (List.mem_range.mp hi)).1
theorem laidOut' : laidOutB Try.prog = true := by kernel_rfl
theorem own' : ownKnob Try.prog.godebug = none := by kernel_rfl
end Go.Proofs.Ytobcecgcegoooaa.Sk
namespace Go.Proofs.Ytobcecgcegoooaa.Sk
open Go.RowKit Go.Deep Go.WideShapes Go.ChangeShapes Go.Proofs.YtobcecgcegoooaaW.PrintWords Go.Proofs.YtobcecgcegoooaaW.PrintLast Go.Proofs.YtobcecgcegoooaaW.PrintMore
set_option linter.unusedVariables false
set_option linter.unusedSimpArgs false
set_option maxRecDepth 100000 in
theorem hist_of {w : World} {H : Type} {enc : TypeId × Value → H} {spare : Nat → Bool} {held : Bool} {n : Nat} {cs : List Value} {x : DataW H × List MemPlace} (hx : DataW.trod enc Try.prog w 0 spare held n 39 cs = some x) :
  ∃ (A : Option Addr) (c : Nat) (l : List S27) (B : Option Addr) (e : Nat) (g : List S86), cs = [.slice A l.length c, .slice B g.length e] ∧ l.length ≤ c ∧ k27.C w A l.length l ∧ (∀ a ∈ l, ok27 a) ∧ g.length ≤ e ∧ k86.C w B g.length g ∧ ∀ a ∈ g, ok86 a := by
 obtain ⟨xs, m, _, _, hl, hxl, hg⟩ := DataW.trod_struct Try.underlying39 hx; have hl2 : cs.length = 2 := hl.trans (by kernel_rfl); have hx2 : xs.length = 2 := hxl; have k0 := hg 0 _ rfl; have k1 := hg 1 _ rfl
 have hs : ∀ i, i < 2 → (xs[i]?).isSome = true := fun i hi => by rw [List.getElem?_eq_getElem (by omega)]; rfl
 obtain ⟨y0, hy0⟩ := Option.isSome_iff_exists.mp (hs 0 (by omega)); obtain ⟨y1, hy1⟩ := Option.isSome_iff_exists.mp (hs 1 (by omega)); rw [hy0] at k0; rw [hy1] at k1; obtain ⟨A, c, l, h0, hc, hC, ok⟩ := Rd.slice (d := k27) Try.underlying36 (by kernel_rfl) (Rd.s27 w) k0; obtain ⟨B, e, g, h1, he, hE, okg⟩ := Rd.slice (d := k86) Try.underlying37 (by kernel_rfl) (Rd.s86 w) k1; refine ⟨A, c, l, B, e, g, ?_, hc, hC, ok, he, hE, okg⟩; obtain ⟨u, v, rfl⟩ := list2 hl2
 have c36 : Try.prog.cellsOf 36 = 1 := by kernel_rfl
 have c37 : Try.prog.cellsOf 37 = 1 := by kernel_rfl
 have e0 : ([u, v].drop 0).take 1 = [Value.slice A l.length c] := (congrArg (fun n => ([u, v].drop 0).take n) c36.symm).trans h0; have e1 : ([u, v].drop 1).take 1 = [Value.slice B g.length e] := (congrArg (fun n => ([u, v].drop 1).take n) c37.symm).trans h1; simp only [List.drop_zero, List.take_succ_cons, List.take_zero, List.drop_succ_cons, List.cons.injEq, and_true] at e0 e1; rw [e0, e1]
end Go.Proofs.Ytobcecgcegoooaa.Sk
namespace Go.Proofs.Ytobcecgcegoooaa.Sk
open Go.RowKit Go.Proofs.YtobcecgcegoooaaW.PrintWords Go.Proofs.YtobcecgcegoooaaW.PrintLast Go.Proofs.YtobcecgcegoooaaW.PrintMore
set_option linter.unusedVariables false
set_option linter.unusedSimpArgs false
theorem cell_at {w : World} {g : Nat} {t : TypeId} {cs : Array Value} (h : w.heap[g]? = some (.cells cs t (0, 0))) (i : Nat) (v : Value) (hv : cs[i]? = some v) : w.cell? ⟨g, i, none⟩ = some v := (Bc h i).trans hv
theorem cell_drew {w : World} {a : Addr} {v : Value} (h : w.cell? a = some v) : w.drew.cell? a = some v := h
theorem blk_far {W : World} {g g' j : Nat} {o : Obj} (h : W.heap[g]? = some o) (hne : g ≠ g') (v : Value) : (W.setCell ⟨g', j, none⟩ v).heap[g]? = some o := (Below.heap_setCell W ⟨g', j, none⟩ v g hne).trans h
end Go.Proofs.Ytobcecgcegoooaa.Sk
namespace Go.Proofs.Ytobcecgcegoooaa.Sk
open Go.RowKit Go.Proofs.YtobcecgcegoooaaW.PrintWords Go.Proofs.YtobcecgcegoooaaW.PrintLast Go.Proofs.YtobcecgcegoooaaW.PrintMore
open Go.Maps
set_option linter.unusedVariables false
set_option linter.unusedSimpArgs false
theorem law3 : Keyed Try.prog 3 := int_keyed Try.underlying3
def okI (m : Int) : Prop := (Lit.int .i64 m).wf = true
theorem okI_of {m : Int} (h : -9223372036854775808 ≤ m ∧ m ≤ 9223372036854775807) : okI m := WalkArith.wf_i64 h
theorem okI_key {m : Int} (h : okI m) : keyOf Try.prog 3 (.int .i64 m) = some (.int .i64 m) := keyOf_int_mk Try.underlying3 h
structure El (α : Type) (e : TypeId) where
 enc : α → Value
 dat : α → DataW Unit
 ok : α → Prop
 put : ∀ x, ok x → plainElem Try.prog e (enc x) = some (dat x, [])
 inv : ∀ v x ps, plainElem Try.prog e v = some (dat x, ps) → v = enc x
 z : α
 okz : ok z
 zero : ∀ w : World, (zeroValue e).run Try.prog w = .ok (enc z) w
theorem lit_int {q : IntKind} {x c : Int} (h : (DataW.lit (.int q x) : DataW Unit) = .lit (.int q c)) : x = c := by
 simp only [DataW.lit.injEq, Lit.int.injEq, true_and] at h; exact h
theorem lit_bool {x c : Bool} (h : (DataW.lit (.bool x) : DataW Unit) = .lit (.bool c)) : x = c := by
 simp only [DataW.lit.injEq, Lit.bool.injEq] at h; exact h
def elI : El Int 3 where
 enc := fun x => .int .i64 x
 dat := fun x => .lit (.int .i64 x)
 ok := okI
 put := fun x h => plainElem_int Try.underlying3 h
 inv := fun v x ps h => by
  obtain ⟨c, rfl, h1, _⟩ := plainElem_int_inv Try.underlying3 h; rw [lit_int (congrArg Prod.fst h1)]
 z := 0
 okz := okI_of (by omega)
 zero := fun w => by kernel_rfl
def elS : El Int 122 where
 enc := fun x => .int .u64 x
 dat := fun x => .lit (.int .u64 x)
 ok := fun x => (Lit.int .u64 x).wf = true
 put := fun x h => plainElem_int Try.underlying122 h
 inv := fun v x ps h => by
  obtain ⟨c, rfl, h1, _⟩ := plainElem_int_inv Try.underlying122 h; rw [lit_int (congrArg Prod.fst h1)]
 z := 0
 okz := by decide
 zero := fun w => by kernel_rfl
theorem plainElem_bool_inv {v : Value} {z : DataW Unit × List MemPlace} (h : plainElem Try.prog 4 v = some z) : ∃ b, v = .bool b ∧ z = (.lit (.bool b), []) := by
 unfold plainElem at h; simp only [Try.underlying4] at h
 split at h <;> simp_all
def elB : El Bool 4 where
 enc := fun x => .bool x
 dat := fun x => .lit (.bool x)
 ok := fun _ => True
 put := fun x _ => plainElem_bool Try.underlying4 x
 inv := fun v x ps h => by
  obtain ⟨c, rfl, h1⟩ := plainElem_bool_inv h; rw [lit_bool (congrArg Prod.fst h1)]
 z := false
 okz := trivial
 zero := fun w => by kernel_rfl
section
variable {α : Type} {e : TypeId} {E : El α e} {w w' : World} {b n : Nat} {f : Int → Option α}
def MapIs (E : El α e) (w : World) (b n : Nat) (f : Int → Option α) : Prop :=
 ∃ D : DataW Unit, w.ownsMap Try.prog 3 (plainElem Try.prog e) b n D ∧ ∀ m, okI m → (f m = none → Maps.has D (.int .i64 m) = false) ∧ ∀ x, f m = some x → E.ok x ∧ Maps.has D (.int .i64 m) = true ∧ ∀ z, D.atKey (.int .i64 m) z = E.dat x
theorem MapIs.made (w : World) : MapIs E (w.alloc (.map #[] 0)) w.heap.size 0 (fun _ => none) :=
 ⟨.map [], World.ownsMap_made _ _ _ _, fun m _ => ⟨fun _ => rfl, fun x h => by cases h⟩⟩
theorem MapIs.lt (h : MapIs E w b n f) : b < w.heap.size := by obtain ⟨D, ho, _⟩ := h; exact ho.lt
theorem MapIs.kept {row : Option Nat} (h : MapIs E w b n f) (hg : w.grownBy w' row) (hne : some b ≠ row) : MapIs E w' b n f := by
 obtain ⟨D, ho, hf⟩ := h; exact ⟨D, ho.kept hg hne, hf⟩
theorem MapIs.below (h : MapIs E w b n f) (hb : Below w.heap.size w w') : MapIs E w' b n f := h.kept (grown_of_below hb none) (by simp)
theorem MapIs.alloc (h : MapIs E w b n f) (o : Obj) : MapIs E (w.alloc o) b n f := h.below (Ba (Below.refl _ _) _)
theorem MapIs.drew (h : MapIs E w b n f) : MapIs E w.drew b n f := h
theorem MapIs.setCell (h : MapIs E w b n f) {a : Addr} (ha : b ≠ a.block) (u : Value) : MapIs E (w.setCell a u) b n f := by
 obtain ⟨D, ho, hf⟩ := h; exact ⟨D, ho.setCell ha u, hf⟩
theorem MapIs.look_run {t : TypeId} (h : MapIs E w b n f) (ht : Try.prog.underlying t = some (.map 3 e)) {m : Int} (hm : okI m) (c : Bool) :
  (Instr.lookup t (.map (some b)) (.int .i64 m) c).run Try.prog w = .ok (if c then .tuple #[E.enc ((f m).getD E.z), .bool (f m).isSome] else E.enc ((f m).getD E.z)) w := by
 obtain ⟨D, ⟨es, clock, hb, F, _, rfl⟩, hf⟩ := h; obtain ⟨hn, hs⟩ := hf m hm
 rcases Maps.fit_look c law3 ht (E.zero w) hb F (okI_key hm) with ⟨hrun, _, hat⟩ | ⟨e0, y, _, _, hrun, hRv, hat, _⟩
 ·have hh := Maps.has_false_of_atKey hat
  cases hfm : f m with
  | none => rw [hrun]; rfl
  | some x => obtain ⟨_, h1, _⟩ := hs x hfm; rw [hh] at h1; cases h1
 ·have hh := Maps.has_true_of_atKey hat
  cases hfm : f m with
  | none => rw [hn hfm] at hh; cases hh
  | some x =>
   obtain ⟨_, _, h2⟩ := hs x hfm; have e1 := h2 (.lit (.int .i64 0)); rw [hat] at e1; have : e0.val = E.enc x := E.inv _ _ y.2 (by rw [hRv, ← e1]); rw [hrun, this]; rfl
def upd (f : Int → Option α) (m : Int) (x : α) : Int → Option α := fun k => if k = m then some x else f k
theorem MapIs.store_run {t : TypeId} (h : MapIs E w b n f) (ht : Try.prog.underlying t = some (.map 3 e)) (hn : n < maxLen) {m : Int} (hm : okI m) {x : α} (hx : E.ok x) :
  ∃ w', (Instr.mapUpdate t (.map (some b)) (.int .i64 m) (E.enc x)).run Try.prog w = .ok () w' ∧ MapIs E w' b (n + 1) (upd f m x) ∧ w.grownBy w' (some b) := by
 obtain ⟨D, ho, hf⟩ := h; have hM := ho.isMap; have hk : WideAt.IsKeyLit (.int .i64 m) := law3.key (okI_key hm); obtain ⟨w', hrun, ho', ht'⟩ := ho.store law3 ht hn (okI_key hm) (E.put x hx); refine ⟨w', hrun, ⟨_, ho', fun k hk' => ?_⟩, ht'.grown⟩
 by_cases hkm : k = m
 ·subst hkm; refine ⟨fun h0 => by simp [upd] at h0, fun y hy => ?_⟩
  have : y = x := by simpa [upd] using hy.symm
  subst this; exact ⟨hx, Maps.has_put_same hM hk _, fun z => Maps.atKey_put_same hM hk _ z⟩
 ·have hne : (Lit.int .i64 k) ≠ .int .i64 m := fun h0 => hkm (by injection h0)
  have e1 : upd f m x k = f k := by simp [upd, hkm]
  rw [e1]; obtain ⟨h1, h2⟩ := hf k hk'; exact ⟨fun h0 => by rw [Maps.has_put_other hne]; exact h1 h0, fun y hy => ⟨(h2 y hy).1, by rw [Maps.has_put_other hne]; exact (h2 y hy).2.1, fun z => by rw [Maps.atKey_put_other hne]; exact (h2 y hy).2.2 z⟩⟩
theorem MapIs.mono (h : MapIs E w b n f) {n' : Nat} (hn : n ≤ n') : MapIs E w b n' f := by
 obtain ⟨D, ho, hf⟩ := h; exact ⟨D, ho.mono hn, hf⟩
end
section
variable {α : Type} {e : TypeId} {E : El α e} {b n : Nat} {f : Int → Option α} (w : World) {ops : Array Oper} {rest : List Oper} {o : Oper} {a : Act} {Q : Exit → Act → World → Prop}
theorem wpList_mapIs_look (hg : o.guard = none) (m x : Operand) (t : TypeId) (c : Bool) (hop : o.op = Op.lookup t m x c) (ht : Try.prog.underlying t = some (.map 3 e)) (b n : Nat) (f : Int → Option α) (h : MapIs E w b n f)
  (hm : a.eval m = .map (some b)) (k : Int) (hx : a.eval x = .int .i64 k) (hk : okI k) (r : Value) (hr : (if c then .tuple #[E.enc ((f k).getD E.z), .bool (f k).isSome] else E.enc ((f k).getD E.z)) = r)
  (hK : wpList Try.prog ops Q rest (a.put o.dst r) w) : wpList Try.prog ops Q (o :: rest) a w := by
 refine wpList_plain hg fun K' hK' => ?_
 have hrun := h.look_run ht hk c; rw [hr] at hrun; unfold Oper.wp
 simp [execOp, hop, hm, hx, hrun, Result.andThen]
 exact hK' _ _ hK
theorem wpList_mapIs_store (hg : o.guard = none) (m x v : Operand) (t : TypeId) (hop : o.op = Op.mapUpdate t m x v) (ht : Try.prog.underlying t = some (.map 3 e)) (b n : Nat) (f : Int → Option α) (h : MapIs E w b n f) (hn : n < maxLen)
  (hm : a.eval m = .map (some b)) (k : Int) (hx : a.eval x = .int .i64 k) (hk : okI k) (y : α) (hy : E.ok y) (hv : a.eval v = E.enc y)
  (hK : ∀ w', MapIs E w' b (n + 1) (upd f k y) → w.grownBy w' (some b) → wpList Try.prog ops Q rest (a.put o.dst undef) w') : wpList Try.prog ops Q (o :: rest) a w := by
 refine wpList_plain hg fun K' hK' => ?_
 obtain ⟨w', hrun, h1, h2⟩ := h.store_run ht hn hk hy; unfold Oper.wp
 simp [execOp, hop, hm, hx, hv, hrun, Result.andThen]
 exact hK' _ _ (hK w' h1 h2)
end
end Go.Proofs.Ytobcecgcegoooaa.Sk
namespace Go.Proofs.Ytobcecgcegoooaa.Sk
open Go.RowKit Go.Proofs.YtobcecgcegoooaaW.PrintWords Go.Proofs.YtobcecgcegoooaaW.PrintLast Go.Proofs.YtobcecgcegoooaaW.PrintMore
def mn (x y : Int) : Int := if y < x then y else x
theorem mn_eq (x y : Int) : mn x y = min x y := by unfold mn; omega
theorem min2_mn (k k' : IntKind) (x y : Int) : Builtin.min2 (.int k x) (.int k' y) = pure (.int k (mn x y)) := min2_int k k' x y
attribute [local go_sem high] min2_mn min_two
set_option linter.unusedVariables false
set_option linter.unusedSimpArgs false
structure Bd (W : World) (b : Nat) (e g : Value) (B : Int → Int → Int) : Prop where
 blk : ∃ cs, W.heap[b]? = some (.cells cs 113 (0, 0))
 c0 : W.cell? ⟨b, 0, none⟩ = some e
 c1 : W.cell? ⟨b, 1, none⟩ = some g
 at' : ∀ i j : Int, 0 ≤ i → i < 11 → 0 ≤ j → j < 11 → W.cell? ⟨b, 2 + i.toNat * 11 + j.toNat, none⟩ = some (.int .i64 (B i j))
def set2 (B : Int → Int → Int) (i j x : Int) : Int → Int → Int := fun a c => if a = i ∧ c = j then x else B a c
section
variable {W W' : World} {b : Nat} {e g : Value} {B : Int → Int → Int}
theorem Bd.lt (h : Bd W b e g B) : b < W.heap.size := by obtain ⟨cs, hc⟩ := h.blk; exact blk_lt hc
theorem Bd.fz (h : Bd W b e g B) (i : Nat) : W.frozen? ⟨b, i, none⟩ = false := by obtain ⟨cs, hc⟩ := h.blk; exact Bf hc i
theorem Bd.below (h : Bd W b e g B) (hb : Below W.heap.size W W') : Bd W' b e g B := by
 obtain ⟨cs, hc⟩ := h.blk; exact ⟨⟨cs, blk_below hc hb⟩, pw_cell_below hb h.c0, pw_cell_below hb h.c1, fun i j h0 h1 h2 h3 => pw_cell_below hb (h.at' i j h0 h1 h2 h3)⟩
theorem Bd.alloc (h : Bd W b e g B) (o : Obj) : Bd (W.alloc o) b e g B := h.below (Ba (Below.refl _ _) _)
theorem Bd.drew (h : Bd W b e g B) : Bd W.drew b e g B := h.below (Dn (Below.refl _ _))
theorem Bd.put (h : Bd W b e g B) (i j x : Int) (i0 : 0 ≤ i) (i1 : i < 11) (j0 : 0 ≤ j) (j1 : j < 11) : Bd (W.setCell ⟨b, 2 + i.toNat * 11 + j.toNat, none⟩ (.int .i64 x)) b e g (set2 B i j x) := by
 obtain ⟨cs, hc⟩ := h.blk
 have hne : ∀ k, k ≠ 2 + i.toNat * 11 + j.toNat → (W.setCell ⟨b, 2 + i.toNat * 11 + j.toNat, none⟩ (.int .i64 x)).cell? ⟨b, k, none⟩ = W.cell? ⟨b, k, none⟩ := fun k hk => World.cell?_setCell_other W _ _ _ (by intro hh; injection hh with _ h2 _; exact hk h2.symm)
 refine ⟨⟨_, blk_put hc _ _ rfl⟩, (hne 0 (by omega)).trans h.c0, (hne 1 (by omega)).trans h.c1, fun a c a0 a1 c0 c1 => ?_⟩
 by_cases hac : a = i ∧ c = j
 ·obtain ⟨rfl, rfl⟩ := hac; rw [World.cell?_setCell_same W _ _ (h.at' a c a0 a1 c0 c1)]
  simp [set2]
 ·rw [hne _ (by omega), h.at' a c a0 a1 c0 c1]
  simp [set2, hac]
end
structure S158 where
 f0 : Int
 f1 : Int
 f2 : Int
 f3 : Int
theorem gb_put {w W : World} {b : Nat} (h : w.grownBy W (some b)) (j : Nat) (v : Value) : w.grownBy (W.setCell ⟨b, j, none⟩ v) (some b) :=
 ⟨h.os, h.tape, h.output, by rw [World.size_setCell]; exact h.size, fun i hi hr => (Below.heap_setCell W ⟨b, j, none⟩ v i (fun e => hr (congrArg some e))).trans (h.block i hi hr)⟩
theorem gb_drew {w W : World} {r : Option Nat} (h : w.grownBy W r) : w.grownBy W.drew r := ⟨h.os, h.tape, h.output, h.size, h.block⟩
theorem gb_below {w w' : World} {base r : Nat} (h : w.grownBy w' (some r)) (hr : base ≤ r) (hb : base ≤ w.heap.size) : Below base w w' :=
 ⟨h.os, h.tape, h.output, h.size, fun k hk => h.block k (Nat.lt_of_lt_of_le hk hb) (fun e => by injection e with e; omega)⟩
theorem below_drew1' {B : Nat} {w w' : World} (h : Below B w w') : Below B w w'.drew := ⟨h.os, h.tape, h.output, h.size, h.block⟩
theorem below_weak {B B' : Nat} {w w' : World} (h : Below B w w') (hb : B' ≤ B) : Below B' w w' := ⟨h.os, h.tape, h.output, h.size, fun k hk => h.block k (Nat.lt_of_lt_of_le hk hb)⟩
def sayF (B : Int → Int → Int) (f : S158) : Int → Int → Int :=
 let B1 := set2 B f.f0 f.f1 (mn (B f.f0 f.f1) f.f3)
 set2 B1 f.f1 f.f0 (mn (B1 f.f1 f.f0) (wrap64 (-f.f2)))
set_option maxHeartbeats 2000000 in
set_option maxRecDepth 100000 in
theorem say_calls (b : Nat) (e g : Value) (B : Int → Int → Int) (f : S158) (w : World) (h : Bd w b e g B) (hf0 : 0 ≤ f.f0 ∧ f.f0 < 11) (hf1 : 0 ≤ f.f1 ∧ f.f1 < 11) :
  Calls Try.prog 117 #[.pointer (some ⟨b, 2, none⟩), .agg #[.int .i64 f.f0, .int .i64 f.f1, .int .i64 f.f2, .int .i64 f.f3]] w fun ee w' => ee = .returned (.tuple #[]) ∧ Bd w' b e g (sayF B f) ∧ w.grownBy w' (some b) := by
 obtain ⟨f0, f1, f2, f3⟩ := f; obtain ⟨p0, p1⟩ := hf0; obtain ⟨q0, q1⟩ := hf1; simp only at p0 p1 q0 q1; have hbk := blk_new w (.cells #[.int .i64 f0, .int .i64 f1, .int .i64 f2, .int .i64 f3] 158); have hx0 := cell_at hbk 0 (.int .i64 f0) rfl; have hx1 := cell_at hbk 1 (.int .i64 f1) rfl; have hx2 := cell_at hbk 2 (.int .i64 f2) rfl; have hx3 := cell_at hbk 3 (.int .i64 f3) rfl; have hB := h.alloc (.cells #[.int .i64 f0, .int .i64 f1, .int .i64 f2, .int .i64 f3] 158); have ha := hB.at' f0 f1 p0 p1 q0 q1; have hz := hB.fz (2 + f0.toNat * 11 + f1.toNat); have HB := Aa hB; have HA0 := Aa (World.grownBy_alloc w (.cells #[.int .i64 f0, .int .i64 f1, .int .i64 f2, .int .i64 f3] 158) (some b)); have HL := Aa h.lt; have HK := Aa hbk; clear hB hbk
 go_enter Try.func117, Try.ntmps117
 go_wp2_with fail
 generalize w.alloc (.cells #[.int .i64 f0, .int .i64 f1, .int .i64 f2, .int .i64 f3] 158) = W1 at HB HA0 HK hx0 hx1 hx2 hx3 ha hz ⊢
 go_still_tail 20, (by kernel_rfl)
 (show wpList _ _ _ _ _ W1.drew)
 go_wp2_with fail
 have hB2 := (HB.out.put f0 f1 (mn (B f0 f1) f3) p0 p1 q0 q1).drew; have hK2 := blk_far (g' := b) (j := 2 + f0.toNat * 11 + f1.toNat) HK.out (Nat.ne_of_gt HL.out) (.int .i64 (mn (B f0 f1) f3)); have ha2 := hB2.at' f1 f0 q0 q1 p0 p1; have hz2 := hB2.fz (2 + f1.toNat * 11 + f0.toNat); have hx0 := cell_drew (cell_at hK2 0 (.int .i64 f0) rfl); have hx1 := cell_drew (cell_at hK2 1 (.int .i64 f1) rfl); have hx2 := cell_drew (cell_at hK2 2 (.int .i64 f2) rfl); have hx3 := cell_drew (cell_at hK2 3 (.int .i64 f3) rfl); have HB2 := Aa hB2; have HW2 := Aa (show w.grownBy (W1.setCell ⟨b, 2 + f0.toNat * 11 + f1.toNat, none⟩ (.int .i64 (mn (B f0 f1) f3))).drew (some b) from gb_drew (gb_put HA0.out _ _)); clear hB2 hK2 HB HK ha hz; generalize (W1.setCell ⟨b, 2 + f0.toNat * 11 + f1.toNat, none⟩ (.int .i64 (mn (B f0 f1) f3))).drew = W2 at HB2 HW2 hx0 hx1 hx2 hx3 ha2 hz2 ⊢
 obtain ⟨y, hy⟩ : ∃ y, set2 B f0 f1 (mn (B f0 f1) f3) f1 f0 = y := ⟨_, rfl⟩
 have HY := Aa hy; rw [hy] at ha2; clear hy
 go_wp2_with fail
 go_still_tail 21, (by kernel_rfl)
 (show wpList _ _ _ _ _ W2.drew)
 go_wp2; refine ⟨rfl, .tuple #[], by first | rfl | kernel_rfl, rfl, ?_, ?_⟩
 ·have := (HB2.out.put f1 f0 (mn y (wrap64 (-f2))) q0 q1 p0 p1).drew
  have e1 : sayF B ⟨f0, f1, f2, f3⟩ = set2 (set2 B f0 f1 (mn (B f0 f1) f3)) f1 f0 (mn y (wrap64 (-f2))) := by rw [← HY.out]; rfl
  rw [e1]; exact this
 ·exact gb_drew (gb_put HW2.out _ _)
theorem Bd.atN {W : World} {b : Nat} {e g : Value} {B : Int → Int → Int} (h : Bd W b e g B) (i j : Nat) (hi : (i : Int) < 11) (hj : (j : Int) < 11) : W.cell? ⟨b, 2 + i * 11 + j, none⟩ = some (.int .i64 (B i j)) := by
 have := h.at' i j (by omega) hi (by omega) hj
 rwa [Int.toNat_natCast, Int.toNat_natCast] at this
theorem Bd.putN {W : World} {b : Nat} {e g : Value} {B : Int → Int → Int} (h : Bd W b e g B) (i j : Nat) (x : Int) (hi : (i : Int) < 11) (hj : (j : Int) < 11) : Bd (W.setCell ⟨b, 2 + i * 11 + j, none⟩ (.int .i64 x)) b e g (set2 B i j x) := by
 have := h.put i j x (by omega) hi (by omega) hj
 rwa [Int.toNat_natCast, Int.toNat_natCast] at this
def FREE : Int := 1099511627776
def stepJ (k i j : Int) (B : Int → Int → Int) : Int → Int → Int := if B k j = FREE then B else set2 B i j (mn (B i j) (wrap64 (B i k + B k j)))
def jN (k i : Int) (B : Int → Int → Int) : Nat → Int → Int → Int
 | 0 => B
 | n + 1 => stepJ k i n (jN k i B n)
def stepI (k i : Int) (B : Int → Int → Int) : Option (Int → Int → Int) := if B i k = FREE then some B else if jN k i B 11 i i < 0 then none else some (jN k i B 11)
def iN (k : Int) (B : Int → Int → Int) : Nat → Option (Int → Int → Int)
 | 0 => some B
 | n + 1 => (iN k B n).bind (stepI k n)
def kN (B : Int → Int → Int) : Nat → Option (Int → Int → Int)
 | 0 => some B
 | n + 1 => (kN B n).bind fun B => iN n B 11
theorem iN_none {k : Int} {C : Int → Int → Int} {n : Nat} (h : iN k C n = none) : ∀ m, n ≤ m → iN k C m = none
 | m, hm => by
  induction m with
  | zero =>
   obtain rfl : n = 0 := by omega
   exact h
  | succ m ih =>
   by_cases hnm : n = m + 1
   ·subst hnm; exact h
   ·show (iN k C m).bind _ = none; rw [ih (by omega)]; rfl
theorem kN_none {C : Int → Int → Int} {n : Nat} (h : kN C n = none) : ∀ m, n ≤ m → kN C m = none
 | m, hm => by
  induction m with
  | zero =>
   obtain rfl : n = 0 := by omega
   exact h
  | succ m ih =>
   by_cases hnm : n = m + 1
   ·subst hnm; exact h
   ·show (kN C m).bind _ = none; rw [ih (by omega)]; rfl
def tightenF (B : Int → Int → Int) : Option (Int → Int → Int) := kN B 11
set_option maxHeartbeats 4000000 in
set_option maxRecDepth 100000 in
theorem tighten_calls (b base : Nat) (e g : Value) (B : Int → Int → Int) (w : World) (h : Bd w b e g B) (hb : base ≤ b) :
  Calls Try.prog 77 #[.pointer (some ⟨b, 2, none⟩)] w fun ee w' => ee = .returned (.bool (tightenF B).isSome) ∧ (∀ B', tightenF B = some B' → Bd w' b e g B') ∧ Below base w w' := by
 have HB0 := Aa h; clear h
 go_enter Try.func77, Try.ntmps77
 go_wp2_with fail
 go_loopw [6, 3, 4, 5] (fun v6 _ _ _ W => ∃ (k : Nat) (C : Int → Int → Int), k ≤ 11 ∧ v6 = .int .i64 (k : Int) ∧ Aside0 (kN B k = some C) ∧ Aside0 (Bd W b e g C) ∧ Aside0 (Below base w W)) (fun v _ _ _ _ => 11 - (intOf v).toNat)
 case atStart => exact ⟨0, B, by omega, rfl, ⟨rfl⟩, HB0, ⟨Below.refl _ _⟩⟩
 case round =>
  clear HB0; obtain ⟨k, C, hk, rfl, HK, HB, HW⟩ := hrel
  by_cases hk11 : (k : Int) < 11
  ·have HKn := Aa (show kN B (k + 1) = iN k C 11 by show (kN B k).bind _ = _; rw [HK.out]; rfl)
   go_wp2_with fail
   go_step3
   go_wp2_with fail
   go_step3
   go_wp2_with fail
   go_loopw [9, 4, 5] (fun v9 _ _ W => ∃ (i : Nat) (D : Int → Int → Int), i ≤ 11 ∧ v9 = .int .i64 (i : Int) ∧ Aside0 (iN k C i = some D) ∧ Aside0 (Bd W b e g D) ∧ Aside0 (Below base w W)) (fun v _ _ _ => 11 - (intOf v).toNat)
   case atStart => exact ⟨0, C, by omega, rfl, ⟨rfl⟩, HB, HW⟩
   case round =>
    clear HB HW; obtain ⟨i, D, hi, rfl, HI, HB, HW⟩ := hrel
    by_cases hi11 : (i : Int) < 11
    ·have HIn := Aa (show iN k C (i + 1) = stepI k i D by show (iN k C i).bind _ = _; rw [HI.out]; rfl); have hBr : Bd wr b e g D := HB.out; have c1 := hBr.atN i k hi11 hk11
     by_cases hfree : D i k = FREE
     ·have hfr : D i k = 1099511627776 := hfree; rw [hfr] at c1
      have hst : stepI k i D = some D := by unfold stepI; rw [if_pos hfree]
      have HIs := Aa (HIn.out.trans hst); clear hst; go_wp2
      go_roundw
      case rel => exact ⟨i + 1, D, by omega, by simp, HIs, HB, HW⟩
      case measure => simp [intOf]; omega
     ·have hfr : (D i k == 1099511627776) = false := by
       have : ¬ D i k = 1099511627776 := hfree
       simp [this]
      obtain ⟨x0, hx0⟩ : ∃ x0, D i k = x0 := ⟨_, rfl⟩
      rw [hx0] at c1 hfr; have HIs := Aa (show iN k C (i + 1) = if jN k i D 11 i i < 0 then none else some (jN k i D 11) by rw [HIn.out]; unfold stepI; rw [if_neg hfree]); clear hx0
      go_wp2_with fail
      clear c1 hBr HIn
      go_loopw [20, 5] (fun v20 _ W => ∃ (j : Nat) (E : Int → Int → Int), j ≤ 11 ∧ v20 = .int .i64 (j : Int) ∧ Aside0 (jN k i D j = E) ∧ Aside0 (Bd W b e g E) ∧ Aside0 (Below base w W)) (fun v _ _ => 11 - (intOf v).toNat)
      case atStart => exact ⟨0, D, by omega, rfl, ⟨rfl⟩, HB, HW⟩
      case round =>
       clear HB HW; obtain ⟨j, E, hj, rfl, HJ, HB, HW⟩ := hrel
       by_cases hj11 : (j : Int) < 11
       ·have HJn := Aa (show jN k i D (j + 1) = stepJ k i j E by show stepJ k i j (jN k i D j) = _; rw [HJ.out]); have hBr : Bd wr b e g E := HB.out; have c1 := hBr.atN k j hk11 hj11
        by_cases hf2 : E k j = FREE
        ·have hfr2 : E k j = 1099511627776 := hf2; rw [hfr2] at c1; have HJs := Aa (HJn.out.trans (show stepJ k i j E = E by unfold stepJ; rw [if_pos hf2])); clear hBr; go_wp2
         go_roundw
         case rel => exact ⟨j + 1, E, by omega, by simp, HJs, HB, HW⟩
         case measure => simp [intOf]; omega
        ·have hfr2 : ¬ E k j = 1099511627776 := hf2; have HJs := Aa (HJn.out.trans (show stepJ k i j E = set2 E i j (mn (E i j) (wrap64 (E i k + E k j))) by unfold stepJ; rw [if_neg hf2])); have c2 := hBr.atN i j hi11 hj11; have c3 := hBr.atN i k hi11 hk11; have z := hBr.fz (2 + i * 11 + j); have HP := Aa (hBr.putN i j (mn (E i j) (wrap64 (E i k + E k j))) hi11 hj11); have HBw := Aa (show Below base w wr from HW.out); clear hBr HB HW
         obtain ⟨x1, h1⟩ : ∃ x, E i j = x := ⟨_, rfl⟩
         obtain ⟨x2, h2⟩ : ∃ x, E i k = x := ⟨_, rfl⟩
         obtain ⟨x3, h3⟩ : ∃ x, E k j = x := ⟨_, rfl⟩
         rw [h1, h2, h3] at HJs HP; rw [h1] at c2; rw [h2] at c3; rw [h3] at c1 hfr2; clear h1 h2 h3
         go_wp2_with fail
         go_still_tail 29, (by kernel_rfl)
         (show wpList _ _ _ _ _ wr.drew)
         go_wp2
         go_roundw
         case rel => exact ⟨j + 1, _, by omega, by simp, HJs, ⟨HP.out.drew⟩, ⟨below_drew1' (HBw.out.setCell hb _)⟩⟩
         case measure => simp [intOf]; omega
       ·obtain rfl : j = 11 := by omega
        have hBr : Bd wr b e g E := HB.out; have c1 := hBr.atN i i hi11 hi11; have hji := HJ.out; subst hji
        by_cases hneg : jN k i D 11 i i < 0
        ·have HIt := HIs.out; rw [if_pos hneg] at HIt; have hT : tightenF B = none := kN_none (n := k + 1) (by rw [HKn.out]; exact iN_none HIt 11 (by omega)) 11 (by omega); have HT := Aa hT; have HWr := Aa (show Below base w wr from HW.out); clear hT HIt
         obtain ⟨y, hy⟩ : ∃ y, jN k i D 11 i i = y := ⟨_, rfl⟩
         rw [hy] at c1 hneg; clear hy; go_wp2; try rw [Exit.noGoto_ret]
         go_ret; refine ⟨?_, ?_, HWr.out⟩
         ·rw [HT.out]; rfl
         ·intro B' h; rw [HT.out] at h; cases h
        ·have HIt := Aa (HIs.out.trans (if_neg hneg)); go_wp2
         go_roundw
         case rel => exact ⟨i + 1, _, by omega, by simp, HIt, HB, HW⟩
         case measure => simp [intOf]; omega
    ·obtain rfl : i = 11 := by omega
     have HKs := Aa (HKn.out.trans HI.out); go_wp2
     go_roundw
     case rel => exact ⟨k + 1, D, by omega, by simp, HKs, HB, HW⟩
     case measure => simp [intOf]; omega
  ·obtain rfl : k = 11 := by omega
   have HT := Aa (show tightenF B = some C from HK.out); have HBr := Aa (show Bd wr b e g C from HB.out); have HWr := Aa (show Below base w wr from HW.out); go_wp2; go_ret; refine ⟨?_, ?_, HWr.out⟩
   ·rw [HT.out]; rfl
   ·intro B' h; rw [HT.out] at h; cases h; exact HBr.out
end Go.Proofs.Ytobcecgcegoooaa.Sk
namespace Go.Proofs.Ytobcecgcegoooaa.Sk
open Go.RowKit Go.Shelf Go.Proofs.YtobcecgcegoooaaW.PrintWords Go.Proofs.YtobcecgcegoooaaW.PrintLast Go.Proofs.YtobcecgcegoooaaW.PrintMore
attribute [local go_sem] Oper.semAt_some
set_option linter.unusedVariables false
set_option linter.unusedSimpArgs false
abbrev Fc := { x : Int × S158 // (0 ≤ x.1 ∧ x.1 < 100) ∧ (0 ≤ x.2.f0 ∧ x.2.f0 < 11) ∧ 0 ≤ x.2.f1 ∧ x.2.f1 < 11 }
def Fc.enc (x : Fc) : Array Value := #[.int .i64 x.1.1, .agg #[.int .i64 x.1.2.f0, .int .i64 x.1.2.f1, .int .i64 x.1.2.f2, .int .i64 x.1.2.f3]]
def IsFacts (evs : List S27) (gaps : List S86) (fs : List Fc) : Prop :=
 fs.length = evs.length + gaps.length ∧ (∀ (i : Nat) (h : i < fs.length), i < evs.length → (fs[i]).1 = ((i : Int), ⟨10, (i : Int), (rd_T27 evs i).f0, (rd_T27 evs i).f1⟩)) ∧
  ∀ (i : Nat) (h : evs.length + i < fs.length), i < gaps.length → (fs[evs.length + i]).1 = ((evs.length : Int) + i, ⟨(rd_T86 gaps i).f0, (rd_T86 gaps i).f1, (rd_T86 gaps i).f2, (rd_T86 gaps i).f3⟩)
structure KB (n₀ : Nat) (P : Nat → Prop) (W W' : World) : Prop where
 os : W'.os = W.os
 tape : W'.tape = W.tape
 output : W'.output = W.output
 size : W.heap.size ≤ W'.heap.size
 block : ∀ k, k < n₀ → ¬ P k → W'.heap[k]? = W.heap[k]?
theorem KB.refl (n₀ : Nat) (P : Nat → Prop) (W : World) : KB n₀ P W W := ⟨rfl, rfl, rfl, Nat.le_refl _, fun _ _ _ => rfl⟩
theorem KB.trans {n₀ : Nat} {P : Nat → Prop} {X Y Z : World} (h : KB n₀ P X Y) (k : KB n₀ P Y Z) : KB n₀ P X Z :=
 ⟨k.os.trans h.os, k.tape.trans h.tape, k.output.trans h.output, Nat.le_trans h.size k.size, fun i hi hb => (k.block i hi hb).trans (h.block i hi hb)⟩
theorem KB.of {n₀ : Nat} {P : Nat → Prop} {X Y : World} {row : Option Nat} (h : X.grownBy Y row) (hr : ∀ r, row = some r → P r ∨ n₀ ≤ r) (hn : n₀ ≤ X.heap.size) : KB n₀ P X Y :=
 ⟨h.os, h.tape, h.output, h.size, fun i hi hb => h.block i (Nat.lt_of_lt_of_le hi hn) (fun e => by
  rcases hr i e.symm with hp | hp
  ·exact hb hp
  ·omega)⟩
theorem KB.ofBelow {n₀ B : Nat} {P : Nat → Prop} {X Y : World} (h : Below B X Y) (hn : n₀ ≤ B) : KB n₀ P X Y :=
 ⟨h.os, h.tape, h.output, h.size, fun i hi hb => h.block i (Nat.lt_of_lt_of_le hi hn)⟩
theorem KB.alloc {n₀ : Nat} {P : Nat → Prop} {X Y : World} (h : KB n₀ P X Y) (hn : n₀ ≤ Y.heap.size) (o : Obj) : KB n₀ P X (Y.alloc o) := h.trans (KB.of (World.grownBy_alloc Y o none) (fun r e => by cases e) hn)
theorem KB.toBelow {n₀ B : Nat} {P : Nat → Prop} {X Y : World} (h : KB n₀ P X Y) (hb : ∀ k, P k → B ≤ k) (hn : B ≤ n₀) : Below B X Y :=
 ⟨h.os, h.tape, h.output, h.size, fun k hk => h.block k (Nat.lt_of_lt_of_le hk hn) (fun hp => by have := hb k hp; omega)⟩
theorem said_calls (A0 A1 : Option Addr) (n0 n1 c0 c1 : Nat) (F : Fence) (n : Nat) (h80 : F.fn 78) (hro : F.round = none) (w : World) :
  CallsIn F n Try.prog 78 #[.agg #[.slice A0 n0 c0, .slice A1 n1 c1]] w fun e w' => e = .returned (.func (.func 123) #[] #[.pointer (some ⟨w.heap.size, 0, none⟩)]) ∧ w' = w.alloc (.cells #[.slice A0 n0 c0, .slice A1 n1 c1] 39) := by
 refine callsIn_of_wp Try.func78 rfl h80 ?_ hro; simp only [Try.ntmps78, List.size_toArray, List.length_cons, List.length_nil, Nat.reduceAdd, Nat.reduceSub, Array.replicate_succ, Array.replicate_zero, List.push_toArray, List.append_toArray, List.nil_append, List.cons_append]
 gi_wp2
 go_ret; exact ⟨rfl, rfl⟩
set_option maxRecDepth 100000 in
set_option maxHeartbeats 2000000 in
theorem said1_stops (A0 A1 : Option Addr) (c0 c1 : Nat) (evs : List S27) (gaps : List S86) (fs : List Fc) (hfs : IsFacts evs gaps fs) (F : Fence) (n : Nat) (h121 : F.fn 123) (hro : F.round = none) (hn : 1 ≤ n) (Bs n₀ : Nat) (P : Nat → Prop) (w wb : World)
  (hBs : Bs < n₀) (hn₀ : n₀ ≤ w.heap.size) (hk : w.heap[Bs]? = some (.cells #[.slice A0 evs.length c0, .slice A1 gaps.length c1] 39 (0, 0))) (hwb : Below wb.heap.size wb w) (hwn : wb.heap.size ≤ n₀) (hbB : ∀ k, P k → wb.heap.size ≤ k) (hne : ¬ P Bs) (hC0 : Kd.C k27 wb A0 evs.length evs) (hC1 : Kd.C k86 wb A1 gaps.length gaps)
  (hm0 : evs.length ≤ 10) (hm1 : gaps.length ≤ 20) :
  SeqStopsK F n Try.prog 123 #[.pointer (some ⟨Bs, 0, none⟩)] Fc.enc (KB n₀ P) (fun ys => ys = fs) (fun pre => True) fs.length w := fun l J Jx W hW hJ hJx hY h0 => by
 refine callsIn_of_wp Try.func123 rfl h121 ?_ hro; simp only [Try.ntmps123, List.size_toArray, List.length_cons, List.length_nil, Nat.reduceAdd, Nat.reduceSub, Array.replicate_succ, Array.replicate_zero, List.push_toArray, List.append_toArray, List.nil_append, List.cons_append]; have hkW : W.heap[Bs]? = some (.cells #[.slice A0 evs.length c0, .slice A1 gaps.length c1] 39 (0, 0)) := blk_below hk hW; have x0 := cell_at hkW 0 (.slice A0 evs.length c0) rfl; have x1 := cell_at hkW 1 (.slice A1 gaps.length c1) rfl; have HW := Aa hW; have HJ := Aa hJ; have HJx := Aa hJx; have HY := Aa hY; have HKW := Aa hkW; clear hW hJ hJx hY hkW
 gi_wp2
 gi_loopw [10] (fun v10 wr => ∃ i : Nat, i ≤ evs.length ∧ v10 = .int .i64 (i : Int) ∧ Aside0 (J (fs.take i) wr) ∧ Aside0 (KB n₀ P W wr)) (fun v _ => evs.length - (intOf v).toNat)
 case atStart => exact ⟨0, Nat.zero_le _, rfl, ⟨h0⟩, ⟨KB.refl _ _ _⟩⟩
 case round =>
  obtain ⟨i, hi, rfl, HJi, HBi⟩ := hrel
  by_cases hlt : (i : Int) < evs.length
  ·have hBr : KB n₀ P W wr := HBi.out; have hT : Below wb.heap.size wb wr := (hwb.trans (below_weak HW.out hwb.size)).trans (hBr.toBelow hbB hwn); obtain ⟨ad, e1, hy0, hy1⟩ := at_T27 (Kd.C_below hC0 hT) (i : Int) (by omega) hlt; cases e1; rw [Int.toNat_natCast] at hy0 hy1
   have hil : i < fs.length := by have := hfs.1; omega
   have hst : fs.take (i + 1) = fs.take i ++ [fs[i]] := List.take_succ_eq_append_getElem hil; have hfi := hfs.2.1 i hil (by omega)
   obtain ⟨s, hs⟩ : ∃ s, rd_T27 evs (i : Int) = s := ⟨_, rfl⟩
   rw [hs] at hy0 hy1 hfi
   have henc : Fc.enc fs[i] = #[.int .i64 (i : Int), .agg #[.int .i64 10, .int .i64 (i : Int), .int .i64 s.f0, .int .i64 s.f1]] := by unfold Fc.enc; rw [hfi]
   have hJa : J (fs.take i) (wr.alloc (.cells #[.int .i64 s.f0, .int .i64 s.f1] 27)) := HJ.out _ wr _ none HJi.out (World.grownBy_alloc wr _ none) (fun r e => by cases e); have hBa : KB n₀ P W (wr.alloc (.cells #[.int .i64 s.f0, .int .i64 s.f1] 27)) := hBr.alloc (Nat.le_trans hn₀ (Nat.le_trans HW.out.size hBr.size)) _; obtain ⟨fn, tmps, assign, body, hy, hR⟩ := HY.out (fs.take i) fs[i] _ hJa (by rw [List.length_take]; omega); rw [henc] at hy; have hz0 := cell_at (blk_new wr (.cells #[.int .i64 s.f0, .int .i64 s.f1] 27)) 0 (.int .i64 s.f0) rfl; have hz1 := cell_at (blk_new wr (.cells #[.int .i64 s.f0, .int .i64 s.f1] 27)) 1 (.int .i64 s.f1) rfl; have HBa := Aa hBa; have HSt := Aa hst; clear hs hfi henc hJa hBa hst hT hBr
   gi_wp2
   clear HJi HBi hz0 hz1 hy0 hy1; refine hR.mono ?_; rintro e W3 (⟨rfl, hJ3, hk3⟩ | ⟨rfl, hJx3⟩)
   ·have HJ3 := Aa hJ3; have HB3 := Aa (HBa.out.trans hk3); clear hJ3 hk3
    gi_wp2
    go_roundw
    case rel => exact ⟨i + 1, by omega, by simp, ⟨by rw [HSt.out]; exact HJ3.out⟩, HB3⟩
    case measure => simp [intOf]; omega
   ·gi_wp2
    refine bodyPost_ret (results_none rfl _ _ _) rfl ?_; exact ⟨⟨_, rfl⟩, .inr ⟨_, trivial, hJx3⟩⟩
  ·obtain rfl : i = evs.length := by omega
   have hBr : KB n₀ P W wr := HBi.out; have HJr := Aa (show J (fs.take evs.length) wr from HJi.out); have hkr : wr.heap[Bs]? = some (.cells #[.slice A0 evs.length c0, .slice A1 gaps.length c1] 39 (0, 0)) := (hBr.block Bs hBs hne).trans HKW.out; have y0 := cell_at hkr 0 (.slice A0 evs.length c0) rfl; have y1 := cell_at hkr 1 (.slice A1 gaps.length c1) rfl; have HBr := Aa hBr; have HKr := Aa hkr; clear HJi HBi hBr hkr x0 x1
   gi_wp2
   clear y0 y1
   gi_loopw [29] (fun v29 wr => ∃ i : Nat, i ≤ gaps.length ∧ v29 = .int .i64 (i : Int) ∧ Aside0 (J (fs.take (evs.length + i)) wr) ∧ Aside0 (KB n₀ P W wr)) (fun v _ => gaps.length - (intOf v).toNat)
   case atStart => exact ⟨0, Nat.zero_le _, rfl, HJr, HBr⟩
   case round =>
    clear HJr HBr HKr; obtain ⟨i, hi2, rfl, HJi, HBi⟩ := hrel
    by_cases hlt2 : (i : Int) < gaps.length
    ·have hBr : KB n₀ P W wr := HBi.out; have hT : Below wb.heap.size wb wr := (hwb.trans (below_weak HW.out hwb.size)).trans (hBr.toBelow hbB hwn); obtain ⟨ad, e1, hy0, hy1, hy2, hy3⟩ := at_T86 (Kd.C_below hC1 hT) (i : Int) (by omega) hlt2; cases e1; rw [Int.toNat_natCast] at hy0 hy1 hy2 hy3
     have hil : evs.length + i < fs.length := by have := hfs.1; omega
     have hst : fs.take (evs.length + i + 1) = fs.take (evs.length + i) ++ [fs[evs.length + i]] := List.take_succ_eq_append_getElem hil; have hfi := hfs.2.2 i hil (by omega)
     obtain ⟨s, hs⟩ : ∃ s, rd_T86 gaps (i : Int) = s := ⟨_, rfl⟩
     rw [hs] at hy0 hy1 hy2 hy3 hfi
     have henc : Fc.enc fs[evs.length + i] = #[.int .i64 ((evs.length : Int) + i), .agg #[.int .i64 s.f0, .int .i64 s.f1, .int .i64 s.f2, .int .i64 s.f3]] := by unfold Fc.enc; rw [hfi]
     have hJa : J (fs.take (evs.length + i)) (wr.alloc (.cells #[.int .i64 s.f0, .int .i64 s.f1, .int .i64 s.f2, .int .i64 s.f3] 86)) := HJ.out _ wr _ none HJi.out (World.grownBy_alloc wr _ none) (fun r e => by cases e); have hBa : KB n₀ P W (wr.alloc (.cells #[.int .i64 s.f0, .int .i64 s.f1, .int .i64 s.f2, .int .i64 s.f3] 86)) := hBr.alloc (Nat.le_trans hn₀ (Nat.le_trans HW.out.size hBr.size)) _; obtain ⟨fn, tmps, assign, body, hy, hR⟩ := HY.out (fs.take (evs.length + i)) fs[evs.length + i] _ hJa (by rw [List.length_take]; omega); rw [henc] at hy; have hkr := (hBa.block Bs hBs hne).trans HKW.out; have y0 := cell_at hkr 0 (.slice A0 evs.length c0) rfl; have hz0 := cell_at (blk_new wr (.cells #[.int .i64 s.f0, .int .i64 s.f1, .int .i64 s.f2, .int .i64 s.f3] 86)) 0 (.int .i64 s.f0) rfl; have hz1 := cell_at (blk_new wr (.cells #[.int .i64 s.f0, .int .i64 s.f1, .int .i64 s.f2, .int .i64 s.f3] 86)) 1 (.int .i64 s.f1) rfl; have hz2 := cell_at (blk_new wr (.cells #[.int .i64 s.f0, .int .i64 s.f1, .int .i64 s.f2, .int .i64 s.f3] 86)) 2 (.int .i64 s.f2) rfl; have hz3 := cell_at (blk_new wr (.cells #[.int .i64 s.f0, .int .i64 s.f1, .int .i64 s.f2, .int .i64 s.f3] 86)) 3 (.int .i64 s.f3) rfl; have HBa := Aa hBa; have HSt := Aa hst; clear hs hfi henc hJa hBa hst hT hBr hkr
     gi_wp2
     clear HJi HBi hz0 hz1 hz2 hz3 hy0 hy1 hy2 hy3 y0; refine hR.mono ?_; rintro e W3 (⟨rfl, hJ3, hk3⟩ | ⟨rfl, hJx3⟩)
     ·have HJ3 := Aa hJ3; have HB3 := Aa (HBa.out.trans hk3); clear hJ3 hk3
      gi_wp2
      go_roundw
      case rel => exact ⟨i + 1, by omega, by simp, ⟨by rw [← Nat.add_assoc, HSt.out]; exact HJ3.out⟩, HB3⟩
      case measure => simp [intOf]; omega
     ·gi_wp2
      refine bodyPost_ret (results_none rfl _ _ _) rfl ?_; exact ⟨⟨_, rfl⟩, .inr ⟨_, trivial, hJx3⟩⟩
    ·obtain rfl : i = gaps.length := by omega
     have hJr : J (fs.take (evs.length + gaps.length)) wr := HJi.out; rw [← hfs.1, List.take_length] at hJr
     gi_wp2
     go_end0
     first | exact ⟨⟨_, rfl⟩, .inl hJr⟩ | exact ⟨⟨_, rfl⟩, .inl ⟨_, rfl, hJr⟩⟩
end Go.Proofs.Ytobcecgcegoooaa.Sk
namespace Go.Proofs.Ytobcecgcegoooaa.Sk
open Go.RowKit Go.Shelf Go.Proofs.YtobcecgcegoooaaW.PrintWords Go.Proofs.YtobcecgcegoooaaW.PrintLast Go.Proofs.YtobcecgcegoooaaW.PrintMore
attribute [local go_sem] Oper.semAt_some
set_option linter.unusedVariables false
set_option linter.unusedSimpArgs false
def rowN (i : Int) (B : Int → Int → Int) : Nat → Int → Int → Int
 | 0 => B
 | n + 1 => if i = n then rowN i B n else set2 (rowN i B n) i n FREE
def fillN : Nat → Int → Int → Int
 | 0 => fun _ _ => 0
 | n + 1 => rowN n (fillN n) 11
def bindF (om : Int → Bool) (fs : List Fc) : Int → Int → Int := fs.foldl (fun B x => if om x.1.1 = true then B else sayF B x.1.2) (fillN 11)
theorem bindF_snoc (om : Int → Bool) (fs : List Fc) (x : Fc) : bindF om (fs ++ [x]) = if om x.1.1 = true then bindF om fs else sayF (bindF om fs) x.1.2 := by
 unfold bindF; rw [List.foldl_append]; rfl
set_option maxRecDepth 100000 in
theorem zero110 : Try.zeroCells113 = #[.slice none 0 0, .slice none 0 0] ++ Array.replicate 121 (.int .i64 0) := by kernel_rfl
noncomputable def bdZ (e g : Value) : Array Value := (Try.zeroCells113.setIfInBounds 0 e).setIfInBounds 1 g
theorem bdZ_at (e g : Value) (k : Nat) (h2 : 2 ≤ k) (hk : k < 123) : (bdZ e g)[k]? = some (.int .i64 0) := by
 unfold bdZ; rw [Array.getElem?_setIfInBounds_ne (by omega), Array.getElem?_setIfInBounds_ne (by omega), zero110, Array.getElem?_append_right (by simp; omega)]; rw [Array.getElem?_replicate, if_pos (by simp only [List.size_toArray, List.length_cons, List.length_nil]; omega)]
theorem bdZ_0 (e g : Value) : (bdZ e g)[0]? = some e := by
 unfold bdZ; rw [Array.getElem?_setIfInBounds_ne (by omega), Array.getElem?_setIfInBounds_self_of_lt (by rw [zero110]; simp)]
theorem bdZ_1 (e g : Value) : (bdZ e g)[1]? = some g := by
 unfold bdZ; rw [Array.getElem?_setIfInBounds_self_of_lt (by rw [Array.size_setIfInBounds, zero110]; simp)]
theorem Bd.start {W : World} {b : Nat} {e g : Value} (h : W.heap[b]? = some (.cells (bdZ e g) 113 (0, 0))) : Bd W b e g (fun _ _ => 0) :=
 ⟨⟨_, h⟩, cell_at h 0 _ (bdZ_0 e g), cell_at h 1 _ (bdZ_1 e g), fun i j h0 h1 h2 h3 => cell_at h _ _ (bdZ_at e g _ (by omega) (by omega))⟩
theorem Bd.grown {W W' : World} {b : Nat} {e g : Value} {B : Int → Int → Int} (h : Bd W b e g B) {row : Option Nat} (hg : W.grownBy W' row) (hne : some b ≠ row) : Bd W' b e g B := by
 obtain ⟨cs, hc⟩ := h.blk; have hb := hg.block b (blk_lt hc) hne
 have hf : ∀ i, W'.cell? ⟨b, i, none⟩ = W.cell? ⟨b, i, none⟩ := fun i => World.cell?_of_block hb
 exact ⟨⟨cs, hb.trans hc⟩, (hf _).trans h.c0, (hf _).trans h.c1, fun i j h0 h1 h2 h3 => (hf _).trans (h.at' i j h0 h1 h2 h3)⟩
theorem below_grown {B : Nat} {w W W' : World} (h : Below B w W) {row : Option Nat} (hg : W.grownBy W' row) (hB : B ≤ W.heap.size) (hr : ∀ r, row = some r → B ≤ r) : Below B w W' :=
 h.trans ⟨hg.os, hg.tape, hg.output, hg.size, fun k hk => hg.block k (Nat.lt_of_lt_of_le hk hB) (fun e => by have := hr _ e.symm; omega)⟩
structure BindInv (w W : World) (e g : Value) (mb : Option Nat) (B : Int → Int → Int) : Prop where
 bd : Bd W (w.heap.size + 1 + 1) e g B
 bel : Below w.heap.size w W
 k1 : W.heap[w.heap.size + 1]? = some (.cells #[.map mb] 114 (0, 0))
 k3 : W.heap[w.heap.size + 1 + 1 + 1]? = some (.cells #[.pointer (some ⟨w.heap.size + 1 + 1, 0, none⟩)] 107 (0, 0))
theorem BindInv.grown {w W W' : World} {e g : Value} {mb : Option Nat} {B : Int → Int → Int} (h : BindInv w W e g mb B) {row : Option Nat} (hg : W.grownBy W' row) (hr : ∀ r, row = some r → w.heap.size + 4 ≤ r) : BindInv w W' e g mb B :=
 ⟨h.bd.grown hg (fun e => by have := hr _ e.symm; omega), below_grown h.bel hg h.bel.size (fun r e => by have := hr _ e; omega), blk_grown h.k1 hg (fun e => by have := hr _ e.symm; omega), blk_grown h.k3 hg (fun e => by have := hr _ e.symm; omega)⟩
set_option maxRecDepth 100000 in
set_option maxHeartbeats 4000000 in
theorem bind_calls (A0 A1 : Option Addr) (c0 c1 : Nat) (evs : List S27) (gaps : List S86) (fs : List Fc) (hfs : IsFacts evs gaps fs) (mb : Option Nat) (om : Int → Bool) (w : World) (hC0 : Kd.C k27 w A0 evs.length evs) (hC1 : Kd.C k86 w A1 gaps.length gaps)
  (hm0 : evs.length ≤ 10) (hm1 : gaps.length ≤ 20) (hL : ∀ W, Below w.heap.size w W → ∀ k, 0 ≤ k → k < 100 → (Instr.lookup 114 (.map mb) (.int .i64 k) false).run Try.prog W = .ok (.bool (om k)) W) :
  Calls Try.prog 76 #[.agg #[.slice A0 evs.length c0, .slice A1 gaps.length c1], .map mb] w fun e w' => e = .returned (.pointer (some ⟨w.heap.size + 2, 0, none⟩)) ∧ Bd w' (w.heap.size + 2) (.slice A0 evs.length c0) (.slice A1 gaps.length c1) (bindF om fs) ∧ Below w.heap.size w w' := by
 refine (callsIn_wide (n := 10)).1 ?_; have HC0 := Aa hC0; have HC1 := Aa hC1; have HL := Aa hL; have HFs := Aa hfs; clear hC0 hC1 hL hfs; refine callsIn_of_wp_marks Try.func76 rfl trivial ?_ rfl; simp only [Try.ntmps76, List.size_toArray, List.length_cons, List.length_nil, Nat.reduceAdd, Nat.reduceSub, Array.replicate_succ, Array.replicate_zero, List.push_toArray, List.append_toArray, List.nil_append, List.cons_append]; have hb0 := Below.refl w.heap.size w
 obtain ⟨e, he⟩ : ∃ e : Value, Value.slice A0 evs.length c0 = e := ⟨_, rfl⟩
 obtain ⟨g, hg⟩ : ∃ g : Value, Value.slice A1 gaps.length c1 = g := ⟨_, rfl⟩
 have k39 := Ka (Ka (Ka (blk_new w (.cells #[.slice A0 evs.length c0, .slice A1 gaps.length c1] 39)) (.cells #[.map mb] 114)) (.cells (bdZ (.slice A0 evs.length c0) (.slice A1 gaps.length c1)) 113)) (.cells #[.pointer (some ⟨w.heap.size + 1 + 1, 0, none⟩)] 107); have k114 := Ka (Ka (blk_new (w.alloc (.cells #[.slice A0 evs.length c0, .slice A1 gaps.length c1] 39)) (.cells #[.map mb] 114)) (.cells (bdZ (.slice A0 evs.length c0) (.slice A1 gaps.length c1)) 113)) (.cells #[.pointer (some ⟨w.heap.size + 1 + 1, 0, none⟩)] 107); have k113 := Ka (blk_new ((w.alloc (.cells #[.slice A0 evs.length c0, .slice A1 gaps.length c1] 39)).alloc (.cells #[.map mb] 114)) (.cells (bdZ (.slice A0 evs.length c0) (.slice A1 gaps.length c1)) 113)) (.cells #[.pointer (some ⟨w.heap.size + 1 + 1, 0, none⟩)] 107); have k107 := blk_new (((w.alloc (.cells #[.slice A0 evs.length c0, .slice A1 gaps.length c1] 39)).alloc (.cells #[.map mb] 114)).alloc (.cells (bdZ (.slice A0 evs.length c0) (.slice A1 gaps.length c1)) 113)) (.cells #[.pointer (some ⟨w.heap.size + 1 + 1, 0, none⟩)] 107); simp only [World.size_alloc] at k114 k113 k107
 have hsz : ((((w.alloc (.cells #[.slice A0 evs.length c0, .slice A1 gaps.length c1] 39)).alloc (.cells #[.map mb] 114)).alloc (.cells (bdZ (.slice A0 evs.length c0) (.slice A1 gaps.length c1)) 113)).alloc (.cells #[.pointer (some ⟨w.heap.size + 1 + 1, 0, none⟩)] 107)).heap.size = w.heap.size + 1 + 1 + 1 + 1 := by simp only [World.size_alloc]
 have hB0 := Ba (Ba (Ba (Ba (Below.refl w.heap.size w) (.cells #[.slice A0 evs.length c0, .slice A1 gaps.length c1] 39)) (.cells #[.map mb] 114)) (.cells (bdZ (.slice A0 evs.length c0) (.slice A1 gaps.length c1)) 113)) (.cells #[.pointer (some ⟨w.heap.size + 1 + 1, 0, none⟩)] 107); have K39 := Aa k39; have K111 := Aa k114; have K110 := Aa (Bd.start k113); have K104 := Aa k107; have HSz := Aa hsz; have HB0 := Aa hB0; clear k39 k114 k113 k107 hsz hB0 hb0 he hg; clear e g
 gi_wp2
 change Code.wpIn _ _ _ _ _ _ ((((w.alloc (.cells #[.slice A0 evs.length c0, .slice A1 gaps.length c1] 39)).alloc (.cells #[.map mb] 114)).alloc (.cells (bdZ (.slice A0 evs.length c0) (.slice A1 gaps.length c1)) 113)).alloc (.cells #[.pointer (some ⟨w.heap.size + 1 + 1, 0, none⟩)] 107))
 generalize ((((w.alloc (.cells #[.slice A0 evs.length c0, .slice A1 gaps.length c1] 39)).alloc (.cells #[.map mb] 114)).alloc (.cells (bdZ (.slice A0 evs.length c0) (.slice A1 gaps.length c1)) 113)).alloc (.cells #[.pointer (some ⟨w.heap.size + 1 + 1, 0, none⟩)] 107)) = W0 at K39 K111 K110 K104 HSz HB0 ⊢
 gi_loopw [13] (fun v13 W => ∃ i : Nat, i ≤ 11 ∧ v13 = .int .i64 (i : Int) ∧ Aside0 (Bd W (w.heap.size + 1 + 1) (.slice A0 evs.length c0) (.slice A1 gaps.length c1) (fillN i)) ∧ Aside0 (W0.grownBy W (some (w.heap.size + 1 + 1)))) (fun v _ => 11 - (intOf v).toNat)
 case atStart => exact ⟨0, by omega, rfl, K110, ⟨World.grownBy.refl _ _⟩⟩
 case round =>
  clear K110; obtain ⟨i, hi, rfl, HBd, HG⟩ := hrel
  by_cases hi11 : (i : Int) < 11
  ·gi_wp2
   gi_loopw [16] (fun v16 W => ∃ k : Nat, k ≤ 11 ∧ v16 = .int .i64 (k : Int) ∧ Aside0 (Bd W (w.heap.size + 1 + 1) (.slice A0 evs.length c0) (.slice A1 gaps.length c1) (rowN i (fillN i) k)) ∧ Aside0 (W0.grownBy W (some (w.heap.size + 1 + 1)))) (fun v _ => 11 - (intOf v).toNat)
   case atStart => exact ⟨0, by omega, rfl, HBd, HG⟩
   case round =>
    clear HBd HG; obtain ⟨k, hk, rfl, HBd, HG⟩ := hrel
    by_cases hk11 : (k : Int) < 11
    ·have hBr : Bd wr (w.heap.size + 1 + 1) (.slice A0 evs.length c0) (.slice A1 gaps.length c1) (rowN i (fillN i) k) := HBd.out; have hGr : W0.grownBy wr (some (w.heap.size + 1 + 1)) := HG.out; have k107 := (hGr.block (w.heap.size + 1 + 1 + 1) (by rw [HSz.out]; omega) (fun e => by injection e with e; omega)).trans K104.out; have x104 := cell_at k107 0 (.pointer (some ⟨w.heap.size + 1 + 1, 0, none⟩)) rfl; have z := hBr.fz (2 + i * 11 + k); have c1 := hBr.atN i k hi11 hk11
     by_cases hik : (i : Int) = k
     ·have e1 : rowN i (fillN i) (k + 1) = rowN i (fillN i) k := by show (if (i : Int) = k then _ else _) = _; rw [if_pos hik]
      have E1 := Aa e1; have HBr := Aa hBr; have HGr := Aa hGr; clear e1 hBr hGr HBd HG z c1 k107
      gi_wp2
      go_roundw
      case rel => exact ⟨k + 1, by omega, by simp, ⟨by rw [E1.out]; exact HBr.out⟩, HGr⟩
      case measure => simp [intOf]; omega
     ·have e1 : rowN i (fillN i) (k + 1) = set2 (rowN i (fillN i) k) i k FREE := by show (if (i : Int) = k then _ else _) = _; rw [if_neg hik]
      have E1 := Aa e1; have HP := Aa (hBr.putN i k FREE hi11 hk11); have HGp := Aa (gb_put hGr (2 + i * 11 + k) (.int .i64 FREE)); clear e1 hBr hGr HBd HG k107
      gi_wp2
      go_roundw
      case rel => exact ⟨k + 1, by omega, by simp, ⟨by rw [E1.out]; exact HP.out⟩, HGp⟩
      case measure => simp [intOf]; omega
    ·obtain rfl : k = 11 := by omega
     have HBr := Aa (show Bd wr (w.heap.size + 1 + 1) (.slice A0 evs.length c0) (.slice A1 gaps.length c1) (fillN (i + 1)) from HBd.out); have HGr := Aa (show W0.grownBy wr (some (w.heap.size + 1 + 1)) from HG.out); clear HBd HG
     gi_wp2
     go_roundw
     case rel => exact ⟨i + 1, by omega, by simp, HBr, HGr⟩
     case measure => simp [intOf]; omega
  ·obtain rfl : i = 11 := by omega
   have HBr := Aa (show Bd wr (w.heap.size + 1 + 1) (.slice A0 evs.length c0) (.slice A1 gaps.length c1) (fillN 11) from HBd.out); have hGr : W0.grownBy wr (some (w.heap.size + 1 + 1)) := HG.out; have HGr := Aa hGr; have k39 := (hGr.block w.heap.size (by rw [HSz.out]; omega) (fun e => by injection e with e; omega)).trans K39.out; have x39 := cell_at k39 0 (.slice A0 evs.length c0) rfl; have y39 := cell_at k39 1 (.slice A1 gaps.length c1) rfl
   have hsz : w.heap.size + 1 + 1 + 1 + 1 ≤ wr.heap.size := by have := hGr.size; rw [HSz.out] at this; exact this
   have HZ := Aa hsz; clear HBd HG hGr k39 hsz
   gi_wp2_with (refine ⟨trivial, ?_⟩; gi_at_call 78; refine (said_calls A0 A1 evs.length gaps.length c0 c1 Fence.wide _ trivial rfl _).mono ?_; rintro e w' ⟨rfl, rfl⟩)
   have kbox := blk_new wr (.cells #[.slice A0 evs.length c0, .slice A1 gaps.length c1] 39); have hBw : Below w.heap.size w wr := HB0.out.trans (gb_below HGr.out (by omega) HB0.out.size)
   have hInv : BindInv w wr (.slice A0 evs.length c0) (.slice A1 gaps.length c1) mb (fillN 11) := ⟨HBr.out, hBw, blk_grown K111.out HGr.out (fun e => by injection e with e; omega), blk_grown K104.out HGr.out (fun e => by injection e with e; omega)⟩
   have hInv1 : BindInv w (wr.alloc (.cells #[.slice A0 evs.length c0, .slice A1 gaps.length c1] 39)) (.slice A0 evs.length c0) (.slice A1 gaps.length c1) mb (bindF om []) := hInv.grown (World.grownBy_alloc wr _ none) (fun r e => by cases e); have hzz := HZ.out; have hs1 : (wr.alloc (.cells #[.slice A0 evs.length c0, .slice A1 gaps.length c1] 39)).heap.size = wr.heap.size + 1 := World.size_alloc _ _; have hBw1 : Below w.heap.size w (wr.alloc (.cells #[.slice A0 evs.length c0, .slice A1 gaps.length c1] 39)) := hInv1.bel; have hstops := said1_stops A0 A1 c0 c1 evs gaps fs HFs.out Fence.wide 9 trivial rfl (by omega) wr.heap.size (wr.heap.size + 1) (fun k => k = w.heap.size + 1 + 1) (wr.alloc (.cells #[.slice A0 evs.length c0, .slice A1 gaps.length c1] 39)) w (by omega) (by omega) kbox hBw1 (by omega) (fun k hk => by omega) (by omega) HC0.out HC1.out hm0 hm1
   refine wpIn_rangeFunc_ownH rfl (by omega) (gf := 123) (lb := #[.pointer (some ⟨wr.heap.size, 0, none⟩)]) rfl trivial (enters_of Try.func123 (by kernel_rfl) rfl) hstops (fun h k => KB.trans h k)
    (fun W l o o' hl ho _ _ => by have hgp := grownBy_putObj' W l o'; exact ⟨hgp.os, hgp.tape, hgp.output, hgp.size, fun k hk _ => hgp.block k (by have := blk_lt ho; omega) (fun e => by injection e with e; omega)⟩) (Below.refl _ _) (fun _ => rfl)
    (fun pre W => BindInv w W (.slice A0 evs.length c0) (.slice A1 gaps.length c1) mb (bindF om pre) ∧ wr.heap.size + 1 ≤ W.heap.size) (fun _ _ _ => False)
    (fun pre X Y row hs hg hr => ⟨hs.1.grown hg (fun r e => by have := (hr r e).1; omega), Nat.le_trans hs.2 hg.size⟩) (fun _ _ _ _ _ hs _ _ => hs) ⟨hInv1, by omega⟩
    (fun x a' W => ∃ Bx, W.heap[Bx]? = some (.cells #[.int .i64 x.1.2.f0, .int .i64 x.1.2.f1, .int .i64 x.1.2.f2, .int .i64 x.1.2.f3] 158 (0, 0)) ∧ a' = { tmps := #[.agg #[.slice A0 evs.length c0, .slice A1 gaps.length c1], .map mb, .pointer (some ⟨w.heap.size, 0, none⟩), .pointer (some ⟨w.heap.size + 1, 0, none⟩), .pointer none, .pointer (some ⟨w.heap.size + 1 + 1 + 1, 0, none⟩), u6, u7, .int .i64 x.1.1, .pointer (some ⟨Bx, 0, none⟩), .agg #[.slice A0 evs.length c0, .slice A1 gaps.length c1], .agg ((Try.zeroCells113.setIfInBounds 0 (.slice A0 evs.length c0)).setIfInBounds 1 (.slice A1 gaps.length c1)), .pointer (some ⟨w.heap.size + 1 + 1, 0, none⟩), .int .i64 11, .bool false, u15, u16, u17, u18, u19, u20, u21, u22, u23, u24, u25, u26, u27, u28, u29, u30, .agg #[.slice A0 evs.length c0, .slice A1 gaps.length c1], .func (.func 123) #[] #[.pointer (some ⟨wr.heap.size, 0, none⟩)], .int .i64 x.1.1, .agg #[.int .i64 x.1.2.f0, .int .i64 x.1.2.f1, .int .i64 x.1.2.f2, .int .i64 x.1.2.f3], undef, undef, undef, undef, undef, undef, undef, undef, undef, undef], defers := [] })
    (fun x a' _ X Y row hs hg hr => by obtain ⟨Bx, h2, h3⟩ := hs; exact ⟨Bx, blk_grown h2 hg (fun e => by obtain ⟨_, o, ho, hc⟩ := hr _ e.symm; rw [h2] at ho; cases ho; cases hc), h3⟩) ?assign ?body ?done ?stop
   case assign =>
    rintro l pre x W K ⟨hi, hsz⟩ hK; dsimp only [Fc.enc]
    gi_wp2
    exact hK _ _ ((KeepsOthers.alloc _ _).from _) ((KB.refl _ _ W).alloc hsz _) ⟨hi.grown (World.grownBy_alloc W _ none) (fun r e => by cases e), by rw [World.size_alloc]; omega⟩ ⟨W.heap.size, blk_new W _, rfl⟩
   case body =>
    rintro l pre x a' W hl hr ⟨hi, hsz⟩ ⟨Bx, hBx, rfl⟩ hlt; have x1 := cell_at hi.k1 0 (.map mb) rfl; have x3 := cell_at hi.k3 0 (.pointer (some ⟨w.heap.size + 1 + 1, 0, none⟩)) rfl; have z0 := cell_at hBx 0 (.int .i64 x.1.2.f0) rfl; have z1 := cell_at hBx 1 (.int .i64 x.1.2.f1) rfl; have z2 := cell_at hBx 2 (.int .i64 x.1.2.f2) rfl; have z3 := cell_at hBx 3 (.int .i64 x.1.2.f3) rfl; have hlook := HL.out W hi.bel x.1.1 x.2.1.1 x.2.1.2; have HI := Aa hi
    cases hom : om x.1.1 with
    | true =>
     rw [hom] at hlook; have E1 := Aa (show bindF om (pre ++ [x]) = bindF om pre by rw [bindF_snoc, if_pos hom]); clear hi
     gi_wp2
     exact ⟨KeepsFrom.refl _ _, KB.refl _ _ _, by rw [E1.out]; exact HI.out, hsz⟩
    | false =>
     rw [hom] at hlook; have E1 := Aa (show bindF om (pre ++ [x]) = sayF (bindF om pre) x.1.2 by rw [bindF_snoc, if_neg (by rw [hom]; simp)]); clear hi
     have hmix : Try.prog.follows .mixedOrders = true := by kernel_rfl
     have HSay := Aa (fun (V : World) (hV : Bd V (w.heap.size + 1 + 1) (.slice A0 evs.length c0) (.slice A1 gaps.length c1) (bindF om pre)) => say_calls (w.heap.size + 1 + 1) _ _ _ x.1.2 V hV x.2.2.1 x.2.2.2)
     gi_wp2_with fail
     gi_region_with_o (refine ⟨trivial, ?_⟩; gi_at_call 117; refine (CallsIn.inRound l (callsIn_wide.2 (HSay.out _ HI.out.bd.drew))).mono ?_; rintro e w' ⟨rfl, hbd, hgr⟩)
     all_goals gi_wp2
     all_goals
      have hg2 : W.grownBy w' (some (w.heap.size + 1 + 1)) := ⟨hgr.os, hgr.tape, hgr.output, hgr.size, hgr.block⟩
      exact ⟨KeepsFrom.of_grownBy hg2 (fun j e => by injection e with e; omega), KB.of hg2 (fun r e => .inl (by injection e with e; exact e.symm)) hsz, ⟨by rw [E1.out]; exact hbd, below_grown HI.out.bel hg2 HI.out.bel.size (fun r e => by injection e with e; omega), blk_grown HI.out.k1 hg2 (fun e => by injection e with e; omega), blk_grown HI.out.k3 hg2 (fun e => by injection e with e; omega)⟩, Nat.le_trans hsz hg2.size⟩
   case done =>
    rintro D xs W hD rfl ⟨hi, hsz⟩ hK; have x3 := cell_at hi.k3 0 (.pointer (some ⟨w.heap.size + 1 + 1, 0, none⟩)) rfl; have HI := Aa hi; clear hi
    gi_wp2
    refine ⟨by simp, .inl ⟨_, _, rfl, run_takeDeferred hK, ?_⟩⟩; have hF := HI.out.grown (grownBy_putObj' W D (.deferred none)) (fun r e => by injection e with e; omega); exact ⟨_, results_tmp rfl _ _ _, rfl, hF.bd, hF.bel⟩
   case stop =>
    rintro D c pre W hD _ hf hK; exact hf.elim
end Go.Proofs.Ytobcecgcegoooaa.Sk
namespace Go.Proofs.Ytobcecgcegoooaa.Sk
open Go.RowKit Go.Proofs.YtobcecgcegoooaaW.PrintWords Go.Proofs.YtobcecgcegoooaaW.PrintLast Go.Proofs.YtobcecgcegoooaaW.PrintMore
set_option linter.unusedVariables false
set_option linter.unusedSimpArgs false
def good27 (s : S27) : Bool := decide (s.f0 ≤ s.f1) && (decide (s.f0 ≥ -1000000) && decide (s.f1 ≤ 1000000))
theorem formed_good (s : S27) : skew_formed.f s.f0 s.f1 = some (good27 s) := by
 unfold skew_formed.f good27
 by_cases h1 : s.f0 ≤ s.f1 <;> by_cases h2 : s.f0 ≥ -1000000 <;> simp [h1, h2]
def skew_all.f (l0 : List S27) : Option Bool := some (l0.all good27)
theorem all1_calls (s : S27) (w : World) :
  Calls Try.prog 127 #[.agg #[.int .i64 s.f0, .int .i64 s.f1]] w fun e w' => e = .returned (.bool (!(good27 s))) ∧ Below w.heap.size w w' := by
 have hu27 := Try.underlying27
 go_enter Try.func127, Try.ntmps127
 go_wp2_with (go_at_call 111; refine (skew_formed.calls s.f0 s.f1 (good27 s) _ (formed_good s)).mono ?_; rintro e w' ⟨rfl, hb⟩)
 go_ret; exact ⟨rfl, Bp (Ba (Below.refl _ _) _) hb⟩
theorem take_all (l : List S27) (p : S27 → Bool) (i : Int) (h0 : 0 ≤ i) (h1 : i < l.length) (hA : ∀ x ∈ l.take i.toNat, p x = true) (hp : p (rd_T27 l i) = true) : ∀ x ∈ l.take (i + 1).toNat, p x = true := by
 have e : (i + 1).toNat = i.toNat + 1 := by omega
 have hl : i.toNat < l.length := by omega
 rw [e, List.take_succ_eq_append_getElem hl]; intro x hx
 rcases List.mem_append.1 hx with hx | hx
 ·exact hA x hx
 ·have : x = l[i.toNat] := by simpa using hx
  subst this
  have : rd_T27 l i = l[i.toNat] := by simp [rd_T27, List.getD_eq_getElem?_getD, hl]
  rw [← this]; exact hp
theorem not_all (l : List S27) (p : S27 → Bool) (i : Int) (h0 : 0 ≤ i) (h1 : i < l.length) (hp : p (rd_T27 l i) = false) : l.all p = false := by
 have hl : i.toNat < l.length := by omega
 have : rd_T27 l i = l[i.toNat] := by simp [rd_T27, List.getD_eq_getElem?_getD, hl]
 rw [this] at hp; rw [List.all_eq_false]; exact ⟨_, List.getElem_mem hl, by simp [hp]⟩
set_option maxHeartbeats 1000000 in
set_option maxRecDepth 100000 in
theorem idx129_calls (A0 : Option Addr) (c0 : Nat) (l0 : List S27) (w : World) (hr0 : Kd.C k27 w A0 l0.length l0) (hm : l0.length ≤ 9223372036854775807) :
  Calls Try.prog 134 #[.slice A0 l0.length c0, .func (.func 127) #[] #[]] w fun e w' => ∃ i : Int, e = .returned (.int .i64 i) ∧ decide (0 ≤ i) = !(l0.all good27) ∧ Below w.heap.size w w' := by
 have hu27 := Try.underlying27; have HR0 := Aa hr0; clear hr0
 go_enter Try.func134, Try.ntmps134
 go_wp2
 go_loopw [8] (fun v W => ∃ i : Int, 0 ≤ i ∧ i ≤ l0.length ∧ v = .int .i64 i ∧ Aside0 (∀ x ∈ l0.take i.toNat, good27 x = true) ∧ Aside0 (Below w.heap.size w W)) (fun v _ => l0.length - (intOf v).toNat)
 case atStart => exact ⟨0, by omega, by omega, rfl, ⟨by simp⟩, ⟨Below.refl _ _⟩⟩
 case round =>
  obtain ⟨i, h0, hk, rfl, HA, HB⟩ := hrel
  by_cases hlt : i < l0.length
  ·obtain ⟨ad, e217, hx0, hx1⟩ := at_T27 HR0.out i h0 hlt; cases e217; replace hx0 := (HB.out.cell (Wb w _ hx0)).trans hx0; replace hx1 := (HB.out.cell (Wb w _ hx1)).trans hx1
   obtain ⟨b, hb⟩ : ∃ b, good27 (rd_T27 l0 i) = b := ⟨_, rfl⟩
   have hc := all1_calls (rd_T27 l0 i); rw [hb] at hc; have HC := Aa hc; have HG := Aa hb; clear hc hb; cases b
   ·go_wp2_with (go_at_call 127; refine (HC.out _).mono ?_; rintro e w' ⟨rfl, hb⟩)
    go_ret; exact ⟨i, rfl, by rw [not_all l0 good27 i h0 hlt HG.out]; simp [h0], Bp HB.out hb⟩
   ·go_wp2_with (go_at_call 127; refine (HC.out _).mono ?_; rintro e w' ⟨rfl, hb⟩)
    go_roundw
    case rel => exact ⟨i + 1, by omega, by omega, rfl, ⟨take_all l0 good27 i h0 hlt HA.out HG.out⟩, ⟨Bp HB.out hb⟩⟩
    case measure => simp [intOf]; omega
  ·have e : l0.take i.toNat = l0 := List.take_of_length_le (by omega); have HE := Aa e; clear e; go_wp2; go_ret; refine ⟨-1, rfl, ?_, HB.out⟩
   have : l0.all good27 = true := by rw [List.all_eq_true]; intro x hx; exact HA.out x (by rw [HE.out]; exact hx)
   rw [this]; rfl
theorem cont124_calls (A0 : Option Addr) (c0 : Nat) (l0 : List S27) (w : World) (hr0 : Kd.C k27 w A0 l0.length l0) (hm : l0.length ≤ 9223372036854775807) :
  Calls Try.prog 126 #[.slice A0 l0.length c0, .func (.func 127) #[] #[]] w fun e w' => e = .returned (.bool (!(l0.all good27))) ∧ Below w.heap.size w w' := by
 have HC := Aa (idx129_calls A0 c0 l0 w hr0 hm); clear hr0
 go_enter Try.func126, Try.ntmps126
 go_wp2_with (go_at_call 134; refine HC.out.mono ?_; rintro e w' ⟨i, rfl, hi, hb⟩; have HI := Aa hi; clear hi)
 go_ret; exact ⟨by rw [← HI.out]; rfl, hb⟩
theorem skew_all.calls (A0 : Option Addr) (c0 : Nat) (l0 : List S27) (r : Bool) (w : World) (hr0 : Kd.C k27 w A0 l0.length l0) (hc0 : l0.length ≤ c0) (h : skew_all.f l0 = some r) :
  Calls Try.prog 99 #[.slice A0 l0.length c0] w fun e w' => e = .returned (.bool r) ∧ Below w.heap.size w w' := by
 obtain rfl := Option.some.inj h; have HC := Aa (cont124_calls A0 c0 l0 w hr0 hr0.2.1); clear hr0 h
 go_enter Try.func99, Try.ntmps99
 go_wp2_with (go_at_call 126; refine HC.out.mono ?_; rintro e w' ⟨rfl, hb⟩)
 go_ret; exact ⟨by simp, hb⟩
end Go.Proofs.Ytobcecgcegoooaa.Sk
