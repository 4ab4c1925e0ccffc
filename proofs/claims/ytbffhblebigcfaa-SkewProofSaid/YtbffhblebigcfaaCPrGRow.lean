/- From a row's readings to the words of the walks: structs of numbers, slices of them. -/
import Derived.Test.YtbffhblebigcfaaRows
import Derived.WalkKit
import Derived.ProofKit
import Derived.OpenShut
import Derived.ShutString
import Derived.ChangeOld
import Derived.Below
import Derived.SizedLaws
import Derived.Deep.Slices
import Derived.Test.YtbffhblebigcfaaCPrS0
namespace Go.Proofs.Ytbffhblebigcfaa.Sk
open Go.RowKit Go.Deep Go.WideShapes Go.ChangeShapes Go.Proofs.YtbffhblebigcfaaW.PrintWords Go.Proofs.YtbffhblebigcfaaW.PrintLast Go.Proofs.YtbffhblebigcfaaW.PrintMore
set_option linter.unusedVariables false
set_option linter.unusedSimpArgs false
def I64 (z : Int) : Prop := (Lit.int .i64 z).wf = true
def Rd {α : Type} (w : World) (t : TypeId) (d : Kd α) (ok : α → Prop) : Prop := ∀ {H : Type} (enc : TypeId × Value → H) (spare : Nat → Bool) (held : Bool) (n : Nat) (cs : List Value) (x : DataW H × List MemPlace), DataW.trod enc Try.prog w 0 spare held n t cs = some x → ∃ a : α, d.K w a cs ∧ ok a
theorem ints_of_struct {w : World} {t : TypeId} {fs : Array Field} (hs : Try.prog.underlying t = some (.struct fs)) (hc : Try.prog.cellsOf t = fs.size) (hf : ∀ (i : Nat) (f : Field), fs[i]? = some f → f.offset = i ∧ Try.prog.underlying f.type = some (.int .i64) ∧ Try.prog.cellsOf f.type = 1)
  {H : Type} {enc : TypeId × Value → H} {spare : Nat → Bool} {held : Bool} {n : Nat} {cs : List Value} {x : DataW H × List MemPlace} (h : DataW.trod enc Try.prog w 0 spare held n t cs = some x) :
  cs.length = fs.size ∧ ∀ i, i < fs.size → ∃ z, cs[i]? = some (.int .i64 z) ∧ I64 z := by
 obtain ⟨xs, m, _, _, hl, hxl, hg⟩ := DataW.trod_struct hs h
 refine ⟨hl.trans hc, fun i hi => ?_⟩
 obtain ⟨h1, h2, h3⟩ := hf i fs[i] (by simp [hi])
 have h4 := hg i fs[i] (by simp [hi])
 rw [h1, h3, List.getElem?_eq_getElem (by omega)] at h4
 obtain ⟨z, hz, _, hw⟩ := DataW.trod_int h2 h4
 refine ⟨z, ?_, hw⟩
 have h5 := congrArg (·[0]?) hz
 simpa using h5
theorem list2 {α : Type} {l : List α} (h : l.length = 2) : ∃ a b, l = [a, b] := by
 match l, h with
 | [a, b], _ => exact ⟨a, b, rfl⟩
theorem list4 {α : Type} {l : List α} (h : l.length = 4) : ∃ a b c d, l = [a, b, c, d] := by
 match l, h with
 | [a, b, c, d], _ => exact ⟨a, b, c, d, rfl⟩
def ok27 (x : S27) : Prop := I64 x.f0 ∧ I64 x.f1
def ok86 (x : S86) : Prop := I64 x.f0 ∧ I64 x.f1 ∧ I64 x.f2 ∧ I64 x.f3
theorem fields2 {e : TypeId} (he : Try.prog.underlying e = some (.int .i64)) (hc : Try.prog.cellsOf e = 1) {fs : Array Field} (h : fs.toList.map (fun f => (f.offset, f.type)) = [(0, e), (1, e)]) : ∀ (i : Nat) (f : Field), fs[i]? = some f → f.offset = i ∧ Try.prog.underlying f.type = some (.int .i64) ∧ Try.prog.cellsOf f.type = 1 := by
 intro i f hi
 have h1 := congrArg (·[i]?) h
 simp [hi] at h1
 rcases i with _ | _ | i <;> simp_all
theorem fields4 {e : TypeId} (he : Try.prog.underlying e = some (.int .i64)) (hc : Try.prog.cellsOf e = 1) {fs : Array Field} (h : fs.toList.map (fun f => (f.offset, f.type)) = [(0, e), (1, e), (2, e), (3, e)]) : ∀ (i : Nat) (f : Field), fs[i]? = some f → f.offset = i ∧ Try.prog.underlying f.type = some (.int .i64) ∧ Try.prog.cellsOf f.type = 1 := by
 intro i f hi
 have h1 := congrArg (·[i]?) h
 simp [hi] at h1
 rcases i with _ | _ | _ | _ | i <;> simp_all
theorem cells3 : Try.prog.cellsOf 3 = 1 := by kernel_rfl
theorem two_of {w : World} {t : TypeId} {fs : Array Field} (hs : Try.prog.underlying t = some (.struct fs)) (hc : Try.prog.cellsOf t = 2) (h : fs.toList.map (fun f => (f.offset, f.type)) = [(0, 3), (1, 3)])
  {H : Type} {enc : TypeId × Value → H} {spare : Nat → Bool} {held : Bool} {n : Nat} {cs : List Value} {x : DataW H × List MemPlace} (hx : DataW.trod enc Try.prog w 0 spare held n t cs = some x) : ∃ a b, cs = [.int .i64 a, .int .i64 b] ∧ I64 a ∧ I64 b := by
 have hsz : fs.size = 2 := by have := congrArg List.length h; simpa using this
 obtain ⟨hl, hg⟩ := ints_of_struct hs (by rw [hc, hsz]) (fields2 Try.underlying3 cells3 h) hx
 obtain ⟨u, v, rfl⟩ := list2 (hl.trans hsz)
 obtain ⟨a, ha, wa⟩ := hg 0 (by omega)
 obtain ⟨b, hb, wb⟩ := hg 1 (by omega)
 simp at ha hb
 exact ⟨a, b, by rw [ha, hb], wa, wb⟩
theorem four_of {w : World} {t : TypeId} {fs : Array Field} (hs : Try.prog.underlying t = some (.struct fs)) (hc : Try.prog.cellsOf t = 4) (h : fs.toList.map (fun f => (f.offset, f.type)) = [(0, 3), (1, 3), (2, 3), (3, 3)])
  {H : Type} {enc : TypeId × Value → H} {spare : Nat → Bool} {held : Bool} {n : Nat} {cs : List Value} {x : DataW H × List MemPlace} (hx : DataW.trod enc Try.prog w 0 spare held n t cs = some x) : ∃ a b c d, cs = [.int .i64 a, .int .i64 b, .int .i64 c, .int .i64 d] ∧ I64 a ∧ I64 b ∧ I64 c ∧ I64 d := by
 have hsz : fs.size = 4 := by have := congrArg List.length h; simpa using this
 obtain ⟨hl, hg⟩ := ints_of_struct hs (by rw [hc, hsz]) (fields4 Try.underlying3 cells3 h) hx
 obtain ⟨u, v, q, r, rfl⟩ := list4 (hl.trans hsz)
 obtain ⟨a, ha, wa⟩ := hg 0 (by omega)
 obtain ⟨b, hb, wb⟩ := hg 1 (by omega)
 obtain ⟨c, hc', wc⟩ := hg 2 (by omega)
 obtain ⟨d, hd, wd⟩ := hg 3 (by omega)
 simp at ha hb hc' hd
 exact ⟨a, b, c, d, by rw [ha, hb, hc', hd], wa, wb, wc, wd⟩
theorem Rd.s27 (w : World) : Rd w 27 k27 ok27 := by
 intro H enc spare held n cs x h
 obtain ⟨a, b, rfl, wa, wb⟩ := two_of Try.underlying27 (by kernel_rfl) (by kernel_rfl) h
 exact ⟨⟨a, b⟩, k27_mk w _, wa, wb⟩
theorem Rd.s86 (w : World) : Rd w 86 k86 ok86 := by
 intro H enc spare held n cs x h
 obtain ⟨a, b, c, d, rfl, wa, wb, wc, wd⟩ := four_of Try.underlying86 (by kernel_rfl) (by kernel_rfl) h
 exact ⟨⟨a, b, c, d⟩, k86_mk w _, wa, wb, wc, wd⟩
theorem Rd.slice {α : Type} {w : World} {t e : TypeId} {d : Kd α} {ok : α → Prop} (ht : Try.prog.underlying t = some (.slice e)) (hs : Try.prog.cellsOf e = d.sz) (hd : Rd w e d ok)
  {H : Type} {enc : TypeId × Value → H} {spare : Nat → Bool} {held : Bool} {n : Nat} {cs : List Value} {x : DataW H × List MemPlace} (h : DataW.trod enc Try.prog w 0 spare held n t cs = some x) :
  ∃ (A : Option Addr) (c : Nat) (xs : List α), cs = [.slice A xs.length c] ∧ xs.length ≤ c ∧ d.C w A xs.length xs ∧ ∀ a ∈ xs, ok a := by
 rcases open_slice ht h with ⟨rfl, _⟩ | ⟨a, len, cap, m, k, D, Pl, rfl, _, hl, hm, hmm, _, hx⟩
 ·exact ⟨none, 0, [], rfl, Nat.le_refl _, ⟨rfl, Nat.zero_le _, fun h => by simp at h⟩, fun a h => by simp at h⟩
 ·have hlm : len ≤ m := by rw [hmm]; split <;> omega
  have each : ∀ i, i < len → ∃ q : α, ok q ∧ ∃ c : List Value, c.length = d.sz ∧ d.K w q c ∧ ∀ j u, c[j]? = some u → w.cell? (a.add (i * d.sz + j)) = some u := by
   intro i hi
   obtain ⟨cs', h1, h2⟩ := hx i (by omega)
   obtain ⟨q, hK, hq⟩ := hd enc spare held k cs' _ h2
   obtain ⟨_, hlen, hcell⟩ := World.cells?_some h1
   refine ⟨q, hq, cs', d.K_len hK, hK, fun j u hu => ?_⟩
   have hj := (List.getElem?_eq_some_iff.mp hu).1
   have := hcell j (by omega)
   rw [Deep.add_add, hs] at this
   rw [this, hu]
  rcases Nat.eq_zero_or_pos len with h0 | h0
  ·subst h0
   exact ⟨some a, cap, [], rfl, Nat.zero_le _, ⟨rfl, Nat.zero_le _, fun h => by simp at h⟩, fun a h => by simp at h⟩
  ·obtain ⟨q0, _⟩ := each 0 h0
   haveI : Inhabited α := ⟨q0⟩
   obtain ⟨f, hf⟩ := choose_lt each
   have hlen : ((List.range len).map f).length = len := by simp
   refine ⟨some a, cap, (List.range len).map f, by rw [hlen], by rw [hlen]; exact hl, ⟨rfl, by rw [hlen]; simp only [maxLen] at hm; omega, fun _ => ⟨a, rfl, fun j p hj => ?_⟩⟩, fun p hp => ?_⟩
   ·have hjl : j < len := by have := (List.getElem?_eq_some_iff.mp hj).1; simpa using this
    have hp : p = f j := by
     rw [List.getElem?_map, List.getElem?_range hjl] at hj
     simpa using hj.symm
    subst hp
    obtain ⟨_, c, h1, h2, h3⟩ := hf j hjl
    exact ⟨c, h1, h2, h3⟩
   ·obtain ⟨i, hi, rfl⟩ := List.mem_map.mp hp
    exact (hf i (List.mem_range.mp hi)).1
theorem laidOut' : laidOutB Try.prog = true := by kernel_rfl
theorem own' : ownKnob Try.prog.godebug = none := by kernel_rfl
end Go.Proofs.Ytbffhblebigcfaa.Sk
