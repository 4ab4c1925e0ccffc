/- From a row's readings to the words of the walks: structs of numbers, slices of them. -/
import Derived.Test.YtbffhblebigcfaaRows
import Derived.WalkKit
import Derived.ProofKit
import Derived.OpenShut
import Derived.ShutString
import Derived.ChangeOld
import Derived.Below
import Derived.SizedLaws
import Derived.Deep.Slices
import Derived.Test.YtbffhblebigcfaaCKnS0
namespace Go.Proofs.Ytbffhblebigcfaa.Sk
open Go.RowKit Go.Deep Go.WideShapes Go.ChangeShapes Go.Proofs.YtbffhblebigcfaaW.PrintWords Go.Proofs.YtbffhblebigcfaaW.PrintLast Go.Proofs.YtbffhblebigcfaaW.PrintMore
set_option linter.unusedVariables false
set_option linter.unusedSimpArgs false
def I64 (z : Int) : Prop := (Lit.int .i64 z).wf = true
theorem I64.bd {z : Int} (h : I64 z) : -9223372036854775808 ≤ z ∧ z ≤ 9223372036854775807 := by
 exact bounds_i64 h
def Rd {α : Type} (w : World) (t : TypeId) (d : Kd α) (ok : α → Prop) : Prop := ∀ {H : Type} (enc : TypeId × Value → H) (spare : Nat → Bool) (held : Bool) (n : Nat) (cs : List Value) (x : DataW H × List MemPlace), DataW.trod enc Try.prog w 0 spare held n t cs = some x → ∃ a : α, d.K w a cs ∧ ok a
theorem Rd.int (w : World) {t : TypeId} {k : IntKind} (ht : Try.prog.underlying t = some (.int k)) : Rd w t (Kd.int k) (fun z => (Lit.int k z).wf = true) := by
 intro H enc spare held n cs x h
 obtain ⟨z, rfl, _, hz⟩ := DataW.trod_int ht h
 exact ⟨z, rfl, hz⟩
theorem Rd.slice {α : Type} {w : World} {t e : TypeId} {d : Kd α} {ok : α → Prop} (ht : Try.prog.underlying t = some (.slice e)) (hs : Try.prog.cellsOf e = d.sz) (hd : Rd w e d ok)
  {H : Type} {enc : TypeId × Value → H} {spare : Nat → Bool} {held : Bool} {n : Nat} {cs : List Value} {x : DataW H × List MemPlace} (h : DataW.trod enc Try.prog w 0 spare held n t cs = some x) :
  ∃ (A : Option Addr) (c : Nat) (xs : List α), cs = [.slice A xs.length c] ∧ xs.length ≤ c ∧ d.C w A xs.length xs ∧ ∀ a ∈ xs, ok a := by
 rcases open_slice ht h with ⟨rfl, _⟩ | ⟨a, len, cap, m, k, D, Pl, rfl, _, hl, hm, hmm, _, hx⟩
 ·exact ⟨none, 0, [], rfl, Nat.le_refl _, ⟨rfl, Nat.zero_le _, fun h => by simp at h⟩, fun a h => by simp at h⟩
 ·have hlm : len ≤ m := by rw [hmm]; split <;> omega
  have each : ∀ i, i < len → ∃ q : α, ok q ∧ ∃ c : List Value, c.length = d.sz ∧ d.K w q c ∧ ∀ j u, c[j]? = some u → w.cell? (a.add (i * d.sz + j)) = some u := by
   intro i hi
   obtain ⟨cs', h1, h2⟩ := hx i (by omega)
   obtain ⟨q, hK, hq⟩ := hd enc spare held k cs' _ h2
   obtain ⟨_, hlen, hcell⟩ := World.cells?_some h1
   refine ⟨q, hq, cs', d.K_len hK, hK, fun j u hu => ?_⟩
   have hj := (List.getElem?_eq_some_iff.mp hu).1
   have := hcell j (by omega)
   rw [Deep.add_add, hs] at this
   rw [this, hu]
  rcases Nat.eq_zero_or_pos len with h0 | h0
  ·subst h0
   exact ⟨some a, cap, [], rfl, Nat.zero_le _, ⟨rfl, Nat.zero_le _, fun h => by simp at h⟩, fun a h => by simp at h⟩
  ·obtain ⟨q0, _⟩ := each 0 h0
   haveI : Inhabited α := ⟨q0⟩
   obtain ⟨f, hf⟩ := choose_lt each
   have hlen : ((List.range len).map f).length = len := by simp
   refine ⟨some a, cap, (List.range len).map f, by rw [hlen], by rw [hlen]; exact hl, ⟨rfl, by rw [hlen]; simp only [maxLen] at hm; omega, fun _ => ⟨a, rfl, fun j p hj => ?_⟩⟩, fun p hp => ?_⟩
   ·have hjl : j < len := by have := (List.getElem?_eq_some_iff.mp hj).1; simpa using this
    have hp : p = f j := by
     rw [List.getElem?_map, List.getElem?_range hjl] at hj
     simpa using hj.symm
    subst hp
    obtain ⟨_, c, h1, h2, h3⟩ := hf j hjl
    exact ⟨c, h1, h2, h3⟩
   ·obtain ⟨i, hi, rfl⟩ := List.mem_map.mp hp
    exact (hf i (List.mem_range.mp hi)).1
theorem own' : ownKnob Try.prog.godebug = none := by kernel_rfl
end Go.Proofs.Ytbffhblebigcfaa.Sk
