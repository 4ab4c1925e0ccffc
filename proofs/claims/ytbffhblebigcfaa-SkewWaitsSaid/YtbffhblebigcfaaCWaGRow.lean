/- From a row's readings to the words of the walks: structs of numbers, slices of them. -/
import Derived.Test.YtbffhblebigcfaaRows
import Derived.WalkKit
import Derived.ProofKit
import Derived.OpenShut
import Derived.ShutString
import Derived.ChangeOld
import Derived.Below
import Derived.SizedLaws
import Derived.Deep.Slices
import Derived.Test.YtbffhblebigcfaaCWaS0
namespace Go.Proofs.Ytbffhblebigcfaa.Sk
open Go.RowKit Go.Deep Go.WideShapes Go.ChangeShapes Go.Proofs.YtbffhblebigcfaaW.PrintWords Go.Proofs.YtbffhblebigcfaaW.PrintLast Go.Proofs.YtbffhblebigcfaaW.PrintMore
set_option linter.unusedVariables false
set_option linter.unusedSimpArgs false
def I64 (z : Int) : Prop := (Lit.int .i64 z).wf = true
def Rd {α : Type} (w : World) (t : TypeId) (d : Kd α) (ok : α → Prop) : Prop := ∀ {H : Type} (enc : TypeId × Value → H) (spare : Nat → Bool) (held : Bool) (n : Nat) (cs : List Value) (x : DataW H × List MemPlace), DataW.trod enc Try.prog w 0 spare held n t cs = some x → ∃ a : α, d.K w a cs ∧ ok a
theorem Rd.int (w : World) {t : TypeId} {k : IntKind} (ht : Try.prog.underlying t = some (.int k)) : Rd w t (Kd.int k) (fun z => (Lit.int k z).wf = true) := by
  intro H enc spare held n cs x h
  obtain ⟨z, rfl, _, hz⟩ := DataW.trod_int ht h
  exact ⟨z, rfl, hz⟩
theorem ints_of_struct {w : World} {t : TypeId} {fs : Array Field} (hs : Try.prog.underlying t = some (.struct fs)) (hc : Try.prog.cellsOf t = fs.size) (hf : ∀ (i : Nat) (f : Field), fs[i]? = some f → f.offset = i ∧ Try.prog.underlying f.type = some (.int .i64) ∧ Try.prog.cellsOf f.type = 1)
    {H : Type} {enc : TypeId × Value → H} {spare : Nat → Bool} {held : Bool} {n : Nat} {cs : List Value} {x : DataW H × List MemPlace} (h : DataW.trod enc Try.prog w 0 spare held n t cs = some x) :
    cs.length = fs.size ∧ ∀ i, i < fs.size → ∃ z, cs[i]? = some (.int .i64 z) ∧ I64 z := by
  obtain ⟨xs, m, _, _, hl, hxl, hg⟩ := DataW.trod_struct hs h
  refine ⟨hl.trans hc, fun i hi => ?_⟩
  obtain ⟨h1, h2, h3⟩ := hf i fs[i] (by simp [hi])
  have h4 := hg i fs[i] (by simp [hi])
  rw [h1, h3, List.getElem?_eq_getElem (by omega)] at h4
  obtain ⟨z, hz, _, hw⟩ := DataW.trod_int h2 h4
  refine ⟨z, ?_, hw⟩
  have h5 := congrArg (·[0]?) hz
  simpa using h5
theorem list3 {α : Type} {l : List α} (h : l.length = 3) : ∃ a b c, l = [a, b, c] := by
  match l, h with
  | [a, b, c], _ => exact ⟨a, b, c, rfl⟩
theorem fields3 {e : TypeId} (he : Try.prog.underlying e = some (.int .i64)) (hc : Try.prog.cellsOf e = 1) {fs : Array Field} (h : fs.toList.map (fun f => (f.offset, f.type)) = [(0, e), (1, e), (2, e)]) : ∀ (i : Nat) (f : Field), fs[i]? = some f → f.offset = i ∧ Try.prog.underlying f.type = some (.int .i64) ∧ Try.prog.cellsOf f.type = 1 := by
  intro i f hi
  have h1 := congrArg (·[i]?) h
  simp [hi] at h1
  rcases i with _ | _ | _ | i <;> simp_all
theorem cells3 : Try.prog.cellsOf 3 = 1 := by kernel_rfl
theorem three_of {w : World} {t : TypeId} {fs : Array Field} (hs : Try.prog.underlying t = some (.struct fs)) (hc : Try.prog.cellsOf t = 3) (h : fs.toList.map (fun f => (f.offset, f.type)) = [(0, 3), (1, 3), (2, 3)])
    {H : Type} {enc : TypeId × Value → H} {spare : Nat → Bool} {held : Bool} {n : Nat} {cs : List Value} {x : DataW H × List MemPlace} (hx : DataW.trod enc Try.prog w 0 spare held n t cs = some x) : ∃ a b c, cs = [.int .i64 a, .int .i64 b, .int .i64 c] ∧ I64 a ∧ I64 b ∧ I64 c := by
  have hsz : fs.size = 3 := by have := congrArg List.length h; simpa using this
  obtain ⟨hl, hg⟩ := ints_of_struct hs (by rw [hc, hsz]) (fields3 Try.underlying3 cells3 h) hx
  obtain ⟨u, v, q, rfl⟩ := list3 (hl.trans hsz)
  obtain ⟨a, ha, wa⟩ := hg 0 (by omega)
  obtain ⟨b, hb, wb⟩ := hg 1 (by omega)
  obtain ⟨c, hc', wc⟩ := hg 2 (by omega)
  simp at ha hb hc'
  exact ⟨a, b, c, by rw [ha, hb, hc'], wa, wb, wc⟩
theorem Rd.slice {α : Type} {w : World} {t e : TypeId} {d : Kd α} {ok : α → Prop} (ht : Try.prog.underlying t = some (.slice e)) (hs : Try.prog.cellsOf e = d.sz) (hd : Rd w e d ok)
    {H : Type} {enc : TypeId × Value → H} {spare : Nat → Bool} {held : Bool} {n : Nat} {cs : List Value} {x : DataW H × List MemPlace} (h : DataW.trod enc Try.prog w 0 spare held n t cs = some x) :
    ∃ (A : Option Addr) (c : Nat) (xs : List α), cs = [.slice A xs.length c] ∧ xs.length ≤ c ∧ d.C w A xs.length xs ∧ ∀ a ∈ xs, ok a := by
  rcases open_slice ht h with ⟨rfl, _⟩ | ⟨a, len, cap, m, k, D, Pl, rfl, _, hl, hm, hmm, _, hx⟩
  · exact ⟨none, 0, [], rfl, Nat.le_refl _, ⟨rfl, Nat.zero_le _, fun h => by simp at h⟩, fun a h => by simp at h⟩
  · have hlm : len ≤ m := by rw [hmm]; split <;> omega
    have each : ∀ i, i < len → ∃ q : α, ok q ∧ ∃ c : List Value, c.length = d.sz ∧ d.K w q c ∧ ∀ j u, c[j]? = some u → w.cell? (a.add (i * d.sz + j)) = some u := by
      intro i hi
      obtain ⟨cs', h1, h2⟩ := hx i (by omega)
      obtain ⟨q, hK, hq⟩ := hd enc spare held k cs' _ h2
      obtain ⟨_, hlen, hcell⟩ := World.cells?_some h1
      refine ⟨q, hq, cs', d.K_len hK, hK, fun j u hu => ?_⟩
      have hj := (List.getElem?_eq_some_iff.mp hu).1
      have := hcell j (by omega)
      rw [Deep.add_add, hs] at this
      rw [this, hu]
    rcases Nat.eq_zero_or_pos len with h0 | h0
    · subst h0
      exact ⟨some a, cap, [], rfl, Nat.zero_le _, ⟨rfl, Nat.zero_le _, fun h => by simp at h⟩, fun a h => by simp at h⟩
    · obtain ⟨q0, _⟩ := each 0 h0
      haveI : Inhabited α := ⟨q0⟩
      obtain ⟨f, hf⟩ := choose_lt each
      have hlen : ((List.range len).map f).length = len := by simp
      refine ⟨some a, cap, (List.range len).map f, by rw [hlen], by rw [hlen]; exact hl, ⟨rfl, by rw [hlen]; simp only [maxLen] at hm; omega, fun _ => ⟨a, rfl, fun j p hj => ?_⟩⟩, fun p hp => ?_⟩
      · have hjl : j < len := by have := (List.getElem?_eq_some_iff.mp hj).1; simpa using this
        have hp : p = f j := by
          rw [List.getElem?_map, List.getElem?_range hjl] at hj
          simpa using hj.symm
        subst hp
        obtain ⟨_, c, h1, h2, h3⟩ := hf j hjl
        exact ⟨c, h1, h2, h3⟩
      · obtain ⟨i, hi, rfl⟩ := List.mem_map.mp hp
        exact (hf i (List.mem_range.mp hi)).1
theorem int_at {w : World} {H : Type} {enc : TypeId × Value → H} {spare : Nat → Bool} {held : Bool} {n : Nat} {cs : List Value} {o : Nat} {y : Option (DataW H × List MemPlace)} (ho : o < cs.length) (h : DataW.trod enc Try.prog w 0 spare held n 3 ((cs.drop o).take (Try.prog.cellsOf 3)) = y) (hy : y.isSome = true) : ∃ z, cs[o]? = some (.int .i64 z) ∧ I64 z := by
  obtain ⟨x, rfl⟩ := Option.isSome_iff_exists.mp hy
  rw [cells3, List.drop_eq_getElem_cons ho] at h
  obtain ⟨z, hz, _, hw⟩ := DataW.trod_int Try.underlying3 h
  refine ⟨z, ?_, hw⟩
  have h5 := congrArg (·[0]?) hz
  simp at h5
  exact h5
theorem given_of {w : World} {H : Type} {enc : TypeId × Value → H} {spare : Nat → Bool} {held : Bool} {n : Nat} {cs : List Value} {x : DataW H × List MemPlace} (hx : DataW.trod enc Try.prog w 0 spare held n 25 cs = some x) :
    ∃ a b c d e f g, cs = [.int .i64 a, .int .i64 b, .int .i64 c, .int .i64 d, .int .i64 e, .int .i64 f, .int .i64 g] ∧ I64 a ∧ I64 b ∧ I64 c ∧ I64 d ∧ I64 e ∧ I64 f ∧ I64 g := by
  obtain ⟨xs, m, _, _, hl, hxl, hg⟩ := DataW.trod_struct Try.underlying25 hx
  have hl7 : cs.length = 7 := hl.trans (by kernel_rfl)
  have hx5 : xs.length = 5 := hxl
  have k0 := hg 0 _ rfl
  have k1 := hg 1 _ rfl
  have k2 := hg 2 _ rfl
  have k3 := hg 3 _ rfl
  have k4 := hg 4 _ rfl
  have hs : ∀ i, i < 5 → (xs[i]?).isSome = true := fun i hi => by rw [List.getElem?_eq_getElem (by omega)]; rfl
  obtain ⟨y0, hy0⟩ := Option.isSome_iff_exists.mp (hs 0 (by omega))
  rw [hy0] at k0
  obtain ⟨a, b, c, h3, wa, wb, wc⟩ := three_of (t := 23) Try.underlying23 (by kernel_rfl) (by kernel_rfl) k0
  obtain ⟨d, hd, wd⟩ := int_at (o := 3) (by omega) k1 (hs 1 (by omega))
  obtain ⟨e, he, we⟩ := int_at (o := 4) (by omega) k2 (hs 2 (by omega))
  obtain ⟨f, hf, wf⟩ := int_at (o := 5) (by omega) k3 (hs 3 (by omega))
  obtain ⟨g, hg', wg⟩ := int_at (o := 6) (by omega) k4 (hs 4 (by omega))
  have c23 : Try.prog.cellsOf 23 = 3 := by kernel_rfl
  have h3' : cs.take 3 = [.int .i64 a, .int .i64 b, .int .i64 c] := by rw [← c23]; exact h3
  refine ⟨a, b, c, d, e, f, g, ?_, wa, wb, wc, wd, we, wf, wg⟩
  apply List.ext_getElem?
  intro i
  by_cases hi : i < 3
  · have := congrArg (·[i]?) h3'
    simp only [List.getElem?_take, if_pos hi] at this
    rw [this]
    rcases i with _ | _ | _ | i <;> first | rfl | omega
  · by_cases hi7 : i < 7
    · obtain rfl | rfl | rfl | rfl : i = 3 ∨ i = 4 ∨ i = 5 ∨ i = 6 := by omega
      · rw [hd]; rfl
      · rw [he]; rfl
      · rw [hf]; rfl
      · rw [hg']; rfl
    · rw [List.getElem?_eq_none (by omega), List.getElem?_eq_none (by simp; omega)]
theorem laidOut' : laidOutB Try.prog = true := by kernel_rfl
theorem own' : ownKnob Try.prog.godebug = none := by kernel_rfl
end Go.Proofs.Ytbffhblebigcfaa.Sk
