/- From a row's readings to the walks' words: a history. -/
import Derived.Test.YtbffhblebigcfaaCPrGRow
namespace Go.Proofs.Ytbffhblebigcfaa.Sk
open Go.RowKit Go.Deep Go.WideShapes Go.ChangeShapes Go.Proofs.YtbffhblebigcfaaW.PrintWords Go.Proofs.YtbffhblebigcfaaW.PrintLast Go.Proofs.YtbffhblebigcfaaW.PrintMore
set_option linter.unusedVariables false
set_option linter.unusedSimpArgs false
set_option maxRecDepth 100000 in
theorem hist_of {w : World} {H : Type} {enc : TypeId × Value → H} {spare : Nat → Bool} {held : Bool} {n : Nat} {cs : List Value} {x : DataW H × List MemPlace} (hx : DataW.trod enc Try.prog w 0 spare held n 39 cs = some x) :
  ∃ (A : Option Addr) (c : Nat) (l : List S27) (B : Option Addr) (e : Nat) (g : List S86), cs = [.slice A l.length c, .slice B g.length e] ∧ l.length ≤ c ∧ k27.C w A l.length l ∧ (∀ a ∈ l, ok27 a) ∧ g.length ≤ e ∧ k86.C w B g.length g ∧ ∀ a ∈ g, ok86 a := by
 obtain ⟨xs, m, _, _, hl, hxl, hg⟩ := DataW.trod_struct Try.underlying39 hx
 have hl2 : cs.length = 2 := hl.trans (by kernel_rfl)
 have hx2 : xs.length = 2 := hxl
 have k0 := hg 0 _ rfl
 have k1 := hg 1 _ rfl
 have hs : ∀ i, i < 2 → (xs[i]?).isSome = true := fun i hi => by rw [List.getElem?_eq_getElem (by omega)]; rfl
 obtain ⟨y0, hy0⟩ := Option.isSome_iff_exists.mp (hs 0 (by omega))
 obtain ⟨y1, hy1⟩ := Option.isSome_iff_exists.mp (hs 1 (by omega))
 rw [hy0] at k0
 rw [hy1] at k1
 obtain ⟨A, c, l, h0, hc, hC, ok⟩ := Rd.slice (d := k27) Try.underlying36 (by kernel_rfl) (Rd.s27 w) k0
 obtain ⟨B, e, g, h1, he, hE, okg⟩ := Rd.slice (d := k86) Try.underlying37 (by kernel_rfl) (Rd.s86 w) k1
 refine ⟨A, c, l, B, e, g, ?_, hc, hC, ok, he, hE, okg⟩
 obtain ⟨u, v, rfl⟩ := list2 hl2
 have c36 : Try.prog.cellsOf 36 = 1 := by kernel_rfl
 have c37 : Try.prog.cellsOf 37 = 1 := by kernel_rfl
 have e0 : ([u, v].drop 0).take 1 = [Value.slice A l.length c] := (congrArg (fun n => ([u, v].drop 0).take n) c36.symm).trans h0
 have e1 : ([u, v].drop 1).take 1 = [Value.slice B g.length e] := (congrArg (fun n => ([u, v].drop 1).take n) c37.symm).trans h1
 simp only [List.drop_zero, List.take_succ_cons, List.take_zero, List.drop_succ_cons, List.cons.injEq, and_true] at e0 e1
 rw [e0, e1]
end Go.Proofs.Ytbffhblebigcfaa.Sk
