/- How long a row's lists can be. -/
import Derived.SizedLaws
import Derived.Test.YtbffhblebigcfaaCTiGRowH
namespace Go.Proofs.Ytbffhblebigcfaa.Sk
open Go.RowKit Go.Deep Go.WideShapes Go.ChangeShapes Go.Proofs.YtbffhblebigcfaaW.PrintWords Go.Proofs.YtbffhblebigcfaaW.PrintLast Go.Proofs.YtbffhblebigcfaaW.PrintMore
set_option linter.unusedVariables false
set_option linter.unusedSimpArgs false
section
variable {w : World} {H : Type} {enc : TypeId × Value → H} {spare : Nat → Bool} {held : Bool} {n : Nat} {d : DataW H} {ps : List MemPlace}
set_option maxRecDepth 100000 in
theorem slice_weight {t e : TypeId} {A : Option Addr} {m c : Nat} (ht : Try.prog.underlying t = some (.slice e)) (h : DataW.trod enc Try.prog w 0 spare held n t [.slice A m c] = some (d, ps)) : m = 0 ∨ ∃ q ∈ d.weights Try.prog t, m * Try.prog.bytesOf e ≤ q := by
 rcases open_slice ht h with ⟨h0, _⟩ | ⟨a, len, cap, k, f, D, Pl, h0, _, hl, hm, hmm, hx, _⟩
 ·left
  injection h0 with h0 _
  injection h0
 ·right
  injection h0 with h0 _
  injection h0 with _ h2 _
  injection hx with hx _
  subst hx
  subst h2
  have hw : (DataW.slice ((List.range m).map D) ((List.range (k - m)).map fun j => D (m + j))).weights Try.prog t = (((List.range m).map D).length + ((List.range (k - m)).map fun j => D (m + j)).length) * Try.prog.bytesOf e :: (DataW.weightsAll Try.prog e ((List.range m).map D) ++ DataW.weightsAll Try.prog e ((List.range (k - m)).map fun j => D (m + j))) := by
   simp only [DataW.weights, ht]
  refine ⟨(((List.range m).map D).length + ((List.range (k - m)).map fun j => D (m + j)).length) * Try.prog.bytesOf e, ?_, ?_⟩
  ·rw [hw]; exact List.mem_cons_self
  ·rw [List.length_map, List.length_range]
   exact Nat.mul_le_mul_right _ (Nat.le_add_right _ _)
set_option maxRecDepth 100000 in
theorem hist_sized {ts : List TypeId} {ds : List (DataW H)} {j : Nat} (hsz : (DataW.weightsEach Try.prog ts ds).all (· ≤ reachBytes) = true) (ht : ts[j]? = some 39) (hd : ds[j]? = some d) {A B : Option Addr} {m c k e : Nat}
  (hx : DataW.trod enc Try.prog w 0 spare held n 39 [.slice A m c, .slice B k e] = some (d, ps)) : m * 16 ≤ 140737488351232 ∧ k * 32 ≤ 140737488351232 := by
 have each := fun q hq => List.all_eq_true.1 hsz q (DataW.weights_mem_each ht hd q hq)
 obtain ⟨xs, f, _, hxx, hl, hxl, hg⟩ := DataW.trod_struct Try.underlying39 hx
 have hx2 : xs.length = 2 := hxl
 have k0 := hg 0 _ rfl
 have k1 := hg 1 _ rfl
 obtain ⟨⟨u0, p0⟩, ⟨u1, p1⟩, rfl⟩ := list2 hx2
 injection hxx with hxx _
 subst hxx
 have c36 : Try.prog.cellsOf 36 = 1 := by kernel_rfl
 have c37 : Try.prog.cellsOf 37 = 1 := by kernel_rfl
 have e0 : DataW.trod enc Try.prog w 0 spare held f 36 [.slice A m c] = some (u0, p0) := (congrArg (fun n => DataW.trod enc Try.prog w 0 spare held f 36 (([.slice A m c, .slice B k e] : List Value).take n)) c36.symm).trans k0
 have e1 : DataW.trod enc Try.prog w 0 spare held f 37 [.slice B k e] = some (u1, p1) := (congrArg (fun n => DataW.trod enc Try.prog w 0 spare held f 37 (([.slice B k e] : List Value).take n)) c37.symm).trans k1
 have hw : (DataW.agg [u0, u1]).weights Try.prog 39 = u0.weights Try.prog 36 ++ (u1.weights Try.prog 37 ++ []) := by
  simp only [DataW.weights, Try.underlying39]
  simp [DataW.weightsEach]
 have b27 : Try.prog.bytesOf 27 = 16 := by kernel_rfl
 have b86 : Try.prog.bytesOf 86 = 32 := by kernel_rfl
 constructor
 ·rcases slice_weight Try.underlying36 e0 with h0 | ⟨q, hq, hle⟩
  ·subst h0; omega
  ·have := of_decide_eq_true (each q (by
    show q ∈ (DataW.agg [u0, u1]).weights Try.prog 39
    rw [hw]; exact List.mem_append.mpr (.inl hq)))
   rw [b27] at hle
   have e : reachBytes = 140737488351232 := rfl
   omega
 ·rcases slice_weight Try.underlying37 e1 with h0 | ⟨q, hq, hle⟩
  ·subst h0; omega
  ·have := of_decide_eq_true (each q (by
    show q ∈ (DataW.agg [u0, u1]).weights Try.prog 39
    rw [hw]; exact List.mem_append.mpr (.inr (List.mem_append.mpr (.inl hq)))))
   rw [b86] at hle
   have e : reachBytes = 140737488351232 := rfl
   omega
end
end Go.Proofs.Ytbffhblebigcfaa.Sk
