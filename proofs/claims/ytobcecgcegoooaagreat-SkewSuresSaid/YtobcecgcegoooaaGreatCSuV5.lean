/- The walk of skew.Wait: the reading until which a clock waits. -/
import Derived.Shelf.Sort.Plain
import Derived.Shelf.Slices.In.SortNone
import Derived.Shelf.Spec.SlicesInsert
import Derived.Shelf.Spec.SlicesInsertGrow
import Derived.Test.YtobcecgcegoooaaGreatProg
import Derived.Lib.SlKeysI
import Derived.BigQuiet
import Derived.Deep.QuietTactic
import Derived.Deep.RegionHeld3
import Derived.Outline
import Derived.Test.YtobcecgcegoooaaGreatCSuV4
import Derived.Test.YtobcecgcegoooaaGreatCSuS1
import Derived.Test.YtobcecgcegoooaaGreatCSuS2
import Derived.Test.YtobcecgcegoooaaGreatCSuV1
import Derived.Test.YtobcecgcegoooaaGreatCSuV0
import Derived.Test.YtobcecgcegoooaaGreatCSuS0
namespace Go.Proofs.YtobcecgcegoooaaGreat.Sk
open Go.RowKit Go.Proofs.YtobcecgcegoooaaGreatW.PrintWords Go.Proofs.YtobcecgcegoooaaGreatW.PrintLast Go.Proofs.YtobcecgcegoooaaGreatW.PrintMore
set_option linter.unusedVariables false
set_option linter.unusedSimpArgs false
theorem ev_SureOf {evs : List S65} {gaps : List S82} (h : HistIs evs gaps) (x y : Int) (x0 : 0 ≤ x) (x1 : x < evs.length) (y0 : 0 ≤ y) (y1 : y < evs.length) : Ev (fun k => rf_SureOf.f k evs gaps x y) (sureB evs gaps x y) := by
 have hn := h.n; have hw := h.w; unfold sureB
 by_cases c : x = y
 ·rw [if_pos c]; exact Ev.congr (f := fun _ => some false) (fun k => if_pos c) (Ev.now _)
 ·rw [if_neg c]; refine Ev.congr (f := fun k => (rf_Solve.f k evs (gaps ++ [⟨y, x, 0, 2000000⟩])).bind fun bt185 => some (!bt185.2)) (fun k => ?_) ?_
  ·unfold rf_SureOf.f; rw [if_neg c, more_eq gaps y x (by omega), Option.bind_some]
  ·exact Ev.bind (f := fun _ bt185 => some (!bt185.2)) (ev_Solve evs _ (by omega) (by rw [List.length_append]; simp; omega) (gap_more h x y x0 x1 y0 y1 c) h.big) (Ev.now _)
theorem ev_Sure (evs : List S65) (gaps : List S82) (x y : Int) : Ev (fun k => rf_Sure.f k evs gaps x y) (sureQ evs gaps x y) := by
 have no : Ev (fun k => rf_Sure.j0 k x y true evs gaps) ((false, 2) : Bool × Int) := Ev.step (f := fun _ => some (false, 2)) (fun k => by simp [rf_Sure.j0]) (Ev.now _); refine Ev.bind (ev_Hist evs gaps) ?_; unfold sureQ
 by_cases c : histB evs gaps = true
 ·have h := (histIs evs gaps).mp c; refine Ev.congr (fun k => if_pos c) ?_
  by_cases a : x < 0
  ·rw [if_neg (fun q => by omega)]; exact Ev.congr (fun k => if_pos a) no
  ·refine Ev.congr (fun k => if_neg a) ?_
   by_cases b : x ≥ (evs.length : Int)
   ·rw [if_neg (fun q => by omega)]; exact Ev.congr (fun k => if_pos b) no
   ·refine Ev.congr (fun k => if_neg b) ?_
    by_cases d : y < 0
    ·rw [if_neg (fun q => by omega)]; exact Ev.congr (fun k => if_pos d) no
    ·refine Ev.congr (fun k => if_neg d) ?_
     by_cases e : y ≥ (evs.length : Int)
     ·rw [if_neg (fun q => by omega)]; have e' : decide (y ≥ (evs.length : Int)) = true := decide_eq_true e; rw [e']; exact no
     ·have e' : decide (y ≥ (evs.length : Int)) = false := decide_eq_false e; rw [e', if_pos ⟨c, ⟨by omega, by omega⟩, by omega, by omega⟩]; refine Ev.step (f := fun k => (rf_some.f k evs gaps).bind fun t191 => if t191 = 0 then (rf_SureOf.f k evs gaps x y).bind fun t192 => some (t192, 0) else some (false, t191)) (fun k => by simp [rf_Sure.j0]) ?_; refine Ev.bind (f := fun k (t191 : Int) => if t191 = 0 then (rf_SureOf.f k evs gaps x y).bind fun t192 => some (t192, (0 : Int)) else some (false, t191)) (ev_Some h) ?_
      by_cases s : (solveR evs gaps).2 = true
      ·simp only [if_pos s]; refine Ev.congr (fun k => if_pos trivial) ?_; exact Ev.bind (f := fun _ t192 => some (t192, (0 : Int))) (ev_SureOf h x y (by omega) (by omega) (by omega) (by omega)) (Ev.now _)
      ·simp only [if_neg s]; exact Ev.congr (f := fun _ => some (false, (5 : Int))) (fun k => if_neg (by omega)) (Ev.now _)
 ·rw [if_neg (fun q => c q.1)]; exact Ev.congr (fun k => if_neg c) no
theorem ev_Can (evs : List S65) (gaps : List S82) (l : List Int) : Ev (fun k => rf_Can.f k evs gaps l) (canQ evs gaps l) := by
 have no : Ev (fun k => rf_Can.j0 k l true evs gaps) ((false, 2) : Bool × Int) := Ev.step (f := fun _ => some (false, 2)) (fun k => by simp [rf_Can.j0]) (Ev.now _); refine Ev.bind (ev_Hist evs gaps) ?_; unfold canQ
 by_cases c : histB evs gaps = true
 ·have h := (histIs evs gaps).mp c; have hn := h.n; refine Ev.congr (fun k => if_pos c) ?_; refine Ev.bind (f := fun k t347 => rf_Can.j0 k l (!t347) evs gaps) (ev_IsOrder evs.length l (by omega)) ?_
  cases ho : isOrdB evs.length l with
  | false =>
   rw [if_neg (fun q => by cases q.2)]
   exact no
  | true =>
   rw [if_pos ⟨c, rfl⟩]; have hlen : l.length = evs.length := ((isOrdB_iff _ _).mp ho).length_eq.trans (nums_len _); refine Ev.step (f := fun k => (rf_some.f k evs gaps).bind fun t348 => if t348 = 0 then (rf_CanOf.f evs gaps l).bind fun t349 => some (t349, 0) else some (false, t348)) (fun k => by simp [rf_Can.j0]) ?_; refine Ev.bind (f := fun k (t348 : Int) => if t348 = 0 then (rf_CanOf.f evs gaps l).bind fun t349 => some (t349, (0 : Int)) else some (false, t348)) (ev_Some h) ?_
   by_cases s : (solveR evs gaps).2 = true
   ·simp only [if_pos s]; refine Ev.congr (fun k => if_pos trivial) ?_; have hc : rf_CanOf.f evs gaps l = some (canB evs gaps l) := if_pos ⟨c, ho⟩; exact Ev.congr (f := fun _ => some (canB evs gaps l, (0 : Int))) (fun k => by rw [hc]; rfl) (Ev.now _)
   ·simp only [if_neg s]; exact Ev.congr (f := fun _ => some (false, (5 : Int))) (fun k => if_neg (by omega)) (Ev.now _)
 ·rw [if_neg (fun q => c q.1)]; exact Ev.congr (fun k => if_neg c) no
def leftOf (n : Nat) (p : List Bool) : List Int := (nums n).filter fun v => !(rdOf false p v)
def okF (S : Int → Int → Bool) (p : List Bool) (i : Int) : Nat → Nat → Bool
 | _, 0 => true
 | j, d + 1 => (rdOf false p (j : Int) || !(S (j : Int) i)) && okF S p i (j + 1) d
theorem okF_iff (S : Int → Int → Bool) (p : List Bool) (i : Int) : ∀ (d j : Nat), okF S p i j d = true ↔ ∀ m : Nat, j ≤ m → m < j + d → rdOf false p (m : Int) = true ∨ S (m : Int) i = false
 | 0, j => ⟨fun _ m h1 h2 => by omega, fun _ => rfl⟩
 | d + 1, j => by
  show ((rdOf false p (j : Int) || !(S (j : Int) i)) && okF S p i (j + 1) d) = true ↔ _; rw [Bool.and_eq_true, Bool.or_eq_true, Bool.not_eq_true', okF_iff S p i d (j + 1)]; constructor
  ·rintro ⟨a, b⟩ m h1 h2
   by_cases e : m = j
   ·subst e; exact a
   ·exact b m (by omega) (by omega)
  ·intro h; exact ⟨h j (by omega) (by omega), fun m h1 h2 => h m (by omega) (by omega)⟩
theorem left_mem {n : Nat} {p : List Bool} {v : Int} : v ∈ leftOf n p ↔ (0 ≤ v ∧ v < n) ∧ rdOf false p v = false := by
 unfold leftOf; rw [List.mem_filter, numsI_mem, Bool.not_eq_true']
theorem find_first {q : Int → Bool} {y : Int} : ∀ l : List Int, l.Pairwise (· < ·) → l.find? q = some y → ∀ v ∈ l, v < y → q v = false
 | [], _, h, v, hv, _ => by cases hv
 | x :: l, hp, h, v, hv, hlt => by
  obtain ⟨h1, h2⟩ := List.pairwise_cons.mp hp; rw [List.find?_cons] at h
  cases hx : q x with
  | true =>
   rw [hx] at h
   injection h with h
   subst h
   rcases List.mem_cons.mp hv with rfl | hv
   ·omega
   ·have := h1 v hv; omega
  | false =>
   rw [hx] at h
   rcases List.mem_cons.mp hv with rfl | hv
   ·exact hx
   ·exact find_first l h2 h v hv hlt
theorem left_sorted (n : Nat) (p : List Bool) : (leftOf n p).Pairwise (· < ·) := by
 unfold leftOf nums; refine List.Pairwise.filter _ (List.pairwise_map.mpr ((List.pairwise_lt_range (n := n)).imp fun h => ?_)); omega
theorem left_erase {n : Nat} {p : List Bool} (hp : p.length = n) {y : Int} (hy : y ∈ leftOf n p) : leftOf n (p.set y.toNat true) = (leftOf n p).erase y := by
 obtain ⟨⟨y0, y1⟩, _⟩ := left_mem.mp hy; have hnd : (leftOf n p).Nodup := (nums_nodup n).filter _; rw [hnd.erase_eq_filter]; unfold leftOf; rw [List.filter_filter]
 refine List.filter_congr fun v hv => ?_
 have hv := numsI_mem.mp hv; rw [rdB_set p y v y0 (by omega) hv.1]
 by_cases c : v = y
 ·rw [if_pos c, c]; simp
 ·rw [if_neg c]; simp [c]
section
variable {evs : List S65} {gaps : List S82} (h : HistIs evs gaps)
include h
theorem ev_ord2 (out : List Int) (p : List Bool) (hp : p.length = evs.length) (nx : Int) (i : Nat) (hi : i < evs.length) (R : List Int × Int) : ∀ (d j : Nat) (fl : Bool), j + d = evs.length →
  ((fl && okF (sureB evs gaps) p i j d) = true → Ev (fun k => rf_Order.l1 k out p (i : Int) ((i + 1 : Nat) : Int) evs gaps) R) →
  ((fl && okF (sureB evs gaps) p i j d) = false → Ev (fun k => rf_Order.l1 k out p nx ((i + 1 : Nat) : Int) evs gaps) R) →
  Ev (fun k => rf_Order.l2 k out p nx (i : Int) fl (j : Int) evs gaps) R
 | 0, j, fl, hj, hT, hF => by
  have hn := h.n
  cases fl with
  | true =>
   refine Ev.step (fun k => ?_) (hT rfl); simp only [rf_Order.l2]
   rw [if_neg (by omega), if_pos trivial, wrapS (by omega)]
  | false =>
   refine Ev.step (fun k => ?_) (hF rfl); simp only [rf_Order.l2]
   rw [if_neg (by omega), if_neg (by simp), wrapS (by omega)]
 | d + 1, j, fl, hj, hT, hF => by
  have hn := h.n
  cases fl with
  | false =>
   refine Ev.step (fun k => ?_) (hF rfl); simp only [rf_Order.l2]
   rw [if_pos (by omega), if_neg (by simp), wrapS (by omega)]
  | true =>
   cases hpl : rdOf false p (j : Int) with
   | true =>
    have e : okF (sureB evs gaps) p i j (d + 1) = okF (sureB evs gaps) p i (j + 1) d := by
     show ((rdOf false p (j : Int) || _) && _) = _; rw [hpl]; simp
    rw [e] at hT hF; refine Ev.step (fun k => ?_) (ev_ord2 out p hp nx i hi R d (j + 1) true (by omega) hT hF); simp only [rf_Order.l2]
    rw [if_pos (by omega), if_pos trivial, if_pos (by omega), if_pos hpl, wrapS (by omega)]
   | false =>
    have e : okF (sureB evs gaps) p i j (d + 1) = ((!(sureB evs gaps (j : Int) i)) && okF (sureB evs gaps) p i (j + 1) d) := by
     show ((rdOf false p (j : Int) || _) && _) = _; rw [hpl]; simp
    rw [Bool.true_and, e] at hT hF; refine Ev.step (f := fun k => (rf_SureOf.f k evs gaps (j : Int) (i : Int)).bind fun t205 => rf_Order.l2 k out p nx (i : Int) (!t205) ((j + 1 : Nat) : Int) evs gaps) (fun k => ?_) ?_
    ·simp only [rf_Order.l2]; rw [if_pos (by omega), if_pos trivial, if_pos (by omega), if_neg (by rw [hpl]; simp), wrapS (by omega)]
    ·exact Ev.bind (f := fun k t205 => rf_Order.l2 k out p nx (i : Int) (!t205) ((j + 1 : Nat) : Int) evs gaps) (ev_SureOf h j i (by omega) (by omega) (by omega) (by omega)) (ev_ord2 out p hp nx i hi R d (j + 1) _ (by omega) hT hF)
theorem ev_ord1 (out : List Int) (hout : out.length ≤ 10) (p : List Bool) (hp : p.length = evs.length) (y : Nat) (hy : y < evs.length) (R : List Int × Int) (hno : ∀ i : Nat, i < y → rdOf false p (i : Int) = true ∨ okF (sureB evs gaps) p i 0 evs.length = false) (hye : rdOf false p (y : Int) = false) (hyo : okF (sureB evs gaps) p y 0 evs.length = true)
  (hR : Ev (fun k => rf_Order.l0 k (out ++ [(y : Int)]) (p.set y true) evs gaps) R) : ∀ (d i : Nat), i + d = y → Ev (fun k => rf_Order.l1 k out p (-1) (i : Int) evs gaps) R
 | 0, i, hi => by
  obtain rfl : i = y := by omega
  have hn := h.n; refine Ev.step (fun k => ?_) (Ev.step (g := fun k => rf_Order.j2 k out p (-1) (i : Int) true evs gaps) (fun k => ?_) (ev_ord2 h out p hp (-1) i hy R evs.length 0 true (by omega) (fun _ => ?_) (fun q => ?_)))
  ·simp only [rf_Order.l1]; rw [if_pos (by omega)]; rfl
  ·simp only [rf_Order.j2]; rw [if_pos trivial, if_pos (by omega), if_pos (by omega), hye]; rfl
  ·have hj : Ev (fun k => rf_Order.j2 k out p (i : Int) ((i + 1 : Nat) : Int) false evs gaps) R := by
    refine Ev.step (fun k => ?_) hR; simp only [rf_Order.j2]; rw [if_neg (by simp), if_pos (by omega), if_pos (by omega), if_pos (by omega), Int.toNat_natCast]
   refine Ev.step (fun k => ?_) hj; simp only [rf_Order.l1]; have e : decide ((i : Int) < 0) = false := decide_eq_false (by omega); rw [e, ite_self]
  ·rw [hyo] at q; cases q
 | d + 1, i, hi => by
  have hn := h.n; refine Ev.step (fun k => ?_) (Ev.step (g := fun k => rf_Order.j2 k out p (-1) (i : Int) true evs gaps) (fun k => ?_) (ev_ord2 h out p hp (-1) i (by omega) R evs.length 0 (!(rdOf false p (i : Int))) (by omega) (fun q => ?_) (fun _ => ev_ord1 out hout p hp y hy R hno hye hyo hR d (i + 1) (by omega))))
  ·simp only [rf_Order.l1]; rw [if_pos (by omega)]; rfl
  ·simp only [rf_Order.j2]; rw [if_pos trivial, if_pos (by omega), if_pos (by omega)]; rfl
  ·exfalso
   rcases hno i (by omega) with a | a
   ·rw [a] at q; cases q
   ·rw [a, Bool.and_false] at q; cases q
theorem ev_ord0 {t : Int → Int} (ht : Fit evs gaps t) : ∀ (m : Nat) (out : List Int) (p : List Bool), (leftOf evs.length p).length = m → p.length = evs.length → out.length + m = evs.length → Ev (fun k => rf_Order.l0 k out p evs gaps) (out ++ orderL (sureB evs gaps) m (leftOf evs.length p), 0)
 | 0, out, p, hm, hp, ho => by
  have e : orderL (sureB evs gaps) 0 (leftOf evs.length p) = [] := rfl; rw [e, List.append_nil]
  exact Ev.step (f := fun _ => some (out, 0)) (fun k => by simp only [rf_Order.l0]; rw [if_neg (by omega)]) (Ev.now _)
 | m + 1, out, p, hm, hp, ho => by
  have hn := h.n
  have hS : ∀ x ∈ leftOf evs.length p, ∀ y ∈ leftOf evs.length p, sureB evs gaps x y = true → t x < t y := fun x hx y hy hs => sureB_lt h ht x y (left_mem.mp hx).1.1 (left_mem.mp hx).1.2 (left_mem.mp hy).1.1 (left_mem.mp hy).1.2 hs
  obtain ⟨y, hy⟩ := free_some t hS (fun e => by rw [e] at hm; cases hm); obtain ⟨hym, hyn⟩ := free_mem hy; obtain ⟨⟨y0, y1⟩, hyp⟩ := left_mem.mp hym; have hfirst := find_first _ (left_sorted evs.length p) hy
  obtain ⟨n, rfl⟩ : ∃ n : Nat, y = n := ⟨y.toNat, by omega⟩
  have e : orderL (sureB evs gaps) (m + 1) (leftOf evs.length p) = (n : Int) :: orderL (sureB evs gaps) m ((leftOf evs.length p).erase (n : Int)) := by
   show (match freeOf (sureB evs gaps) (leftOf evs.length p) with | none => [] | some y => y :: orderL (sureB evs gaps) m ((leftOf evs.length p).erase y)) = _; rw [hy]
  have el := left_erase hp hym; rw [Int.toNat_natCast] at el; rw [e, ← el]; have ih := ev_ord0 ht m (out ++ [(n : Int)]) (p.set n true) (by rw [el, List.length_erase_of_mem hym, hm]; rfl) (by rw [List.length_set]; exact hp) (by rw [List.length_append]; simp; omega); rw [List.append_assoc] at ih; refine Ev.step (fun k => ?_) (ev_ord1 h out (by omega) p hp n (by omega) _ (fun i hi => ?_) hyp ?_ ih n 0 (by omega))
  ·simp only [rf_Order.l0]; rw [if_pos (by omega)]; rfl
  ·cases hpi : rdOf false p (i : Int) with
   | true => exact .inl rfl
   | false =>
    right; have hm1 : (i : Int) ∈ leftOf evs.length p := left_mem.mpr ⟨⟨by omega, by omega⟩, hpi⟩; have hq := hfirst i hm1 (by omega); rw [Bool.not_eq_false'] at hq; obtain ⟨x, hx, hs⟩ := List.any_eq_true.mp hq; obtain ⟨⟨x0, x1⟩, hxp⟩ := left_mem.mp hx; rw [Bool.eq_false_iff]; intro ho
    rcases (okF_iff _ p i evs.length 0).mp ho x.toNat (by omega) (by omega) with a | a
    ·rw [show ((x.toNat : Nat) : Int) = x by omega, hxp] at a; cases a
    ·rw [show ((x.toNat : Nat) : Int) = x by omega, hs] at a; cases a
  ·refine (okF_iff _ p n evs.length 0).mpr fun j _ hj => ?_
   cases hpj : rdOf false p (j : Int) with
   | true => exact .inl rfl
   | false => exact .inr (hyn j (left_mem.mpr ⟨⟨by omega, by omega⟩, hpj⟩))
end
theorem ev_Order (evs : List S65) (gaps : List S82) : Ev (fun k => rf_Order.f k evs gaps) (orderR evs gaps) := by
 refine Ev.bind (ev_Hist evs gaps) ?_; unfold orderR
 by_cases c : histB evs gaps = true
 ·have h := (histIs evs gaps).mp c; have hn := h.n; rw [if_pos c]; refine Ev.congr (fun k => if_pos c) ?_; refine Ev.bind (f := fun k (t195 : Int) => if t195 = 0 then (if 0 ≤ (evs.length : Int) then (if ((evs.length : Int) : Int).toNat ≤ 281474976710656 then rf_Order.l0 k ([] : List Int) (List.replicate ((evs.length : Int) : Int).toNat false) evs gaps else none) else none) else some (([] : List Int), t195)) (ev_Some h) ?_
  by_cases s : (solveR evs gaps).2 = true
  ·simp only [if_pos s]; obtain ⟨t, ht⟩ := (solve_spec evs gaps h.gap).1.mp s
   have e : leftOf evs.length (List.replicate evs.length false) = nums evs.length := by
    unfold leftOf
    refine List.filter_eq_self.mpr fun v hv => ?_
    have hv := numsI_mem.mp hv; show (!((List.replicate evs.length false).getD v.toNat false)) = true; rw [List.getD_eq_getElem?_getD, List.getElem?_replicate, if_pos (by omega)]; rfl
   have h0 := ev_ord0 h ht evs.length [] (List.replicate evs.length false) (by rw [e, nums_len]) (by simp) (by simp); rw [e, List.nil_append] at h0; refine Ev.congr (fun k => ?_) h0; rw [if_pos trivial, if_pos (by omega), if_pos (by omega), Int.toNat_natCast]
  ·simp only [if_neg s]; exact Ev.congr (f := fun _ => some (([] : List Int), (5 : Int))) (fun k => if_neg (by omega)) (Ev.now _)
 ·rw [if_neg c]; exact Ev.congr (f := fun _ => some (([] : List Int), (2 : Int))) (fun k => if_neg c) (Ev.now _)
end Go.Proofs.YtobcecgcegoooaaGreat.Sk
namespace Go.Proofs.YtobcecgcegoooaaGreat.Sk
open Go.RowKit Go.Proofs.YtobcecgcegoooaaGreatW.PrintWords Go.Proofs.YtobcecgcegoooaaGreatW.PrintLast Go.Proofs.YtobcecgcegoooaaGreatW.PrintMore
set_option linter.unusedVariables false
set_option linter.unusedSimpArgs false
theorem ev_sameIL0 (x : List Int) (hx : x.length ≤ 9223372036854775807) : ∀ (d i : Nat), i + d = x.length → Ev (fun k => rf_Same.l0 k x x (i : Int)) true
 | 0, i, hd => Ev.step (f := fun _ => some true) (fun k => by simp only [rf_Same.l0]; rw [if_neg (by omega)]) (Ev.now true)
 | d + 1, i, hd => by
  have ih := ev_sameIL0 x hx d (i + 1) (by omega); refine Ev.step (fun k => ?_) ih; simp only [rf_Same.l0]; rw [if_pos (by omega), if_pos (by omega), if_pos (by omega), if_pos trivial, show wrap64 ((i : Int) + 1) = ((i + 1 : Nat) : Int) by unfold wrap64; omega]
theorem ev_SameIL (x : List Int) (hx : x.length ≤ 9223372036854775807) : Ev (fun k => rf_Same.f k x x) true := by
 unfold rf_Same.f; exact Ev.congr (f := fun k => rf_Same.l0 k x x 0) (fun k => by rw [if_pos rfl]) (ev_sameIL0 x hx x.length 0 (by omega))
end Go.Proofs.YtobcecgcegoooaaGreat.Sk
namespace Go.Proofs.YtobcecgcegoooaaGreat.Sk
open Go.RowKit Go.Shelf Go.Proofs.YtobcecgcegoooaaGreatW.PrintWords Go.Proofs.YtobcecgcegoooaaGreatW.PrintLast Go.Proofs.YtobcecgcegoooaaGreatW.PrintMore
attribute [local go_sem] Oper.semAt_some
set_option linter.unusedVariables false
set_option linter.unusedSimpArgs false
theorem values_calls (A : Option Addr) (n c : Nat) (w : World) : Calls Tryz.prog 26 #[.slice A n c] w fun e w' => e = .returned (.func (.func 54) #[] #[.pointer (some ⟨w.heap.size, 0, none⟩)]) ∧ w' = w.alloc (.cells #[.slice A n c] 26) := by
 go_enter Tryz.func26, Tryz.ntmps26
 go_wp2; go_ret; exact ⟨rfl, rfl⟩
set_option maxRecDepth 100000 in
set_option maxHeartbeats 2000000 in
theorem values1_stops (A0 : Option Addr) (c0 : Nat) (zs : List Int) (F : Fence) (n : Nat) (h1 : F.fn 54) (hro : F.round = none) (hn : 1 ≤ n) (Bs n₀ : Nat) (P : Nat → Prop) (w wb : World)
  (hBs : Bs < n₀) (hn₀ : n₀ ≤ w.heap.size) (hk : w.heap[Bs]? = some (.cells #[.slice A0 zs.length c0] 26 (0, 0))) (hwb : Below wb.heap.size wb w) (hwn : wb.heap.size ≤ n₀) (hbB : ∀ k, P k → wb.heap.size ≤ k) (hC0 : Kd.C (Kd.int .i64) wb A0 zs.length zs) (hm0 : zs.length ≤ 1000) :
  SeqStopsK F n Tryz.prog 54 #[.pointer (some ⟨Bs, 0, none⟩)] (fun x : Int => #[.int .i64 x]) (KB n₀ P) (fun ys => ys = zs) (fun pre => True) zs.length w := fun l J Jx W hW hJ hJx hY h0 => by
 refine callsIn_of_wp Tryz.func54 rfl h1 ?_ hro; simp only [Tryz.ntmps54, List.size_toArray, List.length_cons, List.length_nil, Nat.reduceAdd, Nat.reduceSub, Array.replicate_succ, Array.replicate_zero, List.push_toArray, List.append_toArray, List.nil_append, List.cons_append]; have hkW : W.heap[Bs]? = some (.cells #[.slice A0 zs.length c0] 26 (0, 0)) := blk_below hk hW; have x0 := cell_at hkW 0 (.slice A0 zs.length c0) rfl; have HW := Aa hW; have HJ := Aa hJ; have HJx := Aa hJx; have HY := Aa hY; clear hW hJ hJx hY hkW
 gi_wp2
 gi_loopw [7] (fun v7 wr => ∃ i : Nat, i ≤ zs.length ∧ v7 = .int .i64 (i : Int) ∧ Aside0 (J (zs.take i) wr) ∧ Aside0 (KB n₀ P W wr)) (fun v _ => zs.length - (intOf v).toNat)
 case atStart => exact ⟨0, Nat.zero_le _, rfl, ⟨h0⟩, ⟨KB.refl _ _ _⟩⟩
 case round =>
  obtain ⟨i, hi, rfl, HJi, HBi⟩ := hrel
  by_cases hlt : (i : Int) < zs.length
  ·have hBr : KB n₀ P W wr := HBi.out; have hT : Below wb.heap.size wb wr := (hwb.trans (below_weak HW.out hwb.size)).trans (hBr.toBelow hbB hwn); obtain ⟨ad, e1, hy0⟩ := Kd.at_int (Kd.C_below hC0 hT) (i : Int) (by omega) hlt; cases e1; rw [Int.toNat_natCast] at hy0
   have hil : i < zs.length := by omega
   have hst : zs.take (i + 1) = zs.take i ++ [zs[i]] := List.take_succ_eq_append_getElem hil
   have er : rd zs (i : Int) = zs[i] := by simp [rd, List.getD_eq_getElem?_getD, hil]
   rw [er] at hy0
   obtain ⟨s, hs⟩ : ∃ s, zs[i] = s := ⟨_, rfl⟩
   rw [hs] at hy0 hst; have hJa : J (zs.take i) wr := HJi.out; obtain ⟨fn, tmps, assign, body, hy, hR⟩ := HY.out (zs.take i) s _ hJa (by rw [List.length_take]; omega); have HBa := Aa hBr; have HSt := Aa hst; clear hs er hJa hst hT hBr
   gi_wp2
   clear HJi HBi hy0; refine hR.mono ?_; rintro e W3 (⟨rfl, hJ3, hk3⟩ | ⟨rfl, hJx3⟩)
   ·have HJ3 := Aa hJ3; have HB3 := Aa (HBa.out.trans hk3); clear hJ3 hk3
    gi_wp2
    go_roundw
    case rel => exact ⟨i + 1, by omega, by simp, ⟨by rw [HSt.out]; exact HJ3.out⟩, HB3⟩
    case measure => simp [intOf]; omega
   ·gi_wp2
    refine bodyPost_ret (results_none rfl _ _ _) rfl ?_; exact ⟨⟨_, rfl⟩, .inr ⟨_, trivial, hJx3⟩⟩
  ·obtain rfl : i = zs.length := by omega
   have hJr : J (zs.take zs.length) wr := HJi.out; rw [List.take_length] at hJr
   gi_wp2
   go_end0
   first | exact ⟨⟨_, rfl⟩, .inl hJr⟩ | exact ⟨⟨_, rfl⟩, .inl ⟨_, rfl, hJr⟩⟩
structure SI (w W : World) (B : Nat) (vl : Value) (rs : List Int) : Prop where
 k26 : W.heap[B]? = some (.cells #[vl] 26 (0, 0))
 own : Kd.R (Kd.int .i64) 3 W (B + 1) (fun _ => True) vl rs
 bel : Below B w W
 sz : B + 1 ≤ W.heap.size
theorem SI.others {w W W' : World} {B : Nat} {vl : Value} {rs : List Int} (h : SI w W B vl rs) {row : Option Nat} (hg : W.grownBy W' row) (hr : ∀ r, row = some r → B + 1 ≤ r) (hn : vl.ownBlock = none ∨ vl.ownBlock ≠ row) : SI w W' B vl rs :=
 ⟨blk_grown h.k26 hg (fun e => by have := hr _ e.symm; omega), ri_grown h.own hg hn, below_grown h.bel hg (by have := h.sz; omega) (fun r e => by have := hr r e; omega), Nat.le_trans h.sz hg.size⟩
theorem SI.kept40 {w W w1 : World} {B : Nat} {vl : Value} {rs : List Int} (h : SI w W B vl rs) (hg : W.grownBy w1 vl.ownBlock) : w1.heap[B]? = some (.cells #[vl] 26 (0, 0)) :=
 (hg.block B (by have := h.sz; omega) (fun e => by have := (ri_lt h.own _ e.symm).1; omega)).trans h.k26
theorem SI.put {w W w1 : World} {B : Nat} {vl v1 : Value} {rs l1 : List Int} (h : SI w W B vl rs) (hg : W.grownBy w1 vl.ownBlock) (ho : Kd.R (Kd.int .i64) 3 w1 (B + 1) (fun _ => True) v1 l1) : SI w (w1.setCell ⟨B, 0, none⟩ v1) B v1 l1 := by
 have hz := h.sz; have hb : Below B w w1 := below_grown h.bel hg (by omega) (fun r e => by have := (ri_lt h.own r e).1; omega); exact ⟨blk_set1 (h.kept40 hg) _, ri_step ho (fun k hk => Below.heap_setCell _ _ _ _ (by have := (ri_lt ho k hk).1; show k ≠ B; omega)), hb.setCell (show B ≤ B by omega) _, (by rw [World.size_setCell]; exact Nat.le_trans hz hg.size)⟩
set_option maxRecDepth 100000 in
set_option maxHeartbeats 4000000 in
theorem appSeq_calls (A0 : Option Addr) (c0 : Nat) (zs : List Int) (Bs : Nat) (w : World) (hC : Kd.C (Kd.int .i64) w A0 zs.length zs) (hBs : Bs < w.heap.size) (hk : w.heap[Bs]? = some (.cells #[.slice A0 zs.length c0] 26 (0, 0))) (hz : zs.length ≤ 1000) :
  Calls Tryz.prog 82 #[.slice none 0 0, .func (.func 54) #[] #[.pointer (some ⟨Bs, 0, none⟩)]] w fun e w' => ∃ v, e = .returned v ∧ Kd.R (Kd.int .i64) 3 w' (w.heap.size + 1) (fun _ => True) v zs ∧ Below w.heap.size w w' := by
 refine (callsIn_wide (n := 10)).1 ?_; refine callsIn_of_wp_marks Tryz.func82 rfl trivial ?_ rfl; simp only [Tryz.ntmps82, List.size_toArray, List.length_cons, List.length_nil, Nat.reduceAdd, Nat.reduceSub, Array.replicate_succ, Array.replicate_zero, List.push_toArray, List.append_toArray, List.nil_append, List.cons_append]; have HZ := Aa hz
 have hI0 : SI w (w.alloc (.cells #[.slice none 0 0] 26)) w.heap.size (.slice none 0 0) [] := ⟨blk_new w _, Kd.R_nil _ _ _ _ _, Ba (Below.refl _ _) _, by rw [World.size_alloc]; omega⟩
 have hstops := values1_stops A0 c0 zs Fence.wide 9 trivial rfl (by omega) Bs (w.heap.size + 1) (fun k => k = w.heap.size) (w.alloc (.cells #[.slice none 0 0] 26)) w (by omega) (by rw [World.size_alloc]; omega) (Ka hk _) (Ba (Below.refl _ _) _) (by omega) (fun k hk => by omega) hC hz; have hs1 : (w.alloc (.cells #[.slice none 0 0] 26)).heap.size = w.heap.size + 1 := World.size_alloc _ _; have HS1 := Aa hs1
 gi_wp2
 refine wpIn_rangeFunc_ownH rfl (by omega) (gf := 54) (lb := #[.pointer (some ⟨Bs, 0, none⟩)]) rfl trivial (enters_of Tryz.func54 (by kernel_rfl) rfl) hstops (fun h k => KB.trans h k)
  (fun W l o o' hl ho _ _ => by have hgp := grownBy_putObj' W l o'; exact ⟨hgp.os, hgp.tape, hgp.output, hgp.size, fun k hk _ => hgp.block k (by have := blk_lt ho; omega) (fun e => by injection e with e; omega)⟩) (Below.refl _ _) (fun _ => rfl)
  (fun pre W => (∃ vl, SI w W w.heap.size vl pre) ∧ w.heap.size + 1 ≤ W.heap.size) (fun _ _ _ => False)
  (fun pre X Y row hs hg hr => ?own) (fun _ _ _ _ _ hs _ _ => hs) ⟨⟨_, hI0⟩, by omega⟩
  (fun x a' W => a' = { tmps := #[.slice none 0 0, .func (.func 54) #[] #[.pointer (some ⟨Bs, 0, none⟩)], .pointer (some ⟨w.heap.size, 0, none⟩), undef, .slice none 0 0, .int .i64 x, .func (.func 54) #[] #[.pointer (some ⟨Bs, 0, none⟩)], .int .i64 x, undef, undef, undef, undef, undef], defers := [] })
  (fun x a' _ X Y row hs hg hr => hs) ?assign ?body ?done ?stop
 case own =>
  obtain ⟨⟨vl, hi⟩, hsz⟩ := hs; refine ⟨⟨vl, hi.others hg (fun r e => by have := (hr r e).1; omega) ?_⟩, Nat.le_trans hsz hg.size⟩
  by_cases hn : vl.ownBlock = none
  ·exact .inl hn
  ·refine .inr (fun e => ?_); obtain ⟨k, hk⟩ : ∃ k, vl.ownBlock = some k := Option.ne_none_iff_exists'.mp hn; obtain ⟨_, o, ho, hc⟩ := hr k (e.symm.trans hk); obtain ⟨_, _, _, q, hq, cells, hcell⟩ := (Kd.R_bound hi.own).1 k hk; rw [hcell] at ho; cases ho; cases hc
 case assign =>
  rintro l pre x W K ⟨hi, hsz⟩ hK; clear hs1
  gi_wp2
  exact hK _ _ (KeepsFrom.refl _ _) (KB.refl _ _ W) ⟨hi, hsz⟩ rfl
 case body =>
  rintro l pre x a' W hl hr ⟨⟨vl, hi⟩, hsz⟩ rfl hlt; have HSz := Aa hsz; have HLt := Aa hlt; have HI := Aa hi; have y2 := cell_at hi.k26 0 vl rfl; clear hs1 hstops hI0 hsz hl hr hlt hi
  gi_wp2_with (gi_at_builtin; go_must (refine R_append_in (Kd.int .i64) (w0 := W) (W := W) (w.heap.size + 1) rfl (.tmp 8) (.tmp 10) 26 3 (.int .i64 0) 8 rfl Tryz.underlying26 info3 rfl (by decide) (by decide) vl pre x [.int .i64 x] (fun _ => True) (fun _ => False) rfl rfl rfl (fun _ hk => hk.elim) (fun _ _ => trivial) HI.out.own (Below.refl _ _) HSz.out (by have := HLt.out; have := HZ.out; omega) ?_; intro v1 w9 ho hb hg hat; obtain ⟨A8, c8, hv8⟩ := Kd.R_slice ho; obtain ⟨n8, hn8⟩ : ∃ n8, (pre ++ [x]).length = n8 := ⟨_, rfl⟩; rw [hn8] at hv8; clear hn8; subst hv8; have HI9 := Aa (HI.out.put hg ho); have x49 := cell_at (HI.out.kept40 hg) 0 vl rfl; have z49 := Bf (HI.out.kept40 hg) 0; have HG9 := Aa hg; clear ho hb hat hg))
  have hgo : KeepsOthers W w9 := KeepsOthers.of_grownBy HG9.out (fun j o e ho => by
   obtain ⟨_, _, _, q, hq, cells, hcell⟩ := (Kd.R_bound HI.out.own).1 j e
   rw [hcell] at ho; cases ho; rfl)
  have hkb : KB (w.heap.size + 1) (fun k => k = w.heap.size) W w9 := KB.of HG9.out (fun r e => .inr (by have h1 := (ri_lt HI.out.own r e).1; omega)) HSz.out; have hsz9 : w9.heap.size = (w9.setCell ⟨w.heap.size, 0, none⟩ (.slice A8 n8 c8)).heap.size := (World.size_setCell _ _ _).symm
  have hks : KB (w.heap.size + 1) (fun k => k = w.heap.size) w9 (w9.setCell ⟨w.heap.size, 0, none⟩ (.slice A8 n8 c8)) := ⟨rfl, rfl, rfl, Nat.le_of_eq hsz9, fun k _ hk => Below.heap_setCell _ _ _ _ (fun e => hk e)⟩
  exact ⟨(hgo.from _).trans ((KeepsOthers.setCell w9 ⟨w.heap.size, 0, none⟩ (.slice A8 n8 c8)).from _), hkb.trans hks, ⟨_, HI9.out⟩, HI9.out.sz⟩
 case done =>
  rintro D xs W hD rfl ⟨⟨vl, hi⟩, hsz⟩ hK; have x40 := cell_at hi.k26 0 vl rfl; have HI := Aa hi; clear hi
  gi_wp2
  have hgp := grownBy_putObj' W D (.deferred none)
  have hD' : some D ≠ vl.ownBlock := fun e => by
   obtain ⟨_, _, _, q, hq, cells, hcell⟩ := (Kd.R_bound HI.out.own).1 D e.symm; rw [hcell] at hK; cases hK
  have hF := HI.out.others hgp (fun r e => by injection e with e; omega) (.inr (fun e => hD' e.symm)); refine ⟨by simp, .inl ⟨_, _, rfl, run_takeDeferred hK, ?_⟩⟩; exact ⟨_, results_tmp rfl _ _ _, vl, rfl, hF.own, hF.bel⟩
 case stop =>
  rintro D c pre W hD _ hf hK; exact hf.elim
end Go.Proofs.YtobcecgcegoooaaGreat.Sk
namespace Go.Proofs
open Go.Shelf
def Tryz.lays189_ren : Go.Shelf.Ren := ⟨fun | 189 => 53 | 125 => 84 | 257 => 83 | 128 => 98 | 129 => 99 | 294 => 89 | 295 => 90 | 296 => 91 | 297 => 92 | 298 => 93 | 299 => 94 | 216 => 95 | 300 => 96 | 301 => 97 | 328 => 100 | 329 => 101 | 330 => 102 | 331 => 103 | 332 => 104 | 215 => 105 | 343 => 106 | n => n, fun | 28 => 26 | 3 => 3 | 46 => 142 | 0 => 0 | 51 => 154 | 53 => 124 | 4 => 4 | 183 => 148 | 182 => 147 | 131 => 130 | 5 => 5 | 9 => 9 | 218 => 156 | 222 => 160 | 228 => 162 | 229 => 163 | n => n, fun | n => n⟩
theorem Tryz.lays189 : Go.Proofs.Lays.n189 Tryz.prog Tryz.lays189_ren := {
 mixed := by kernel_rfl
 f125 := Tryz.func84.trans (congrArg some (by kernel_rfl))
 f128 := Tryz.func98.trans (congrArg some (by kernel_rfl))
 f129 := Tryz.func99.trans (congrArg some (by kernel_rfl))
 f189 := Tryz.func53.trans (congrArg some (by kernel_rfl))
 f215 := Tryz.func105.trans (congrArg some (by kernel_rfl))
 f216 := Tryz.func95.trans (congrArg some (by kernel_rfl))
 f257 := Tryz.func83.trans (congrArg some (by kernel_rfl))
 f294 := Tryz.func89.trans (congrArg some (by kernel_rfl))
 f295 := Tryz.func90.trans (congrArg some (by kernel_rfl))
 f296 := Tryz.func91.trans (congrArg some (by kernel_rfl))
 f297 := Tryz.func92.trans (congrArg some (by kernel_rfl))
 f298 := Tryz.func93.trans (congrArg some (by kernel_rfl))
 f299 := Tryz.func94.trans (congrArg some (by kernel_rfl))
 f300 := Tryz.func96.trans (congrArg some (by kernel_rfl))
 f301 := Tryz.func97.trans (congrArg some (by kernel_rfl))
 f328 := Tryz.func100.trans (congrArg some (by kernel_rfl))
 f329 := Tryz.func101.trans (congrArg some (by kernel_rfl))
 f330 := Tryz.func102.trans (congrArg some (by kernel_rfl))
 f331 := Tryz.func103.trans (congrArg some (by kernel_rfl))
 f332 := Tryz.func104.trans (congrArg some (by kernel_rfl))
 f343 := Tryz.func106.trans (congrArg some (by kernel_rfl))
 t0 := Tryz.underlying0
 a0 := Tryz.isAgg0
 z0 := Tryz.sizeOf0
 v0 := Tryz.zeroValue0
 t3 := Tryz.underlying3
 a3 := Tryz.isAgg3
 z3 := Tryz.sizeOf3
 v3 := Tryz.zeroValue3
 t4 := Tryz.underlying4
 a4 := Tryz.isAgg4
 z4 := Tryz.sizeOf4
 v4 := Tryz.zeroValue4
 t5 := Tryz.underlying5
 a5 := Tryz.isAgg5
 z5 := Tryz.sizeOf5
 v5 := Tryz.zeroValue5
 t9 := Tryz.underlying9
 a9 := Tryz.isAgg9
 z9 := Tryz.sizeOf9
 v9 := Tryz.zeroValue9
 t28 := Tryz.underlying26
 a28 := Tryz.isAgg26
 z28 := Tryz.sizeOf26
 v28 := Tryz.zeroValue26
 t46 := Tryz.underlying142
 a46 := Tryz.isAgg142
 z46 := Tryz.sizeOf142
 v46 := Tryz.zeroValue142
 t51 := Tryz.underlying154
 a51 := Tryz.isAgg154
 z51 := Tryz.sizeOf154
 v51 := Tryz.zeroValue154
 t53 := Tryz.underlying124
 a53 := Tryz.isAgg124
 z53 := Tryz.sizeOf124
 v53 := Tryz.zeroValue124
 t131 := Tryz.underlying130
 a131 := Tryz.isAgg130
 z131 := Tryz.sizeOf130
 v131 := Tryz.zeroValue130
 t182 := Tryz.underlying147
 a182 := Tryz.isAgg147
 z182 := Tryz.sizeOf147
 v182 := Tryz.zeroValue147
 t183 := Tryz.underlying148
 a183 := Tryz.isAgg148
 z183 := Tryz.sizeOf148
 v183 := Tryz.zeroValue148
 t218 := Tryz.underlying156
 a218 := Tryz.isAgg156
 z218 := Tryz.sizeOf156
 v218 := Tryz.zeroValue156
 t222 := Tryz.underlying160
 a222 := Tryz.isAgg160
 z222 := Tryz.sizeOf160
 v222 := Tryz.zeroValue160
 t228 := Tryz.underlying162
 a228 := Tryz.isAgg162
 z228 := Tryz.sizeOf162
 v228 := Tryz.zeroValue162
 t229 := Tryz.underlying163
 a229 := Tryz.isAgg163
 z229 := Tryz.sizeOf163
 v229 := Tryz.zeroValue163 }
end Go.Proofs
namespace Go.Proofs.YtobcecgcegoooaaGreat.Sk
open Go.RowKit Go.Shelf Go.Sort Go.Maps Go.Proofs.YtobcecgcegoooaaGreatW.PrintWords Go.Proofs.YtobcecgcegoooaaGreatW.PrintLast Go.Proofs.YtobcecgcegoooaaGreatW.PrintMore
set_option linter.unusedVariables false
set_option linter.unusedSimpArgs false
set_option maxHeartbeats 1000000 in
theorem collect_calls (A0 : Option Addr) (c0 : Nat) (zs : List Int) (Bs : Nat) (w : World) (hC : Kd.C (Kd.int .i64) w A0 zs.length zs) (hBs : Bs < w.heap.size) (hk : w.heap[Bs]? = some (.cells #[.slice A0 zs.length c0] 26 (0, 0))) (hz : zs.length ≤ 1000) :
  Calls Tryz.prog 52 #[.func (.func 54) #[] #[.pointer (some ⟨Bs, 0, none⟩)]] w fun e w' => ∃ v, e = .returned v ∧ Kd.R (Kd.int .i64) 3 w' (w.heap.size + 1) (fun _ => True) v zs ∧ Below w.heap.size w w' := by
 have HA := Aa (appSeq_calls A0 c0 zs Bs w hC hBs hk hz); clear hC hk
 go_enter Tryz.func52, Tryz.ntmps52
 go_wp2_with (go_at_call 82; refine HA.out.mono ?_; rintro e w' ⟨v, rfl, hR, hb⟩; have HR := Aa hR; have HB := Aa hb; clear hR hb)
 go_ret; exact ⟨_, rfl, HR.out, HB.out⟩
def srt (l : List Int) : List Int := l.mergeSort fun x y => decide (x ≤ y)
theorem srt_len (l : List Int) : (srt l).length = l.length := List.length_mergeSort l
set_option maxHeartbeats 1000000 in
theorem sorted_calls (A0 : Option Addr) (c0 : Nat) (zs : List Int) (Bs : Nat) (w : World) (hC : Kd.C (Kd.int .i64) w A0 zs.length zs) (hBs : Bs < w.heap.size) (hk : w.heap[Bs]? = some (.cells #[.slice A0 zs.length c0] 26 (0, 0))) (hz : zs.length ≤ 1000) :
  Calls Tryz.prog 25 #[.func (.func 54) #[] #[.pointer (some ⟨Bs, 0, none⟩)]] w fun e w' => ∃ A c, e = .returned (.slice A zs.length c) ∧ Kd.C (Kd.int .i64) w' A zs.length (srt zs) ∧ Below w.heap.size w w' := by
 have HA := Aa (collect_calls A0 c0 zs Bs w hC hBs hk hz); clear hC hk
 go_enter Tryz.func25, Tryz.ntmps25
 go_wp2_with fail
 refine HA.out.mono ?_; rintro e w1 ⟨v, rfl, hR, hb⟩; have HB := Aa hb; have hown := Kd.own_of_R (enc := Value.int .i64) (h1 := fun _ => rfl) hR; obtain ⟨hl, ⟨rfl, hn⟩ | ⟨g, cap, cur, rfl, hbg, hh, hcap, hmax, hsz, htk⟩⟩ := hown
 ·have hzs : zs = [] := List.length_eq_zero_iff.mp hn; subst hzs; clear hb hR
  go_wp2_with (go_at_call 53; refine (Any.slices_Sort_int_none Tryz.lays189 none 0 w1).mono ?_; rintro e w2 ⟨rfl, rfl⟩)
  go_ret; obtain ⟨A, c, hv, hc, hC⟩ := Kd.R_reads (Kd.R_nil (Kd.int .i64) 3 w2 0 (fun _ => True)); have hs : srt [] = [] := List.mergeSort_nil; rw [hs]; exact ⟨A, c, by rw [← hv]; rfl, hC, HB.out⟩
 ·rw [Nat.mul_one] at hsz htk; have hH : Holds (Value.int .i64) w1 g 0 zs.toArray := holds_of_block_i hh htk; have hgl : g < w1.heap.size := blk_lt hh; have HS := Aa (Any.slices_Sort_int Tryz.lays189 g 0 cap zs w1 hH hgl (by omega)); have HBg := Aa hbg; have HH := Aa hh; have HCap := Aa hcap; have HMax := Aa hmax; have HSz := Aa hsz; clear hb hR hH hgl hbg hh hcap hmax hsz htk
  go_wp2_with fail
  refine HS.out.mono ?_; rintro e w2 ⟨rfl, q, os, rfl⟩; clear HS; go_wp2; go_ret; have hown2 := ownsRow_sorted_i (n := q) (os := os) (ts := srt zs) (srt_len zs) HBg.out HH.out HCap.out HMax.out (by have := HSz.out; omega); have hR2 := Kd.R_of_own (enc := Value.int .i64) (h1 := fun _ => rfl) (xs := srt zs) (ok := fun _ => True) (by rw [srt_len]; exact hown2) (fun _ _ => trivial); obtain ⟨A, c, hv, hc, hC⟩ := Kd.R_reads hR2; rw [srt_len] at hv hC; refine ⟨A, c, hv ▸ rfl, hC, HB.out.grown (grownBy_sorted_i _) HB.out.size (fun r e => by cases e; have := HBg.out; omega)⟩
end Go.Proofs.YtobcecgcegoooaaGreat.Sk
namespace Go.Proofs.YtobcecgcegoooaaGreat.Sk
open Go.RowKit Go.Proofs.YtobcecgcegoooaaGreatW.PrintWords Go.Proofs.YtobcecgcegoooaaGreatW.PrintLast Go.Proofs.YtobcecgcegoooaaGreatW.PrintMore
set_option linter.unusedVariables false
set_option linter.unusedSimpArgs false
def skew_Can.f (evs : List S65) (gaps : List S82) (l : List Int) : Option (Bool × Int) := some (canQ evs gaps l)
theorem tightR_yes {evs : List S65} {gaps : List S82} (c : histB evs gaps = true) : (∃ C, tightenF (bindP (fun _ => false) (saidL evs gaps)) = some C ∧ tightR evs gaps = some (some C, 0) ∧ (solveR evs gaps).2 = true) ∨ (tightR evs gaps = some (none, 5) ∧ (solveR evs gaps).2 = false) := by
 have h := (histIs evs gaps).mp c; have ht := tighten_solve h; unfold tightR; rw [isHist_1000, Option.bind_some, if_pos c, if_pos h.ok]
 cases hC : tightenF (bindP (fun _ => false) (saidL evs gaps)) with
 | none => exact .inr ⟨rfl, by rw [← ht, hC]; rfl⟩
 | some C => exact .inl ⟨C, rfl, rfl, by rw [← ht, hC]; rfl⟩
theorem srt_nums {n : Nat} {l : List Int} (hl : l.length = n) (h : ∀ j : Nat, j < n → rd (srt l) (j : Int) = j) : srt l = nums n := by
 apply List.ext_getElem
 ·rw [srt_len, hl, nums_len]
 ·intro i h1 h2
  have hi : i < n := by rw [nums_len] at h2; exact h2
  have e1 : rd (srt l) (i : Int) = (srt l)[i] := by simp [rd, List.getD_eq_getElem?_getD, h1]
  rw [← e1, h i hi]
  simp [nums]
theorem nums_rd {n j : Nat} (h : j < n) : rd (nums n) (j : Int) = j := by simp [rd, nums, List.getD_eq_getElem?_getD, h]
theorem canQ_no1 {evs : List S65} {gaps : List S82} {l : List Int} (h : histB evs gaps = false) : canQ evs gaps l = (false, 2) := if_neg (fun q => by rw [h] at q; exact absurd q.1 (by simp))
theorem canQ_no2 {evs : List S65} {gaps : List S82} {l : List Int} (h : isOrdB evs.length l = false) : canQ evs gaps l = (false, 2) := if_neg (fun q => by rw [h] at q; exact absurd q.2 (by simp))
theorem ordB_len {n : Nat} {l : List Int} (h : l.length ≠ n) : isOrdB n l = false := by unfold isOrdB; rw [decide_eq_false h]; rfl
theorem canQ_none {evs : List S65} {gaps : List S82} {l : List Int} (c : histB evs gaps = true) (h : isOrdB evs.length l = true) (s : (solveR evs gaps).2 = false) : canQ evs gaps l = (false, 5) := by
 unfold canQ; rw [if_pos ⟨c, h⟩, if_neg (by rw [s]; simp)]
theorem canQ_some {evs : List S65} {gaps : List S82} {l : List Int} {C : Int → Int → Int} (c : histB evs gaps = true) (h : isOrdB evs.length l = true) (s : (solveR evs gaps).2 = true) (hC : tightenF (bindP (fun _ => false) (saidL evs gaps)) = some C) : canQ evs gaps l = ((tightenF (sayC C l (l.length - 1))).isSome, 0) := by
 unfold canQ canB; rw [if_pos ⟨c, h⟩, if_pos s, can_skew ((histIs evs gaps).mp c) hC (steps_ok h) (l.length - 1) (by omega)]
set_option maxHeartbeats 4000000 in
set_option maxRecDepth 100000 in
theorem skew_Can.calls (A0 : Option Addr) (c0 : Nat) (evs : List S65) (A1 : Option Addr) (c1 : Nat) (gaps : List S82) (A2 : Option Addr) (c2 : Nat) (l : List Int) (r1 : Bool) (r2 : Int) (w : World) (hC0 : Kd.C k65 w A0 evs.length evs) (hc0 : evs.length ≤ c0) (hC1 : Kd.C k82 w A1 gaps.length gaps) (hc1 : gaps.length ≤ c1) (hC2 : Kd.C (Kd.int .i64) w A2 l.length l) (hc2 : l.length ≤ c2) (h : skew_Can.f evs gaps l = some (r1, r2)) :
  Calls Tryz.prog 8 #[.agg #[.slice A0 evs.length c0, .slice A1 gaps.length c1], .slice A2 l.length c2] w fun e w' => e = .returned (.tuple #[.bool r1, .int .i64 r2]) ∧ Below w.heap.size w w' := by
 have h : canQ evs gaps l = (r1, r2) := Option.some.inj h; have hb0 := Ba (Below.refl w.heap.size w) (.cells #[.slice A0 evs.length c0, .slice A1 gaps.length c1] 25); have hk0 := blk_new w (.cells #[.slice A0 evs.length c0, .slice A1 gaps.length c1] 25); have HIs := Aa (skew_isHist.calls 1000 A0 c0 evs A1 c1 gaps _ _ (Kd.C_below hC0 hb0) hc0 (Kd.C_below hC1 hb0) hc1 (isHist_1000 evs gaps)); have x0 := cell_at hk0 0 (.slice A0 evs.length c0) rfl; have x1 := cell_at hk0 1 (.slice A1 gaps.length c1) rfl; have HB0 := Aa hb0; have HK0 := Aa hk0; have HC0 := Aa hC0; have HC1 := Aa hC1; have HC2 := Aa hC2; have Hc0 := Aa hc0; have Hc1 := Aa hc1; have Hc2 := Aa hc2; have H := Aa h; clear hb0 hk0 hC0 hC1 hC2 hc0 hc1 hc2 h
 cases hh : histB evs gaps with
 | false =>
  have h := H.out; rw [canQ_no1 hh] at h
  injection h with h1 h2
  subst h1; subst h2; have HI2 := Aa HIs.out; rw [hh] at HI2; clear HIs hh H
  go_enter Tryz.func8, Tryz.ntmps8
  go_wp2_with (go_at_call 12; refine HI2.out.mono ?_; rintro e w1 ⟨rfl, hb⟩; have HB1 := Aa (Bp HB0.out hb); clear hb)
  go_ret2
  exact ⟨rfl, HB1.out⟩
 | true =>
  have HH := Aa hh; have HI2 := Aa HIs.out; rw [hh] at HI2; clear HIs hh; have HN10 := Aa ((histIs evs gaps).mp HH.out).n
  by_cases hlen : l.length = evs.length
  ·have hlb : ((l.length : Int) != (evs.length : Int)) = false := by rw [hlen]; simp
   have HL := Aa hlen; clear hlen
   go_enter Tryz.func8, Tryz.ntmps8
   go_wp2_with fail
   refine HI2.out.mono ?_; rintro e w1 ⟨rfl, hb⟩; have HB1 := Aa (Bp HB0.out hb); have hk1 := blk_below HK0.out hb; have HK1 := Aa hk1; have y0 := cell_at hk1 0 (.slice A0 evs.length c0) rfl; clear hb HI2 x0 x1 hk1 HK0
   go_wp2_with fail
   refine (values_calls A2 l.length c2 _).mono ?_; rintro e w2 ⟨rfl, rfl⟩; clear y0 hlb; have HS := Aa (sorted_calls A2 c2 l w1.heap.size (w1.alloc (.cells #[.slice A2 l.length c2] 26)) (Kd.C_alloc (Kd.C_below HC2.out HB1.out) _) (by rw [World.size_alloc]; omega) (blk_new w1 _) (by have := HN10.out; have := HL.out; omega))
   go_wp2_with fail
   refine HS.out.mono ?_; rintro e w3 ⟨A3, c3, rfl, hC3, hb⟩; have HB3 := Aa (Bp HB1.out (Bp (Ba (Below.refl w1.heap.size w1) (.cells #[.slice A2 l.length c2] 26)) hb)); have HK3 := Aa (blk_below (Ka HK1.out (.cells #[.slice A2 l.length c2] 26)) hb); have HC3 := Aa hC3; clear hb HS hC3 HK1 HB1
   go_wp2_with fail
   go_loopw [28] (fun v W => ∃ i : Nat, i ≤ l.length ∧ v = .int .i64 (i : Int) ∧ Aside0 (∀ j : Nat, j < i → rd (srt l) (j : Int) = j) ∧ Aside0 (Below w3.heap.size w3 W)) (fun v _ => l.length - (intOf v).toNat)
   case atStart => exact ⟨0, Nat.zero_le _, rfl, ⟨fun j hj => by omega⟩, ⟨Below.refl _ _⟩⟩
   case round =>
    obtain ⟨i, hi, rfl, HJ, HBi⟩ := hrel
    by_cases hlt : (i : Int) < l.length
    ·obtain ⟨ad, e1, hx0⟩ := Kd.at_int (Kd.C_below HC3.out HBi.out) (i : Int) (by omega) hlt; cases e1; rw [Int.toNat_natCast] at hx0
     obtain ⟨x, hx⟩ : ∃ x, rd (srt l) (i : Int) = x := ⟨_, rfl⟩
     rw [hx] at hx0; have HX := Aa hx; have HBx := Aa (show Below w3.heap.size w3 wr from HBi.out); clear HBi hx
     have hi1000 : (i : Int) < 1000 := by have := HN10.out; have := HL.out; omega
     by_cases hix : (i : Int) = x
     ·have hb1 : ((i : Int) != x) = false := by rw [hix]; simp
      have HJ2 := Aa (show ∀ j : Nat, j < i + 1 → rd (srt l) (j : Int) = j from fun j hj => by
       by_cases e : j = i
       ·subst e; rw [HX.out, hix]
       ·exact HJ.out j (by omega))
      clear hix HJ; go_wp2
      go_roundw
      case rel => exact ⟨i + 1, by omega, by simp, HJ2, HBx⟩
      case measure => simp [intOf]; omega
     ·have hb1 : ((i : Int) != x) = true := by rw [bne_iff_ne]; exact hix
      have hno : isOrdB evs.length l = false := by
       cases ho : isOrdB evs.length l with
       | false => rfl
       | true =>
        exfalso; have e := (sorted_iff evs.length l).mpr ho; have e : srt l = nums evs.length := e; have h2 := HX.out; rw [e, nums_rd (by have := HL.out; omega)] at h2; exact hix h2
      have h := H.out; rw [canQ_no2 hno] at h
      injection h with h1 h2
      subst h1; subst h2; clear hix hno H HJ; go_wp2; go_ret2; exact ⟨rfl, Bp HB3.out HBx.out⟩
    ·obtain rfl : i = l.length := by omega
     have hord : isOrdB evs.length l = true := (sorted_iff evs.length l).mp (srt_nums HL.out (fun j hj => HJ.out j (by have := HL.out; omega))); have HO := Aa hord; have hb4 : Below w.heap.size w wr := Bp HB3.out HBi.out; have HB4 := Aa hb4; have hk4 := blk_below HK3.out HBi.out; have y0 := cell_at hk4 0 (.slice A0 evs.length c0) rfl; have y1 := cell_at hk4 1 (.slice A1 gaps.length c1) rfl; clear hord HJ HBi hb4 hk4 HK3 HB3 HC3
     rcases tightR_yes HH.out with ⟨C, hC, hT, hs⟩ | ⟨hT, hs⟩
     ·have HT := Aa (tight_calls A0 A1 c0 c1 evs gaps (some C) 0 wr (Kd.C_below HC0.out HB4.out) Hc0.out (Kd.C_below HC1.out HB4.out) Hc1.out hT); have HQ := Aa ((canQ_some HH.out HO.out hs hC).symm.trans H.out); have HSt := Aa (steps_ok HO.out); clear hC hT hs H
      go_wp2_with fail
      refine HT.out.mono ?_; rintro e w5 ⟨p, rfl, hs, _, hz, hb⟩; obtain ⟨b, rfl, hbl, hbd⟩ := hs C rfl; have HB5 := Aa (Bp HB4.out hb); have HBd := Aa hbd; have HBl := Aa (show w.heap.size ≤ b by have := HB4.out.size; omega); clear hb hs hz HT hbd hbl y0 y1; have hB1 := HBd.out; clear hB1
      go_wp2_with fail
      go_loopw [11] (fun v W => ∃ k : Nat, 1 ≤ k ∧ (k ≤ l.length ∨ k = 1) ∧ v = .int .i64 (k : Int) ∧ Aside0 (Bd W b (.slice A0 evs.length c0) (.slice A1 gaps.length c1) (sayC C l (k - 1))) ∧ Aside0 (w.heap.size ≤ b) ∧ Aside0 (Below w.heap.size w W)) (fun v _ => l.length - (intOf v).toNat)
      case atStart => exact ⟨1, by omega, .inr rfl, rfl, HBd, HBl, HB5⟩
      case round =>
       clear HBd HB5; obtain ⟨k, hk1, hk2, rfl, HBd, _, HB⟩ := hrel
       by_cases hlt : (k : Int) < l.length
       ·have hB : Below w.heap.size w wr := HB.out; obtain ⟨ad, e1, hx0⟩ := Kd.at_int (Kd.C_below HC2.out hB) ((k : Int) - 1) (by omega) (by omega); obtain ⟨ad', e2, hx1⟩ := Kd.at_int (Kd.C_below HC2.out hB) (k : Int) (by omega) hlt; subst e1
        injection e2 with e2
        subst e2; rw [Int.toNat_natCast] at hx1
        have em : ((k : Int) - 1) = ((k - 1 : Nat) : Int) := by omega
        have hst : sayC C l (k - 1 + 1) = sayF (sayC C l (k - 1)) ⟨rd l ((k - 1 : Nat) : Int), rd l ((k - 1 + 1 : Nat) : Int), 0, FREE⟩ := rfl; rw [show k - 1 + 1 = k by omega, ← em] at hst
        have px : 0 ≤ rd l ((k : Int) - 1) ∧ rd l ((k : Int) - 1) < 11 := by
         rw [em]; have a := HSt.out.at0 (k - 1) (by omega); have b := HSt.out.at1 (k - 1) (by omega); have := HN10.out; omega
        have py : 0 ≤ rd l (k : Int) ∧ rd l (k : Int) < 11 := by
         have a := HSt.out.at0 k (by omega); have b := HSt.out.at1 k (by omega); have := HN10.out; omega
        obtain ⟨x, hx⟩ : ∃ x, rd l ((k : Int) - 1) = x := ⟨_, rfl⟩
        obtain ⟨y, hy⟩ : ∃ y, rd l (k : Int) = y := ⟨_, rfl⟩
        rw [hx] at hx0 px hst; rw [hy] at hx1 py hst; have PX := Aa px; have PY := Aa py; have HSt2 := Aa hst
        have hk1000 : (k : Int) < 1000 := by have := HN10.out; have := HL.out; omega
        have hz : ∃ z : Int, IntKind.i64.wrap ((k : Int) - 1) = z ∧ z = (k : Int) - 1 := ⟨_, i64wrap _, w64_mid (by omega) (by omega)⟩
        obtain ⟨z, hz, hze⟩ := hz
        have hz0 : 0 ≤ z := by omega
        have hz1 : z < l.length := by omega
        rw [← hze] at hx0; have HBr := Aa hB; have HX0 := Aa hx0; have HX1 := Aa hx1; have HBx := Aa (show Bd wr b (.slice A0 evs.length c0) (.slice A1 gaps.length c1) (sayC C l (k - 1)) from HBd.out); obtain ⟨_, e3, hw0⟩ := Kd.at_int HC2.out z hz0 hz1; obtain ⟨_, e4, hw1⟩ := Kd.at_int HC2.out (k : Int) (by omega) hlt; cases e3; cases e4; rw [Int.toNat_natCast] at hw1; rw [hze, hx, ← hze] at hw0; rw [hy] at hw1
        have S0 : ∀ {W : World}, Below w.heap.size w W → Below w.heap.size w W ∧ W.cell? (ad.add z.toNat) = some (.int .i64 x) ∧ W.cell? (ad.add k) = some (.int .i64 y) := fun h => ⟨h, pw_cell_below h hw0, pw_cell_below h hw1⟩
        clear hst px py em hx hy hB hx0 hx1 HB HBd hze hw0 hw1
        go_wp2_with fail
        go_region_held3 (fun W => Below w.heap.size w W ∧ W.cell? (ad.add z.toNat) = some (.int .i64 x) ∧ W.cell? (ad.add k) = some (.int .i64 y))
         (first | exact S0 (Dn HBr.out) | (go_split_ands; first | exact S0 (Dn (by assumption)) | exact S0 (Below.grown (by assumption) hgr (by have := HBr.out.size; simp; omega) (fun r e => by injection e with e; have := HBl.out; omega))) | (trace_state; fail))
         (first | (go_at_call 27; go_split_ands; (with_reducible refine (say_calls b _ _ (sayC C l (k - 1)) ⟨x, y, 0, 1099511627776⟩ _ HBx.out.drew PX.out PY.out).mono ?_); rintro e w' ⟨rfl, hbd, hgr⟩))
        rename_i hS
        have HB2 := Aa (show Below w.heap.size w w' from hS.1); have HBd2 := Aa (show Bd w' b (.slice A0 evs.length c0) (.slice A1 gaps.length c1) (sayC C l (k + 1 - 1)) by rw [show k + 1 - 1 = k from rfl, HSt2.out]; exact hbd); clear hbd hgr hS; go_wp2
        go_roundw
        case rel => exact ⟨k + 1, by omega, .inl (by omega), by simp, HBd2, HBl, HB2⟩
        case measure => simp [intOf]; omega
       ·have e1 : k - 1 = l.length - 1 := by omega
        have HBr := Aa (show Below w.heap.size w wr from HB.out)
        have hbd : Bd wr b (.slice A0 evs.length c0) (.slice A1 gaps.length c1) (sayC C l (l.length - 1)) := by rw [← e1]; exact HBd.out
        have HT := Aa (tighten_calls b w.heap.size _ _ _ _ hbd HBl.out); have h := HQ.out
        injection h with h1 h2
        subst h1; subst h2; have z1 := hbd.c0; clear hbd e1 HB HBd HQ
        go_wp2_with fail
        refine HT.out.mono ?_; rintro e w6 ⟨rfl, _, hb⟩; have HB6 := Aa (HBr.out.trans hb); clear hb HT z1; go_wp2; go_ret2; exact ⟨rfl, HB6.out⟩
     ·have HT := Aa (tight_calls A0 A1 c0 c1 evs gaps none 5 wr (Kd.C_below HC0.out HB4.out) Hc0.out (Kd.C_below HC1.out HB4.out) Hc1.out hT); have h := (canQ_none HH.out HO.out hs).symm.trans H.out
      injection h with h1 h2
      subst h1; subst h2; clear hT hs H
      go_wp2_with (go_at_call 14; refine HT.out.mono ?_; rintro e w5 ⟨p, rfl, _, hn, _, hb⟩; have HB5 := Aa (Bp HB4.out hb); clear hb hn)
      go_ret2; exact ⟨rfl, HB5.out⟩
  ·have hlb : ((l.length : Int) != (evs.length : Int)) = true := by rw [bne_iff_ne]; omega
   have h := H.out; rw [canQ_no2 (ordB_len hlen)] at h
   injection h with h1 h2
   subst h1; subst h2; clear hlen H
   go_enter Tryz.func8, Tryz.ntmps8
   go_wp2_with fail
   refine HI2.out.mono ?_; rintro e w1 ⟨rfl, hb⟩; have HB1 := Aa (Bp HB0.out hb); have y0 := cell_at (blk_below HK0.out hb) 0 (.slice A0 evs.length c0) rfl; clear hb HI2 x0 x1 HK0; go_wp2; go_ret2; exact ⟨rfl, HB1.out⟩
end Go.Proofs.YtobcecgcegoooaaGreat.Sk
namespace Go.Proofs.YtobcecgcegoooaaGreat.Sk
open Go.RowKit Go.Shelf Go.Proofs.YtobcecgcegoooaaGreatW.PrintWords Go.Proofs.YtobcecgcegoooaaGreatW.PrintLast Go.Proofs.YtobcecgcegoooaaGreatW.PrintMore
set_option linter.unusedVariables false
set_option linter.unusedSimpArgs false
def tb (T : List Int) (i j : Int) : Int := T.getD (i.toNat * 11 + j.toNat) 0
def inR (i : Int) : Prop := 0 ≤ i ∧ i < 11
structure Ag (B : Int → Int → Int) (T : List Int) : Prop where
 len : T.length = 121
 eq : ∀ i j, inR i → inR j → B i j = tb T i j
def tset (T : List Int) (i j x : Int) : List Int := T.set (i.toNat * 11 + j.toNat) x
theorem Ag.set {B : Int → Int → Int} {T : List Int} (h : Ag B T) {i j x : Int} (hi : inR i) (hj : inR j) : Ag (set2 B i j x) (tset T i j x) := by
 refine ⟨by unfold tset; rw [List.length_set]; exact h.len, fun a c ha hc => ?_⟩; obtain ⟨h1, h2⟩ := hi; obtain ⟨h3, h4⟩ := hj; obtain ⟨h5, h6⟩ := ha; obtain ⟨h7, h8⟩ := hc; have hlen := h.len; unfold set2 tb tset; rw [List.getD_eq_getElem?_getD, List.getElem?_set]
 by_cases hac : a = i ∧ c = j
 ·obtain ⟨rfl, rfl⟩ := hac; rw [if_pos ⟨rfl, rfl⟩, if_pos rfl, if_pos (by omega)]; rfl
 ·rw [if_neg hac, if_neg (by omega), h.eq a c ⟨h5, h6⟩ ⟨h7, h8⟩]; unfold tb; rw [List.getD_eq_getElem?_getD]
def sayT (T : List Int) (f : S61) : List Int :=
 let T1 := tset T f.f0 f.f1 (mn (tb T f.f0 f.f1) f.f3)
 tset T1 f.f1 f.f0 (mn (tb T1 f.f1 f.f0) (wrap64 (-f.f2)))
theorem Ag.say {B : Int → Int → Int} {T : List Int} (h : Ag B T) {f : S61} (hi : inR f.f0) (hj : inR f.f1) : Ag (sayF B f) (sayT T f) := by
 unfold sayF sayT; simp only; have h1 := h.set (x := mn (B f.f0 f.f1) f.f3) hi hj; rw [h.eq _ _ hi hj] at h1 ⊢; have h2 := h1.set (x := mn (set2 B f.f0 f.f1 (mn (tb T f.f0 f.f1) f.f3) f.f1 f.f0) (wrap64 (-f.f2))) hj hi; rw [h1.eq _ _ hj hi] at h2; rw [h1.eq _ _ hj hi]; exact h2
def stepJT (k i j : Int) (T : List Int) : List Int := if tb T k j = FREE then T else tset T i j (mn (tb T i j) (wrap64 (tb T i k + tb T k j)))
theorem Ag.stepJ {B : Int → Int → Int} {T : List Int} (h : Ag B T) {k i j : Int} (hk : inR k) (hi : inR i) (hj : inR j) : Ag (stepJ k i j B) (stepJT k i j T) := by
 unfold Sk.stepJ stepJT; rw [h.eq k j hk hj, h.eq i j hi hj, h.eq i k hi hk]
 split
 ·exact h
 ·exact h.set hi hj
def jT (k i : Int) (T : List Int) : Nat → List Int
 | 0 => T
 | n + 1 => stepJT k i n (jT k i T n)
theorem Ag.jN {B : Int → Int → Int} {T : List Int} (h : Ag B T) {k i : Int} (hk : inR k) (hi : inR i) : ∀ n, n ≤ 11 → Ag (jN k i B n) (jT k i T n)
 | 0, _ => h
 | n + 1, hn => (Ag.jN h hk hi n (by omega)).stepJ hk hi ⟨by omega, by omega⟩
def stepIT (k i : Int) (T : List Int) : Option (List Int) := if tb T i k = FREE then some T else if tb (jT k i T 11) i i < 0 then none else some (jT k i T 11)
def AgO : Option (Int → Int → Int) → Option (List Int) → Prop
 | some B, some T => Ag B T
 | none, none => True
 | _, _ => False
theorem ite_ago {p q : Prop} [Decidable p] [Decidable q] {B C : Int → Int → Int} {T U : List Int} (h : Ag B T) (h1 : Ag C U) : AgO (if p then some B else if q then none else some C) (if p then some T else if q then none else some U) := by
 by_cases hf : p
 ·rw [if_pos hf, if_pos hf]; exact h
 ·rw [if_neg hf, if_neg hf]
  by_cases hn : q
  ·rw [if_pos hn, if_pos hn]; trivial
  ·rw [if_neg hn, if_neg hn]; exact h1
theorem Ag.stepI {B : Int → Int → Int} {T : List Int} (h : Ag B T) {k i : Int} (hk : inR k) (hi : inR i) : AgO (stepI k i B) (stepIT k i T) := by
 unfold Sk.stepI stepIT; have h1 := h.jN hk hi 11 (by omega); rw [h.eq i k hi hk, h1.eq i i hi hi]; exact ite_ago h h1
def iT (k : Int) (T : List Int) : Nat → Option (List Int)
 | 0 => some T
 | n + 1 => (iT k T n).bind (stepIT k n)
theorem AgO.bind {o : Option (Int → Int → Int)} {p : Option (List Int)} (h : AgO o p) {f : (Int → Int → Int) → Option (Int → Int → Int)} {g : List Int → Option (List Int)} (hf : ∀ B T, Ag B T → AgO (f B) (g T)) : AgO (o.bind f) (p.bind g) := by
 cases o with
 | none => cases p with
  | none => trivial
  | some T => exact h.elim
 | some B => cases p with
  | none => exact h.elim
  | some T => exact hf B T h
theorem Ag.iN {B : Int → Int → Int} {T : List Int} (h : Ag B T) {k : Int} (hk : inR k) : ∀ n, n ≤ 11 → AgO (iN k B n) (iT k T n)
 | 0, _ => h
 | n + 1, hn => (Ag.iN h hk n (by omega)).bind fun B T hb => hb.stepI hk ⟨by omega, by omega⟩
def kT (T : List Int) : Nat → Option (List Int)
 | 0 => some T
 | n + 1 => (kT T n).bind fun T => iT n T 11
theorem Ag.kN {B : Int → Int → Int} {T : List Int} (h : Ag B T) : ∀ n, n ≤ 11 → AgO (kN B n) (kT T n)
 | 0, _ => h
 | n + 1, hn => (Ag.kN h n (by omega)).bind fun B T hb => hb.iN ⟨by omega, by omega⟩ 11 (by omega)
def tightT (T : List Int) : Option (List Int) := kT T 11
theorem Ag.tight {B : Int → Int → Int} {T : List Int} (h : Ag B T) : AgO (tightenF B) (tightT T) := h.kN 11 (by omega)
def fillT : List Int := (List.range 121).map fun n => if n / 11 = n % 11 then 0 else FREE
theorem rowN_eq (i : Int) (B : Int → Int → Int) (n : Nat) (a c : Int) : rowN i B n a c = if a = i ∧ 0 ≤ c ∧ c < n ∧ c ≠ i then FREE else B a c := by
 induction n with
 | zero => rw [if_neg (by omega)]; rfl
 | succ n ih =>
  show (if i = (n : Int) then rowN i B n else set2 (rowN i B n) i n FREE) a c = _
  by_cases hin : i = (n : Int)
  ·rw [if_pos hin, ih]
   by_cases h1 : a = i ∧ 0 ≤ c ∧ c < n ∧ c ≠ i
   ·rw [if_pos h1, if_pos (by omega)]
   ·rw [if_neg h1, if_neg (by omega)]
  ·rw [if_neg hin]; unfold set2
   by_cases h2 : a = i ∧ c = (n : Int)
   ·rw [if_pos h2, if_pos (by omega)]
   ·rw [if_neg h2, ih]
    by_cases h1 : a = i ∧ 0 ≤ c ∧ c < n ∧ c ≠ i
    ·rw [if_pos h1, if_pos (by omega)]
    ·rw [if_neg h1, if_neg (by omega)]
theorem fillN_eq (n : Nat) (a c : Int) : fillN n a c = if 0 ≤ a ∧ a < n ∧ 0 ≤ c ∧ c < 11 ∧ c ≠ a then FREE else 0 := by
 induction n with
 | zero => rw [if_neg (by omega)]; rfl
 | succ n ih =>
  show rowN n (fillN n) 11 a c = _; rw [rowN_eq, ih]
  by_cases h1 : a = (n : Int) ∧ 0 ≤ c ∧ c < (11 : Nat) ∧ c ≠ (n : Int)
  ·rw [if_pos h1, if_pos (by omega)]
  ·rw [if_neg h1]
   by_cases h2 : 0 ≤ a ∧ a < n ∧ 0 ≤ c ∧ c < 11 ∧ c ≠ a
   ·rw [if_pos h2, if_pos (by omega)]
   ·rw [if_neg h2, if_neg (by omega)]
theorem ag_fill : Ag (fillN 11) fillT := by
 refine ⟨by unfold fillT; simp, fun i j hi hj => ?_⟩; obtain ⟨h1, h2⟩ := hi; obtain ⟨h3, h4⟩ := hj; rw [fillN_eq]; unfold tb fillT; rw [List.getD_eq_getElem?_getD, List.getElem?_map, List.getElem?_range (by omega)]; simp only [Option.map_some, Option.getD_some]
 have e1 : (i.toNat * 11 + j.toNat) / 11 = i.toNat := by omega
 have e2 : (i.toNat * 11 + j.toNat) % 11 = j.toNat := by omega
 rw [e1, e2]
 by_cases hij : i = j
 ·rw [if_neg (by omega), if_pos (by omega)]
 ·rw [if_pos (by omega), if_neg (by omega)]
def bindT (om : Int → Bool) (L : List (Int × S61)) : List Int := L.foldl (fun T x => if om x.1 = true then T else sayT T x.2) fillT
def okL (L : List (Int × S61)) : Prop := ∀ x ∈ L, (0 ≤ x.2.f0 ∧ x.2.f0 < 11) ∧ 0 ≤ x.2.f1 ∧ x.2.f1 < 11
instance (L : List (Int × S61)) : Decidable (okL L) := by unfold okL; infer_instance
theorem ag_bind (om : Int → Bool) : ∀ (L : List (Int × S61)) (B : Int → Int → Int) (T : List Int), okL L → Ag B T → Ag (L.foldl (fun B x => if om x.1 = true then B else sayF B x.2) B) (L.foldl (fun T x => if om x.1 = true then T else sayT T x.2) T)
 | [], B, T, _, h => h
 | x :: L, B, T, ho, h => by
  rw [List.foldl_cons, List.foldl_cons]; refine ag_bind om L _ _ (fun y hy => ho y (List.mem_cons_of_mem _ hy)) ?_
  split
  ·exact h
  ·have hx := ho x List.mem_cons_self; exact h.say ⟨hx.1.1, hx.1.2⟩ ⟨hx.2.1, hx.2.2⟩
theorem tight_tab {om : Int → Bool} {L : List (Int × S61)} (ho : okL L) : AgO (tightenF (bindP om L)) (tightT (bindT om L)) := (ag_bind om L _ _ ho ag_fill).tight
theorem tight_some {om : Int → Bool} {L : List (Int × S61)} {T : List Int} (ho : okL L) (h : tightT (bindT om L) = some T) : ∃ B, tightenF (bindP om L) = some B ∧ Ag B T := by
 have := tight_tab (om := om) ho; rw [h] at this
 cases hB : tightenF (bindP om L) with
 | none => rw [hB] at this; exact this.elim
 | some B => rw [hB] at this; exact ⟨B, rfl, this⟩
theorem tight_isSome {om : Int → Bool} {L : List (Int × S61)} (ho : okL L) : (tightenF (bindP om L)).isSome = (tightT (bindT om L)).isSome := by
 have := tight_tab (om := om) ho; cases hB : tightenF (bindP om L) <;> cases hT : tightT (bindT om L) <;> rw [hB, hT] at this
 ·rfl
 ·exact this.elim
 ·exact this.elim
 ·rfl
end Go.Proofs.YtobcecgcegoooaaGreat.Sk
namespace Go.Proofs.YtobcecgcegoooaaGreat.Sk
open Go.RowKit Go.Proofs.YtobcecgcegoooaaGreatW.PrintWords Go.Proofs.YtobcecgcegoooaaGreatW.PrintLast Go.Proofs.YtobcecgcegoooaaGreatW.PrintMore
set_option linter.unusedVariables false
set_option linter.unusedSimpArgs false
def lowOf (a0 a1 a2 c : Int) : Int := if a2 > 0 then c - (a1 + (c - a0 + a2 - 1) / a2) else c - a1
def highOf (a0 a1 a2 c : Int) : Int := if a2 > 0 then c + (a1 + (c - a0 + a2 - 1) / a2) else c + a1
theorem of_low (a0 a1 a2 c : Int) (h0 : 0 ≤ a0) (h1 : 0 ≤ a1) (h2 : 0 ≤ a2) (g1 : a1 ≤ 1000) (g2 : a2 ≤ 100000) (hc : a0 ≤ c) (gc : c ≤ 100000) :
  skew_of.f a0 a1 a2 c = some (lowOf a0 a1 a2 c, highOf a0 a1 a2 c) := by
 unfold skew_of.f lowOf highOf
 by_cases h : a2 > 0
 ·rw [if_pos h, if_neg (by omega), if_pos h, if_pos h]
  have e1 : wrap64 (c - a0) = c - a0 := by unfold wrap64; omega
  have e2 : wrap64 (c - a0 + a2) = c - a0 + a2 := by unfold wrap64; omega
  have e3 : wrap64 (c - a0 + a2 - 1) = c - a0 + a2 - 1 := by unfold wrap64; omega
  rw [e1, e2, e3, Int.tdiv_eq_ediv_of_nonneg (by omega)]; have b1 : 0 ≤ (c - a0 + a2 - 1) / a2 := Int.ediv_nonneg (by omega) (by omega); have b2 : (c - a0 + a2 - 1) / a2 ≤ c - a0 + a2 - 1 := Int.ediv_le_self _ (by omega); generalize (c - a0 + a2 - 1) / a2 = q at b1 b2 ⊢
  have e4 : wrap64 q = q := by unfold wrap64; omega
  have e5 : wrap64 (a1 + q) = a1 + q := by unfold wrap64; omega
  rw [e4, e5]
  have e6 : wrap64 (c - (a1 + q)) = c - (a1 + q) := by unfold wrap64; omega
  have e7 : wrap64 (c + (a1 + q)) = c + (a1 + q) := by unfold wrap64; omega
  rw [e6, e7]
 ·rw [if_neg h, if_neg h, if_neg h]
  have e6 : wrap64 (c - a1) = c - a1 := by unfold wrap64; omega
  have e7 : wrap64 (c + a1) = c + a1 := by unfold wrap64; omega
  rw [e6, e7]
set_option maxHeartbeats 1000000 in
set_option maxRecDepth 100000 in
theorem wait1_calls (a0 a1 a2 rd0 un i lo hi : Int) (b1 b2 b3 : Nat) (w : World) (h1 : w.heap[b1]? = some (.cells #[.int .i64 a0, .int .i64 a1, .int .i64 a2] 69 (0, 0)))
  (h2 : w.heap[b2]? = some (.cells #[.int .i64 rd0] 3 (0, 0))) (h3 : w.heap[b3]? = some (.cells #[.int .i64 un] 3 (0, 0)))
  (hr0 : 0 ≤ rd0) (hi0 : 0 ≤ i) (hri : rd0 + i ≤ 100000) (ho : skew_of.f a0 a1 a2 (rd0 + i) = some (lo, hi)) :
  Calls Tryz.prog 58 #[.int .i64 i, .pointer (some ⟨b1, 0, none⟩), .pointer (some ⟨b2, 0, none⟩), .pointer (some ⟨b3, 0, none⟩)] w fun e w' => e = .returned (.bool (decide (un < lo))) ∧ Below w.heap.size w w' := by
 have hu23 := Tryz.underlying69
 have hfd : ∀ (x0 x1 : Int) (W : World), (Instr.field 65 (.agg #[.int .i64 x0, .int .i64 x1]) 0).run Tryz.prog W = .ok (.int .i64 x0) W := fun _ _ _ => by kernel_rfl
 have c0 := cell_at h1 0 (.int .i64 a0) rfl; have c1 := cell_at h1 1 (.int .i64 a1) rfl; have c2 := cell_at h1 2 (.int .i64 a2) rfl; have d0 := cell_at h2 0 (.int .i64 rd0) rfl; have e0 := cell_at h3 0 (.int .i64 un) rfl; have HO := Aa ho; have HW := Aa (Below.refl w.heap.size w); clear ho; have es : IntKind.i64.wrap (rd0 + i) = rd0 + i := IntWalk.i64_in _ (by omega)
 go_enter Tryz.func58, Tryz.ntmps58
 go_wp2_with fail
 go_region_held3 (fun W => Below w.heap.size w W ∧ W.cell? ⟨b1, 0, none⟩ = some (.int .i64 a0) ∧ W.cell? ⟨b1, 1, none⟩ = some (.int .i64 a1) ∧ W.cell? ⟨b1, 2, none⟩ = some (.int .i64 a2) ∧ W.cell? ⟨b2, 0, none⟩ = some (.int .i64 rd0) ∧ W.cell? ⟨b3, 0, none⟩ = some (.int .i64 un))
  (first | (with_reducible (refine ⟨Dn HW.out, ?_, ?_, ?_, ?_, ?_⟩)) <;> (apply cell_drew; with_reducible assumption) | (go_split_ands; (with_reducible refine ⟨Bp (by assumption) hb, ?_, ?_, ?_, ?_, ?_⟩) <;> (apply pw_cell_below hb; with_reducible assumption)))
  (first | (go_at_call 56; ((with_reducible refine (skew_of.calls a0 a1 a2 (rd0 + i) lo hi _ HO.out).mono ?_)); rintro e w' ⟨rfl, hb⟩))
 go_wp2; go_ret
 rename_i hS
 exact ⟨rfl, hS.1⟩
def bsr (p : Int → Bool) : Nat → Int → Int → Int
 | 0, i, _ => i
 | k + 1, i, j => if i < j then (if p ((i + j) / 2) then bsr p k i ((i + j) / 2) else bsr p k ((i + j) / 2 + 1) j) else i
set_option maxHeartbeats 1000000 in
set_option maxRecDepth 100000 in
theorem search_calls (n : Int) (w : World) (cap : Array Value) (p : Int → Bool) (hn0 : 0 ≤ n) (hn : n ≤ 1000000) (Inv : World → Prop) (hI : Inv w)
  (hp : ∀ (i : Int) (W : World), Inv W → 0 ≤ i → i < n → Calls Tryz.prog 58 (#[.int .i64 i] ++ cap) W fun e w' => e = .returned (.bool (p i)) ∧ Inv w') :
  Calls Tryz.prog 57 #[.int .i64 n, .func (.func 58) #[] cap] w fun e w' => e = .returned (.int .i64 (bsr p n.toNat 0 n)) ∧ Inv w' := by
 have HP := Aa hp; have HI := Aa hI; clear hp hI
 go_enter Tryz.func57, Tryz.ntmps57
 go_wp2
 go_loopw [5, 6, 7] (fun a b _ W => ∃ (i j : Int) (k : Nat), 0 ≤ i ∧ i ≤ j ∧ j ≤ n ∧ a = .int .i64 i ∧ b = .int .i64 j ∧ Aside0 ((j - i).toNat ≤ k) ∧ Aside0 (bsr p k i j = bsr p n.toNat 0 n) ∧ Aside0 (Inv W)) (fun a b _ _ => (intOf b - intOf a).toNat)
 case atStart => exact ⟨0, n, n.toNat, by omega, by omega, by omega, rfl, rfl, ⟨by omega⟩, ⟨rfl⟩, HI⟩
 case round =>
  obtain ⟨i, j, k, h0, h1, h2, rfl, rfl, HK, HR, HI⟩ := hrel
  by_cases hlt : i < j
  ·obtain ⟨b, hb⟩ : ∃ b, p ((i + j) / 2) = b := ⟨_, rfl⟩
   have hc := fun W hW => HP.out ((i + j) / 2) W hW (by omega) (by omega)
   rw [hb] at hc; have HC := Aa hc; have HG := Aa hb; clear hc hb
   obtain ⟨k, rfl⟩ : ∃ m, k = m + 1 := ⟨k - 1, by have := HK.out; omega⟩
   have hR := HR.out; simp only [bsr, if_pos hlt] at hR; clear HR; cases b
   ·rw [if_neg (by rw [HG.out]; simp)] at hR; have HR := Aa hR; clear hR
    go_wp2_with (go_at_call 58; refine (HC.out _ HI.out).mono ?_; rintro e w' ⟨rfl, hb⟩)
    go_roundw
    case rel => exact ⟨(i + j) / 2 + 1, j, k, by omega, by omega, by omega, rfl, rfl, ⟨by have := HK.out; omega⟩, HR, ⟨hb⟩⟩
    case measure => simp [intOf]; omega
   ·rw [if_pos HG.out] at hR; have HR := Aa hR; clear hR
    go_wp2_with (go_at_call 58; refine (HC.out _ HI.out).mono ?_; rintro e w' ⟨rfl, hb⟩)
    go_roundw
    case rel => exact ⟨i, (i + j) / 2, k, by omega, by omega, by omega, rfl, rfl, ⟨by have := HK.out; omega⟩, HR, ⟨hb⟩⟩
    case measure => simp [intOf]; omega
  ·have hR : i = bsr p n.toNat 0 n := by
    rw [← HR.out]; cases k with
    | zero => rfl
    | succ k => simp only [bsr]; rw [if_neg hlt]
   have HR := Aa hR; clear hR; go_wp2; go_ret; exact ⟨by rw [← HR.out]; rfl, HI.out⟩
def readsB (a0 a1 a2 c : Int) : Bool := (decide (0 ≤ a0) && decide (a0 ≤ 100000)) && ((decide (0 ≤ a1) && decide (a1 ≤ 1000)) && ((decide (0 ≤ a2) && decide (a2 ≤ 100000)) && (decide (a0 ≤ c) && decide (c ≤ 100000))))
theorem within_b (n l h : Int) : skew_within.f n l h = some (decide (l ≤ n) && decide (n ≤ h)) := by
 unfold skew_within.f; by_cases c : n ≥ l <;> simp [c] <;> omega
theorem reads_b (a0 a1 a2 c : Int) : skew_reads.f a0 a1 a2 c = some (readsB a0 a1 a2 c) := by
 unfold skew_reads.f readsB; simp only [within_b, Option.bind_some]; cases (decide (0 ≤ a0) && decide (a0 ≤ 100000)) <;> cases (decide (0 ≤ a1) && decide (a1 ≤ 1000)) <;> cases (decide (0 ≤ a2) && decide (a2 ≤ 100000)) <;> simp
def skew_Wait.f (a0_0 a0_1 a0_2 a1 a2 : Int) : Option (Int × Int) :=
 if readsB a0_0 a0_1 a0_2 a1 = true then
  if (decide (-1000000 ≤ a2) && decide (a2 ≤ 1000000)) = true then
   if a1 + bsr (fun i => decide (a2 < lowOf a0_0 a0_1 a0_2 (a1 + i))) (100001 - a1).toNat 0 (100001 - a1) > 100000 then some (0, 5)
   else some (a1 + bsr (fun i => decide (a2 < lowOf a0_0 a0_1 a0_2 (a1 + i))) (100001 - a1).toNat 0 (100001 - a1), 0)
  else some (0, 2)
 else some (0, 2)
theorem bsr_range (p : Int → Bool) : ∀ (k : Nat) (i j : Int), i ≤ j → i ≤ bsr p k i j ∧ bsr p k i j ≤ j
 | 0, i, j, h => ⟨Int.le_refl _, h⟩
 | k + 1, i, j, h => by
  simp only [bsr]
  split
  ·split
   ·have := bsr_range p k i ((i + j) / 2) (by omega); omega
   ·have := bsr_range p k ((i + j) / 2 + 1) j (by omega); omega
  ·omega
structure WaitInv (a0 a1 a2 rd0 un : Int) (b1 b2 b3 : Nat) (w W : World) : Prop where
 h1 : W.heap[b1]? = some (.cells #[.int .i64 a0, .int .i64 a1, .int .i64 a2] 69 (0, 0))
 h2 : W.heap[b2]? = some (.cells #[.int .i64 rd0] 3 (0, 0))
 h3 : W.heap[b3]? = some (.cells #[.int .i64 un] 3 (0, 0))
 hb : Below w.heap.size w W
theorem WaitInv.start (a0 a1 a2 rd0 un : Int) (w : World) : WaitInv a0 a1 a2 rd0 un w.heap.size (w.heap.size + 1) (w.heap.size + 1 + 1) w
  (((w.alloc (.cells #[.int .i64 a0, .int .i64 a1, .int .i64 a2] 69)).alloc (.cells #[.int .i64 rd0] 3)).alloc (.cells #[.int .i64 un] 3)) :=
 ⟨Ka (Ka (blk_new _ _) _) _, Ka (by have := blk_new (w.alloc (.cells #[.int .i64 a0, .int .i64 a1, .int .i64 a2] 69)) (.cells #[.int .i64 rd0] 3); rwa [World.size_alloc] at this) _,
  by have := blk_new ((w.alloc (.cells #[.int .i64 a0, .int .i64 a1, .int .i64 a2] 69)).alloc (.cells #[.int .i64 rd0] 3)) (.cells #[.int .i64 un] 3); rwa [World.size_alloc, World.size_alloc] at this,
  Ba (Ba (Ba (Below.refl _ _) _) _) _⟩
theorem WaitInv.step {a0 a1 a2 rd0 un : Int} {b1 b2 b3 : Nat} {w W W' : World} (h : WaitInv a0 a1 a2 rd0 un b1 b2 b3 w W) (hb : Below W.heap.size W W') : WaitInv a0 a1 a2 rd0 un b1 b2 b3 w W' :=
 ⟨blk_below h.h1 hb, blk_below h.h2 hb, blk_below h.h3 hb, Bp h.hb hb⟩
theorem WaitInv.drew {a0 a1 a2 rd0 un : Int} {b1 b2 b3 : Nat} {w W : World} (h : WaitInv a0 a1 a2 rd0 un b1 b2 b3 w W) : WaitInv a0 a1 a2 rd0 un b1 b2 b3 w W.drew := ⟨h.h1, h.h2, h.h3, Dn h.hb⟩
theorem WaitInv.drewN {a0 a1 a2 rd0 un : Int} {b1 b2 b3 : Nat} {w W : World} (h : WaitInv a0 a1 a2 rd0 un b1 b2 b3 w W) (n : Nat) : WaitInv a0 a1 a2 rd0 un b1 b2 b3 w (W.drewN n) := ⟨h.h1, h.h2, h.h3, Pn h.hb n⟩
theorem wait_search (a0 a1 a2 rd0 un R : Int) (b1 b2 b3 : Nat) (w W : World) (g1 : 0 ≤ a0) (g2 : a0 ≤ 100000) (g3 : 0 ≤ a1) (g4 : a1 ≤ 1000) (g5 : 0 ≤ a2) (g6 : a2 ≤ 100000) (g7 : a0 ≤ rd0) (g8 : rd0 ≤ 100000)
  (hR : bsr (fun i => decide (un < lowOf a0 a1 a2 (rd0 + i))) (100001 - rd0).toNat 0 (100001 - rd0) = R) (hI : WaitInv a0 a1 a2 rd0 un b1 b2 b3 w W) :
  Calls Tryz.prog 57 #[.int .i64 (100001 - rd0), .func (.func 58) #[] #[.pointer (some ⟨b1, 0, none⟩), .pointer (some ⟨b2, 0, none⟩), .pointer (some ⟨b3, 0, none⟩)]] W fun e W' => e = .returned (.int .i64 R) ∧ WaitInv a0 a1 a2 rd0 un b1 b2 b3 w W' := by
 refine (search_calls (100001 - rd0) W _ (fun i => decide (un < lowOf a0 a1 a2 (rd0 + i))) (by omega) (by omega) (WaitInv a0 a1 a2 rd0 un b1 b2 b3 w) hI ?_).mono ?_
 ·intro i W hW h0 h1; refine (wait1_calls a0 a1 a2 rd0 un i _ _ b1 b2 b3 W hW.h1 hW.h2 hW.h3 (by omega) h0 (by omega) (of_low a0 a1 a2 (rd0 + i) g1 g3 g5 g4 g6 (by omega) (by omega))).mono ?_; rintro e w' ⟨rfl, hb⟩; exact ⟨rfl, hW.step hb⟩
 ·rintro e w' ⟨rfl, hb⟩; exact ⟨by rw [hR], hb⟩
set_option maxHeartbeats 2000000 in
set_option maxRecDepth 100000 in
theorem skew_Wait.calls (a0_0 a0_1 a0_2 a1 a2 r1 r2 : Int) (w : World) (h : skew_Wait.f a0_0 a0_1 a0_2 a1 a2 = some (r1, r2)) :
  Calls Tryz.prog 33 #[.agg #[.int .i64 a0_0, .int .i64 a0_1, .int .i64 a0_2], .int .i64 a1, .int .i64 a2] w fun e w' => e = .returned (.tuple #[.int .i64 r1, .int .i64 r2]) ∧ Below w.heap.size w w' := by
 have hu23 := Tryz.underlying69; unfold skew_Wait.f at h; have hrd := reads_b a0_0 a0_1 a0_2 a1
 obtain ⟨b, hb⟩ : ∃ b, readsB a0_0 a0_1 a0_2 a1 = b := ⟨_, rfl⟩
 rw [hb] at h hrd; have HR := Aa hrd; have HS := Aa (WaitInv.start a0_0 a0_1 a0_2 a1 a2 w); clear hrd; cases b
 ·rw [if_neg (by simp)] at h; simp only [Option.some.injEq, Prod.mk.injEq] at h; obtain ⟨rfl, rfl⟩ := h; clear hb
  go_enter Tryz.func33, Tryz.ntmps33
  go_wp2_with (go_at_call 55; refine (skew_reads.calls _ _ _ _ _ _ HR.out).mono ?_; rintro e w' ⟨rfl, hb⟩)
  go_ret2; exact ⟨rfl, (HS.out.step hb).hb⟩
 ·rw [if_pos rfl] at h; have hwi := within_b a2 (-1000000) 1000000
  obtain ⟨c, hc⟩ : ∃ c, (decide (-1000000 ≤ a2) && decide (a2 ≤ 1000000)) = c := ⟨_, rfl⟩
  rw [hc] at h hwi; have HW := Aa hwi; clear hwi; cases c
  ·rw [if_neg (by simp)] at h; simp only [Option.some.injEq, Prod.mk.injEq] at h; obtain ⟨rfl, rfl⟩ := h; clear hb hc
   go_enter Tryz.func33, Tryz.ntmps33
   go_wp2_with fail
   refine (skew_reads.calls _ _ _ _ _ _ HR.out).mono ?_; rintro e w1 ⟨rfl, hb⟩; have HI := Aa (HS.out.step hb); clear HS hb; have c3 := cell_at HI.out.h3 0 (.int .i64 a2) rfl
   go_wp2_with (go_at_call 13; refine (skew_within.calls _ _ _ _ _ HW.out).mono ?_; rintro e w2 ⟨rfl, ⟨nd, rfl⟩⟩)
   go_ret2; exact ⟨rfl, (HI.out.drewN nd).hb⟩
  ·rw [if_pos rfl] at h
   have hrb : 0 ≤ a0_0 ∧ a0_0 ≤ 100000 ∧ 0 ≤ a0_1 ∧ a0_1 ≤ 1000 ∧ 0 ≤ a0_2 ∧ a0_2 ≤ 100000 ∧ a0_0 ≤ a1 ∧ a1 ≤ 100000 := by
    simp only [readsB, Bool.and_eq_true, decide_eq_true_eq] at hb; omega
   obtain ⟨g1, g2, g3, g4, g5, g6, g7, g8⟩ := hrb; clear hb hc
   obtain ⟨R, hR⟩ : ∃ R, bsr (fun i => decide (a2 < lowOf a0_0 a0_1 a0_2 (a1 + i))) (100001 - a1).toNat 0 (100001 - a1) = R := ⟨_, rfl⟩
   have hRr := bsr_range (fun i => decide (a2 < lowOf a0_0 a0_1 a0_2 (a1 + i))) (100001 - a1).toNat 0 (100001 - a1) (by omega); rw [hR] at h hRr; have HRR := Aa hR; have H := Aa h; clear hR h; obtain ⟨k1, k2⟩ := hRr
   go_enter Tryz.func33, Tryz.ntmps33
   go_wp2_with fail
   refine (skew_reads.calls _ _ _ _ _ _ HR.out).mono ?_; rintro e w1 ⟨rfl, hb⟩; have HI := Aa (HS.out.step hb); clear HS hb; have c3 := cell_at HI.out.h3 0 (.int .i64 a2) rfl
   go_wp2_with (go_at_call 13; refine (skew_within.calls _ _ _ _ _ HW.out).mono ?_; rintro e w2 ⟨rfl, ⟨nd, rfl⟩⟩)
   have es1 : IntKind.i64.wrap (100001 - a1) = 100001 - a1 := IntWalk.i64_in _ (by omega); have es2 : IntKind.i64.wrap (a1 + R) = a1 + R := IntWalk.i64_in _ (by omega); have HI2 := Aa (HI.out.drewN nd); have c4 := cell_at HI2.out.h2 0 (.int .i64 a1) rfl
   go_region_held3 (fun W => WaitInv a0_0 a0_1 a0_2 a1 a2 w.heap.size (w.heap.size + 1) (w.heap.size + 1 + 1) w W ∧ W.cell? ⟨w.heap.size + 1, 0, none⟩ = some (.int .i64 a1))
    (first | exact ⟨HI2.out.drew, cell_drew (cell_at HI2.out.h2 0 _ rfl)⟩ | exact ⟨hb, cell_at hb.h2 0 _ rfl⟩)
    (first | (go_at_call 57; (with_reducible refine (wait_search a0_0 a0_1 a0_2 a1 a2 R _ _ _ w _ g1 g2 g3 g4 g5 g6 g7 g8 HRR.out ?_).mono ?_); (go_split_ands; assumption); rintro e w' ⟨rfl, hb⟩))
   rename_i hS
   have HI3 := Aa hS.1; clear hS; have hH := H.out; clear H
   by_cases hgt : a1 + R > 100000
   ·rw [if_pos hgt] at hH; simp only [Option.some.injEq, Prod.mk.injEq] at hH; obtain ⟨rfl, rfl⟩ := hH; go_wp2; go_ret2; exact ⟨rfl, HI3.out.hb⟩
   ·rw [if_neg hgt] at hH; simp only [Option.some.injEq, Prod.mk.injEq] at hH; obtain ⟨rfl, rfl⟩ := hH; go_wp2; go_ret2; exact ⟨rfl, HI3.out.hb⟩
end Go.Proofs.YtobcecgcegoooaaGreat.Sk
