/- Bounds as tables, for closed histories. -/
import Derived.Test.YtbffhblebigcfaaCPrGTight
namespace Go.Proofs.Ytbffhblebigcfaa.Sk
open Go.RowKit Go.Shelf Go.Proofs.YtbffhblebigcfaaW.PrintWords Go.Proofs.YtbffhblebigcfaaW.PrintLast Go.Proofs.YtbffhblebigcfaaW.PrintMore
set_option linter.unusedVariables false
set_option linter.unusedSimpArgs false
def tb (T : List Int) (i j : Int) : Int := T.getD (i.toNat * 11 + j.toNat) 0
def inR (i : Int) : Prop := 0 ≤ i ∧ i < 11
structure Ag (B : Int → Int → Int) (T : List Int) : Prop where
 len : T.length = 121
 eq : ∀ i j, inR i → inR j → B i j = tb T i j
def tset (T : List Int) (i j x : Int) : List Int := T.set (i.toNat * 11 + j.toNat) x
theorem Ag.set {B : Int → Int → Int} {T : List Int} (h : Ag B T) {i j x : Int} (hi : inR i) (hj : inR j) : Ag (set2 B i j x) (tset T i j x) := by
 refine ⟨by unfold tset; rw [List.length_set]; exact h.len, fun a c ha hc => ?_⟩
 obtain ⟨h1, h2⟩ := hi
 obtain ⟨h3, h4⟩ := hj
 obtain ⟨h5, h6⟩ := ha
 obtain ⟨h7, h8⟩ := hc
 have hlen := h.len
 unfold set2 tb tset
 rw [List.getD_eq_getElem?_getD, List.getElem?_set]
 by_cases hac : a = i ∧ c = j
 ·obtain ⟨rfl, rfl⟩ := hac
  rw [if_pos ⟨rfl, rfl⟩, if_pos rfl, if_pos (by omega)]; rfl
 ·rw [if_neg hac, if_neg (by omega), h.eq a c ⟨h5, h6⟩ ⟨h7, h8⟩]
  unfold tb; rw [List.getD_eq_getElem?_getD]
def sayT (T : List Int) (f : S153) : List Int :=
 let T1 := tset T f.f0 f.f1 (mn (tb T f.f0 f.f1) f.f3)
 tset T1 f.f1 f.f0 (mn (tb T1 f.f1 f.f0) (wrap64 (-f.f2)))
theorem Ag.say {B : Int → Int → Int} {T : List Int} (h : Ag B T) {f : S153} (hi : inR f.f0) (hj : inR f.f1) : Ag (sayF B f) (sayT T f) := by
 unfold sayF sayT
 simp only
 have h1 := h.set (x := mn (B f.f0 f.f1) f.f3) hi hj
 rw [h.eq _ _ hi hj] at h1 ⊢
 have h2 := h1.set (x := mn (set2 B f.f0 f.f1 (mn (tb T f.f0 f.f1) f.f3) f.f1 f.f0) (wrap64 (-f.f2))) hj hi
 rw [h1.eq _ _ hj hi] at h2
 rw [h1.eq _ _ hj hi]
 exact h2
def stepJT (k i j : Int) (T : List Int) : List Int := if tb T k j = FREE then T else tset T i j (mn (tb T i j) (wrap64 (tb T i k + tb T k j)))
theorem Ag.stepJ {B : Int → Int → Int} {T : List Int} (h : Ag B T) {k i j : Int} (hk : inR k) (hi : inR i) (hj : inR j) : Ag (stepJ k i j B) (stepJT k i j T) := by
 unfold Sk.stepJ stepJT
 rw [h.eq k j hk hj, h.eq i j hi hj, h.eq i k hi hk]
 split
 ·exact h
 ·exact h.set hi hj
def jT (k i : Int) (T : List Int) : Nat → List Int
 | 0 => T
 | n + 1 => stepJT k i n (jT k i T n)
theorem Ag.jN {B : Int → Int → Int} {T : List Int} (h : Ag B T) {k i : Int} (hk : inR k) (hi : inR i) : ∀ n, n ≤ 11 → Ag (jN k i B n) (jT k i T n)
 | 0, _ => h
 | n + 1, hn => (Ag.jN h hk hi n (by omega)).stepJ hk hi ⟨by omega, by omega⟩
def stepIT (k i : Int) (T : List Int) : Option (List Int) := if tb T i k = FREE then some T else if tb (jT k i T 11) i i < 0 then none else some (jT k i T 11)
def AgO : Option (Int → Int → Int) → Option (List Int) → Prop
 | some B, some T => Ag B T
 | none, none => True
 | _, _ => False
theorem ite_ago {p q : Prop} [Decidable p] [Decidable q] {B C : Int → Int → Int} {T U : List Int} (h : Ag B T) (h1 : Ag C U) : AgO (if p then some B else if q then none else some C) (if p then some T else if q then none else some U) := by
 by_cases hf : p
 ·rw [if_pos hf, if_pos hf]; exact h
 ·rw [if_neg hf, if_neg hf]
  by_cases hn : q
  ·rw [if_pos hn, if_pos hn]; trivial
  ·rw [if_neg hn, if_neg hn]; exact h1
theorem Ag.stepI {B : Int → Int → Int} {T : List Int} (h : Ag B T) {k i : Int} (hk : inR k) (hi : inR i) : AgO (stepI k i B) (stepIT k i T) := by
 unfold Sk.stepI stepIT
 have h1 := h.jN hk hi 11 (by omega)
 rw [h.eq i k hi hk, h1.eq i i hi hi]
 exact ite_ago h h1
def iT (k : Int) (T : List Int) : Nat → Option (List Int)
 | 0 => some T
 | n + 1 => (iT k T n).bind (stepIT k n)
theorem AgO.bind {o : Option (Int → Int → Int)} {p : Option (List Int)} (h : AgO o p) {f : (Int → Int → Int) → Option (Int → Int → Int)} {g : List Int → Option (List Int)} (hf : ∀ B T, Ag B T → AgO (f B) (g T)) : AgO (o.bind f) (p.bind g) := by
 cases o with
 | none => cases p with
  | none => trivial
  | some T => exact h.elim
 | some B => cases p with
  | none => exact h.elim
  | some T => exact hf B T h
theorem Ag.iN {B : Int → Int → Int} {T : List Int} (h : Ag B T) {k : Int} (hk : inR k) : ∀ n, n ≤ 11 → AgO (iN k B n) (iT k T n)
 | 0, _ => h
 | n + 1, hn => (Ag.iN h hk n (by omega)).bind fun B T hb => hb.stepI hk ⟨by omega, by omega⟩
def kT (T : List Int) : Nat → Option (List Int)
 | 0 => some T
 | n + 1 => (kT T n).bind fun T => iT n T 11
theorem Ag.kN {B : Int → Int → Int} {T : List Int} (h : Ag B T) : ∀ n, n ≤ 11 → AgO (kN B n) (kT T n)
 | 0, _ => h
 | n + 1, hn => (Ag.kN h n (by omega)).bind fun B T hb => hb.iN ⟨by omega, by omega⟩ 11 (by omega)
def tightT (T : List Int) : Option (List Int) := kT T 11
theorem Ag.tight {B : Int → Int → Int} {T : List Int} (h : Ag B T) : AgO (tightenF B) (tightT T) := h.kN 11 (by omega)
def fillT : List Int := (List.range 121).map fun n => if n / 11 = n % 11 then 0 else FREE
theorem rowN_eq (i : Int) (B : Int → Int → Int) (n : Nat) (a c : Int) : rowN i B n a c = if a = i ∧ 0 ≤ c ∧ c < n ∧ c ≠ i then FREE else B a c := by
 induction n with
 | zero => rw [if_neg (by omega)]; rfl
 | succ n ih =>
  show (if i = (n : Int) then rowN i B n else set2 (rowN i B n) i n FREE) a c = _
  by_cases hin : i = (n : Int)
  ·rw [if_pos hin, ih]
   by_cases h1 : a = i ∧ 0 ≤ c ∧ c < n ∧ c ≠ i
   ·rw [if_pos h1, if_pos (by omega)]
   ·rw [if_neg h1, if_neg (by omega)]
  ·rw [if_neg hin]
   unfold set2
   by_cases h2 : a = i ∧ c = (n : Int)
   ·rw [if_pos h2, if_pos (by omega)]
   ·rw [if_neg h2, ih]
    by_cases h1 : a = i ∧ 0 ≤ c ∧ c < n ∧ c ≠ i
    ·rw [if_pos h1, if_pos (by omega)]
    ·rw [if_neg h1, if_neg (by omega)]
theorem fillN_eq (n : Nat) (a c : Int) : fillN n a c = if 0 ≤ a ∧ a < n ∧ 0 ≤ c ∧ c < 11 ∧ c ≠ a then FREE else 0 := by
 induction n with
 | zero => rw [if_neg (by omega)]; rfl
 | succ n ih =>
  show rowN n (fillN n) 11 a c = _
  rw [rowN_eq, ih]
  by_cases h1 : a = (n : Int) ∧ 0 ≤ c ∧ c < (11 : Nat) ∧ c ≠ (n : Int)
  ·rw [if_pos h1, if_pos (by omega)]
  ·rw [if_neg h1]
   by_cases h2 : 0 ≤ a ∧ a < n ∧ 0 ≤ c ∧ c < 11 ∧ c ≠ a
   ·rw [if_pos h2, if_pos (by omega)]
   ·rw [if_neg h2, if_neg (by omega)]
theorem ag_fill : Ag (fillN 11) fillT := by
 refine ⟨by unfold fillT; simp, fun i j hi hj => ?_⟩
 obtain ⟨h1, h2⟩ := hi
 obtain ⟨h3, h4⟩ := hj
 rw [fillN_eq]
 unfold tb fillT
 rw [List.getD_eq_getElem?_getD, List.getElem?_map, List.getElem?_range (by omega)]
 simp only [Option.map_some, Option.getD_some]
 have e1 : (i.toNat * 11 + j.toNat) / 11 = i.toNat := by omega
 have e2 : (i.toNat * 11 + j.toNat) % 11 = j.toNat := by omega
 rw [e1, e2]
 by_cases hij : i = j
 ·rw [if_neg (by omega), if_pos (by omega)]
 ·rw [if_pos (by omega), if_neg (by omega)]
def bindT (om : Int → Bool) (L : List (Int × S153)) : List Int := L.foldl (fun T x => if om x.1 = true then T else sayT T x.2) fillT
def okL (L : List (Int × S153)) : Prop := ∀ x ∈ L, (0 ≤ x.2.f0 ∧ x.2.f0 < 11) ∧ 0 ≤ x.2.f1 ∧ x.2.f1 < 11
instance (L : List (Int × S153)) : Decidable (okL L) := by unfold okL; infer_instance
theorem ag_bind (om : Int → Bool) : ∀ (L : List (Int × S153)) (B : Int → Int → Int) (T : List Int), okL L → Ag B T → Ag (L.foldl (fun B x => if om x.1 = true then B else sayF B x.2) B) (L.foldl (fun T x => if om x.1 = true then T else sayT T x.2) T)
 | [], B, T, _, h => h
 | x :: L, B, T, ho, h => by
  rw [List.foldl_cons, List.foldl_cons]
  refine ag_bind om L _ _ (fun y hy => ho y (List.mem_cons_of_mem _ hy)) ?_
  split
  ·exact h
  ·have hx := ho x List.mem_cons_self
   exact h.say ⟨hx.1.1, hx.1.2⟩ ⟨hx.2.1, hx.2.2⟩
theorem tight_tab {om : Int → Bool} {L : List (Int × S153)} (ho : okL L) : AgO (tightenF (bindP om L)) (tightT (bindT om L)) := (ag_bind om L _ _ ho ag_fill).tight
theorem tight_some {om : Int → Bool} {L : List (Int × S153)} {T : List Int} (ho : okL L) (h : tightT (bindT om L) = some T) : ∃ B, tightenF (bindP om L) = some B ∧ Ag B T := by
 have := tight_tab (om := om) ho
 rw [h] at this
 cases hB : tightenF (bindP om L) with
 | none => rw [hB] at this; exact this.elim
 | some B => rw [hB] at this; exact ⟨B, rfl, this⟩
theorem tight_isSome {om : Int → Bool} {L : List (Int × S153)} (ho : okL L) : (tightenF (bindP om L)).isSome = (tightT (bindT om L)).isSome := by
 have := tight_tab (om := om) ho
 cases hB : tightenF (bindP om L) <;> cases hT : tightT (bindT om L) <;> rw [hB, hT] at this
 ·rfl
 ·exact this.elim
 ·exact this.elim
 ·rfl
end Go.Proofs.Ytbffhblebigcfaa.Sk
