/- The walk of skew.Wait: the reading until which a clock waits. -/
import Derived.Outline
import Derived.Test.YtobcecgcegoooaaCSrV4
import Derived.Test.YtobcecgcegoooaaCSrS0
import Derived.Test.YtobcecgcegoooaaCSrV1
import Derived.Test.YtobcecgcegoooaaCSrV0
namespace Go.Proofs.Ytobcecgcegoooaa.Sk
open Go.RowKit Go.Proofs.YtobcecgcegoooaaW.PrintWords Go.Proofs.YtobcecgcegoooaaW.PrintLast Go.Proofs.YtobcecgcegoooaaW.PrintMore
set_option linter.unusedVariables false
set_option linter.unusedSimpArgs false
theorem ev_idx2 (l : List Int) (v : Int) (hl : l.length ≤ 1000) : ∀ (d i : Nat), i + d = l.length → v ∈ l.drop i → Ev (fun k => slices_Index_int_int.l0 k l v (l.length : Int) (i : Int)) ((i + (l.drop i).idxOf v : Nat) : Int)
 | 0, i, h, hm => by rw [List.drop_of_length_le (by omega)] at hm; cases hm
 | d + 1, i, h, hm => by
  have hi : i < l.length := by omega
  have er : rd l (i : Int) = l[i] := by simp [rd, List.getD_eq_getElem?_getD, hi]
  rw [List.drop_eq_getElem_cons hi] at hm ⊢; rw [List.mem_cons] at hm
  by_cases c : v = rd l (i : Int)
  ·refine Ev.step (f := fun _ => some (i : Int)) (fun k => by simp only [slices_Index_int_int.l0]; rw [if_pos (by omega), if_pos (by omega), if_pos (by omega), if_pos c]) ?_
   have e : (l[i] :: l.drop (i + 1)).idxOf v = 0 := by rw [c, er]; exact List.idxOf_cons_self
   rw [e]; exact Ev.now _
  ·have hm := hm.resolve_left (fun e => c (by rw [er]; exact e)); have h1 := ev_idx2 l v hl d (i + 1) (by omega) hm; have e : (l[i] :: l.drop (i + 1)).idxOf v = (l.drop (i + 1)).idxOf v + 1 := idx_ne _ (fun e => c (by rw [er]; exact e.symm)); rw [e, show i + ((l.drop (i + 1)).idxOf v + 1) = i + 1 + (l.drop (i + 1)).idxOf v by omega]; refine Ev.step (fun k => ?_) h1; simp only [slices_Index_int_int.l0]; rw [if_pos (by omega), if_pos (by omega), if_pos (by omega), if_neg c, wrapS (by omega)]
theorem ev_Index (l : List Int) (v : Int) (hl : l.length ≤ 1000) (hm : v ∈ l) : Ev (fun k => slices_Index_int_int.f k l v) (l.idxOf v : Int) := by
 have h := ev_idx2 l v hl l.length 0 (by omega) (by rw [List.drop_zero]; exact hm); rw [List.drop_zero, Nat.zero_add] at h; exact h
theorem rdB_set (l : List Bool) (x v : Int) (x0 : 0 ≤ x) (x1 : x < l.length) (v0 : 0 ≤ v) : rdOf false (l.set x.toNat true) v = if v = x then true else rdOf false l v := by
 show (l.set x.toNat true).getD v.toNat false = _; rw [List.getD_eq_getElem?_getD, List.getElem?_set]
 by_cases c : v = x
 ·subst c; rw [if_pos rfl, if_pos rfl, if_pos (by omega)]; rfl
 ·rw [if_neg (by omega), if_neg c]; show _ = l.getD v.toNat false; rw [List.getD_eq_getElem?_getD]
theorem ev_isOrd (n : Nat) (l : List Int) (hl : l.length = n) (hn : n ≤ 1000) : ∀ (d i : Nat) (met : List Bool), i + d = n → met.length = n → (∀ v : Int, 0 ≤ v → v < n → rdOf false met v = decide (v ∈ l.take i)) → Ev (fun k => rf_IsOrder.l0 k l (n : Int) met (i : Int)) (ordB n (l.take i) (l.drop i))
 | 0, i, met, h, hml, hm => by
  rw [List.drop_of_length_le (by omega)]
  exact Ev.step (f := fun _ => some true) (fun k => by simp only [rf_IsOrder.l0]; rw [if_neg (by omega)]) (Ev.now _)
 | d + 1, i, met, h, hml, hm => by
  have hi : i < l.length := by omega
  have er : rd l (i : Int) = l[i] := by simp [rd, List.getD_eq_getElem?_getD, hi]
  rw [List.drop_eq_getElem_cons hi, ← er]
  obtain ⟨x, hx⟩ : ∃ x, rd l (i : Int) = x := ⟨_, rfl⟩
  have eo : ordB n (l.take i) (x :: l.drop (i + 1)) = if 0 ≤ x ∧ x < n ∧ x ∉ l.take i then ordB n (l.take i ++ [x]) (l.drop (i + 1)) else false := rfl
  rw [hx, eo]
  by_cases c0 : x < 0
  ·rw [if_neg (by omega)]; refine Ev.step (f := fun _ => some false) (fun k => ?_) (Ev.now _); simp only [rf_IsOrder.l0]; rw [hx, if_pos (by omega), if_pos (by omega), if_pos (by omega), if_pos c0]
  ·by_cases c1 : x ≥ n
   ·rw [if_neg (by omega)]; refine Ev.step (f := fun _ => some false) (fun k => ?_) (Ev.now _); simp only [rf_IsOrder.l0]; rw [hx, if_pos (by omega), if_pos (by omega), if_pos (by omega), if_neg c0, if_pos c1]
   ·have hmx := hm x (by omega) (by omega)
    by_cases c2 : x ∈ l.take i
    ·rw [if_neg (fun q => q.2.2 c2)]; rw [decide_eq_true c2] at hmx; refine Ev.step (f := fun _ => some false) (fun k => ?_) (Ev.now _); simp only [rf_IsOrder.l0]; rw [hx, if_pos (by omega), if_pos (by omega), if_pos (by omega), if_neg c0, if_neg c1, if_pos (by omega), if_pos (by omega), if_pos hmx]
    ·rw [if_pos ⟨by omega, by omega, c2⟩]; rw [decide_eq_false c2] at hmx
     have et : l.take (i + 1) = l.take i ++ [x] := by rw [List.take_succ_eq_append_getElem hi, ← er, hx]
     have ih := ev_isOrd n l hl hn d (i + 1) (met.set x.toNat true) (by omega) (by rw [List.length_set]; exact hml) (fun v v0 v1 => by
      rw [rdB_set met x v (by omega) (by omega) v0, et]
      by_cases cv : v = x
      ·rw [if_pos cv]; symm; exact decide_eq_true (List.mem_append.mpr (.inr (List.mem_singleton.mpr cv)))
      ·rw [if_neg cv, hm v v0 v1]; refine decide_eq_decide.mpr ⟨fun q => List.mem_append.mpr (.inl q), fun q => ?_⟩
       rcases List.mem_append.mp q with q | q
       ·exact q
       ·exact absurd (List.mem_singleton.mp q) cv)
     rw [et] at ih; refine Ev.step (fun k => ?_) ih; simp only [rf_IsOrder.l0]; rw [hx, if_pos (by omega), if_pos (by omega), if_pos (by omega), if_neg c0, if_neg c1, if_pos (by omega), if_pos (by omega), if_neg (by rw [hmx]; simp), wrapS (by omega)]
theorem ev_IsOrder (n : Nat) (l : List Int) (hn : n ≤ 1000) : Ev (fun k => rf_IsOrder.f k l (n : Int)) (isOrdB n l) := by
 unfold isOrdB
 by_cases c : l.length = n
 ·rw [decide_eq_true c, Bool.true_and]
  have h := ev_isOrd n l c hn n 0 (List.replicate n false) (by omega) (by simp) (fun v v0 v1 => by
   show (List.replicate n false).getD v.toNat false = _; rw [List.getD_eq_getElem?_getD, List.getElem?_replicate, if_pos (by omega)]
   simp)
  rw [List.drop_zero, List.take_zero] at h; refine Ev.congr (fun k => ?_) h; unfold rf_IsOrder.f; rw [if_pos (by omega), if_pos (by omega), if_pos (by omega)]
  simp
 ·rw [decide_eq_false c, Bool.false_and]; exact Ev.congr (f := fun _ => some false) (fun k => if_neg (by omega)) (Ev.now _)
end Go.Proofs.Ytobcecgcegoooaa.Sk
namespace Go.Proofs.Ytobcecgcegoooaa.Sk
open Go.RowKit Go.Shelf Go.Proofs.YtobcecgcegoooaaW.PrintWords Go.Proofs.YtobcecgcegoooaaW.PrintLast Go.Proofs.YtobcecgcegoooaaW.PrintMore
set_option linter.unusedVariables false
set_option linter.unusedSimpArgs false
def tb (T : List Int) (i j : Int) : Int := T.getD (i.toNat * 11 + j.toNat) 0
def inR (i : Int) : Prop := 0 ≤ i ∧ i < 11
structure Ag (B : Int → Int → Int) (T : List Int) : Prop where
 len : T.length = 121
 eq : ∀ i j, inR i → inR j → B i j = tb T i j
def tset (T : List Int) (i j x : Int) : List Int := T.set (i.toNat * 11 + j.toNat) x
theorem Ag.set {B : Int → Int → Int} {T : List Int} (h : Ag B T) {i j x : Int} (hi : inR i) (hj : inR j) : Ag (set2 B i j x) (tset T i j x) := by
 refine ⟨by unfold tset; rw [List.length_set]; exact h.len, fun a c ha hc => ?_⟩; obtain ⟨h1, h2⟩ := hi; obtain ⟨h3, h4⟩ := hj; obtain ⟨h5, h6⟩ := ha; obtain ⟨h7, h8⟩ := hc; have hlen := h.len; unfold set2 tb tset; rw [List.getD_eq_getElem?_getD, List.getElem?_set]
 by_cases hac : a = i ∧ c = j
 ·obtain ⟨rfl, rfl⟩ := hac; rw [if_pos ⟨rfl, rfl⟩, if_pos rfl, if_pos (by omega)]; rfl
 ·rw [if_neg hac, if_neg (by omega), h.eq a c ⟨h5, h6⟩ ⟨h7, h8⟩]; unfold tb; rw [List.getD_eq_getElem?_getD]
def sayT (T : List Int) (f : S158) : List Int :=
 let T1 := tset T f.f0 f.f1 (mn (tb T f.f0 f.f1) f.f3)
 tset T1 f.f1 f.f0 (mn (tb T1 f.f1 f.f0) (wrap64 (-f.f2)))
theorem Ag.say {B : Int → Int → Int} {T : List Int} (h : Ag B T) {f : S158} (hi : inR f.f0) (hj : inR f.f1) : Ag (sayF B f) (sayT T f) := by
 unfold sayF sayT; simp only; have h1 := h.set (x := mn (B f.f0 f.f1) f.f3) hi hj; rw [h.eq _ _ hi hj] at h1 ⊢; have h2 := h1.set (x := mn (set2 B f.f0 f.f1 (mn (tb T f.f0 f.f1) f.f3) f.f1 f.f0) (wrap64 (-f.f2))) hj hi; rw [h1.eq _ _ hj hi] at h2; rw [h1.eq _ _ hj hi]; exact h2
def stepJT (k i j : Int) (T : List Int) : List Int := if tb T k j = FREE then T else tset T i j (mn (tb T i j) (wrap64 (tb T i k + tb T k j)))
theorem Ag.stepJ {B : Int → Int → Int} {T : List Int} (h : Ag B T) {k i j : Int} (hk : inR k) (hi : inR i) (hj : inR j) : Ag (stepJ k i j B) (stepJT k i j T) := by
 unfold Sk.stepJ stepJT; rw [h.eq k j hk hj, h.eq i j hi hj, h.eq i k hi hk]
 split
 ·exact h
 ·exact h.set hi hj
def jT (k i : Int) (T : List Int) : Nat → List Int
 | 0 => T
 | n + 1 => stepJT k i n (jT k i T n)
theorem Ag.jN {B : Int → Int → Int} {T : List Int} (h : Ag B T) {k i : Int} (hk : inR k) (hi : inR i) : ∀ n, n ≤ 11 → Ag (jN k i B n) (jT k i T n)
 | 0, _ => h
 | n + 1, hn => (Ag.jN h hk hi n (by omega)).stepJ hk hi ⟨by omega, by omega⟩
def stepIT (k i : Int) (T : List Int) : Option (List Int) := if tb T i k = FREE then some T else if tb (jT k i T 11) i i < 0 then none else some (jT k i T 11)
def AgO : Option (Int → Int → Int) → Option (List Int) → Prop
 | some B, some T => Ag B T
 | none, none => True
 | _, _ => False
theorem ite_ago {p q : Prop} [Decidable p] [Decidable q] {B C : Int → Int → Int} {T U : List Int} (h : Ag B T) (h1 : Ag C U) : AgO (if p then some B else if q then none else some C) (if p then some T else if q then none else some U) := by
 by_cases hf : p
 ·rw [if_pos hf, if_pos hf]; exact h
 ·rw [if_neg hf, if_neg hf]
  by_cases hn : q
  ·rw [if_pos hn, if_pos hn]; trivial
  ·rw [if_neg hn, if_neg hn]; exact h1
theorem Ag.stepI {B : Int → Int → Int} {T : List Int} (h : Ag B T) {k i : Int} (hk : inR k) (hi : inR i) : AgO (stepI k i B) (stepIT k i T) := by
 unfold Sk.stepI stepIT; have h1 := h.jN hk hi 11 (by omega); rw [h.eq i k hi hk, h1.eq i i hi hi]; exact ite_ago h h1
def iT (k : Int) (T : List Int) : Nat → Option (List Int)
 | 0 => some T
 | n + 1 => (iT k T n).bind (stepIT k n)
theorem AgO.bind {o : Option (Int → Int → Int)} {p : Option (List Int)} (h : AgO o p) {f : (Int → Int → Int) → Option (Int → Int → Int)} {g : List Int → Option (List Int)} (hf : ∀ B T, Ag B T → AgO (f B) (g T)) : AgO (o.bind f) (p.bind g) := by
 cases o with
 | none => cases p with
  | none => trivial
  | some T => exact h.elim
 | some B => cases p with
  | none => exact h.elim
  | some T => exact hf B T h
theorem Ag.iN {B : Int → Int → Int} {T : List Int} (h : Ag B T) {k : Int} (hk : inR k) : ∀ n, n ≤ 11 → AgO (iN k B n) (iT k T n)
 | 0, _ => h
 | n + 1, hn => (Ag.iN h hk n (by omega)).bind fun B T hb => hb.stepI hk ⟨by omega, by omega⟩
def kT (T : List Int) : Nat → Option (List Int)
 | 0 => some T
 | n + 1 => (kT T n).bind fun T => iT n T 11
theorem Ag.kN {B : Int → Int → Int} {T : List Int} (h : Ag B T) : ∀ n, n ≤ 11 → AgO (kN B n) (kT T n)
 | 0, _ => h
 | n + 1, hn => (Ag.kN h n (by omega)).bind fun B T hb => hb.iN ⟨by omega, by omega⟩ 11 (by omega)
def tightT (T : List Int) : Option (List Int) := kT T 11
theorem Ag.tight {B : Int → Int → Int} {T : List Int} (h : Ag B T) : AgO (tightenF B) (tightT T) := h.kN 11 (by omega)
def fillT : List Int := (List.range 121).map fun n => if n / 11 = n % 11 then 0 else FREE
theorem rowN_eq (i : Int) (B : Int → Int → Int) (n : Nat) (a c : Int) : rowN i B n a c = if a = i ∧ 0 ≤ c ∧ c < n ∧ c ≠ i then FREE else B a c := by
 induction n with
 | zero => rw [if_neg (by omega)]; rfl
 | succ n ih =>
  show (if i = (n : Int) then rowN i B n else set2 (rowN i B n) i n FREE) a c = _
  by_cases hin : i = (n : Int)
  ·rw [if_pos hin, ih]
   by_cases h1 : a = i ∧ 0 ≤ c ∧ c < n ∧ c ≠ i
   ·rw [if_pos h1, if_pos (by omega)]
   ·rw [if_neg h1, if_neg (by omega)]
  ·rw [if_neg hin]; unfold set2
   by_cases h2 : a = i ∧ c = (n : Int)
   ·rw [if_pos h2, if_pos (by omega)]
   ·rw [if_neg h2, ih]
    by_cases h1 : a = i ∧ 0 ≤ c ∧ c < n ∧ c ≠ i
    ·rw [if_pos h1, if_pos (by omega)]
    ·rw [if_neg h1, if_neg (by omega)]
theorem fillN_eq (n : Nat) (a c : Int) : fillN n a c = if 0 ≤ a ∧ a < n ∧ 0 ≤ c ∧ c < 11 ∧ c ≠ a then FREE else 0 := by
 induction n with
 | zero => rw [if_neg (by omega)]; rfl
 | succ n ih =>
  show rowN n (fillN n) 11 a c = _; rw [rowN_eq, ih]
  by_cases h1 : a = (n : Int) ∧ 0 ≤ c ∧ c < (11 : Nat) ∧ c ≠ (n : Int)
  ·rw [if_pos h1, if_pos (by omega)]
  ·rw [if_neg h1]
   by_cases h2 : 0 ≤ a ∧ a < n ∧ 0 ≤ c ∧ c < 11 ∧ c ≠ a
   ·rw [if_pos h2, if_pos (by omega)]
   ·rw [if_neg h2, if_neg (by omega)]
theorem ag_fill : Ag (fillN 11) fillT := by
 refine ⟨by unfold fillT; simp, fun i j hi hj => ?_⟩; obtain ⟨h1, h2⟩ := hi; obtain ⟨h3, h4⟩ := hj; rw [fillN_eq]; unfold tb fillT; rw [List.getD_eq_getElem?_getD, List.getElem?_map, List.getElem?_range (by omega)]; simp only [Option.map_some, Option.getD_some]
 have e1 : (i.toNat * 11 + j.toNat) / 11 = i.toNat := by omega
 have e2 : (i.toNat * 11 + j.toNat) % 11 = j.toNat := by omega
 rw [e1, e2]
 by_cases hij : i = j
 ·rw [if_neg (by omega), if_pos (by omega)]
 ·rw [if_pos (by omega), if_neg (by omega)]
def bindT (om : Int → Bool) (L : List (Int × S158)) : List Int := L.foldl (fun T x => if om x.1 = true then T else sayT T x.2) fillT
def okL (L : List (Int × S158)) : Prop := ∀ x ∈ L, (0 ≤ x.2.f0 ∧ x.2.f0 < 11) ∧ 0 ≤ x.2.f1 ∧ x.2.f1 < 11
instance (L : List (Int × S158)) : Decidable (okL L) := by unfold okL; infer_instance
theorem ag_bind (om : Int → Bool) : ∀ (L : List (Int × S158)) (B : Int → Int → Int) (T : List Int), okL L → Ag B T → Ag (L.foldl (fun B x => if om x.1 = true then B else sayF B x.2) B) (L.foldl (fun T x => if om x.1 = true then T else sayT T x.2) T)
 | [], B, T, _, h => h
 | x :: L, B, T, ho, h => by
  rw [List.foldl_cons, List.foldl_cons]; refine ag_bind om L _ _ (fun y hy => ho y (List.mem_cons_of_mem _ hy)) ?_
  split
  ·exact h
  ·have hx := ho x List.mem_cons_self; exact h.say ⟨hx.1.1, hx.1.2⟩ ⟨hx.2.1, hx.2.2⟩
theorem tight_tab {om : Int → Bool} {L : List (Int × S158)} (ho : okL L) : AgO (tightenF (bindP om L)) (tightT (bindT om L)) := (ag_bind om L _ _ ho ag_fill).tight
theorem tight_some {om : Int → Bool} {L : List (Int × S158)} {T : List Int} (ho : okL L) (h : tightT (bindT om L) = some T) : ∃ B, tightenF (bindP om L) = some B ∧ Ag B T := by
 have := tight_tab (om := om) ho; rw [h] at this
 cases hB : tightenF (bindP om L) with
 | none => rw [hB] at this; exact this.elim
 | some B => rw [hB] at this; exact ⟨B, rfl, this⟩
theorem tight_isSome {om : Int → Bool} {L : List (Int × S158)} (ho : okL L) : (tightenF (bindP om L)).isSome = (tightT (bindT om L)).isSome := by
 have := tight_tab (om := om) ho; cases hB : tightenF (bindP om L) <;> cases hT : tightT (bindT om L) <;> rw [hB, hT] at this
 ·rfl
 ·exact this.elim
 ·exact this.elim
 ·rfl
end Go.Proofs.Ytobcecgcegoooaa.Sk
namespace Go.Proofs.Ytobcecgcegoooaa.Sk
open Go.RowKit Go.Proofs.YtobcecgcegoooaaW.PrintWords Go.Proofs.YtobcecgcegoooaaW.PrintLast Go.Proofs.YtobcecgcegoooaaW.PrintMore
set_option linter.unusedVariables false
set_option linter.unusedSimpArgs false
def lowOf (a0 a1 a2 c : Int) : Int := if a2 > 0 then c - (a1 + (c - a0 + a2 - 1) / a2) else c - a1
def highOf (a0 a1 a2 c : Int) : Int := if a2 > 0 then c + (a1 + (c - a0 + a2 - 1) / a2) else c + a1
theorem of_low (a0 a1 a2 c : Int) (h0 : 0 ≤ a0) (h1 : 0 ≤ a1) (h2 : 0 ≤ a2) (g1 : a1 ≤ 1000) (g2 : a2 ≤ 100000) (hc : a0 ≤ c) (gc : c ≤ 100000) :
  skew_of.f a0 a1 a2 c = some (lowOf a0 a1 a2 c, highOf a0 a1 a2 c) := by
 unfold skew_of.f lowOf highOf
 by_cases h : a2 > 0
 ·rw [if_pos h, if_neg (by omega), if_pos h, if_pos h]
  have e1 : wrap64 (c - a0) = c - a0 := by unfold wrap64; omega
  have e2 : wrap64 (c - a0 + a2) = c - a0 + a2 := by unfold wrap64; omega
  have e3 : wrap64 (c - a0 + a2 - 1) = c - a0 + a2 - 1 := by unfold wrap64; omega
  rw [e1, e2, e3, Int.tdiv_eq_ediv_of_nonneg (by omega)]; have b1 : 0 ≤ (c - a0 + a2 - 1) / a2 := Int.ediv_nonneg (by omega) (by omega); have b2 : (c - a0 + a2 - 1) / a2 ≤ c - a0 + a2 - 1 := Int.ediv_le_self _ (by omega); generalize (c - a0 + a2 - 1) / a2 = q at b1 b2 ⊢
  have e4 : wrap64 q = q := by unfold wrap64; omega
  have e5 : wrap64 (a1 + q) = a1 + q := by unfold wrap64; omega
  rw [e4, e5]
  have e6 : wrap64 (c - (a1 + q)) = c - (a1 + q) := by unfold wrap64; omega
  have e7 : wrap64 (c + (a1 + q)) = c + (a1 + q) := by unfold wrap64; omega
  rw [e6, e7]
 ·rw [if_neg h, if_neg h, if_neg h]
  have e6 : wrap64 (c - a1) = c - a1 := by unfold wrap64; omega
  have e7 : wrap64 (c + a1) = c + a1 := by unfold wrap64; omega
  rw [e6, e7]
set_option maxHeartbeats 1000000 in
set_option maxRecDepth 100000 in
theorem wait1_calls (a0 a1 a2 rd0 un i lo hi : Int) (b1 b2 b3 : Nat) (w : World) (h1 : w.heap[b1]? = some (.cells #[.int .i64 a0, .int .i64 a1, .int .i64 a2] 23 (0, 0)))
  (h2 : w.heap[b2]? = some (.cells #[.int .i64 rd0] 3 (0, 0))) (h3 : w.heap[b3]? = some (.cells #[.int .i64 un] 3 (0, 0)))
  (hr0 : 0 ≤ rd0) (hi0 : 0 ≤ i) (hri : rd0 + i ≤ 100000) (ho : skew_of.f a0 a1 a2 (rd0 + i) = some (lo, hi)) :
  Calls Try.prog 70 #[.int .i64 i, .pointer (some ⟨b1, 0, none⟩), .pointer (some ⟨b2, 0, none⟩), .pointer (some ⟨b3, 0, none⟩)] w fun e w' => e = .returned (.bool (decide (un < lo))) ∧ Below w.heap.size w w' := by
 have hu23 := Try.underlying23
 have hfd : ∀ (x0 x1 : Int) (W : World), (Instr.field 27 (.agg #[.int .i64 x0, .int .i64 x1]) 0).run Try.prog W = .ok (.int .i64 x0) W := fun _ _ _ => by kernel_rfl
 have c0 := cell_at h1 0 (.int .i64 a0) rfl; have c1 := cell_at h1 1 (.int .i64 a1) rfl; have c2 := cell_at h1 2 (.int .i64 a2) rfl; have d0 := cell_at h2 0 (.int .i64 rd0) rfl; have e0 := cell_at h3 0 (.int .i64 un) rfl; have HO := Aa ho; have HW := Aa (Below.refl w.heap.size w); clear ho; have es : IntKind.i64.wrap (rd0 + i) = rd0 + i := IntWalk.i64_in _ (by omega)
 go_enter Try.func70, Try.ntmps70
 go_wp2_with fail
 go_region_held3 (fun W => Below w.heap.size w W ∧ W.cell? ⟨b1, 0, none⟩ = some (.int .i64 a0) ∧ W.cell? ⟨b1, 1, none⟩ = some (.int .i64 a1) ∧ W.cell? ⟨b1, 2, none⟩ = some (.int .i64 a2) ∧ W.cell? ⟨b2, 0, none⟩ = some (.int .i64 rd0) ∧ W.cell? ⟨b3, 0, none⟩ = some (.int .i64 un))
  (first | (with_reducible (refine ⟨Dn HW.out, ?_, ?_, ?_, ?_, ?_⟩)) <;> (apply cell_drew; with_reducible assumption) | (go_split_ands; (with_reducible refine ⟨Bp (by assumption) hb, ?_, ?_, ?_, ?_, ?_⟩) <;> (apply pw_cell_below hb; with_reducible assumption)))
  (first | (go_at_call 67; ((with_reducible refine (skew_of.calls a0 a1 a2 (rd0 + i) lo hi _ HO.out).mono ?_)); rintro e w' ⟨rfl, hb⟩))
 go_wp2; go_ret
 rename_i hS
 exact ⟨rfl, hS.1⟩
def bsr (p : Int → Bool) : Nat → Int → Int → Int
 | 0, i, _ => i
 | k + 1, i, j => if i < j then (if p ((i + j) / 2) then bsr p k i ((i + j) / 2) else bsr p k ((i + j) / 2 + 1) j) else i
set_option maxHeartbeats 1000000 in
set_option maxRecDepth 100000 in
theorem search_calls (n : Int) (w : World) (cap : Array Value) (p : Int → Bool) (hn0 : 0 ≤ n) (hn : n ≤ 1000000) (Inv : World → Prop) (hI : Inv w)
  (hp : ∀ (i : Int) (W : World), Inv W → 0 ≤ i → i < n → Calls Try.prog 70 (#[.int .i64 i] ++ cap) W fun e w' => e = .returned (.bool (p i)) ∧ Inv w') :
  Calls Try.prog 69 #[.int .i64 n, .func (.func 70) #[] cap] w fun e w' => e = .returned (.int .i64 (bsr p n.toNat 0 n)) ∧ Inv w' := by
 have HP := Aa hp; have HI := Aa hI; clear hp hI
 go_enter Try.func69, Try.ntmps69
 go_wp2
 go_loopw [5, 6, 7] (fun a b _ W => ∃ (i j : Int) (k : Nat), 0 ≤ i ∧ i ≤ j ∧ j ≤ n ∧ a = .int .i64 i ∧ b = .int .i64 j ∧ Aside0 ((j - i).toNat ≤ k) ∧ Aside0 (bsr p k i j = bsr p n.toNat 0 n) ∧ Aside0 (Inv W)) (fun a b _ _ => (intOf b - intOf a).toNat)
 case atStart => exact ⟨0, n, n.toNat, by omega, by omega, by omega, rfl, rfl, ⟨by omega⟩, ⟨rfl⟩, HI⟩
 case round =>
  obtain ⟨i, j, k, h0, h1, h2, rfl, rfl, HK, HR, HI⟩ := hrel
  by_cases hlt : i < j
  ·obtain ⟨b, hb⟩ : ∃ b, p ((i + j) / 2) = b := ⟨_, rfl⟩
   have hc := fun W hW => HP.out ((i + j) / 2) W hW (by omega) (by omega)
   rw [hb] at hc; have HC := Aa hc; have HG := Aa hb; clear hc hb
   obtain ⟨k, rfl⟩ : ∃ m, k = m + 1 := ⟨k - 1, by have := HK.out; omega⟩
   have hR := HR.out; simp only [bsr, if_pos hlt] at hR; clear HR; cases b
   ·rw [if_neg (by rw [HG.out]; simp)] at hR; have HR := Aa hR; clear hR
    go_wp2_with (go_at_call 70; refine (HC.out _ HI.out).mono ?_; rintro e w' ⟨rfl, hb⟩)
    go_roundw
    case rel => exact ⟨(i + j) / 2 + 1, j, k, by omega, by omega, by omega, rfl, rfl, ⟨by have := HK.out; omega⟩, HR, ⟨hb⟩⟩
    case measure => simp [intOf]; omega
   ·rw [if_pos HG.out] at hR; have HR := Aa hR; clear hR
    go_wp2_with (go_at_call 70; refine (HC.out _ HI.out).mono ?_; rintro e w' ⟨rfl, hb⟩)
    go_roundw
    case rel => exact ⟨i, (i + j) / 2, k, by omega, by omega, by omega, rfl, rfl, ⟨by have := HK.out; omega⟩, HR, ⟨hb⟩⟩
    case measure => simp [intOf]; omega
  ·have hR : i = bsr p n.toNat 0 n := by
    rw [← HR.out]; cases k with
    | zero => rfl
    | succ k => simp only [bsr]; rw [if_neg hlt]
   have HR := Aa hR; clear hR; go_wp2; go_ret; exact ⟨by rw [← HR.out]; rfl, HI.out⟩
def readsB (a0 a1 a2 c : Int) : Bool := (decide (0 ≤ a0) && decide (a0 ≤ 100000)) && ((decide (0 ≤ a1) && decide (a1 ≤ 1000)) && ((decide (0 ≤ a2) && decide (a2 ≤ 100000)) && (decide (a0 ≤ c) && decide (c ≤ 100000))))
theorem within_b (n l h : Int) : skew_within.f n l h = some (decide (l ≤ n) && decide (n ≤ h)) := by
 unfold skew_within.f; by_cases c : n ≥ l <;> simp [c] <;> omega
theorem reads_b (a0 a1 a2 c : Int) : skew_reads.f a0 a1 a2 c = some (readsB a0 a1 a2 c) := by
 unfold skew_reads.f readsB; simp only [within_b, Option.bind_some]; cases (decide (0 ≤ a0) && decide (a0 ≤ 100000)) <;> cases (decide (0 ≤ a1) && decide (a1 ≤ 1000)) <;> cases (decide (0 ≤ a2) && decide (a2 ≤ 100000)) <;> simp
def skew_Wait.f (a0_0 a0_1 a0_2 a1 a2 : Int) : Option (Int × Int) :=
 if readsB a0_0 a0_1 a0_2 a1 = true then
  if (decide (-1000000 ≤ a2) && decide (a2 ≤ 1000000)) = true then
   if a1 + bsr (fun i => decide (a2 < lowOf a0_0 a0_1 a0_2 (a1 + i))) (100001 - a1).toNat 0 (100001 - a1) > 100000 then some (0, 5)
   else some (a1 + bsr (fun i => decide (a2 < lowOf a0_0 a0_1 a0_2 (a1 + i))) (100001 - a1).toNat 0 (100001 - a1), 0)
  else some (0, 2)
 else some (0, 2)
theorem bsr_range (p : Int → Bool) : ∀ (k : Nat) (i j : Int), i ≤ j → i ≤ bsr p k i j ∧ bsr p k i j ≤ j
 | 0, i, j, h => ⟨Int.le_refl _, h⟩
 | k + 1, i, j, h => by
  simp only [bsr]
  split
  ·split
   ·have := bsr_range p k i ((i + j) / 2) (by omega); omega
   ·have := bsr_range p k ((i + j) / 2 + 1) j (by omega); omega
  ·omega
structure WaitInv (a0 a1 a2 rd0 un : Int) (b1 b2 b3 : Nat) (w W : World) : Prop where
 h1 : W.heap[b1]? = some (.cells #[.int .i64 a0, .int .i64 a1, .int .i64 a2] 23 (0, 0))
 h2 : W.heap[b2]? = some (.cells #[.int .i64 rd0] 3 (0, 0))
 h3 : W.heap[b3]? = some (.cells #[.int .i64 un] 3 (0, 0))
 hb : Below w.heap.size w W
theorem WaitInv.start (a0 a1 a2 rd0 un : Int) (w : World) : WaitInv a0 a1 a2 rd0 un w.heap.size (w.heap.size + 1) (w.heap.size + 1 + 1) w
  (((w.alloc (.cells #[.int .i64 a0, .int .i64 a1, .int .i64 a2] 23)).alloc (.cells #[.int .i64 rd0] 3)).alloc (.cells #[.int .i64 un] 3)) :=
 ⟨Ka (Ka (blk_new _ _) _) _, Ka (by have := blk_new (w.alloc (.cells #[.int .i64 a0, .int .i64 a1, .int .i64 a2] 23)) (.cells #[.int .i64 rd0] 3); rwa [World.size_alloc] at this) _,
  by have := blk_new ((w.alloc (.cells #[.int .i64 a0, .int .i64 a1, .int .i64 a2] 23)).alloc (.cells #[.int .i64 rd0] 3)) (.cells #[.int .i64 un] 3); rwa [World.size_alloc, World.size_alloc] at this,
  Ba (Ba (Ba (Below.refl _ _) _) _) _⟩
theorem WaitInv.step {a0 a1 a2 rd0 un : Int} {b1 b2 b3 : Nat} {w W W' : World} (h : WaitInv a0 a1 a2 rd0 un b1 b2 b3 w W) (hb : Below W.heap.size W W') : WaitInv a0 a1 a2 rd0 un b1 b2 b3 w W' :=
 ⟨blk_below h.h1 hb, blk_below h.h2 hb, blk_below h.h3 hb, Bp h.hb hb⟩
theorem WaitInv.drew {a0 a1 a2 rd0 un : Int} {b1 b2 b3 : Nat} {w W : World} (h : WaitInv a0 a1 a2 rd0 un b1 b2 b3 w W) : WaitInv a0 a1 a2 rd0 un b1 b2 b3 w W.drew := ⟨h.h1, h.h2, h.h3, Dn h.hb⟩
theorem WaitInv.drewN {a0 a1 a2 rd0 un : Int} {b1 b2 b3 : Nat} {w W : World} (h : WaitInv a0 a1 a2 rd0 un b1 b2 b3 w W) (n : Nat) : WaitInv a0 a1 a2 rd0 un b1 b2 b3 w (W.drewN n) := ⟨h.h1, h.h2, h.h3, Pn h.hb n⟩
theorem wait_search (a0 a1 a2 rd0 un R : Int) (b1 b2 b3 : Nat) (w W : World) (g1 : 0 ≤ a0) (g2 : a0 ≤ 100000) (g3 : 0 ≤ a1) (g4 : a1 ≤ 1000) (g5 : 0 ≤ a2) (g6 : a2 ≤ 100000) (g7 : a0 ≤ rd0) (g8 : rd0 ≤ 100000)
  (hR : bsr (fun i => decide (un < lowOf a0 a1 a2 (rd0 + i))) (100001 - rd0).toNat 0 (100001 - rd0) = R) (hI : WaitInv a0 a1 a2 rd0 un b1 b2 b3 w W) :
  Calls Try.prog 69 #[.int .i64 (100001 - rd0), .func (.func 70) #[] #[.pointer (some ⟨b1, 0, none⟩), .pointer (some ⟨b2, 0, none⟩), .pointer (some ⟨b3, 0, none⟩)]] W fun e W' => e = .returned (.int .i64 R) ∧ WaitInv a0 a1 a2 rd0 un b1 b2 b3 w W' := by
 refine (search_calls (100001 - rd0) W _ (fun i => decide (un < lowOf a0 a1 a2 (rd0 + i))) (by omega) (by omega) (WaitInv a0 a1 a2 rd0 un b1 b2 b3 w) hI ?_).mono ?_
 ·intro i W hW h0 h1; refine (wait1_calls a0 a1 a2 rd0 un i _ _ b1 b2 b3 W hW.h1 hW.h2 hW.h3 (by omega) h0 (by omega) (of_low a0 a1 a2 (rd0 + i) g1 g3 g5 g4 g6 (by omega) (by omega))).mono ?_; rintro e w' ⟨rfl, hb⟩; exact ⟨rfl, hW.step hb⟩
 ·rintro e w' ⟨rfl, hb⟩; exact ⟨by rw [hR], hb⟩
set_option maxHeartbeats 2000000 in
set_option maxRecDepth 100000 in
theorem skew_Wait.calls (a0_0 a0_1 a0_2 a1 a2 r1 r2 : Int) (w : World) (h : skew_Wait.f a0_0 a0_1 a0_2 a1 a2 = some (r1, r2)) :
  Calls Try.prog 16 #[.agg #[.int .i64 a0_0, .int .i64 a0_1, .int .i64 a0_2], .int .i64 a1, .int .i64 a2] w fun e w' => e = .returned (.tuple #[.int .i64 r1, .int .i64 r2]) ∧ Below w.heap.size w w' := by
 have hu23 := Try.underlying23; unfold skew_Wait.f at h; have hrd := reads_b a0_0 a0_1 a0_2 a1
 obtain ⟨b, hb⟩ : ∃ b, readsB a0_0 a0_1 a0_2 a1 = b := ⟨_, rfl⟩
 rw [hb] at h hrd; have HR := Aa hrd; have HS := Aa (WaitInv.start a0_0 a0_1 a0_2 a1 a2 w); clear hrd; cases b
 ·rw [if_neg (by simp)] at h; simp only [Option.some.injEq, Prod.mk.injEq] at h; obtain ⟨rfl, rfl⟩ := h; clear hb
  go_enter Try.func16, Try.ntmps16
  go_wp2_with (go_at_call 66; refine (skew_reads.calls _ _ _ _ _ _ HR.out).mono ?_; rintro e w' ⟨rfl, hb⟩)
  go_ret2; exact ⟨rfl, (HS.out.step hb).hb⟩
 ·rw [if_pos rfl] at h; have hwi := within_b a2 (-1000000) 1000000
  obtain ⟨c, hc⟩ : ∃ c, (decide (-1000000 ≤ a2) && decide (a2 ≤ 1000000)) = c := ⟨_, rfl⟩
  rw [hc] at h hwi; have HW := Aa hwi; clear hwi; cases c
  ·rw [if_neg (by simp)] at h; simp only [Option.some.injEq, Prod.mk.injEq] at h; obtain ⟨rfl, rfl⟩ := h; clear hb hc
   go_enter Try.func16, Try.ntmps16
   go_wp2_with fail
   refine (skew_reads.calls _ _ _ _ _ _ HR.out).mono ?_; rintro e w1 ⟨rfl, hb⟩; have HI := Aa (HS.out.step hb); clear HS hb; have c3 := cell_at HI.out.h3 0 (.int .i64 a2) rfl
   go_wp2_with (go_at_call 68; refine (skew_within.calls _ _ _ _ _ HW.out).mono ?_; rintro e w2 ⟨rfl, ⟨nd, rfl⟩⟩)
   go_ret2; exact ⟨rfl, (HI.out.drewN nd).hb⟩
  ·rw [if_pos rfl] at h
   have hrb : 0 ≤ a0_0 ∧ a0_0 ≤ 100000 ∧ 0 ≤ a0_1 ∧ a0_1 ≤ 1000 ∧ 0 ≤ a0_2 ∧ a0_2 ≤ 100000 ∧ a0_0 ≤ a1 ∧ a1 ≤ 100000 := by
    simp only [readsB, Bool.and_eq_true, decide_eq_true_eq] at hb; omega
   obtain ⟨g1, g2, g3, g4, g5, g6, g7, g8⟩ := hrb; clear hb hc
   obtain ⟨R, hR⟩ : ∃ R, bsr (fun i => decide (a2 < lowOf a0_0 a0_1 a0_2 (a1 + i))) (100001 - a1).toNat 0 (100001 - a1) = R := ⟨_, rfl⟩
   have hRr := bsr_range (fun i => decide (a2 < lowOf a0_0 a0_1 a0_2 (a1 + i))) (100001 - a1).toNat 0 (100001 - a1) (by omega); rw [hR] at h hRr; have HRR := Aa hR; have H := Aa h; clear hR h; obtain ⟨k1, k2⟩ := hRr
   go_enter Try.func16, Try.ntmps16
   go_wp2_with fail
   refine (skew_reads.calls _ _ _ _ _ _ HR.out).mono ?_; rintro e w1 ⟨rfl, hb⟩; have HI := Aa (HS.out.step hb); clear HS hb; have c3 := cell_at HI.out.h3 0 (.int .i64 a2) rfl
   go_wp2_with (go_at_call 68; refine (skew_within.calls _ _ _ _ _ HW.out).mono ?_; rintro e w2 ⟨rfl, ⟨nd, rfl⟩⟩)
   have es1 : IntKind.i64.wrap (100001 - a1) = 100001 - a1 := IntWalk.i64_in _ (by omega); have es2 : IntKind.i64.wrap (a1 + R) = a1 + R := IntWalk.i64_in _ (by omega); have HI2 := Aa (HI.out.drewN nd); have c4 := cell_at HI2.out.h2 0 (.int .i64 a1) rfl
   go_region_held3 (fun W => WaitInv a0_0 a0_1 a0_2 a1 a2 w.heap.size (w.heap.size + 1) (w.heap.size + 1 + 1) w W ∧ W.cell? ⟨w.heap.size + 1, 0, none⟩ = some (.int .i64 a1))
    (first | exact ⟨HI2.out.drew, cell_drew (cell_at HI2.out.h2 0 _ rfl)⟩ | exact ⟨hb, cell_at hb.h2 0 _ rfl⟩)
    (first | (go_at_call 69; (with_reducible refine (wait_search a0_0 a0_1 a0_2 a1 a2 R _ _ _ w _ g1 g2 g3 g4 g5 g6 g7 g8 HRR.out ?_).mono ?_); (go_split_ands; assumption); rintro e w' ⟨rfl, hb⟩))
   rename_i hS
   have HI3 := Aa hS.1; clear hS; have hH := H.out; clear H
   by_cases hgt : a1 + R > 100000
   ·rw [if_pos hgt] at hH; simp only [Option.some.injEq, Prod.mk.injEq] at hH; obtain ⟨rfl, rfl⟩ := hH; go_wp2; go_ret2; exact ⟨rfl, HI3.out.hb⟩
   ·rw [if_neg hgt] at hH; simp only [Option.some.injEq, Prod.mk.injEq] at hH; obtain ⟨rfl, rfl⟩ := hH; go_wp2; go_ret2; exact ⟨rfl, HI3.out.hb⟩
end Go.Proofs.Ytobcecgcegoooaa.Sk
