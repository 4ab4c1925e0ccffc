/- The least times from lower bounds on: what the reference's rounds find. -/
import Derived.Test.YtbffhblebigcfaaCPrS0
import Derived.Test.YtbffhblebigcfaaCPrLVotes
namespace Go.Proofs.Ytbffhblebigcfaa.Sk
open Go.RowKit Go.Proofs.YtbffhblebigcfaaW.PrintWords Go.Proofs.YtbffhblebigcfaaW.PrintLast Go.Proofs.YtbffhblebigcfaaW.PrintMore
set_option linter.unusedVariables false
set_option linter.unusedSimpArgs false
theorem rd_set (xs : List Int) (k : Int) (j : Int) (v : Int) (h0 : 0 ≤ k) (hk : k < xs.length) (hj : 0 ≤ j) : rd (xs.set k.toNat v) j = if j = k then v else rd xs j := by
 unfold rd
 rw [List.getD_eq_getElem?_getD, List.getD_eq_getElem?_getD, List.getElem?_set]
 by_cases e : j = k
 ·subst e; rw [if_pos rfl, if_pos rfl, if_pos (by omega)]; rfl
 ·rw [if_neg (by omega), if_neg e]
structure GapIn (n : Nat) (g : S86) : Prop where
 a0 : 0 ≤ g.f0
 a1 : g.f0 < n
 b0 : 0 ≤ g.f1
 b1 : g.f1 < n
 ne : g.f0 ≠ g.f1
 le : g.f2 ≤ g.f3
 lo : -2000000 ≤ g.f2
 hi : g.f3 ≤ 2000000
def GapSat (g : S86) (t : Int → Int) : Prop := g.f2 ≤ t g.f1 - t g.f0 ∧ t g.f1 - t g.f0 ≤ g.f3
def relA (g : S86) (x : List Int) : List Int := if rd x g.f1 < rd x g.f0 + g.f2 then x.set g.f1.toNat (rd x g.f0 + g.f2) else x
def relB (g : S86) (x : List Int) : List Int := if rd x g.f0 < rd x g.f1 - g.f3 then x.set g.f0.toNat (rd x g.f1 - g.f3) else x
def chg (g : S86) (x : List Int) : Bool := decide (rd x g.f1 < rd x g.f0 + g.f2) || decide (rd (relA g x) g.f0 < rd (relA g x) g.f1 - g.f3)
def rel (s : List Int × Bool) (g : S86) : List Int × Bool := (relB g (relA g s.1), s.2 || chg g s.1)
def roundL (gaps : List S86) (x : List Int) : List Int × Bool := gaps.foldl rel (x, false)
def leastL (gaps : List S86) : Nat → List Int → Option (List Int)
 | 0, _ => none
 | n + 1, x => if (roundL gaps x).2 = true then leastL gaps n (roundL gaps x).1 else some (roundL gaps x).1
def leastR (gaps : List S86) (low : List Int) : List Int × Bool :=
 match leastL gaps (low.length + 1) low with
 | some x => (x, true)
 | none => ([], false)
section
variable {n : Nat} {g : S86} {x : List Int}
theorem relA_len : (relA g x).length = x.length := by unfold relA; split <;> simp
theorem relB_len : (relB g x).length = x.length := by unfold relB; split <;> simp
theorem relA_at (hg : GapIn n g) (hx : x.length = n) (j : Int) (hj : 0 ≤ j) : rd (relA g x) j = if j = g.f1 ∧ rd x g.f1 < rd x g.f0 + g.f2 then rd x g.f0 + g.f2 else rd x j := by
 unfold relA
 by_cases c : rd x g.f1 < rd x g.f0 + g.f2
 ·rw [if_pos c, rd_set _ _ _ _ hg.b0 (by have := hg.b1; omega) hj]
  by_cases e : j = g.f1
  ·rw [if_pos e, if_pos ⟨e, c⟩]
  ·rw [if_neg e, if_neg (fun h => e h.1)]
 ·rw [if_neg c, if_neg (fun h => c h.2)]
theorem relB_at (hg : GapIn n g) (hx : x.length = n) (j : Int) (hj : 0 ≤ j) : rd (relB g x) j = if j = g.f0 ∧ rd x g.f0 < rd x g.f1 - g.f3 then rd x g.f1 - g.f3 else rd x j := by
 unfold relB
 by_cases c : rd x g.f0 < rd x g.f1 - g.f3
 ·rw [if_pos c, rd_set _ _ _ _ hg.a0 (by have := hg.a1; omega) hj]
  by_cases e : j = g.f0
  ·rw [if_pos e, if_pos ⟨e, c⟩]
  ·rw [if_neg e, if_neg (fun h => e h.1)]
 ·rw [if_neg c, if_neg (fun h => c h.2)]
def LeAt (n : Nat) (x : List Int) (t : Int → Int) : Prop := ∀ j : Int, 0 ≤ j → j < n → rd x j ≤ t j
theorem relA_up (hg : GapIn n g) (hx : x.length = n) : LeAt n x (rd (relA g x)) := fun j h0 h1 => by
 rw [relA_at hg hx j h0]
 split
 ·rename_i c; obtain ⟨rfl, c⟩ := c; omega
 ·exact Int.le_refl _
theorem relB_up (hg : GapIn n g) (hx : x.length = n) : LeAt n x (rd (relB g x)) := fun j h0 h1 => by
 rw [relB_at hg hx j h0]
 split
 ·rename_i c; obtain ⟨rfl, c⟩ := c; omega
 ·exact Int.le_refl _
theorem rel_up (hg : GapIn n g) (hx : x.length = n) : LeAt n x (rd (relB g (relA g x))) := fun j h0 h1 =>
 Int.le_trans (relA_up hg hx j h0 h1) (relB_up hg (relA_len.trans hx) j h0 h1)
theorem rel_le (hg : GapIn n g) (hx : x.length = n) {t : Int → Int} (ht : GapSat g t) (hxt : LeAt n x t) : LeAt n (relB g (relA g x)) t := by
 have hA : LeAt n (relA g x) t := fun j h0 h1 => by
  rw [relA_at hg hx j h0]
  split
  ·rename_i c; obtain ⟨rfl, c⟩ := c
   have := hxt g.f0 hg.a0 hg.a1
   have := ht.1
   omega
  ·exact hxt j h0 h1
 intro j h0 h1
 rw [relB_at hg (relA_len.trans hx) j h0]
 split
 ·rename_i c; obtain ⟨rfl, c⟩ := c
  have := hA g.f1 hg.b0 hg.b1
  have := ht.2
  omega
 ·exact hA j h0 h1
theorem rel_A (hg : GapIn n g) (hx : x.length = n) : rd x g.f0 + g.f2 ≤ rd (relB g (relA g x)) g.f1 := by
 refine Int.le_trans ?_ (relB_up hg (relA_len.trans hx) g.f1 hg.b0 hg.b1)
 rw [relA_at hg hx _ hg.b0]
 split
 ·exact Int.le_refl _
 ·rename_i c
  have : ¬ rd x g.f1 < rd x g.f0 + g.f2 := fun h => c ⟨rfl, h⟩
  omega
theorem rel_B (hg : GapIn n g) (hx : x.length = n) : rd x g.f1 - g.f3 ≤ rd (relB g (relA g x)) g.f0 := by
 have h1 := relA_up hg hx g.f1 hg.b0 hg.b1
 rw [relB_at hg (relA_len.trans hx) _ hg.a0]
 split
 ·omega
 ·rename_i c
  have : ¬ rd (relA g x) g.f0 < rd (relA g x) g.f1 - g.f3 := fun h => c ⟨rfl, h⟩
  omega
theorem rel_none (h : chg g x = false) : relB g (relA g x) = x ∧ GapSat g (rd x) := by
 unfold chg at h
 rw [Bool.or_eq_false_iff] at h
 have h1 := of_decide_eq_false h.1
 have e : relA g x = x := if_neg h1
 have h2 := of_decide_eq_false h.2
 rw [e] at h2 ⊢
 exact ⟨if_neg h2, by omega, by omega⟩
theorem rel_some (hg : GapIn n g) (hx : x.length = n) (h : chg g x = true) : ¬ GapSat g (rd x) := by
 rintro ⟨h1, h2⟩
 have e : relA g x = x := if_neg (by omega)
 unfold chg at h
 rw [e, decide_eq_false (by omega), decide_eq_false (by omega)] at h
 cases h
end
section
variable {n : Nat}
theorem fold_len : ∀ (gaps : List S86) (s : List Int × Bool), (gaps.foldl rel s).1.length = s.1.length
 | [], s => rfl
 | g :: gaps, s => by rw [List.foldl_cons, fold_len gaps]; show (relB g (relA g s.1)).length = _; rw [relB_len, relA_len]
theorem fold_up : ∀ (gaps : List S86) (s : List Int × Bool), (∀ g ∈ gaps, GapIn n g) → s.1.length = n → LeAt n s.1 (rd (gaps.foldl rel s).1)
 | [], s, _, _ => fun j _ _ => Int.le_refl _
 | g :: gaps, s, hg, hs => fun j h0 h1 => by
  rw [List.foldl_cons]
  have a := rel_up (hg g List.mem_cons_self) hs j h0 h1
  have b := fold_up gaps (rel s g) (fun y hy => hg y (List.mem_cons_of_mem _ hy)) (by show (relB g (relA g s.1)).length = n; rw [relB_len, relA_len]; exact hs) j h0 h1
  exact Int.le_trans a b
theorem fold_le : ∀ (gaps : List S86) (s : List Int × Bool) {t : Int → Int}, (∀ g ∈ gaps, GapIn n g) → s.1.length = n → (∀ g ∈ gaps, GapSat g t) → LeAt n s.1 t → LeAt n (gaps.foldl rel s).1 t
 | [], s, t, _, _, _, h => h
 | g :: gaps, s, t, hg, hs, ht, h => by
  rw [List.foldl_cons]
  exact fold_le gaps (rel s g) (fun y hy => hg y (List.mem_cons_of_mem _ hy)) (by show (relB g (relA g s.1)).length = n; rw [relB_len, relA_len]; exact hs) (fun y hy => ht y (List.mem_cons_of_mem _ hy)) (rel_le (hg g List.mem_cons_self) hs (ht g List.mem_cons_self) h)
theorem fold_true : ∀ (gaps : List S86) (s : List Int × Bool), s.2 = true → (gaps.foldl rel s).2 = true
 | [], s, h => h
 | g :: gaps, s, h => by rw [List.foldl_cons]; exact fold_true gaps _ (by show (s.2 || _) = true; rw [h]; rfl)
theorem fold_false : ∀ (gaps : List S86) (s : List Int × Bool), (gaps.foldl rel s).2 = false → (gaps.foldl rel s).1 = s.1 ∧ ∀ g ∈ gaps, GapSat g (rd s.1)
 | [], s, h => ⟨rfl, fun g hg => by cases hg⟩
 | g :: gaps, s, h => by
  rw [List.foldl_cons] at h ⊢
  obtain ⟨a, b⟩ := fold_false gaps (rel s g) h
  have hc : chg g s.1 = false := by
   cases e : chg g s.1 with
   | false => rfl
   | true => rw [fold_true gaps (rel s g) (by show (s.2 || chg g s.1) = true; rw [e, Bool.or_true])] at h; cases h
  obtain ⟨c, d⟩ := rel_none hc
  have e : (rel s g).1 = s.1 := c
  rw [e] at a b
  refine ⟨a, fun y hy => ?_⟩
  rcases List.mem_cons.mp hy with rfl | hy
  ·exact d
  ·exact b y hy
theorem fold_still : ∀ (gaps : List S86) (s : List Int × Bool), (∀ g ∈ gaps, GapIn n g) → s.1.length = n → (∀ g ∈ gaps, GapSat g (rd s.1)) → gaps.foldl rel s = s
 | [], s, _, _, _ => rfl
 | g :: gaps, s, hg, hs, h => by
  rw [List.foldl_cons]
  have hc : chg g s.1 = false := by
   cases e : chg g s.1 with
   | false => rfl
   | true => exact absurd (h g List.mem_cons_self) (rel_some (hg g List.mem_cons_self) hs e)
  have e : rel s g = s := by
   show (relB g (relA g s.1), s.2 || chg g s.1) = s
   rw [(rel_none hc).1, hc, Bool.or_false]
  rw [e]
  exact fold_still gaps s (fun y hy => hg y (List.mem_cons_of_mem _ hy)) hs (fun y hy => h y (List.mem_cons_of_mem _ hy))
theorem fold_gap : ∀ (gaps : List S86) (s : List Int × Bool), (∀ g ∈ gaps, GapIn n g) → s.1.length = n → ∀ g ∈ gaps, rd s.1 g.f0 + g.f2 ≤ rd (gaps.foldl rel s).1 g.f1 ∧ rd s.1 g.f1 - g.f3 ≤ rd (gaps.foldl rel s).1 g.f0
 | [], s, _, _, g, h => by cases h
 | g' :: gaps, s, hg, hs, g, h => by
  rw [List.foldl_cons]
  have hg' := hg g' List.mem_cons_self
  have hr := fun y hy => hg y (List.mem_cons_of_mem g' hy)
  have hl : (rel s g').1.length = n := by show (relB g' (relA g' s.1)).length = n; rw [relB_len, relA_len]; exact hs
  rcases List.mem_cons.mp h with rfl | h
  ·have u := fold_up gaps (rel s g) hr hl
   exact ⟨Int.le_trans (rel_A hg' hs) (u g.f1 hg'.b0 hg'.b1), Int.le_trans (rel_B hg' hs) (u g.f0 hg'.a0 hg'.a1)⟩
  ·obtain ⟨a, b⟩ := fold_gap gaps (rel s g') hr hl g h
   have hgg := hr g h
   have u0 : rd s.1 g.f0 ≤ rd (rel s g').1 g.f0 := rel_up hg' hs g.f0 hgg.a0 hgg.a1
   have u1 : rd s.1 g.f1 ≤ rd (rel s g').1 g.f1 := rel_up hg' hs g.f1 hgg.b0 hgg.b1
   exact ⟨by omega, by omega⟩
theorem leastL_sound {gaps : List S86} (hg : ∀ g ∈ gaps, GapIn n g) : ∀ (m : Nat) (x y : List Int), x.length = n → leastL gaps m x = some y →
  y.length = n ∧ LeAt n x (rd y) ∧ (∀ g ∈ gaps, GapSat g (rd y)) ∧ ∀ t : Int → Int, (∀ g ∈ gaps, GapSat g t) → LeAt n x t → LeAt n y t
 | 0, x, y, _, h => by cases h
 | m + 1, x, y, hx, h => by
  unfold leastL at h
  have hl : (roundL gaps x).1.length = n := (fold_len gaps (x, false)).trans hx
  have hu : LeAt n x (rd (roundL gaps x).1) := fold_up gaps (x, false) hg hx
  by_cases c : (roundL gaps x).2 = true
  ·rw [if_pos c] at h
   obtain ⟨h1, h2, h3, h4⟩ := leastL_sound hg m _ y hl h
   exact ⟨h1, fun j a b => Int.le_trans (hu j a b) (h2 j a b), h3, fun t ht hxt => h4 t ht (fold_le gaps (x, false) hg hx ht hxt)⟩
  ·rw [if_neg c] at h
   injection h with h
   obtain ⟨a, b⟩ := fold_false gaps (x, false) (Bool.eq_false_iff.mpr c)
   have e : (roundL gaps x).1 = x := a
   rw [e] at h
   subst h
   exact ⟨hx, fun j _ _ => Int.le_refl _, b, fun t _ h => h⟩
def sumT (f : Int → Int) : Nat → Int
 | 0 => 0
 | n + 1 => sumT f n + f n
theorem sumT_le {f g : Int → Int} : ∀ m : Nat, (∀ j : Int, 0 ≤ j → j < m → f j ≤ g j) → sumT f m ≤ sumT g m
 | 0, _ => Int.le_refl _
 | m + 1, h => by
  have := sumT_le m (fun j a b => h j a (by omega))
  have := h m (by omega) (by omega)
  show sumT f m + f m ≤ sumT g m + g m
  omega
theorem sumT_lt {f g : Int → Int} : ∀ m : Nat, (∀ j : Int, 0 ≤ j → j < m → f j ≤ g j) → (∃ j : Int, 0 ≤ j ∧ j < m ∧ f j < g j) → sumT f m < sumT g m
 | 0, _, ⟨j, a, b, _⟩ => by omega
 | m + 1, h, ⟨j, a, b, c⟩ => by
  have h1 := sumT_le m (fun j a b => h j a (by omega))
  have h2 := h m (by omega) (by omega)
  show sumT f m + f m < sumT g m + g m
  by_cases e : j = (m : Int)
  ·subst e; omega
  ·have := sumT_lt m (fun j a b => h j a (by omega)) ⟨j, a, by omega, c⟩
   omega
theorem min_sum (gaps : List S86) (low : List Int) : ∀ (d : Nat) (t : Int → Int), (∀ g ∈ gaps, GapSat g t) → LeAt n low t → sumT t n - sumT (rd low) n < d →
  ∃ t, (∀ g ∈ gaps, GapSat g t) ∧ LeAt n low t ∧ ∀ t', (∀ g ∈ gaps, GapSat g t') → LeAt n low t' → sumT t n ≤ sumT t' n
 | 0, t, h1, h2, h3 => by
  have := sumT_le n h2
  omega
 | d + 1, t, h1, h2, h3 => by
  by_cases c : ∃ t', (∀ g ∈ gaps, GapSat g t') ∧ LeAt n low t' ∧ sumT t' n < sumT t n
  ·obtain ⟨t', a, b, e⟩ := c
   exact min_sum gaps low d t' a b (by omega)
  ·exact ⟨t, h1, h2, fun t' a b => Int.not_lt.mp fun e => c ⟨t', a, b, e⟩⟩
def settled (x : List Int) (t : Int → Int) : Nat → Nat
 | 0 => 0
 | m + 1 => settled x t m + if rd x m = t m then 1 else 0
theorem settled_le (x : List Int) (t : Int → Int) : ∀ m, settled x t m ≤ m
 | 0 => Nat.le_refl _
 | m + 1 => by unfold settled; have := settled_le x t m; split <;> omega
theorem settled_mono (x y : List Int) (t : Int → Int) : ∀ m : Nat, (∀ j : Int, 0 ≤ j → j < m → rd x j = t j → rd y j = t j) → settled x t m ≤ settled y t m
 | 0, _ => Nat.le_refl _
 | m + 1, h => by
  unfold settled
  have := settled_mono x y t m (fun j a b => h j a (by omega))
  by_cases c : rd x m = t m
  ·rw [if_pos c, if_pos (h m (by omega) (by omega) c)]; omega
  ·rw [if_neg c]; omega
theorem settled_lt (x y : List Int) (t : Int → Int) : ∀ m : Nat, (∀ j : Int, 0 ≤ j → j < m → rd x j = t j → rd y j = t j) → (∃ j : Int, 0 ≤ j ∧ j < m ∧ rd x j ≠ t j ∧ rd y j = t j) → settled x t m < settled y t m
 | 0, _, ⟨j, a, b, _⟩ => by omega
 | m + 1, h, ⟨j, a, b, c, d⟩ => by
  unfold settled
  have h1 := settled_mono x y t m (fun j a b => h j a (by omega))
  by_cases e : j = (m : Int)
  ·subst e; rw [if_neg c, if_pos d]; omega
  ·have := settled_lt x y t m (fun j a b => h j a (by omega)) ⟨j, a, by omega, c, d⟩
   by_cases c : rd x m = t m
   ·rw [if_pos c, if_pos (h m (by omega) (by omega) c)]; omega
   ·rw [if_neg c]; omega
theorem round_settles {gaps : List S86} (hg : ∀ g ∈ gaps, GapIn n g) (low : List Int) {t : Int → Int} (h1 : ∀ g ∈ gaps, GapSat g t)
  (hmin : ∀ t', (∀ g ∈ gaps, GapSat g t') → LeAt n low t' → sumT t n ≤ sumT t' n) (x : List Int) (hx : x.length = n) (hlx : LeAt n low (rd x)) (hxt : LeAt n x t)
  (hne : ∃ j : Int, 0 ≤ j ∧ j < n ∧ rd x j ≠ t j) : settled x t n < settled (roundL gaps x).1 t n := by
 have hup : LeAt n x (rd (roundL gaps x).1) := fold_up gaps (x, false) hg hx
 have hle : LeAt n (roundL gaps x).1 t := fold_le gaps (x, false) hg hx h1 hxt
 refine settled_lt _ _ _ _ (fun j a b e => ?_) ?_
 ·have := hup j a b
  have := hle j a b
  omega
 ·refine Classical.byContradiction fun hc => ?_
  obtain ⟨j, j0, j1, hj⟩ := hne
  have hstep : ∀ g ∈ gaps, GapSat g (fun v => if rd x v = t v then t v else t v - 1) := fun g hgm => by
   have hgi := hg g hgm
   have hs := h1 g hgm
   obtain ⟨f1, f2⟩ := fold_gap gaps (x, false) hg hx g hgm
   have a0 := hle g.f0 hgi.a0 hgi.a1
   have a1 := hle g.f1 hgi.b0 hgi.b1
   have b0 : rd x g.f0 ≤ rd (roundL gaps x).1 g.f0 := hup g.f0 hgi.a0 hgi.a1
   have b1 : rd x g.f1 ≤ rd (roundL gaps x).1 g.f1 := hup g.f1 hgi.b0 hgi.b1
   have f1 : rd x g.f0 + g.f2 ≤ rd (roundL gaps x).1 g.f1 := f1
   have f2 : rd x g.f1 - g.f3 ≤ rd (roundL gaps x).1 g.f0 := f2
   have n0 : ¬ (rd x g.f0 ≠ t g.f0 ∧ rd (roundL gaps x).1 g.f0 = t g.f0) := fun h => hc ⟨g.f0, hgi.a0, hgi.a1, h⟩
   have n1 : ¬ (rd x g.f1 ≠ t g.f1 ∧ rd (roundL gaps x).1 g.f1 = t g.f1) := fun h => hc ⟨g.f1, hgi.b0, hgi.b1, h⟩
   have hs1 := hs.1
   have hs2 := hs.2
   show g.f2 ≤ (if rd x g.f1 = t g.f1 then t g.f1 else t g.f1 - 1) - (if rd x g.f0 = t g.f0 then t g.f0 else t g.f0 - 1) ∧ (if rd x g.f1 = t g.f1 then t g.f1 else t g.f1 - 1) - (if rd x g.f0 = t g.f0 then t g.f0 else t g.f0 - 1) ≤ g.f3
   by_cases c0 : rd x g.f0 = t g.f0
   ·by_cases c1 : rd x g.f1 = t g.f1
    ·rw [if_pos c0, if_pos c1]; exact hs
    ·rw [if_pos c0, if_neg c1]
     have : rd (roundL gaps x).1 g.f1 ≠ t g.f1 := fun h => n1 ⟨c1, h⟩
     exact ⟨by rw [c0] at f1; omega, by omega⟩
   ·by_cases c1 : rd x g.f1 = t g.f1
    ·rw [if_neg c0, if_pos c1]
     have : rd (roundL gaps x).1 g.f0 ≠ t g.f0 := fun h => n0 ⟨c0, h⟩
     exact ⟨by omega, by rw [c1] at f2; omega⟩
    ·rw [if_neg c0, if_neg c1]; exact ⟨by omega, by omega⟩
  have hlow : LeAt n low (fun v => if rd x v = t v then t v else t v - 1) := fun v a b => by
   have h2 := hlx v a b
   have h3 := hxt v a b
   show rd low v ≤ (if rd x v = t v then t v else t v - 1)
   by_cases c : rd x v = t v
   ·rw [if_pos c]; omega
   ·rw [if_neg c]; omega
  have := hmin _ hstep hlow
  have := sumT_lt (f := fun v => if rd x v = t v then t v else t v - 1) (g := t) n (fun v a b => by
   show (if rd x v = t v then t v else t v - 1) ≤ t v
   by_cases c : rd x v = t v
   ·rw [if_pos c]; omega
   ·rw [if_neg c]; omega) ⟨j, j0, j1, by show (if _ then _ else _) < _; rw [if_neg hj]; omega⟩
  omega
theorem leastL_complete {gaps : List S86} (hg : ∀ g ∈ gaps, GapIn n g) (low : List Int) {t : Int → Int} (h1 : ∀ g ∈ gaps, GapSat g t)
  (hmin : ∀ t', (∀ g ∈ gaps, GapSat g t') → LeAt n low t' → sumT t n ≤ sumT t' n) : ∀ (m : Nat) (x : List Int), x.length = n → LeAt n low (rd x) → LeAt n x t → n ≤ settled x t n + m → (leastL gaps (m + 1) x).isSome = true
 | m, x, hx, hlx, hxt, hs => by
  have hl : (roundL gaps x).1.length = n := (fold_len gaps (x, false)).trans hx
  have hup : LeAt n x (rd (roundL gaps x).1) := fold_up gaps (x, false) hg hx
  have hle : LeAt n (roundL gaps x).1 t := fold_le gaps (x, false) hg hx h1 hxt
  unfold leastL
  by_cases c : (roundL gaps x).2 = true
  ·rw [if_pos c]
   by_cases hne : ∃ j : Int, 0 ≤ j ∧ j < n ∧ rd x j ≠ t j
   ·have hlt := round_settles hg low h1 hmin x hx hlx hxt hne
    cases m with
    | zero =>
     have := settled_le (roundL gaps x).1 t n
     omega
    | succ m =>
     exact leastL_complete hg low h1 hmin m _ hl (fun j a b => Int.le_trans (hlx j a b) (hup j a b)) hle (by omega)
   ·exfalso
    have hall : ∀ j : Int, 0 ≤ j → j < n → rd x j = t j := fun j a b => Classical.byContradiction fun h => hne ⟨j, a, b, h⟩
    have := fold_still gaps (x, false) hg hx (fun g hgm => by
     have hgi := hg g hgm
     have hs := h1 g hgm
     unfold GapSat at hs ⊢
     rw [hall g.f0 hgi.a0 hgi.a1, hall g.f1 hgi.b0 hgi.b1]
     exact hs)
    unfold roundL at c
    rw [this] at c
    cases c
  ·rw [if_neg c]; rfl
theorem least_spec {gaps : List S86} (low : List Int) (hg : ∀ g ∈ gaps, GapIn low.length g) :
  (∀ y, leastR gaps low = (y, true) → y.length = low.length ∧ LeAt low.length low (rd y) ∧ (∀ g ∈ gaps, GapSat g (rd y)) ∧ ∀ t : Int → Int, (∀ g ∈ gaps, GapSat g t) → LeAt low.length low t → LeAt low.length y t) ∧
  ((leastR gaps low).2 = true ↔ ∃ t, (∀ g ∈ gaps, GapSat g t) ∧ LeAt low.length low t) := by
 have hs := fun y => leastL_sound hg (low.length + 1) low y rfl
 constructor
 ·intro y hy
  unfold leastR at hy
  split at hy
  ·rename_i x hx
   injection hy with hy _
   subst hy
   exact hs x hx
  ·cases hy
 ·unfold leastR
  split
  ·rename_i x hx
   obtain ⟨_, h2, h3, _⟩ := hs x hx
   exact ⟨fun _ => ⟨rd x, h3, h2⟩, fun _ => rfl⟩
  ·rename_i hx
   refine ⟨fun h => (by cases h), fun ⟨t, h1, h2⟩ => ?_⟩
   exfalso
   obtain ⟨t', a, b, c⟩ := min_sum (n := low.length) gaps low (sumT t low.length - sumT (rd low) low.length + 1).toNat t h1 h2 (by have := sumT_le low.length h2; omega)
   have := leastL_complete hg low a c low.length low rfl (fun j _ _ => Int.le_refl _) b (by omega)
   rw [hx] at this
   cases this
end
end Go.Proofs.Ytbffhblebigcfaa.Sk
