/- Following all bounds: what is left has the same times, and is closed. -/
import Derived.Test.YtbffhblebigcfaaCPrGBd
namespace Go.Proofs.Ytbffhblebigcfaa.Sk
open Go.RowKit Go.Proofs.YtbffhblebigcfaaW.PrintWords Go.Proofs.YtbffhblebigcfaaW.PrintLast Go.Proofs.YtbffhblebigcfaaW.PrintMore
set_option linter.unusedVariables false
set_option linter.unusedSimpArgs false
def In (i : Int) : Prop := 0 ≤ i ∧ i < 11
instance (i : Int) : Decidable (In i) := inferInstanceAs (Decidable (0 ≤ i ∧ i < 11))
structure BInv (M : Int) (B : Int → Int → Int) : Prop where
 diag : ∀ i, In i → B i i = 0
 bd : ∀ i j, In i → In j → B i j = FREE ∨ (-M ≤ B i j ∧ B i j ≤ M)
 sym : ∀ i j, In i → In j → B i j ≠ FREE → B j i ≠ FREE
def Sat (B : Int → Int → Int) (t : Int → Int) : Prop := ∀ i j, In i → In j → B i j ≠ FREE → t j - t i ≤ B i j
def ph (k : Int) (B : Int → Int → Int) (i j : Int) : Int := if B i k = FREE ∨ B k j = FREE then B i j else mn (B i j) (B i k + B k j)
theorem mn_le1 (x y : Int) : mn x y ≤ x := by rw [mn_eq]; omega
theorem mn_le2 (x y : Int) : mn x y ≤ y := by rw [mn_eq]; omega
theorem mn_or (x y : Int) : mn x y = x ∨ mn x y = y := by rw [mn_eq]; omega
theorem w64_id {x : Int} (h : -549755813888 ≤ x) (h' : x ≤ 549755813888) : wrap64 x = x := by unfold wrap64; omega
section
variable {M : Int} {B : Int → Int → Int}
theorem ph_col (h : BInv M B) (hM : M ≤ 274877906944) {k i : Int} (hk : In k) (hi : In i) : ph k B i k = B i k := by
 unfold ph
 split
 ·rfl
 ·rw [h.diag k hk, Int.add_zero]; rcases mn_or (B i k) (B i k) with e | e <;> exact e
theorem ph_row (h : BInv M B) (hM : M ≤ 274877906944) {k j : Int} (hk : In k) (hj : In j) : ph k B k j = B k j := by
 unfold ph
 split
 ·rfl
 ·rw [h.diag k hk, Int.zero_add]; rcases mn_or (B k j) (B k j) with e | e <;> exact e
theorem ph_le (h : BInv M B) (hM : M ≤ 274877906944) {k i j : Int} (hk : In k) (hi : In i) (hj : In j) : ph k B i j ≠ FREE → (B i j ≠ FREE → ph k B i j ≤ B i j) := by
 intro _ _
 unfold ph
 split
 ·exact Int.le_refl _
 ·exact mn_le1 _ _
theorem ph_free (h : BInv M B) (hM : M ≤ 274877906944) {k i j : Int} (hk : In k) (hi : In i) (hj : In j) : ph k B i j = FREE ↔ B i j = FREE ∧ (B i k = FREE ∨ B k j = FREE) := by
 unfold ph
 by_cases c : B i k = FREE ∨ B k j = FREE
 ·rw [if_pos c]; exact ⟨fun h => ⟨h, c⟩, fun h => h.1⟩
 ·rw [if_neg c]
  have c1 := h.bd i k hi hk
  have c2 := h.bd k j hk hj
  have c3 := h.bd i j hi hj
  have e := mn_eq (B i j) (B i k + B k j)
  constructor
  ·intro hf
   exfalso
   rw [e] at hf
   unfold FREE at *
   omega
  ·intro hf; exact absurd hf.2 c
theorem ph_val (h : BInv M B) (hM : M ≤ 274877906944) {k i j : Int} (hk : In k) (hi : In i) (hj : In j) (a : B i k ≠ FREE) (b : B k j ≠ FREE) : ph k B i j = mn (B i j) (B i k + B k j) := by
 unfold ph; rw [if_neg (fun c => c.elim a b)]
theorem ph_bd (h : BInv M B) (hM : M ≤ 274877906944) {k i j : Int} (hk : In k) (hi : In i) (hj : In j) : ph k B i j = FREE ∨ (-(2 * M) ≤ ph k B i j ∧ ph k B i j ≤ 2 * M) := by
 have c1 := h.bd i k hi hk
 have c2 := h.bd k j hk hj
 have c3 := h.bd i j hi hj
 have hd := h.bd i i hi hi
 rw [h.diag i hi] at hd
 have h0 : (0 : Int) ≤ M := by unfold FREE at hd; omega
 unfold ph
 by_cases c : B i k = FREE ∨ B k j = FREE
 ·rw [if_pos c]
  rcases c3 with c3 | c3
  ·exact .inl c3
  ·right; omega
 ·rw [if_neg c, mn_eq]
  right
  have a := fun hh => c (.inl hh)
  have b := fun hh => c (.inr hh)
  have c1 := c1.resolve_left a
  have c2 := c2.resolve_left b
  unfold FREE at *
  omega
theorem jN_eq (h : BInv M B) (hM : M ≤ 274877906944) {D : Int → Int → Int} {k i : Int} (hk : In k) (hi : In i) (hr : ∀ c, In c → D k c = B k c) (hr2 : ∀ c, In c → D i c = B i c) (hf : B i k ≠ FREE) :
  ∀ n : Nat, n ≤ 11 → jN k i D n = fun (a c : Int) => if a = i ∧ 0 ≤ c ∧ c < n then ph k B i c else D a c
 | 0, _ => by funext a c; rw [if_neg (by omega)]; rfl
 | n + 1, hn => by
  have ih := jN_eq h hM hk hi hr hr2 hf n (by omega)
  show stepJ k i n (jN k i D n) = _
  have hnI : In (n : Int) := ⟨by omega, by omega⟩
  have hc := ph_col h hM hk hi
  have ekn : jN k i D n k n = B k n := by rw [ih]; show (if _ then _ else _) = _; rw [if_neg (by omega)]; exact hr n hnI
  have ein : jN k i D n i n = B i n := by rw [ih]; show (if _ then _ else _) = _; rw [if_neg (by omega)]; exact hr2 n hnI
  have eik : jN k i D n i k = B i k := by
   rw [ih]; show (if _ then _ else _) = _
   by_cases c : 0 ≤ k ∧ k < n
   ·rw [if_pos ⟨rfl, c⟩]; exact hc
   ·rw [if_neg (by omega)]; exact hr2 k hk
  unfold stepJ
  by_cases c : B k n = FREE
  ·rw [if_pos (by rw [ekn]; exact c), ih]
   funext a b
   by_cases e : a = i ∧ b = (n : Int)
   ·obtain ⟨rfl, rfl⟩ := e
    rw [if_neg (by omega), if_pos (by omega)]
    unfold ph
    rw [if_pos (.inr c)]; exact hr2 _ hnI
   ·show (if _ then _ else _) = _
    by_cases e2 : a = i ∧ 0 ≤ b ∧ b < (n : Int)
    ·rw [if_pos e2, if_pos (by omega)]
    ·rw [if_neg e2, if_neg (by omega)]
  ·rw [if_neg (by rw [ekn]; exact c), ekn, ein, eik]
   have b1 := (h.bd i k hi hk).resolve_left hf
   have b2 := (h.bd k n hk hnI).resolve_left c
   rw [w64_id (by omega) (by omega), ← ph_val h hM hk hi hnI hf c, ih]
   funext a b
   unfold set2
   by_cases e : a = i ∧ b = (n : Int)
   ·obtain ⟨rfl, rfl⟩ := e
    rw [if_pos ⟨rfl, rfl⟩, if_pos (by omega)]
   ·rw [if_neg e]
    show (if _ then _ else _) = _
    by_cases e2 : a = i ∧ 0 ≤ b ∧ b < (n : Int)
    ·rw [if_pos e2, if_pos (by omega)]
    ·rw [if_neg e2, if_neg (by omega)]
theorem iN_eq (h : BInv M B) (hM : M ≤ 274877906944) {k : Int} (hk : In k) :
  ∀ n : Nat, n ≤ 11 → (∀ i : Int, 0 ≤ i → i < n → 0 ≤ ph k B i i) → iN k B n = some fun (a c : Int) => if (0 ≤ a ∧ a < n) ∧ In c then ph k B a c else B a c
 | 0, _, _ => by show some B = _; congr 1; funext a c; rw [if_neg (by omega)]
 | n + 1, hn, hp => by
  have ih := iN_eq h hM hk n (by omega) (fun i h0 h1 => hp i h0 (by omega))
  show (iN k B n).bind (stepI k n) = _
  rw [ih, Option.bind_some]
  have hnI : In (n : Int) := ⟨by omega, by omega⟩
  obtain ⟨D, hD⟩ : ∃ D : Int → Int → Int, (fun (a c : Int) => if (0 ≤ a ∧ a < n) ∧ In c then ph k B a c else B a c) = D := ⟨_, rfl⟩
  have hDv : ∀ a c, D a c = if (0 ≤ a ∧ a < n) ∧ In c then ph k B a c else B a c := fun a c => by rw [← hD]
  rw [hD]
  have hr : ∀ c, In c → D k c = B k c := fun c hc => by
   rw [hDv]; split
   ·exact ph_row h hM hk hc
   ·rfl
  have hr2 : ∀ c, In c → D n c = B n c := fun c hc => by rw [hDv, if_neg (by omega)]
  unfold stepI
  rw [hr2 k hk]
  by_cases c : B n k = FREE
  ·rw [if_pos c]
   congr 1
   funext a b
   rw [hDv]
   by_cases e : a = (n : Int) ∧ In b
   ·obtain ⟨rfl, hb⟩ := e
    rw [if_neg (by omega), if_pos ⟨by omega, hb⟩]
    unfold ph
    rw [if_pos (.inl c)]
   ·by_cases e2 : (0 ≤ a ∧ a < (n : Int)) ∧ In b
    ·rw [if_pos e2, if_pos ⟨by omega, e2.2⟩]
    ·rw [if_neg e2, if_neg (fun hh => by
      by_cases ea : a = (n : Int)
      ·exact e ⟨ea, hh.2⟩
      ·exact e2 ⟨by omega, hh.2⟩)]
  ·rw [if_neg c]
   have hj := jN_eq h hM (D := D) hk hnI hr hr2 c 11 (Nat.le_refl _)
   have hnn : jN k n D 11 n n = ph k B n n := by
    rw [hj]; show (if _ then _ else _) = _
    rw [if_pos ⟨rfl, by omega, by omega⟩]
   rw [hnn, if_neg (by have := hp n (by omega) (by omega); omega), hj]
   congr 1
   funext a b
   by_cases e : a = (n : Int) ∧ In b
   ·obtain ⟨rfl, hb⟩ := e
    rw [if_pos ⟨rfl, hb.1, by have := hb.2; omega⟩, if_pos ⟨by omega, hb⟩]
   ·rw [if_neg (fun hh => e ⟨hh.1, hh.2.1, by have := hh.2.2; omega⟩), hDv]
    by_cases e2 : (0 ≤ a ∧ a < (n : Int)) ∧ In b
    ·rw [if_pos e2, if_pos ⟨by omega, e2.2⟩]
    ·rw [if_neg e2, if_neg (fun hh => by
      by_cases ea : a = (n : Int)
      ·exact e ⟨ea, hh.2⟩
      ·exact e2 ⟨by omega, hh.2⟩)]
theorem iN_nonneg (h : BInv M B) (hM : M ≤ 274877906944) {k : Int} (hk : In k) : ∀ (n : Nat) (D : Int → Int → Int), n ≤ 11 → iN k B n = some D → ∀ i : Int, 0 ≤ i → i < n → 0 ≤ ph k B i i
 | 0, _, _, _ => fun i h0 h1 => by omega
 | n + 1, D, hn, h0 => by
  intro i hi0 hi1
  have hs : (iN k B n).bind (stepI k n) = some D := h0
  obtain ⟨D', hD', hs⟩ := Option.bind_eq_some_iff.mp hs
  have ih := iN_nonneg h hM hk n D' (by omega) hD'
  by_cases hlt : i < n
  ·exact ih i hi0 hlt
  ·obtain rfl : i = (n : Int) := by omega
   have hnI : In (n : Int) := ⟨by omega, by omega⟩
   have e := iN_eq h hM hk n (by omega) ih
   rw [hD'] at e
   injection e with e
   have hr : ∀ c, In c → D' k c = B k c := fun c hc => by
    rw [e]; show (if _ then _ else _) = _
    split
    ·exact ph_row h hM hk hc
    ·rfl
   have hr2 : ∀ c, In c → D' n c = B n c := fun c hc => by rw [e]; show (if _ then _ else _) = _; rw [if_neg (by omega)]
   unfold stepI at hs
   rw [hr2 k hk] at hs
   by_cases c : B n k = FREE
   ·unfold ph
    rw [if_pos (.inl c), h.diag _ hnI]
    exact Int.le_refl _
   ·rw [if_neg c] at hs
    have hj := jN_eq h hM (D := D') hk hnI hr hr2 c 11 (Nat.le_refl _)
    have hnn : jN k n D' 11 n n = ph k B n n := by
     rw [hj]; show (if _ then _ else _) = _
     rw [if_pos ⟨rfl, by omega, by omega⟩]
    rw [hnn] at hs
    by_cases hlt : ph k B n n < 0
    ·rw [if_pos hlt] at hs; cases hs
    ·omega
theorem ph_neg (h : BInv M B) (hM : M ≤ 274877906944) {k i : Int} (hk : In k) (hi : In i) (hn : ph k B i i < 0) : ¬ ∃ t, Sat B t := by
 rintro ⟨t, ht⟩
 unfold ph at hn
 split at hn
 ·rw [h.diag i hi] at hn; omega
 ·rename_i c
  have a := ht i k hi hk (fun hh => c (.inl hh))
  have b := ht k i hk hi (fun hh => c (.inr hh))
  rw [h.diag i hi] at hn
  rcases mn_or 0 (B i k + B k i) with e | e <;> rw [e] at hn <;> omega
def Clo (B : Int → Int → Int) (n : Int) : Prop := ∀ k i j, In k → k < n → In i → In j → B i k ≠ FREE → B k j ≠ FREE → B i j ≠ FREE ∧ B i j ≤ B i k + B k j
def full (k : Int) (B : Int → Int → Int) : Int → Int → Int := fun a c => if (0 ≤ a ∧ a < ((11 : Nat) : Int)) ∧ In c then ph k B a c else B a c
theorem full_at {k i j : Int} (hi : In i) (hj : In j) : full k B i j = ph k B i j := if_pos ⟨⟨hi.1, by have := hi.2; omega⟩, hj⟩
theorem full_inv (h : BInv M B) (hM : M ≤ 274877906944) {k : Int} (hk : In k) (hp : ∀ i, In i → 0 ≤ ph k B i i) : BInv (2 * M) (full k B) := by
 refine ⟨fun i hi => ?_, fun i j hi hj => ?_, fun i j hi hj => ?_⟩
 ·rw [full_at hi hi]
  have h1 := hp i hi
  have hd := h.diag i hi
  unfold ph at h1 ⊢
  split
  ·exact hd
  ·rename_i c
   rw [if_neg c, hd] at h1
   rw [hd]
   have := mn_le1 0 (B i k + B k i)
   omega
 ·rw [full_at hi hj]; exact ph_bd h hM hk hi hj
 ·rw [full_at hi hj, full_at hj hi]
  intro h1 h2
  have h2 := (ph_free h hM hk hj hi).mp h2
  apply h1
  rw [ph_free h hM hk hi hj]
  refine ⟨Classical.byContradiction fun c => h.sym i j hi hj c h2.1, ?_⟩
  rcases h2.2 with e | e
  ·right; exact Classical.byContradiction fun c => h.sym k j hk hj c e
  ·left; exact Classical.byContradiction fun c => h.sym i k hi hk c e
theorem full_sat (h : BInv M B) (hM : M ≤ 274877906944) {k : Int} (hk : In k) (t : Int → Int) : Sat (full k B) t ↔ Sat B t := by
 constructor
 ·intro ht i j hi hj hf
  have hf' : ph k B i j ≠ FREE := fun hh => hf ((ph_free h hM hk hi hj).mp hh).1
  have a := ht i j hi hj (by rw [full_at hi hj]; exact hf')
  rw [full_at hi hj] at a
  have := ph_le h hM hk hi hj hf' hf
  omega
 ·intro ht i j hi hj hf
  rw [full_at hi hj] at hf ⊢
  by_cases c : B i k = FREE ∨ B k j = FREE
  ·have e : ph k B i j = B i j := by unfold ph; rw [if_pos c]
   rw [e] at hf ⊢
   exact ht i j hi hj hf
  ·have a := ht i k hi hk (fun hh => c (.inl hh))
   have b := ht k j hk hj (fun hh => c (.inr hh))
   have e : ph k B i j = mn (B i j) (B i k + B k j) := by unfold ph; rw [if_neg c]
   rw [e]
   by_cases d : B i j = FREE
   ·have b1 := (h.bd i k hi hk).resolve_left (fun hh => c (.inl hh))
    have b2 := (h.bd k j hk hj).resolve_left (fun hh => c (.inr hh))
    rw [d, mn_eq]
    unfold FREE
    omega
   ·have f := ht i j hi hj d
    rcases mn_or (B i j) (B i k + B k j) with e | e <;> rw [e] <;> omega
theorem full_clo (h : BInv M B) (hM : M ≤ 274877906944) {k : Int} (hk : In k) (hc : Clo B k) : Clo (full k B) (k + 1) := by
 intro m i j hm hmk hi hj
 rw [full_at hi hm, full_at hm hj, full_at hi hj]
 by_cases e : m = k
 ·subst e
  rw [ph_col h hM hm hi, ph_row h hM hm hj]
  intro a b
  refine ⟨fun hh => ((ph_free h hM hm hi hj).mp hh).2.elim a b, ?_⟩
  rw [ph_val h hM hm hi hj a b]
  exact mn_le2 _ _
 ·have hlt : m < k := by omega
  intro a b
  have hkk := hc m k k hm hlt hk hk
  rw [h.diag k hk] at hkk
  have A : (B i m ≠ FREE ∧ ph k B i m = B i m) ∨ (B i k ≠ FREE ∧ B k m ≠ FREE ∧ ph k B i m = B i k + B k m) := by
   by_cases c : B i k = FREE ∨ B k m = FREE
   ·have e : ph k B i m = B i m := by unfold ph; rw [if_pos c]
    exact .inl ⟨by rw [← e]; exact a, e⟩
   ·have c1 := fun hh => c (.inl hh)
    have c2 := fun hh => c (.inr hh)
    have e := ph_val h hM hk hi hm c1 c2
    by_cases d : B i m = FREE
    ·right; refine ⟨c1, c2, ?_⟩
     rw [e, d, mn_eq]
     have b1 := (h.bd i k hi hk).resolve_left c1
     have b2 := (h.bd k m hk hm).resolve_left c2
     unfold FREE; omega
    ·rcases mn_or (B i m) (B i k + B k m) with f | f
     ·left; exact ⟨d, e.trans f⟩
     ·right; exact ⟨c1, c2, e.trans f⟩
  have A' : (B m j ≠ FREE ∧ ph k B m j = B m j) ∨ (B m k ≠ FREE ∧ B k j ≠ FREE ∧ ph k B m j = B m k + B k j) := by
   by_cases c : B m k = FREE ∨ B k j = FREE
   ·have e : ph k B m j = B m j := by unfold ph; rw [if_pos c]
    exact .inl ⟨by rw [← e]; exact b, e⟩
   ·have c1 := fun hh => c (.inl hh)
    have c2 := fun hh => c (.inr hh)
    have e := ph_val h hM hk hm hj c1 c2
    by_cases d : B m j = FREE
    ·right; refine ⟨c1, c2, ?_⟩
     rw [e, d, mn_eq]
     have b1 := (h.bd m k hm hk).resolve_left c1
     have b2 := (h.bd k j hk hj).resolve_left c2
     unfold FREE; omega
    ·rcases mn_or (B m j) (B m k + B k j) with f | f
     ·left; exact ⟨d, e.trans f⟩
     ·right; exact ⟨c1, c2, e.trans f⟩
  have viaK : B i k ≠ FREE → B k j ≠ FREE → ph k B i j ≠ FREE ∧ ph k B i j ≤ B i k + B k j := fun c1 c2 => by
   refine ⟨fun hh => ((ph_free h hM hk hi hj).mp hh).2.elim c1 c2, ?_⟩
   rw [ph_val h hM hk hi hj c1 c2]
   exact mn_le2 _ _
  rcases A with ⟨a1, a2⟩ | ⟨a1, a2, a3⟩
  ·rcases A' with ⟨b1, b2⟩ | ⟨b1, b2, b3⟩
   ·have w := hc m i j hm hlt hi hj a1 b1
    have f : ph k B i j ≠ FREE := fun hh => w.1 ((ph_free h hM hk hi hj).mp hh).1
    have := ph_le h hM hk hi hj f w.1
    exact ⟨f, by omega⟩
   ·have w := hc m i k hm hlt hi hk a1 b1
    have v := viaK w.1 b2
    exact ⟨v.1, by omega⟩
  ·rcases A' with ⟨b1, b2⟩ | ⟨b1, b2, b3⟩
   ·have w := hc m k j hm hlt hk hj a2 b1
    have v := viaK a1 w.1
    exact ⟨v.1, by omega⟩
   ·have v := viaK a1 b2
    have w := hkk a2 b1
    exact ⟨v.1, by omega⟩
end
def pow2 : Nat → Int
 | 0 => 1
 | n + 1 => 2 * pow2 n
theorem kN_spec {M : Int} {B : Int → Int → Int} (h : BInv M B) (h0 : 0 ≤ M) (hM : M ≤ 134217728) : ∀ n : Nat, n ≤ 11 →
  (∀ C, kN B n = some C → BInv (pow2 n * M) C ∧ (∀ t, Sat C t ↔ Sat B t) ∧ Clo C n) ∧ (kN B n = none → ¬ ∃ t, Sat B t)
 | 0, _ => ⟨fun C hC => by
   injection hC with hC
   subst hC
   exact ⟨by show BInv (1 * M) B; rw [Int.one_mul]; exact h, fun t => Iff.rfl, fun k i j hk hlt => by have := hk.1; omega⟩, fun hC => by cases hC⟩
 | n + 1, hn => by
  obtain ⟨ih1, ih2⟩ := kN_spec h h0 hM n (by omega)
  have hp2 : ∀ m : Nat, m ≤ 11 → pow2 m * M ≤ 274877906944 ∧ 0 ≤ pow2 m * M := by
   intro m hm
   have : m = 0 ∨ m = 1 ∨ m = 2 ∨ m = 3 ∨ m = 4 ∨ m = 5 ∨ m = 6 ∨ m = 7 ∨ m = 8 ∨ m = 9 ∨ m = 10 ∨ m = 11 := by omega
   rcases this with e | e | e | e | e | e | e | e | e | e | e | e <;> subst e <;> simp only [pow2] <;> omega
  have hkn : kN B (n + 1) = (kN B n).bind fun C => iN n C 11 := rfl
  have hnI : In (n : Int) := ⟨by omega, by omega⟩
  cases hC : kN B n with
  | none =>
   rw [hkn, hC]
   exact ⟨fun C h => (by cases h), fun _ => ih2 hC⟩
  | some C =>
   obtain ⟨a1, a2, a3⟩ := ih1 C hC
   have hMn := (hp2 n (by omega)).1
   rw [hkn, hC, Option.bind_some]
   by_cases hp : ∀ i, In i → 0 ≤ ph n C i i
   ·have e := iN_eq a1 hMn hnI 11 (Nat.le_refl _) (fun i h0 h1 => hp i ⟨h0, by omega⟩)
    rw [e]
    refine ⟨fun D hD => ?_, fun hD => by cases hD⟩
    injection hD with hD
    subst hD
    refine ⟨?_, fun t => ?_, ?_⟩
    ·have := full_inv a1 hMn hnI hp
     rw [show pow2 (n + 1) * M = 2 * (pow2 n * M) by show 2 * pow2 n * M = _; rw [Int.mul_assoc]]
     exact this
    ·exact (full_sat a1 hMn hnI t).trans (a2 t)
    ·have := full_clo a1 hMn hnI a3
     rw [show ((n + 1 : Nat) : Int) = (n : Int) + 1 by omega]
     exact this
   ·have hnot : ¬ ∃ t, Sat B t := by
     rintro ⟨t, ht⟩
     refine hp fun i hi => Int.not_lt.mp fun hlt => ph_neg a1 hMn hnI hi hlt ⟨t, (a2 t).mpr ht⟩
    refine ⟨fun D hD => ?_, fun _ => hnot⟩
    exact absurd (fun i hi => iN_nonneg a1 hMn hnI 11 D (Nat.le_refl _) hD i hi.1 (by have := hi.2; omega)) hp
end Go.Proofs.Ytbffhblebigcfaa.Sk
