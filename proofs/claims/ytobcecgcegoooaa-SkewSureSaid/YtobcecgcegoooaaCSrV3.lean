/- The reference's tight spans: the least and the greatest of all times that fit. -/
import Derived.Laws.EntriesVeiled
import Derived.Test.YtobcecgcegoooaaCSrV1
import Derived.Test.YtobcecgcegoooaaCSrV2
import Derived.Test.YtobcecgcegoooaaCSrV0
import Derived.Test.YtobcecgcegoooaaCSrS0
namespace Go.Proofs.Ytobcecgcegoooaa.Sk
open Go.RowKit Go.Proofs.YtobcecgcegoooaaW.PrintWords Go.Proofs.YtobcecgcegoooaaW.PrintLast Go.Proofs.YtobcecgcegoooaaW.PrintMore
set_option linter.unusedVariables false
set_option linter.unusedSimpArgs false
section
def skew_Sure.f (evs : List S27) (gaps : List S86) (x y : Int) : Option (Bool × Int) :=
 (skew_isHist.f 1000 evs gaps).bind fun t => if t = true then
  if x ≥ 0 ∧ x ≤ wrap64 ((evs.length : Int) - 1) then
   if y ≥ 0 ∧ y ≤ wrap64 ((evs.length : Int) - 1) then
    (tightR evs gaps).bind fun p => if evs.length ≤ 10 then some (match p.1 with | some B => decide (B y x < 0) | none => false, p.2) else none
   else some (false, 2)
  else some (false, 2)
 else some (false, 2)
set_option maxHeartbeats 4000000 in
set_option maxRecDepth 100000 in
theorem skew_Sure.calls (A0 : Option Addr) (c0 : Nat) (evs : List S27) (A1 : Option Addr) (c1 : Nat) (gaps : List S86) (x y : Int) (r1 : Bool) (r2 : Int) (w : World) (hC0 : Kd.C k27 w A0 evs.length evs) (hc0 : evs.length ≤ c0) (hC1 : Kd.C k86 w A1 gaps.length gaps) (hc1 : gaps.length ≤ c1) (h : skew_Sure.f evs gaps x y = some (r1, r2)) :
  Calls Try.prog 59 #[.agg #[.slice A0 evs.length c0, .slice A1 gaps.length c1], .int .i64 x, .int .i64 y] w fun e w' => e = .returned (.tuple #[.bool r1, .int .i64 r2]) ∧ Below w.heap.size w w' := by
 unfold skew_Sure.f at h; obtain ⟨t, ht, h⟩ := Option.bind_eq_some_iff.mp h; have hb0 := Ba (Below.refl w.heap.size w) (.cells #[.slice A0 evs.length c0, .slice A1 gaps.length c1] 39); have hk0 := blk_new w (.cells #[.slice A0 evs.length c0, .slice A1 gaps.length c1] 39); have HIs := Aa (skew_isHist.calls 1000 A0 c0 evs A1 c1 gaps t _ (Kd.C_below hC0 hb0) hc0 (Kd.C_below hC1 hb0) hc1 ht); have x0 := cell_at hk0 0 (.slice A0 evs.length c0) rfl; have x1 := cell_at hk0 1 (.slice A1 gaps.length c1) rfl; have HB0 := Aa hb0; have HK0 := Aa hk0; clear hb0 hk0 ht
 cases t with
 | false =>
  rw [if_neg (by simp)] at h; simp only [Option.some.injEq, Prod.mk.injEq] at h; obtain ⟨rfl, rfl⟩ := h
  go_enter Try.func59, Try.ntmps59
  go_wp2_with (go_at_call 75; refine HIs.out.mono ?_; rintro e w1 ⟨rfl, hb⟩; have HB1 := Aa (Bp HB0.out hb); clear hb)
  go_ret2
  exact ⟨rfl, HB1.out⟩
 | true =>
  rw [if_pos rfl] at h
  by_cases ha : x ≥ 0 ∧ x ≤ wrap64 ((evs.length : Int) - 1)
  ·rw [if_pos ha] at h
   have HA := fun w => Aa (within_calls x 0 _ true (decide_eq_true ha) w)
   by_cases hb : y ≥ 0 ∧ y ≤ wrap64 ((evs.length : Int) - 1)
   ·rw [if_pos hb] at h
    have HBy := fun w => Aa (within_calls y 0 _ true (decide_eq_true hb) w)
    obtain ⟨⟨R, r⟩, hR, h⟩ := Option.bind_eq_some_iff.mp h
    by_cases hle : evs.length ≤ 10
    ·rw [if_pos hle] at h; simp only [Option.some.injEq, Prod.mk.injEq] at h; obtain ⟨hr1, rfl⟩ := h; have HR1 := Aa hr1; have HTR := Aa hR
     have hx : 0 ≤ x ∧ x < 11 := by unfold wrap64 at ha; omega
     have hy : 0 ≤ y ∧ y < 11 := by unfold wrap64 at hb; omega
     have HX := Aa hx; have HY := Aa hy; clear ha hb hle hr1 hR hx hy
     go_enter Try.func59, Try.ntmps59
     go_wp2_with fail
     refine HIs.out.mono ?_; rintro e w1 ⟨rfl, hb⟩; have HB1 := Aa (Bp HB0.out hb); have hk1 := blk_below HK0.out hb; have HK1 := Aa hk1; have y0 := cell_at hk1 0 (.slice A0 evs.length c0) rfl; clear hb HIs x0 x1 hk1
     go_wp2_with fail
     with_reducible refine (HA w1).out.mono ?_
     rintro e w2 ⟨rfl, hb⟩; have HB2 := Aa (Bp HB1.out hb); have hk2 := blk_below HK1.out hb; have HK2 := Aa hk2; have y0 := cell_at hk2 0 (.slice A0 evs.length c0) rfl; clear hb HA hk2 HB1
     go_wp2_with fail
     with_reducible refine (HBy w2).out.mono ?_
     rintro e w3 ⟨rfl, hb⟩; have HB3 := Aa (Bp HB2.out hb); have hk3 := blk_below HK2.out hb; have y0 := cell_at hk3 0 (.slice A0 evs.length c0) rfl; have y1 := cell_at hk3 1 (.slice A1 gaps.length c1) rfl; clear hb HBy hk3 HB2; have HT := Aa (tight_calls A0 A1 c0 c1 evs gaps R r w3 (Kd.C_below hC0 HB3.out) hc0 (Kd.C_below hC1 HB3.out) hc1 HTR.out)
     cases R with
     | none =>
      have HTn := Aa HT.out; clear HT
      go_wp2_with (go_at_call 107; refine HTn.out.mono ?_; rintro e w4 ⟨p, rfl, _, hn, _, hb⟩; have hrn := hn rfl; have HB4 := Aa (Bp HB3.out hb); clear hb)
      go_ret2
      exact ⟨by rw [← HR1.out]; rfl, HB4.out⟩
     | some B =>
      have HTn := Aa HT.out; clear HT
      go_wp2_with (first
       | (go_at_call 107; refine HTn.out.mono ?_; rintro e w4 ⟨p, rfl, hs, _, hz, hb⟩; obtain ⟨b, rfl, hbl, hbd⟩ := hs B rfl; obtain rfl := hz B rfl; have HBd := Aa hbd; have HB4 := Aa (Bp HB3.out hb); clear hb hbd hs)
       | (go_at_call 112; refine (sure_calls b _ _ B x y w4 HBd.out HX.out.1 HX.out.2 HY.out.1 HY.out.2).mono ?_; rintro e w5 ⟨rfl, rfl⟩))
      go_ret2; exact ⟨by rw [← HR1.out]; rfl, HB4.out⟩
    ·rw [if_neg hle] at h; cases h
   ·rw [if_neg hb] at h; simp only [Option.some.injEq, Prod.mk.injEq] at h; obtain ⟨rfl, rfl⟩ := h
    have HBy := fun w => Aa (within_calls y 0 _ false (decide_eq_false hb) w)
    clear ha hb
    go_enter Try.func59, Try.ntmps59
    go_wp2_with fail
    refine HIs.out.mono ?_; rintro e w1 ⟨rfl, hb⟩; have HB1 := Aa (Bp HB0.out hb); have hk1 := blk_below HK0.out hb; have HK1 := Aa hk1; have y0 := cell_at hk1 0 (.slice A0 evs.length c0) rfl; clear hb HIs x0 x1 hk1
    go_wp2_with fail
    with_reducible refine (HA w1).out.mono ?_
    rintro e w2 ⟨rfl, hb⟩; have HB2 := Aa (Bp HB1.out hb); have hk2 := blk_below HK1.out hb; have y0 := cell_at hk2 0 (.slice A0 evs.length c0) rfl; clear hb HA hk2 HB1
    go_wp2_with fail
    with_reducible refine (HBy w2).out.mono ?_
    rintro e w3 ⟨rfl, hb⟩; have HB3 := Aa (Bp HB2.out hb); clear hb HBy HB2; go_wp2; go_ret2; exact ⟨rfl, HB3.out⟩
  ·rw [if_neg ha] at h; simp only [Option.some.injEq, Prod.mk.injEq] at h; obtain ⟨rfl, rfl⟩ := h
   have HA := fun w => Aa (within_calls x 0 _ false (decide_eq_false ha) w)
   clear ha
   go_enter Try.func59, Try.ntmps59
   go_wp2_with fail
   refine HIs.out.mono ?_; rintro e w1 ⟨rfl, hb⟩; have HB1 := Aa (Bp HB0.out hb); have hk1 := blk_below HK0.out hb; have y0 := cell_at hk1 0 (.slice A0 evs.length c0) rfl; clear hb HIs x0 x1 hk1
   go_wp2_with fail
   with_reducible refine (HA w1).out.mono ?_
   rintro e w2 ⟨rfl, hb⟩; have HB2 := Aa (Bp HB1.out hb); clear hb HA HB1; go_wp2; go_ret2; exact ⟨rfl, HB2.out⟩
end
section
def In (i : Int) : Prop := 0 ≤ i ∧ i < 11
instance (i : Int) : Decidable (In i) := inferInstanceAs (Decidable (0 ≤ i ∧ i < 11))
structure BInv (M : Int) (B : Int → Int → Int) : Prop where
 diag : ∀ i, In i → B i i = 0
 bd : ∀ i j, In i → In j → B i j = FREE ∨ (-M ≤ B i j ∧ B i j ≤ M)
 sym : ∀ i j, In i → In j → B i j ≠ FREE → B j i ≠ FREE
def Sat (B : Int → Int → Int) (t : Int → Int) : Prop := ∀ i j, In i → In j → B i j ≠ FREE → t j - t i ≤ B i j
def ph (k : Int) (B : Int → Int → Int) (i j : Int) : Int := if B i k = FREE ∨ B k j = FREE then B i j else mn (B i j) (B i k + B k j)
theorem mn_le1 (x y : Int) : mn x y ≤ x := by rw [mn_eq]; omega
theorem mn_le2 (x y : Int) : mn x y ≤ y := by rw [mn_eq]; omega
theorem mn_or (x y : Int) : mn x y = x ∨ mn x y = y := by rw [mn_eq]; omega
theorem w64_id {x : Int} (h : -549755813888 ≤ x) (h' : x ≤ 549755813888) : wrap64 x = x := by unfold wrap64; omega
section
variable {M : Int} {B : Int → Int → Int}
theorem ph_col (h : BInv M B) (hM : M ≤ 274877906944) {k i : Int} (hk : In k) (hi : In i) : ph k B i k = B i k := by
 unfold ph
 split
 ·rfl
 ·rw [h.diag k hk, Int.add_zero]; rcases mn_or (B i k) (B i k) with e | e <;> exact e
theorem ph_row (h : BInv M B) (hM : M ≤ 274877906944) {k j : Int} (hk : In k) (hj : In j) : ph k B k j = B k j := by
 unfold ph
 split
 ·rfl
 ·rw [h.diag k hk, Int.zero_add]; rcases mn_or (B k j) (B k j) with e | e <;> exact e
theorem ph_le (h : BInv M B) (hM : M ≤ 274877906944) {k i j : Int} (hk : In k) (hi : In i) (hj : In j) : ph k B i j ≠ FREE → (B i j ≠ FREE → ph k B i j ≤ B i j) := by
 intro _ _; unfold ph
 split
 ·exact Int.le_refl _
 ·exact mn_le1 _ _
theorem ph_free (h : BInv M B) (hM : M ≤ 274877906944) {k i j : Int} (hk : In k) (hi : In i) (hj : In j) : ph k B i j = FREE ↔ B i j = FREE ∧ (B i k = FREE ∨ B k j = FREE) := by
 unfold ph
 by_cases c : B i k = FREE ∨ B k j = FREE
 ·rw [if_pos c]; exact ⟨fun h => ⟨h, c⟩, fun h => h.1⟩
 ·rw [if_neg c]; have c1 := h.bd i k hi hk; have c2 := h.bd k j hk hj; have c3 := h.bd i j hi hj; have e := mn_eq (B i j) (B i k + B k j); constructor
  ·intro hf; exfalso; rw [e] at hf; unfold FREE at *; omega
  ·intro hf; exact absurd hf.2 c
theorem ph_val (h : BInv M B) (hM : M ≤ 274877906944) {k i j : Int} (hk : In k) (hi : In i) (hj : In j) (a : B i k ≠ FREE) (b : B k j ≠ FREE) : ph k B i j = mn (B i j) (B i k + B k j) := by
 unfold ph; rw [if_neg (fun c => c.elim a b)]
theorem ph_bd (h : BInv M B) (hM : M ≤ 274877906944) {k i j : Int} (hk : In k) (hi : In i) (hj : In j) : ph k B i j = FREE ∨ (-(2 * M) ≤ ph k B i j ∧ ph k B i j ≤ 2 * M) := by
 have c1 := h.bd i k hi hk; have c2 := h.bd k j hk hj; have c3 := h.bd i j hi hj; have hd := h.bd i i hi hi; rw [h.diag i hi] at hd
 have h0 : (0 : Int) ≤ M := by unfold FREE at hd; omega
 unfold ph
 by_cases c : B i k = FREE ∨ B k j = FREE
 ·rw [if_pos c]
  rcases c3 with c3 | c3
  ·exact .inl c3
  ·right; omega
 ·rw [if_neg c, mn_eq]; right
  have a := fun hh => c (.inl hh)
  have b := fun hh => c (.inr hh)
  have c1 := c1.resolve_left a; have c2 := c2.resolve_left b; unfold FREE at *; omega
theorem jN_eq (h : BInv M B) (hM : M ≤ 274877906944) {D : Int → Int → Int} {k i : Int} (hk : In k) (hi : In i) (hr : ∀ c, In c → D k c = B k c) (hr2 : ∀ c, In c → D i c = B i c) (hf : B i k ≠ FREE) :
  ∀ n : Nat, n ≤ 11 → jN k i D n = fun (a c : Int) => if a = i ∧ 0 ≤ c ∧ c < n then ph k B i c else D a c
 | 0, _ => by funext a c; rw [if_neg (by omega)]; rfl
 | n + 1, hn => by
  have ih := jN_eq h hM hk hi hr hr2 hf n (by omega); show stepJ k i n (jN k i D n) = _
  have hnI : In (n : Int) := ⟨by omega, by omega⟩
  have hc := ph_col h hM hk hi
  have ekn : jN k i D n k n = B k n := by rw [ih]; show (if _ then _ else _) = _; rw [if_neg (by omega)]; exact hr n hnI
  have ein : jN k i D n i n = B i n := by rw [ih]; show (if _ then _ else _) = _; rw [if_neg (by omega)]; exact hr2 n hnI
  have eik : jN k i D n i k = B i k := by
   rw [ih]; show (if _ then _ else _) = _
   by_cases c : 0 ≤ k ∧ k < n
   ·rw [if_pos ⟨rfl, c⟩]; exact hc
   ·rw [if_neg (by omega)]; exact hr2 k hk
  unfold stepJ
  by_cases c : B k n = FREE
  ·rw [if_pos (by rw [ekn]; exact c), ih]
   funext a b
   by_cases e : a = i ∧ b = (n : Int)
   ·obtain ⟨rfl, rfl⟩ := e; rw [if_neg (by omega), if_pos (by omega)]; unfold ph; rw [if_pos (.inr c)]; exact hr2 _ hnI
   ·show (if _ then _ else _) = _
    by_cases e2 : a = i ∧ 0 ≤ b ∧ b < (n : Int)
    ·rw [if_pos e2, if_pos (by omega)]
    ·rw [if_neg e2, if_neg (by omega)]
  ·rw [if_neg (by rw [ekn]; exact c), ekn, ein, eik]; have b1 := (h.bd i k hi hk).resolve_left hf; have b2 := (h.bd k n hk hnI).resolve_left c; rw [w64_id (by omega) (by omega), ← ph_val h hM hk hi hnI hf c, ih]
   funext a b
   unfold set2
   by_cases e : a = i ∧ b = (n : Int)
   ·obtain ⟨rfl, rfl⟩ := e; rw [if_pos ⟨rfl, rfl⟩, if_pos (by omega)]
   ·rw [if_neg e]; show (if _ then _ else _) = _
    by_cases e2 : a = i ∧ 0 ≤ b ∧ b < (n : Int)
    ·rw [if_pos e2, if_pos (by omega)]
    ·rw [if_neg e2, if_neg (by omega)]
theorem iN_eq (h : BInv M B) (hM : M ≤ 274877906944) {k : Int} (hk : In k) :
  ∀ n : Nat, n ≤ 11 → (∀ i : Int, 0 ≤ i → i < n → 0 ≤ ph k B i i) → iN k B n = some fun (a c : Int) => if (0 ≤ a ∧ a < n) ∧ In c then ph k B a c else B a c
 | 0, _, _ => by show some B = _; congr 1; funext a c; rw [if_neg (by omega)]
 | n + 1, hn, hp => by
  have ih := iN_eq h hM hk n (by omega) (fun i h0 h1 => hp i h0 (by omega)); show (iN k B n).bind (stepI k n) = _; rw [ih, Option.bind_some]
  have hnI : In (n : Int) := ⟨by omega, by omega⟩
  obtain ⟨D, hD⟩ : ∃ D : Int → Int → Int, (fun (a c : Int) => if (0 ≤ a ∧ a < n) ∧ In c then ph k B a c else B a c) = D := ⟨_, rfl⟩
  have hDv : ∀ a c, D a c = if (0 ≤ a ∧ a < n) ∧ In c then ph k B a c else B a c := fun a c => by rw [← hD]
  rw [hD]
  have hr : ∀ c, In c → D k c = B k c := fun c hc => by
   rw [hDv]; split
   ·exact ph_row h hM hk hc
   ·rfl
  have hr2 : ∀ c, In c → D n c = B n c := fun c hc => by rw [hDv, if_neg (by omega)]
  unfold stepI; rw [hr2 k hk]
  by_cases c : B n k = FREE
  ·rw [if_pos c]
   congr 1
   funext a b
   rw [hDv]
   by_cases e : a = (n : Int) ∧ In b
   ·obtain ⟨rfl, hb⟩ := e; rw [if_neg (by omega), if_pos ⟨by omega, hb⟩]; unfold ph; rw [if_pos (.inl c)]
   ·by_cases e2 : (0 ≤ a ∧ a < (n : Int)) ∧ In b
    ·rw [if_pos e2, if_pos ⟨by omega, e2.2⟩]
    ·rw [if_neg e2, if_neg (fun hh => by
      by_cases ea : a = (n : Int)
      ·exact e ⟨ea, hh.2⟩
      ·exact e2 ⟨by omega, hh.2⟩)]
  ·rw [if_neg c]; have hj := jN_eq h hM (D := D) hk hnI hr hr2 c 11 (Nat.le_refl _)
   have hnn : jN k n D 11 n n = ph k B n n := by
    rw [hj]; show (if _ then _ else _) = _; rw [if_pos ⟨rfl, by omega, by omega⟩]
   rw [hnn, if_neg (by have := hp n (by omega) (by omega); omega), hj]
   congr 1
   funext a b
   by_cases e : a = (n : Int) ∧ In b
   ·obtain ⟨rfl, hb⟩ := e; rw [if_pos ⟨rfl, hb.1, by have := hb.2; omega⟩, if_pos ⟨by omega, hb⟩]
   ·rw [if_neg (fun hh => e ⟨hh.1, hh.2.1, by have := hh.2.2; omega⟩), hDv]
    by_cases e2 : (0 ≤ a ∧ a < (n : Int)) ∧ In b
    ·rw [if_pos e2, if_pos ⟨by omega, e2.2⟩]
    ·rw [if_neg e2, if_neg (fun hh => by
      by_cases ea : a = (n : Int)
      ·exact e ⟨ea, hh.2⟩
      ·exact e2 ⟨by omega, hh.2⟩)]
theorem iN_nonneg (h : BInv M B) (hM : M ≤ 274877906944) {k : Int} (hk : In k) : ∀ (n : Nat) (D : Int → Int → Int), n ≤ 11 → iN k B n = some D → ∀ i : Int, 0 ≤ i → i < n → 0 ≤ ph k B i i
 | 0, _, _, _ => fun i h0 h1 => by omega
 | n + 1, D, hn, h0 => by
  intro i hi0 hi1; have hs : (iN k B n).bind (stepI k n) = some D := h0; obtain ⟨D', hD', hs⟩ := Option.bind_eq_some_iff.mp hs; have ih := iN_nonneg h hM hk n D' (by omega) hD'
  by_cases hlt : i < n
  ·exact ih i hi0 hlt
  ·obtain rfl : i = (n : Int) := by omega
   have hnI : In (n : Int) := ⟨by omega, by omega⟩
   have e := iN_eq h hM hk n (by omega) ih; rw [hD'] at e
   injection e with e
   have hr : ∀ c, In c → D' k c = B k c := fun c hc => by
    rw [e]; show (if _ then _ else _) = _
    split
    ·exact ph_row h hM hk hc
    ·rfl
   have hr2 : ∀ c, In c → D' n c = B n c := fun c hc => by rw [e]; show (if _ then _ else _) = _; rw [if_neg (by omega)]
   unfold stepI at hs; rw [hr2 k hk] at hs
   by_cases c : B n k = FREE
   ·unfold ph; rw [if_pos (.inl c), h.diag _ hnI]; exact Int.le_refl _
   ·rw [if_neg c] at hs; have hj := jN_eq h hM (D := D') hk hnI hr hr2 c 11 (Nat.le_refl _)
    have hnn : jN k n D' 11 n n = ph k B n n := by
     rw [hj]; show (if _ then _ else _) = _; rw [if_pos ⟨rfl, by omega, by omega⟩]
    rw [hnn] at hs
    by_cases hlt : ph k B n n < 0
    ·rw [if_pos hlt] at hs; cases hs
    ·omega
theorem ph_neg (h : BInv M B) (hM : M ≤ 274877906944) {k i : Int} (hk : In k) (hi : In i) (hn : ph k B i i < 0) : ¬ ∃ t, Sat B t := by
 rintro ⟨t, ht⟩; unfold ph at hn
 split at hn
 ·rw [h.diag i hi] at hn; omega
 ·rename_i c
  have a := ht i k hi hk (fun hh => c (.inl hh)); have b := ht k i hk hi (fun hh => c (.inr hh)); rw [h.diag i hi] at hn
  rcases mn_or 0 (B i k + B k i) with e | e <;> rw [e] at hn <;> omega
def Clo (B : Int → Int → Int) (n : Int) : Prop := ∀ k i j, In k → k < n → In i → In j → B i k ≠ FREE → B k j ≠ FREE → B i j ≠ FREE ∧ B i j ≤ B i k + B k j
def full (k : Int) (B : Int → Int → Int) : Int → Int → Int := fun a c => if (0 ≤ a ∧ a < ((11 : Nat) : Int)) ∧ In c then ph k B a c else B a c
theorem full_at {k i j : Int} (hi : In i) (hj : In j) : full k B i j = ph k B i j := if_pos ⟨⟨hi.1, by have := hi.2; omega⟩, hj⟩
theorem full_inv (h : BInv M B) (hM : M ≤ 274877906944) {k : Int} (hk : In k) (hp : ∀ i, In i → 0 ≤ ph k B i i) : BInv (2 * M) (full k B) := by
 refine ⟨fun i hi => ?_, fun i j hi hj => ?_, fun i j hi hj => ?_⟩
 ·rw [full_at hi hi]; have h1 := hp i hi; have hd := h.diag i hi; unfold ph at h1 ⊢
  split
  ·exact hd
  ·rename_i c
   rw [if_neg c, hd] at h1; rw [hd]; have := mn_le1 0 (B i k + B k i); omega
 ·rw [full_at hi hj]; exact ph_bd h hM hk hi hj
 ·rw [full_at hi hj, full_at hj hi]; intro h1 h2; have h2 := (ph_free h hM hk hj hi).mp h2; apply h1; rw [ph_free h hM hk hi hj]; refine ⟨Classical.byContradiction fun c => h.sym i j hi hj c h2.1, ?_⟩
  rcases h2.2 with e | e
  ·right; exact Classical.byContradiction fun c => h.sym k j hk hj c e
  ·left; exact Classical.byContradiction fun c => h.sym i k hi hk c e
theorem full_sat (h : BInv M B) (hM : M ≤ 274877906944) {k : Int} (hk : In k) (t : Int → Int) : Sat (full k B) t ↔ Sat B t := by
 constructor
 ·intro ht i j hi hj hf
  have hf' : ph k B i j ≠ FREE := fun hh => hf ((ph_free h hM hk hi hj).mp hh).1
  have a := ht i j hi hj (by rw [full_at hi hj]; exact hf'); rw [full_at hi hj] at a; have := ph_le h hM hk hi hj hf' hf; omega
 ·intro ht i j hi hj hf; rw [full_at hi hj] at hf ⊢
  by_cases c : B i k = FREE ∨ B k j = FREE
  ·have e : ph k B i j = B i j := by unfold ph; rw [if_pos c]
   rw [e] at hf ⊢; exact ht i j hi hj hf
  ·have a := ht i k hi hk (fun hh => c (.inl hh)); have b := ht k j hk hj (fun hh => c (.inr hh))
   have e : ph k B i j = mn (B i j) (B i k + B k j) := by unfold ph; rw [if_neg c]
   rw [e]
   by_cases d : B i j = FREE
   ·have b1 := (h.bd i k hi hk).resolve_left (fun hh => c (.inl hh)); have b2 := (h.bd k j hk hj).resolve_left (fun hh => c (.inr hh)); rw [d, mn_eq]; unfold FREE; omega
   ·have f := ht i j hi hj d
    rcases mn_or (B i j) (B i k + B k j) with e | e <;> rw [e] <;> omega
theorem full_clo (h : BInv M B) (hM : M ≤ 274877906944) {k : Int} (hk : In k) (hc : Clo B k) : Clo (full k B) (k + 1) := by
 intro m i j hm hmk hi hj; rw [full_at hi hm, full_at hm hj, full_at hi hj]
 by_cases e : m = k
 ·subst e; rw [ph_col h hM hm hi, ph_row h hM hm hj]; intro a b; refine ⟨fun hh => ((ph_free h hM hm hi hj).mp hh).2.elim a b, ?_⟩; rw [ph_val h hM hm hi hj a b]; exact mn_le2 _ _
 ·have hlt : m < k := by omega
  intro a b; have hkk := hc m k k hm hlt hk hk; rw [h.diag k hk] at hkk
  have A : (B i m ≠ FREE ∧ ph k B i m = B i m) ∨ (B i k ≠ FREE ∧ B k m ≠ FREE ∧ ph k B i m = B i k + B k m) := by
   by_cases c : B i k = FREE ∨ B k m = FREE
   ·have e : ph k B i m = B i m := by unfold ph; rw [if_pos c]
    exact .inl ⟨by rw [← e]; exact a, e⟩
   ·have c1 := fun hh => c (.inl hh)
    have c2 := fun hh => c (.inr hh)
    have e := ph_val h hM hk hi hm c1 c2
    by_cases d : B i m = FREE
    ·right; refine ⟨c1, c2, ?_⟩; rw [e, d, mn_eq]; have b1 := (h.bd i k hi hk).resolve_left c1; have b2 := (h.bd k m hk hm).resolve_left c2; unfold FREE; omega
    ·rcases mn_or (B i m) (B i k + B k m) with f | f
     ·left; exact ⟨d, e.trans f⟩
     ·right; exact ⟨c1, c2, e.trans f⟩
  have A' : (B m j ≠ FREE ∧ ph k B m j = B m j) ∨ (B m k ≠ FREE ∧ B k j ≠ FREE ∧ ph k B m j = B m k + B k j) := by
   by_cases c : B m k = FREE ∨ B k j = FREE
   ·have e : ph k B m j = B m j := by unfold ph; rw [if_pos c]
    exact .inl ⟨by rw [← e]; exact b, e⟩
   ·have c1 := fun hh => c (.inl hh)
    have c2 := fun hh => c (.inr hh)
    have e := ph_val h hM hk hm hj c1 c2
    by_cases d : B m j = FREE
    ·right; refine ⟨c1, c2, ?_⟩; rw [e, d, mn_eq]; have b1 := (h.bd m k hm hk).resolve_left c1; have b2 := (h.bd k j hk hj).resolve_left c2; unfold FREE; omega
    ·rcases mn_or (B m j) (B m k + B k j) with f | f
     ·left; exact ⟨d, e.trans f⟩
     ·right; exact ⟨c1, c2, e.trans f⟩
  have viaK : B i k ≠ FREE → B k j ≠ FREE → ph k B i j ≠ FREE ∧ ph k B i j ≤ B i k + B k j := fun c1 c2 => by
   refine ⟨fun hh => ((ph_free h hM hk hi hj).mp hh).2.elim c1 c2, ?_⟩; rw [ph_val h hM hk hi hj c1 c2]; exact mn_le2 _ _
  rcases A with ⟨a1, a2⟩ | ⟨a1, a2, a3⟩
  ·rcases A' with ⟨b1, b2⟩ | ⟨b1, b2, b3⟩
   ·have w := hc m i j hm hlt hi hj a1 b1
    have f : ph k B i j ≠ FREE := fun hh => w.1 ((ph_free h hM hk hi hj).mp hh).1
    have := ph_le h hM hk hi hj f w.1; exact ⟨f, by omega⟩
   ·have w := hc m i k hm hlt hi hk a1 b1; have v := viaK w.1 b2; exact ⟨v.1, by omega⟩
  ·rcases A' with ⟨b1, b2⟩ | ⟨b1, b2, b3⟩
   ·have w := hc m k j hm hlt hk hj a2 b1; have v := viaK a1 w.1; exact ⟨v.1, by omega⟩
   ·have v := viaK a1 b2; have w := hkk a2 b1; exact ⟨v.1, by omega⟩
end
def pow2 : Nat → Int
 | 0 => 1
 | n + 1 => 2 * pow2 n
theorem kN_spec {M : Int} {B : Int → Int → Int} (h : BInv M B) (h0 : 0 ≤ M) (hM : M ≤ 134217728) : ∀ n : Nat, n ≤ 11 →
  (∀ C, kN B n = some C → BInv (pow2 n * M) C ∧ (∀ t, Sat C t ↔ Sat B t) ∧ Clo C n) ∧ (kN B n = none → ¬ ∃ t, Sat B t)
 | 0, _ => ⟨fun C hC => by
   injection hC with hC
   subst hC
   exact ⟨by show BInv (1 * M) B; rw [Int.one_mul]; exact h, fun t => Iff.rfl, fun k i j hk hlt => by have := hk.1; omega⟩, fun hC => by cases hC⟩
 | n + 1, hn => by
  obtain ⟨ih1, ih2⟩ := kN_spec h h0 hM n (by omega)
  have hp2 : ∀ m : Nat, m ≤ 11 → pow2 m * M ≤ 274877906944 ∧ 0 ≤ pow2 m * M := by
   intro m hm
   have : m = 0 ∨ m = 1 ∨ m = 2 ∨ m = 3 ∨ m = 4 ∨ m = 5 ∨ m = 6 ∨ m = 7 ∨ m = 8 ∨ m = 9 ∨ m = 10 ∨ m = 11 := by omega
   rcases this with e | e | e | e | e | e | e | e | e | e | e | e <;> subst e <;> simp only [pow2] <;> omega
  have hkn : kN B (n + 1) = (kN B n).bind fun C => iN n C 11 := rfl
  have hnI : In (n : Int) := ⟨by omega, by omega⟩
  cases hC : kN B n with
  | none =>
   rw [hkn, hC]
   exact ⟨fun C h => (by cases h), fun _ => ih2 hC⟩
  | some C =>
   obtain ⟨a1, a2, a3⟩ := ih1 C hC; have hMn := (hp2 n (by omega)).1; rw [hkn, hC, Option.bind_some]
   by_cases hp : ∀ i, In i → 0 ≤ ph n C i i
   ·have e := iN_eq a1 hMn hnI 11 (Nat.le_refl _) (fun i h0 h1 => hp i ⟨h0, by omega⟩); rw [e]; refine ⟨fun D hD => ?_, fun hD => by cases hD⟩
    injection hD with hD
    subst hD; refine ⟨?_, fun t => ?_, ?_⟩
    ·have := full_inv a1 hMn hnI hp; rw [show pow2 (n + 1) * M = 2 * (pow2 n * M) by show 2 * pow2 n * M = _; rw [Int.mul_assoc]]; exact this
    ·exact (full_sat a1 hMn hnI t).trans (a2 t)
    ·have := full_clo a1 hMn hnI a3; rw [show ((n + 1 : Nat) : Int) = (n : Int) + 1 by omega]; exact this
   ·have hnot : ¬ ∃ t, Sat B t := by
     rintro ⟨t, ht⟩
     refine hp fun i hi => Int.not_lt.mp fun hlt => ph_neg a1 hMn hnI hi hlt ⟨t, (a2 t).mpr ht⟩
    refine ⟨fun D hD => ?_, fun _ => hnot⟩; exact absurd (fun i hi => iN_nonneg a1 hMn hnI 11 D (Nat.le_refl _) hD i hi.1 (by have := hi.2; omega)) hp
end
section
theorem rowN_at (i : Int) (B : Int → Int → Int) : ∀ n : Nat, rowN i B n = fun (a c : Int) => if a = i ∧ 0 ≤ c ∧ c < n ∧ c ≠ i then FREE else B a c
 | 0 => by funext a c; rw [if_neg (by omega)]; rfl
 | n + 1 => by
  show (if i = n then rowN i B n else set2 (rowN i B n) i n FREE) = _; rw [rowN_at i B n]
  funext a c
  by_cases hi : i = n
  ·rw [if_pos hi]; show (if _ then _ else _) = _
   by_cases h : a = i ∧ 0 ≤ c ∧ c < n ∧ c ≠ i
   ·rw [if_pos h, if_pos (by omega)]
   ·rw [if_neg h, if_neg (by omega)]
  ·rw [if_neg hi]; unfold set2
   by_cases h1 : a = i ∧ c = n
   ·rw [if_pos h1, if_pos (by omega)]
   ·rw [if_neg h1]; show (if _ then _ else _) = _
    by_cases h : a = i ∧ 0 ≤ c ∧ c < n ∧ c ≠ i
    ·rw [if_pos h, if_pos (by omega)]
    ·rw [if_neg h, if_neg (by omega)]
theorem fillN_at : ∀ n : Nat, fillN n = fun (a c : Int) => if 0 ≤ a ∧ a < n ∧ 0 ≤ c ∧ c < 11 ∧ c ≠ a then FREE else 0
 | 0 => by funext a c; rw [if_neg (by omega)]; rfl
 | n + 1 => by
  show rowN n (fillN n) 11 = _; rw [rowN_at, fillN_at n]
  funext a c
  by_cases h : a = (n : Int) ∧ 0 ≤ c ∧ c < ((11 : Nat) : Int) ∧ c ≠ (n : Int)
  ·rw [if_pos h, if_pos (by omega)]
  ·rw [if_neg h]; show (if _ then _ else _) = _
   by_cases h2 : 0 ≤ a ∧ a < n ∧ 0 ≤ c ∧ c < 11 ∧ c ≠ a
   ·rw [if_pos h2, if_pos (by omega)]
   ·rw [if_neg h2, if_neg (by omega)]
theorem fill_inv : BInv 2000000 (fillN 11) := by
 rw [fillN_at]; refine ⟨fun i hi => ?_, fun i j hi hj => ?_, fun i j hi hj => ?_⟩
 ·exact if_neg (by omega)
 ·show (if _ then _ else _) = _ ∨ _
  split
  ·exact .inl rfl
  ·right; omega
 ·show (if _ then _ else _) ≠ _ → (if _ then _ else _) ≠ _; intro h; obtain ⟨i0, i1⟩ := hi; obtain ⟨j0, j1⟩ := hj
  by_cases e : i = j
  ·rw [if_neg (by omega)]; unfold FREE; omega
  ·rw [if_pos (by omega)] at h; exact absurd rfl h
theorem fill_sat (t : Int → Int) : Sat (fillN 11) t := by
 rw [fillN_at]; intro i j hi hj h; obtain ⟨i0, i1⟩ := hi; obtain ⟨j0, j1⟩ := hj
 by_cases e : i = j
 ·subst e
  show _ ≤ (if _ then _ else _)
  rw [if_neg (by omega)]; omega
 ·exact absurd (if_pos (by omega)) h
structure FactOk (f : S158) : Prop where
 i0 : In f.f0
 i1 : In f.f1
 ne : f.f0 ≠ f.f1
 lo : -2000000 ≤ f.f2 ∧ f.f2 ≤ 2000000
 hi : -2000000 ≤ f.f3 ∧ f.f3 ≤ 2000000
def Keeps (f : S158) (t : Int → Int) : Prop := f.f2 ≤ t f.f1 - t f.f0 ∧ t f.f1 - t f.f0 ≤ f.f3
section
variable {B : Int → Int → Int} {f : S158}
theorem say_at (hf : FactOk f) (a c : Int) : sayF B f a c = if a = f.f1 ∧ c = f.f0 then mn (B f.f1 f.f0) (-f.f2) else if a = f.f0 ∧ c = f.f1 then mn (B f.f0 f.f1) f.f3 else B a c := by
 have hne := hf.ne; have hlo := hf.lo
 have hw : wrap64 (-f.f2) = -f.f2 := by unfold wrap64; omega
 have e : sayF B f = set2 (set2 B f.f0 f.f1 (mn (B f.f0 f.f1) f.f3)) f.f1 f.f0 (mn (set2 B f.f0 f.f1 (mn (B f.f0 f.f1) f.f3) f.f1 f.f0) (wrap64 (-f.f2))) := rfl; have e2 : set2 B f.f0 f.f1 (mn (B f.f0 f.f1) f.f3) f.f1 f.f0 = B f.f1 f.f0 := if_neg (by omega); rw [e, hw, e2]; rfl
theorem say_inv (h : BInv 2000000 B) (hf : FactOk f) : BInv 2000000 (sayF B f) := by
 have hne := hf.ne; have hlo := hf.lo; have hhi := hf.hi; have b1 := h.bd f.f1 f.f0 hf.i1 hf.i0; have b2 := h.bd f.f0 f.f1 hf.i0 hf.i1
 have v1 : -2000000 ≤ mn (B f.f1 f.f0) (-f.f2) ∧ mn (B f.f1 f.f0) (-f.f2) ≤ 2000000 := by rw [mn_eq]; unfold FREE at b1; omega
 have v2 : -2000000 ≤ mn (B f.f0 f.f1) f.f3 ∧ mn (B f.f0 f.f1) f.f3 ≤ 2000000 := by rw [mn_eq]; unfold FREE at b2; omega
 have n1 : mn (B f.f1 f.f0) (-f.f2) ≠ FREE := by unfold FREE; omega
 have n2 : mn (B f.f0 f.f1) f.f3 ≠ FREE := by unfold FREE; omega
 refine ⟨fun i hi => ?_, fun i j hi hj => ?_, fun i j hi hj => ?_⟩
 ·rw [say_at hf, if_neg (by omega), if_neg (by omega)]; exact h.diag i hi
 ·rw [say_at hf]
  split
  ·exact .inr v1
  ·split
   ·exact .inr v2
   ·exact h.bd i j hi hj
 ·rw [say_at hf, say_at hf]; intro hh
  by_cases c1 : j = f.f1 ∧ i = f.f0
  ·rw [if_pos c1]; exact n1
  ·rw [if_neg c1]
   by_cases c2 : j = f.f0 ∧ i = f.f1
   ·rw [if_pos c2]; exact n2
   ·rw [if_neg c2]; rw [if_neg (by omega), if_neg (by omega)] at hh; exact h.sym i j hi hj hh
theorem say_sat (h : BInv 2000000 B) (hf : FactOk f) (t : Int → Int) : Sat (sayF B f) t ↔ Sat B t ∧ Keeps f t := by
 have hne := hf.ne; have hlo := hf.lo; have hhi := hf.hi; have b1 := h.bd f.f1 f.f0 hf.i1 hf.i0; have b2 := h.bd f.f0 f.f1 hf.i0 hf.i1
 have v1 : mn (B f.f1 f.f0) (-f.f2) ≤ 2000000 := by rw [mn_eq]; omega
 have v2 : mn (B f.f0 f.f1) f.f3 ≤ 2000000 := by rw [mn_eq]; omega
 have n1 : mn (B f.f1 f.f0) (-f.f2) ≠ FREE := by unfold FREE; omega
 have n2 : mn (B f.f0 f.f1) f.f3 ≠ FREE := by unfold FREE; omega
 have l1 := mn_le1 (B f.f1 f.f0) (-f.f2); have l2 := mn_le2 (B f.f1 f.f0) (-f.f2); have m1 := mn_le1 (B f.f0 f.f1) f.f3; have m2 := mn_le2 (B f.f0 f.f1) f.f3; constructor
 ·intro ht; refine ⟨fun i j hi hj hb => ?_, ?_⟩
  ·have := ht i j hi hj; rw [say_at hf] at this
   by_cases c1 : i = f.f1 ∧ j = f.f0
   ·rw [if_pos c1] at this; have := this n1; obtain ⟨rfl, rfl⟩ := c1; omega
   ·rw [if_neg c1] at this
    by_cases c2 : i = f.f0 ∧ j = f.f1
    ·rw [if_pos c2] at this; have := this n2; obtain ⟨rfl, rfl⟩ := c2; omega
    ·rw [if_neg c2] at this; exact this hb
  ·have a := ht f.f1 f.f0 hf.i1 hf.i0; have b := ht f.f0 f.f1 hf.i0 hf.i1; rw [say_at hf, if_pos ⟨rfl, rfl⟩] at a; rw [say_at hf, if_neg (by omega), if_pos ⟨rfl, rfl⟩] at b; have a := a n1; have b := b n2; exact ⟨by omega, by omega⟩
 ·rintro ⟨ht, k1, k2⟩ i j hi hj hb; rw [say_at hf] at hb ⊢
  by_cases c1 : i = f.f1 ∧ j = f.f0
  ·rw [if_pos c1]; obtain ⟨rfl, rfl⟩ := c1
   by_cases c : B f.f1 f.f0 = FREE
   ·rw [c, mn_eq]; unfold FREE; omega
   ·have := ht _ _ hi hj c; rw [mn_eq]; omega
  ·rw [if_neg c1] at hb ⊢
   by_cases c2 : i = f.f0 ∧ j = f.f1
   ·rw [if_pos c2]; obtain ⟨rfl, rfl⟩ := c2
    by_cases c : B f.f0 f.f1 = FREE
    ·rw [c, mn_eq]; unfold FREE; omega
    ·have := ht _ _ hi hj c; rw [mn_eq]; omega
   ·rw [if_neg c2] at hb ⊢; exact ht i j hi hj hb
end
theorem fold_spec (om : Int → Bool) : ∀ (L : List (Int × S158)) (B : Int → Int → Int), BInv 2000000 B → (∀ x ∈ L, FactOk x.2) →
  BInv 2000000 (L.foldl (fun B x => if om x.1 = true then B else sayF B x.2) B) ∧ ∀ t, Sat (L.foldl (fun B x => if om x.1 = true then B else sayF B x.2) B) t ↔ Sat B t ∧ ∀ x ∈ L, om x.1 = false → Keeps x.2 t
 | [], B, h, _ => ⟨h, fun t => ⟨fun ht => ⟨ht, fun x hx => by cases hx⟩, fun ht => ht.1⟩⟩
 | x :: L, B, h, hL => by
  have hx := hL x List.mem_cons_self
  have hr := fun y hy => hL y (List.mem_cons_of_mem _ hy)
  rw [List.foldl_cons]
  by_cases c : om x.1 = true
  ·rw [if_pos c]; obtain ⟨a, b⟩ := fold_spec om L B h hr; refine ⟨a, fun t => (b t).trans ⟨fun k => ⟨k.1, fun y hy ho => ?_⟩, fun k => ⟨k.1, fun y hy => k.2 y (List.mem_cons_of_mem _ hy)⟩⟩⟩
   rcases List.mem_cons.mp hy with rfl | hy
   ·rw [c] at ho; cases ho
   ·exact k.2 y hy ho
  ·rw [if_neg c]; obtain ⟨a, b⟩ := fold_spec om L (sayF B x.2) (say_inv h hx) hr; refine ⟨a, fun t => (b t).trans ?_⟩; rw [say_sat h hx]; constructor
   ·rintro ⟨⟨k1, k2⟩, k3⟩; refine ⟨k1, fun y hy ho => ?_⟩
    rcases List.mem_cons.mp hy with rfl | hy
    ·exact k2
    ·exact k3 y hy ho
   ·rintro ⟨k1, k2⟩; exact ⟨⟨k1, k2 x List.mem_cons_self (by cases h : om x.1 with | true => exact absurd h c | false => rfl)⟩, fun y hy => k2 y (List.mem_cons_of_mem _ hy)⟩
theorem bind_spec (om : Int → Bool) (L : List (Int × S158)) (hL : ∀ x ∈ L, FactOk x.2) : BInv 2000000 (bindP om L) ∧ ∀ t, Sat (bindP om L) t ↔ ∀ x ∈ L, om x.1 = false → Keeps x.2 t := by
 obtain ⟨a, b⟩ := fold_spec om L (fillN 11) fill_inv hL; exact ⟨a, fun t => (b t).trans ⟨fun h => h.2, fun h => ⟨fill_sat t, h⟩⟩⟩
def repN (C : Int → Int → Int) (j : Int) : Nat → Int
 | 0 => 0
 | n + 1 => if C n j = FREE then repN C j n else n
theorem rep_in (C : Int → Int → Int) (j : Int) : ∀ n : Nat, n ≤ 11 → In (repN C j n)
 | 0, _ => ⟨by show (0 : Int) ≤ 0; omega, by show (0 : Int) < 11; omega⟩
 | n + 1, hn => by
  unfold repN
  split
  ·exact rep_in C j n (by omega)
  ·exact ⟨by omega, by omega⟩
theorem rep_ne (C : Int → Int → Int) (j : Int) : ∀ n : Nat, (∃ m : Int, 0 ≤ m ∧ m < n ∧ C m j ≠ FREE) → C (repN C j n) j ≠ FREE
 | 0, ⟨m, h0, h1, _⟩ => by omega
 | n + 1, ⟨m, h0, h1, h2⟩ => by
  unfold repN
  split
  ·rename_i c
   refine rep_ne C j n ⟨m, h0, ?_, h2⟩
   have : m ≠ (n : Int) := fun e => h2 (e ▸ c)
   omega
  ·rename_i c; exact c
theorem rep_congr (C : Int → Int → Int) (i j : Int) : ∀ n : Nat, n ≤ 11 → (∀ m, In m → (C m i = FREE ↔ C m j = FREE)) → repN C i n = repN C j n
 | 0, _, _ => rfl
 | n + 1, hn, h => by
  unfold repN; have := h n ⟨by omega, by omega⟩
  by_cases c : C n i = FREE
  ·rw [if_pos c, if_pos (this.mp c)]; exact rep_congr C i j n (by omega) h
  ·rw [if_neg c, if_neg (fun hh => c (this.mpr hh))]
def timesOf (C : Int → Int → Int) (r j : Int) : Int := if C r j = FREE then C (repN C j 11) j else C r j
theorem times_sat {M : Int} {C : Int → Int → Int} (h : BInv M C) (hc : Clo C 11) {r : Int} (hr : In r) : Sat C (timesOf C r) := by
 intro i j hi hj hf; unfold timesOf
 by_cases c : C r i = FREE
 ·have cj : C r j = FREE := Classical.byContradiction fun cj => (hc j r i hj hj.2 hr hi cj (h.sym i j hi hj hf)).1 c
  rw [if_pos c, if_pos cj]; have e := rep_congr C i j 11 (Nat.le_refl _) (fun m hm => ⟨fun hh => Classical.byContradiction fun cj => (hc j m i hj hj.2 hm hi cj (h.sym i j hi hj hf)).1 hh, fun hh => Classical.byContradiction fun ci => (hc i m j hi hi.2 hm hj ci hf).1 hh⟩); have hp := rep_in C i 11 (Nat.le_refl _); have hne := rep_ne C i 11 ⟨i, hi.1, by have := hi.2; omega, by rw [h.diag i hi]; unfold FREE; omega⟩; rw [← e]; have := (hc i _ j hi hi.2 hp hj hne hf).2; omega
 ·have w := hc i r j hi hi.2 hr hj c hf; rw [if_neg c, if_neg w.1]; omega
theorem times_at {C : Int → Int → Int} {r j : Int} (hf : C r j ≠ FREE) : timesOf C r j = C r j := if_neg hf
theorem mirror_inv {M : Int} {C : Int → Int → Int} (h : BInv M C) : BInv M (fun i j => C j i) := ⟨h.diag, fun i j hi hj => h.bd j i hj hi, fun i j hi hj => h.sym j i hj hi⟩
theorem mirror_clo {C : Int → Int → Int} (h : Clo C 11) : Clo (fun i j => C j i) 11 := fun k i j hk hlt hi hj a b => by
 have := h k j i hk hlt hj hi b a; exact ⟨this.1, by show C j i ≤ C k i + C j k; omega⟩
theorem mirror_sat {C : Int → Int → Int} {t : Int → Int} (h : Sat (fun i j => C j i) t) : Sat C (fun i => -(t i)) := fun i j hi hj hf => by
 have := h j i hj hi hf; show -(t j) - -(t i) ≤ C i j; have : t i - t j ≤ C i j := this; omega
theorem clo_last {M : Int} {C : Int → Int → Int} (h : BInv M C) (hc : Clo C 11) {r : Int} (hr : In r) : ∃ t, Sat C t ∧ t r = 0 ∧ ∀ j, In j → C r j ≠ FREE → t j = C r j :=
 ⟨timesOf C r, times_sat h hc hr, by
  have e := h.diag r hr
  rw [times_at (by rw [e]; unfold FREE; omega)]; exact e, fun j _ hf => times_at hf⟩
theorem clo_first {M : Int} {C : Int → Int → Int} (h : BInv M C) (hc : Clo C 11) {r : Int} (hr : In r) : ∃ t, Sat C t ∧ t r = 0 ∧ ∀ j, In j → C j r ≠ FREE → t j = -(C j r) := by
 obtain ⟨t, h1, h2, h3⟩ := clo_last (mirror_inv h) (mirror_clo hc) hr; exact ⟨fun i => -(t i), mirror_sat h1, by show -(t r) = 0; omega, fun j hj hf => by show -(t j) = _; rw [h3 j hj hf]⟩
theorem tighten_iff {B : Int → Int → Int} (h : BInv 2000000 B) : (tightenF B).isSome = true ↔ ∃ t, Sat B t := by
 obtain ⟨a, b⟩ := kN_spec h (by omega) (by omega) 11 (Nat.le_refl _); unfold tightenF
 cases hC : kN B 11 with
 | none => exact ⟨fun h => (by cases h), fun h => absurd h (b hC)⟩
 | some C =>
  obtain ⟨h1, h2, h3⟩ := a C hC; exact ⟨fun _ => ⟨timesOf C 0, (h2 _).mp (times_sat h1 h3 ⟨by omega, by omega⟩)⟩, fun _ => rfl⟩
theorem tighten_some {B C : Int → Int → Int} (h : BInv 2000000 B) (hC : tightenF B = some C) : BInv 4096000000 C ∧ (∀ t, Sat C t ↔ Sat B t) ∧ Clo C 11 := by
 obtain ⟨a, b⟩ := kN_spec h (by omega) (by omega) 11 (Nat.le_refl _); exact a C hC
end
section
def farF (num : S27 → Int) (bey : Int → Int → Bool) (b : Int) (l : List S27) : Int := l.foldl (fun b x => if bey (num x) b = true then num x else b) b
theorem farF_cons (num : S27 → Int) (bey : Int → Int → Bool) (b : Int) (l : List S27) (i : Int) (h0 : 0 ≤ i) (h1 : i < l.length) :
  farF num bey b (l.drop i.toNat) = farF num bey (if bey (num (rd_T27 l i)) b = true then num (rd_T27 l i) else b) (l.drop (i + 1).toNat) := by
 have hl : i.toNat < l.length := by omega
 have e : (i + 1).toNat = i.toNat + 1 := by omega
 have er : rd_T27 l i = l[i.toNat] := by simp [rd_T27, List.getD_eq_getElem?_getD, hl]
 rw [List.drop_eq_getElem_cons hl, e, er]; rfl
set_option maxHeartbeats 2000000 in
set_option maxRecDepth 100000 in
theorem far_vote (A0 : Option Addr) (c0 : Nat) (l0 : List S27) (b0 : Int) (w : World) (cb : Nat) (Inv : World → Prop) (num : S27 → Int) (hI : Inv w) (hs : ∀ W W', Inv W → Below W.heap.size W W' → Inv W')
  (hC : ∀ W, Inv W → Kd.C k27 W A0 l0.length l0)
  (hn : ∀ (s : S27) (W : World), Inv W → Calls Try.prog 102 #[.agg #[.int .i64 s.f0, .int .i64 s.f1], .pointer (some ⟨cb, 0, none⟩)] W fun e W' => e = .returned (.int .i64 (num s)) ∧ Below W.heap.size W W') :
  Calls Try.prog 101 #[.int .i64 b0, .slice A0 l0.length c0, .func (.func 102) #[] #[.pointer (some ⟨cb, 0, none⟩)], .func (.func 103) #[] #[]] w fun e w' => e = .returned (.int .i64 (farF num (fun a b => decide (a > b)) b0 l0)) ∧ Inv w' ∧ Below w.heap.size w w' := by
 have hu27 := Try.underlying27; have HM := Aa (hC _ hI).2.1; have HI := Aa hI; have HS := Aa hs; have HC := Aa hC; have HN := Aa hn; clear hI hs hC hn; have hm := HM.out
 go_enter Try.func101, Try.ntmps101
 go_wp2
 go_loopw [0, 10, 14] (fun v0 _ v14 W => ∃ (i b : Int), 0 ≤ i ∧ i ≤ l0.length ∧ v0 = .int .i64 b ∧ v14 = .int .i64 i ∧ Aside0 (farF num (fun a b => decide (a > b)) b (l0.drop i.toNat) = farF num (fun a b => decide (a > b)) b0 l0) ∧ Aside0 (Inv W) ∧ Aside0 (Below w.heap.size w W)) (fun _ _ v _ => l0.length - (intOf v).toNat)
 case atStart => exact ⟨0, b0, by omega, by omega, rfl, rfl, ⟨rfl⟩, HI, ⟨Below.refl _ _⟩⟩
 case round =>
  obtain ⟨i, b, h0, hk, rfl, rfl, HA, HI, HB⟩ := hrel
  by_cases hlt : i < l0.length
  ·obtain ⟨ad, e217, hx0, hx1⟩ := at_T27 (HC.out _ HI.out) i h0 hlt; cases e217; have hA := HA.out; rw [farF_cons _ _ _ _ i h0 hlt] at hA; clear HA; have HA := Aa hA; clear hA
   obtain ⟨x, hx⟩ : ∃ x, rd_T27 l0 i = x := ⟨_, rfl⟩
   rw [hx] at hx0 hx1 HA
   obtain ⟨q, hq⟩ : ∃ q, num x = q := ⟨_, rfl⟩
   have hc := HN.out x; rw [hq] at hc HA; have HCx := Aa hc; clear hc hq hx; have HI2 := Aa (HS.out _ _ HI.out (Ba (Below.refl _ _) (.cells #[.int .i64 x.f0, .int .i64 x.f1] 27))); have HB2 := Aa (Ba HB.out (.cells #[.int .i64 x.f0, .int .i64 x.f1] 27)); clear HI HB
   by_cases hg : q > b
   ·have hA := HA.out; rw [if_pos (by simp only [decide_eq_true_eq]; exact hg)] at hA; clear HA; have HA := Aa hA; clear hA
    go_wp2_with (first | (go_at_call 102; refine (HCx.out _ HI2.out).mono ?_; rintro e w1 ⟨rfl, hb⟩; have HI3 := Aa (HS.out _ _ HI2.out hb); have HB3 := Aa (Bp HB2.out hb); clear HI2 HB2 hb) | (go_at_call 103; refine (skew_greater.calls _ _ _ _ rfl).mono ?_; rintro e w2 ⟨rfl, ⟨nd, rfl⟩⟩))
    go_roundw
    case rel => exact ⟨i + 1, q, by omega, by omega, rfl, rfl, HA, ⟨HS.out _ _ HI3.out (Pn (Below.refl _ _) nd)⟩, ⟨Pn HB3.out nd⟩⟩
    case measure => simp [intOf]; omega
   ·have hA := HA.out; rw [if_neg (by simp only [decide_eq_true_eq]; exact hg)] at hA; clear HA; have HA := Aa hA; clear hA
    go_wp2_with (first | (go_at_call 102; refine (HCx.out _ HI2.out).mono ?_; rintro e w1 ⟨rfl, hb⟩; have HI3 := Aa (HS.out _ _ HI2.out hb); have HB3 := Aa (Bp HB2.out hb); clear HI2 HB2 hb) | (go_at_call 103; refine (skew_greater.calls _ _ _ _ rfl).mono ?_; rintro e w2 ⟨rfl, ⟨nd, rfl⟩⟩))
    go_roundw
    case rel => exact ⟨i + 1, b, by omega, by omega, rfl, rfl, HA, ⟨HS.out _ _ HI3.out (Pn (Below.refl _ _) nd)⟩, ⟨Pn HB3.out nd⟩⟩
    case measure => simp [intOf]; omega
  ·have hA := HA.out; rw [List.drop_of_length_le (by omega)] at hA; have HA2 := Aa hA; clear hA HA; go_wp2; go_ret; exact ⟨by rw [← HA2.out]; rfl, HI.out, HB.out⟩
end
section
def haveF (l : List S27) (t : Int) : Int := l.foldl (fun n s => if s.f0 ≤ t ∧ t ≤ s.f1 then n + 1 else n) 0
theorem drop_rd (l : List S27) (i : Int) (h0 : 0 ≤ i) (h1 : i < l.length) : l.drop i.toNat = rd_T27 l i :: l.drop (i + 1).toNat := by
 have hl : i.toNat < l.length := by omega
 have e : (i + 1).toNat = i.toNat + 1 := by omega
 have er : rd_T27 l i = l[i.toNat] := by simp [rd_T27, List.getD_eq_getElem?_getD, hl]
 rw [List.drop_eq_getElem_cons hl, e, er]
set_option maxHeartbeats 2000000 in
set_option maxRecDepth 100000 in
theorem have_calls (A0 : Option Addr) (c0 : Nat) (l0 : List S27) (t : Int) (b1 : Nat) (w : World) (h1 : w.heap[b1]? = some (.cells #[.slice A0 l0.length c0] 36 (0, 0))) (hr0 : Kd.C k27 w A0 l0.length l0) :
  Calls Try.prog 100 #[.int .i64 t, .pointer (some ⟨b1, 0, none⟩)] w fun e w' => e = .returned (.int .i64 (haveF l0 t)) ∧ Below w.heap.size w w' := by
 have hu27 := Try.underlying27; have hm := hr0.2.1; have HR0 := Aa hr0; have c1 := cell_at h1 0 (.slice A0 l0.length c0) rfl; clear hr0 h1
 go_enter Try.func100, Try.ntmps100
 go_wp2; clear c1
 go_loopw [4, 9] (fun v4 v9 W => ∃ (i n : Int), 0 ≤ i ∧ i ≤ l0.length ∧ 0 ≤ n ∧ n ≤ i ∧ v4 = .int .i64 n ∧ v9 = .int .i64 i ∧ Aside0 ((l0.drop i.toNat).foldl (fun n s => if s.f0 ≤ t ∧ t ≤ s.f1 then n + 1 else n) n = haveF l0 t) ∧ Aside0 (Below w.heap.size w W)) (fun _ v _ => l0.length - (intOf v).toNat)
 case atStart => exact ⟨0, 0, by omega, by omega, by omega, by omega, rfl, rfl, ⟨rfl⟩, ⟨Below.refl _ _⟩⟩
 case round =>
  obtain ⟨i, n, h0, hk, hn0, hn1, rfl, rfl, HA, HB⟩ := hrel
  by_cases hlt : i < l0.length
  ·obtain ⟨ad, e217, hx0, hx1⟩ := at_T27 HR0.out i h0 hlt; cases e217; replace hx0 := (HB.out.cell (Wb w _ hx0)).trans hx0; replace hx1 := (HB.out.cell (Wb w _ hx1)).trans hx1; have hA := HA.out; rw [drop_rd l0 i h0 hlt, List.foldl_cons] at hA; clear HA
   obtain ⟨x, hx⟩ : ∃ x, rd_T27 l0 i = x := ⟨_, rfl⟩
   rw [hx] at hx0 hx1 hA; clear hx; have HB2 := Aa (Ba HB.out (.cells #[.int .i64 x.f0, .int .i64 x.f1] 27))
   by_cases g1 : x.f0 ≤ t
   ·by_cases g2 : t ≤ x.f1
    ·rw [if_pos ⟨g1, g2⟩] at hA; have HA := Aa hA; clear hA; go_wp2
     go_roundw
     case rel => exact ⟨i + 1, n + 1, by omega, by omega, by omega, by omega, rfl, rfl, HA, HB2⟩
     case measure => simp [intOf]; omega
    ·rw [if_neg (fun h => g2 h.2)] at hA; have HA := Aa hA; clear hA; go_wp2
     go_roundw
     case rel => exact ⟨i + 1, n, by omega, by omega, by omega, by omega, rfl, rfl, HA, HB2⟩
     case measure => simp [intOf]; omega
   ·rw [if_neg (fun h => g1 h.1)] at hA; have HA := Aa hA; clear hA; go_wp2
    go_roundw
    case rel => exact ⟨i + 1, n, by omega, by omega, by omega, by omega, rfl, rfl, HA, HB2⟩
    case measure => simp [intOf]; omega
  ·have hA := HA.out; rw [List.drop_of_length_le (by omega)] at hA; have HA2 := Aa hA; clear hA HA; go_wp2; go_ret; exact ⟨by rw [← HA2.out]; rfl, HB.out⟩
set_option maxHeartbeats 2000000 in
set_option maxRecDepth 100000 in
theorem vote2_calls (A0 : Option Addr) (c0 : Nat) (l0 : List S27) (s : S27) (b1 b5 : Nat) (w : World) (h1 : w.heap[b1]? = some (.cells #[.slice A0 l0.length c0] 36 (0, 0)))
  (h5 : w.heap[b5]? = some (.cells #[.func (.func 100) #[] #[.pointer (some ⟨b1, 0, none⟩)]] 143 (0, 0))) (hr0 : Kd.C k27 w A0 l0.length l0) :
  Calls Try.prog 102 #[.agg #[.int .i64 s.f0, .int .i64 s.f1], .pointer (some ⟨b5, 0, none⟩)] w fun e w' => e = .returned (.int .i64 (haveF l0 s.f0)) ∧ Below w.heap.size w w' := by
 have hu27 := Try.underlying27; have HC := Aa (have_calls A0 c0 l0 s.f0 b1 (w.alloc (.cells #[.int .i64 s.f0, .int .i64 s.f1] 27)) (Ka h1 _) (Kd.C_alloc hr0 _)); have c5 := cell_at (Ka h5 (.cells #[.int .i64 s.f0, .int .i64 s.f1] 27)) 0 (.func (.func 100) #[] #[.pointer (some ⟨b1, 0, none⟩)]) rfl; clear hr0 h1 h5
 go_enter Try.func102, Try.ntmps102
 go_wp2_with (go_at_call 100; refine HC.out.mono ?_; rintro e w' ⟨rfl, hb⟩)
 go_ret; exact ⟨rfl, Bp (Ba (Below.refl _ _) _) hb⟩
def voteLow (l : List S27) (most : Int) (l' : List S27) (lo : Int) : Int := l'.foldl (fun lo s => if s.f0 < lo ∧ haveF l s.f0 = most then s.f0 else lo) lo
def voteHigh (l : List S27) (most lo : Int) (l' : List S27) (hi : Int) : Int := l'.foldl (fun hi s => if lo ≤ s.f1 ∧ s.f1 < hi ∧ haveF l (s.f1 + 1) < most then s.f1 else hi) hi
def voteMost (l : List S27) : Int := farF (fun s => haveF l s.f0) (fun a b => decide (a > b)) 0 l
def skew_Vote.f (l0 : List S27) : Option (Int × Int × Int × Int) :=
 if l0.length > 40 then some (0, 0, 0, 2) else
 if l0.all good27 = true then
  if l0.length = 0 then some (0, 0, 0, 5)
  else some (voteLow l0 (voteMost l0) l0 1000000, voteHigh l0 (voteMost l0) (voteLow l0 (voteMost l0) l0 1000000) l0 1000000, voteMost l0, 0)
 else some (0, 0, 0, 2)
theorem good_rd (l : List S27) (i : Int) (h : l.all good27 = true) (h0 : 0 ≤ i) (h1 : i < l.length) : -1000000 ≤ (rd_T27 l i).f0 ∧ (rd_T27 l i).f0 ≤ (rd_T27 l i).f1 ∧ (rd_T27 l i).f1 ≤ 1000000 := by
 have hl : i.toNat < l.length := by omega
 have e : rd_T27 l i = l[i.toNat] := by simp [rd_T27, List.getD_eq_getElem?_getD, hl]
 have := List.all_eq_true.1 h _ (List.getElem_mem hl); rw [← e] at this; simp only [good27, Bool.and_eq_true, decide_eq_true_eq] at this; omega
structure VoteInv (A0 : Option Addr) (c0 : Nat) (l0 : List S27) (b1 b2 b5 b7 : Nat) (lo hi : Int) (w W : World) : Prop where
 h1 : W.heap[b1]? = some (.cells #[.slice A0 l0.length c0] 36 (0, 0))
 h2 : W.heap[b2]? = some (.cells #[.int .i64 0, .int .i64 0] 27 (0, 0))
 h5 : W.heap[b5]? = some (.cells #[.func (.func 100) #[] #[.pointer (some ⟨b1, 0, none⟩)]] 143 (0, 0))
 h7 : W.heap[b7]? = some (.cells #[.int .i64 lo, .int .i64 hi] 27 (0, 0))
 hb : Below w.heap.size w W
 g7 : w.heap.size ≤ b7
 ne : b2 ≠ b7
section
variable {A0 : Option Addr} {c0 : Nat} {l0 : List S27} {b1 b2 b5 b7 : Nat} {lo hi : Int} {w W W' : World}
theorem VoteInv.step (h : VoteInv A0 c0 l0 b1 b2 b5 b7 lo hi w W) (hb : Below W.heap.size W W') : VoteInv A0 c0 l0 b1 b2 b5 b7 lo hi w W' :=
 ⟨blk_below h.h1 hb, blk_below h.h2 hb, blk_below h.h5 hb, blk_below h.h7 hb, Bp h.hb hb, h.g7, h.ne⟩
theorem VoteInv.alloc (h : VoteInv A0 c0 l0 b1 b2 b5 b7 lo hi w W) (o : Obj) : VoteInv A0 c0 l0 b1 b2 b5 b7 lo hi w (W.alloc o) := h.step (Ba (Below.refl _ _) _)
theorem VoteInv.put0 (h : VoteInv A0 c0 l0 b1 b2 b5 b7 lo hi w W) (x : Int) : VoteInv A0 c0 l0 b1 b2 b5 b7 x hi w (W.setCell ⟨b7, 0, none⟩ (.int .i64 x)) :=
 ⟨blk_far h.h1 (blk_ne h.h1 h.h7 (by decide)) _, blk_far h.h2 h.ne _, blk_far h.h5 (blk_ne h.h5 h.h7 (by decide)) _, blk_put h.h7 0 _ rfl, Bz h.hb h.g7, h.g7, h.ne⟩
theorem VoteInv.put1 (h : VoteInv A0 c0 l0 b1 b2 b5 b7 lo hi w W) (x : Int) : VoteInv A0 c0 l0 b1 b2 b5 b7 lo x w (W.setCell ⟨b7, 1, none⟩ (.int .i64 x)) :=
 ⟨blk_far h.h1 (blk_ne h.h1 h.h7 (by decide)) _, blk_far h.h2 h.ne _, blk_far h.h5 (blk_ne h.h5 h.h7 (by decide)) _, blk_put h.h7 1 _ rfl, Bz h.hb h.g7, h.g7, h.ne⟩
end
set_option maxHeartbeats 4000000 in
set_option maxRecDepth 100000 in
theorem skew_Vote.calls (A0 : Option Addr) (c0 : Nat) (l0 : List S27) (r1 r2 r3 r4 : Int) (w : World) (hr0 : Kd.C k27 w A0 l0.length l0) (hc0 : l0.length ≤ c0) (h : skew_Vote.f l0 = some (r1, r2, r3, r4)) :
  Calls Try.prog 42 #[.slice A0 l0.length c0] w fun e w' => e = .returned (.tuple #[.agg #[.int .i64 r1, .int .i64 r2], .int .i64 r3, .int .i64 r4]) ∧ Below w.heap.size w w' := by
 have hu27 := Try.underlying27; unfold skew_Vote.f at h; have HR0 := Aa hr0; clear hr0
 by_cases g1 : l0.length > 40
 ·rw [if_pos g1] at h; simp only [Option.some.injEq, Prod.mk.injEq] at h; obtain ⟨rfl, rfl, rfl, rfl⟩ := h
  have g1' : decide ((40 : Int) < (l0.length : Int)) = true := by simp; omega
  clear g1
  go_enter Try.func42, Try.ntmps42
  go_wp2
  have k2 : ((w.alloc (.cells #[.slice A0 l0.length c0] 36)).alloc (.cells #[.int .i64 0, .int .i64 0] 27)).heap[w.heap.size + 1]? = some (.cells #[.int .i64 0, .int .i64 0] 27) := by
   have := blk_new (w.alloc (.cells #[.slice A0 l0.length c0] 36)) (.cells #[.int .i64 0, .int .i64 0] 27); rwa [World.size_alloc] at this
  refine bodyPost_ret (results_ctt rfl _ _ (w.heap.size + 1) 27 #[.int .i64 0, .int .i64 0] (0, 0) _ rfl k2 Try.underlying27 rfl (by kernel_rfl)) rfl ?_; exact ⟨rfl, Ba (Ba (Below.refl _ _) _) _⟩
 ·rw [if_neg g1] at h
  have g1' : decide ((40 : Int) < (l0.length : Int)) = false := by simp; omega
  have k1 := Ka (blk_new w (.cells #[.slice A0 l0.length c0] 36)) (.cells #[.int .i64 0, .int .i64 0] 27)
  have k2 : ((w.alloc (.cells #[.slice A0 l0.length c0] 36)).alloc (.cells #[.int .i64 0, .int .i64 0] 27)).heap[w.heap.size + 1]? = some (.cells #[.int .i64 0, .int .i64 0] 27) := by
   have := blk_new (w.alloc (.cells #[.slice A0 l0.length c0] 36)) (.cells #[.int .i64 0, .int .i64 0] 27); rwa [World.size_alloc] at this
  have K1 := Aa k1; have K2 := Aa k2; have KB := Aa (Ba (Ba (Below.refl w.heap.size w) (.cells #[.slice A0 l0.length c0] 36)) (.cells #[.int .i64 0, .int .i64 0] 27)); clear k1 k2
  have hl : (l0.length : Int) ≤ 40 := by omega
  clear g1
  obtain ⟨b, hb⟩ : ∃ b, l0.all good27 = b := ⟨_, rfl⟩
  rw [hb] at h; have HA := Aa (skew_all.calls A0 c0 l0 b ((w.alloc (.cells #[.slice A0 l0.length c0] 36)).alloc (.cells #[.int .i64 0, .int .i64 0] 27)) (Kd.C_below HR0.out KB.out) hc0 (by unfold skew_all.f; rw [hb])); have HG := Aa hb; clear hb; cases b
  ·rw [if_neg (by simp)] at h; simp only [Option.some.injEq, Prod.mk.injEq] at h; obtain ⟨rfl, rfl, rfl, rfl⟩ := h
   go_enter Try.func42, Try.ntmps42
   go_wp2_with fail
   refine HA.out.mono ?_; rintro e w1 ⟨rfl, hb⟩; have h2 := blk_below K2.out hb; have HB := Aa (Bp KB.out hb); clear hb; have f0 := Bf h2 0; have f1 := Bf h2 1; have e0 := cell_at h2 0 _ rfl; have e1 := cell_at h2 1 _ rfl; have H2 := Aa h2; clear h2; go_wp2; refine bodyPost_ret (results_ctt rfl _ _ (w.heap.size + 1) 27 #[.int .i64 0, .int .i64 0] (0, 0) _ rfl (blk_put (cs := #[.int .i64 0, .int .i64 0]) (blk_put (cs := #[.int .i64 0, .int .i64 0]) H2.out 0 _ rfl) 1 _ rfl) Try.underlying27 rfl (by kernel_rfl)) rfl ?_; exact ⟨rfl, Bz (Bz HB.out (by omega)) (by omega)⟩
  ·rw [if_pos rfl] at h
   by_cases g0 : l0.length = 0
   ·rw [if_pos g0] at h; simp only [Option.some.injEq, Prod.mk.injEq] at h; obtain ⟨rfl, rfl, rfl, rfl⟩ := h
    have g0' : ((l0.length : Int) == 0) = true := by rw [g0]; rfl
    clear g0
    go_enter Try.func42, Try.ntmps42
    go_wp2_with fail
    refine HA.out.mono ?_; rintro e w1 ⟨rfl, hb⟩; have h1 := blk_below K1.out hb; have h2 := blk_below K2.out hb; have HB := Aa (Bp KB.out hb); clear hb; have f0 := Bf h2 0; have f1 := Bf h2 1; have e0 := cell_at h2 0 _ rfl; have e1 := cell_at h2 1 _ rfl; have e2 := cell_at h1 0 (.slice A0 l0.length c0) rfl; have H2 := Aa h2; clear h2 h1; go_wp2; refine bodyPost_ret (results_ctt rfl _ _ (w.heap.size + 1) 27 #[.int .i64 0, .int .i64 0] (0, 0) _ rfl (blk_put (cs := #[.int .i64 0, .int .i64 0]) (blk_put (cs := #[.int .i64 0, .int .i64 0]) H2.out 0 _ rfl) 1 _ rfl) Try.underlying27 rfl (by kernel_rfl)) rfl ?_; exact ⟨rfl, Bz (Bz HB.out (by omega)) (by omega)⟩
   ·rw [if_neg g0] at h
    have g0' : ((l0.length : Int) == 0) = false := by rw [beq_eq_false_iff_ne]; omega
    clear g0; have H := Aa h; clear h
    go_enter Try.func42, Try.ntmps42
    go_wp2_with fail
    refine HA.out.mono ?_; rintro e w1 ⟨rfl, hb⟩; have h1 := blk_below K1.out hb; have h2 := blk_below K2.out hb; have HB := Aa (Bp KB.out hb); clear hb HA K1 K2 KB; have e2 := cell_at h1 0 (.slice A0 l0.length c0) rfl; have H2 := Aa h2; have H1 := Aa h1; have e3 := cell_at (Ka h1 (.cells #[.func (.func 100) #[] #[.pointer (some ⟨w.heap.size, 0, none⟩)]] 143)) 0 (.slice A0 l0.length c0) rfl; clear h2 h1
    go_wp2_with fail
    have hV := far_vote A0 c0 l0 0 (w1.alloc (.cells #[.func (.func 100) #[] #[.pointer (some ⟨w.heap.size, 0, none⟩)]] 143)) w1.heap.size
     (fun W => W.heap[w.heap.size]? = some (.cells #[.slice A0 l0.length c0] 36 (0, 0)) ∧ W.heap[w1.heap.size]? = some (.cells #[.func (.func 100) #[] #[.pointer (some ⟨w.heap.size, 0, none⟩)]] 143 (0, 0)) ∧ Kd.C k27 W A0 l0.length l0)
     (fun s => haveF l0 s.f0) ⟨Ka H1.out _, blk_new _ _, Kd.C_alloc (Kd.C_below HR0.out HB.out) _⟩ (fun W W' h hb => ⟨blk_below h.1 hb, blk_below h.2.1 hb, Kd.C_below h.2.2 hb⟩) (fun W h => h.2.2)
     (fun s W h => vote2_calls A0 c0 l0 s _ _ W h.1 h.2.1 h.2.2)
    refine hV.mono ?_; rintro e w2 ⟨rfl, ⟨k1, k5, _⟩, kb⟩; clear hV e2 e3; have h2 := blk_below (Ka H2.out _) kb; have hn2 := blk_lt H2.out; have hs2 := kb.size; have HB2 := Aa (Bp (Ba HB.out _) kb)
    obtain ⟨b5, hb5⟩ : ∃ b, w1.heap.size = b := ⟨_, rfl⟩
    obtain ⟨M, hM⟩ : ∃ M, farF (fun s => haveF l0 s.f0) (fun a b => decide (a > b)) 0 l0 = M := ⟨_, rfl⟩
    have hH := H.out; unfold voteMost at hH; rw [hM] at hH ⊢; rw [hb5] at k5 ⊢; simp only [Option.some.injEq, Prod.mk.injEq] at hH; obtain ⟨rfl, rfl, rfl, rfl⟩ := hH
    have HV := Aa (show VoteInv A0 c0 l0 w.heap.size (w.heap.size + 1) b5 w2.heap.size 1000000 1000000 w (w2.alloc (.cells #[.int .i64 1000000, .int .i64 1000000] 27)) from
     ⟨Ka k1 _, Ka h2 _, Ka k5 _, blk_new _ _, Ba HB2.out _, HB2.out.size, by have := blk_lt h2; omega⟩)
    have e1 := cell_at HV.out.h1 0 (.slice A0 l0.length c0) rfl; clear k1 k5 kb h2 hn2 hs2 HB HB2 H H1 H2 hM hb5 g1'
    go_wp2_with fail
    go_loopw [32, 9] (fun v32 _ W => ∃ (i lo : Int), 0 ≤ i ∧ i ≤ l0.length ∧ v32 = .int .i64 i ∧ Aside0 (voteLow l0 M (l0.drop i.toNat) lo = voteLow l0 M l0 1000000) ∧ Aside0 (VoteInv A0 c0 l0 w.heap.size (w.heap.size + 1) b5 w2.heap.size lo 1000000 w W)) (fun v _ _ => l0.length - (intOf v).toNat)
    case atStart => exact ⟨0, 1000000, by omega, by omega, rfl, ⟨rfl⟩, HV⟩
    case round =>
     clear e1; obtain ⟨i, lo, h0, hk, rfl, HA, HV⟩ := hrel
     by_cases hlt : i < l0.length
     ·have hCr := Kd.C_below HR0.out HV.out.hb; obtain ⟨ad, e217, hx0, hx1⟩ := at_T27 hCr i h0 hlt; cases e217; have hA := HA.out; unfold voteLow at hA; rw [drop_rd l0 i h0 hlt, List.foldl_cons] at hA; clear HA
      obtain ⟨x, hx⟩ : ∃ x, rd_T27 l0 i = x := ⟨_, rfl⟩
      rw [hx] at hx0 hx1 hA; clear hx; have HV2 := Aa (HV.out.alloc (.cells #[.int .i64 x.f0, .int .i64 x.f1] 27)); have e0 := cell_at HV2.out.h7 0 (.int .i64 lo) rfl; have e5 := cell_at HV2.out.h5 0 (.func (.func 100) #[] #[.pointer (some ⟨w.heap.size, 0, none⟩)]) rfl; have HCa := Aa (have_calls _ c0 l0 x.f0 w.heap.size _ HV2.out.h1 (Kd.C_alloc hCr _)); clear hCr
      by_cases g1 : x.f0 < lo
      ·obtain ⟨q, hq⟩ : ∃ q, haveF l0 x.f0 = q := ⟨_, rfl⟩
       rw [hq] at hA HCa; clear hq
       by_cases g2 : q = M
       ·rw [if_pos ⟨g1, g2⟩] at hA; have HA := Aa hA
        have g2' : (q == M) = true := by rw [g2]; exact beq_self_eq_true _
        clear hA g2
        go_wp2_with (go_at_call 100; refine HCa.out.mono ?_; rintro e w3 ⟨rfl, hb⟩; have HV3 := Aa (HV2.out.step hb); have ex := cell_at (blk_below (blk_new _ _) hb) 0 (.int .i64 x.f0) rfl; have e7 := cell_at HV3.out.h7 0 (.int .i64 lo) rfl; have f7 := Bf HV3.out.h7 0; clear HCa e0 e5 HV2 hb)
        go_roundw
        case rel => exact ⟨i + 1, x.f0, by omega, by omega, rfl, HA, ⟨HV3.out.put0 x.f0⟩⟩
        case measure => simp [intOf]; omega
       ·rw [if_neg (fun h => g2 h.2)] at hA; have HA := Aa hA
        have g2' : (q == M) = false := by rw [beq_eq_false_iff_ne]; exact g2
        clear hA g2
        go_wp2_with (go_at_call 100; refine HCa.out.mono ?_; rintro e w3 ⟨rfl, hb⟩; have HV3 := Aa (HV2.out.step hb); clear HCa e0 e5 HV2 hb)
        go_roundw
        case rel => exact ⟨i + 1, lo, by omega, by omega, rfl, HA, HV3⟩
        case measure => simp [intOf]; omega
      ·rw [if_neg (fun h => g1 h.1)] at hA; have HA := Aa hA; clear hA
       go_wp2_with fail
       go_roundw
       case rel => exact ⟨i + 1, lo, by omega, by omega, rfl, HA, HV2⟩
       case measure => simp [intOf]; omega
     ·have hA := HA.out; rw [List.drop_of_length_le (by omega)] at hA; have hA' : voteLow l0 M l0 1000000 = lo := hA.symm; have E1 := Aa hA'; clear HA hA hA'; have e1 := cell_at HV.out.h1 0 (.slice A0 l0.length c0) rfl
      go_wp2_with fail
      clear e1 hk h0 hlt
      go_loopw [55, 11] (fun v55 _ W => ∃ (i hi : Int), 0 ≤ i ∧ i ≤ l0.length ∧ hi ≤ 1000000 ∧ v55 = .int .i64 i ∧ Aside0 (voteHigh l0 M lo (l0.drop i.toNat) hi = voteHigh l0 M lo l0 1000000) ∧ Aside0 (VoteInv A0 c0 l0 w.heap.size (w.heap.size + 1) b5 w2.heap.size lo hi w W)) (fun v _ _ => l0.length - (intOf v).toNat)
      case atStart => exact ⟨0, 1000000, by omega, by omega, by omega, rfl, ⟨rfl⟩, HV⟩
      case round =>
       obtain ⟨i, hi, h0, hk, hhi, rfl, HA, HV⟩ := hrel
       by_cases hlt : i < l0.length
       ·have hCr := Kd.C_below HR0.out HV.out.hb; obtain ⟨ad, e217, hx0, hx1⟩ := at_T27 hCr i h0 hlt; cases e217; have hA := HA.out; unfold voteHigh at hA; rw [drop_rd l0 i h0 hlt, List.foldl_cons] at hA; clear HA; obtain ⟨y1, y2, y3⟩ := good_rd l0 i HG.out h0 hlt
        obtain ⟨x, hx⟩ : ∃ x, rd_T27 l0 i = x := ⟨_, rfl⟩
        rw [hx] at hx0 hx1 hA y1 y2 y3; clear hx; have HV2 := Aa (HV.out.alloc (.cells #[.int .i64 x.f0, .int .i64 x.f1] 27)); have e0 := cell_at HV2.out.h7 0 (.int .i64 lo) rfl; have e0' := cell_at HV2.out.h7 1 (.int .i64 hi) rfl; have e5 := cell_at HV2.out.h5 0 (.func (.func 100) #[] #[.pointer (some ⟨w.heap.size, 0, none⟩)]) rfl; have HCa := Aa (have_calls _ c0 l0 (wrap64 (x.f1 + 1)) w.heap.size _ HV2.out.h1 (Kd.C_alloc hCr _)); clear hCr
        by_cases g1 : lo ≤ x.f1
        ·by_cases g2 : x.f1 < hi
         ·have ew : wrap64 (x.f1 + 1) = x.f1 + 1 := by unfold wrap64; omega
          rw [ew] at HCa; clear ew
          obtain ⟨q, hq⟩ : ∃ q, haveF l0 (x.f1 + 1) = q := ⟨_, rfl⟩
          rw [hq] at hA HCa; clear hq
          by_cases g3 : q < M
          ·rw [if_pos ⟨g1, g2, g3⟩] at hA; have HA := Aa hA; clear hA
           go_wp2_with (go_at_call 100; refine HCa.out.mono ?_; rintro e w3 ⟨rfl, hb⟩; have HV3 := Aa (HV2.out.step hb); have ex := cell_at (blk_below (blk_new _ _) hb) 1 (.int .i64 x.f1) rfl; have e7 := cell_at HV3.out.h7 1 (.int .i64 hi) rfl; have f7 := Bf HV3.out.h7 1; clear HCa e0 e0' e5 HV2 hb)
           go_roundw
           case rel => exact ⟨i + 1, x.f1, by omega, by omega, by omega, rfl, HA, ⟨HV3.out.put1 x.f1⟩⟩
           case measure => simp [intOf]; omega
          ·rw [if_neg (fun h => g3 h.2.2)] at hA; have HA := Aa hA; clear hA
           go_wp2_with (go_at_call 100; refine HCa.out.mono ?_; rintro e w3 ⟨rfl, hb⟩; have HV3 := Aa (HV2.out.step hb); clear HCa e0 e0' e5 HV2 hb)
           go_roundw
           case rel => exact ⟨i + 1, hi, by omega, by omega, by omega, rfl, HA, HV3⟩
           case measure => simp [intOf]; omega
         ·rw [if_neg (fun h => g2 h.2.1)] at hA; have HA := Aa hA; clear hA HCa e5
          go_wp2_with fail
          go_roundw
          case rel => exact ⟨i + 1, hi, by omega, by omega, by omega, rfl, HA, HV2⟩
          case measure => simp [intOf]; omega
        ·rw [if_neg (fun h => g1 h.1)] at hA; have HA := Aa hA; clear hA HCa e5 e0'
         go_wp2_with fail
         go_roundw
         case rel => exact ⟨i + 1, hi, by omega, by omega, by omega, rfl, HA, HV2⟩
         case measure => simp [intOf]; omega
       ·have hA := HA.out; rw [List.drop_of_length_le (by omega)] at hA; have hA' : voteHigh l0 M lo l0 1000000 = hi := hA.symm; have E2 := Aa hA'; clear HA hA hA'; have e0 := cell_at HV.out.h7 0 (.int .i64 lo) rfl; have e1 := cell_at HV.out.h7 1 (.int .i64 hi) rfl; have e2 := cell_at HV.out.h2 0 (.int .i64 0) rfl; have e3 := cell_at HV.out.h2 1 (.int .i64 0) rfl; have f2 := Bf HV.out.h2 0; have f3 := Bf HV.out.h2 1; go_wp2; refine bodyPost_ret (results_ctt rfl _ _ (w.heap.size + 1) 27 #[.int .i64 lo, .int .i64 hi] (0, 0) _ rfl (blk_put (cs := #[.int .i64 lo, .int .i64 0]) (blk_put (cs := #[.int .i64 0, .int .i64 0]) HV.out.h2 0 _ rfl) 1 _ rfl) Try.underlying27 rfl (by kernel_rfl)) rfl ?_; exact ⟨by rw [E1.out, E2.out]; rfl, Bz (Bz HV.out.hb (by omega)) (by omega)⟩
end
section
theorem drop27 (l : List S27) (i : Nat) (h : i < l.length) : l.drop i = rd_T27 l (i : Int) :: l.drop (i + 1) := by
 have er : rd_T27 l (i : Int) = l[i] := by simp [rd_T27, rdOf, List.getD_eq_getElem?_getD, h]
 rw [List.drop_eq_getElem_cons h, er]
theorem mem27 (l : List S27) (i : Nat) (h : i < l.length) : rd_T27 l (i : Int) ∈ l := by
 have er : rd_T27 l (i : Int) = l[i] := by simp [rd_T27, rdOf, List.getD_eq_getElem?_getD, h]
 rw [er]; exact List.getElem_mem h
theorem wrapS {i : Nat} (h : i < 1000000) : wrap64 ((i : Int) + 1) = ((i + 1 : Nat) : Int) := by unfold wrap64; omega
theorem timeB (t : Int) : rf_Time.f t = some (decide (-1000000 ≤ t ∧ t ≤ 1000000)) := by
 unfold rf_Time.f
 by_cases h0 : t ≥ -1000000
 ·rw [if_pos h0]; simp [show (-1000000 : Int) ≤ t from h0]
 ·rw [if_neg h0]; simp [show ¬ (-1000000 : Int) ≤ t from h0]
theorem good_b (a b : Int) : rf_Good.f a b = some (good27 ⟨a, b⟩) := by
 unfold rf_Good.f good27
 by_cases h : a ≤ b
 ·rw [if_pos h, timeB, timeB]; simp only [Option.bind_some]
  by_cases h1 : -1000000 ≤ a ∧ a ≤ 1000000
  ·rw [decide_eq_true h1, if_pos rfl]
   congr 1
   by_cases h2 : -1000000 ≤ b ∧ b ≤ 1000000
   ·simp [h, h1.1, h2.1, h2.2]
   ·have : ¬ b ≤ 1000000 := by omega
    simp [this]
  ·rw [decide_eq_false h1, if_neg (by simp)]
   congr 1
   by_cases h2 : a ≥ -1000000
   ·have : ¬ b ≤ 1000000 := by omega
    simp [this]
   ·simp [h2]
 ·rw [if_neg h]; simp [h]
theorem ev_goods (l : List S27) (hl : l.length ≤ 40) : ∀ (d i : Nat), i + d = l.length → Ev (fun k => rf_Goods.l0 k l (i : Int)) ((l.drop i).all good27)
 | 0, i, h => by
  rw [List.drop_of_length_le (by omega)]
  exact Ev.step (f := fun _ => some true) (fun k => by simp only [rf_Goods.l0]; rw [if_neg (by omega)]) (Ev.now true)
 | d + 1, i, h => by
  rw [drop27 l i (by omega), List.all_cons]
  cases hg : good27 (rd_T27 l (i : Int)) with
  | false =>
   exact Ev.step (f := fun _ => some false) (fun k => by simp only [rf_Goods.l0]; rw [if_pos (by omega), if_pos (by omega), good_b, hg]; rfl) (Ev.now false)
  | true =>
   refine Ev.step (f := fun k => rf_Goods.l0 k l ((i + 1 : Nat) : Int)) (fun k => ?_) (ev_goods l hl d (i + 1) (by omega)); simp only [rf_Goods.l0]; rw [if_pos (by omega), if_pos (by omega), good_b, hg]; simp only [Option.bind_some, if_true]; rw [wrapS (by omega)]
end
section
theorem rd_set (xs : List Int) (k : Int) (j : Int) (v : Int) (h0 : 0 ≤ k) (hk : k < xs.length) (hj : 0 ≤ j) : rd (xs.set k.toNat v) j = if j = k then v else rd xs j := by
 unfold rd; rw [List.getD_eq_getElem?_getD, List.getD_eq_getElem?_getD, List.getElem?_set]
 by_cases e : j = k
 ·subst e; rw [if_pos rfl, if_pos rfl, if_pos (by omega)]; rfl
 ·rw [if_neg (by omega), if_neg e]
structure GapIn (n : Nat) (g : S86) : Prop where
 a0 : 0 ≤ g.f0
 a1 : g.f0 < n
 b0 : 0 ≤ g.f1
 b1 : g.f1 < n
 ne : g.f0 ≠ g.f1
 le : g.f2 ≤ g.f3
 lo : -2000000 ≤ g.f2
 hi : g.f3 ≤ 2000000
def GapSat (g : S86) (t : Int → Int) : Prop := g.f2 ≤ t g.f1 - t g.f0 ∧ t g.f1 - t g.f0 ≤ g.f3
def relA (g : S86) (x : List Int) : List Int := if rd x g.f1 < rd x g.f0 + g.f2 then x.set g.f1.toNat (rd x g.f0 + g.f2) else x
def relB (g : S86) (x : List Int) : List Int := if rd x g.f0 < rd x g.f1 - g.f3 then x.set g.f0.toNat (rd x g.f1 - g.f3) else x
def chg (g : S86) (x : List Int) : Bool := decide (rd x g.f1 < rd x g.f0 + g.f2) || decide (rd (relA g x) g.f0 < rd (relA g x) g.f1 - g.f3)
def rel (s : List Int × Bool) (g : S86) : List Int × Bool := (relB g (relA g s.1), s.2 || chg g s.1)
def roundL (gaps : List S86) (x : List Int) : List Int × Bool := gaps.foldl rel (x, false)
def leastL (gaps : List S86) : Nat → List Int → Option (List Int)
 | 0, _ => none
 | n + 1, x => if (roundL gaps x).2 = true then leastL gaps n (roundL gaps x).1 else some (roundL gaps x).1
def leastR (gaps : List S86) (low : List Int) : List Int × Bool :=
 match leastL gaps (low.length + 1) low with
 | some x => (x, true)
 | none => ([], false)
section
variable {n : Nat} {g : S86} {x : List Int}
theorem relA_len : (relA g x).length = x.length := by unfold relA; split <;> simp
theorem relB_len : (relB g x).length = x.length := by unfold relB; split <;> simp
theorem relA_at (hg : GapIn n g) (hx : x.length = n) (j : Int) (hj : 0 ≤ j) : rd (relA g x) j = if j = g.f1 ∧ rd x g.f1 < rd x g.f0 + g.f2 then rd x g.f0 + g.f2 else rd x j := by
 unfold relA
 by_cases c : rd x g.f1 < rd x g.f0 + g.f2
 ·rw [if_pos c, rd_set _ _ _ _ hg.b0 (by have := hg.b1; omega) hj]
  by_cases e : j = g.f1
  ·rw [if_pos e, if_pos ⟨e, c⟩]
  ·rw [if_neg e, if_neg (fun h => e h.1)]
 ·rw [if_neg c, if_neg (fun h => c h.2)]
theorem relB_at (hg : GapIn n g) (hx : x.length = n) (j : Int) (hj : 0 ≤ j) : rd (relB g x) j = if j = g.f0 ∧ rd x g.f0 < rd x g.f1 - g.f3 then rd x g.f1 - g.f3 else rd x j := by
 unfold relB
 by_cases c : rd x g.f0 < rd x g.f1 - g.f3
 ·rw [if_pos c, rd_set _ _ _ _ hg.a0 (by have := hg.a1; omega) hj]
  by_cases e : j = g.f0
  ·rw [if_pos e, if_pos ⟨e, c⟩]
  ·rw [if_neg e, if_neg (fun h => e h.1)]
 ·rw [if_neg c, if_neg (fun h => c h.2)]
def LeAt (n : Nat) (x : List Int) (t : Int → Int) : Prop := ∀ j : Int, 0 ≤ j → j < n → rd x j ≤ t j
theorem relA_up (hg : GapIn n g) (hx : x.length = n) : LeAt n x (rd (relA g x)) := fun j h0 h1 => by
 rw [relA_at hg hx j h0]
 split
 ·rename_i c; obtain ⟨rfl, c⟩ := c; omega
 ·exact Int.le_refl _
theorem relB_up (hg : GapIn n g) (hx : x.length = n) : LeAt n x (rd (relB g x)) := fun j h0 h1 => by
 rw [relB_at hg hx j h0]
 split
 ·rename_i c; obtain ⟨rfl, c⟩ := c; omega
 ·exact Int.le_refl _
theorem rel_up (hg : GapIn n g) (hx : x.length = n) : LeAt n x (rd (relB g (relA g x))) := fun j h0 h1 =>
 Int.le_trans (relA_up hg hx j h0 h1) (relB_up hg (relA_len.trans hx) j h0 h1)
theorem rel_le (hg : GapIn n g) (hx : x.length = n) {t : Int → Int} (ht : GapSat g t) (hxt : LeAt n x t) : LeAt n (relB g (relA g x)) t := by
 have hA : LeAt n (relA g x) t := fun j h0 h1 => by
  rw [relA_at hg hx j h0]
  split
  ·rename_i c; obtain ⟨rfl, c⟩ := c
   have := hxt g.f0 hg.a0 hg.a1; have := ht.1; omega
  ·exact hxt j h0 h1
 intro j h0 h1; rw [relB_at hg (relA_len.trans hx) j h0]
 split
 ·rename_i c; obtain ⟨rfl, c⟩ := c
  have := hA g.f1 hg.b0 hg.b1; have := ht.2; omega
 ·exact hA j h0 h1
theorem rel_A (hg : GapIn n g) (hx : x.length = n) : rd x g.f0 + g.f2 ≤ rd (relB g (relA g x)) g.f1 := by
 refine Int.le_trans ?_ (relB_up hg (relA_len.trans hx) g.f1 hg.b0 hg.b1); rw [relA_at hg hx _ hg.b0]
 split
 ·exact Int.le_refl _
 ·rename_i c
  have : ¬ rd x g.f1 < rd x g.f0 + g.f2 := fun h => c ⟨rfl, h⟩
  omega
theorem rel_B (hg : GapIn n g) (hx : x.length = n) : rd x g.f1 - g.f3 ≤ rd (relB g (relA g x)) g.f0 := by
 have h1 := relA_up hg hx g.f1 hg.b0 hg.b1; rw [relB_at hg (relA_len.trans hx) _ hg.a0]
 split
 ·omega
 ·rename_i c
  have : ¬ rd (relA g x) g.f0 < rd (relA g x) g.f1 - g.f3 := fun h => c ⟨rfl, h⟩
  omega
theorem rel_none (h : chg g x = false) : relB g (relA g x) = x ∧ GapSat g (rd x) := by
 unfold chg at h; rw [Bool.or_eq_false_iff] at h; have h1 := of_decide_eq_false h.1; have e : relA g x = x := if_neg h1; have h2 := of_decide_eq_false h.2; rw [e] at h2 ⊢; exact ⟨if_neg h2, by omega, by omega⟩
theorem rel_some (hg : GapIn n g) (hx : x.length = n) (h : chg g x = true) : ¬ GapSat g (rd x) := by
 rintro ⟨h1, h2⟩; have e : relA g x = x := if_neg (by omega); unfold chg at h; rw [e, decide_eq_false (by omega), decide_eq_false (by omega)] at h; cases h
end
section
variable {n : Nat}
theorem fold_len : ∀ (gaps : List S86) (s : List Int × Bool), (gaps.foldl rel s).1.length = s.1.length
 | [], s => rfl
 | g :: gaps, s => by rw [List.foldl_cons, fold_len gaps]; show (relB g (relA g s.1)).length = _; rw [relB_len, relA_len]
theorem fold_up : ∀ (gaps : List S86) (s : List Int × Bool), (∀ g ∈ gaps, GapIn n g) → s.1.length = n → LeAt n s.1 (rd (gaps.foldl rel s).1)
 | [], s, _, _ => fun j _ _ => Int.le_refl _
 | g :: gaps, s, hg, hs => fun j h0 h1 => by
  rw [List.foldl_cons]; have a := rel_up (hg g List.mem_cons_self) hs j h0 h1; have b := fold_up gaps (rel s g) (fun y hy => hg y (List.mem_cons_of_mem _ hy)) (by show (relB g (relA g s.1)).length = n; rw [relB_len, relA_len]; exact hs) j h0 h1; exact Int.le_trans a b
theorem fold_le : ∀ (gaps : List S86) (s : List Int × Bool) {t : Int → Int}, (∀ g ∈ gaps, GapIn n g) → s.1.length = n → (∀ g ∈ gaps, GapSat g t) → LeAt n s.1 t → LeAt n (gaps.foldl rel s).1 t
 | [], s, t, _, _, _, h => h
 | g :: gaps, s, t, hg, hs, ht, h => by
  rw [List.foldl_cons]; exact fold_le gaps (rel s g) (fun y hy => hg y (List.mem_cons_of_mem _ hy)) (by show (relB g (relA g s.1)).length = n; rw [relB_len, relA_len]; exact hs) (fun y hy => ht y (List.mem_cons_of_mem _ hy)) (rel_le (hg g List.mem_cons_self) hs (ht g List.mem_cons_self) h)
theorem fold_true : ∀ (gaps : List S86) (s : List Int × Bool), s.2 = true → (gaps.foldl rel s).2 = true
 | [], s, h => h
 | g :: gaps, s, h => by rw [List.foldl_cons]; exact fold_true gaps _ (by show (s.2 || _) = true; rw [h]; rfl)
theorem fold_false : ∀ (gaps : List S86) (s : List Int × Bool), (gaps.foldl rel s).2 = false → (gaps.foldl rel s).1 = s.1 ∧ ∀ g ∈ gaps, GapSat g (rd s.1)
 | [], s, h => ⟨rfl, fun g hg => by cases hg⟩
 | g :: gaps, s, h => by
  rw [List.foldl_cons] at h ⊢; obtain ⟨a, b⟩ := fold_false gaps (rel s g) h
  have hc : chg g s.1 = false := by
   cases e : chg g s.1 with
   | false => rfl
   | true => rw [fold_true gaps (rel s g) (by show (s.2 || chg g s.1) = true; rw [e, Bool.or_true])] at h; cases h
  obtain ⟨c, d⟩ := rel_none hc; have e : (rel s g).1 = s.1 := c; rw [e] at a b; refine ⟨a, fun y hy => ?_⟩
  rcases List.mem_cons.mp hy with rfl | hy
  ·exact d
  ·exact b y hy
theorem fold_still : ∀ (gaps : List S86) (s : List Int × Bool), (∀ g ∈ gaps, GapIn n g) → s.1.length = n → (∀ g ∈ gaps, GapSat g (rd s.1)) → gaps.foldl rel s = s
 | [], s, _, _, _ => rfl
 | g :: gaps, s, hg, hs, h => by
  rw [List.foldl_cons]
  have hc : chg g s.1 = false := by
   cases e : chg g s.1 with
   | false => rfl
   | true => exact absurd (h g List.mem_cons_self) (rel_some (hg g List.mem_cons_self) hs e)
  have e : rel s g = s := by
   show (relB g (relA g s.1), s.2 || chg g s.1) = s; rw [(rel_none hc).1, hc, Bool.or_false]
  rw [e]; exact fold_still gaps s (fun y hy => hg y (List.mem_cons_of_mem _ hy)) hs (fun y hy => h y (List.mem_cons_of_mem _ hy))
theorem fold_gap : ∀ (gaps : List S86) (s : List Int × Bool), (∀ g ∈ gaps, GapIn n g) → s.1.length = n → ∀ g ∈ gaps, rd s.1 g.f0 + g.f2 ≤ rd (gaps.foldl rel s).1 g.f1 ∧ rd s.1 g.f1 - g.f3 ≤ rd (gaps.foldl rel s).1 g.f0
 | [], s, _, _, g, h => by cases h
 | g' :: gaps, s, hg, hs, g, h => by
  rw [List.foldl_cons]; have hg' := hg g' List.mem_cons_self
  have hr := fun y hy => hg y (List.mem_cons_of_mem g' hy)
  have hl : (rel s g').1.length = n := by show (relB g' (relA g' s.1)).length = n; rw [relB_len, relA_len]; exact hs
  rcases List.mem_cons.mp h with rfl | h
  ·have u := fold_up gaps (rel s g) hr hl; exact ⟨Int.le_trans (rel_A hg' hs) (u g.f1 hg'.b0 hg'.b1), Int.le_trans (rel_B hg' hs) (u g.f0 hg'.a0 hg'.a1)⟩
  ·obtain ⟨a, b⟩ := fold_gap gaps (rel s g') hr hl g h; have hgg := hr g h; have u0 : rd s.1 g.f0 ≤ rd (rel s g').1 g.f0 := rel_up hg' hs g.f0 hgg.a0 hgg.a1; have u1 : rd s.1 g.f1 ≤ rd (rel s g').1 g.f1 := rel_up hg' hs g.f1 hgg.b0 hgg.b1; exact ⟨by omega, by omega⟩
theorem leastL_sound {gaps : List S86} (hg : ∀ g ∈ gaps, GapIn n g) : ∀ (m : Nat) (x y : List Int), x.length = n → leastL gaps m x = some y →
  y.length = n ∧ LeAt n x (rd y) ∧ (∀ g ∈ gaps, GapSat g (rd y)) ∧ ∀ t : Int → Int, (∀ g ∈ gaps, GapSat g t) → LeAt n x t → LeAt n y t
 | 0, x, y, _, h => by cases h
 | m + 1, x, y, hx, h => by
  unfold leastL at h; have hl : (roundL gaps x).1.length = n := (fold_len gaps (x, false)).trans hx; have hu : LeAt n x (rd (roundL gaps x).1) := fold_up gaps (x, false) hg hx
  by_cases c : (roundL gaps x).2 = true
  ·rw [if_pos c] at h; obtain ⟨h1, h2, h3, h4⟩ := leastL_sound hg m _ y hl h; exact ⟨h1, fun j a b => Int.le_trans (hu j a b) (h2 j a b), h3, fun t ht hxt => h4 t ht (fold_le gaps (x, false) hg hx ht hxt)⟩
  ·rw [if_neg c] at h
   injection h with h
   obtain ⟨a, b⟩ := fold_false gaps (x, false) (Bool.eq_false_iff.mpr c); have e : (roundL gaps x).1 = x := a; rw [e] at h; subst h; exact ⟨hx, fun j _ _ => Int.le_refl _, b, fun t _ h => h⟩
def sumT (f : Int → Int) : Nat → Int
 | 0 => 0
 | n + 1 => sumT f n + f n
theorem sumT_le {f g : Int → Int} : ∀ m : Nat, (∀ j : Int, 0 ≤ j → j < m → f j ≤ g j) → sumT f m ≤ sumT g m
 | 0, _ => Int.le_refl _
 | m + 1, h => by
  have := sumT_le m (fun j a b => h j a (by omega)); have := h m (by omega) (by omega); show sumT f m + f m ≤ sumT g m + g m; omega
theorem sumT_lt {f g : Int → Int} : ∀ m : Nat, (∀ j : Int, 0 ≤ j → j < m → f j ≤ g j) → (∃ j : Int, 0 ≤ j ∧ j < m ∧ f j < g j) → sumT f m < sumT g m
 | 0, _, ⟨j, a, b, _⟩ => by omega
 | m + 1, h, ⟨j, a, b, c⟩ => by
  have h1 := sumT_le m (fun j a b => h j a (by omega)); have h2 := h m (by omega) (by omega); show sumT f m + f m < sumT g m + g m
  by_cases e : j = (m : Int)
  ·subst e; omega
  ·have := sumT_lt m (fun j a b => h j a (by omega)) ⟨j, a, by omega, c⟩; omega
theorem min_sum (gaps : List S86) (low : List Int) : ∀ (d : Nat) (t : Int → Int), (∀ g ∈ gaps, GapSat g t) → LeAt n low t → sumT t n - sumT (rd low) n < d →
  ∃ t, (∀ g ∈ gaps, GapSat g t) ∧ LeAt n low t ∧ ∀ t', (∀ g ∈ gaps, GapSat g t') → LeAt n low t' → sumT t n ≤ sumT t' n
 | 0, t, h1, h2, h3 => by
  have := sumT_le n h2
  omega
 | d + 1, t, h1, h2, h3 => by
  by_cases c : ∃ t', (∀ g ∈ gaps, GapSat g t') ∧ LeAt n low t' ∧ sumT t' n < sumT t n
  ·obtain ⟨t', a, b, e⟩ := c; exact min_sum gaps low d t' a b (by omega)
  ·exact ⟨t, h1, h2, fun t' a b => Int.not_lt.mp fun e => c ⟨t', a, b, e⟩⟩
def settled (x : List Int) (t : Int → Int) : Nat → Nat
 | 0 => 0
 | m + 1 => settled x t m + if rd x m = t m then 1 else 0
theorem settled_le (x : List Int) (t : Int → Int) : ∀ m, settled x t m ≤ m
 | 0 => Nat.le_refl _
 | m + 1 => by unfold settled; have := settled_le x t m; split <;> omega
theorem settled_mono (x y : List Int) (t : Int → Int) : ∀ m : Nat, (∀ j : Int, 0 ≤ j → j < m → rd x j = t j → rd y j = t j) → settled x t m ≤ settled y t m
 | 0, _ => Nat.le_refl _
 | m + 1, h => by
  unfold settled; have := settled_mono x y t m (fun j a b => h j a (by omega))
  by_cases c : rd x m = t m
  ·rw [if_pos c, if_pos (h m (by omega) (by omega) c)]; omega
  ·rw [if_neg c]; omega
theorem settled_lt (x y : List Int) (t : Int → Int) : ∀ m : Nat, (∀ j : Int, 0 ≤ j → j < m → rd x j = t j → rd y j = t j) → (∃ j : Int, 0 ≤ j ∧ j < m ∧ rd x j ≠ t j ∧ rd y j = t j) → settled x t m < settled y t m
 | 0, _, ⟨j, a, b, _⟩ => by omega
 | m + 1, h, ⟨j, a, b, c, d⟩ => by
  unfold settled; have h1 := settled_mono x y t m (fun j a b => h j a (by omega))
  by_cases e : j = (m : Int)
  ·subst e; rw [if_neg c, if_pos d]; omega
  ·have := settled_lt x y t m (fun j a b => h j a (by omega)) ⟨j, a, by omega, c, d⟩
   by_cases c : rd x m = t m
   ·rw [if_pos c, if_pos (h m (by omega) (by omega) c)]; omega
   ·rw [if_neg c]; omega
theorem round_settles {gaps : List S86} (hg : ∀ g ∈ gaps, GapIn n g) (low : List Int) {t : Int → Int} (h1 : ∀ g ∈ gaps, GapSat g t)
  (hmin : ∀ t', (∀ g ∈ gaps, GapSat g t') → LeAt n low t' → sumT t n ≤ sumT t' n) (x : List Int) (hx : x.length = n) (hlx : LeAt n low (rd x)) (hxt : LeAt n x t)
  (hne : ∃ j : Int, 0 ≤ j ∧ j < n ∧ rd x j ≠ t j) : settled x t n < settled (roundL gaps x).1 t n := by
 have hup : LeAt n x (rd (roundL gaps x).1) := fold_up gaps (x, false) hg hx; have hle : LeAt n (roundL gaps x).1 t := fold_le gaps (x, false) hg hx h1 hxt; refine settled_lt _ _ _ _ (fun j a b e => ?_) ?_
 ·have := hup j a b; have := hle j a b; omega
 ·refine Classical.byContradiction fun hc => ?_
  obtain ⟨j, j0, j1, hj⟩ := hne
  have hstep : ∀ g ∈ gaps, GapSat g (fun v => if rd x v = t v then t v else t v - 1) := fun g hgm => by
   have hgi := hg g hgm; have hs := h1 g hgm; obtain ⟨f1, f2⟩ := fold_gap gaps (x, false) hg hx g hgm; have a0 := hle g.f0 hgi.a0 hgi.a1; have a1 := hle g.f1 hgi.b0 hgi.b1; have b0 : rd x g.f0 ≤ rd (roundL gaps x).1 g.f0 := hup g.f0 hgi.a0 hgi.a1; have b1 : rd x g.f1 ≤ rd (roundL gaps x).1 g.f1 := hup g.f1 hgi.b0 hgi.b1; have f1 : rd x g.f0 + g.f2 ≤ rd (roundL gaps x).1 g.f1 := f1; have f2 : rd x g.f1 - g.f3 ≤ rd (roundL gaps x).1 g.f0 := f2
   have n0 : ¬ (rd x g.f0 ≠ t g.f0 ∧ rd (roundL gaps x).1 g.f0 = t g.f0) := fun h => hc ⟨g.f0, hgi.a0, hgi.a1, h⟩
   have n1 : ¬ (rd x g.f1 ≠ t g.f1 ∧ rd (roundL gaps x).1 g.f1 = t g.f1) := fun h => hc ⟨g.f1, hgi.b0, hgi.b1, h⟩
   have hs1 := hs.1; have hs2 := hs.2; show g.f2 ≤ (if rd x g.f1 = t g.f1 then t g.f1 else t g.f1 - 1) - (if rd x g.f0 = t g.f0 then t g.f0 else t g.f0 - 1) ∧ (if rd x g.f1 = t g.f1 then t g.f1 else t g.f1 - 1) - (if rd x g.f0 = t g.f0 then t g.f0 else t g.f0 - 1) ≤ g.f3
   by_cases c0 : rd x g.f0 = t g.f0
   ·by_cases c1 : rd x g.f1 = t g.f1
    ·rw [if_pos c0, if_pos c1]; exact hs
    ·rw [if_pos c0, if_neg c1]
     have : rd (roundL gaps x).1 g.f1 ≠ t g.f1 := fun h => n1 ⟨c1, h⟩
     exact ⟨by rw [c0] at f1; omega, by omega⟩
   ·by_cases c1 : rd x g.f1 = t g.f1
    ·rw [if_neg c0, if_pos c1]
     have : rd (roundL gaps x).1 g.f0 ≠ t g.f0 := fun h => n0 ⟨c0, h⟩
     exact ⟨by omega, by rw [c1] at f2; omega⟩
    ·rw [if_neg c0, if_neg c1]; exact ⟨by omega, by omega⟩
  have hlow : LeAt n low (fun v => if rd x v = t v then t v else t v - 1) := fun v a b => by
   have h2 := hlx v a b; have h3 := hxt v a b
   show rd low v ≤ (if rd x v = t v then t v else t v - 1)
   by_cases c : rd x v = t v
   ·rw [if_pos c]; omega
   ·rw [if_neg c]; omega
  have := hmin _ hstep hlow
  have := sumT_lt (f := fun v => if rd x v = t v then t v else t v - 1) (g := t) n (fun v a b => by
   show (if rd x v = t v then t v else t v - 1) ≤ t v
   by_cases c : rd x v = t v
   ·rw [if_pos c]; omega
   ·rw [if_neg c]; omega) ⟨j, j0, j1, by show (if _ then _ else _) < _; rw [if_neg hj]; omega⟩
  omega
theorem leastL_complete {gaps : List S86} (hg : ∀ g ∈ gaps, GapIn n g) (low : List Int) {t : Int → Int} (h1 : ∀ g ∈ gaps, GapSat g t)
  (hmin : ∀ t', (∀ g ∈ gaps, GapSat g t') → LeAt n low t' → sumT t n ≤ sumT t' n) : ∀ (m : Nat) (x : List Int), x.length = n → LeAt n low (rd x) → LeAt n x t → n ≤ settled x t n + m → (leastL gaps (m + 1) x).isSome = true
 | m, x, hx, hlx, hxt, hs => by
  have hl : (roundL gaps x).1.length = n := (fold_len gaps (x, false)).trans hx; have hup : LeAt n x (rd (roundL gaps x).1) := fold_up gaps (x, false) hg hx; have hle : LeAt n (roundL gaps x).1 t := fold_le gaps (x, false) hg hx h1 hxt; unfold leastL
  by_cases c : (roundL gaps x).2 = true
  ·rw [if_pos c]
   by_cases hne : ∃ j : Int, 0 ≤ j ∧ j < n ∧ rd x j ≠ t j
   ·have hlt := round_settles hg low h1 hmin x hx hlx hxt hne
    cases m with
    | zero =>
     have := settled_le (roundL gaps x).1 t n
     omega
    | succ m =>
     exact leastL_complete hg low h1 hmin m _ hl (fun j a b => Int.le_trans (hlx j a b) (hup j a b)) hle (by omega)
   ·exfalso
    have hall : ∀ j : Int, 0 ≤ j → j < n → rd x j = t j := fun j a b => Classical.byContradiction fun h => hne ⟨j, a, b, h⟩
    have := fold_still gaps (x, false) hg hx (fun g hgm => by
     have hgi := hg g hgm; have hs := h1 g hgm; unfold GapSat at hs ⊢; rw [hall g.f0 hgi.a0 hgi.a1, hall g.f1 hgi.b0 hgi.b1]
     exact hs)
    unfold roundL at c; rw [this] at c; cases c
  ·rw [if_neg c]; rfl
theorem least_spec {gaps : List S86} (low : List Int) (hg : ∀ g ∈ gaps, GapIn low.length g) :
  (∀ y, leastR gaps low = (y, true) → y.length = low.length ∧ LeAt low.length low (rd y) ∧ (∀ g ∈ gaps, GapSat g (rd y)) ∧ ∀ t : Int → Int, (∀ g ∈ gaps, GapSat g t) → LeAt low.length low t → LeAt low.length y t) ∧
  ((leastR gaps low).2 = true ↔ ∃ t, (∀ g ∈ gaps, GapSat g t) ∧ LeAt low.length low t) := by
 have hs := fun y => leastL_sound hg (low.length + 1) low y rfl
 constructor
 ·intro y hy; unfold leastR at hy
  split at hy
  ·rename_i x hx
   injection hy with hy _
   subst hy; exact hs x hx
  ·cases hy
 ·unfold leastR
  split
  ·rename_i x hx
   obtain ⟨_, h2, h3, _⟩ := hs x hx; exact ⟨fun _ => ⟨rd x, h3, h2⟩, fun _ => rfl⟩
  ·rename_i hx
   refine ⟨fun h => (by cases h), fun ⟨t, h1, h2⟩ => ?_⟩; exfalso; obtain ⟨t', a, b, c⟩ := min_sum (n := low.length) gaps low (sumT t low.length - sumT (rd low) low.length + 1).toNat t h1 h2 (by have := sumT_le low.length h2; omega); have := leastL_complete hg low a c low.length low rfl (fun j _ _ => Int.le_refl _) b (by omega); rw [hx] at this; cases this
end
end
section
theorem drop86 (l : List S86) (i : Nat) (h : i < l.length) : l.drop i = rd_T86 l (i : Int) :: l.drop (i + 1) := by
 have er : rd_T86 l (i : Int) = l[i] := by simp [rd_T86, rdOf, List.getD_eq_getElem?_getD, h]
 rw [List.drop_eq_getElem_cons h, er]
theorem mem86 (l : List S86) (i : Nat) (h : i < l.length) : rd_T86 l (i : Int) ∈ l := by
 have er : rd_T86 l (i : Int) = l[i] := by simp [rd_T86, rdOf, List.getD_eq_getElem?_getD, h]
 rw [er]; exact List.getElem_mem h
theorem w64_mid {z : Int} (h : -4000000000000000000 ≤ z) (h' : z ≤ 4000000000000000000) : wrap64 z = z := by unfold wrap64; omega
def turn86 (g : S86) : S86 := ⟨g.f1, g.f0, g.f2, g.f3⟩
theorem turn_in {n : Nat} {g : S86} (h : GapIn n g) : GapIn n (turn86 g) := ⟨h.b0, h.b1, h.a0, h.a1, fun e => h.ne e.symm, h.le, h.lo, h.hi⟩
theorem turn_sat (g : S86) (t : Int → Int) : GapSat (turn86 g) t ↔ GapSat g (fun j => -(t j)) := by
 show (g.f2 ≤ t g.f0 - t g.f1 ∧ t g.f0 - t g.f1 ≤ g.f3) ↔ (g.f2 ≤ -(t g.f1) - -(t g.f0) ∧ -(t g.f1) - -(t g.f0) ≤ g.f3); constructor <;> rintro ⟨a, b⟩ <;> exact ⟨by omega, by omega⟩
def lows (evs : List S27) : List Int := evs.map (·.f0)
def highs (evs : List S27) : List Int := evs.map fun s => -s.f1
def spanAt (a b : List Int) (j : Nat) : S27 := ⟨rd a (j : Int), -(rd b (j : Int))⟩
def spansOf (a b : List Int) (n : Nat) : List S27 := (List.range n).map (spanAt a b)
def okAt (evs : List S27) (a : List Int) (j : Nat) : Bool := decide (rd a (j : Int) ≤ (rd_T27 evs (j : Int)).f1)
def solveR (evs : List S27) (gaps : List S86) : List S27 × Bool :=
 if (leastR gaps (lows evs)).2 = true ∧ (leastR (gaps.map turn86) (highs evs)).2 = true then
  if (List.range evs.length).all (okAt evs (leastR gaps (lows evs)).1) = true then (spansOf (leastR gaps (lows evs)).1 (leastR (gaps.map turn86) (highs evs)).1 evs.length, true) else ([], false)
 else ([], false)
theorem rd_map27 (f : S27 → Int) (evs : List S27) (j : Int) (h0 : 0 ≤ j) (h1 : j < evs.length) : rd (evs.map f) j = f (rd_T27 evs j) := by
 unfold rd rd_T27
 have : j.toNat < evs.length := by omega
 simp [List.getD_eq_getElem?_getD, this]
def Fit (evs : List S27) (gaps : List S86) (t : Int → Int) : Prop := (∀ g ∈ gaps, GapSat g t) ∧ ∀ j : Int, 0 ≤ j → j < evs.length → (rd_T27 evs j).f0 ≤ t j ∧ t j ≤ (rd_T27 evs j).f1
theorem lows_len (evs : List S27) : (lows evs).length = evs.length := List.length_map ..
theorem highs_len (evs : List S27) : (highs evs).length = evs.length := List.length_map ..
theorem lows_at (evs : List S27) (j : Int) (h0 : 0 ≤ j) (h1 : j < evs.length) : rd (lows evs) j = (rd_T27 evs j).f0 := rd_map27 _ evs j h0 h1
theorem highs_at (evs : List S27) (j : Int) (h0 : 0 ≤ j) (h1 : j < evs.length) : rd (highs evs) j = -(rd_T27 evs j).f1 := rd_map27 _ evs j h0 h1
theorem rd_spans (a b : List Int) (n : Nat) (j : Int) (h0 : 0 ≤ j) (h1 : j < n) : rd_T27 (spansOf a b n) j = ⟨rd a j, -(rd b j)⟩ := by
 obtain ⟨m, rfl⟩ : ∃ m : Nat, j = m := ⟨j.toNat, by omega⟩
 have : m < n := by omega
 simp [rd_T27, spansOf, List.getD_eq_getElem?_getD, this, spanAt]
structure Tightest (evs : List S27) (gaps : List S86) (l : List S27) : Prop where
 len : l.length = evs.length
 all : ∀ t, Fit evs gaps t → ∀ j : Int, 0 ≤ j → j < evs.length → (rd_T27 l j).f0 ≤ t j ∧ t j ≤ (rd_T27 l j).f1
 first : Fit evs gaps fun j => (rd_T27 l j).f0
 last : Fit evs gaps fun j => (rd_T27 l j).f1
theorem solve_spec (evs : List S27) (gaps : List S86) (hg : ∀ g ∈ gaps, GapIn evs.length g) :
  ((solveR evs gaps).2 = true ↔ ∃ t, Fit evs gaps t) ∧ ∀ l, solveR evs gaps = (l, true) → Tightest evs gaps l := by
 obtain ⟨a1, a2⟩ := least_spec (gaps := gaps) (lows evs) (by rw [lows_len]; exact hg)
 obtain ⟨b1, b2⟩ := least_spec (gaps := gaps.map turn86) (highs evs) (by
  rw [highs_len]; intro g h; obtain ⟨g', h', rfl⟩ := List.mem_map.mp h
  exact turn_in (hg g' h'))
 rw [lows_len] at a1 a2; rw [highs_len] at b1 b2
 have turnS : ∀ t : Int → Int, (∀ g ∈ gaps.map turn86, GapSat g t) ↔ ∀ g ∈ gaps, GapSat g (fun j => -(t j)) := fun t => by
  constructor
  ·intro h g hg'; exact (turn_sat g t).mp (h _ (List.mem_map.mpr ⟨g, hg', rfl⟩))
  ·intro h g hg'; obtain ⟨g', h', rfl⟩ := List.mem_map.mp hg'; exact (turn_sat g' t).mpr (h g' h')
 have fitA : ∀ t, Fit evs gaps t → (∀ g ∈ gaps, GapSat g t) ∧ LeAt evs.length (lows evs) t := fun t h => ⟨h.1, fun j x y => by rw [lows_at evs j x y]; exact (h.2 j x y).1⟩
 have fitB : ∀ t, Fit evs gaps t → (∀ g ∈ gaps.map turn86, GapSat g fun j => -(t j)) ∧ LeAt evs.length (highs evs) fun j => -(t j) := fun t h => by
  refine ⟨(turnS _).mpr fun g hg' => ?_, fun j x y => ?_⟩
  ·have : (fun j => - -(t j)) = t := by funext j; omega
   rw [this]; exact h.1 g hg'
  ·rw [highs_at evs j x y]; have := (h.2 j x y).2; show -(rd_T27 evs j).f1 ≤ -(t j); omega
 have pairs : ∀ x y, leastR gaps (lows evs) = (x, true) → leastR (gaps.map turn86) (highs evs) = (y, true) → (List.range evs.length).all (okAt evs x) = true → Fit evs gaps (rd x) ∧ Fit evs gaps (fun j => -(rd y j)) ∧ ∀ t, Fit evs gaps t → ∀ j : Int, 0 ≤ j → j < evs.length → rd x j ≤ t j ∧ t j ≤ -(rd y j) := by
  intro x y hx hy hok; obtain ⟨x1, x2, x3, x4⟩ := a1 x hx; obtain ⟨y1, y2, y3, y4⟩ := b1 y hy
  have okA : ∀ j : Int, 0 ≤ j → j < evs.length → rd x j ≤ (rd_T27 evs j).f1 := fun j p q => by
   have := List.all_eq_true.mp hok j.toNat (List.mem_range.mpr (by omega)); unfold okAt at this; have := Od this
   rwa [show ((j.toNat : Nat) : Int) = j by omega] at this
  have F1 : Fit evs gaps (rd x) := ⟨x3, fun j p q => ⟨by have := x2 j p q; rw [lows_at evs j p q] at this; exact this, okA j p q⟩⟩
  have bnd : ∀ t, Fit evs gaps t → ∀ j : Int, 0 ≤ j → j < evs.length → rd x j ≤ t j ∧ t j ≤ -(rd y j) := fun t ht j p q => by
   obtain ⟨c1, c2⟩ := fitA t ht; obtain ⟨d1, d2⟩ := fitB t ht; have e1 := x4 t c1 c2 j p q; have e2 : rd y j ≤ -(t j) := y4 _ d1 d2 j p q; exact ⟨e1, by omega⟩
  refine ⟨F1, ⟨(turnS _).mp y3, fun j p q => ?_⟩, bnd⟩; have e1 := (F1.2 j p q).1; have e2 := (bnd _ F1 j p q).2; have e3 := y2 j p q; rw [highs_at evs j p q] at e3; show (rd_T27 evs j).f0 ≤ -(rd y j) ∧ -(rd y j) ≤ (rd_T27 evs j).f1; exact ⟨by omega, by omega⟩
 unfold solveR
 by_cases c : (leastR gaps (lows evs)).2 = true ∧ (leastR (gaps.map turn86) (highs evs)).2 = true
 ·rw [if_pos c]
  have hx : leastR gaps (lows evs) = ((leastR gaps (lows evs)).1, true) := by rw [← c.1]
  have hy : leastR (gaps.map turn86) (highs evs) = ((leastR (gaps.map turn86) (highs evs)).1, true) := by rw [← c.2]
  by_cases hok : (List.range evs.length).all (okAt evs (leastR gaps (lows evs)).1) = true
  ·rw [if_pos hok]; obtain ⟨F1, F2, F3⟩ := pairs _ _ hx hy hok; refine ⟨⟨fun _ => ⟨_, F1⟩, fun _ => rfl⟩, fun l hl => ?_⟩
   injection hl with hl _
   subst hl
   have ext : ∀ (f g : Int → Int), (∀ j : Int, 0 ≤ j → j < evs.length → f j = g j) → Fit evs gaps f → Fit evs gaps g := fun f g e h => ⟨fun k hk => by
    have hs := h.1 k hk; have hi := hg k hk; unfold GapSat at hs ⊢
    rw [← e _ hi.a0 hi.a1, ← e _ hi.b0 hi.b1]; exact hs, fun j p q => by rw [← e j p q]; exact h.2 j p q⟩
   refine ⟨by unfold spansOf; rw [List.length_map, List.length_range], fun t ht j p q => ?_, ext _ _ (fun j p q => ?_) F1, ext _ _ (fun j p q => ?_) F2⟩
   ·rw [rd_spans _ _ _ j p q]; exact F3 t ht j p q
   ·rw [rd_spans _ _ _ j p q]
   ·rw [rd_spans _ _ _ j p q]
  ·rw [if_neg hok]; refine ⟨⟨fun h => (by cases h), fun ⟨t, ht⟩ => ?_⟩, fun l hl => (by cases hl)⟩; exfalso; apply hok; rw [List.all_eq_true]; intro m hm; have hm := List.mem_range.mp hm; obtain ⟨x1, x2, x3, x4⟩ := a1 _ hx; obtain ⟨c1, c2⟩ := fitA t ht; have := x4 t c1 c2 (m : Int) (by omega) (by omega); have := (ht.2 (m : Int) (by omega) (by omega)).2; exact decide_eq_true (by omega)
 ·rw [if_neg c]; refine ⟨⟨fun h => (by cases h), fun ⟨t, ht⟩ => ?_⟩, fun l hl => (by cases hl)⟩; exact absurd ⟨a2.mpr ⟨t, fitA t ht⟩, b2.mpr ⟨_, fitB t ht⟩⟩ c
end
end Go.Proofs.Ytobcecgcegoooaa.Sk
