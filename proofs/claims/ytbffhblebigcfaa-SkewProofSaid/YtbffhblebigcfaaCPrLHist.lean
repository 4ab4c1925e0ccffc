/- A history's bounds: which times they let be. -/
import Derived.Test.YtbffhblebigcfaaCPrGTight
import Derived.Test.YtbffhblebigcfaaCPrLFloyd
namespace Go.Proofs.Ytbffhblebigcfaa.Sk
open Go.RowKit Go.Proofs.YtbffhblebigcfaaW.PrintWords Go.Proofs.YtbffhblebigcfaaW.PrintLast Go.Proofs.YtbffhblebigcfaaW.PrintMore
set_option linter.unusedVariables false
set_option linter.unusedSimpArgs false
theorem rowN_at (i : Int) (B : Int → Int → Int) : ∀ n : Nat, rowN i B n = fun (a c : Int) => if a = i ∧ 0 ≤ c ∧ c < n ∧ c ≠ i then FREE else B a c
 | 0 => by funext a c; rw [if_neg (by omega)]; rfl
 | n + 1 => by
  show (if i = n then rowN i B n else set2 (rowN i B n) i n FREE) = _
  rw [rowN_at i B n]
  funext a c
  by_cases hi : i = n
  ·rw [if_pos hi]
   show (if _ then _ else _) = _
   by_cases h : a = i ∧ 0 ≤ c ∧ c < n ∧ c ≠ i
   ·rw [if_pos h, if_pos (by omega)]
   ·rw [if_neg h, if_neg (by omega)]
  ·rw [if_neg hi]
   unfold set2
   by_cases h1 : a = i ∧ c = n
   ·rw [if_pos h1, if_pos (by omega)]
   ·rw [if_neg h1]
    show (if _ then _ else _) = _
    by_cases h : a = i ∧ 0 ≤ c ∧ c < n ∧ c ≠ i
    ·rw [if_pos h, if_pos (by omega)]
    ·rw [if_neg h, if_neg (by omega)]
theorem fillN_at : ∀ n : Nat, fillN n = fun (a c : Int) => if 0 ≤ a ∧ a < n ∧ 0 ≤ c ∧ c < 11 ∧ c ≠ a then FREE else 0
 | 0 => by funext a c; rw [if_neg (by omega)]; rfl
 | n + 1 => by
  show rowN n (fillN n) 11 = _
  rw [rowN_at, fillN_at n]
  funext a c
  by_cases h : a = (n : Int) ∧ 0 ≤ c ∧ c < ((11 : Nat) : Int) ∧ c ≠ (n : Int)
  ·rw [if_pos h, if_pos (by omega)]
  ·rw [if_neg h]
   show (if _ then _ else _) = _
   by_cases h2 : 0 ≤ a ∧ a < n ∧ 0 ≤ c ∧ c < 11 ∧ c ≠ a
   ·rw [if_pos h2, if_pos (by omega)]
   ·rw [if_neg h2, if_neg (by omega)]
theorem fill_inv : BInv 2000000 (fillN 11) := by
 rw [fillN_at]
 refine ⟨fun i hi => ?_, fun i j hi hj => ?_, fun i j hi hj => ?_⟩
 ·exact if_neg (by omega)
 ·show (if _ then _ else _) = _ ∨ _
  split
  ·exact .inl rfl
  ·right; omega
 ·show (if _ then _ else _) ≠ _ → (if _ then _ else _) ≠ _
  intro h
  obtain ⟨i0, i1⟩ := hi
  obtain ⟨j0, j1⟩ := hj
  by_cases e : i = j
  ·rw [if_neg (by omega)]; unfold FREE; omega
  ·rw [if_pos (by omega)] at h; exact absurd rfl h
theorem fill_sat (t : Int → Int) : Sat (fillN 11) t := by
 rw [fillN_at]
 intro i j hi hj h
 obtain ⟨i0, i1⟩ := hi
 obtain ⟨j0, j1⟩ := hj
 by_cases e : i = j
 ·subst e
  show _ ≤ (if _ then _ else _)
  rw [if_neg (by omega)]; omega
 ·exact absurd (if_pos (by omega)) h
structure FactOk (f : S153) : Prop where
 i0 : In f.f0
 i1 : In f.f1
 ne : f.f0 ≠ f.f1
 lo : -2000000 ≤ f.f2 ∧ f.f2 ≤ 2000000
 hi : -2000000 ≤ f.f3 ∧ f.f3 ≤ 2000000
def Keeps (f : S153) (t : Int → Int) : Prop := f.f2 ≤ t f.f1 - t f.f0 ∧ t f.f1 - t f.f0 ≤ f.f3
section
variable {B : Int → Int → Int} {f : S153}
theorem say_at (hf : FactOk f) (a c : Int) : sayF B f a c = if a = f.f1 ∧ c = f.f0 then mn (B f.f1 f.f0) (-f.f2) else if a = f.f0 ∧ c = f.f1 then mn (B f.f0 f.f1) f.f3 else B a c := by
 have hne := hf.ne
 have hlo := hf.lo
 have hw : wrap64 (-f.f2) = -f.f2 := by unfold wrap64; omega
 have e : sayF B f = set2 (set2 B f.f0 f.f1 (mn (B f.f0 f.f1) f.f3)) f.f1 f.f0 (mn (set2 B f.f0 f.f1 (mn (B f.f0 f.f1) f.f3) f.f1 f.f0) (wrap64 (-f.f2))) := rfl
 have e2 : set2 B f.f0 f.f1 (mn (B f.f0 f.f1) f.f3) f.f1 f.f0 = B f.f1 f.f0 := if_neg (by omega)
 rw [e, hw, e2]
 rfl
theorem say_inv (h : BInv 2000000 B) (hf : FactOk f) : BInv 2000000 (sayF B f) := by
 have hne := hf.ne
 have hlo := hf.lo
 have hhi := hf.hi
 have b1 := h.bd f.f1 f.f0 hf.i1 hf.i0
 have b2 := h.bd f.f0 f.f1 hf.i0 hf.i1
 have v1 : -2000000 ≤ mn (B f.f1 f.f0) (-f.f2) ∧ mn (B f.f1 f.f0) (-f.f2) ≤ 2000000 := by rw [mn_eq]; unfold FREE at b1; omega
 have v2 : -2000000 ≤ mn (B f.f0 f.f1) f.f3 ∧ mn (B f.f0 f.f1) f.f3 ≤ 2000000 := by rw [mn_eq]; unfold FREE at b2; omega
 have n1 : mn (B f.f1 f.f0) (-f.f2) ≠ FREE := by unfold FREE; omega
 have n2 : mn (B f.f0 f.f1) f.f3 ≠ FREE := by unfold FREE; omega
 refine ⟨fun i hi => ?_, fun i j hi hj => ?_, fun i j hi hj => ?_⟩
 ·rw [say_at hf, if_neg (by omega), if_neg (by omega)]; exact h.diag i hi
 ·rw [say_at hf]
  split
  ·exact .inr v1
  ·split
   ·exact .inr v2
   ·exact h.bd i j hi hj
 ·rw [say_at hf, say_at hf]
  intro hh
  by_cases c1 : j = f.f1 ∧ i = f.f0
  ·rw [if_pos c1]; exact n1
  ·rw [if_neg c1]
   by_cases c2 : j = f.f0 ∧ i = f.f1
   ·rw [if_pos c2]; exact n2
   ·rw [if_neg c2]
    rw [if_neg (by omega), if_neg (by omega)] at hh
    exact h.sym i j hi hj hh
theorem say_sat (h : BInv 2000000 B) (hf : FactOk f) (t : Int → Int) : Sat (sayF B f) t ↔ Sat B t ∧ Keeps f t := by
 have hne := hf.ne
 have hlo := hf.lo
 have hhi := hf.hi
 have b1 := h.bd f.f1 f.f0 hf.i1 hf.i0
 have b2 := h.bd f.f0 f.f1 hf.i0 hf.i1
 have v1 : mn (B f.f1 f.f0) (-f.f2) ≤ 2000000 := by rw [mn_eq]; omega
 have v2 : mn (B f.f0 f.f1) f.f3 ≤ 2000000 := by rw [mn_eq]; omega
 have n1 : mn (B f.f1 f.f0) (-f.f2) ≠ FREE := by unfold FREE; omega
 have n2 : mn (B f.f0 f.f1) f.f3 ≠ FREE := by unfold FREE; omega
 have l1 := mn_le1 (B f.f1 f.f0) (-f.f2)
 have l2 := mn_le2 (B f.f1 f.f0) (-f.f2)
 have m1 := mn_le1 (B f.f0 f.f1) f.f3
 have m2 := mn_le2 (B f.f0 f.f1) f.f3
 constructor
 ·intro ht
  refine ⟨fun i j hi hj hb => ?_, ?_⟩
  ·have := ht i j hi hj
   rw [say_at hf] at this
   by_cases c1 : i = f.f1 ∧ j = f.f0
   ·rw [if_pos c1] at this
    have := this n1
    obtain ⟨rfl, rfl⟩ := c1
    omega
   ·rw [if_neg c1] at this
    by_cases c2 : i = f.f0 ∧ j = f.f1
    ·rw [if_pos c2] at this
     have := this n2
     obtain ⟨rfl, rfl⟩ := c2
     omega
    ·rw [if_neg c2] at this
     exact this hb
  ·have a := ht f.f1 f.f0 hf.i1 hf.i0
   have b := ht f.f0 f.f1 hf.i0 hf.i1
   rw [say_at hf, if_pos ⟨rfl, rfl⟩] at a
   rw [say_at hf, if_neg (by omega), if_pos ⟨rfl, rfl⟩] at b
   have a := a n1
   have b := b n2
   exact ⟨by omega, by omega⟩
 ·rintro ⟨ht, k1, k2⟩ i j hi hj hb
  rw [say_at hf] at hb ⊢
  by_cases c1 : i = f.f1 ∧ j = f.f0
  ·rw [if_pos c1]
   obtain ⟨rfl, rfl⟩ := c1
   by_cases c : B f.f1 f.f0 = FREE
   ·rw [c, mn_eq]; unfold FREE; omega
   ·have := ht _ _ hi hj c
    rw [mn_eq]; omega
  ·rw [if_neg c1] at hb ⊢
   by_cases c2 : i = f.f0 ∧ j = f.f1
   ·rw [if_pos c2]
    obtain ⟨rfl, rfl⟩ := c2
    by_cases c : B f.f0 f.f1 = FREE
    ·rw [c, mn_eq]; unfold FREE; omega
    ·have := ht _ _ hi hj c
     rw [mn_eq]; omega
   ·rw [if_neg c2] at hb ⊢
    exact ht i j hi hj hb
end
theorem fold_spec (om : Int → Bool) : ∀ (L : List (Int × S153)) (B : Int → Int → Int), BInv 2000000 B → (∀ x ∈ L, FactOk x.2) →
  BInv 2000000 (L.foldl (fun B x => if om x.1 = true then B else sayF B x.2) B) ∧ ∀ t, Sat (L.foldl (fun B x => if om x.1 = true then B else sayF B x.2) B) t ↔ Sat B t ∧ ∀ x ∈ L, om x.1 = false → Keeps x.2 t
 | [], B, h, _ => ⟨h, fun t => ⟨fun ht => ⟨ht, fun x hx => by cases hx⟩, fun ht => ht.1⟩⟩
 | x :: L, B, h, hL => by
  have hx := hL x List.mem_cons_self
  have hr := fun y hy => hL y (List.mem_cons_of_mem _ hy)
  rw [List.foldl_cons]
  by_cases c : om x.1 = true
  ·rw [if_pos c]
   obtain ⟨a, b⟩ := fold_spec om L B h hr
   refine ⟨a, fun t => (b t).trans ⟨fun k => ⟨k.1, fun y hy ho => ?_⟩, fun k => ⟨k.1, fun y hy => k.2 y (List.mem_cons_of_mem _ hy)⟩⟩⟩
   rcases List.mem_cons.mp hy with rfl | hy
   ·rw [c] at ho; cases ho
   ·exact k.2 y hy ho
  ·rw [if_neg c]
   obtain ⟨a, b⟩ := fold_spec om L (sayF B x.2) (say_inv h hx) hr
   refine ⟨a, fun t => (b t).trans ?_⟩
   rw [say_sat h hx]
   constructor
   ·rintro ⟨⟨k1, k2⟩, k3⟩
    refine ⟨k1, fun y hy ho => ?_⟩
    rcases List.mem_cons.mp hy with rfl | hy
    ·exact k2
    ·exact k3 y hy ho
   ·rintro ⟨k1, k2⟩
    exact ⟨⟨k1, k2 x List.mem_cons_self (by cases h : om x.1 with | true => exact absurd h c | false => rfl)⟩, fun y hy => k2 y (List.mem_cons_of_mem _ hy)⟩
theorem bind_spec (om : Int → Bool) (L : List (Int × S153)) (hL : ∀ x ∈ L, FactOk x.2) : BInv 2000000 (bindP om L) ∧ ∀ t, Sat (bindP om L) t ↔ ∀ x ∈ L, om x.1 = false → Keeps x.2 t := by
 obtain ⟨a, b⟩ := fold_spec om L (fillN 11) fill_inv hL
 exact ⟨a, fun t => (b t).trans ⟨fun h => h.2, fun h => ⟨fill_sat t, h⟩⟩⟩
def repN (C : Int → Int → Int) (j : Int) : Nat → Int
 | 0 => 0
 | n + 1 => if C n j = FREE then repN C j n else n
theorem rep_in (C : Int → Int → Int) (j : Int) : ∀ n : Nat, n ≤ 11 → In (repN C j n)
 | 0, _ => ⟨by show (0 : Int) ≤ 0; omega, by show (0 : Int) < 11; omega⟩
 | n + 1, hn => by
  unfold repN
  split
  ·exact rep_in C j n (by omega)
  ·exact ⟨by omega, by omega⟩
theorem rep_ne (C : Int → Int → Int) (j : Int) : ∀ n : Nat, (∃ m : Int, 0 ≤ m ∧ m < n ∧ C m j ≠ FREE) → C (repN C j n) j ≠ FREE
 | 0, ⟨m, h0, h1, _⟩ => by omega
 | n + 1, ⟨m, h0, h1, h2⟩ => by
  unfold repN
  split
  ·rename_i c
   refine rep_ne C j n ⟨m, h0, ?_, h2⟩
   have : m ≠ (n : Int) := fun e => h2 (e ▸ c)
   omega
  ·rename_i c; exact c
theorem rep_congr (C : Int → Int → Int) (i j : Int) : ∀ n : Nat, n ≤ 11 → (∀ m, In m → (C m i = FREE ↔ C m j = FREE)) → repN C i n = repN C j n
 | 0, _, _ => rfl
 | n + 1, hn, h => by
  unfold repN
  have := h n ⟨by omega, by omega⟩
  by_cases c : C n i = FREE
  ·rw [if_pos c, if_pos (this.mp c)]; exact rep_congr C i j n (by omega) h
  ·rw [if_neg c, if_neg (fun hh => c (this.mpr hh))]
def timesOf (C : Int → Int → Int) (r j : Int) : Int := if C r j = FREE then C (repN C j 11) j else C r j
theorem times_sat {M : Int} {C : Int → Int → Int} (h : BInv M C) (hc : Clo C 11) {r : Int} (hr : In r) : Sat C (timesOf C r) := by
 intro i j hi hj hf
 unfold timesOf
 by_cases c : C r i = FREE
 ·have cj : C r j = FREE := Classical.byContradiction fun cj => (hc j r i hj hj.2 hr hi cj (h.sym i j hi hj hf)).1 c
  rw [if_pos c, if_pos cj]
  have e := rep_congr C i j 11 (Nat.le_refl _) (fun m hm => ⟨fun hh => Classical.byContradiction fun cj => (hc j m i hj hj.2 hm hi cj (h.sym i j hi hj hf)).1 hh, fun hh => Classical.byContradiction fun ci => (hc i m j hi hi.2 hm hj ci hf).1 hh⟩)
  have hp := rep_in C i 11 (Nat.le_refl _)
  have hne := rep_ne C i 11 ⟨i, hi.1, by have := hi.2; omega, by rw [h.diag i hi]; unfold FREE; omega⟩
  rw [← e]
  have := (hc i _ j hi hi.2 hp hj hne hf).2
  omega
 ·have w := hc i r j hi hi.2 hr hj c hf
  rw [if_neg c, if_neg w.1]
  omega
theorem times_at {C : Int → Int → Int} {r j : Int} (hf : C r j ≠ FREE) : timesOf C r j = C r j := if_neg hf
theorem mirror_inv {M : Int} {C : Int → Int → Int} (h : BInv M C) : BInv M (fun i j => C j i) := ⟨h.diag, fun i j hi hj => h.bd j i hj hi, fun i j hi hj => h.sym j i hj hi⟩
theorem mirror_clo {C : Int → Int → Int} (h : Clo C 11) : Clo (fun i j => C j i) 11 := fun k i j hk hlt hi hj a b => by
 have := h k j i hk hlt hj hi b a
 exact ⟨this.1, by show C j i ≤ C k i + C j k; omega⟩
theorem mirror_sat {C : Int → Int → Int} {t : Int → Int} (h : Sat (fun i j => C j i) t) : Sat C (fun i => -(t i)) := fun i j hi hj hf => by
 have := h j i hj hi hf
 show -(t j) - -(t i) ≤ C i j
 have : t i - t j ≤ C i j := this
 omega
theorem clo_last {M : Int} {C : Int → Int → Int} (h : BInv M C) (hc : Clo C 11) {r : Int} (hr : In r) : ∃ t, Sat C t ∧ t r = 0 ∧ ∀ j, In j → C r j ≠ FREE → t j = C r j :=
 ⟨timesOf C r, times_sat h hc hr, by
  have e := h.diag r hr
  rw [times_at (by rw [e]; unfold FREE; omega)]; exact e, fun j _ hf => times_at hf⟩
theorem clo_first {M : Int} {C : Int → Int → Int} (h : BInv M C) (hc : Clo C 11) {r : Int} (hr : In r) : ∃ t, Sat C t ∧ t r = 0 ∧ ∀ j, In j → C j r ≠ FREE → t j = -(C j r) := by
 obtain ⟨t, h1, h2, h3⟩ := clo_last (mirror_inv h) (mirror_clo hc) hr
 exact ⟨fun i => -(t i), mirror_sat h1, by show -(t r) = 0; omega, fun j hj hf => by show -(t j) = _; rw [h3 j hj hf]⟩
theorem tighten_iff {B : Int → Int → Int} (h : BInv 2000000 B) : (tightenF B).isSome = true ↔ ∃ t, Sat B t := by
 obtain ⟨a, b⟩ := kN_spec h (by omega) (by omega) 11 (Nat.le_refl _)
 unfold tightenF
 cases hC : kN B 11 with
 | none => exact ⟨fun h => (by cases h), fun h => absurd h (b hC)⟩
 | some C =>
  obtain ⟨h1, h2, h3⟩ := a C hC
  exact ⟨fun _ => ⟨timesOf C 0, (h2 _).mp (times_sat h1 h3 ⟨by omega, by omega⟩)⟩, fun _ => rfl⟩
theorem tighten_some {B C : Int → Int → Int} (h : BInv 2000000 B) (hC : tightenF B = some C) : BInv 4096000000 C ∧ (∀ t, Sat C t ↔ Sat B t) ∧ Clo C 11 := by
 obtain ⟨a, b⟩ := kN_spec h (by omega) (by omega) 11 (Nat.le_refl _)
 exact a C hC
end Go.Proofs.Ytbffhblebigcfaa.Sk
