/- The reason why no times fit: found two ways, it is the same. -/
import Derived.Test.YtbffhblebigcfaaCPrLHistB
import Derived.Test.YtbffhblebigcfaaCPrGReason
import Derived.Test.YtbffhblebigcfaaCPrS0
namespace Go.Proofs.Ytbffhblebigcfaa.Sk
open Go.RowKit Go.Proofs.YtbffhblebigcfaaW.PrintWords Go.Proofs.YtbffhblebigcfaaW.PrintLast Go.Proofs.YtbffhblebigcfaaW.PrintMore
set_option linter.unusedVariables false
set_option linter.unusedSimpArgs false
def cov (t : Int → Int) (y : Int) : Nat → Bool
 | 0 => false
 | n + 1 => cov t y n || decide (t n ≤ y ∧ y < t n + 2000000)
theorem cov_iff (t : Int → Int) (y : Int) : ∀ n : Nat, cov t y n = true ↔ ∃ i : Int, 0 ≤ i ∧ i < n ∧ t i ≤ y ∧ y < t i + 2000000
 | 0 => ⟨fun h => (by cases h), fun ⟨i, a, b, _⟩ => by omega⟩
 | n + 1 => by
  unfold cov
  rw [Bool.or_eq_true_iff, cov_iff t y n]
  constructor
  ·rintro (⟨i, a, b, c⟩ | h)
   ·exact ⟨i, a, by omega, c⟩
   ·exact ⟨n, by omega, by omega, of_decide_eq_true h⟩
  ·rintro ⟨i, a, b, c⟩
   by_cases e : i = (n : Int)
   ·subst e; exact .inr (decide_eq_true c)
   ·exact .inl ⟨i, a, by omega, c⟩
def cnt (t : Int → Int) (m : Int) : Nat → Int
 | 0 => 0
 | n + 1 => cnt t m n + if cov t (m + n) 11 = true then 1 else 0
theorem cnt_succ (t : Int → Int) (m : Int) (n : Nat) : cnt t m (n + 1) = cnt t m n + if cov t (m + n) 11 = true then 1 else 0 := rfl
theorem cnt_step (t : Int → Int) (m : Int) (n : Nat) : cnt t m n ≤ cnt t m (n + 1) ∧ cnt t m (n + 1) ≤ cnt t m n + 1 := by
 rw [cnt_succ]; split <;> omega
theorem cnt_mono (t : Int → Int) (m : Int) (n : Nat) : ∀ d : Nat, cnt t m n ≤ cnt t m (n + d) ∧ cnt t m (n + d) ≤ cnt t m n + d
 | 0 => ⟨Int.le_refl _, by rw [Nat.add_zero]; omega⟩
 | d + 1 => by
  have a := cnt_mono t m n d
  have b := cnt_step t m (n + d)
  rw [show n + (d + 1) = n + d + 1 by omega]
  omega
theorem cnt_full (t : Int → Int) (m : Int) (n : Nat) : ∀ d : Nat, (∀ e : Nat, e < d → cov t (m + (n + e : Nat)) 11 = true) → cnt t m (n + d) = cnt t m n + d
 | 0, _ => by rw [Nat.add_zero]; omega
 | d + 1, h => by
  have a := cnt_full t m n d (fun e he => h e (by omega))
  rw [show n + (d + 1) = n + d + 1 by omega]
  show cnt t m (n + d) + (if cov t (m + (n + d : Nat)) 11 = true then 1 else 0) = _
  rw [if_pos (h d (by omega)), a]
  omega
def part (t : Int → Int) (m : Int) (n : Nat) (i : Int) : Int := max 0 (min 2000000 (m + n - t i))
theorem part_bd (t : Int → Int) (m : Int) (n : Nat) (i : Int) : 0 ≤ part t m n i ∧ part t m n i ≤ 2000000 := by unfold part; omega
theorem part_step (t : Int → Int) (m : Int) (n : Nat) (i : Int) : part t m n i ≤ part t m (n + 1) i := by unfold part; omega
theorem part_cov (t : Int → Int) (m : Int) (n : Nat) (i : Int) (h : t i ≤ m + n ∧ m + n < t i + 2000000) : part t m n i < part t m (n + 1) i := by unfold part; omega
theorem cnt_part (t : Int → Int) (m : Int) : ∀ n : Nat, cnt t m n ≤ sumT (part t m n) 11
 | 0 => by
  have : sumT (fun _ => 0) 11 ≤ sumT (part t m 0) 11 := sumT_le 11 fun j _ _ => (part_bd t m 0 j).1
  have e : sumT (fun _ => 0) 11 = 0 := rfl
  show 0 ≤ _
  omega
 | n + 1 => by
  have ih := cnt_part t m n
  unfold cnt
  by_cases c : cov t (m + n) 11 = true
  ·rw [if_pos c]
   obtain ⟨i, a, b, e⟩ := (cov_iff t _ 11).mp c
   have := sumT_lt (f := part t m n) (g := part t m (n + 1)) 11 (fun j _ _ => part_step t m n j) ⟨i, a, b, part_cov t m n i e⟩
   omega
  ·rw [if_neg c]
   have := sumT_le (f := part t m n) (g := part t m (n + 1)) 11 (fun j _ _ => part_step t m n j)
   omega
theorem cnt_bd (t : Int → Int) (m : Int) (n : Nat) : 0 ≤ cnt t m n ∧ cnt t m n ≤ 22000000 := by
 have a := (cnt_mono t m 0 n).1
 rw [Nat.zero_add] at a
 have a : 0 ≤ cnt t m n := a
 have b := cnt_part t m n
 have c : sumT (part t m n) 11 ≤ sumT (fun _ => 2000000) 11 := sumT_le 11 fun j _ _ => (part_bd t m n j).2
 have d : sumT (fun _ => 2000000) 11 = 22000000 := rfl
 omega
def minT (t : Int → Int) : Nat → Int
 | 0 => t 0
 | n + 1 => min (minT t n) (t n)
theorem minT_le (t : Int → Int) : ∀ (n : Nat) (j : Int), 0 ≤ j → j < n → minT t n ≤ t j
 | 0, j, a, b => by omega
 | n + 1, j, a, b => by
  unfold minT
  by_cases e : j = (n : Int)
  ·subst e; omega
  ·have := minT_le t n j a (by omega); omega
def nearT (t : Int → Int) (j : Int) : Int := cnt t (minT t 11) (t j - minT t 11).toNat
theorem near_keep {t : Int → Int} {f : S153} (hf : FactOk f) (h : Keeps f t) : Keeps f (nearT t) := by
 have m0 := minT_le t 11 f.f0 hf.i0.1 hf.i0.2
 have m1 := minT_le t 11 f.f1 hf.i1.1 hf.i1.2
 obtain ⟨k1, k2⟩ := h
 have l := hf.lo
 have hh := hf.hi
 unfold Keeps nearT
 obtain ⟨m, hm⟩ : ∃ m, minT t 11 = m := ⟨_, rfl⟩
 rw [hm] at m0 m1 ⊢
 have side : ∀ (a b l : Int), In a → m ≤ t a → t a ≤ t b → l ≤ 2000000 → l ≤ t b - t a → 0 ≤ cnt t m (t b - m).toNat - cnt t m (t a - m).toNat ∧ cnt t m (t b - m).toNat - cnt t m (t a - m).toNat ≤ t b - t a ∧ l ≤ cnt t m (t b - m).toNat - cnt t m (t a - m).toNat := by
  intro a b l ha hma hab hl hlt
  have e : (t b - m).toNat = (t a - m).toNat + (t b - t a).toNat := by omega
  have c1 := cnt_mono t m (t a - m).toNat (t b - t a).toNat
  rw [← e] at c1
  refine ⟨by omega, by omega, ?_⟩
  by_cases hl0 : l ≤ 0
  ·omega
  ·have c2 := cnt_full t m (t a - m).toNat l.toNat (fun i hi => (cov_iff t _ 11).mpr ⟨a, ha.1, ha.2, by omega, by omega⟩)
   have e2 : (t b - m).toNat = (t a - m).toNat + l.toNat + (t b - t a - l).toNat := by omega
   have c3 := (cnt_mono t m ((t a - m).toNat + l.toNat) (t b - t a - l).toNat).1
   rw [← e2] at c3
   omega
 by_cases hab : t f.f0 ≤ t f.f1
 ·have := side f.f0 f.f1 f.f2 hf.i0 m0 hab (by omega) (by omega)
  exact ⟨by omega, by omega⟩
 ·have := side f.f1 f.f0 (-f.f3) hf.i1 m1 (by omega) (by omega) (by omega)
  exact ⟨by omega, by omega⟩
theorem near_bd (t : Int → Int) (i j : Int) : -22000000 ≤ nearT t i - nearT t j ∧ nearT t i - nearT t j ≤ 22000000 := by
 unfold nearT
 have a := cnt_bd t (minT t 11) (t i - minT t 11).toNat
 have b := cnt_bd t (minT t 11) (t j - minT t 11).toNat
 omega
def far27 : S27 := ⟨-100000000, 100000000⟩
def mkE (f : Nat → S27) (n : Nat) : List S27 := (List.range n).map f
theorem mkE_len (f : Nat → S27) (n : Nat) : (mkE f n).length = n := by unfold mkE; rw [List.length_map, List.length_range]
theorem rd_mkE (f : Nat → S27) (n j : Nat) (h : j < n) : rd_T27 (mkE f n) (j : Int) = f j := by
 simp [rd_T27, mkE, List.getD_eq_getElem?_getD, h]
def eF (evs : List S27) (S : List Int) (j : Nat) : S27 := if (j : Int) ∈ S then rd_T27 evs (j : Int) else far27
def gF (evs : List S27) (gaps : List S86) (S : List Int) : List S86 := (S.filter fun v => decide ((evs.length : Int) ≤ v)).map fun v => rd_T86 gaps (v - evs.length)
def possB (evs : List S27) (gaps : List S86) (S : List Int) : Bool := (solveR (mkE (eF evs S) evs.length) (gF evs gaps S)).2
theorem gF_in {evs : List S27} {gaps : List S86} (h : HistIs evs gaps) (S : List Int) (hin : ∀ v ∈ S, 0 ≤ v ∧ v < (evs.length : Int) + gaps.length) : ∀ g ∈ gF evs gaps S, GapIn (mkE (eF evs S) evs.length).length g := by
 rw [mkE_len]
 intro g hg
 unfold gF at hg
 obtain ⟨v, hv, rfl⟩ := List.mem_map.mp hg
 obtain ⟨hv1, hv2⟩ := List.mem_filter.mp hv
 have h1 := hin v hv1
 have h2 := of_decide_eq_true hv2
 have := h.gap _ (mem86 gaps (v - evs.length).toNat (by omega))
 rwa [show (((v - evs.length).toNat : Nat) : Int) = v - evs.length by omega] at this
theorem poss_iff {evs : List S27} {gaps : List S86} (h : HistIs evs gaps) (S : List Int) (hin : ∀ v ∈ S, 0 ≤ v ∧ v < (evs.length : Int) + gaps.length) : possB evs gaps S = true ↔ ∃ t, ∀ x ∈ saidL evs gaps, x.1 ∈ S → Keeps x.2 t := by
 have hn := h.n
 unfold possB
 rw [(solve_spec _ _ (gF_in h S hin)).1]
 constructor
 ·rintro ⟨t, h1, h2⟩
  rw [mkE_len] at h2
  refine ⟨fun j => if j = 10 then 0 else t j, fun x hx hxS => ?_⟩
  rcases said_mem hx with ⟨i, hi, rfl⟩ | ⟨i, hi, rfl⟩
  ·have := h2 (i : Int) (by omega) (by omega)
   rw [rd_mkE _ _ i hi] at this
   unfold eF at this
   rw [if_pos hxS] at this
   show (rd_T27 evs i).f0 ≤ (if (i : Int) = 10 then 0 else t i) - (if (10 : Int) = 10 then 0 else t 10) ∧ (if (i : Int) = 10 then 0 else t i) - (if (10 : Int) = 10 then 0 else t 10) ≤ (rd_T27 evs i).f1
   rw [if_neg (by omega), if_pos rfl]
   omega
  ·have hgm : rd_T86 gaps (i : Int) ∈ gF evs gaps S := by
    unfold gF
    exact List.mem_map.mpr ⟨(evs.length : Int) + i, List.mem_filter.mpr ⟨hxS, decide_eq_true (by omega)⟩, by rw [show (evs.length : Int) + i - evs.length = i by omega]⟩
   have hs := h1 _ hgm
   have hi' := h.gap _ (mem86 gaps i hi)
   have a1 := hi'.a1
   have b1 := hi'.b1
   show (rd_T86 gaps i).f2 ≤ (if (rd_T86 gaps i).f1 = 10 then 0 else t (rd_T86 gaps i).f1) - (if (rd_T86 gaps i).f0 = 10 then 0 else t (rd_T86 gaps i).f0) ∧ (if (rd_T86 gaps i).f1 = 10 then 0 else t (rd_T86 gaps i).f1) - (if (rd_T86 gaps i).f0 = 10 then 0 else t (rd_T86 gaps i).f0) ≤ (rd_T86 gaps i).f3
   rw [if_neg (by omega), if_neg (by omega)]
   exact hs
 ·rintro ⟨t, ht⟩
  have hk : ∀ x ∈ saidL evs gaps, x.1 ∈ S → Keeps x.2 (nearT t) := fun x hx hxS => near_keep (h.facts x hx) (ht x hx hxS)
  refine ⟨fun j => nearT t j - nearT t 10, fun g hg => ?_, fun j h0 h1 => ?_⟩
  ·unfold gF at hg
   obtain ⟨v, hv, rfl⟩ := List.mem_map.mp hg
   obtain ⟨hv1, hv2⟩ := List.mem_filter.mp hv
   have h1 := hin v hv1
   have h2 := of_decide_eq_true hv2
   have := hk _ (mem_said2 evs gaps (v - evs.length).toNat (by omega)) (by show (evs.length : Int) + _ ∈ S; rw [show (evs.length : Int) + ((v - evs.length).toNat : Nat) = v by omega]; exact hv1)
   rw [show (((v - evs.length).toNat : Nat) : Int) = v - evs.length by omega] at this
   obtain ⟨a, b⟩ := this
   have a : (rd_T86 gaps (v - evs.length)).f2 ≤ nearT t (rd_T86 gaps (v - evs.length)).f1 - nearT t (rd_T86 gaps (v - evs.length)).f0 := a
   have b : nearT t (rd_T86 gaps (v - evs.length)).f1 - nearT t (rd_T86 gaps (v - evs.length)).f0 ≤ (rd_T86 gaps (v - evs.length)).f3 := b
   exact ⟨by show _ ≤ (nearT t (rd_T86 gaps (v - evs.length)).f1 - nearT t 10) - (nearT t (rd_T86 gaps (v - evs.length)).f0 - nearT t 10); omega, by show (nearT t (rd_T86 gaps (v - evs.length)).f1 - nearT t 10) - (nearT t (rd_T86 gaps (v - evs.length)).f0 - nearT t 10) ≤ _; omega⟩
  ·rw [mkE_len] at h1
   have e := rd_mkE (eF evs S) evs.length j.toNat (by omega)
   rw [show ((j.toNat : Nat) : Int) = j by omega] at e
   rw [e]
   unfold eF
   rw [show ((j.toNat : Nat) : Int) = j by omega]
   by_cases c : j ∈ S
   ·rw [if_pos c]
    have := hk _ (mem_said1 evs gaps j.toNat (by omega)) (by show ((j.toNat : Nat) : Int) ∈ S; rw [show ((j.toNat : Nat) : Int) = j by omega]; exact c)
    rw [show ((j.toNat : Nat) : Int) = j by omega] at this
    exact this
   ·rw [if_neg c]
    have := near_bd t j 10
    show (-100000000 : Int) ≤ nearT t j - nearT t 10 ∧ nearT t j - nearT t 10 ≤ 100000000
    omega
def fromTo (i d : Nat) : List Int := (List.range d).map fun m => ((i + m : Nat) : Int)
theorem fromTo_succ (i d : Nat) : fromTo i (d + 1) = (i : Int) :: fromTo (i + 1) d := by
 unfold fromTo
 rw [List.range_succ_eq_map, List.map_cons, List.map_map]
 congr 1
 apply List.map_congr_left
 intro m _
 show ((i + (m + 1) : Nat) : Int) = ((i + 1 + m : Nat) : Int)
 omega
theorem mem_fromTo (i d : Nat) (v : Int) : v ∈ fromTo i d ↔ (i : Int) ≤ v ∧ v < (i : Int) + d := by
 unfold fromTo
 rw [List.mem_map]
 constructor
 ·rintro ⟨m, hm, rfl⟩; have := List.mem_range.mp hm; omega
 ·intro h; exact ⟨(v - i).toNat, List.mem_range.mpr (by omega), by omega⟩
theorem said_len (evs : List S27) (gaps : List S86) : (saidL evs gaps).length = evs.length + gaps.length := by unfold saidL; simp
theorem said_num (evs : List S27) (gaps : List S86) (i : Nat) (h : i < (saidL evs gaps).length) : ((saidL evs gaps)[i]).1 = (i : Int) := by
 have hl := said_len evs gaps
 have e : ((saidL evs gaps)[i]?).map (·.1) = some (i : Int) := by
  unfold saidL
  by_cases c : i < evs.length
  ·rw [List.getElem?_append_left (by simp; exact c), List.getElem?_map, List.getElem?_range c]; rfl
  ·rw [List.getElem?_append_right (by simp; omega), List.getElem?_map, List.length_map, List.length_range, List.getElem?_range (by omega)]
   show some ((evs.length : Int) + ((i - evs.length : Nat) : Int)) = _
   congr 1
   omega
 rw [List.getElem?_eq_getElem h] at e
 exact Option.some.inj e
theorem step_same {evs : List S27} {gaps : List S86} (h : HistIs evs gaps) (f : Int → Option Bool) (R : List Int) (i d : Nat) (hi : i + d + 1 = evs.length + gaps.length) (hR : ∀ v ∈ R, 0 ≤ v ∧ v < i) (hf : ∀ j : Int, 0 ≤ j → j < (evs.length : Int) + gaps.length → (omF f j = true ↔ j < i ∧ j ∉ R)) :
  (tightenF (bindP (omF (upd f i true)) (saidL evs gaps))).isSome = possB evs gaps (R ++ fromTo (i + 1) d) := by
 have hin : ∀ v ∈ R ++ fromTo (i + 1) d, 0 ≤ v ∧ v < (evs.length : Int) + gaps.length := fun v hv => by
  rcases List.mem_append.mp hv with hv | hv
  ·have := hR v hv; omega
  ·have := (mem_fromTo _ _ _).mp hv; omega
 obtain ⟨b1, b2⟩ := bind_spec (omF (upd f i true)) (saidL evs gaps) h.facts
 rw [Bool.eq_iff_iff, tighten_iff b1, poss_iff h _ hin]
 have key : ∀ x ∈ saidL evs gaps, omF (upd f i true) x.1 = false ↔ x.1 ∈ R ++ fromTo (i + 1) d := fun x hx => by
  have hx1 : 0 ≤ x.1 ∧ x.1 < (evs.length : Int) + gaps.length := by
   rcases said_mem hx with ⟨j, hj, rfl⟩ | ⟨j, hj, rfl⟩
   ·exact ⟨by show (0 : Int) ≤ j; omega, by show (j : Int) < _; omega⟩
   ·exact ⟨by show (0 : Int) ≤ evs.length + j; omega, by show (evs.length : Int) + j < _; omega⟩
  rw [List.mem_append, mem_fromTo]
  by_cases e : x.1 = (i : Int)
  ·have e1 : omF (upd f i true) x.1 = true := by unfold omF upd; rw [if_pos e]; rfl
   rw [e1]
   refine ⟨fun h => (by cases h), fun h => ?_⟩
   exfalso
   rcases h with h | h
   ·have := hR _ h; omega
   ·omega
  ·have e1 : omF (upd f i true) x.1 = omF f x.1 := by unfold omF upd; rw [if_neg e]
   rw [e1, Bool.eq_false_iff]
   have := hf x.1 hx1.1 hx1.2
   constructor
   ·intro hne
    by_cases hlt : x.1 < i
    ·exact .inl (Classical.byContradiction fun hc => hne (this.mpr ⟨hlt, hc⟩))
    ·exact .inr (by omega)
   ·intro hm ht
    obtain ⟨h1, h2⟩ := this.mp ht
    rcases hm with hm | hm
    ·exact h2 hm
    ·omega
 constructor
 ·rintro ⟨t, ht⟩
  exact ⟨t, fun x hx hxS => (b2 t).mp ht x hx ((key x hx).mpr hxS)⟩
 ·rintro ⟨t, ht⟩
  exact ⟨t, (b2 t).mpr fun x hx ho => ht x hx ((key x hx).mp ho)⟩
def reasonR (evs : List S27) (gaps : List S86) : List Int × Int :=
 if histB evs gaps = true then if (solveR evs gaps).2 = true then ([], 5) else (reasonP (saidL evs gaps), 0) else ([], 2)
theorem reason_skew (evs : List S27) (gaps : List S86) : skew_Reason.f evs gaps = some (reasonR evs gaps) := by
 unfold skew_Reason.f reasonR
 rw [isHist_1000, Option.bind_some]
 by_cases c : histB evs gaps = true
 ·have h := (histIs evs gaps).mp c
  rw [if_pos c, if_pos c, if_pos h.ok, tighten_solve h]
  by_cases d : (solveR evs gaps).2 = true
  ·rw [if_pos d, if_pos d]
  ·rw [if_neg d, if_neg d]
 ·rw [if_neg c, if_neg c]
end Go.Proofs.Ytbffhblebigcfaa.Sk
