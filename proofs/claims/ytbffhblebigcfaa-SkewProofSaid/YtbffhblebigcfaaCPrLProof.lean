/- Reasons: they cannot be, and could if any of them were left out. -/
import Derived.Test.YtbffhblebigcfaaCPrLReason
import Derived.Test.YtbffhblebigcfaaCPrLTight
namespace Go.Proofs.Ytbffhblebigcfaa.Sk
open Go.RowKit Go.Proofs.YtbffhblebigcfaaW.PrintWords Go.Proofs.YtbffhblebigcfaaW.PrintLast Go.Proofs.YtbffhblebigcfaaW.PrintMore
set_option linter.unusedVariables false
set_option linter.unusedSimpArgs false
def covG (G : Int) (t : Int → Int) (y : Int) : Nat → Bool
 | 0 => false
 | n + 1 => covG G t y n || decide (t n ≤ y ∧ y < t n + G)
theorem covG_iff (G : Int) (t : Int → Int) (y : Int) : ∀ n : Nat, covG G t y n = true ↔ ∃ i : Int, 0 ≤ i ∧ i < n ∧ t i ≤ y ∧ y < t i + G
 | 0 => ⟨fun h => (by cases h), fun ⟨i, a, b, _⟩ => by omega⟩
 | n + 1 => by
  unfold covG
  rw [Bool.or_eq_true_iff, covG_iff G t y n]
  constructor
  ·rintro (⟨i, a, b, c⟩ | h)
   ·exact ⟨i, a, by omega, c⟩
   ·exact ⟨n, by omega, by omega, of_decide_eq_true h⟩
  ·rintro ⟨i, a, b, c⟩
   by_cases e : i = (n : Int)
   ·subst e; exact .inr (decide_eq_true c)
   ·exact .inl ⟨i, a, by omega, c⟩
def cntG (G : Int) (t : Int → Int) (m : Int) : Nat → Int
 | 0 => 0
 | n + 1 => cntG G t m n + if covG G t (m + n) 11 = true then 1 else 0
theorem cntG_succ (G : Int) (t : Int → Int) (m : Int) (n : Nat) : cntG G t m (n + 1) = cntG G t m n + if covG G t (m + n) 11 = true then 1 else 0 := rfl
theorem cntG_step (G : Int) (t : Int → Int) (m : Int) (n : Nat) : cntG G t m n ≤ cntG G t m (n + 1) ∧ cntG G t m (n + 1) ≤ cntG G t m n + 1 := by
 rw [cntG_succ]; split <;> omega
theorem cntG_mono (G : Int) (t : Int → Int) (m : Int) (n : Nat) : ∀ d : Nat, cntG G t m n ≤ cntG G t m (n + d) ∧ cntG G t m (n + d) ≤ cntG G t m n + d
 | 0 => ⟨Int.le_refl _, by rw [Nat.add_zero]; omega⟩
 | d + 1 => by
  have a := cntG_mono G t m n d
  have b := cntG_step G t m (n + d)
  rw [show n + (d + 1) = n + d + 1 by omega]
  omega
theorem cntG_full (G : Int) (t : Int → Int) (m : Int) (n : Nat) : ∀ d : Nat, (∀ e : Nat, e < d → covG G t (m + (n + e : Nat)) 11 = true) → cntG G t m (n + d) = cntG G t m n + d
 | 0, _ => by rw [Nat.add_zero]; omega
 | d + 1, h => by
  have a := cntG_full G t m n d (fun e he => h e (by omega))
  rw [show n + (d + 1) = n + d + 1 by omega, cntG_succ, if_pos (h d (by omega)), a]
  omega
def partG (G : Int) (t : Int → Int) (m : Int) (n : Nat) (i : Int) : Int := max 0 (min G (m + n - t i))
theorem cntG_part (G : Int) (hG : 0 < G) (t : Int → Int) (m : Int) : ∀ n : Nat, cntG G t m n ≤ sumT (partG G t m n) 11
 | 0 => by
  have : sumT (fun _ => 0) 11 ≤ sumT (partG G t m 0) 11 := sumT_le 11 fun j _ _ => by unfold partG; omega
  have e : sumT (fun _ => 0) 11 = 0 := rfl
  show 0 ≤ _
  omega
 | n + 1 => by
  have ih := cntG_part G hG t m n
  rw [cntG_succ]
  have st : ∀ j : Int, 0 ≤ j → j < (11 : Nat) → partG G t m n j ≤ partG G t m (n + 1) j := fun j _ _ => by unfold partG; omega
  by_cases c : covG G t (m + n) 11 = true
  ·rw [if_pos c]
   obtain ⟨i, a, b, e⟩ := (covG_iff G t _ 11).mp c
   have := sumT_lt (f := partG G t m n) (g := partG G t m (n + 1)) 11 st ⟨i, a, b, by unfold partG; omega⟩
   omega
  ·rw [if_neg c]
   have := sumT_le (f := partG G t m n) (g := partG G t m (n + 1)) 11 st
   omega
theorem cntG_bd (G : Int) (hG : 0 < G) (t : Int → Int) (m : Int) (n : Nat) : 0 ≤ cntG G t m n ∧ cntG G t m n ≤ 11 * G := by
 have a := (cntG_mono G t m 0 n).1
 rw [Nat.zero_add] at a
 have a : 0 ≤ cntG G t m n := a
 have b := cntG_part G hG t m n
 have c : sumT (partG G t m n) 11 ≤ sumT (fun _ => G) 11 := sumT_le 11 fun j _ _ => by unfold partG; omega
 have d : sumT (fun _ => G) 11 = 11 * G := by simp only [sumT]; omega
 omega
def nearG (G : Int) (t : Int → Int) (j : Int) : Int := cntG G t (minT t 11) (t j - minT t 11).toNat
theorem nearG_bd (G : Int) (hG : 0 < G) (t : Int → Int) (i j : Int) : -(11 * G) ≤ nearG G t i - nearG G t j ∧ nearG G t i - nearG G t j ≤ 11 * G := by
 unfold nearG
 have a := cntG_bd G hG t (minT t 11) (t i - minT t 11).toNat
 have b := cntG_bd G hG t (minT t 11) (t j - minT t 11).toNat
 omega
theorem nearG_keep {G : Int} (hG : 0 < G) {t : Int → Int} {f : S153} (i0 : In f.f0) (i1 : In f.f1) (lo : -G ≤ f.f2 ∧ f.f2 ≤ G) (hi : (-G ≤ f.f3 ∧ f.f3 ≤ G) ∨ 11 * G ≤ f.f3) (h : Keeps f t) : Keeps f (nearG G t) := by
 have m0 := minT_le t 11 f.f0 i0.1 i0.2
 have m1 := minT_le t 11 f.f1 i1.1 i1.2
 have bd := nearG_bd G hG t f.f1 f.f0
 obtain ⟨k1, k2⟩ := h
 unfold Keeps
 unfold nearG at bd ⊢
 obtain ⟨m, hm⟩ : ∃ m, minT t 11 = m := ⟨_, rfl⟩
 rw [hm] at m0 m1 bd ⊢
 have side : ∀ (a b l : Int), In a → m ≤ t a → t a ≤ t b → l ≤ G → l ≤ t b - t a → 0 ≤ cntG G t m (t b - m).toNat - cntG G t m (t a - m).toNat ∧ cntG G t m (t b - m).toNat - cntG G t m (t a - m).toNat ≤ t b - t a ∧ l ≤ cntG G t m (t b - m).toNat - cntG G t m (t a - m).toNat := by
  intro a b l ha hma hab hl hlt
  have e : (t b - m).toNat = (t a - m).toNat + (t b - t a).toNat := by omega
  have c1 := cntG_mono G t m (t a - m).toNat (t b - t a).toNat
  rw [← e] at c1
  refine ⟨by omega, by omega, ?_⟩
  by_cases hl0 : l ≤ 0
  ·omega
  ·have c2 := cntG_full G t m (t a - m).toNat l.toNat (fun i hi => (covG_iff G t _ 11).mpr ⟨a, ha.1, ha.2, by omega, by omega⟩)
   have e2 : (t b - m).toNat = (t a - m).toNat + l.toNat + (t b - t a - l).toNat := by omega
   have c3 := (cntG_mono G t m ((t a - m).toNat + l.toNat) (t b - t a - l).toNat).1
   rw [← e2] at c3
   omega
 by_cases hab : t f.f0 ≤ t f.f1
 ·have := side f.f0 f.f1 f.f2 i0 m0 hab (by omega) (by omega)
  exact ⟨by omega, by omega⟩
 ·have s := side f.f1 f.f0 0 i1 m1 (by omega) (by omega) (by omega)
  rcases hi with hi | hi
  ·have := side f.f1 f.f0 (-f.f3) i1 m1 (by omega) (by omega) (by omega)
   exact ⟨by omega, by omega⟩
  ·exact ⟨by omega, by omega⟩
section
variable {evs : List S27} {gaps : List S86} (h : HistIs evs gaps)
include h
theorem poss_mono {S S' : List Int} (hin : ∀ v ∈ S, 0 ≤ v ∧ v < (evs.length : Int) + gaps.length) (hs : ∀ v ∈ S', v ∈ S) (hp : possB evs gaps S = true) : possB evs gaps S' = true := by
 rw [poss_iff h S hin] at hp
 obtain ⟨t, ht⟩ := hp
 exact (poss_iff h S' (fun v hv => hin v (hs v hv))).mpr ⟨t, fun x hx hxs => ht x hx (hs _ hxs)⟩
theorem reason_least : ∀ (d i : Nat) (f : Int → Option Bool) (R : List Int), i + d = evs.length + gaps.length → (∀ v ∈ R, 0 ≤ v ∧ v < i) → (∀ j : Int, 0 ≤ j → j < (evs.length : Int) + gaps.length → (omF f j = true ↔ j < i ∧ j ∉ R)) →
  possB evs gaps (R ++ fromTo i d) = false → (∀ n ∈ R, possB evs gaps ((R ++ fromTo i d).filter fun v => decide (v ≠ n)) = true) →
  (∀ v ∈ (((saidL evs gaps).drop i).foldl (rstep (saidL evs gaps)) (f, R)).2, 0 ≤ v ∧ v < (evs.length : Int) + gaps.length) ∧
  possB evs gaps (((saidL evs gaps).drop i).foldl (rstep (saidL evs gaps)) (f, R)).2 = false ∧ ∀ n ∈ (((saidL evs gaps).drop i).foldl (rstep (saidL evs gaps)) (f, R)).2, possB evs gaps ((((saidL evs gaps).drop i).foldl (rstep (saidL evs gaps)) (f, R)).2.filter fun v => decide (v ≠ n)) = true
 | 0, i, f, R, hi, hR, hf, h1, h2 => by
  rw [List.drop_of_length_le (by rw [said_len]; omega)]
  have e : R ++ fromTo i 0 = R := by simp [fromTo]
  rw [e] at h1 h2
  exact ⟨fun v hv => by have := hR v hv; omega, h1, h2⟩
 | d + 1, i, f, R, hi, hR, hf, h1, h2 => by
  have hil : i < (saidL evs gaps).length := by rw [said_len]; omega
  have hss := step_same h f R i d (by omega) hR hf
  have hx := said_num evs gaps i hil
  rw [List.drop_eq_getElem_cons hil, List.foldl_cons]
  have hin0 : ∀ v ∈ R ++ fromTo i (d + 1), 0 ≤ v ∧ v < (evs.length : Int) + gaps.length := fun v hv => by
   rcases List.mem_append.mp hv with hv | hv
   ·have := hR v hv; omega
   ·have := (mem_fromTo _ _ _).mp hv; omega
  have hsub : ∀ v ∈ R ++ fromTo (i + 1) d, v ∈ R ++ fromTo i (d + 1) := fun v hv => by
   rcases List.mem_append.mp hv with hv | hv
   ·exact List.mem_append.mpr (.inl hv)
   ·have := (mem_fromTo _ _ _).mp hv
    exact List.mem_append.mpr (.inr ((mem_fromTo _ _ _).mpr (by omega)))
  cases hp : possB evs gaps (R ++ fromTo (i + 1) d) with
  | true =>
   have est : rstep (saidL evs gaps) (f, R) (saidL evs gaps)[i] = (upd (upd f i true) i false, R ++ [(i : Int)]) := by
    unfold rstep; rw [hx, hss, hp, if_pos rfl]
   rw [est]
   have el : (R ++ [(i : Int)]) ++ fromTo (i + 1) d = R ++ fromTo i (d + 1) := by rw [fromTo_succ, List.append_assoc]; rfl
   refine reason_least d (i + 1) _ _ (by omega) (fun v hv => ?_) (fun j j0 j1 => ?_) (by rw [el]; exact h1) (fun n hn => ?_)
   ·rcases List.mem_append.mp hv with hv | hv
    ·have := hR v hv; omega
    ·rw [List.mem_singleton] at hv; omega
   ·unfold omF upd
    rw [List.mem_append, List.mem_singleton]
    by_cases e : j = (i : Int)
    ·rw [if_pos e]
     refine ⟨fun h => (by cases h), fun h => absurd (.inr e) h.2⟩
    ·rw [if_neg e, if_neg e]
     have := hf j j0 j1
     unfold omF at this
     rw [this]
     constructor
     ·rintro ⟨a, b⟩; exact ⟨by omega, fun h => h.elim b e⟩
     ·rintro ⟨a, b⟩; exact ⟨by omega, fun h => b (.inl h)⟩
   ·rw [el]
    rcases List.mem_append.mp hn with hn | hn
    ·exact h2 n hn
    ·rw [List.mem_singleton] at hn
     subst hn
     have hfilt : (R ++ fromTo i (d + 1)).filter (fun v => decide (v ≠ (i : Int))) = R ++ fromTo (i + 1) d := by
      rw [List.filter_append, fromTo_succ, List.filter_cons_of_neg (by simp)]
      congr 1
      ·rw [List.filter_eq_self]
       intro v hv
       have := hR v hv
       exact decide_eq_true (by omega)
      ·rw [List.filter_eq_self]
       intro v hv
       have := (mem_fromTo _ _ _).mp hv
       exact decide_eq_true (by omega)
     rw [hfilt]; exact hp
  | false =>
   have est : rstep (saidL evs gaps) (f, R) (saidL evs gaps)[i] = (upd f i true, R) := by
    unfold rstep; rw [hx, hss, hp, if_neg (by simp)]
   rw [est]
   refine reason_least d (i + 1) _ _ (by omega) (fun v hv => by have := hR v hv; omega) (fun j j0 j1 => ?_) hp (fun n hn => ?_)
   ·unfold omF upd
    by_cases e : j = (i : Int)
    ·rw [if_pos e]
     refine ⟨fun _ => ⟨by omega, fun h => ?_⟩, fun _ => rfl⟩
     have := hR j h; omega
    ·rw [if_neg e]
     have := hf j j0 j1
     unfold omF at this
     rw [this]
     constructor
     ·rintro ⟨a, b⟩; exact ⟨by omega, b⟩
     ·rintro ⟨a, b⟩; exact ⟨by omega, b⟩
   ·refine poss_mono h (S := (R ++ fromTo i (d + 1)).filter fun v => decide (v ≠ n)) (fun v hv => hin0 v (List.mem_filter.mp hv).1) (fun v hv => ?_) (h2 n hn)
    obtain ⟨a, b⟩ := List.mem_filter.mp hv
    exact List.mem_filter.mpr ⟨hsub v a, b⟩
theorem reason_is (hno : ¬ (solveR evs gaps).2 = true) : (∀ v ∈ reasonP (saidL evs gaps), 0 ≤ v ∧ v < (evs.length : Int) + gaps.length) ∧ possB evs gaps (reasonP (saidL evs gaps)) = false ∧ (∀ n ∈ reasonP (saidL evs gaps), possB evs gaps ((reasonP (saidL evs gaps)).filter fun v => decide (v ≠ n)) = true) ∧ reasonP (saidL evs gaps) ≠ [] ∧ (reasonP (saidL evs gaps)).length ≤ evs.length + gaps.length := by
 have h0 : possB evs gaps (fromTo 0 (evs.length + gaps.length)) = false := by
  rw [Bool.eq_false_iff]
  intro hp
  have hin : ∀ v ∈ fromTo 0 (evs.length + gaps.length), 0 ≤ v ∧ v < (evs.length : Int) + gaps.length := fun v hv => by
   have := (mem_fromTo _ _ _).mp hv; omega
  rw [poss_iff h _ hin] at hp
  obtain ⟨t, ht⟩ := hp
  refine hno ((solve_spec evs gaps h.gap).1.mpr ⟨_, (keeps_fit h t).mp fun x hx => ht x hx ((mem_fromTo _ _ _).mpr ?_)⟩)
  rcases said_mem hx with ⟨j, hj, rfl⟩ | ⟨j, hj, rfl⟩
  ·show ((0 : Nat) : Int) ≤ (j : Int) ∧ (j : Int) < _; omega
  ·show ((0 : Nat) : Int) ≤ (evs.length : Int) + j ∧ (evs.length : Int) + j < _; omega
 have key := reason_least h (evs.length + gaps.length) 0 (fun _ => none) [] (by omega) (fun v hv => by cases hv) (fun j j0 j1 => by
  unfold omF
  refine ⟨fun h => (by cases h), fun h => ?_⟩
  omega) (by rw [List.nil_append]; exact h0) (fun n hn => by cases hn)
 rw [List.drop_zero] at key
 obtain ⟨a, b, c⟩ := key
 have a : ∀ v ∈ reasonP (saidL evs gaps), 0 ≤ v ∧ v < (evs.length : Int) + gaps.length := a
 have b : possB evs gaps (reasonP (saidL evs gaps)) = false := b
 have c : ∀ n ∈ reasonP (saidL evs gaps), possB evs gaps ((reasonP (saidL evs gaps)).filter fun v => decide (v ≠ n)) = true := c
 refine ⟨a, b, c, fun e => ?_, ?_⟩
 ·rw [e] at b
  have : possB evs gaps [] = true := (poss_iff h [] (fun v hv => by cases hv)).mpr ⟨fun _ => 0, fun x hx hxs => by cases hxs⟩
  rw [this] at b
  cases b
 ·obtain ⟨fs, _, _, h3, h4⟩ := facts_ex' evs gaps h.ok
  have h5 := reasonS_len (saidL evs gaps) fs
  rw [h3] at h5
  omega
end
def wide27 : S27 := ⟨-1000000, 1000000⟩
def keepF (evs : List S27) (S : List Int) (j : Nat) : S27 := if (j : Int) ∈ S then rd_T27 evs (j : Int) else wide27
def keptE (evs : List S27) (S : List Int) : List S27 := mkE (keepF evs S) evs.length
def keptG (evs : List S27) (gaps : List S86) (S : List Int) : List S86 := ((List.range gaps.length).filter fun (i : Nat) => decide ((evs.length : Int) + (i : Int) ∈ S)).map fun (i : Nat) => rd_T86 gaps (i : Int)
def smallB (evs : List S27) (gaps : List S86) : Bool := evs.all (fun s => decide (-20000 ≤ s.f0 ∧ s.f1 ≤ 20000)) && gaps.all fun g => decide (-20000 ≤ g.f2 ∧ g.f2 ≤ 20000 ∧ -20000 ≤ g.f3 ∧ (g.f3 ≤ 20000 ∨ 2000000 ≤ g.f3))
theorem keptE_len (evs : List S27) (S : List Int) : (keptE evs S).length = evs.length := mkE_len _ _
theorem kept_is {evs : List S27} {gaps : List S86} (h : HistIs evs gaps) (S : List Int) : HistIs (keptE evs S) (keptG evs gaps S) := by
 refine ⟨by rw [keptE_len]; exact h.n, ?_, fun s hs => ?_, fun g hg => ?_⟩
 ·unfold keptG
  rw [List.length_map]
  have := List.length_filter_le (fun (i : Nat) => decide ((evs.length : Int) + (i : Int) ∈ S)) (List.range gaps.length)
  rw [List.length_range] at this
  have := h.w
  omega
 ·unfold keptE mkE at hs
  obtain ⟨j, hj, rfl⟩ := List.mem_map.mp hs
  unfold keepF
  split
  ·exact h.ev _ (mem27 evs j (List.mem_range.mp hj))
  ·exact ⟨by show (-1000000 : Int) ≤ 1000000; omega, by show (-1000000 : Int) ≤ -1000000; omega, by show (1000000 : Int) ≤ 1000000; omega⟩
 ·rw [keptE_len]
  unfold keptG at hg
  obtain ⟨j, hj, rfl⟩ := List.mem_map.mp hg
  exact h.gap _ (mem86 gaps j (List.mem_range.mp (List.mem_filter.mp hj).1))
theorem kept_no {evs : List S27} {gaps : List S86} (h : HistIs evs gaps) (S : List Int) (hin : ∀ v ∈ S, 0 ≤ v ∧ v < (evs.length : Int) + gaps.length) (hp : possB evs gaps S = false) : tightA (keptE evs S) (keptG evs gaps S) = ([], 5) := by
 have hk := kept_is h S
 have hn := h.n
 unfold tightA
 rw [if_pos ((histIs _ _).mpr hk), if_neg]
 intro hs
 obtain ⟨t, h1, h2⟩ := (solve_spec _ _ hk.gap).1.mp hs
 rw [keptE_len] at h2
 have : possB evs gaps S = true := (poss_iff h S hin).mpr ⟨fun j => if j = 10 then 0 else t j, fun x hx hxS => by
  rcases said_mem hx with ⟨i, hi, rfl⟩ | ⟨i, hi, rfl⟩
  ·have := h2 (i : Int) (by omega) (by omega)
   unfold keptE at this
   rw [rd_mkE _ _ i hi] at this
   unfold keepF at this
   rw [if_pos hxS] at this
   show (rd_T27 evs i).f0 ≤ (if (i : Int) = 10 then 0 else t i) - (if (10 : Int) = 10 then 0 else t 10) ∧ (if (i : Int) = 10 then 0 else t i) - (if (10 : Int) = 10 then 0 else t 10) ≤ (rd_T27 evs i).f1
   rw [if_neg (by omega), if_pos rfl]
   omega
  ·have hgm : rd_T86 gaps (i : Int) ∈ keptG evs gaps S := by
    unfold keptG
    exact List.mem_map.mpr ⟨i, List.mem_filter.mpr ⟨List.mem_range.mpr hi, decide_eq_true hxS⟩, rfl⟩
   have hs := h1 _ hgm
   have hi' := h.gap _ (mem86 gaps i hi)
   have a1 := hi'.a1
   have b1 := hi'.b1
   show (rd_T86 gaps i).f2 ≤ (if (rd_T86 gaps i).f1 = 10 then 0 else t (rd_T86 gaps i).f1) - (if (rd_T86 gaps i).f0 = 10 then 0 else t (rd_T86 gaps i).f0) ∧ (if (rd_T86 gaps i).f1 = 10 then 0 else t (rd_T86 gaps i).f1) - (if (rd_T86 gaps i).f0 = 10 then 0 else t (rd_T86 gaps i).f0) ≤ (rd_T86 gaps i).f3
   rw [if_neg (by omega), if_neg (by omega)]
   exact hs⟩
 rw [this] at hp
 cases hp
theorem kept_yes {evs : List S27} {gaps : List S86} (h : HistIs evs gaps) (hsm : smallB evs gaps = true) (S : List Int) (hin : ∀ v ∈ S, 0 ≤ v ∧ v < (evs.length : Int) + gaps.length) (hp : possB evs gaps S = true) : ∃ m, tightA (keptE evs S) (keptG evs gaps S) = (m, 0) := by
 have hk := kept_is h S
 have hn := h.n
 obtain ⟨s1, s2⟩ := Bool.and_eq_true_iff.mp hsm
 rw [List.all_eq_true] at s1 s2
 obtain ⟨t, ht⟩ := (poss_iff h S hin).mp hp
 have hkp : ∀ x ∈ saidL evs gaps, x.1 ∈ S → Keeps x.2 (nearG 20000 t) := fun x hx hxS => by
  have hf := h.facts x hx
  refine nearG_keep (by omega) hf.i0 hf.i1 ?_ ?_ (ht x hx hxS)
  ·rcases said_mem hx with ⟨i, hi, rfl⟩ | ⟨i, hi, rfl⟩
   ·have a := of_decide_eq_true (s1 _ (mem27 evs i hi))
    have b := h.evAt (i : Int) (by omega) (by omega)
    exact ⟨by show -20000 ≤ (rd_T27 evs i).f0; omega, by show (rd_T27 evs i).f0 ≤ 20000; omega⟩
   ·have a := of_decide_eq_true (s2 _ (mem86 gaps i hi))
    exact ⟨a.1, a.2.1⟩
  ·rcases said_mem hx with ⟨i, hi, rfl⟩ | ⟨i, hi, rfl⟩
   ·have a := of_decide_eq_true (s1 _ (mem27 evs i hi))
    have b := h.evAt (i : Int) (by omega) (by omega)
    exact .inl ⟨by show -20000 ≤ (rd_T27 evs i).f1; omega, by show (rd_T27 evs i).f1 ≤ 20000; omega⟩
   ·have a := of_decide_eq_true (s2 _ (mem86 gaps i hi))
    rcases a.2.2.2 with c | c
    ·exact .inl ⟨a.2.2.1, c⟩
    ·exact .inr (by show (11 : Int) * 20000 ≤ (rd_T86 gaps i).f3; omega)
 have hfit : Fit (keptE evs S) (keptG evs gaps S) fun j => nearG 20000 t j - nearG 20000 t 10 := by
  refine ⟨fun g hg => ?_, fun j h0 h1 => ?_⟩
  ·unfold keptG at hg
   obtain ⟨i, hi, rfl⟩ := List.mem_map.mp hg
   obtain ⟨hi1, hi2⟩ := List.mem_filter.mp hi
   have := hkp _ (mem_said2 evs gaps i (List.mem_range.mp hi1)) (of_decide_eq_true hi2)
   obtain ⟨a, b⟩ := this
   have a : (rd_T86 gaps i).f2 ≤ nearG 20000 t (rd_T86 gaps i).f1 - nearG 20000 t (rd_T86 gaps i).f0 := a
   have b : nearG 20000 t (rd_T86 gaps i).f1 - nearG 20000 t (rd_T86 gaps i).f0 ≤ (rd_T86 gaps i).f3 := b
   exact ⟨by show _ ≤ (nearG 20000 t (rd_T86 gaps i).f1 - nearG 20000 t 10) - (nearG 20000 t (rd_T86 gaps i).f0 - nearG 20000 t 10); omega, by show (nearG 20000 t (rd_T86 gaps i).f1 - nearG 20000 t 10) - (nearG 20000 t (rd_T86 gaps i).f0 - nearG 20000 t 10) ≤ _; omega⟩
  ·rw [keptE_len] at h1
   have e := rd_mkE (keepF evs S) evs.length j.toNat (by omega)
   rw [show ((j.toNat : Nat) : Int) = j by omega] at e
   unfold keptE
   rw [e]
   unfold keepF
   rw [show ((j.toNat : Nat) : Int) = j by omega]
   by_cases c : j ∈ S
   ·rw [if_pos c]
    have := hkp _ (mem_said1 evs gaps j.toNat (by omega)) (by show ((j.toNat : Nat) : Int) ∈ S; rw [show ((j.toNat : Nat) : Int) = j by omega]; exact c)
    rw [show ((j.toNat : Nat) : Int) = j by omega] at this
    exact this
   ·rw [if_neg c]
    have := nearG_bd 20000 (by omega) t j 10
    show (-1000000 : Int) ≤ nearG 20000 t j - nearG 20000 t 10 ∧ nearG 20000 t j - nearG 20000 t 10 ≤ 1000000
    omega
 refine ⟨(solveR (keptE evs S) (keptG evs gaps S)).1, ?_⟩
 unfold tightA
 rw [if_pos ((histIs _ _).mpr hk), if_pos ((solve_spec _ _ hk.gap).1.mpr ⟨_, hfit⟩)]
end Go.Proofs.Ytbffhblebigcfaa.Sk
