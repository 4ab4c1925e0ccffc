/- The plain laws of runs: the stamps of all deeds, computed two ways. -/
import Derived.Test.YtbffhblebigcfaaCCaLRun
import Derived.Test.YtbffhblebigcfaaCCaGStamps
import Derived.Test.YtbffhblebigcfaaCCaS1
namespace Go.Proofs.Ytbffhblebigcfaa.Sk
open Go.RowKit Go.Proofs.YtbffhblebigcfaaW.PrintWords Go.Proofs.YtbffhblebigcfaaW.PrintLast Go.Proofs.YtbffhblebigcfaaW.PrintMore
set_option linter.unusedVariables false
set_option linter.unusedSimpArgs false
def upS (p x : S47) : S47 := if x.f0 > p.f0 ∨ (x.f0 = p.f0 ∧ x.f1 + 1 > p.f1) then ⟨x.f0, x.f1 + 1⟩ else p
def upAt (s : List S47) (y : Int) (p : S47) : S47 := if y ≥ 0 then upS p (rd_T47 s y) else p
def stOf (l : List S71) (s : List S47) (n : Nat) : S47 := upAt s (rd_T71 l (n : Int)).f2 (upAt s (bef l n) ⟨(rd_T71 l (n : Int)).f1, 0⟩)
def stL (l : List S71) : Nat → List S47
  | 0 => []
  | n + 1 => stL l n ++ [stOf l (stL l n) n]
theorem stL_length (l : List S71) : ∀ n, (stL l n).length = n
  | 0 => rfl
  | n + 1 => by simp only [stL, List.length_append, List.length_cons, List.length_nil]; rw [stL_length l n]
theorem upAt_bd {s : List S47} {n : Int} (hs : ∀ x ∈ s, 0 ≤ x.f1 ∧ x.f1 < n) (y : Int) (hy : y < s.length) (p : S47) (hp : 0 ≤ p.f1 ∧ p.f1 ≤ n) : 0 ≤ (upAt s y p).f1 ∧ (upAt s y p).f1 ≤ n := by
  unfold upAt
  split
  · rename_i h0
    have hm : rd_T47 s y ∈ s := by
      have hl : y.toNat < s.length := by omega
      have : rd_T47 s y = s[y.toNat] := by simp [rd_T47, List.getD_eq_getElem?_getD, hl]
      rw [this]; exact List.getElem_mem hl
    have := hs _ hm
    unfold upS
    split
    · simp only; omega
    · exact hp
  · exact hp
theorem stL_bd (l : List S71) (h : RunIs l) : ∀ n, n ≤ l.length → ∀ x ∈ stL l n, 0 ≤ x.f1 ∧ x.f1 < (n : Int)
  | 0, _, x, hx => by cases hx
  | n + 1, hn, x, hx => by
    have ih := stL_bd l h n (by omega)
    simp only [stL, List.mem_append, List.mem_cons, List.not_mem_nil, or_false] at hx
    rcases hx with hx | rfl
    · have := ih x hx; omega
    · have hb := befS_lt l (rd_T71 l (n : Int)).f0 n
      have hbe : befS l (rd_T71 l (n : Int)).f0 n = bef l n := rfl
      rw [hbe] at hb
      have hd := h.deed n (by omega)
      have hl := stL_length l n
      have := upAt_bd ih (rd_T71 l (n : Int)).f2 (by omega) _ (upAt_bd ih (bef l n) (by omega) ⟨(rd_T71 l (n : Int)).f1, 0⟩ ⟨Int.le_refl _, by simp only; omega⟩)
      unfold stOf
      omega
theorem rd47_mem (s : List S47) (y : Int) (h0 : 0 ≤ y) (h1 : y < s.length) : rd_T47 s y ∈ s := by
  have hl : y.toNat < s.length := by omega
  have : rd_T47 s y = s[y.toNat] := by simp [rd_T47, List.getD_eq_getElem?_getD, hl]
  rw [this]; exact List.getElem_mem hl
theorem rd_toS47 (t : List S126) (y : Int) : rd_T47 (t.map toS47) y = toS47 (rd_T126 t y) := by
  unfold rd_T47 rd_T126
  simp only [List.getD_eq_getElem?_getD, List.getElem?_map]
  cases t[y.toNat]? <;> rfl
theorem cmp_pos (a b c d : Int) : ∃ v, skew_stamp_compare.f a b c d = some v ∧ (v > 0 ↔ (a > c ∨ (a = c ∧ b > d))) := by
  unfold skew_stamp_compare.f
  by_cases h1 : (a == c && (b == d)) = true
  · rw [if_pos h1]
    simp only [Bool.and_eq_true, beq_iff_eq] at h1
    exact ⟨0, rfl, by omega⟩
  · rw [if_neg h1]
    simp only [Bool.and_eq_true, beq_iff_eq] at h1
    by_cases h2 : a < c
    · rw [if_pos h2]; exact ⟨-1, rfl, by omega⟩
    · rw [if_neg h2]
      by_cases h3 : a = c
      · rw [if_pos h3]
        by_cases h4 : b < d
        · rw [if_pos h4]; exact ⟨-1, rfl, by omega⟩
        · rw [if_neg h4]; exact ⟨1, rfl, by omega⟩
      · rw [if_neg h3]; exact ⟨1, rfl, by omega⟩
theorem sk_step (k : Nat) (l : List S71) (t : List S126) (bs : List Int) (m n : Int) (ys : List Int) (j y W C : Int) (hj : 0 ≤ j) (hj2 : j < ys.length) (hy : rd ys j = y) (hyl : y < t.length) (hb : ∀ x ∈ t.map toS47, 0 ≤ x.f1 ∧ x.f1 < 100) :
    skew_stamps.l1 (k + 2) l t bs m n ys (ys.length : Int) j W C = skew_stamps.l1 k l t bs m n ys (ys.length : Int) (wrap64 (j + 1)) (upAt (t.map toS47) y ⟨W, C⟩).f0 (upAt (t.map toS47) y ⟨W, C⟩).f1 := by
  simp only [skew_stamps.l1]
  rw [if_pos hj2, if_pos hj, if_pos hj2, hy]
  unfold upAt
  by_cases c : y ≥ 0
  · rw [if_pos c, if_pos c, if_pos hyl, if_pos c]
    have hm := hb _ (rd47_mem (t.map toS47) y c (by rw [List.length_map]; exact hyl))
    rw [rd_toS47] at hm ⊢
    have e0 : (toS47 (rd_T126 t y)).f0 = (rd_T126 t y).f0 := rfl
    have e1 : (toS47 (rd_T126 t y)).f1 = (rd_T126 t y).f1 := rfl
    rw [e1] at hm
    have hw : wrap64 ((rd_T126 t y).f1 + 1) = (rd_T126 t y).f1 + 1 := by unfold wrap64; omega
    simp only [skew_stamps.j2]
    unfold upS
    rw [e0, e1]
    simp only
    by_cases c2 : (rd_T126 t y).f0 ≥ W
    · rw [if_pos (decide_eq_true c2), if_pos c, if_pos hyl, hw]
      obtain ⟨v, hv, hp⟩ := cmp_pos (rd_T126 t y).f0 ((rd_T126 t y).f1 + 1) W C
      rw [hv]
      simp only [Option.bind_some]
      by_cases c3 : v > 0
      · rw [if_pos c3, if_pos (hp.mp c3)]
      · rw [if_neg c3, if_neg (fun h => c3 (hp.mpr h))]
    · rw [if_neg (by simp only [decide_eq_true_eq]; exact c2), if_neg (by omega)]
  · rw [if_neg c, if_neg c]
    simp only [skew_stamps.j2, Bool.false_eq_true, if_false]
theorem sk_row (k : Nat) (l : List S71) (h : RunIs l) (t : List S126) (n : Nat) (hn : n < l.length) (ht : t.map toS47 = stL l n) :
    ∃ t', t'.map toS47 = stL l (n + 1) ∧ skew_stamps.l0 (k + 6) l t (bsL l) ((bsL l).length : Int) (n : Int) = skew_stamps.l0 k l t' (bsL l) ((bsL l).length : Int) ((n + 1 : Nat) : Int) := by
  have hbl : (bsL l).length = l.length := by simp [bsL]
  have hll := h.len
  have htl : t.length = n := by rw [← stL_length l n, ← ht, List.length_map]
  have hb := befS_lt l (rd_T71 l (n : Int)).f0 n
  have hbe : befS l (rd_T71 l (n : Int)).f0 n = bef l n := rfl
  rw [hbe] at hb
  have hd := h.deed n hn
  have hbd : ∀ x ∈ t.map toS47, 0 ≤ x.f1 ∧ x.f1 < 100 := fun x hx => by
    rw [ht] at hx
    have := stL_bd l h n (by omega) x hx
    omega
  have hrb : rd (bsL l) (n : Int) = bef l n := by simp [rd, bsL, List.getD_eq_getElem?_getD, hn]
  obtain ⟨p, hp⟩ : ∃ p, stOf l (stL l n) n = p := ⟨_, rfl⟩
  refine ⟨t ++ [⟨p.f0, p.f1⟩], ?_, ?_⟩
  · rw [List.map_append, ht]; simp only [stL, hp]; rfl
  · show skew_stamps.l0 ((k + 5) + 1) _ _ _ _ _ = _
    rw [skew_stamps.l0]
    rw [if_pos (by omega), if_pos (by omega), if_pos (by omega), if_pos (by omega)]
    simp only [Option.bind_some]
    rw [show k + 5 = ((k + 1) + 2) + 2 by omega, sk_step ((k + 1) + 2) l t (bsL l) _ _ _ 0 (bef l n) _ _ (by omega) (by simp) (by rw [hrb]; rfl) (by omega) hbd]
    rw [show wrap64 ((0 : Int) + 1) = 1 by (unfold wrap64; omega), sk_step (k + 1) l t (bsL l) _ _ _ 1 (rd_T71 l (n : Int)).f2 _ _ (by omega) (by simp) rfl (by omega) hbd]
    rw [show wrap64 ((1 : Int) + 1) = 2 by (unfold wrap64; omega), skew_stamps.l1, if_neg (by simp), if_pos (by omega)]
    have e : upAt (t.map toS47) (rd_T71 l (n : Int)).f2 (upAt (t.map toS47) (bef l n) ⟨(rd_T71 l (n : Int)).f1, 0⟩) = p := by rw [ht]; exact hp
    have e' : ∀ q : S47, (⟨q.f0, q.f1⟩ : S47) = q := fun _ => rfl
    rw [e', e, show wrap64 ((n : Int) + 1) = ((n + 1 : Nat) : Int) by unfold wrap64; omega]
theorem sk_all (l : List S71) (h : RunIs l) : ∀ (d n k : Nat) (t : List S126), n + d = l.length → t.map toS47 = stL l n →
    ∃ t', t'.map toS47 = stL l l.length ∧ skew_stamps.l0 (k + 6 * d + 1) l t (bsL l) ((bsL l).length : Int) (n : Int) = some t'
  | 0, n, k, t, hd, ht => by
    have hbl : (bsL l).length = l.length := by simp [bsL]
    obtain rfl : n = l.length := by omega
    refine ⟨t, ht, ?_⟩
    rw [skew_stamps.l0, if_neg (by omega)]
  | d + 1, n, k, t, hd, ht => by
    obtain ⟨t1, h1, e1⟩ := sk_row (k + 6 * d + 1) l h t n (by omega) ht
    obtain ⟨t', h2, e2⟩ := sk_all l h d (n + 1) k t1 (by omega) h1
    refine ⟨t', h2, ?_⟩
    rw [show k + 6 * (d + 1) + 1 = (k + 6 * d + 1) + 6 by omega, e1, e2]
theorem stamps_list (l : List S71) (h : RunIs l) : ∃ t, skew_stamps.f 1000 l = some t ∧ t.map toS47 = stL l l.length ∧ t.length < 1000 := by
  obtain ⟨t, h1, h2⟩ := sk_all l h l.length 0 (999 - 6 * l.length) [] (by omega) rfl
  have hll := h.len
  refine ⟨t, ?_, h1, ?_⟩
  · unfold skew_stamps.f
    rw [bef_list l h]
    simp only [Option.bind_some]
    rw [show 999 - 6 * l.length + 6 * l.length + 1 = 1000 by omega, show ((0 : Nat) : Int) = 0 from rfl] at h2
    exact h2
  · rw [← List.length_map (f := toS47), h1, stL_length]; omega
def stR (l : List S71) : List S47 × Int := if runB l = true then (stL l l.length, 0) else ([], 2)
theorem stamps_skew (l : List S71) (hl : l.length ≤ 9223372036854775807) : skew_Stamps.f l = some (stR l) := by
  unfold skew_Stamps.f stR
  rw [isRun_b l hl]
  simp only [Option.bind_some]
  by_cases c : runB l = true
  · rw [if_pos c, if_pos c]
    obtain ⟨t, h1, h2, h3⟩ := stamps_list l (runIs l c)
    rw [h1]
    simp only [Option.bind_some]
    rw [if_pos h3, h2]
  · rw [if_neg c, if_neg c]
theorem mx_le {a b : Int} (h : a ≥ b) : mx a b = a := by unfold mx; rw [if_neg (by omega)]
theorem mx_gt {a b : Int} (h : a < b) : mx a b = b := by unfold mx; rw [if_pos h]
theorem mx_cases (a b : Int) : ∃ m, mx a b = m ∧ (a < b ∧ m = b ∨ b ≤ a ∧ m = a) := by
  by_cases c : a < b
  · exact ⟨_, mx_gt c, .inl ⟨c, rfl⟩⟩
  · exact ⟨_, mx_le (by omega), .inr ⟨by omega, rfl⟩⟩
end Go.Proofs.Ytbffhblebigcfaa.Sk
