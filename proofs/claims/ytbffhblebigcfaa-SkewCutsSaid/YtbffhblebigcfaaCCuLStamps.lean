/- The plain laws of runs: the stamps of all deeds, computed two ways. -/
import Derived.Test.YtbffhblebigcfaaCCuLRun
import Derived.Test.YtbffhblebigcfaaCCuGStamps
import Derived.Test.YtbffhblebigcfaaCCuS1
namespace Go.Proofs.Ytbffhblebigcfaa.Sk
open Go.RowKit Go.Proofs.YtbffhblebigcfaaW.PrintWords Go.Proofs.YtbffhblebigcfaaW.PrintLast Go.Proofs.YtbffhblebigcfaaW.PrintMore
set_option linter.unusedVariables false
set_option linter.unusedSimpArgs false
def upS (p x : S47) : S47 := if x.f0 > p.f0 ∨ (x.f0 = p.f0 ∧ x.f1 + 1 > p.f1) then ⟨x.f0, x.f1 + 1⟩ else p
def upAt (s : List S47) (y : Int) (p : S47) : S47 := if y ≥ 0 then upS p (rd_T47 s y) else p
def stOf (l : List S71) (s : List S47) (n : Nat) : S47 := upAt s (rd_T71 l (n : Int)).f2 (upAt s (bef l n) ⟨(rd_T71 l (n : Int)).f1, 0⟩)
def stL (l : List S71) : Nat → List S47
  | 0 => []
  | n + 1 => stL l n ++ [stOf l (stL l n) n]
theorem stL_length (l : List S71) : ∀ n, (stL l n).length = n
  | 0 => rfl
  | n + 1 => by simp only [stL, List.length_append, List.length_cons, List.length_nil]; rw [stL_length l n]
theorem upAt_bd {s : List S47} {n : Int} (hs : ∀ x ∈ s, 0 ≤ x.f1 ∧ x.f1 < n) (y : Int) (hy : y < s.length) (p : S47) (hp : 0 ≤ p.f1 ∧ p.f1 ≤ n) : 0 ≤ (upAt s y p).f1 ∧ (upAt s y p).f1 ≤ n := by
  unfold upAt
  split
  · rename_i h0
    have hm : rd_T47 s y ∈ s := by
      have hl : y.toNat < s.length := by omega
      have : rd_T47 s y = s[y.toNat] := by simp [rd_T47, List.getD_eq_getElem?_getD, hl]
      rw [this]; exact List.getElem_mem hl
    have := hs _ hm
    unfold upS
    split
    · simp only; omega
    · exact hp
  · exact hp
theorem stL_bd (l : List S71) (h : RunIs l) : ∀ n, n ≤ l.length → ∀ x ∈ stL l n, 0 ≤ x.f1 ∧ x.f1 < (n : Int)
  | 0, _, x, hx => by cases hx
  | n + 1, hn, x, hx => by
    have ih := stL_bd l h n (by omega)
    simp only [stL, List.mem_append, List.mem_cons, List.not_mem_nil, or_false] at hx
    rcases hx with hx | rfl
    · have := ih x hx; omega
    · have hb := befS_lt l (rd_T71 l (n : Int)).f0 n
      have hbe : befS l (rd_T71 l (n : Int)).f0 n = bef l n := rfl
      rw [hbe] at hb
      have hd := h.deed n (by omega)
      have hl := stL_length l n
      have := upAt_bd ih (rd_T71 l (n : Int)).f2 (by omega) _ (upAt_bd ih (bef l n) (by omega) ⟨(rd_T71 l (n : Int)).f1, 0⟩ ⟨Int.le_refl _, by simp only; omega⟩)
      unfold stOf
      omega
theorem rd47_mem (s : List S47) (y : Int) (h0 : 0 ≤ y) (h1 : y < s.length) : rd_T47 s y ∈ s := by
  have hl : y.toNat < s.length := by omega
  have : rd_T47 s y = s[y.toNat] := by simp [rd_T47, List.getD_eq_getElem?_getD, hl]
  rw [this]; exact List.getElem_mem hl
theorem rd_toS47 (t : List S126) (y : Int) : rd_T47 (t.map toS47) y = toS47 (rd_T126 t y) := by
  unfold rd_T47 rd_T126
  simp only [List.getD_eq_getElem?_getD, List.getElem?_map]
  cases t[y.toNat]? <;> rfl
theorem cmp_pos (a b c d : Int) : ∃ v, skew_stamp_compare.f a b c d = some v ∧ (v > 0 ↔ (a > c ∨ (a = c ∧ b > d))) := by
  unfold skew_stamp_compare.f
  by_cases h1 : (a == c && (b == d)) = true
  · rw [if_pos h1]
    simp only [Bool.and_eq_true, beq_iff_eq] at h1
    exact ⟨0, rfl, by omega⟩
  · rw [if_neg h1]
    simp only [Bool.and_eq_true, beq_iff_eq] at h1
    by_cases h2 : a < c
    · rw [if_pos h2]; exact ⟨-1, rfl, by omega⟩
    · rw [if_neg h2]
      by_cases h3 : a = c
      · rw [if_pos h3]
        by_cases h4 : b < d
        · rw [if_pos h4]; exact ⟨-1, rfl, by omega⟩
        · rw [if_neg h4]; exact ⟨1, rfl, by omega⟩
      · rw [if_neg h3]; exact ⟨1, rfl, by omega⟩
theorem sk_step (k : Nat) (l : List S71) (t : List S126) (bs : List Int) (m n : Int) (ys : List Int) (j y W C : Int) (hj : 0 ≤ j) (hj2 : j < ys.length) (hy : rd ys j = y) (hyl : y < t.length) (hb : ∀ x ∈ t.map toS47, 0 ≤ x.f1 ∧ x.f1 < 100) :
    skew_stamps.l1 (k + 2) l t bs m n ys (ys.length : Int) j W C = skew_stamps.l1 k l t bs m n ys (ys.length : Int) (wrap64 (j + 1)) (upAt (t.map toS47) y ⟨W, C⟩).f0 (upAt (t.map toS47) y ⟨W, C⟩).f1 := by
  simp only [skew_stamps.l1]
  rw [if_pos hj2, if_pos hj, if_pos hj2, hy]
  unfold upAt
  by_cases c : y ≥ 0
  · rw [if_pos c, if_pos c, if_pos hyl, if_pos c]
    have hm := hb _ (rd47_mem (t.map toS47) y c (by rw [List.length_map]; exact hyl))
    rw [rd_toS47] at hm ⊢
    have e0 : (toS47 (rd_T126 t y)).f0 = (rd_T126 t y).f0 := rfl
    have e1 : (toS47 (rd_T126 t y)).f1 = (rd_T126 t y).f1 := rfl
    rw [e1] at hm
    have hw : wrap64 ((rd_T126 t y).f1 + 1) = (rd_T126 t y).f1 + 1 := by unfold wrap64; omega
    simp only [skew_stamps.j2]
    unfold upS
    rw [e0, e1]
    simp only
    by_cases c2 : (rd_T126 t y).f0 ≥ W
    · rw [if_pos (decide_eq_true c2), if_pos c, if_pos hyl, hw]
      obtain ⟨v, hv, hp⟩ := cmp_pos (rd_T126 t y).f0 ((rd_T126 t y).f1 + 1) W C
      rw [hv]
      simp only [Option.bind_some]
      by_cases c3 : v > 0
      · rw [if_pos c3, if_pos (hp.mp c3)]
      · rw [if_neg c3, if_neg (fun h => c3 (hp.mpr h))]
    · rw [if_neg (by simp only [decide_eq_true_eq]; exact c2), if_neg (by omega)]
  · rw [if_neg c, if_neg c]
    simp only [skew_stamps.j2, Bool.false_eq_true, if_false]
theorem sk_row (k : Nat) (l : List S71) (h : RunIs l) (t : List S126) (n : Nat) (hn : n < l.length) (ht : t.map toS47 = stL l n) :
    ∃ t', t'.map toS47 = stL l (n + 1) ∧ skew_stamps.l0 (k + 6) l t (bsL l) ((bsL l).length : Int) (n : Int) = skew_stamps.l0 k l t' (bsL l) ((bsL l).length : Int) ((n + 1 : Nat) : Int) := by
  have hbl : (bsL l).length = l.length := by simp [bsL]
  have hll := h.len
  have htl : t.length = n := by rw [← stL_length l n, ← ht, List.length_map]
  have hb := befS_lt l (rd_T71 l (n : Int)).f0 n
  have hbe : befS l (rd_T71 l (n : Int)).f0 n = bef l n := rfl
  rw [hbe] at hb
  have hd := h.deed n hn
  have hbd : ∀ x ∈ t.map toS47, 0 ≤ x.f1 ∧ x.f1 < 100 := fun x hx => by
    rw [ht] at hx
    have := stL_bd l h n (by omega) x hx
    omega
  have hrb : rd (bsL l) (n : Int) = bef l n := by simp [rd, bsL, List.getD_eq_getElem?_getD, hn]
  obtain ⟨p, hp⟩ : ∃ p, stOf l (stL l n) n = p := ⟨_, rfl⟩
  refine ⟨t ++ [⟨p.f0, p.f1⟩], ?_, ?_⟩
  · rw [List.map_append, ht]; simp only [stL, hp]; rfl
  · show skew_stamps.l0 ((k + 5) + 1) _ _ _ _ _ = _
    rw [skew_stamps.l0]
    rw [if_pos (by omega), if_pos (by omega), if_pos (by omega), if_pos (by omega)]
    simp only [Option.bind_some]
    rw [show k + 5 = ((k + 1) + 2) + 2 by omega, sk_step ((k + 1) + 2) l t (bsL l) _ _ _ 0 (bef l n) _ _ (by omega) (by simp) (by rw [hrb]; rfl) (by omega) hbd]
    rw [show wrap64 ((0 : Int) + 1) = 1 by (unfold wrap64; omega), sk_step (k + 1) l t (bsL l) _ _ _ 1 (rd_T71 l (n : Int)).f2 _ _ (by omega) (by simp) rfl (by omega) hbd]
    rw [show wrap64 ((1 : Int) + 1) = 2 by (unfold wrap64; omega), skew_stamps.l1, if_neg (by simp), if_pos (by omega)]
    have e : upAt (t.map toS47) (rd_T71 l (n : Int)).f2 (upAt (t.map toS47) (bef l n) ⟨(rd_T71 l (n : Int)).f1, 0⟩) = p := by rw [ht]; exact hp
    have e' : ∀ q : S47, (⟨q.f0, q.f1⟩ : S47) = q := fun _ => rfl
    rw [e', e, show wrap64 ((n : Int) + 1) = ((n + 1 : Nat) : Int) by unfold wrap64; omega]
theorem sk_all (l : List S71) (h : RunIs l) : ∀ (d n k : Nat) (t : List S126), n + d = l.length → t.map toS47 = stL l n →
    ∃ t', t'.map toS47 = stL l l.length ∧ skew_stamps.l0 (k + 6 * d + 1) l t (bsL l) ((bsL l).length : Int) (n : Int) = some t'
  | 0, n, k, t, hd, ht => by
    have hbl : (bsL l).length = l.length := by simp [bsL]
    obtain rfl : n = l.length := by omega
    refine ⟨t, ht, ?_⟩
    rw [skew_stamps.l0, if_neg (by omega)]
  | d + 1, n, k, t, hd, ht => by
    obtain ⟨t1, h1, e1⟩ := sk_row (k + 6 * d + 1) l h t n (by omega) ht
    obtain ⟨t', h2, e2⟩ := sk_all l h d (n + 1) k t1 (by omega) h1
    refine ⟨t', h2, ?_⟩
    rw [show k + 6 * (d + 1) + 1 = (k + 6 * d + 1) + 6 by omega, e1, e2]
theorem stamps_list (l : List S71) (h : RunIs l) : ∃ t, skew_stamps.f 1000 l = some t ∧ t.map toS47 = stL l l.length ∧ t.length < 1000 := by
  obtain ⟨t, h1, h2⟩ := sk_all l h l.length 0 (999 - 6 * l.length) [] (by omega) rfl
  have hll := h.len
  refine ⟨t, ?_, h1, ?_⟩
  · unfold skew_stamps.f
    rw [bef_list l h]
    simp only [Option.bind_some]
    rw [show 999 - 6 * l.length + 6 * l.length + 1 = 1000 by omega, show ((0 : Nat) : Int) = 0 from rfl] at h2
    exact h2
  · rw [← List.length_map (f := toS47), h1, stL_length]; omega
theorem ev_st2 {R : List S47} (l : List S71) (s xs : List S47) (n W : Int) (hx : ∀ x ∈ xs, 0 ≤ x.f1 ∧ x.f1 < 100) (hxl : xs.length ≤ 2) : ∀ (d j : Nat) (C : Int), j + d = xs.length →
    Ev (fun k => afterwordref19_StampsOf.l2 k l s n xs (xs.length : Int) W ((xs.drop j).foldl (fun C x => if x.f0 = W then mx C (x.f1 + 1) else C) C)) R → Ev (fun k => afterwordref19_StampsOf.l2 k l s n xs (j : Int) W C) R
  | 0, j, C, hd, hR => by
    obtain rfl : j = xs.length := by omega
    rw [List.drop_length] at hR
    exact hR
  | d + 1, j, C, hd, hR => by
    have hj : j < xs.length := by omega
    have e : xs.drop j = rd_T47 xs (j : Int) :: xs.drop (j + 1) := by
      rw [List.drop_eq_getElem_cons hj]; congr 1; simp [rd_T47, List.getD_eq_getElem?_getD, hj]
    rw [e, List.foldl_cons] at hR
    have ih := ev_st2 l s xs n W hx hxl d (j + 1) _ (by omega) hR
    have hm := hx _ (rd47_mem xs (j : Int) (by omega) (by omega))
    have hw : wrap64 ((rd_T47 xs (j : Int)).f1 + 1) = (rd_T47 xs (j : Int)).f1 + 1 := by unfold wrap64; omega
    have hw2 : wrap64 ((j : Int) + 1) = ((j + 1 : Nat) : Int) := by unfold wrap64; omega
    refine Ev.step (fun k => ?_) ih
    simp only [afterwordref19_StampsOf.l2]
    rw [if_pos (by omega), if_pos (by omega), hw, hw2]
    by_cases c : (rd_T47 xs (j : Int)).f0 = W
    · rw [if_pos c, if_pos c]
    · rw [if_neg c, if_neg c]
theorem ev_st1 {R : List S47} (l : List S71) (s xs : List S47) (n C : Int) (hxl : xs.length ≤ 2) : ∀ (d j : Nat) (W : Int), j + d = xs.length →
    Ev (fun k => afterwordref19_StampsOf.l1 k l s n xs (xs.length : Int) ((xs.drop j).foldl (fun W x => mx W x.f0) W) C) R → Ev (fun k => afterwordref19_StampsOf.l1 k l s n xs (j : Int) W C) R
  | 0, j, W, hd, hR => by
    obtain rfl : j = xs.length := by omega
    rw [List.drop_length] at hR
    exact hR
  | d + 1, j, W, hd, hR => by
    have hj : j < xs.length := by omega
    have e : xs.drop j = rd_T47 xs (j : Int) :: xs.drop (j + 1) := by
      rw [List.drop_eq_getElem_cons hj]; congr 1; simp [rd_T47, List.getD_eq_getElem?_getD, hj]
    rw [e, List.foldl_cons] at hR
    have ih := ev_st1 l s xs n C hxl d (j + 1) _ (by omega) hR
    have hw2 : wrap64 ((j : Int) + 1) = ((j + 1 : Nat) : Int) := by unfold wrap64; omega
    refine Ev.step (fun k => ?_) ih
    simp only [afterwordref19_StampsOf.l1]
    rw [if_pos (by omega), if_pos (by omega), hw2]
def refW (w : Int) (xs : List S47) : Int := xs.foldl (fun W x => mx W x.f0) w
def refC (W : Int) (xs : List S47) : Int := xs.foldl (fun C x => if x.f0 = W then mx C (x.f1 + 1) else C) 0
def refSt (w : Int) (xs : List S47) : S47 := ⟨refW w xs, refC (refW w xs) xs⟩
theorem ev_stX {R : List S47} (l : List S71) (s xs : List S47) (n : Nat) (hn : n < l.length) (hl : l.length ≤ 40) (hs : s.length = n) (hx : ∀ x ∈ xs, 0 ≤ x.f1 ∧ x.f1 < 100) (hxl : xs.length ≤ 2)
    (hR : Ev (fun k => afterwordref19_StampsOf.l0 k l (s ++ [refSt (rd_T71 l (n : Int)).f1 xs]) ((n + 1 : Nat) : Int)) R) : Ev (fun k => afterwordref19_StampsOf.j2 k l s (n : Int) xs) R := by
  refine Ev.step (f := fun k => afterwordref19_StampsOf.l1 k l s (n : Int) xs 0 (rd_T71 l (n : Int)).f1 0) (fun k => ?_) ?_
  · simp only [afterwordref19_StampsOf.j2]
    rw [if_pos (by omega), if_pos (by omega)]
  refine ev_st1 l s xs n 0 hxl xs.length 0 _ (by omega) ?_
  refine Ev.step (f := fun k => afterwordref19_StampsOf.l2 k l s (n : Int) xs 0 ((xs.drop 0).foldl (fun W x => mx W x.f0) (rd_T71 l (n : Int)).f1) 0) (fun k => ?_) ?_
  · simp only [afterwordref19_StampsOf.l1]
    rw [if_neg (by omega)]
  refine ev_st2 l s xs n _ hx hxl xs.length 0 0 (by omega) ?_
  refine Ev.step (fun k => ?_) hR
  simp only [afterwordref19_StampsOf.l2]
  rw [if_neg (by omega), if_pos (by omega), show wrap64 ((n : Int) + 1) = ((n + 1 : Nat) : Int) by unfold wrap64; omega]
  rfl
theorem mx_le {a b : Int} (h : a ≥ b) : mx a b = a := by unfold mx; rw [if_neg (by omega)]
theorem mx_gt {a b : Int} (h : a < b) : mx a b = b := by unfold mx; rw [if_pos h]
theorem mx_cases (a b : Int) : ∃ m, mx a b = m ∧ (a < b ∧ m = b ∨ b ≤ a ∧ m = a) := by
  by_cases c : a < b
  · exact ⟨_, mx_gt c, .inl ⟨c, rfl⟩⟩
  · exact ⟨_, mx_le (by omega), .inr ⟨by omega, rfl⟩⟩
theorem upS_cases (p0 p1 x0 x1 : Int) : ∃ q0 q1, upS ⟨p0, p1⟩ ⟨x0, x1⟩ = ⟨q0, q1⟩ ∧ ((x0 > p0 ∨ (x0 = p0 ∧ x1 + 1 > p1)) ∧ q0 = x0 ∧ q1 = x1 + 1 ∨ ¬ (x0 > p0 ∨ (x0 = p0 ∧ x1 + 1 > p1)) ∧ q0 = p0 ∧ q1 = p1) := by
  by_cases c : x0 > p0 ∨ (x0 = p0 ∧ x1 + 1 > p1)
  · exact ⟨x0, x1 + 1, if_pos c, .inl ⟨c, rfl, rfl⟩⟩
  · exact ⟨p0, p1, if_neg c, .inr ⟨c, rfl, rfl⟩⟩
theorem ref_one (w : Int) (x : S47) (hx : 0 ≤ x.f1) : refSt w [x] = upS ⟨w, 0⟩ x := by
  obtain ⟨x0, x1⟩ := x
  simp only at hx
  obtain ⟨W1, hW1, c1⟩ := mx_cases w x0
  obtain ⟨q0, q1, hq, cq⟩ := upS_cases w 0 x0 x1
  have e : refW w [⟨x0, x1⟩] = W1 := hW1
  have ec : refC W1 [⟨x0, x1⟩] = q1 := by
    show (if x0 = W1 then mx 0 (x1 + 1) else 0) = q1
    by_cases a : x0 = W1
    · rw [if_pos a, mx_gt (by omega)]; omega
    · rw [if_neg a]; omega
  unfold refSt
  rw [hq, e, ec, show W1 = q0 by omega]
theorem ref_two (w : Int) (x y : S47) (hx : 0 ≤ x.f1) (hy : 0 ≤ y.f1) : refSt w [x, y] = upS (upS ⟨w, 0⟩ x) y := by
  obtain ⟨x0, x1⟩ := x
  obtain ⟨y0, y1⟩ := y
  simp only at hx hy
  obtain ⟨W1, hW1, c1⟩ := mx_cases w x0
  obtain ⟨W2, hW2, c2⟩ := mx_cases W1 y0
  obtain ⟨q0, q1, hq, cq⟩ := upS_cases w 0 x0 x1
  obtain ⟨r0, r1, hr, cr⟩ := upS_cases q0 q1 y0 y1
  have e : refW w [⟨x0, x1⟩, ⟨y0, y1⟩] = W2 := by
    show mx (mx w x0) y0 = W2
    rw [hW1, hW2]
  have ec : refC W2 [⟨x0, x1⟩, ⟨y0, y1⟩] = r1 := by
    show (if y0 = W2 then mx (if x0 = W2 then mx 0 (x1 + 1) else 0) (y1 + 1) else (if x0 = W2 then mx 0 (x1 + 1) else 0)) = r1
    by_cases a : x0 = W2
    · rw [if_pos a, mx_gt (show (0 : Int) < x1 + 1 by omega)]
      by_cases b : y0 = W2
      · rw [if_pos b]
        obtain ⟨m, hm, cm⟩ := mx_cases (x1 + 1) (y1 + 1)
        rw [hm]; omega
      · rw [if_neg b]; omega
    · rw [if_neg a]
      by_cases b : y0 = W2
      · rw [if_pos b, mx_gt (by omega)]; omega
      · rw [if_neg b]; omega
  unfold refSt
  rw [hq, hr, e, ec, show W2 = r0 by omega]
theorem ev_stAll (l : List S71) (h : RunIs l) : ∀ (d n : Nat), n + d = l.length → Ev (fun k => afterwordref19_StampsOf.l0 k l (stL l n) (n : Int)) (stL l l.length)
  | 0, n, hd => by
    obtain rfl : n = l.length := by omega
    exact Ev.step (f := fun _ => some _) (fun k => by simp only [afterwordref19_StampsOf.l0]; rw [if_neg (by omega)]) (Ev.now _)
  | d + 1, n, hd => by
    have hn : n < l.length := by omega
    have hll := h.len
    have ih := ev_stAll l h d (n + 1) (by omega)
    have hsl := stL_length l n
    have hb := befS_lt l (rd_T71 l (n : Int)).f0 n
    have hbe : befS l (rd_T71 l (n : Int)).f0 n = bef l n := rfl
    rw [hbe] at hb
    have hdn := h.deed n hn
    have hbd : ∀ x ∈ stL l n, 0 ≤ x.f1 ∧ x.f1 < 100 := fun x hx => by
      have := stL_bd l h n (by omega) x hx
      omega
    simp only [stL] at ih
    obtain ⟨xb, hxb⟩ : ∃ xb, xb = if bef l n ≥ 0 then [rd_T47 (stL l n) (bef l n)] else [] := ⟨_, rfl⟩
    obtain ⟨xk, hxk⟩ : ∃ xk, xk = if (rd_T71 l (n : Int)).f2 ≥ 0 then [rd_T47 (stL l n) (rd_T71 l (n : Int)).f2] else [] := ⟨_, rfl⟩
    have lb : xb.length ≤ 1 := by rw [hxb]; split <;> simp
    have lk : xk.length ≤ 1 := by rw [hxk]; split <;> simp
    have mb : ∀ x ∈ xb, 0 ≤ x.f1 ∧ x.f1 < 100 := fun x hx => by
      rw [hxb] at hx
      split at hx
      · simp only [List.mem_cons, List.not_mem_nil, or_false] at hx
        subst hx
        exact hbd _ (rd47_mem _ _ (by omega) (by omega))
      · cases hx
    have mk : ∀ x ∈ xk, 0 ≤ x.f1 ∧ x.f1 < 100 := fun x hx => by
      rw [hxk] at hx
      split at hx
      · simp only [List.mem_cons, List.not_mem_nil, or_false] at hx
        subst hx
        exact hbd _ (rd47_mem _ _ (by omega) (by omega))
      · cases hx
    have hst : stOf l (stL l n) n = refSt (rd_T71 l (n : Int)).f1 (xb ++ xk) := by
      unfold stOf upAt
      rw [hxb, hxk]
      rw [hxb] at mb
      rw [hxk] at mk
      by_cases c1 : bef l n ≥ 0
      · rw [if_pos c1] at mb ⊢
        rw [if_pos c1]
        by_cases c2 : (rd_T71 l (n : Int)).f2 ≥ 0
        · rw [if_pos c2] at mk ⊢
          rw [if_pos c2]
          exact (ref_two _ _ _ (mb _ (.head _)).1 (mk _ (.head _)).1).symm
        · rw [if_neg c2, if_neg c2, List.append_nil]
          exact (ref_one _ _ (mb _ (.head _)).1).symm
      · rw [if_neg c1, if_neg c1, List.nil_append]
        by_cases c2 : (rd_T71 l (n : Int)).f2 ≥ 0
        · rw [if_pos c2] at mk ⊢
          rw [if_pos c2]
          exact (ref_one _ _ (mk _ (.head _)).1).symm
        · rw [if_neg c2, if_neg c2]; rfl
    rw [hst] at ih
    have e2 := ev_stX l (stL l n) (xb ++ xk) n hn hll hsl (fun x hx => (List.mem_append.mp hx).elim (mb x) (mk x)) (by rw [List.length_append]; omega) ih
    have e1 : Ev (fun k => afterwordref19_StampsOf.j1 k l (stL l n) (n : Int) xb) (stL l l.length) := by
      refine Ev.step (fun k => ?_) e2
      simp only [afterwordref19_StampsOf.j1]
      rw [if_pos (by omega), if_pos (by omega), hxk]
      by_cases c2 : (rd_T71 l (n : Int)).f2 ≥ 0
      · rw [if_pos c2, if_pos c2, if_pos (by omega), if_pos c2, if_pos (by omega)]
      · rw [if_neg c2, if_neg c2, List.append_nil]
    refine Ev.step (f := fun k => (afterwordref19_before.f k l (n : Int)).bind fun t => (if t ≥ 0 then (if 0 ≤ t then (if t < ((stL l n).length : Int) then (if ([] : List (S47)).length < 8796093022208 then (afterwordref19_StampsOf.j1 k l (stL l n) (n : Int) (([] : List (S47)) ++ [(⟨(rd_T47 (stL l n) t).f0, (rd_T47 (stL l n) t).f1⟩ : S47)])) else (none)) else (none)) else (none)) else (afterwordref19_StampsOf.j1 k l (stL l n) (n : Int) ([] : List (S47))))) (fun k => ?_) (Ev.bind (ev_Before l n hn hll) (Ev.congr (fun k => ?_) e1))
    · simp only [afterwordref19_StampsOf.l0]
      rw [if_pos (by omega)]
    · rw [hxb]
      by_cases c1 : bef l n ≥ 0
      · rw [if_pos c1, if_pos c1, if_pos (by omega), if_pos (by simp), if_pos c1, List.nil_append]
      · rw [if_neg c1, if_neg c1]
end Go.Proofs.Ytbffhblebigcfaa.Sk
