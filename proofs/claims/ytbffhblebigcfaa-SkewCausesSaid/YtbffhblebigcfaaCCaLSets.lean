/- The plain laws of runs: the sets of what is ahead, and of each machine's deeds, as numbers; the counts. -/
import Derived.Test.YtbffhblebigcfaaCCaLAhead
import Derived.Test.YtbffhblebigcfaaCCaS0
namespace Go.Proofs.Ytbffhblebigcfaa.Sk
open Go.RowKit Go.Proofs.YtbffhblebigcfaaW.PrintWords Go.Proofs.YtbffhblebigcfaaW.PrintLast Go.Proofs.YtbffhblebigcfaaW.PrintMore
set_option linter.unusedVariables false
set_option linter.unusedSimpArgs false
def SetIs (x : Int) (p : Nat → Prop) : Prop := ∃ s : Nat, x = (s : Int) ∧ s < 18446744073709551616 ∧ ∀ j, s.testBit j = true ↔ p j
theorem SetIs.congr {x : Int} {p q : Nat → Prop} (h : SetIs x p) (hq : ∀ j, p j ↔ q j) : SetIs x q := by
  obtain ⟨s, h1, h2, h3⟩ := h
  exact ⟨s, h1, h2, fun j => (h3 j).trans (hq j)⟩
theorem SetIs.zero : SetIs 0 (fun _ => False) := ⟨0, rfl, by decide, fun j => by rw [Nat.zero_testBit]; exact ⟨(fun h => by cases h), False.elim⟩⟩
theorem SetIs.one (k : Nat) (hk : k < 64) : SetIs (IntKind.u64.wrap (2 ^ k)) (fun j => j = k) := by
  have h : (2 : Nat) ^ k < 18446744073709551616 := by
    have := Nat.pow_lt_pow_right (a := 2) (by decide) hk
    exact Nat.lt_of_lt_of_eq this (by decide)
  refine ⟨2 ^ k, ?_, h, fun j => ?_⟩
  · rw [← uw _ h, Int.natCast_pow]; rfl
  · rw [Nat.testBit_two_pow, decide_eq_true_eq]; exact eq_comm
theorem SetIs.or {x y : Int} {p q : Nat → Prop} (h : SetIs x p) (k : SetIs y q) : SetIs (bits .or .u64 x y) (fun j => p j ∨ q j) := by
  obtain ⟨s, rfl, h2, h3⟩ := h
  obtain ⟨t, rfl, k2, k3⟩ := k
  refine ⟨s ||| t, u64_or_nat s t h2 k2, ?_, fun j => ?_⟩
  · exact Nat.or_lt_two_pow (n := 64) h2 k2
  · rw [Nat.testBit_or, Bool.or_eq_true, h3, k3]
theorem SetIs.and {x y : Int} {p q : Nat → Prop} (h : SetIs x p) (k : SetIs y q) : SetIs (bits .and .u64 x y) (fun j => p j ∧ q j) := by
  obtain ⟨s, rfl, h2, h3⟩ := h
  obtain ⟨t, rfl, k2, k3⟩ := k
  refine ⟨s &&& t, u64_and_nat s t h2 k2, ?_, fun j => ?_⟩
  · exact Nat.and_lt_two_pow (n := 64) s k2
  · rw [Nat.testBit_and, Bool.and_eq_true, h3, k3]
theorem SetIs.andNot {x y : Int} {p q : Nat → Prop} (h : SetIs x p) (k : SetIs y q) : SetIs (bits .andNot .u64 x y) (fun j => p j ∧ ¬ q j) := by
  obtain ⟨s, rfl, h2, h3⟩ := h
  obtain ⟨t, rfl, k2, k3⟩ := k
  have e : 18446744073709551615 - t = 2 ^ 64 - (t + 1) := by
    rw [show (2 : Nat) ^ 64 = 18446744073709551616 by decide]; omega
  refine ⟨s &&& (18446744073709551615 - t), u64_andNot_nat s t h2 k2, ?_, fun j => ?_⟩
  · exact Nat.and_lt_two_pow (n := 64) s (Nat.lt_of_le_of_lt (Nat.sub_le _ _) (by decide))
  · rw [Nat.testBit_and, e, Nat.testBit_two_pow_sub_succ (by exact k2), Bool.and_eq_true, h3, Bool.and_eq_true, decide_eq_true_eq]
    constructor
    · rintro ⟨ha, _, hb⟩
      refine ⟨ha, fun hc => ?_⟩
      rw [(k3 j).mpr hc] at hb; cases hb
    · rintro ⟨ha, hb⟩
      refine ⟨ha, ?_, ?_⟩
      · apply Classical.byContradiction
        intro hj
        have : s.testBit j = false := Nat.testBit_lt_two_pow (Nat.lt_of_lt_of_le h2 (by
          have := Nat.pow_le_pow_right (n := 2) (by decide) (show 64 ≤ j by omega)
          exact Nat.le_trans (by decide) this))
        rw [(h3 j).mpr ha] at this; cases this
      · cases hc : t.testBit j with
        | false => rfl
        | true => exact absurd ((k3 j).mp hc) hb
def cb (q : Nat → Bool) : Nat → Nat
  | 0 => 0
  | n + 1 => cb q n + (if q n = true then 1 else 0)
theorem cb_le (q : Nat → Bool) : ∀ n, cb q n ≤ n
  | 0 => Nat.le_refl _
  | n + 1 => by have := cb_le q n; simp only [cb]; split <;> omega
theorem cb_congr {q r : Nat → Bool} : ∀ n, (∀ j, j < n → q j = r j) → cb q n = cb r n
  | 0, _ => rfl
  | n + 1, h => by simp only [cb]; rw [cb_congr n (fun j hj => h j (by omega)), h n (by omega)]
theorem cb_more {q : Nat → Bool} (m : Nat) : ∀ n, m ≤ n → (∀ j, m ≤ j → q j = false) → cb q n = cb q m
  | 0, h, _ => by obtain rfl : m = 0 := by omega
                  rfl
  | n + 1, h, hq => by
    by_cases hm : m = n + 1
    · subst hm; rfl
    · simp only [cb]; rw [hq n (by omega), cb_more m n (by omega) hq]; simp
theorem cb_mono {q r : Nat → Bool} : ∀ n, (∀ j, j < n → q j = true → r j = true) → cb q n ≤ cb r n
  | 0, _ => Nat.le_refl _
  | n + 1, h => by
    have ih := cb_mono (q := q) (r := r) n (fun j hj => h j (by omega))
    simp only [cb]
    by_cases c : q n = true
    · rw [if_pos c, if_pos (h n (by omega) c)]; omega
    · rw [if_neg c]; omega
theorem pc_cb (x : Nat) : ∀ n, pc n x = cb (fun j => x.testBit j) n
  | 0 => rfl
  | n + 1 => by
    rw [pc_add 1 n x, pc_cb x n]
    simp only [cb, pc, Nat.testBit_eq_decide_div_mod_eq, decide_eq_true_eq]
    have : x / 2 ^ n % 2 = 0 ∨ x / 2 ^ n % 2 = 1 := by omega
    rcases this with h | h <;> simp [h]
theorem SetIs.count {x : Int} {p : Nat → Prop} (h : SetIs x p) (q : Nat → Bool) (hq : ∀ j, q j = true ↔ p j) : ocF x = ((cb q 64 : Nat) : Int) := by
  obtain ⟨s, rfl, h2, h3⟩ := h
  rw [ocF_pc s h2, pc_cb]
  congr 1
  exact cb_congr 64 (fun j _ => by
    cases hs : s.testBit j with
    | true => exact ((hq j).mpr ((h3 j).mp hs)).symm
    | false =>
      cases hj : q j with
      | false => rfl
      | true => have := (h3 j).mpr ((hq j).mp hj); rw [hs] at this; cases this)
theorem SetIs.has {x : Int} {p : Nat → Prop} (h : SetIs x p) (j : Nat) (hj : j < 64) : ((bits .and .u64 (shr .u64 x (j : Int)) 1) == 1) = true ↔ p j := by
  obtain ⟨s, rfl, h2, h3⟩ := h
  have e1 : shr .u64 (s : Int) (j : Int) = ((s / 2 ^ j : Nat) : Int) := by
    unfold shr
    have : min (j : Int).toNat IntKind.u64.bits = j := by
      show min (j : Int).toNat 64 = j
      omega
    rw [this, Int.natCast_ediv, Int.natCast_pow]; rfl
  have h5 : s / 2 ^ j < 18446744073709551616 := Nat.lt_of_le_of_lt (Nat.div_le_self _ _) h2
  have e2 : bits .and .u64 ((s / 2 ^ j : Nat) : Int) 1 = (((s / 2 ^ j) &&& 1 : Nat) : Int) := u64_and_nat _ 1 h5 (by decide)
  rw [e1, e2, Nat.and_one_is_mod, ← h3, Nat.testBit_eq_decide_div_mod_eq]
  have : s / 2 ^ j % 2 = 0 ∨ s / 2 ^ j % 2 = 1 := by omega
  rcases this with h | h <;> simp [h]
theorem SetIs.ne {x : Int} {p : Nat → Prop} (h : SetIs x p) : (x != 0) = true ↔ ∃ j, p j := by
  obtain ⟨s, rfl, h2, h3⟩ := h
  constructor
  · intro hn
    have hs : s ≠ 0 := fun e => by subst e; simp at hn
    obtain ⟨j, hj⟩ := Nat.exists_testBit_of_ne_zero hs
    exact ⟨j, (h3 j).mp hj⟩
  · rintro ⟨j, hj⟩
    have := (h3 j).mpr hj
    have hs : s ≠ 0 := fun e => by rw [e, Nat.zero_testBit] at this; cases this
    simp only [bne_iff_ne, ne_eq]
    omega
theorem ahStep_set {f : Int → Option Int} {i : Nat} {k : Int} {p : Nat → Prop} {q : Nat → Prop} (hf : SetIs ((f (i : Int)).getD 0) p) (hk : 0 ≤ k → k < 40 ∧ SetIs ((f k).getD 0) q) :
    SetIs ((ahStep f (i : Int) k (i : Int)).getD 0) (fun j => p j ∨ (0 ≤ k ∧ (q j ∨ (j : Int) = k))) := by
  unfold ahStep
  by_cases c : 0 ≤ k
  · rw [if_pos c]
    obtain ⟨h40, hq⟩ := hk c
    have e : upd f (i : Int) (ahVal f (i : Int) k) (i : Int) = some (ahVal f (i : Int) k) := if_pos rfl
    rw [e]
    unfold ahVal
    refine ((hf.or (hq.or (SetIs.one k.toNat (by omega)))).congr fun j => ?_)
    constructor
    · rintro (h | h | h)
      · exact .inl h
      · exact .inr ⟨c, .inl h⟩
      · exact .inr ⟨c, .inr (by omega)⟩
    · rintro (h | ⟨_, h | h⟩)
      · exact .inl h
      · exact .inr (.inl h)
      · exact .inr (.inr (by omega))
  · rw [if_neg c]
    exact hf.congr fun j => ⟨.inl, fun h => h.elim id (fun h' => absurd h'.1 c)⟩
theorem ahStep_other {f : Int → Option Int} {i k j : Int} (h : j ≠ i) : ahStep f i k j = f j := by
  unfold ahStep
  split
  · exact if_neg h
  · rfl
theorem bsL_drop (l : List S71) (i : Nat) (hi : i < l.length) : (bsL l).drop i = bef l i :: (bsL l).drop (i + 1) := by
  have hlen : i < (bsL l).length := by simpa [bsL] using hi
  rw [List.drop_eq_getElem_cons hlen]
  have e : (bsL l)[i] = bef l i := by simp [bsL]
  rw [e]
theorem aheadsGo_set (l : List S71) (h : RunIs l) : ∀ (d i : Nat) (f : Int → Option Int), i + d = l.length → (∀ j : Nat, j < i → SetIs ((f (j : Int)).getD 0) (Pt l (-1) j)) → (∀ j : Nat, i ≤ j → f (j : Int) = none) →
    ∀ j : Nat, j < l.length → SetIs ((aheadsGo ((bsL l).drop i) (l.drop i) (i : Int) f (j : Int)).getD 0) (Pt l (-1) j)
  | 0, i, f, hd, hf, hn, j, hj => by
    rw [List.drop_of_length_le (by unfold bsL; simp; omega), aheadsGo]
    · exact hf j (by omega)
    · intros; simp_all
  | d + 1, i, f, hd, hf, hn, j, hj => by
    have hi : i < l.length := by omega
    have hll := h.len
    rw [drop71 l i hi, bsL_drop l i hi]
    simp only [aheadsGo]
    have hdi := h.deed i hi
    have hb := befS_lt l (rd_T71 l (i : Int)).f0 i
    have hbe : befS l (rd_T71 l (i : Int)).f0 i = bef l i := rfl
    rw [hbe] at hb
    have h0 : SetIs ((f (i : Int)).getD 0) (fun _ => False) := by rw [hn i (Nat.le_refl _)]; exact SetIs.zero
    have h1 := ahStep_set (i := i) (k := bef l i) (q := Pt l (-1) (bef l i).toNat) h0 (fun c => ⟨by omega, by
      have := hf (bef l i).toNat (by omega)
      rwa [Int.toNat_of_nonneg c] at this⟩)
    have h2 := ahStep_set (f := ahStep f (i : Int) (bef l i)) (i := i) (k := (rd_T71 l (i : Int)).f2) (q := Pt l (-1) ((rd_T71 l (i : Int)).f2).toNat) h1 (fun c => ⟨by omega, by
      have := hf ((rd_T71 l (i : Int)).f2).toNat (by omega)
      rw [Int.toNat_of_nonneg c] at this
      rw [ahStep_other (by omega)]
      exact this⟩)
    refine aheadsGo_set l h d (i + 1) (ahStep (ahStep f (i : Int) (bef l i)) (i : Int) (rd_T71 l (i : Int)).f2) (by omega) (fun j hj => ?_) (fun j hj => ?_) j hj
    · by_cases hji : j = i
      · subst hji
        refine h2.congr fun k => ?_
        rw [Pt.head j k]
        constructor
        · rintro ((h | ⟨c, h | h⟩) | ⟨c, h | h⟩)
          · exact h.elim
          · exact ⟨(bef l j).toNat, .inl (by omega), .inr (show Pt l (-1) _ k from h)⟩
          · exact ⟨(bef l j).toNat, .inl (by omega), .inl (by omega)⟩
          · exact ⟨((rd_T71 l (j : Int)).f2).toNat, .inr (by omega), .inr (show Pt l (-1) _ k from h)⟩
          · exact ⟨((rd_T71 l (j : Int)).f2).toNat, .inr (by omega), .inl (by omega)⟩
        · rintro ⟨m, hm, hp⟩
          rcases hm with hm | hm
          · refine .inl (.inr ⟨by omega, ?_⟩)
            rw [hm, Int.toNat_natCast]
            rcases hp with hp | hp
            · exact .inr (by omega)
            · exact .inl hp
          · refine .inr ⟨by omega, ?_⟩
            rw [hm, Int.toNat_natCast]
            rcases hp with hp | hp
            · exact .inr (by omega)
            · exact .inl hp
      · rw [ahStep_other (by omega), ahStep_other (by omega)]
        exact hf j (by omega)
    · rw [ahStep_other (by omega), ahStep_other (by omega)]
      exact hn j (by omega)
theorem aheads_set (l : List S71) (h : RunIs l) (j : Nat) (hj : j < l.length) : SetIs ((aheadsF (bsL l) l (j : Int)).getD 0) (Pt l (-1) j) := by
  have := aheadsGo_set l h l.length 0 (fun _ => none) (by omega) (fun j hj => by omega) (fun _ _ => rfl) j hj
  rw [List.drop_zero, List.drop_zero] at this
  exact this
theorem getD_set6 (ms : List Int) (k m : Nat) (v : Int) (hk : k < ms.length) : (ms.set k v).getD m 0 = if m = k then v else ms.getD m 0 := by
  simp only [List.getD_eq_getElem?_getD, List.getElem?_set]
  by_cases h : k = m
  · subst h; simp [hk]
  · rw [if_neg h, if_neg (fun e => h e.symm)]
theorem mineGo_set (l : List S71) (h : RunIs l) : ∀ (d i : Nat) (ms : List Int), i + d = l.length → ms.length = 6 → (∀ m : Nat, m < 6 → SetIs (ms.getD m 0) (fun j => j < i ∧ (rd_T71 l (j : Int)).f0 = (m : Int))) →
    (mineGo (l.drop i) (i : Int) ms).length = 6 ∧ ∀ m : Nat, m < 6 → SetIs ((mineGo (l.drop i) (i : Int) ms).getD m 0) (fun j => j < l.length ∧ (rd_T71 l (j : Int)).f0 = (m : Int))
  | 0, i, ms, hd, hl, hm => by
    rw [List.drop_of_length_le (by omega)]
    obtain rfl : i = l.length := by omega
    exact ⟨hl, hm⟩
  | d + 1, i, ms, hd, hl, hm => by
    have hi : i < l.length := by omega
    have hll := h.len
    rw [drop71 l i hi]
    simp only [mineGo]
    have hdi := h.deed i hi
    have := mineGo_set l h d (i + 1) (ms.set (rd_T71 l (i : Int)).f0.toNat (bits .or .u64 (ms.getD (rd_T71 l (i : Int)).f0.toNat 0) (IntKind.u64.wrap (2 ^ (i : Int).toNat)))) (by omega) (by rw [List.length_set]; exact hl) (fun m hm6 => by
      rw [getD_set6 _ _ _ _ (by omega)]
      by_cases c : m = (rd_T71 l (i : Int)).f0.toNat
      · rw [if_pos c, ← c]
        rw [Int.toNat_natCast]
        refine ((hm m hm6).or (SetIs.one i (by omega))).congr fun j => ?_
        constructor
        · rintro (⟨h1, h2⟩ | h1)
          · exact ⟨by omega, h2⟩
          · subst h1; exact ⟨by omega, by omega⟩
        · rintro ⟨h1, h2⟩
          by_cases hji : j = i
          · exact .inr hji
          · exact .inl ⟨by omega, h2⟩
      · rw [if_neg c]
        refine (hm m hm6).congr fun j => ?_
        constructor
        · rintro ⟨h1, h2⟩; exact ⟨by omega, h2⟩
        · rintro ⟨h1, h2⟩
          refine ⟨?_, h2⟩
          by_cases hji : j = i
          · subst hji; omega
          · omega)
    rw [show ((i + 1 : Nat) : Int) = (i : Int) + 1 by omega] at this
    exact this
theorem mine_set (l : List S71) (h : RunIs l) : (mineF l).length = 6 ∧ ∀ m : Nat, m < 6 → SetIs ((mineF l).getD m 0) (fun j => j < l.length ∧ (rd_T71 l (j : Int)).f0 = (m : Int)) := by
  have := mineGo_set l h l.length 0 [0, 0, 0, 0, 0, 0] (by omega) rfl (fun m hm => by
    have e : ([0, 0, 0, 0, 0, 0] : List Int).getD m 0 = 0 := by
      rcases m with _ | _ | _ | _ | _ | _ | m <;> first | rfl | omega
    rw [e]
    exact SetIs.zero.congr fun j => ⟨False.elim, fun h => by omega⟩)
  rw [List.drop_zero] at this
  exact this
def cntQ (l : List S71) (o : List Bool) (i m : Nat) (j : Nat) : Bool := (decide (j = i) || rdOf false o (j : Int)) && decide (j < l.length ∧ (rd_T71 l (j : Int)).f0 = (m : Int))
def cntL (l : List S71) (o : List Bool) (i n : Nat) : List Int := (List.range 6).map fun (m : Nat) => ((cb (cntQ l o i m) n : Nat) : Int)
theorem cnt_eq (l : List S71) (h : RunIs l) (i : Nat) (hi : i < l.length) (o : List Bool) (ho : Marks l (-1) i o) : cntRow (aheadsF (bsL l) l) (mineF l) (i : Int) = cntL l o i l.length := by
  unfold cntRow cntL
  obtain ⟨hl6, hm⟩ := mine_set l h
  have hll := h.len
  apply List.ext_getElem
  · simp [hl6]
  · intro m h1 h2
    have hm6 : m < 6 := by rw [List.length_map, hl6] at h1; exact h1
    rw [List.getElem_map, List.getElem_map, List.getElem_range]
    have e : (mineF l)[m]'(by omega) = (mineF l).getD m 0 := by simp [List.getD_eq_getElem?_getD, hl6, hm6]
    rw [e]
    unfold cntOne
    have hs := (hm m hm6).and ((aheads_set l h i hi).or (SetIs.one i (by omega)))
    rw [Int.toNat_natCast]
    rw [hs.count (cntQ l o i m) (fun j => by
      unfold cntQ
      rw [Bool.and_eq_true, Bool.or_eq_true, decide_eq_true_eq, decide_eq_true_eq, ho.2 j]
      constructor
      · rintro ⟨h1 | h1, h2⟩
        · exact ⟨h2, .inr h1⟩
        · exact ⟨h2, .inl h1⟩
      · rintro ⟨h2, h1 | h1⟩
        · exact ⟨.inr h1, h2⟩
        · exact ⟨.inl h1, h2⟩)]
    congr 1
    exact cb_more l.length 64 (by omega) (fun j hj => by
      unfold cntQ
      rw [decide_eq_false (p := j < l.length ∧ _) (by omega), Bool.and_false])
theorem rd_cntL (l : List S71) (o : List Bool) (i n m : Nat) (hm : m < 6) : rd (cntL l o i n) (m : Int) = ((cb (cntQ l o i m) n : Nat) : Int) := by
  unfold rd cntL
  simp [List.getD_eq_getElem?_getD, hm]
end Go.Proofs.Ytbffhblebigcfaa.Sk
