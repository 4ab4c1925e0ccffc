/- The plain laws of votes: what spans have together, and their vote, computed two ways, is the same. -/
import Derived.Test.YtbffhblebigcfaaCVdGVote
import Derived.Test.YtbffhblebigcfaaCVdGMeet
import Derived.Test.YtbffhblebigcfaaCVdS0
namespace Go.Proofs.Ytbffhblebigcfaa.Sk
open Go.RowKit Go.Proofs.YtbffhblebigcfaaW.PrintWords Go.Proofs.YtbffhblebigcfaaW.PrintLast Go.Proofs.YtbffhblebigcfaaW.PrintMore
set_option linter.unusedVariables false
set_option linter.unusedSimpArgs false
theorem drop27 (l : List S27) (i : Nat) (h : i < l.length) : l.drop i = rd_T27 l (i : Int) :: l.drop (i + 1) := by
  have er : rd_T27 l (i : Int) = l[i] := by simp [rd_T27, rdOf, List.getD_eq_getElem?_getD, h]
  rw [List.drop_eq_getElem_cons h, er]
theorem wrapS {i : Nat} (h : i < 1000000) : wrap64 ((i : Int) + 1) = ((i + 1 : Nat) : Int) := by unfold wrap64; omega
theorem timeB (t : Int) : afterwordref19_Time.f t = some (decide (-1000000 ≤ t ∧ t ≤ 1000000)) := by
  unfold afterwordref19_Time.f
  by_cases h0 : t ≥ -1000000
  · rw [if_pos h0]; simp [show (-1000000 : Int) ≤ t from h0]
  · rw [if_neg h0]; simp [show ¬ (-1000000 : Int) ≤ t from h0]
theorem good_b (a b : Int) : afterwordref19_Good.f a b = some (good27 ⟨a, b⟩) := by
  unfold afterwordref19_Good.f good27
  by_cases h : a ≤ b
  · rw [if_pos h, timeB, timeB]
    simp only [Option.bind_some]
    by_cases h1 : -1000000 ≤ a ∧ a ≤ 1000000
    · rw [decide_eq_true h1, if_pos rfl]
      congr 1
      by_cases h2 : -1000000 ≤ b ∧ b ≤ 1000000
      · simp [h, h1.1, h2.1, h2.2]
      · have : ¬ b ≤ 1000000 := by omega
        simp [this]
    · rw [decide_eq_false h1, if_neg (by simp)]
      congr 1
      by_cases h2 : a ≥ -1000000
      · have : ¬ b ≤ 1000000 := by omega
        simp [this]
      · simp [h2]
  · rw [if_neg h]; simp [h]
theorem ev_goods (l : List S27) (hl : l.length ≤ 40) : ∀ (d i : Nat), i + d = l.length → Ev (fun k => afterwordref19_Goods.l0 k l (i : Int)) ((l.drop i).all good27)
  | 0, i, h => by
    rw [List.drop_of_length_le (by omega)]
    exact Ev.step (f := fun _ => some true) (fun k => by simp only [afterwordref19_Goods.l0]; rw [if_neg (by omega)]) (Ev.now true)
  | d + 1, i, h => by
    rw [drop27 l i (by omega), List.all_cons]
    cases hg : good27 (rd_T27 l (i : Int)) with
    | false =>
      exact Ev.step (f := fun _ => some false) (fun k => by simp only [afterwordref19_Goods.l0]; rw [if_pos (by omega), if_pos (by omega), good_b, hg]; rfl) (Ev.now false)
    | true =>
      refine Ev.step (f := fun k => afterwordref19_Goods.l0 k l ((i + 1 : Nat) : Int)) (fun k => ?_) (ev_goods l hl d (i + 1) (by omega))
      simp only [afterwordref19_Goods.l0]
      rw [if_pos (by omega), if_pos (by omega), good_b, hg]
      simp only [Option.bind_some, if_true]
      rw [wrapS (by omega)]
def goodsB (l : List S27) : Bool := decide (l.length ≤ 40) && l.all good27
theorem ev_Goods (l : List S27) : Ev (fun k => afterwordref19_Goods.f k l 40) (goodsB l) := by
  unfold goodsB
  by_cases h : l.length ≤ 40
  · have := ev_goods l h l.length 0 (by omega)
    rw [List.drop_zero] at this
    rw [decide_eq_true h, Bool.true_and]
    exact Ev.congr (fun k => by unfold afterwordref19_Goods.f; rw [if_neg (by omega)]; rfl) this
  · rw [decide_eq_false h, Bool.false_and]
    exact Ev.congr (f := fun _ => some false) (fun k => by unfold afterwordref19_Goods.f; rw [if_pos (by omega)]) (Ev.now false)
def hv : List S27 → Int → Int
  | [], _ => 0
  | s :: l, t => (if s.f0 ≤ t ∧ t ≤ s.f1 then 1 else 0) + hv l t
theorem haveF_from (t : Int) : ∀ (l : List S27) (n : Int), l.foldl (fun n s => if s.f0 ≤ t ∧ t ≤ s.f1 then n + 1 else n) n = n + hv l t
  | [], n => by simp [hv]
  | s :: l, n => by
    rw [List.foldl_cons, haveF_from t l]
    simp only [hv]
    split <;> omega
theorem haveF_hv (l : List S27) (t : Int) : haveF l t = hv l t := by unfold haveF; rw [haveF_from]; omega
theorem hv_bd (t : Int) : ∀ l : List S27, 0 ≤ hv l t ∧ hv l t ≤ l.length
  | [] => ⟨by simp [hv], by simp [hv]⟩
  | s :: l => by
    have := hv_bd t l
    simp only [hv, List.length_cons]
    split <;> omega
theorem hv_mono (t u : Int) : ∀ l : List S27, (∀ s ∈ l, s.f0 ≤ t ∧ t ≤ s.f1 → s.f0 ≤ u ∧ u ≤ s.f1) → hv l t ≤ hv l u
  | [], _ => by simp [hv]
  | s :: l, h => by
    have h1 := hv_mono t u l (fun r hr => h r (List.mem_cons_of_mem _ hr))
    have h2 := h s List.mem_cons_self
    simp only [hv]
    by_cases c : s.f0 ≤ t ∧ t ≤ s.f1
    · rw [if_pos c, if_pos (h2 c)]; omega
    · rw [if_neg c]; split <;> omega
theorem hv_lt {t u : Int} {l : List S27} (h : hv l u < hv l t) : ∃ s ∈ l, (s.f0 ≤ t ∧ t ≤ s.f1) ∧ ¬ (s.f0 ≤ u ∧ u ≤ s.f1) := by
  apply Classical.byContradiction
  intro hn
  have := hv_mono t u l (fun s hs hc => Classical.byContradiction fun hc' => hn ⟨s, hs, hc, hc'⟩)
  omega
theorem hv_pos {t : Int} {l : List S27} (h : 0 < hv l t) : ∃ s ∈ l, s.f0 ≤ t ∧ t ≤ s.f1 := by
  induction l with
  | nil => simp [hv] at h
  | cons s l ih =>
    simp only [hv] at h
    by_cases c : s.f0 ≤ t ∧ t ≤ s.f1
    · exact ⟨s, List.mem_cons_self, c⟩
    · rw [if_neg c] at h
      obtain ⟨r, hr, hc⟩ := ih (by omega)
      exact ⟨r, List.mem_cons_of_mem _ hr, hc⟩
theorem hv_one {t : Int} {l : List S27} {s : S27} (hs : s ∈ l) (hc : s.f0 ≤ t ∧ t ≤ s.f1) : 1 ≤ hv l t := by
  induction l with
  | nil => cases hs
  | cons r l ih =>
    simp only [hv]
    have hb := (hv_bd t l).1
    rcases List.mem_cons.mp hs with rfl | hs
    · rw [if_pos hc]; omega
    · have := ih hs
      split <;> omega
theorem exists_max {P : S27 → Prop} : ∀ l : List S27, (∃ s ∈ l, P s) → ∃ s ∈ l, P s ∧ ∀ r ∈ l, P r → r.f0 ≤ s.f0
  | [], h => by obtain ⟨s, hs, _⟩ := h; cases hs
  | a :: l, h => by
    by_cases hl : ∃ s ∈ l, P s
    · obtain ⟨m, hm, hP, hmax⟩ := exists_max l hl
      by_cases ha : P a ∧ m.f0 < a.f0
      · refine ⟨a, List.mem_cons_self, ha.1, fun r hr hr' => ?_⟩
        rcases List.mem_cons.mp hr with rfl | hr
        · exact Int.le_refl _
        · have := hmax r hr hr'; omega
      · refine ⟨m, List.mem_cons_of_mem _ hm, hP, fun r hr hr' => ?_⟩
        rcases List.mem_cons.mp hr with rfl | hr
        · exact Int.not_lt.mp (fun h' => ha ⟨hr', h'⟩)
        · exact hmax r hr hr'
    · obtain ⟨s, hs, hP⟩ := h
      rcases List.mem_cons.mp hs with rfl | hs
      · refine ⟨s, List.mem_cons_self, hP, fun r hr hr' => ?_⟩
        rcases List.mem_cons.mp hr with rfl | hr
        · exact Int.le_refl _
        · exact absurd ⟨r, hr, hr'⟩ hl
      · exact absurd ⟨s, hs, hP⟩ hl
theorem ev_have (l : List S27) (hl : l.length ≤ 40) (t : Int) : ∀ (d i : Nat) (n : Int), i + d = l.length → 0 ≤ n → n ≤ i → Ev (fun k => afterwordref19_Have.l0 k l t n (i : Int)) (n + hv (l.drop i) t)
  | 0, i, n, h, h0, h1 => by
    rw [List.drop_of_length_le (by omega)]
    have e : n + hv [] t = n := by simp [hv]
    rw [e]
    exact Ev.step (f := fun _ => some n) (fun k => by simp only [afterwordref19_Have.l0]; rw [if_neg (by omega)]) (Ev.now n)
  | d + 1, i, n, h, h0, h1 => by
    rw [drop27 l i (by omega)]
    simp only [hv]
    by_cases c : (rd_T27 l (i : Int)).f0 ≤ t ∧ t ≤ (rd_T27 l (i : Int)).f1
    · rw [if_pos c, show n + (1 + hv (l.drop (i + 1)) t) = (n + 1) + hv (l.drop (i + 1)) t by omega]
      refine Ev.step (f := fun k => afterwordref19_Have.l0 k l t (n + 1) ((i + 1 : Nat) : Int)) (fun k => ?_) (ev_have l hl t d (i + 1) (n + 1) (by omega) (by omega) (by omega))
      simp only [afterwordref19_Have.l0]
      rw [if_pos (by omega), if_pos (by omega), if_pos c.1, if_pos c.2, wrapS (by omega), show wrap64 (n + 1) = n + 1 by unfold wrap64; omega]
    · rw [if_neg c, show n + (0 + hv (l.drop (i + 1)) t) = n + hv (l.drop (i + 1)) t by omega]
      refine Ev.step (f := fun k => afterwordref19_Have.l0 k l t n ((i + 1 : Nat) : Int)) (fun k => ?_) (ev_have l hl t d (i + 1) n (by omega) h0 (by omega))
      simp only [afterwordref19_Have.l0]
      rw [if_pos (by omega), if_pos (by omega), wrapS (by omega)]
      by_cases c1 : t ≥ (rd_T27 l (i : Int)).f0
      · rw [if_pos c1, if_neg (fun c2 => c ⟨c1, c2⟩)]
      · rw [if_neg c1]
theorem ev_Have (l : List S27) (hl : l.length ≤ 40) (t : Int) : Ev (fun k => afterwordref19_Have.f k l t) (hv l t) := by
  have := ev_have l hl t l.length 0 0 (by omega) (by omega) (by omega)
  rw [List.drop_zero, Int.zero_add] at this
  exact this
def meetEnd (a b : Int) : Int × Int × Int := if a > b then (0, 0, 5) else (a, b, 0)
def meetR (l : List S27) : Int × Int × Int := if goodsB l = true then meetEnd (meetLo l) (meetHi l) else (0, 0, 2)
theorem meet_skew (l : List S27) : skew_Meet.f l = some (meetR l) := by
  unfold skew_Meet.f meetR goodsB meetEnd
  by_cases h : l.length ≤ 40
  · rw [if_neg (by omega), decide_eq_true h, Bool.true_and]
    cases l.all good27 with
    | true => simp only [if_true]; by_cases c : meetLo l > meetHi l <;> simp [c]
    | false => simp
  · rw [if_pos (by omega), decide_eq_false h]; simp
theorem far_spec (f : S27 → Int) : ∀ (l : List S27) (b : Int), b ≤ farF f (fun a b => decide (a > b)) b l ∧ (∀ s ∈ l, f s ≤ farF f (fun a b => decide (a > b)) b l) ∧ (farF f (fun a b => decide (a > b)) b l = b ∨ ∃ s ∈ l, f s = farF f (fun a b => decide (a > b)) b l)
  | [], b => ⟨Int.le_refl _, fun s hs => (by cases hs), .inl rfl⟩
  | s :: l, b => by
    have e : farF f (fun a b => decide (a > b)) b (s :: l) = farF f (fun a b => decide (a > b)) (if f s > b then f s else b) l := by
      unfold farF; rw [List.foldl_cons]; simp only [decide_eq_true_eq]
    rw [e]
    obtain ⟨h1, h2, h3⟩ := far_spec f l (if f s > b then f s else b)
    generalize farF f (fun a b => decide (a > b)) (if f s > b then f s else b) l = m at h1 h2 h3 ⊢
    by_cases c : f s > b
    · rw [if_pos c] at h1 h3
      refine ⟨by omega, fun r hr => ?_, ?_⟩
      · rcases List.mem_cons.mp hr with rfl | hr
        · exact h1
        · exact h2 r hr
      · rcases h3 with h3 | ⟨r, hr, h3⟩
        · exact .inr ⟨s, List.mem_cons_self, h3.symm⟩
        · exact .inr ⟨r, List.mem_cons_of_mem _ hr, h3⟩
    · rw [if_neg c] at h1 h3
      refine ⟨h1, fun r hr => ?_, ?_⟩
      · rcases List.mem_cons.mp hr with rfl | hr
        · omega
        · exact h2 r hr
      · rcases h3 with h3 | ⟨r, hr, h3⟩
        · exact .inl h3
        · exact .inr ⟨r, List.mem_cons_of_mem _ hr, h3⟩
theorem min_spec (f : S27 → Int) (p : S27 → Bool) : ∀ (l : List S27) (b : Int),
    l.foldl (fun lo s => if f s < lo ∧ p s = true then f s else lo) b ≤ b ∧ (∀ s ∈ l, p s = true → l.foldl (fun lo s => if f s < lo ∧ p s = true then f s else lo) b ≤ f s) ∧
      (l.foldl (fun lo s => if f s < lo ∧ p s = true then f s else lo) b = b ∨ ∃ s ∈ l, p s = true ∧ f s = l.foldl (fun lo s => if f s < lo ∧ p s = true then f s else lo) b)
  | [], b => ⟨Int.le_refl _, fun s hs => (by cases hs), .inl rfl⟩
  | s :: l, b => by
    rw [List.foldl_cons]
    obtain ⟨h1, h2, h3⟩ := min_spec f p l (if f s < b ∧ p s = true then f s else b)
    generalize l.foldl (fun lo s => if f s < lo ∧ p s = true then f s else lo) (if f s < b ∧ p s = true then f s else b) = m at h1 h2 h3 ⊢
    by_cases c : f s < b ∧ p s = true
    · rw [if_pos c] at h1 h3
      refine ⟨by omega, fun r hr hp => ?_, ?_⟩
      · rcases List.mem_cons.mp hr with rfl | hr
        · exact h1
        · exact h2 r hr hp
      · rcases h3 with h3 | ⟨r, hr, h3⟩
        · exact .inr ⟨s, List.mem_cons_self, c.2, h3.symm⟩
        · exact .inr ⟨r, List.mem_cons_of_mem _ hr, h3⟩
    · rw [if_neg c] at h1 h3
      refine ⟨h1, fun r hr hp => ?_, ?_⟩
      · rcases List.mem_cons.mp hr with rfl | hr
        · have : ¬ f r < b := fun h => c ⟨h, hp⟩
          omega
        · exact h2 r hr hp
      · rcases h3 with h3 | ⟨r, hr, h3⟩
        · exact .inl h3
        · exact .inr ⟨r, List.mem_cons_of_mem _ hr, h3⟩
structure VoteIs (l : List S27) (m lo : Int) : Prop where
  top : ∀ t, hv l t ≤ m
  at_lo : hv l lo = m
  one : 1 ≤ m
  first : ∀ s ∈ l, hv l s.f0 = m → lo ≤ s.f0
  begins : ∃ s ∈ l, lo = s.f0
theorem good_of {l : List S27} (hg : l.all good27 = true) {s : S27} (hs : s ∈ l) : s.f0 ≤ s.f1 ∧ -1000000 ≤ s.f0 ∧ s.f1 ≤ 1000000 := by
  have := List.all_eq_true.mp hg s hs
  unfold good27 at this
  simp at this
  omega
theorem top_of {l : List S27} {m : Int} (h0 : 0 ≤ m) (h : ∀ s ∈ l, hv l s.f0 ≤ m) (t : Int) : hv l t ≤ m := by
  by_cases hp : 0 < hv l t
  · obtain ⟨s, hs, hc, hmax⟩ := exists_max (P := fun s => s.f0 ≤ t ∧ t ≤ s.f1) l (hv_pos hp)
    refine Int.le_trans (hv_mono t s.f0 l (fun r hr hrc => ⟨hmax r hr hrc, ?_⟩)) (h s hs)
    omega
  · omega
theorem voteLow_eq (l : List S27) (m : Int) (lo : Int) (l' : List S27) : voteLow l m l' lo = l'.foldl (fun lo s => if s.f0 < lo ∧ decide (hv l s.f0 = m) = true then s.f0 else lo) lo := by
  unfold voteLow; simp only [haveF_hv, decide_eq_true_eq]
theorem vote_is (l : List S27) (hg : l.all good27 = true) (h0 : l.length ≠ 0) : VoteIs l (voteMost l) (voteLow l (voteMost l) l 1000000) := by
  obtain ⟨a, ha⟩ : ∃ a, a ∈ l := by cases l with
    | nil => simp at h0
    | cons a l => exact ⟨a, List.mem_cons_self⟩
  obtain ⟨m, hm⟩ : ∃ m, voteMost l = m := ⟨_, rfl⟩
  have hm' : farF (fun s => hv l s.f0) (fun a b => decide (a > b)) 0 l = m := by rw [← hm]; unfold voteMost; simp only [haveF_hv]
  obtain ⟨f1, f2, f3⟩ := far_spec (fun s => hv l s.f0) l 0
  rw [hm'] at f1 f2 f3
  rw [hm]
  have ha1 : 1 ≤ hv l a.f0 := hv_one ha ⟨Int.le_refl _, (good_of hg ha).1⟩
  have hm1 : 1 ≤ m := Int.le_trans ha1 (f2 a ha)
  obtain ⟨s, hs, hsm⟩ : ∃ s ∈ l, hv l s.f0 = m := by
    rcases f3 with f3 | f3
    · omega
    · exact f3
  rw [voteLow_eq]
  obtain ⟨g1, g2, g3⟩ := min_spec (fun s => s.f0) (fun s => decide (hv l s.f0 = m)) l 1000000
  generalize l.foldl (fun lo s => if s.f0 < lo ∧ decide (hv l s.f0 = m) = true then s.f0 else lo) 1000000 = lo at g1 g2 g3 ⊢
  have hfirst : ∀ s ∈ l, hv l s.f0 = m → lo ≤ s.f0 := fun r hr he => g2 r hr (decide_eq_true he)
  have hat : ∃ r ∈ l, lo = r.f0 ∧ hv l r.f0 = m := by
    rcases g3 with g3 | ⟨r, hr, hp, he⟩
    · have h1 := hfirst s hs hsm
      have h2 := good_of hg hs
      exact ⟨s, hs, by omega, hsm⟩
    · exact ⟨r, hr, he.symm, of_decide_eq_true hp⟩
  obtain ⟨r, hr, he, hrm⟩ := hat
  exact ⟨top_of (by omega) f2, by rw [he]; exact hrm, hm1, hfirst, r, hr, he⟩
structure HighIs (l : List S27) (m lo R : Int) : Prop where
  le : lo ≤ R
  most : R ≤ 1000000
  all : ∀ t, lo ≤ t → t ≤ R → hv l t = m
  stop : R = 1000000 ∨ hv l (R + 1) < m
theorem voteHigh_eq (l : List S27) (m lo hi : Int) (l' : List S27) : voteHigh l m lo l' hi = l'.foldl (fun hi s => if s.f1 < hi ∧ (decide (lo ≤ s.f1) && decide (hv l (s.f1 + 1) < m)) = true then s.f1 else hi) hi := by
  unfold voteHigh
  congr 1
  funext hi s
  simp only [haveF_hv, Bool.and_eq_true, decide_eq_true_eq]
  by_cases c1 : lo ≤ s.f1 <;> by_cases c2 : s.f1 < hi <;> by_cases c3 : hv l (s.f1 + 1) < m <;> simp [c1, c2, c3]
theorem high_is (l : List S27) (hg : l.all good27 = true) (m lo : Int) (hV : VoteIs l m lo) : HighIs l m lo (voteHigh l m lo l 1000000) := by
  rw [voteHigh_eq]
  obtain ⟨g1, g2, g3⟩ := min_spec (fun s => s.f1) (fun s => decide (lo ≤ s.f1) && decide (hv l (s.f1 + 1) < m)) l 1000000
  generalize l.foldl (fun hi s => if s.f1 < hi ∧ (decide (lo ≤ s.f1) && decide (hv l (s.f1 + 1) < m)) = true then s.f1 else hi) 1000000 = R at g1 g2 g3 ⊢
  obtain ⟨b, hb, hbl⟩ := hV.begins
  have hbg := good_of hg hb
  have hle : lo ≤ R := by
    rcases g3 with g3 | ⟨s, hs, hp, he⟩
    · omega
    · simp only [Bool.and_eq_true, decide_eq_true_eq] at hp; omega
  have hall : ∀ (n : Nat) (t : Int), lo ≤ t → t ≤ R → (t - lo).toNat = n → hv l t = m := by
    intro n
    induction n with
    | zero => intro t h1 h2 h3; obtain rfl : t = lo := by omega
              exact hV.at_lo
    | succ n ih =>
      intro t h1 h2 h3
      have hp := ih (t - 1) (by omega) (by omega) (by omega)
      have ht := hV.top t
      by_cases hc : hv l t < m
      · exfalso
        have hlt : hv l t < hv l (t - 1) := by omega
        obtain ⟨s, hs, hc1, hc2⟩ := hv_lt hlt
        have hs1 : s.f1 = t - 1 := by omega
        have := g2 s hs (by simp only [Bool.and_eq_true, decide_eq_true_eq]; exact ⟨by omega, by rw [hs1, show t - 1 + 1 = t by omega]; exact hc⟩)
        omega
      · omega
  refine ⟨hle, g1, fun t h1 h2 => hall _ t h1 h2 rfl, ?_⟩
  rcases g3 with g3 | ⟨s, hs, hp, he⟩
  · exact .inl g3
  · simp only [Bool.and_eq_true, decide_eq_true_eq] at hp
    right; rw [← he]; exact hp.2
def voteR (l : List S27) : Int × Int × Int × Int :=
  if goodsB l = true then (if l.length = 0 then (0, 0, 0, 5) else (voteLow l (voteMost l) l 1000000, voteHigh l (voteMost l) (voteLow l (voteMost l) l 1000000) l 1000000, voteMost l, 0)) else (0, 0, 0, 2)
theorem vote_skew (l : List S27) : skew_Vote.f l = some (voteR l) := by
  unfold skew_Vote.f voteR goodsB
  by_cases h : l.length ≤ 40
  · rw [if_neg (by omega), decide_eq_true h, Bool.true_and]
    cases l.all good27 with
    | true => simp only [if_true]; by_cases c : l.length = 0 <;> simp [c]
    | false => simp
  · rw [if_pos (by omega), decide_eq_false h]; simp
end Go.Proofs.Ytbffhblebigcfaa.Sk
