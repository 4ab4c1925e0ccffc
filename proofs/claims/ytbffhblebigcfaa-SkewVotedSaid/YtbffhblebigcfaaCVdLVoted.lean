/- What is so of a vote, whatever the spans. -/
import Derived.Test.YtbffhblebigcfaaCVdLVotes
namespace Go.Proofs.Ytbffhblebigcfaa.Sk
open Go.RowKit Go.Proofs.YtbffhblebigcfaaW.PrintWords Go.Proofs.YtbffhblebigcfaaW.PrintLast Go.Proofs.YtbffhblebigcfaaW.PrintMore
set_option linter.unusedVariables false
set_option linter.unusedSimpArgs false
theorem far_less (f : S27 → Int) : ∀ (l : List S27) (b : Int), farF f (fun a b => decide (a < b)) b l ≤ b ∧ (∀ s ∈ l, farF f (fun a b => decide (a < b)) b l ≤ f s) ∧ (farF f (fun a b => decide (a < b)) b l = b ∨ ∃ s ∈ l, f s = farF f (fun a b => decide (a < b)) b l)
  | [], b => ⟨Int.le_refl _, fun s hs => (by cases hs), .inl rfl⟩
  | s :: l, b => by
    have e : farF f (fun a b => decide (a < b)) b (s :: l) = farF f (fun a b => decide (a < b)) (if f s < b then f s else b) l := by
      unfold farF; rw [List.foldl_cons]; simp only [decide_eq_true_eq]
    rw [e]
    obtain ⟨h1, h2, h3⟩ := far_less f l (if f s < b then f s else b)
    generalize farF f (fun a b => decide (a < b)) (if f s < b then f s else b) l = m at h1 h2 h3 ⊢
    by_cases c : f s < b
    · rw [if_pos c] at h1 h3
      refine ⟨by omega, fun r hr => ?_, ?_⟩
      · rcases List.mem_cons.mp hr with rfl | hr
        · exact h1
        · exact h2 r hr
      · rcases h3 with h3 | ⟨r, hr, h3⟩
        · exact .inr ⟨s, List.mem_cons_self, h3.symm⟩
        · exact .inr ⟨r, List.mem_cons_of_mem _ hr, h3⟩
    · rw [if_neg c] at h1 h3
      refine ⟨h1, fun r hr => ?_, ?_⟩
      · rcases List.mem_cons.mp hr with rfl | hr
        · omega
        · exact h2 r hr
      · rcases h3 with h3 | ⟨r, hr, h3⟩
        · exact .inl h3
        · exact .inr ⟨r, List.mem_cons_of_mem _ hr, h3⟩
theorem hv_all (t : Int) : ∀ l : List S27, (∀ s ∈ l, s.f0 ≤ t ∧ t ≤ s.f1) → hv l t = l.length
  | [], _ => rfl
  | s :: l, h => by
    have ih := hv_all t l fun r hr => h r (List.mem_cons_of_mem _ hr)
    show (if _ then 1 else 0) + hv l t = _
    rw [if_pos (h s List.mem_cons_self), ih, List.length_cons]; omega
theorem hv_full (t : Int) : ∀ l : List S27, hv l t = l.length → ∀ s ∈ l, s.f0 ≤ t ∧ t ≤ s.f1
  | [], _, s, hs => by cases hs
  | r :: l, h, s, hs => by
    have hb := (hv_bd t l).2
    have e : hv (r :: l) t = (if r.f0 ≤ t ∧ t ≤ r.f1 then 1 else 0) + hv l t := rfl
    rw [e, List.length_cons] at h
    by_cases c : r.f0 ≤ t ∧ t ≤ r.f1
    · rw [if_pos c] at h
      rcases List.mem_cons.mp hs with rfl | hs
      · exact c
      · exact hv_full t l (by omega) s hs
    · rw [if_neg c] at h; omega
structure VotedIs (l : List S27) (lo hi m x y f : Int) : Prop where
  good : good27 ⟨lo, hi⟩ = true
  le : lo ≤ hi
  b0 : -1000000 ≤ lo
  b1 : hi ≤ 1000000
  m1 : 1 ≤ m
  ml : m ≤ l.length
  all : ∀ t, lo ≤ t → t ≤ hi → hv l t = m
  top : ∀ t, hv l t ≤ m
  stop : hi = 1000000 ∨ hv l (hi + 1) < m
  first : ∀ t, hv l t = m → lo ≤ t
  meet : m = l.length ↔ f = 0
  same : f = 0 → x = lo ∧ y = hi
  fz : f = 0 ∨ f = 5
theorem voted_is (l : List S27) (hl : l.length ≤ 40) (hg : l.all good27 = true) (h0 : l.length ≠ 0) : VotedIs l (voteR l).1 (voteR l).2.1 (voteR l).2.2.1 (meetR l).1 (meetR l).2.1 (meetR l).2.2 := by
  have hgs : goodsB l = true := by unfold goodsB; rw [decide_eq_true hl, hg]; rfl
  have hv0 : voteR l = (voteLow l (voteMost l) l 1000000, voteHigh l (voteMost l) (voteLow l (voteMost l) l 1000000) l 1000000, voteMost l, 0) := by
    unfold voteR; rw [if_pos hgs, if_neg h0]
  have hm0 : meetR l = meetEnd (meetLo l) (meetHi l) := by unfold meetR; rw [if_pos hgs]
  have hV := vote_is l hg h0
  have hH := high_is l hg _ _ hV
  rw [hv0, hm0]
  generalize voteMost l = m at hV hH ⊢
  generalize voteLow l m l 1000000 = lo at hV hH ⊢
  generalize voteHigh l m lo l 1000000 = hi at hH ⊢
  show VotedIs l lo hi m (meetEnd (meetLo l) (meetHi l)).1 (meetEnd (meetLo l) (meetHi l)).2.1 (meetEnd (meetLo l) (meetHi l)).2.2
  obtain ⟨sb, hsb, hlo⟩ := hV.begins
  have gb := good_of hg hsb
  have hlen := (hv_bd lo l).2
  rw [hV.at_lo] at hlen
  obtain ⟨p1, p2, p3⟩ := far_spec (fun s => s.f0) l (-1000000)
  obtain ⟨q1, q2, q3⟩ := far_less (fun s => s.f1) l 1000000
  have p1 : -1000000 ≤ meetLo l := p1
  have p2 : ∀ s ∈ l, s.f0 ≤ meetLo l := p2
  have p3 : meetLo l = -1000000 ∨ ∃ s ∈ l, s.f0 = meetLo l := p3
  have q1 : meetHi l ≤ 1000000 := q1
  have q2 : ∀ s ∈ l, meetHi l ≤ s.f1 := q2
  have q3 : meetHi l = 1000000 ∨ ∃ s ∈ l, s.f1 = meetHi l := q3
  have key : m = l.length → meetLo l = lo ∧ meetHi l = hi := fun hm => by
    have hcov : ∀ s ∈ l, s.f0 ≤ lo ∧ lo ≤ s.f1 := hv_full lo l (hV.at_lo.trans hm)
    have hcovh : ∀ s ∈ l, s.f0 ≤ hi ∧ hi ≤ s.f1 := hv_full hi l ((hH.all hi hH.le (Int.le_refl _)).trans hm)
    have e1 : meetLo l = lo := by
      have := p2 sb hsb
      rcases p3 with p3 | ⟨s, hs, p3⟩
      · omega
      · have := (hcov s hs).1; omega
    refine ⟨e1, ?_⟩
    have hle : hi ≤ meetHi l := by
      rcases q3 with q3 | ⟨s, hs, q3⟩
      · rw [q3]; exact hH.most
      · rw [← q3]; exact (hcovh s hs).2
    rcases hH.stop with hs | hs
    · omega
    · by_cases hlt : hi < meetHi l
      · have := hv_all (hi + 1) l fun s hs => ⟨by have := (hcovh s hs).1; omega, by have := q2 s hs; omega⟩
        omega
      · omega
  have meet1 : m = l.length ↔ ¬ meetLo l > meetHi l := by
    constructor
    · intro hm
      obtain ⟨e1, e2⟩ := key hm
      have := hH.le
      omega
    · intro hc
      have := hv_all (meetLo l) l fun s hs => ⟨p2 s hs, by have := q2 s hs; omega⟩
      have := hV.top (meetLo l)
      omega
  refine ⟨?_, hH.le, by omega, hH.most, hV.one, hlen, hH.all, hV.top, hH.stop, fun t ht => ?_, ?_, ?_, ?_⟩
  · unfold good27
    have := hH.le
    have := hH.most
    simp only [Bool.and_eq_true, decide_eq_true_eq]
    exact ⟨hH.le, by omega, hH.most⟩
  · have h1 := hV.one
    obtain ⟨s, hs, hc, hmax⟩ := exists_max (P := fun s => s.f0 ≤ t ∧ t ≤ s.f1) l (hv_pos (by omega))
    have h2 : hv l t ≤ hv l s.f0 := hv_mono t s.f0 l fun r hr hcr => ⟨hmax r hr hcr, by omega⟩
    have h3 := hV.top s.f0
    have := hV.first s hs (by omega)
    omega
  · rw [meet1]
    unfold meetEnd
    by_cases c : meetLo l > meetHi l
    · rw [if_pos c]; exact ⟨fun h => absurd c h, fun h => by cases h⟩
    · rw [if_neg c]; exact ⟨fun _ => rfl, fun _ => c⟩
  · intro hf
    have hc : ¬ meetLo l > meetHi l := by
      intro c
      unfold meetEnd at hf
      rw [if_pos c] at hf
      cases hf
    unfold meetEnd
    rw [if_neg hc]
    exact key (meet1.mpr hc)
  · unfold meetEnd
    by_cases c : meetLo l > meetHi l
    · rw [if_pos c]; exact .inr rfl
    · rw [if_neg c]; exact .inl rfl
end Go.Proofs.Ytbffhblebigcfaa.Sk
