/- The plain laws of runs: whether a cut is closed, computed two ways. -/
import Derived.Test.YtbffhblebigcfaaCCaLCounts
import Derived.Test.YtbffhblebigcfaaCCaGClosed
import Derived.Test.YtbffhblebigcfaaCCaS0
namespace Go.Proofs.Ytbffhblebigcfaa.Sk
open Go.RowKit Go.Proofs.YtbffhblebigcfaaW.PrintWords Go.Proofs.YtbffhblebigcfaaW.PrintLast Go.Proofs.YtbffhblebigcfaaW.PrintMore
set_option linter.unusedVariables false
set_option linter.unusedSimpArgs false
def allFrom (p : Nat → Bool) : Nat → Nat → Bool
  | 0, _ => true
  | d + 1, j => p j && allFrom p d (j + 1)
theorem allFrom_iff (p : Nat → Bool) : ∀ (d j : Nat), allFrom p d j = true ↔ ∀ m, j ≤ m → m < j + d → p m = true
  | 0, j => ⟨fun _ m h1 h2 => by omega, fun _ => rfl⟩
  | d + 1, j => by
    simp only [allFrom, Bool.and_eq_true]
    rw [allFrom_iff p d (j + 1)]
    constructor
    · rintro ⟨h1, h2⟩ m h3 h4
      by_cases e : m = j
      · subst e; exact h1
      · exact h2 m (by omega) (by omega)
    · intro h
      exact ⟨h j (by omega) (by omega), fun m h1 h2 => h m (by omega) (by omega)⟩
def mq (l : List S71) (m : Int) (j : Nat) : Bool := decide ((rd_T71 l (j : Int)).f0 = m)
def rk (l : List S71) (j : Nat) : Nat := cb (mq l (rd_T71 l (j : Int)).f0) j
def inB (l : List S71) (cut : List Int) (j : Nat) : Bool := decide ((rk l j : Int) < rd cut (rd_T71 l (j : Int)).f0)
theorem chain (l : List S71) : ∀ (j j' : Nat), j' < j → (rd_T71 l (j' : Int)).f0 = (rd_T71 l (j : Int)).f0 → Pt l (-1) j j' := by
  intro j
  induction j using Nat.strongRecOn with
  | _ j ih =>
    intro j' hj hm
    have hs := (befS_spec l (rd_T71 l (j : Int)).f0 j).2 j' hj hm
    have hlt := befS_lt l (rd_T71 l (j : Int)).f0 j
    have hf := (befS_spec l (rd_T71 l (j : Int)).f0 j).1 (by omega)
    have hbe : befS l (rd_T71 l (j : Int)).f0 j = bef l j := rfl
    rw [hbe] at hs hlt hf
    obtain ⟨b, hb⟩ : ∃ b : Nat, bef l j = (b : Int) := ⟨(bef l j).toNat, by omega⟩
    rw [hb] at hs hlt hf
    by_cases e : b = j'
    · subst e; exact .edge (.inl hb)
    · exact (Pt.head j j').mpr ⟨b, .inl hb, .inr (ih b (by omega) j' (by omega) (by rw [hm, hf]))⟩
theorem Pt.trans {l : List S71} {i j k : Nat} (h : Pt l (-1) i j) (h2 : Pt l (-1) j k) : Pt l (-1) i k :=
  Pt.ind (p := fun k => Pt l (-1) i k) (fun k hr => h.snoc (by omega) hr) (fun m k _ ih hm hr => ih.snoc (by omega) hr) h2
theorem cb_prefix (l : List S71) (q : Nat → Bool) (m c : Int) (hc : 0 ≤ c) (hq : ∀ j j' : Nat, q j = true → mq l m j = true → j' < j → mq l m j' = true → q j' = true) : ∀ n : Nat,
    ((cb (fun j => q j && mq l m j) n : Nat) : Int) ≤ c ↔ ∀ j : Nat, j < n → q j = true → mq l m j = true → ((cb (mq l m) j : Nat) : Int) < c := by
  intro n
  constructor
  · intro h j hj h1 h2
    have e : cb (fun j => q j && mq l m j) j = cb (mq l m) j := cb_congr j fun j' hj' => by
      cases h3 : mq l m j' with
      | false => exact Bool.and_false _
      | true => rw [hq j j' h1 h2 hj' h3]; rfl
    have e2 : cb (fun j => q j && mq l m j) (j + 1) = cb (mq l m) j + 1 := by
      simp only [cb, h1, h2, Bool.and_self, if_true]
      rw [e]
    have e3 : cb (fun j => q j && mq l m j) (j + 1) ≤ cb (fun j => q j && mq l m j) n := by
      have : ∀ d, cb (fun j => q j && mq l m j) (j + 1) ≤ cb (fun j => q j && mq l m j) (j + 1 + d) := fun d => by
        induction d with
        | zero => exact Nat.le_refl _
        | succ d ih => refine Nat.le_trans ih ?_; rw [show j + 1 + (d + 1) = (j + 1 + d) + 1 by omega]; simp only [cb]; omega
      have h4 := this (n - (j + 1))
      rwa [show j + 1 + (n - (j + 1)) = n by omega] at h4
    omega
  · induction n with
    | zero => intro _; simpa [cb] using hc
    | succ n ih =>
      intro h
      simp only [cb]
      by_cases c1 : (q n && mq l m n) = true
      · rw [if_pos c1]
        rw [Bool.and_eq_true] at c1
        have h1 := h n (by omega) c1.1 c1.2
        have h2 := cb_mono (q := fun j => q j && mq l m j) (r := mq l m) n (fun j _ hj => by rw [Bool.and_eq_true] at hj; exact hj.2)
        omega
      · rw [if_neg c1]
        have := ih fun j hj => h j (by omega)
        omega
theorem rd_setN (xs : List Int) (k m : Nat) (v : Int) (hk : k < xs.length) : rd (xs.set k v) (m : Int) = if m = k then v else rd xs (m : Int) := by
  unfold rd
  rw [Int.toNat_natCast, getD_set6 xs k m v hk]
theorem mq_other (l : List S71) (n : Nat) (m : Int) (h : (rd_T71 l (n : Int)).f0 ≠ m) : cb (mq l m) (n + 1) = cb (mq l m) n := by
  simp only [cb]
  rw [if_neg (by unfold mq; simpa using h)]
  omega
theorem mq_own (l : List S71) (n : Nat) : cb (mq l (rd_T71 l (n : Int)).f0) (n + 1) = cb (mq l (rd_T71 l (n : Int)).f0) n + 1 := by
  simp only [cb]
  rw [if_pos (by unfold mq; simp)]
theorem inGo_set (l : List S71) (h : RunIs l) (cut : List Int) (hc : ∀ m : Nat, m < 6 → 0 ≤ rd cut (m : Int) ∧ rd cut (m : Int) ≤ 1000) : ∀ (d i : Nat) (left : List Int) (s : Int), i + d = l.length → left.length = 6 →
    (∀ m : Nat, m < 6 → rd left (m : Int) = if ((cb (mq l (m : Int)) i : Nat) : Int) < rd cut (m : Int) then rd cut (m : Int) - ((cb (mq l (m : Int)) i : Nat) : Int) else 0) → SetIs s (fun j => j < i ∧ inB l cut j = true) →
    SetIs (inGo (l.drop i) (i : Int) left s) (fun j => j < l.length ∧ inB l cut j = true)
  | 0, i, left, s, hd, hl, hm, hs => by
    obtain rfl : i = l.length := by omega
    rw [List.drop_length]
    exact hs
  | d + 1, i, left, s, hd, hl, hm, hs => by
    have hi : i < l.length := by omega
    have hll := h.len
    rw [drop71 l i hi]
    simp only [inGo]
    have hdi := (h.deed i hi).1
    obtain ⟨k, hk⟩ : ∃ k : Nat, (rd_T71 l (i : Int)).f0 = (k : Int) := ⟨(rd_T71 l (i : Int)).f0.toNat, by omega⟩
    have hk6 : k < 6 := by omega
    have hmk := hm k hk6
    have hck := hc k hk6
    have own := mq_own l i
    rw [hk] at own
    have hin : inB l cut i = true ↔ ((cb (mq l (k : Int)) i : Nat) : Int) < rd cut (k : Int) := by
      unfold inB rk
      rw [decide_eq_true_eq, hk]
    rw [hk, Int.toNat_natCast, Int.toNat_natCast]
    by_cases c : rd left (k : Int) > 0
    · rw [if_pos c]
      have c' : ((cb (mq l (k : Int)) i : Nat) : Int) < rd cut (k : Int) := by
        by_cases c'' : ((cb (mq l (k : Int)) i : Nat) : Int) < rd cut (k : Int)
        · exact c''
        · rw [if_neg c''] at hmk; omega
      rw [if_pos c'] at hmk
      have hw : wrap64 (rd left (k : Int) - 1) = rd left (k : Int) - 1 := by unfold wrap64; omega
      have := inGo_set l h cut hc d (i + 1) (left.set k (wrap64 (rd left (k : Int) - 1))) (bits .or .u64 s (IntKind.u64.wrap (2 ^ i))) (by omega) (by rw [List.length_set]; exact hl) (fun m hm6 => by
        rw [rd_setN left k m _ (by omega)]
        by_cases e : m = k
        · subst e
          rw [if_pos rfl, hw, own]
          by_cases c3 : ((cb (mq l (m : Int)) i + 1 : Nat) : Int) < rd cut (m : Int)
          · rw [if_pos c3]; omega
          · rw [if_neg c3]; omega
        · rw [if_neg e, mq_other l i (m : Int) (by omega)]
          exact hm m hm6) ((hs.or (SetIs.one i (by omega))).congr fun j => by
        constructor
        · rintro (⟨h1, h2⟩ | h1)
          · exact ⟨by omega, h2⟩
          · subst h1; exact ⟨by omega, hin.mpr c'⟩
        · rintro ⟨h1, h2⟩
          by_cases e : j = i
          · exact .inr e
          · exact .inl ⟨by omega, h2⟩)
      rw [show ((i + 1 : Nat) : Int) = (i : Int) + 1 by omega] at this
      exact this
    · rw [if_neg c]
      have c' : ¬ ((cb (mq l (k : Int)) i : Nat) : Int) < rd cut (k : Int) := fun c'' => by
        rw [if_pos c''] at hmk; omega
      rw [if_neg c'] at hmk
      have := inGo_set l h cut hc d (i + 1) left s (by omega) hl (fun m hm6 => by
        by_cases e : m = k
        · subst e
          rw [own, if_neg (by omega)]; exact hmk
        · rw [mq_other l i (m : Int) (by omega)]
          exact hm m hm6) (hs.congr fun j => by
        constructor
        · rintro ⟨h1, h2⟩; exact ⟨by omega, h2⟩
        · rintro ⟨h1, h2⟩
          by_cases e : j = i
          · subst e; exact absurd (hin.mp h2) c'
          · exact ⟨by omega, h2⟩)
      rw [show ((i + 1 : Nat) : Int) = (i : Int) + 1 by omega] at this
      exact this
theorem in_set (l : List S71) (h : RunIs l) (cut : List Int) (hcl : cut.length = 6) (hc : ∀ m : Nat, m < 6 → 0 ≤ rd cut (m : Int) ∧ rd cut (m : Int) ≤ 1000) : SetIs (inGo l 0 cut 0) (fun j => j < l.length ∧ inB l cut j = true) := by
  have := inGo_set l h cut hc l.length 0 cut 0 (by omega) hcl (fun m hm => by
    have := hc m hm
    have e0 : ((cb (mq l (m : Int)) 0 : Nat) : Int) = 0 := rfl
    by_cases c : ((cb (mq l (m : Int)) 0 : Nat) : Int) < rd cut (m : Int)
    · rw [if_pos c]; omega
    · rw [if_neg c]; omega) (SetIs.zero.congr fun j => ⟨False.elim, fun h => by omega⟩)
  rw [List.drop_zero] at this
  exact this
def cnB (l : List S71) (cut : List Int) (i : Nat) : Bool := !(inB l cut i) || allFrom (fun (m : Nat) => decide (rd (cntRow (aheadsF (bsL l) l) (mineF l) (i : Int)) (m : Int) ≤ rd cut (m : Int))) 6 0
theorem row_iff (l : List S71) (h : RunIs l) (cut : List Int) (hc : ∀ m : Nat, m < 6 → 0 ≤ rd cut (m : Int) ∧ rd cut (m : Int) ≤ 1000) (i : Nat) (hi : i < l.length) (hin : inB l cut i = true) :
    (∀ m : Nat, m < 6 → rd (cntRow (aheadsF (bsL l) l) (mineF l) (i : Int)) (m : Int) ≤ rd cut (m : Int)) ↔ ∀ j : Nat, Pt l (-1) i j → inB l cut j = true := by
  obtain ⟨o, _, hM⟩ := ev_AheadOf l h i hi
  rw [cnt_eq l h i hi o hM]
  have key : ∀ m : Nat, m < 6 → (rd (cntL l o i l.length) (m : Int) ≤ rd cut (m : Int) ↔ ∀ j : Nat, j < l.length → (decide (j = i) || rdOf false o (j : Int)) = true → mq l (m : Int) j = true → ((cb (mq l (m : Int)) j : Nat) : Int) < rd cut (m : Int)) := fun m hm => by
    rw [rd_cntL _ _ _ _ _ hm, ← cb_prefix l (fun j => decide (j = i) || rdOf false o (j : Int)) (m : Int) (rd cut (m : Int)) (hc m hm).1 (fun j j' h1 h2 h3 h4 => ?_)]
    · rw [cb_congr (q := cntQ l o i m) (r := fun j => (decide (j = i) || rdOf false o (j : Int)) && mq l (m : Int) j) l.length (fun j hj => by
        unfold cntQ mq
        congr 1
        exact decide_eq_decide.mpr ⟨fun h => h.2, fun h => ⟨hj, h⟩⟩)]
    · unfold mq at h2 h4
      rw [decide_eq_true_eq] at h2 h4
      have hch := chain l j j' h3 (by rw [h2, h4])
      rw [Bool.or_eq_true, decide_eq_true_eq] at h1 ⊢
      rcases h1 with h1 | h1
      · subst h1; exact .inr ((hM.2 j').mpr hch)
      · exact .inr ((hM.2 j').mpr (((hM.2 j).mp h1).trans hch))
  constructor
  · intro hall j hp
    have hjl := hp.lt h hi
    have hd := (h.deed j (by omega)).1
    obtain ⟨k, hk⟩ : ∃ k : Nat, (rd_T71 l (j : Int)).f0 = (k : Int) := ⟨(rd_T71 l (j : Int)).f0.toNat, by omega⟩
    have := (key k (by omega)).mp (hall k (by omega)) j (by omega) (by rw [(hM.2 j).mpr hp, Bool.or_true]) (by unfold mq; rw [hk]; simp)
    unfold inB rk
    rw [decide_eq_true_eq, hk]
    exact this
  · intro hall m hm
    refine (key m hm).mpr fun j hj h1 h2 => ?_
    have hjin : inB l cut j = true := by
      rw [Bool.or_eq_true, decide_eq_true_eq] at h1
      rcases h1 with h1 | h1
      · subst h1; exact hin
      · exact hall j ((hM.2 j).mp h1)
    unfold mq at h2
    rw [decide_eq_true_eq] at h2
    unfold inB rk at hjin
    rw [decide_eq_true_eq, h2] at hjin
    exact hjin
theorem good_eq (l : List S71) (h : RunIs l) (cut : List Int) (hcl : cut.length = 6) (hc : ∀ m : Nat, m < 6 → 0 ≤ rd cut (m : Int) ∧ rd cut (m : Int) ≤ 1000) (i : Nat) (hi : i < l.length) :
    goodAt (inGo l 0 cut 0) (aheadsF (bsL l) l) (i : Int) = cnB l cut i := by
  have hll := h.len
  have hs := in_set l h cut hcl hc
  have ha := aheads_set l h i hi
  rw [Bool.eq_iff_iff]
  unfold goodAt cnB
  rw [Bool.or_eq_true, allFrom_iff]
  simp only [decide_eq_true_eq]
  have hrow := row_iff l h cut hc i hi
  have hrow' : (∀ m : Nat, 0 ≤ m → m < 0 + 6 → rd (cntRow (aheadsF (bsL l) l) (mineF l) (i : Int)) (m : Int) ≤ rd cut (m : Int)) ↔ (∀ m : Nat, m < 6 → rd (cntRow (aheadsF (bsL l) l) (mineF l) (i : Int)) (m : Int) ≤ rd cut (m : Int)) :=
    ⟨fun h m hm => h m (by omega) (by omega), fun h m _ hm => h m (by omega)⟩
  rw [hrow']
  cases hin : inB l cut i with
  | false =>
    refine ⟨fun _ => .inl rfl, fun _ => ?_⟩
    cases ea : aheadsF (bsL l) l (i : Int) with
    | none => rfl
    | some s =>
      simp only
      unfold badAt
      have : ¬ ((bits .and .u64 (shr .u64 (inGo l 0 cut 0) (i : Int)) 1) == 1) = true := fun hx => by
        have := ((hs.has i (by omega)).mp hx).2
        rw [hin] at this; cases this
      rw [Bool.not_eq_true] at this
      rw [this]; rfl
  | true =>
    rw [hrow hin]
    have hx : ((bits .and .u64 (shr .u64 (inGo l 0 cut 0) (i : Int)) 1) == 1) = true := (hs.has i (by omega)).mpr ⟨hi, hin⟩
    cases ea : aheadsF (bsL l) l (i : Int) with
    | none =>
      rw [ea] at ha
      refine ⟨fun _ => .inr fun j hp => ?_, fun _ => rfl⟩
      have := ha.ne.mpr ⟨j, hp⟩
      simp at this
    | some s =>
      rw [ea] at ha
      have ha' : SetIs s (Pt l (-1) i) := ha
      simp only
      unfold badAt
      rw [hx, Bool.true_and]
      have hn := (ha'.andNot hs).ne
      constructor
      · intro hh
        refine .inr fun j hp => ?_
        have hjl := hp.lt h hi
        cases hj : inB l cut j with
        | true => rfl
        | false =>
          have := hn.mpr ⟨j, hp, fun hc => by rw [hj] at hc; cases hc.2⟩
          rw [this] at hh; cases hh
      · rintro (hh | hh)
        · cases hh
        · cases hb : (bits .andNot .u64 s (inGo l 0 cut 0) != 0) with
          | false => rfl
          | true =>
            obtain ⟨j, hp, hj⟩ := hn.mp hb
            have hjl := hp.lt h hi
            exact absurd ⟨by omega, hh j hp⟩ hj
theorem mine_count (l : List S71) (h : RunIs l) (m : Nat) (hm : m < 6) : ocF (rd (mineF l) (m : Int)) = ((cb (mq l (m : Int)) l.length : Nat) : Int) := by
  have hll := h.len
  have e : rd (mineF l) (m : Int) = (mineF l).getD m 0 := by unfold rd; rw [Int.toNat_natCast]
  rw [e, ((mine_set l h).2 m hm).count (fun j => decide (j < l.length) && mq l (m : Int) j) (fun j => by
    unfold mq
    rw [Bool.and_eq_true, decide_eq_true_eq, decide_eq_true_eq])]
  congr 1
  rw [cb_more l.length 64 (by omega) (fun j hj => by rw [decide_eq_false (by omega), Bool.false_and])]
  exact cb_congr _ fun j hj => by rw [decide_eq_true hj, Bool.true_and]
theorem ev_many (l : List S71) (hl : l.length ≤ 1000) (m : Int) : ∀ (d i : Nat), i + d = l.length → Ev (fun k => afterwordref19_Many.l0 k l m ((cb (mq l m) i : Nat) : Int) (i : Int)) ((cb (mq l m) l.length : Nat) : Int)
  | 0, i, hd => by
    obtain rfl : i = l.length := by omega
    exact Ev.step (f := fun _ => some _) (fun k => by simp only [afterwordref19_Many.l0]; rw [if_neg (by omega)]) (Ev.now _)
  | d + 1, i, hd => by
    have ih := ev_many l hl m d (i + 1) (by omega)
    have hb := cb_le (mq l m) i
    refine Ev.step (fun k => ?_) ih
    simp only [afterwordref19_Many.l0]
    rw [if_pos (by omega), if_pos (by omega), show wrap64 ((i : Int) + 1) = ((i + 1 : Nat) : Int) by unfold wrap64; omega]
    by_cases c : (rd_T71 l (i : Int)).f0 = m
    · subst c
      rw [if_pos rfl, mq_own l i, show wrap64 (((cb (mq l (rd_T71 l (i : Int)).f0) i : Nat) : Int) + 1) = ((cb (mq l (rd_T71 l (i : Int)).f0) i + 1 : Nat) : Int) by unfold wrap64; omega]
    · rw [if_neg c, mq_other l i m c]
theorem ev_Many (l : List S71) (hl : l.length ≤ 1000) (m : Int) : Ev (fun k => afterwordref19_Many.f k l m) ((cb (mq l m) l.length : Nat) : Int) := by
  have := ev_many l hl m l.length 0 (by omega)
  exact this
theorem ev_cut (l : List S71) (h : RunIs l) (cut : List Int) (hcl : cut.length = 6) : ∀ (d j : Nat), j + d = 6 → Ev (fun k => afterwordref19_Cut.l0 k l cut (j : Int)) (allFrom (fun (j : Nat) => okC (mineF l) cut (j : Int)) d j)
  | 0, j, hd => Ev.step (f := fun _ => some true) (fun k => by simp only [afterwordref19_Cut.l0]; rw [if_neg (by omega)]) (Ev.now true)
  | d + 1, j, hd => by
    have hll := h.len
    have ih := ev_cut l h cut hcl d (j + 1) (by omega)
    simp only [allFrom]
    have hcn := mine_count l h j (by omega)
    by_cases c1 : rd cut (j : Int) < 0
    · have : okC (mineF l) cut (j : Int) = false := decide_eq_false (by omega)
      rw [this, Bool.false_and]
      exact Ev.step (f := fun _ => some false) (fun k => by simp only [afterwordref19_Cut.l0]; rw [if_pos (by omega), if_pos (by omega), if_pos c1]) (Ev.now false)
    · refine Ev.step (f := fun k => (afterwordref19_Many.f k l (j : Int)).bind fun t329 => (if (rd cut (j : Int)) > t329 then (some false) else (afterwordref19_Cut.l0 k l cut (wrap64 ((j : Int) + 1))))) (fun k => by simp only [afterwordref19_Cut.l0]; rw [if_pos (by omega), if_pos (by omega), if_neg c1]) ?_
      refine Ev.bind (ev_Many l (by omega) (j : Int)) ?_
      by_cases c2 : rd cut (j : Int) > ((cb (mq l (j : Int)) l.length : Nat) : Int)
      · have : okC (mineF l) cut (j : Int) = false := by unfold okC; rw [hcn]; exact decide_eq_false (by omega)
        rw [this, Bool.false_and]
        exact Ev.congr (f := fun _ => some false) (fun k => by rw [if_pos c2]) (Ev.now false)
      · have : okC (mineF l) cut (j : Int) = true := by unfold okC; rw [hcn]; exact decide_eq_true (by omega)
        rw [this, Bool.true_and]
        exact Ev.congr (fun k => by rw [if_neg c2, show wrap64 ((j : Int) + 1) = ((j + 1 : Nat) : Int) by unfold wrap64; omega]) ih
theorem all_range (p : Nat → Bool) (n : Nat) : (List.range n).all p = allFrom p n 0 := by
  rw [Bool.eq_iff_iff, List.all_eq_true, allFrom_iff]
  exact ⟨fun h m _ hm => h m (List.mem_range.mpr (by omega)), fun h m hm => h m (by omega) (by have := List.mem_range.mp hm; omega)⟩
theorem cut_bd (l : List S71) (h : RunIs l) (cut : List Int) (hc : cutOk (mineF l) cut = true) (m : Nat) (hm : m < 6) : 0 ≤ rd cut (m : Int) ∧ rd cut (m : Int) ≤ 1000 := by
  unfold cutOk at hc
  rw [List.all_eq_true] at hc
  have := hc m (List.mem_range.mpr hm)
  unfold okC at this
  rw [mine_count l h m hm, decide_eq_true_eq] at this
  have hll := h.len
  have := cb_le (mq l (m : Int)) l.length
  omega
theorem row_length (l : List S71) (h : RunIs l) (i : Int) : (cntRow (aheadsF (bsL l) l) (mineF l) i).length = 6 := by
  unfold cntRow
  rw [List.length_map]; exact (mine_set l h).1
def clR (l : List S71) (cut : List Int) : Bool × Int := if runB l = true then (if cut.length = 6 then (if cutOk (mineF l) cut = true then (allFrom (cnB l cut) l.length 0, 0) else (false, 2)) else (false, 2)) else (false, 2)
theorem closed_skew (l : List S71) (hl : l.length ≤ 9223372036854775807) (cut : List Int) : skew_Closed.f l cut = some (clR l cut) := by
  unfold skew_Closed.f clR
  rw [isRun_b l hl]
  simp only [Option.bind_some]
  by_cases c : runB l = true
  · rw [if_pos c, if_pos c]
    by_cases c1 : cut.length = 6
    · rw [if_pos c1, if_pos c1, bef_list l (runIs l c)]
      simp only [Option.bind_some]
      rw [if_pos (runOk_of l (runIs l c))]
      by_cases c2 : cutOk (mineF l) cut = true
      · rw [if_pos c2, if_pos c2]
        unfold allGood
        rw [all_range]
        have e : allFrom (fun (i : Nat) => goodAt (inGo l 0 cut 0) (aheadsF (bsL l) l) (i : Int)) l.length 0 = allFrom (cnB l cut) l.length 0 := by
          rw [Bool.eq_iff_iff, allFrom_iff, allFrom_iff]
          have := good_eq l (runIs l c) cut c1 (cut_bd l (runIs l c) cut c2)
          exact ⟨fun hh m h1 h2 => by rw [← this m (by omega)]; exact hh m h1 h2, fun hh m h1 h2 => by rw [this m (by omega)]; exact hh m h1 h2⟩
        rw [e]
      · rw [if_neg c2, if_neg c2]
    · rw [if_neg c1, if_neg c1]
  · rw [if_neg c, if_neg c]
end Go.Proofs.Ytbffhblebigcfaa.Sk
