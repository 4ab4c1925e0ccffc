/- The plain laws of runs: what is ahead of a deed, computed two ways. -/
import Derived.Test.YtbffhblebigcfaaCCaLRun
import Derived.Test.YtbffhblebigcfaaCCaGAhead
namespace Go.Proofs.Ytbffhblebigcfaa.Sk
open Go.RowKit Go.Proofs.YtbffhblebigcfaaW.PrintWords Go.Proofs.YtbffhblebigcfaaW.PrintLast Go.Proofs.YtbffhblebigcfaaW.PrintMore
set_option linter.unusedVariables false
set_option linter.unusedSimpArgs false
def Rr (l : List S71) (i k : Nat) : Prop := bef l i = (k : Int) ∨ (rd_T71 l (i : Int)).f2 = (k : Int)
def an (l : List S71) (x : Int) : Nat → Nat → Nat → Prop
  | 0, n, j => Rr l n j
  | f + 1, n, j => an l x f n j ∨ ∃ m : Nat, an l x f n m ∧ (m : Int) > x ∧ Rr l m j
def Pt (l : List S71) (x : Int) (n j : Nat) : Prop := ∃ f, an l x f n j
theorem Pt.edge {l : List S71} {x : Int} {n j : Nat} (h : Rr l n j) : Pt l x n j := ⟨0, h⟩
theorem Pt.snoc {l : List S71} {x : Int} {n m j : Nat} (h : Pt l x n m) (hm : (m : Int) > x) (hr : Rr l m j) : Pt l x n j := by
  obtain ⟨f, hf⟩ := h
  exact ⟨f + 1, .inr ⟨m, hf, hm, hr⟩⟩
theorem Pt.ind {l : List S71} {x : Int} {n : Nat} {p : Nat → Prop} (h0 : ∀ j, Rr l n j → p j) (h1 : ∀ m j, Pt l x n m → p m → (m : Int) > x → Rr l m j → p j) {j : Nat} (h : Pt l x n j) : p j := by
  obtain ⟨f, hf⟩ := h
  induction f generalizing j with
  | zero => exact h0 j hf
  | succ f ih =>
    rcases hf with hf | ⟨m, hm, hx, hr⟩
    · exact ih hf
    · exact h1 m j ⟨f, hm⟩ (ih hm) hx hr
theorem Rr.lt {l : List S71} (h : RunIs l) {i k : Nat} (hi : i < l.length) (hr : Rr l i k) : k < i := by
  rcases hr with hr | hr
  · have := befS_lt l (rd_T71 l (i : Int)).f0 i
    unfold bef at hr
    omega
  · have := (h.deed i hi).2.2.2
    omega
theorem Pt.lt {l : List S71} (h : RunIs l) {x : Int} {n j : Nat} (hn : n < l.length) (hp : Pt l x n j) : j < n :=
  Pt.ind (p := fun j => j < n) (fun j hr => hr.lt h hn) (fun m j _ hm _ hr => Nat.lt_trans (hr.lt h (Nat.lt_trans hm hn)) hm) hp
theorem Pt.mono {l : List S71} {x y : Int} {n j : Nat} (hxy : y ≤ x) (hp : Pt l x n j) : Pt l y n j :=
  Pt.ind (p := fun j => Pt l y n j) (fun j hr => .edge hr) (fun m j _ hm hx hr => hm.snoc (by omega) hr) hp
theorem Pt.step {l : List S71} (h : RunIs l) {n x : Nat} (hn : n < l.length) (hx : x < l.length) (j : Nat) : Pt l ((x : Int) - 1) n j ↔ Pt l x n j ∨ (Pt l x n x ∧ Rr l x j) := by
  constructor
  · intro hp
    refine Pt.ind (p := fun j => Pt l x n j ∨ (Pt l x n x ∧ Rr l x j)) (fun j hr => .inl (.edge hr)) (fun m j hpm ih hm hr => ?_) hp
    rcases ih with ih | ⟨h1, h2⟩
    · by_cases hmx : m = x
      · subst hmx; exact .inr ⟨ih, hr⟩
      · exact .inl (ih.snoc (by omega) hr)
    · have := h2.lt h hx
      omega
  · rintro (hp | ⟨h1, h2⟩)
    · exact hp.mono (by omega)
    · exact (h1.mono (by omega)).snoc (by omega) h2
theorem Pt.first {l : List S71} (h : RunIs l) {n : Nat} (hn : n < l.length) (j : Nat) : Pt l ((n : Int) - 1) n j ↔ Rr l n j := by
  refine ⟨fun hp => Pt.ind (p := fun j => Rr l n j) (fun j hr => hr) (fun m j hpm _ hm hr => ?_) hp, .edge⟩
  have := hpm.lt h hn
  omega
theorem Pt.head {l : List S71} (n j : Nat) : Pt l (-1) n j ↔ ∃ k, Rr l n k ∧ (k = j ∨ Pt l (-1) k j) := by
  constructor
  · intro hp
    refine Pt.ind (p := fun j => ∃ k, Rr l n k ∧ (k = j ∨ Pt l (-1) k j)) (fun j hr => ⟨j, hr, .inl rfl⟩) (fun m j _ ih _ hr => ?_) hp
    obtain ⟨k, hk, rfl | hk2⟩ := ih
    · exact ⟨k, hk, .inr (.edge hr)⟩
    · exact ⟨k, hk, .inr (hk2.snoc (by omega) hr)⟩
  · rintro ⟨k, hk, rfl | hk2⟩
    · exact .edge hk
    · exact Pt.ind (p := fun j => Pt l (-1) n j) (fun j hr => (Pt.edge hk).snoc (by omega) hr) (fun m j _ ih _ hr => ih.snoc (by omega) hr) hk2
theorem rdB_set (o : List Bool) (k j : Nat) (hk : k < o.length) : rdOf false (o.set k true) (j : Int) = true ↔ (j = k ∨ rdOf false o (j : Int) = true) := by
  simp only [rdOf, Int.toNat_natCast, List.getD_eq_getElem?_getD, List.getElem?_set]
  by_cases h : k = j
  · subst h; simp [hk]
  · rw [if_neg h]; constructor
    · intro h'; exact .inr h'
    · rintro (h' | h')
      · exact absurd h'.symm h
      · exact h'
def Marks (l : List S71) (x : Int) (n : Nat) (o : List Bool) : Prop := o.length = l.length ∧ ∀ j : Nat, rdOf false o (j : Int) = true ↔ (Pt l x n j)
theorem ev_ahead (l : List S71) (h : RunIs l) (n : Nat) (hn : n < l.length) : ∀ (x : Nat) (o : List Bool), x ≤ n → Marks l ((x : Int) - 1) n o → ∃ o', Ev (fun k => afterwordref19_AheadOf.l0 k l o ((x : Int) - 1)) o' ∧ Marks l (-1) n o'
  | 0, o, _, hm => ⟨o, Ev.step (f := fun _ => some o) (fun k => by simp only [afterwordref19_AheadOf.l0]; rw [if_neg (by omega)]) (Ev.now o), by simpa using hm⟩
  | x + 1, o, hx, hm => by
    rw [show ((x + 1 : Nat) : Int) - 1 = (x : Int) by omega] at hm ⊢
    obtain ⟨hlen, hmk⟩ := hm
    have hxl : x < l.length := by omega
    have hll := h.len
    have hd := h.deed x hxl
    have hb := befS_lt l (rd_T71 l (x : Int)).f0 x
    have hbe : befS l (rd_T71 l (x : Int)).f0 x = bef l x := rfl
    rw [hbe] at hb
    have hw : wrap64 ((x : Int) - 1) = (x : Int) - 1 := by unfold wrap64; omega
    by_cases c : rdOf false o (x : Int) = true
    ·
      have hPx := (hmk x).mp c
      have hx2 : (x : Int) < (o.length : Int) := by omega
      obtain ⟨o1, ho1, hl1, hm1⟩ : ∃ o1, (o1 = if bef l x ≥ 0 then o.set (bef l x).toNat true else o) ∧ o1.length = l.length ∧ ∀ j : Nat, rdOf false o1 (j : Int) = true ↔ (rdOf false o (j : Int) = true ∨ bef l x = (j : Int)) := by
        by_cases cb : bef l x ≥ 0
        · refine ⟨_, rfl, by rw [if_pos cb, List.length_set]; exact hlen, fun j => ?_⟩
          rw [if_pos cb, rdB_set o _ j (by omega)]
          constructor
          · rintro (h' | h')
            · exact .inr (by omega)
            · exact .inl h'
          · rintro (h' | h')
            · exact .inr h'
            · exact .inl (by omega)
        · refine ⟨_, rfl, by rw [if_neg cb]; exact hlen, fun j => ?_⟩
          rw [if_neg cb]
          exact ⟨.inl, fun h' => h'.elim id (fun h'' => by omega)⟩
      obtain ⟨o2, ho2, hl2, hm2⟩ : ∃ o2, (o2 = if (rd_T71 l (x : Int)).f2 ≥ 0 then o1.set ((rd_T71 l (x : Int)).f2).toNat true else o1) ∧ o2.length = l.length ∧ ∀ j : Nat, rdOf false o2 (j : Int) = true ↔ (rdOf false o1 (j : Int) = true ∨ (rd_T71 l (x : Int)).f2 = (j : Int)) := by
        by_cases cb : (rd_T71 l (x : Int)).f2 ≥ 0
        · refine ⟨_, rfl, by rw [if_pos cb, List.length_set]; exact hl1, fun j => ?_⟩
          rw [if_pos cb, rdB_set o1 _ j (by omega)]
          constructor
          · rintro (h' | h')
            · exact .inr (by omega)
            · exact .inl h'
          · rintro (h' | h')
            · exact .inr h'
            · exact .inl (by omega)
        · refine ⟨_, rfl, by rw [if_neg cb]; exact hl1, fun j => ?_⟩
          rw [if_neg cb]
          exact ⟨.inl, fun h' => h'.elim id (fun h'' => by omega)⟩
      have hM : Marks l ((x : Int) - 1) n o2 := ⟨hl2, fun j => by
        rw [hm2, hm1, hmk, Pt.step h hn hxl]
        constructor
        · rintro ((h' | h') | h')
          · exact .inl h'
          · exact .inr ⟨hPx, .inl h'⟩
          · exact .inr ⟨hPx, .inr h'⟩
        · rintro (h' | ⟨_, h' | h'⟩)
          · exact .inl (.inl h')
          · exact .inl (.inr h')
          · exact .inr h'⟩
      obtain ⟨o', ho', hMo⟩ := ev_ahead l h n hn x o2 (by omega) hM
      refine ⟨o', ?_, hMo⟩
      refine Ev.step (f := fun k => (afterwordref19_before.f k l (x : Int)).bind fun b => if b = bef l x then afterwordref19_AheadOf.l0 k l o2 ((x : Int) - 1) else (if b ≥ 0 then (if 0 ≤ b then (if b < (o.length : Int) then ((some (o.set (b : Int).toNat true : List Bool)).bind fun y342 => (if (x : Int) < (l.length : Int) then (if ((rd_T71 l (x : Int)).f2) ≥ 0 then (if 0 ≤ ((rd_T71 l (x : Int)).f2) then (if ((rd_T71 l (x : Int)).f2) < (o.length : Int) then (afterwordref19_AheadOf.l0 k l (y342.set (((rd_T71 l (x : Int)).f2) : Int).toNat true) (wrap64 ((x : Int) - 1))) else (none)) else (none)) else (afterwordref19_AheadOf.l0 k l y342 (wrap64 ((x : Int) - 1)))) else (none))) else (none)) else (none)) else (if (x : Int) < (l.length : Int) then (if ((rd_T71 l (x : Int)).f2) ≥ 0 then (if 0 ≤ ((rd_T71 l (x : Int)).f2) then (if ((rd_T71 l (x : Int)).f2) < (o.length : Int) then (afterwordref19_AheadOf.l0 k l (o.set (((rd_T71 l (x : Int)).f2) : Int).toNat true) (wrap64 ((x : Int) - 1))) else (none)) else (none)) else (afterwordref19_AheadOf.l0 k l o (wrap64 ((x : Int) - 1)))) else (none)))) (fun k => ?_) (Ev.bind (ev_Before l x hxl hll) (Ev.congr (fun k => by rw [if_pos rfl]) ho'))
      simp only [afterwordref19_AheadOf.l0]
      rw [if_pos (by omega), if_pos (by omega), if_pos hx2, if_pos c]
      congr 1
      funext b
      by_cases hbb : b = bef l x
      · subst hbb
        rw [if_pos rfl, ho2, ho1, hw]
        by_cases cb : bef l x ≥ 0
        · rw [if_pos cb, if_pos cb, if_pos cb, if_pos (by omega)]
          simp only [Option.bind_some]
          rw [if_pos (by omega)]
          by_cases cl : (rd_T71 l (x : Int)).f2 ≥ 0
          · rw [if_pos cl, if_pos cl, if_pos cl, if_pos (by omega)]
          · rw [if_neg cl, if_neg cl]
        · rw [if_neg cb, if_neg cb, if_pos (by omega)]
          by_cases cl : (rd_T71 l (x : Int)).f2 ≥ 0
          · rw [if_pos cl, if_pos cl, if_pos cl, if_pos (by omega)]
          · rw [if_neg cl, if_neg cl]
      · rw [if_neg hbb]
    · have hM : Marks l ((x : Int) - 1) n o := ⟨hlen, fun j => by
        rw [hmk, Pt.step h hn hxl]
        exact ⟨.inl, fun h' => h'.elim id (fun h'' => absurd ((hmk x).mpr h''.1) c)⟩⟩
      obtain ⟨o', ho', hMo⟩ := ev_ahead l h n hn x o (by omega) hM
      refine ⟨o', Ev.step (f := fun k => afterwordref19_AheadOf.l0 k l o ((x : Int) - 1)) (fun k => ?_) ho', hMo⟩
      simp only [afterwordref19_AheadOf.l0]
      rw [if_pos (by omega), if_pos (by omega), if_pos (by omega), if_neg c, hw]
theorem rdB_rep (m j : Nat) : rdOf false (List.replicate m false) (j : Int) = false := by
  simp only [rdOf, Int.toNat_natCast, List.getD_eq_getElem?_getD, List.getElem?_replicate]
  split <;> rfl
theorem ev_AheadOf (l : List S71) (h : RunIs l) (n : Nat) (hn : n < l.length) : ∃ o, Ev (fun k => afterwordref19_AheadOf.f k l (n : Int)) o ∧ Marks l (-1) n o := by
  have hll := h.len
  have hd := h.deed n hn
  have hb := befS_lt l (rd_T71 l (n : Int)).f0 n
  have hbe : befS l (rd_T71 l (n : Int)).f0 n = bef l n := rfl
  rw [hbe] at hb
  obtain ⟨o, ho⟩ : ∃ o, List.replicate l.length false = o := ⟨_, rfl⟩
  have hol : o.length = l.length := by rw [← ho]; simp
  have hz : ∀ j : Nat, rdOf false o (j : Int) = false := fun j => by rw [← ho]; exact rdB_rep _ _
  obtain ⟨o1, ho1, hl1, hm1⟩ : ∃ o1, (o1 = if bef l n ≥ 0 then o.set (bef l n).toNat true else o) ∧ o1.length = l.length ∧ ∀ j : Nat, rdOf false o1 (j : Int) = true ↔ bef l n = (j : Int) := by
    by_cases cb : bef l n ≥ 0
    · refine ⟨_, rfl, by rw [if_pos cb, List.length_set]; exact hol, fun j => ?_⟩
      rw [if_pos cb, rdB_set o _ j (by omega), hz j]
      constructor
      · rintro (h' | h')
        · omega
        · cases h'
      · intro h'; exact .inl (by omega)
    · refine ⟨_, rfl, by rw [if_neg cb]; exact hol, fun j => ?_⟩
      rw [if_neg cb, hz j]
      exact ⟨fun h' => by (cases h'), fun h' => by omega⟩
  obtain ⟨o2, ho2, hl2, hm2⟩ : ∃ o2, (o2 = if (rd_T71 l (n : Int)).f2 ≥ 0 then o1.set ((rd_T71 l (n : Int)).f2).toNat true else o1) ∧ o2.length = l.length ∧ ∀ j : Nat, rdOf false o2 (j : Int) = true ↔ (rdOf false o1 (j : Int) = true ∨ (rd_T71 l (n : Int)).f2 = (j : Int)) := by
    by_cases cb : (rd_T71 l (n : Int)).f2 ≥ 0
    · refine ⟨_, rfl, by rw [if_pos cb, List.length_set]; exact hl1, fun j => ?_⟩
      rw [if_pos cb, rdB_set o1 _ j (by omega)]
      constructor
      · rintro (h' | h')
        · exact .inr (by omega)
        · exact .inl h'
      · rintro (h' | h')
        · exact .inr h'
        · exact .inl (by omega)
    · refine ⟨_, rfl, by rw [if_neg cb]; exact hl1, fun j => ?_⟩
      rw [if_neg cb]
      exact ⟨.inl, fun h' => h'.elim id (fun h'' => by omega)⟩
  have hM : Marks l ((n : Int) - 1) n o2 := ⟨hl2, fun j => by rw [hm2, hm1, Pt.first h hn]; rfl⟩
  obtain ⟨o', ho', hMo⟩ := ev_ahead l h n hn n o2 (Nat.le_refl _) hM
  have hw : wrap64 ((n : Int) - 1) = (n : Int) - 1 := by unfold wrap64; omega
  have hj1 : Ev (fun k => afterwordref19_AheadOf.j1 k l (n : Int) o2) o' := Ev.step (fun k => by simp only [afterwordref19_AheadOf.j1]; rw [hw]) ho'
  have hj0 : Ev (fun k => afterwordref19_AheadOf.j0 k l (n : Int) o1) o' := by
    refine Ev.step (f := fun k => afterwordref19_AheadOf.j1 k l (n : Int) o2) (fun k => ?_) hj1
    simp only [afterwordref19_AheadOf.j0]
    rw [if_pos (by omega), if_pos (by omega), ho2]
    by_cases cl : (rd_T71 l (n : Int)).f2 ≥ 0
    · rw [if_pos cl, if_pos cl, if_pos cl, if_pos (by omega)]
    · rw [if_neg cl, if_neg cl]
  refine ⟨o', ?_, hMo⟩
  have hlt : ((l.length : Int)).toNat = l.length := by omega
  refine Ev.congr (f := fun k => (afterwordref19_before.f k l (n : Int)).bind fun t => if t ≥ 0 then (if 0 ≤ t then (if t < (o.length : Int) then afterwordref19_AheadOf.j0 k l (n : Int) (o.set t.toNat true) else none) else none) else afterwordref19_AheadOf.j0 k l (n : Int) o) (fun k => by
    unfold afterwordref19_AheadOf.f
    rw [hlt, if_pos (by omega), if_pos (by omega)]
    simp only [Option.bind_some]
    rw [ho]) ?_
  refine Ev.bind (ev_Before l n hn hll) ?_
  refine Ev.congr (fun k => ?_) hj0
  rw [ho1]
  by_cases cb : bef l n ≥ 0
  · rw [if_pos cb, if_pos cb, if_pos cb, if_pos (by omega)]
  · rw [if_neg cb, if_neg cb]
end Go.Proofs.Ytbffhblebigcfaa.Sk
