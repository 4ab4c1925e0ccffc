/- The plain laws of runs: the counts of all deeds, and whether a deed is ahead of another, computed two ways. -/
import Derived.Test.YtbffhblebigcfaaCStLSets
import Derived.Test.YtbffhblebigcfaaCStS1
namespace Go.Proofs.Ytbffhblebigcfaa.Sk
open Go.RowKit Go.Proofs.YtbffhblebigcfaaW.PrintWords Go.Proofs.YtbffhblebigcfaaW.PrintLast Go.Proofs.YtbffhblebigcfaaW.PrintMore
set_option linter.unusedVariables false
set_option linter.unusedSimpArgs false
theorem bsL_length (l : List S71) : (bsL l).length = l.length := by simp [bsL]
theorem runOk_of (l : List S71) (h : RunIs l) : runOk l (bsL l) := by
  have hll := h.len
  refine ⟨hll, bsL_length l, fun b hb => ?_, fun d hd => ?_, fun d hd => ?_⟩
  · unfold bsL at hb
    obtain ⟨i, hi, rfl⟩ := List.mem_map.mp hb
    rw [List.mem_range] at hi
    have := befS_lt l (rd_T71 l (i : Int)).f0 i
    unfold bef
    omega
  · obtain ⟨i, hi, rfl⟩ := at71 l d hd
    have := h.deed i hi
    omega
  · obtain ⟨i, hi, rfl⟩ := at71 l d hd
    have := h.deed i hi
    omega
def coR (l : List S71) : List (List Int) × Int := if runB l = true then (cntRows (aheadsF (bsL l) l) (mineF l) l.length, 0) else ([], 2)
theorem counts_skew (l : List S71) (hl : l.length ≤ 9223372036854775807) : skew_Counts.f l = some (coR l) := by
  unfold skew_Counts.f coR
  rw [isRun_b l hl]
  simp only [Option.bind_some]
  by_cases c : runB l = true
  · rw [if_pos c, if_pos c, bef_list l (runIs l c)]
    simp only [Option.bind_some]
    rw [if_pos (runOk_of l (runIs l c))]
  · rw [if_neg c, if_neg c]
theorem cntRows_length (ah : Int → Option Int) (ms : List Int) (n : Nat) : (cntRows ah ms n).length = n := by simp [cntRows]
theorem ev_counts (l : List S71) (h : RunIs l) : ∀ (d n : Nat), n + d = l.length → Ev (fun k => afterwordref19_Counts.l0 k l (cntRows (aheadsF (bsL l) l) (mineF l) n) (n : Int)) (cntRows (aheadsF (bsL l) l) (mineF l) l.length, 0)
  | 0, n, hd => by
    obtain rfl : n = l.length := by omega
    exact Ev.step (f := fun _ => some _) (fun k => by simp only [afterwordref19_Counts.l0]; rw [if_neg (by omega)]) (Ev.now _)
  | d + 1, n, hd => by
    have hn : n < l.length := by omega
    have hll := h.len
    have ih := ev_counts l h d (n + 1) (by omega)
    have e : cntRows (aheadsF (bsL l) l) (mineF l) (n + 1) = cntRows (aheadsF (bsL l) l) (mineF l) n ++ [cntRow (aheadsF (bsL l) l) (mineF l) (n : Int)] := by
      unfold cntRows
      rw [List.range_succ, List.map_append, List.map_cons, List.map_nil]
    rw [e] at ih
    have hl := cntRows_length (aheadsF (bsL l) l) (mineF l) n
    have hw : wrap64 ((n : Int) + 1) = ((n + 1 : Nat) : Int) := by unfold wrap64; omega
    refine Ev.step (f := fun k => (afterwordref19_CountsOf.f k l (n : Int)).bind fun t => (if (cntRows (aheadsF (bsL l) l) (mineF l) n).length < 5864062014805 then (afterwordref19_Counts.l0 k l (cntRows (aheadsF (bsL l) l) (mineF l) n ++ [t]) (wrap64 ((n : Int) + 1))) else (none))) (fun k => ?_) (Ev.bind (ev_CountsOf l h n hn) (Ev.congr (fun k => ?_) ih))
    · simp only [afterwordref19_Counts.l0]
      rw [if_pos (by omega)]
    · rw [if_pos (by omega), hw]
theorem ev_Counts (l : List S71) : Ev (fun k => afterwordref19_Counts.f k l) (coR l) := by
  unfold afterwordref19_Counts.f
  refine Ev.bind (ev_Run l) ?_
  unfold coR
  by_cases c : runB l = true
  · rw [if_pos c]
    exact Ev.congr (f := fun k => afterwordref19_Counts.l0 k l [] 0) (fun k => by rw [if_pos c]) (ev_counts l (runIs l c) l.length 0 (by omega))
  · rw [if_neg c]
    exact Ev.congr (f := fun _ => some ([], 2)) (fun k => by rw [if_neg c]) (Ev.now _)
def ahR (l : List S71) (a b : Int) : Bool × Int := if runB l = true then (if a ≥ 0 ∧ a ≤ (l.length : Int) - 1 then (if b ≥ 0 ∧ b ≤ (l.length : Int) - 1 then ((bits .and .u64 (shr .u64 ((aheadsF (bsL l) l b).getD 0) a) 1) == 1, 0) else (false, 2)) else (false, 2)) else (false, 2)
theorem ahead_skew (l : List S71) (hl : l.length ≤ 9223372036854775807) (a b : Int) : skew_Ahead.f l a b = some (ahR l a b) := by
  unfold skew_Ahead.f ahR
  rw [isRun_b l hl]
  simp only [Option.bind_some]
  by_cases c : runB l = true
  · have hll := (runIs l c).len
    have hw : wrap64 ((l.length : Int) - 1) = (l.length : Int) - 1 := by unfold wrap64; omega
    rw [if_pos c, if_pos c, hw]
    by_cases c1 : a ≥ 0 ∧ a ≤ (l.length : Int) - 1
    · rw [if_pos c1, if_pos c1]
      by_cases c2 : b ≥ 0 ∧ b ≤ (l.length : Int) - 1
      · rw [if_pos c2, if_pos c2, bef_list l (runIs l c)]
        simp only [Option.bind_some]
        rw [if_pos (runOk_of l (runIs l c))]
      · rw [if_neg c2, if_neg c2]
    · rw [if_neg c1, if_neg c1]
  · rw [if_neg c, if_neg c]
theorem ev_AheadR (l : List S71) (a b : Int) : Ev (fun k => afterwordref19_Ahead.f k l a b) (ahR l a b) := by
  unfold afterwordref19_Ahead.f
  refine Ev.bind (ev_Run l) ?_
  unfold ahR
  by_cases c : runB l = true
  · rw [if_pos c]
    have hll := (runIs l c).len
    by_cases c1 : a < 0
    · rw [if_neg (by omega)]
      exact Ev.congr (f := fun _ => some (false, 2)) (fun k => by rw [if_pos c, if_pos c1]) (Ev.now _)
    by_cases c2 : a ≥ (l.length : Int)
    · rw [if_neg (by omega)]
      exact Ev.congr (f := fun _ => some (false, 2)) (fun k => by rw [if_pos c, if_neg c1, if_pos c2]) (Ev.now _)
    rw [if_pos (by omega)]
    by_cases c3 : b < 0
    · rw [if_neg (by omega)]
      exact Ev.congr (f := fun _ => some (false, 2)) (fun k => by rw [if_pos c, if_neg c1, if_neg c2, if_pos c3]) (Ev.now _)
    by_cases c4 : b ≥ (l.length : Int)
    · rw [if_neg (by omega)]
      exact Ev.congr (f := fun _ => some (false, 2)) (fun k => by rw [if_pos c, if_neg c1, if_neg c2, if_neg c3, if_pos c4]) (Ev.now _)
    rw [if_pos (by omega)]
    obtain ⟨n, rfl⟩ : ∃ n : Nat, b = (n : Int) := ⟨b.toNat, by omega⟩
    obtain ⟨j, rfl⟩ : ∃ j : Nat, a = (j : Int) := ⟨a.toNat, by omega⟩
    obtain ⟨o, ho, hM⟩ := ev_AheadOf l (runIs l c) n (by omega)
    refine Ev.congr (f := fun k => (afterwordref19_AheadOf.f k l (n : Int)).bind fun t => (if 0 ≤ (j : Int) then (if (j : Int) < (t.length : Int) then (some (rdOf false t (j : Int), 0)) else (none)) else (none))) (fun k => by rw [if_pos c, if_neg c1, if_neg c2, if_neg c3, if_neg c4]) ?_
    refine Ev.bind ho ?_
    have hs := (aheads_set l (runIs l c) n (by omega)).has j (by omega)
    have e : ((bits .and .u64 (shr .u64 ((aheadsF (bsL l) l (n : Int)).getD 0) (j : Int)) 1) == 1) = rdOf false o (j : Int) := by
      rw [Bool.eq_iff_iff, hs, hM.2]
    rw [e]
    have hol := hM.1
    exact Ev.congr (f := fun _ => some (rdOf false o (j : Int), 0)) (fun k => by rw [if_pos (by omega), if_pos (by omega)]) (Ev.now _)
  · rw [if_neg c]
    exact Ev.congr (f := fun _ => some (false, 2)) (fun k => by rw [if_neg c]) (Ev.now _)
theorem ev_same0 (x : List Int) (hx : x.length ≤ 1000) : ∀ (d i : Nat), i + d = x.length → Ev (fun k => afterwordref19_Same.l0 k x x (i : Int)) true
  | 0, i, hd => Ev.step (f := fun _ => some true) (fun k => by simp only [afterwordref19_Same.l0]; rw [if_neg (by omega)]) (Ev.now true)
  | d + 1, i, hd => by
    have ih := ev_same0 x hx d (i + 1) (by omega)
    refine Ev.step (fun k => ?_) ih
    simp only [afterwordref19_Same.l0]
    rw [if_pos (by omega), if_pos (by omega), if_pos (by omega), if_pos trivial, show wrap64 ((i : Int) + 1) = ((i + 1 : Nat) : Int) by unfold wrap64; omega]
theorem ev_Same (x : List Int) (hx : x.length ≤ 1000) : Ev (fun k => afterwordref19_Same.f k x x) true := by
  unfold afterwordref19_Same.f
  exact Ev.congr (f := fun k => afterwordref19_Same.l0 k x x 0) (fun k => by rw [if_pos rfl]) (ev_same0 x hx x.length 0 (by omega))
theorem ev_sameS0 (x : List S47) (hx : x.length ≤ 1000) : ∀ (d i : Nat), i + d = x.length → Ev (fun k => afterwordref19_SameStamps.l0 k x x (i : Int)) true
  | 0, i, hd => Ev.step (f := fun _ => some true) (fun k => by simp only [afterwordref19_SameStamps.l0]; rw [if_neg (by omega)]) (Ev.now true)
  | d + 1, i, hd => by
    have ih := ev_sameS0 x hx d (i + 1) (by omega)
    refine Ev.step (fun k => ?_) ih
    simp only [afterwordref19_SameStamps.l0]
    rw [if_pos (by omega), if_pos (by omega), if_pos (by omega), if_neg (by simp), show wrap64 ((i : Int) + 1) = ((i + 1 : Nat) : Int) by unfold wrap64; omega]
theorem ev_SameStamps (x : List S47) (hx : x.length ≤ 1000) : Ev (fun k => afterwordref19_SameStamps.f k x x) true := by
  unfold afterwordref19_SameStamps.f
  exact Ev.congr (f := fun k => afterwordref19_SameStamps.l0 k x x 0) (fun k => by rw [if_pos rfl]) (ev_sameS0 x hx x.length 0 (by omega))
theorem ev_sameC0 (x : List (List Int)) (hx : x.length ≤ 1000) (hr : ∀ i : Nat, i < x.length → (rd_L8 x (i : Int)).length ≤ 1000) : ∀ (d i : Nat), i + d = x.length → Ev (fun k => afterwordref19_SameCounts.l0 k x x (i : Int)) true
  | 0, i, hd => Ev.step (f := fun _ => some true) (fun k => by simp only [afterwordref19_SameCounts.l0]; rw [if_neg (by omega)]) (Ev.now true)
  | d + 1, i, hd => by
    have ih := ev_sameC0 x hx hr d (i + 1) (by omega)
    refine Ev.step (f := fun k => (afterwordref19_Same.f k (rd_L8 x (i : Int)) (rd_L8 x (i : Int))).bind fun t => (if t = true then (afterwordref19_SameCounts.l0 k x x (wrap64 ((i : Int) + 1))) else (some false))) (fun k => ?_) (Ev.bind (ev_Same _ (hr i (by omega))) (Ev.congr (fun k => ?_) ih))
    · simp only [afterwordref19_SameCounts.l0]
      rw [if_pos (by omega), if_pos (by omega), if_pos (by omega)]
    · rw [if_pos rfl, show wrap64 ((i : Int) + 1) = ((i + 1 : Nat) : Int) by unfold wrap64; omega]
theorem ev_SameCounts (x : List (List Int)) (hx : x.length ≤ 1000) (hr : ∀ i : Nat, i < x.length → (rd_L8 x (i : Int)).length ≤ 1000) : Ev (fun k => afterwordref19_SameCounts.f k x x) true := by
  unfold afterwordref19_SameCounts.f
  exact Ev.congr (f := fun k => afterwordref19_SameCounts.l0 k x x 0) (fun k => by rw [if_pos rfl]) (ev_sameC0 x hx hr x.length 0 (by omega))
theorem coR_len (l : List S71) : (coR l).1.length ≤ 1000 ∧ ∀ i : Nat, i < (coR l).1.length → (rd_L8 (coR l).1 (i : Int)).length ≤ 1000 := by
  unfold coR
  by_cases c : runB l = true
  · rw [if_pos c]
    have hll := (runIs l c).len
    have hm := (mine_set l (runIs l c)).1
    refine ⟨by simp only; rw [cntRows_length]; omega, fun i hi => ?_⟩
    simp only at hi ⊢
    rw [cntRows_length] at hi
    have : rd_L8 (cntRows (aheadsF (bsL l) l) (mineF l) l.length) (i : Int) = cntRow (aheadsF (bsL l) l) (mineF l) (i : Int) := by
      simp [rd_L8, cntRows, List.getD_eq_getElem?_getD, hi]
    rw [this]
    unfold cntRow
    rw [List.length_map]; omega
  · rw [if_neg c]; exact ⟨by simp, fun i hi => by simp at hi⟩
end Go.Proofs.Ytbffhblebigcfaa.Sk
