/- The plain laws of runs: the counts of all deeds, and whether a deed is ahead of another, computed two ways. -/
import Derived.Test.YtbffhblebigcfaaCCaLSets
import Derived.Test.YtbffhblebigcfaaCCaS0
namespace Go.Proofs.Ytbffhblebigcfaa.Sk
open Go.RowKit Go.Proofs.YtbffhblebigcfaaW.PrintWords Go.Proofs.YtbffhblebigcfaaW.PrintLast Go.Proofs.YtbffhblebigcfaaW.PrintMore
set_option linter.unusedVariables false
set_option linter.unusedSimpArgs false
theorem bsL_length (l : List S71) : (bsL l).length = l.length := by simp [bsL]
theorem runOk_of (l : List S71) (h : RunIs l) : runOk l (bsL l) := by
  have hll := h.len
  refine ⟨hll, bsL_length l, fun b hb => ?_, fun d hd => ?_, fun d hd => ?_⟩
  · unfold bsL at hb
    obtain ⟨i, hi, rfl⟩ := List.mem_map.mp hb
    rw [List.mem_range] at hi
    have := befS_lt l (rd_T71 l (i : Int)).f0 i
    unfold bef
    omega
  · obtain ⟨i, hi, rfl⟩ := at71 l d hd
    have := h.deed i hi
    omega
  · obtain ⟨i, hi, rfl⟩ := at71 l d hd
    have := h.deed i hi
    omega
def coR (l : List S71) : List (List Int) × Int := if runB l = true then (cntRows (aheadsF (bsL l) l) (mineF l) l.length, 0) else ([], 2)
theorem counts_skew (l : List S71) (hl : l.length ≤ 9223372036854775807) : skew_Counts.f l = some (coR l) := by
  unfold skew_Counts.f coR
  rw [isRun_b l hl]
  simp only [Option.bind_some]
  by_cases c : runB l = true
  · rw [if_pos c, if_pos c, bef_list l (runIs l c)]
    simp only [Option.bind_some]
    rw [if_pos (runOk_of l (runIs l c))]
  · rw [if_neg c, if_neg c]
theorem cntRows_length (ah : Int → Option Int) (ms : List Int) (n : Nat) : (cntRows ah ms n).length = n := by simp [cntRows]
def ahR (l : List S71) (a b : Int) : Bool × Int := if runB l = true then (if a ≥ 0 ∧ a ≤ (l.length : Int) - 1 then (if b ≥ 0 ∧ b ≤ (l.length : Int) - 1 then ((bits .and .u64 (shr .u64 ((aheadsF (bsL l) l b).getD 0) a) 1) == 1, 0) else (false, 2)) else (false, 2)) else (false, 2)
theorem ahead_skew (l : List S71) (hl : l.length ≤ 9223372036854775807) (a b : Int) : skew_Ahead.f l a b = some (ahR l a b) := by
  unfold skew_Ahead.f ahR
  rw [isRun_b l hl]
  simp only [Option.bind_some]
  by_cases c : runB l = true
  · have hll := (runIs l c).len
    have hw : wrap64 ((l.length : Int) - 1) = (l.length : Int) - 1 := by unfold wrap64; omega
    rw [if_pos c, if_pos c, hw]
    by_cases c1 : a ≥ 0 ∧ a ≤ (l.length : Int) - 1
    · rw [if_pos c1, if_pos c1]
      by_cases c2 : b ≥ 0 ∧ b ≤ (l.length : Int) - 1
      · rw [if_pos c2, if_pos c2, bef_list l (runIs l c)]
        simp only [Option.bind_some]
        rw [if_pos (runOk_of l (runIs l c))]
      · rw [if_neg c2, if_neg c2]
    · rw [if_neg c1, if_neg c1]
  · rw [if_neg c, if_neg c]
end Go.Proofs.Ytbffhblebigcfaa.Sk
