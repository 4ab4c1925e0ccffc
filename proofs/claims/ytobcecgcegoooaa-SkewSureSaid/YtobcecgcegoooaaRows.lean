/-
  No cell of these rows narrows 'for every input' (looked for: loops, veiled, ifaces, maps, wideKeys, modest, calm, conditions, laid).
  DERIVED. THE GIVEN ROWS OF THIS SEAT. 11 by the template 'for every input the law returns true; each argument reads behind the call as it read before'; 0 by the template 'total and deterministic' (their statements: YtobcecgcegoooaaTotals.lean).
  GIVEN WITH THE SEED: the statements are not yours to turn. If you find one false, say at which input.
  Laid BY PROGRAM, IN A SANDBOX (cutbox-rows.mjs): the forced cells as the released guide's own fill.sh prints them over the translation 3d471e212e862b48… (all of the seat's roots in one cut). By AI agents, Wed Nov 11 2026. No macro, syntax, notation, axiom, sorry.
-/
import Derived.Test.YtobcecgcegoooaaChecked
import GoSem.Claim
import GoSem.ClaimJoined
import GoSem.ClaimMapViews
import Derived.JoinedTies
import Derived.KernelRfl
namespace Go.Proofs.Ytobcecgcegoooaa
/- THE CELL 'sum', in the pinned program and in every row, IS THE sha256 OF THE DUMP (.gsa) THAT YtobcecgcegoooaaProg.lean LOADS. Nothing in Lean hashes anything: it is a label: what it is worth is what the hold of that sum in a sandbox is worth. -/
noncomputable def Try.pinned : Pinned := { name := "ytobcecgcegoooaa", sum := "3d471e212e862b489857b5616e570f412b34f47f52ec239d0f5b3862854c5a8b", checked := Try.checked }
namespace Rows
def none {H : Type} : Left H := { results := [], args := [] }

/-- 'afterwordlaw19.SkewClocks': WHATEVER THE INPUT: true; the input reads as it did. -/
def skewClocksSpec : ChangeSpec := { name := "skewClocks", fn := fun _ => fun
  | [d] => { results := [.lit (.bool true)], args := [d] }
  | _ => none }
def skewClocksRow : OpenClaim := { program := "ytobcecgcegoooaa", sum := "3d471e212e862b489857b5616e570f412b34f47f52ec239d0f5b3862854c5a8b", func := "afterword/afterwordlaw19.SkewClocks", spec := "skewClocks", unfollowed := true, recurses := true, apart := false }
def SkewClocksSaid : Prop := skewClocksRow.holds Try.pinned (OpenSpec.ofChange skewClocksSpec)

/-- ITS FALSE NEIGHBOUR: 'it returns false'. Refute it at one input. -/
def skewClocksWrong : ChangeSpec := { name := "skewClocks", fn := fun _ => fun
  | [d] => { results := [.lit (.bool false)], args := [d] }
  | _ => none }
def SkewClocksWrongFalsely : Prop := skewClocksRow.holds Try.pinned (OpenSpec.ofChange skewClocksWrong)

/-- 'afterwordlaw19.SkewReasons': WHATEVER THE INPUT: true; the input reads as it did. -/
def skewReasonsSpec : ChangeSpec := { name := "skewReasons", fn := fun _ => fun
  | [d] => { results := [.lit (.bool true)], args := [d] }
  | _ => none }
def skewReasonsRow : OpenClaim := { program := "ytobcecgcegoooaa", sum := "3d471e212e862b489857b5616e570f412b34f47f52ec239d0f5b3862854c5a8b", func := "afterword/afterwordlaw19.SkewReasons", spec := "skewReasons", unfollowed := true, recurses := true, apart := false }
def SkewReasonsSaid : Prop := skewReasonsRow.holds Try.pinned (OpenSpec.ofChange skewReasonsSpec)

/-- ITS FALSE NEIGHBOUR: 'it returns false'. Refute it at one input. -/
def skewReasonsWrong : ChangeSpec := { name := "skewReasons", fn := fun _ => fun
  | [d] => { results := [.lit (.bool false)], args := [d] }
  | _ => none }
def SkewReasonsWrongFalsely : Prop := skewReasonsRow.holds Try.pinned (OpenSpec.ofChange skewReasonsWrong)

/-- 'afterwordlaw19.SkewCuts': WHATEVER THE INPUT: true; the input reads as it did. -/
def skewCutsSpec : ChangeSpec := { name := "skewCuts", fn := fun _ => fun
  | [d1, d2, d3] => { results := [.lit (.bool true)], args := [d1, d2, d3] }
  | _ => none }
def skewCutsRow : OpenClaim := { program := "ytobcecgcegoooaa", sum := "3d471e212e862b489857b5616e570f412b34f47f52ec239d0f5b3862854c5a8b", func := "afterword/afterwordlaw19.SkewCuts", spec := "skewCuts", unfollowed := true, recurses := true, apart := false }
def SkewCutsSaid : Prop := skewCutsRow.holds Try.pinned (OpenSpec.ofChange skewCutsSpec)

/-- ITS FALSE NEIGHBOUR: 'it returns false'. Refute it at one input. -/
def skewCutsWrong : ChangeSpec := { name := "skewCuts", fn := fun _ => fun
  | [d1, d2, d3] => { results := [.lit (.bool false)], args := [d1, d2, d3] }
  | _ => none }
def SkewCutsWrongFalsely : Prop := skewCutsRow.holds Try.pinned (OpenSpec.ofChange skewCutsWrong)

/-- 'afterwordlaw19.SkewWaits': WHATEVER THE INPUT: true; the input reads as it did. -/
def skewWaitsSpec : ChangeSpec := { name := "skewWaits", fn := fun _ => fun
  | [d1, d2, d3, d4] => { results := [.lit (.bool true)], args := [d1, d2, d3, d4] }
  | _ => none }
def skewWaitsRow : OpenClaim := { program := "ytobcecgcegoooaa", sum := "3d471e212e862b489857b5616e570f412b34f47f52ec239d0f5b3862854c5a8b", func := "afterword/afterwordlaw19.SkewWaits", spec := "skewWaits", unfollowed := true, recurses := true, apart := false }
def SkewWaitsSaid : Prop := skewWaitsRow.holds Try.pinned (OpenSpec.ofChange skewWaitsSpec)

/-- ITS FALSE NEIGHBOUR: 'it returns false'. Refute it at one input. -/
def skewWaitsWrong : ChangeSpec := { name := "skewWaits", fn := fun _ => fun
  | [d1, d2, d3, d4] => { results := [.lit (.bool false)], args := [d1, d2, d3, d4] }
  | _ => none }
def SkewWaitsWrongFalsely : Prop := skewWaitsRow.holds Try.pinned (OpenSpec.ofChange skewWaitsWrong)

/-- 'afterwordlaw19.SkewStamps': WHATEVER THE INPUT: true; the input reads as it did. -/
def skewStampsSpec : ChangeSpec := { name := "skewStamps", fn := fun _ => fun
  | [d1, d2, d3] => { results := [.lit (.bool true)], args := [d1, d2, d3] }
  | _ => none }
def skewStampsRow : OpenClaim := { program := "ytobcecgcegoooaa", sum := "3d471e212e862b489857b5616e570f412b34f47f52ec239d0f5b3862854c5a8b", func := "afterword/afterwordlaw19.SkewStamps", spec := "skewStamps", unfollowed := true, recurses := true, apart := false }
def SkewStampsSaid : Prop := skewStampsRow.holds Try.pinned (OpenSpec.ofChange skewStampsSpec)

/-- ITS FALSE NEIGHBOUR: 'it returns false'. Refute it at one input. -/
def skewStampsWrong : ChangeSpec := { name := "skewStamps", fn := fun _ => fun
  | [d1, d2, d3] => { results := [.lit (.bool false)], args := [d1, d2, d3] }
  | _ => none }
def SkewStampsWrongFalsely : Prop := skewStampsRow.holds Try.pinned (OpenSpec.ofChange skewStampsWrong)

/-- 'afterwordlaw19.SkewCauses': WHATEVER THE INPUT: true; the input reads as it did. -/
def skewCausesSpec : ChangeSpec := { name := "skewCauses", fn := fun _ => fun
  | [d1, d2, d3, d4] => { results := [.lit (.bool true)], args := [d1, d2, d3, d4] }
  | _ => none }
def skewCausesRow : OpenClaim := { program := "ytobcecgcegoooaa", sum := "3d471e212e862b489857b5616e570f412b34f47f52ec239d0f5b3862854c5a8b", func := "afterword/afterwordlaw19.SkewCauses", spec := "skewCauses", unfollowed := true, recurses := true, apart := false }
def SkewCausesSaid : Prop := skewCausesRow.holds Try.pinned (OpenSpec.ofChange skewCausesSpec)

/-- ITS FALSE NEIGHBOUR: 'it returns false'. Refute it at one input. -/
def skewCausesWrong : ChangeSpec := { name := "skewCauses", fn := fun _ => fun
  | [d1, d2, d3, d4] => { results := [.lit (.bool false)], args := [d1, d2, d3, d4] }
  | _ => none }
def SkewCausesWrongFalsely : Prop := skewCausesRow.holds Try.pinned (OpenSpec.ofChange skewCausesWrong)

/-- 'afterwordlaw19.SkewVoted': WHATEVER THE INPUT: true; the input reads as it did. -/
def skewVotedSpec : ChangeSpec := { name := "skewVoted", fn := fun _ => fun
  | [d1, d2, d3] => { results := [.lit (.bool true)], args := [d1, d2, d3] }
  | _ => none }
def skewVotedRow : OpenClaim := { program := "ytobcecgcegoooaa", sum := "3d471e212e862b489857b5616e570f412b34f47f52ec239d0f5b3862854c5a8b", func := "afterword/afterwordlaw19.SkewVoted", spec := "skewVoted", unfollowed := true, recurses := true, apart := false }
def SkewVotedSaid : Prop := skewVotedRow.holds Try.pinned (OpenSpec.ofChange skewVotedSpec)

/-- ITS FALSE NEIGHBOUR: 'it returns false'. Refute it at one input. -/
def skewVotedWrong : ChangeSpec := { name := "skewVoted", fn := fun _ => fun
  | [d1, d2, d3] => { results := [.lit (.bool false)], args := [d1, d2, d3] }
  | _ => none }
def SkewVotedWrongFalsely : Prop := skewVotedRow.holds Try.pinned (OpenSpec.ofChange skewVotedWrong)

/-- 'afterwordlaw19.SkewTights': WHATEVER THE INPUT: true; the input reads as it did. -/
def skewTightsSpec : ChangeSpec := { name := "skewTights", fn := fun _ => fun
  | [d1, d2] => { results := [.lit (.bool true)], args := [d1, d2] }
  | _ => none }
def skewTightsRow : OpenClaim := { program := "ytobcecgcegoooaa", sum := "3d471e212e862b489857b5616e570f412b34f47f52ec239d0f5b3862854c5a8b", func := "afterword/afterwordlaw19.SkewTights", spec := "skewTights", unfollowed := true, recurses := true, apart := false }
def SkewTightsSaid : Prop := skewTightsRow.holds Try.pinned (OpenSpec.ofChange skewTightsSpec)

/-- ITS FALSE NEIGHBOUR: 'it returns false'. Refute it at one input. -/
def skewTightsWrong : ChangeSpec := { name := "skewTights", fn := fun _ => fun
  | [d1, d2] => { results := [.lit (.bool false)], args := [d1, d2] }
  | _ => none }
def SkewTightsWrongFalsely : Prop := skewTightsRow.holds Try.pinned (OpenSpec.ofChange skewTightsWrong)

/-- 'afterwordlaw19.SkewTrue': WHATEVER THE INPUT: true; the input reads as it did. -/
def skewTrueSpec : ChangeSpec := { name := "skewTrue", fn := fun _ => fun
  | [d1, d2, d3, d4] => { results := [.lit (.bool true)], args := [d1, d2, d3, d4] }
  | _ => none }
def skewTrueRow : OpenClaim := { program := "ytobcecgcegoooaa", sum := "3d471e212e862b489857b5616e570f412b34f47f52ec239d0f5b3862854c5a8b", func := "afterword/afterwordlaw19.SkewTrue", spec := "skewTrue", unfollowed := true, recurses := true, apart := false }
def SkewTrueSaid : Prop := skewTrueRow.holds Try.pinned (OpenSpec.ofChange skewTrueSpec)

/-- ITS FALSE NEIGHBOUR: 'it returns false'. Refute it at one input. -/
def skewTrueWrong : ChangeSpec := { name := "skewTrue", fn := fun _ => fun
  | [d1, d2, d3, d4] => { results := [.lit (.bool false)], args := [d1, d2, d3, d4] }
  | _ => none }
def SkewTrueWrongFalsely : Prop := skewTrueRow.holds Try.pinned (OpenSpec.ofChange skewTrueWrong)

/-- 'afterwordlaw19.SkewVotes': WHATEVER THE INPUT: true; the input reads as it did. -/
def skewVotesSpec : ChangeSpec := { name := "skewVotes", fn := fun _ => fun
  | [d1, d2, d3] => { results := [.lit (.bool true)], args := [d1, d2, d3] }
  | _ => none }
def skewVotesRow : OpenClaim := { program := "ytobcecgcegoooaa", sum := "3d471e212e862b489857b5616e570f412b34f47f52ec239d0f5b3862854c5a8b", func := "afterword/afterwordlaw19.SkewVotes", spec := "skewVotes", unfollowed := true, recurses := true, apart := false }
def SkewVotesSaid : Prop := skewVotesRow.holds Try.pinned (OpenSpec.ofChange skewVotesSpec)

/-- ITS FALSE NEIGHBOUR: 'it returns false'. Refute it at one input. -/
def skewVotesWrong : ChangeSpec := { name := "skewVotes", fn := fun _ => fun
  | [d1, d2, d3] => { results := [.lit (.bool false)], args := [d1, d2, d3] }
  | _ => none }
def SkewVotesWrongFalsely : Prop := skewVotesRow.holds Try.pinned (OpenSpec.ofChange skewVotesWrong)

/-- 'afterwordlaw19.SkewSure': WHATEVER THE INPUT: true; the input reads as it did. -/
def skewSureSpec : ChangeSpec := { name := "skewSure", fn := fun _ => fun
  | [d1, d2, d3, d4, d5] => { results := [.lit (.bool true)], args := [d1, d2, d3, d4, d5] }
  | _ => none }
def skewSureRow : OpenClaim := { program := "ytobcecgcegoooaa", sum := "3d471e212e862b489857b5616e570f412b34f47f52ec239d0f5b3862854c5a8b", func := "afterword/afterwordlaw19.SkewSure", spec := "skewSure", inPlace := ["slices.overlaps[int]"], unfollowed := true, recurses := true, apart := false }
def SkewSureSaid : Prop := skewSureRow.holds Try.pinned (OpenSpec.ofChange skewSureSpec)

/-- ITS FALSE NEIGHBOUR: 'it returns false'. Refute it at one input. -/
def skewSureWrong : ChangeSpec := { name := "skewSure", fn := fun _ => fun
  | [d1, d2, d3, d4, d5] => { results := [.lit (.bool false)], args := [d1, d2, d3, d4, d5] }
  | _ => none }
def SkewSureWrongFalsely : Prop := skewSureRow.holds Try.pinned (OpenSpec.ofChange skewSureWrong)

/- THE SECOND FORM. 'bulk': how many values and letters a reading holds, each counted each time it is reached (what is shared counts as often as it is met; a slice's spare places count too). A statement '..UptoSaid' is the law's where the arguments, and the package variables that the reading takes, are together of bulk at most 1048576: NARROWER than '..Said'. Prove '..Said' where nothing that the law and all that it calls make is longer than what came in: it says more and counts as full. Else prove '..UptoSaid'. A law counts once. -/
mutual
def uptoBulk {H : Type} : DataW H → Nat
  | .lit (.string bytes) => bytes.length + 1
  | .lit _ => 1
  | .nil => 1
  | .ptr d => uptoBulk d + 1
  | .slice elems spare => uptoBulkAll elems + uptoBulkAll spare + 1
  | .agg parts => uptoBulkAll parts + 1
  | .iface _ d => uptoBulk d + 1
  | .map entries => uptoBulkEntries entries + 1
  | .held _ => 1
def uptoBulkAll {H : Type} : List (DataW H) → Nat
  | [] => 0
  | d :: r => uptoBulk d + uptoBulkAll r
def uptoBulkEntries {H : Type} : List (Lit × DataW H) → Nat
  | [] => 0
  | x :: r => uptoBulkEntry x + uptoBulkEntries r
def uptoBulkEntry {H : Type} : Lit × DataW H → Nat
  | (.string bytes, d) => bytes.length + uptoBulk d + 1
  | (_, d) => uptoBulk d + 1
 end
def uptoSmall : (H : Type) → List (DataW H) → Bool := fun _ ds => decide (uptoBulkAll ds ≤ 1048576)
def OpenSpec.upto (s : _root_.Go.ChangeSpec) : _root_.Go.OpenSpec := { _root_.Go.OpenSpec.ofChange s with cond := some uptoSmall }

/-- 'afterwordlaw19.SkewClocks', WHERE WHAT IT READS IS OF BULK AT MOST 1048576: true; the input reads as it did. -/
def skewClocksUptoRow : OpenClaim := { program := "ytobcecgcegoooaa", sum := "3d471e212e862b489857b5616e570f412b34f47f52ec239d0f5b3862854c5a8b", func := "afterword/afterwordlaw19.SkewClocks", spec := "skewClocks", unfollowed := true, recurses := true, apart := false, narrowed := true }
def SkewClocksUptoSaid : Prop := skewClocksUptoRow.holds Try.pinned (OpenSpec.upto skewClocksSpec)

/-- 'afterwordlaw19.SkewReasons', WHERE WHAT IT READS IS OF BULK AT MOST 1048576: true; the input reads as it did. -/
def skewReasonsUptoRow : OpenClaim := { program := "ytobcecgcegoooaa", sum := "3d471e212e862b489857b5616e570f412b34f47f52ec239d0f5b3862854c5a8b", func := "afterword/afterwordlaw19.SkewReasons", spec := "skewReasons", unfollowed := true, recurses := true, apart := false, narrowed := true }
def SkewReasonsUptoSaid : Prop := skewReasonsUptoRow.holds Try.pinned (OpenSpec.upto skewReasonsSpec)

/-- 'afterwordlaw19.SkewCuts', WHERE WHAT IT READS IS OF BULK AT MOST 1048576: true; the input reads as it did. -/
def skewCutsUptoRow : OpenClaim := { program := "ytobcecgcegoooaa", sum := "3d471e212e862b489857b5616e570f412b34f47f52ec239d0f5b3862854c5a8b", func := "afterword/afterwordlaw19.SkewCuts", spec := "skewCuts", unfollowed := true, recurses := true, apart := false, narrowed := true }
def SkewCutsUptoSaid : Prop := skewCutsUptoRow.holds Try.pinned (OpenSpec.upto skewCutsSpec)

/-- 'afterwordlaw19.SkewWaits', WHERE WHAT IT READS IS OF BULK AT MOST 1048576: true; the input reads as it did. -/
def skewWaitsUptoRow : OpenClaim := { program := "ytobcecgcegoooaa", sum := "3d471e212e862b489857b5616e570f412b34f47f52ec239d0f5b3862854c5a8b", func := "afterword/afterwordlaw19.SkewWaits", spec := "skewWaits", unfollowed := true, recurses := true, apart := false, narrowed := true }
def SkewWaitsUptoSaid : Prop := skewWaitsUptoRow.holds Try.pinned (OpenSpec.upto skewWaitsSpec)

/-- 'afterwordlaw19.SkewStamps', WHERE WHAT IT READS IS OF BULK AT MOST 1048576: true; the input reads as it did. -/
def skewStampsUptoRow : OpenClaim := { program := "ytobcecgcegoooaa", sum := "3d471e212e862b489857b5616e570f412b34f47f52ec239d0f5b3862854c5a8b", func := "afterword/afterwordlaw19.SkewStamps", spec := "skewStamps", unfollowed := true, recurses := true, apart := false, narrowed := true }
def SkewStampsUptoSaid : Prop := skewStampsUptoRow.holds Try.pinned (OpenSpec.upto skewStampsSpec)

/-- 'afterwordlaw19.SkewCauses', WHERE WHAT IT READS IS OF BULK AT MOST 1048576: true; the input reads as it did. -/
def skewCausesUptoRow : OpenClaim := { program := "ytobcecgcegoooaa", sum := "3d471e212e862b489857b5616e570f412b34f47f52ec239d0f5b3862854c5a8b", func := "afterword/afterwordlaw19.SkewCauses", spec := "skewCauses", unfollowed := true, recurses := true, apart := false, narrowed := true }
def SkewCausesUptoSaid : Prop := skewCausesUptoRow.holds Try.pinned (OpenSpec.upto skewCausesSpec)

/-- 'afterwordlaw19.SkewVoted', WHERE WHAT IT READS IS OF BULK AT MOST 1048576: true; the input reads as it did. -/
def skewVotedUptoRow : OpenClaim := { program := "ytobcecgcegoooaa", sum := "3d471e212e862b489857b5616e570f412b34f47f52ec239d0f5b3862854c5a8b", func := "afterword/afterwordlaw19.SkewVoted", spec := "skewVoted", unfollowed := true, recurses := true, apart := false, narrowed := true }
def SkewVotedUptoSaid : Prop := skewVotedUptoRow.holds Try.pinned (OpenSpec.upto skewVotedSpec)

/-- 'afterwordlaw19.SkewTights', WHERE WHAT IT READS IS OF BULK AT MOST 1048576: true; the input reads as it did. -/
def skewTightsUptoRow : OpenClaim := { program := "ytobcecgcegoooaa", sum := "3d471e212e862b489857b5616e570f412b34f47f52ec239d0f5b3862854c5a8b", func := "afterword/afterwordlaw19.SkewTights", spec := "skewTights", unfollowed := true, recurses := true, apart := false, narrowed := true }
def SkewTightsUptoSaid : Prop := skewTightsUptoRow.holds Try.pinned (OpenSpec.upto skewTightsSpec)

/-- 'afterwordlaw19.SkewTrue', WHERE WHAT IT READS IS OF BULK AT MOST 1048576: true; the input reads as it did. -/
def skewTrueUptoRow : OpenClaim := { program := "ytobcecgcegoooaa", sum := "3d471e212e862b489857b5616e570f412b34f47f52ec239d0f5b3862854c5a8b", func := "afterword/afterwordlaw19.SkewTrue", spec := "skewTrue", unfollowed := true, recurses := true, apart := false, narrowed := true }
def SkewTrueUptoSaid : Prop := skewTrueUptoRow.holds Try.pinned (OpenSpec.upto skewTrueSpec)

/-- 'afterwordlaw19.SkewVotes', WHERE WHAT IT READS IS OF BULK AT MOST 1048576: true; the input reads as it did. -/
def skewVotesUptoRow : OpenClaim := { program := "ytobcecgcegoooaa", sum := "3d471e212e862b489857b5616e570f412b34f47f52ec239d0f5b3862854c5a8b", func := "afterword/afterwordlaw19.SkewVotes", spec := "skewVotes", unfollowed := true, recurses := true, apart := false, narrowed := true }
def SkewVotesUptoSaid : Prop := skewVotesUptoRow.holds Try.pinned (OpenSpec.upto skewVotesSpec)

/-- 'afterwordlaw19.SkewSure', WHERE WHAT IT READS IS OF BULK AT MOST 1048576: true; the input reads as it did. -/
def skewSureUptoRow : OpenClaim := { program := "ytobcecgcegoooaa", sum := "3d471e212e862b489857b5616e570f412b34f47f52ec239d0f5b3862854c5a8b", func := "afterword/afterwordlaw19.SkewSure", spec := "skewSure", inPlace := ["slices.overlaps[int]"], unfollowed := true, recurses := true, apart := false, narrowed := true }
def SkewSureUptoSaid : Prop := skewSureUptoRow.holds Try.pinned (OpenSpec.upto skewSureSpec)

end Rows
end Go.Proofs.Ytobcecgcegoooaa
