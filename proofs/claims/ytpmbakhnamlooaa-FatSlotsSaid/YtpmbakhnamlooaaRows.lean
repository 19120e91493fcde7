/-
  No cell of these rows narrows 'for every input' (looked for: loops, veiled, ifaces, maps, wideKeys, modest, calm, conditions, laid).
  DERIVED. THE GIVEN ROWS OF THIS SEAT. 7 by the template 'for every input the law returns true; each argument reads behind the call as it read before'; 0 by the template 'total and deterministic' (their statements: YtpmbakhnamlooaaTotals.lean).
  GIVEN WITH THE SEED: the statements are not yours to turn. If you find one false, say at which input.
  Laid BY PROGRAM, IN A SANDBOX (cutbox-rows.mjs): the forced cells as the released guide's own fill.sh prints them over the translation ad6e7f38f5efbe8b… (all of the seat's roots in one cut). By AI agents, Wed Nov 11 2026. No macro, syntax, notation, axiom, sorry.
-/
import Derived.Test.YtpmbakhnamlooaaChecked
import GoSem.Claim
import GoSem.ClaimJoined
import GoSem.ClaimMapViews
import Derived.JoinedTies
import Derived.KernelRfl
namespace Go.Proofs.Ytpmbakhnamlooaa
/- THE CELL 'sum', in the pinned program and in every row, IS THE sha256 OF THE DUMP (.gsa) THAT YtpmbakhnamlooaaProg.lean LOADS. Nothing in Lean hashes anything: it is a label: what it is worth is what the hold of that sum in a sandbox is worth. -/
noncomputable def Try.pinned : Pinned := { name := "ytpmbakhnamlooaa", sum := "ad6e7f38f5efbe8bca0f3bc4e9b5c9e449557522a7dd12876b42019adcd4a8f0", checked := Try.checked }
namespace Rows
def none {H : Type} : Left H := { results := [], args := [] }

/-- 'hauberklaw12.FatGood': WHATEVER THE INPUT: true; the input reads as it did. -/
def fatGoodSpec : ChangeSpec := { name := "fatGood", fn := fun _ => fun
  | [d] => { results := [.lit (.bool true)], args := [d] }
  | _ => none }
def fatGoodRow : OpenClaim := { program := "ytpmbakhnamlooaa", sum := "ad6e7f38f5efbe8bca0f3bc4e9b5c9e449557522a7dd12876b42019adcd4a8f0", func := "hauberk/hauberklaw12.FatGood", spec := "fatGood", unfollowed := true, recurses := true, apart := false }
def FatGoodSaid : Prop := fatGoodRow.holds Try.pinned (OpenSpec.ofChange fatGoodSpec)

/-- ITS FALSE NEIGHBOUR: 'it returns false'. Refute it at one input. -/
def fatGoodWrong : ChangeSpec := { name := "fatGood", fn := fun _ => fun
  | [d] => { results := [.lit (.bool false)], args := [d] }
  | _ => none }
def FatGoodWrongFalsely : Prop := fatGoodRow.holds Try.pinned (OpenSpec.ofChange fatGoodWrong)

/-- 'hauberklaw12.FatRuns': WHATEVER THE INPUT: true; the input reads as it did. -/
def fatRunsSpec : ChangeSpec := { name := "fatRuns", fn := fun _ => fun
  | [d1, d2, d3] => { results := [.lit (.bool true)], args := [d1, d2, d3] }
  | _ => none }
def fatRunsRow : OpenClaim := { program := "ytpmbakhnamlooaa", sum := "ad6e7f38f5efbe8bca0f3bc4e9b5c9e449557522a7dd12876b42019adcd4a8f0", func := "hauberk/hauberklaw12.FatRuns", spec := "fatRuns", unfollowed := true, recurses := true, apart := false }
def FatRunsSaid : Prop := fatRunsRow.holds Try.pinned (OpenSpec.ofChange fatRunsSpec)

/-- ITS FALSE NEIGHBOUR: 'it returns false'. Refute it at one input. -/
def fatRunsWrong : ChangeSpec := { name := "fatRuns", fn := fun _ => fun
  | [d1, d2, d3] => { results := [.lit (.bool false)], args := [d1, d2, d3] }
  | _ => none }
def FatRunsWrongFalsely : Prop := fatRunsRow.holds Try.pinned (OpenSpec.ofChange fatRunsWrong)

/-- 'hauberklaw12.FatPrefix': WHATEVER THE INPUT: true; the input reads as it did. -/
def fatPrefixSpec : ChangeSpec := { name := "fatPrefix", fn := fun _ => fun
  | [d1, d2, d3] => { results := [.lit (.bool true)], args := [d1, d2, d3] }
  | _ => none }
def fatPrefixRow : OpenClaim := { program := "ytpmbakhnamlooaa", sum := "ad6e7f38f5efbe8bca0f3bc4e9b5c9e449557522a7dd12876b42019adcd4a8f0", func := "hauberk/hauberklaw12.FatPrefix", spec := "fatPrefix", unfollowed := true, recurses := true, apart := false }
def FatPrefixSaid : Prop := fatPrefixRow.holds Try.pinned (OpenSpec.ofChange fatPrefixSpec)

/-- ITS FALSE NEIGHBOUR: 'it returns false'. Refute it at one input. -/
def fatPrefixWrong : ChangeSpec := { name := "fatPrefix", fn := fun _ => fun
  | [d1, d2, d3] => { results := [.lit (.bool false)], args := [d1, d2, d3] }
  | _ => none }
def FatPrefixWrongFalsely : Prop := fatPrefixRow.holds Try.pinned (OpenSpec.ofChange fatPrefixWrong)

/-- 'hauberklaw12.FatChecks': WHATEVER THE INPUT: true; the input reads as it did. -/
def fatChecksSpec : ChangeSpec := { name := "fatChecks", fn := fun _ => fun
  | [d1, d2] => { results := [.lit (.bool true)], args := [d1, d2] }
  | _ => none }
def fatChecksRow : OpenClaim := { program := "ytpmbakhnamlooaa", sum := "ad6e7f38f5efbe8bca0f3bc4e9b5c9e449557522a7dd12876b42019adcd4a8f0", func := "hauberk/hauberklaw12.FatChecks", spec := "fatChecks", unfollowed := true, recurses := true, apart := false }
def FatChecksSaid : Prop := fatChecksRow.holds Try.pinned (OpenSpec.ofChange fatChecksSpec)

/-- ITS FALSE NEIGHBOUR: 'it returns false'. Refute it at one input. -/
def fatChecksWrong : ChangeSpec := { name := "fatChecks", fn := fun _ => fun
  | [d1, d2] => { results := [.lit (.bool false)], args := [d1, d2] }
  | _ => none }
def FatChecksWrongFalsely : Prop := fatChecksRow.holds Try.pinned (OpenSpec.ofChange fatChecksWrong)

/-- 'hauberklaw12.FatMallocs': WHATEVER THE INPUT: true; the input reads as it did. -/
def fatMallocsSpec : ChangeSpec := { name := "fatMallocs", fn := fun _ => fun
  | [d1, d2] => { results := [.lit (.bool true)], args := [d1, d2] }
  | _ => none }
def fatMallocsRow : OpenClaim := { program := "ytpmbakhnamlooaa", sum := "ad6e7f38f5efbe8bca0f3bc4e9b5c9e449557522a7dd12876b42019adcd4a8f0", func := "hauberk/hauberklaw12.FatMallocs", spec := "fatMallocs", unfollowed := true, recurses := true, apart := false }
def FatMallocsSaid : Prop := fatMallocsRow.holds Try.pinned (OpenSpec.ofChange fatMallocsSpec)

/-- ITS FALSE NEIGHBOUR: 'it returns false'. Refute it at one input. -/
def fatMallocsWrong : ChangeSpec := { name := "fatMallocs", fn := fun _ => fun
  | [d1, d2] => { results := [.lit (.bool false)], args := [d1, d2] }
  | _ => none }
def FatMallocsWrongFalsely : Prop := fatMallocsRow.holds Try.pinned (OpenSpec.ofChange fatMallocsWrong)

/-- 'hauberklaw12.FatShadows': WHATEVER THE INPUT: true; the input reads as it did. -/
def fatShadowsSpec : ChangeSpec := { name := "fatShadows", fn := fun _ => fun
  | [d1, d2, d3] => { results := [.lit (.bool true)], args := [d1, d2, d3] }
  | _ => none }
def fatShadowsRow : OpenClaim := { program := "ytpmbakhnamlooaa", sum := "ad6e7f38f5efbe8bca0f3bc4e9b5c9e449557522a7dd12876b42019adcd4a8f0", func := "hauberk/hauberklaw12.FatShadows", spec := "fatShadows", unfollowed := true, recurses := true, apart := false }
def FatShadowsSaid : Prop := fatShadowsRow.holds Try.pinned (OpenSpec.ofChange fatShadowsSpec)

/-- ITS FALSE NEIGHBOUR: 'it returns false'. Refute it at one input. -/
def fatShadowsWrong : ChangeSpec := { name := "fatShadows", fn := fun _ => fun
  | [d1, d2, d3] => { results := [.lit (.bool false)], args := [d1, d2, d3] }
  | _ => none }
def FatShadowsWrongFalsely : Prop := fatShadowsRow.holds Try.pinned (OpenSpec.ofChange fatShadowsWrong)

/-- 'hauberklaw12.FatSlots': WHATEVER THE INPUT: true; the input reads as it did. -/
def fatSlotsSpec : ChangeSpec := { name := "fatSlots", fn := fun _ => fun
  | [d1, d2] => { results := [.lit (.bool true)], args := [d1, d2] }
  | _ => none }
def fatSlotsRow : OpenClaim := { program := "ytpmbakhnamlooaa", sum := "ad6e7f38f5efbe8bca0f3bc4e9b5c9e449557522a7dd12876b42019adcd4a8f0", func := "hauberk/hauberklaw12.FatSlots", spec := "fatSlots", unfollowed := true, recurses := true, apart := false }
def FatSlotsSaid : Prop := fatSlotsRow.holds Try.pinned (OpenSpec.ofChange fatSlotsSpec)

/-- ITS FALSE NEIGHBOUR: 'it returns false'. Refute it at one input. -/
def fatSlotsWrong : ChangeSpec := { name := "fatSlots", fn := fun _ => fun
  | [d1, d2] => { results := [.lit (.bool false)], args := [d1, d2] }
  | _ => none }
def FatSlotsWrongFalsely : Prop := fatSlotsRow.holds Try.pinned (OpenSpec.ofChange fatSlotsWrong)

/- THE SECOND FORM. 'bulk': how many values and letters a reading holds, each counted each time it is reached (what is shared counts as often as it is met; a slice's spare places count too). A statement '..UptoSaid' is the law's where the arguments, and the package variables that the reading takes, are together of bulk at most 1048576: NARROWER than '..Said'. Prove '..Said' where nothing that the law and all that it calls make is longer than what came in: it says more and counts as full. Else prove '..UptoSaid'. A law counts once. -/
mutual
def uptoBulk {H : Type} : DataW H → Nat
  | .lit (.string bytes) => bytes.length + 1
  | .lit _ => 1
  | .nil => 1
  | .ptr d => uptoBulk d + 1
  | .slice elems spare => uptoBulkAll elems + uptoBulkAll spare + 1
  | .agg parts => uptoBulkAll parts + 1
  | .iface _ d => uptoBulk d + 1
  | .map entries => uptoBulkEntries entries + 1
  | .held _ => 1
def uptoBulkAll {H : Type} : List (DataW H) → Nat
  | [] => 0
  | d :: r => uptoBulk d + uptoBulkAll r
def uptoBulkEntries {H : Type} : List (Lit × DataW H) → Nat
  | [] => 0
  | x :: r => uptoBulkEntry x + uptoBulkEntries r
def uptoBulkEntry {H : Type} : Lit × DataW H → Nat
  | (.string bytes, d) => bytes.length + uptoBulk d + 1
  | (_, d) => uptoBulk d + 1
 end
def uptoSmall : (H : Type) → List (DataW H) → Bool := fun _ ds => decide (uptoBulkAll ds ≤ 1048576)
def OpenSpec.upto (s : _root_.Go.ChangeSpec) : _root_.Go.OpenSpec := { _root_.Go.OpenSpec.ofChange s with cond := some uptoSmall }

/-- 'hauberklaw12.FatGood', WHERE WHAT IT READS IS OF BULK AT MOST 1048576: true; the input reads as it did. -/
def fatGoodUptoRow : OpenClaim := { program := "ytpmbakhnamlooaa", sum := "ad6e7f38f5efbe8bca0f3bc4e9b5c9e449557522a7dd12876b42019adcd4a8f0", func := "hauberk/hauberklaw12.FatGood", spec := "fatGood", unfollowed := true, recurses := true, apart := false, narrowed := true }
def FatGoodUptoSaid : Prop := fatGoodUptoRow.holds Try.pinned (OpenSpec.upto fatGoodSpec)

/-- 'hauberklaw12.FatRuns', WHERE WHAT IT READS IS OF BULK AT MOST 1048576: true; the input reads as it did. -/
def fatRunsUptoRow : OpenClaim := { program := "ytpmbakhnamlooaa", sum := "ad6e7f38f5efbe8bca0f3bc4e9b5c9e449557522a7dd12876b42019adcd4a8f0", func := "hauberk/hauberklaw12.FatRuns", spec := "fatRuns", unfollowed := true, recurses := true, apart := false, narrowed := true }
def FatRunsUptoSaid : Prop := fatRunsUptoRow.holds Try.pinned (OpenSpec.upto fatRunsSpec)

/-- 'hauberklaw12.FatPrefix', WHERE WHAT IT READS IS OF BULK AT MOST 1048576: true; the input reads as it did. -/
def fatPrefixUptoRow : OpenClaim := { program := "ytpmbakhnamlooaa", sum := "ad6e7f38f5efbe8bca0f3bc4e9b5c9e449557522a7dd12876b42019adcd4a8f0", func := "hauberk/hauberklaw12.FatPrefix", spec := "fatPrefix", unfollowed := true, recurses := true, apart := false, narrowed := true }
def FatPrefixUptoSaid : Prop := fatPrefixUptoRow.holds Try.pinned (OpenSpec.upto fatPrefixSpec)

/-- 'hauberklaw12.FatChecks', WHERE WHAT IT READS IS OF BULK AT MOST 1048576: true; the input reads as it did. -/
def fatChecksUptoRow : OpenClaim := { program := "ytpmbakhnamlooaa", sum := "ad6e7f38f5efbe8bca0f3bc4e9b5c9e449557522a7dd12876b42019adcd4a8f0", func := "hauberk/hauberklaw12.FatChecks", spec := "fatChecks", unfollowed := true, recurses := true, apart := false, narrowed := true }
def FatChecksUptoSaid : Prop := fatChecksUptoRow.holds Try.pinned (OpenSpec.upto fatChecksSpec)

/-- 'hauberklaw12.FatMallocs', WHERE WHAT IT READS IS OF BULK AT MOST 1048576: true; the input reads as it did. -/
def fatMallocsUptoRow : OpenClaim := { program := "ytpmbakhnamlooaa", sum := "ad6e7f38f5efbe8bca0f3bc4e9b5c9e449557522a7dd12876b42019adcd4a8f0", func := "hauberk/hauberklaw12.FatMallocs", spec := "fatMallocs", unfollowed := true, recurses := true, apart := false, narrowed := true }
def FatMallocsUptoSaid : Prop := fatMallocsUptoRow.holds Try.pinned (OpenSpec.upto fatMallocsSpec)

/-- 'hauberklaw12.FatShadows', WHERE WHAT IT READS IS OF BULK AT MOST 1048576: true; the input reads as it did. -/
def fatShadowsUptoRow : OpenClaim := { program := "ytpmbakhnamlooaa", sum := "ad6e7f38f5efbe8bca0f3bc4e9b5c9e449557522a7dd12876b42019adcd4a8f0", func := "hauberk/hauberklaw12.FatShadows", spec := "fatShadows", unfollowed := true, recurses := true, apart := false, narrowed := true }
def FatShadowsUptoSaid : Prop := fatShadowsUptoRow.holds Try.pinned (OpenSpec.upto fatShadowsSpec)

/-- 'hauberklaw12.FatSlots', WHERE WHAT IT READS IS OF BULK AT MOST 1048576: true; the input reads as it did. -/
def fatSlotsUptoRow : OpenClaim := { program := "ytpmbakhnamlooaa", sum := "ad6e7f38f5efbe8bca0f3bc4e9b5c9e449557522a7dd12876b42019adcd4a8f0", func := "hauberk/hauberklaw12.FatSlots", spec := "fatSlots", unfollowed := true, recurses := true, apart := false, narrowed := true }
def FatSlotsUptoSaid : Prop := fatSlotsUptoRow.holds Try.pinned (OpenSpec.upto fatSlotsSpec)

end Rows
end Go.Proofs.Ytpmbakhnamlooaa
