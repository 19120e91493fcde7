/-
  No cell of these rows narrows 'for every input' (looked for: loops, veiled, ifaces, maps, wideKeys, modest, calm, conditions, laid).
  DERIVED. THE GIVEN ROWS OF THIS SEAT. 7 by the template 'for every input the law returns true; each argument reads behind the call as it read before'; 0 by the template 'total and deterministic' (their statements: YtojfgdoniajmeaaTotals.lean).
  GIVEN WITH THE SEED: the statements are not yours to turn. If you find one false, say at which input.
  Laid BY PROGRAM, IN A SANDBOX (cutbox-rows.mjs): the forced cells as the released guide's own fill.sh prints them over the translation 3a4d7bfba32b81b4… (all of the seat's roots in one cut). By AI agents, Wed Nov 11 2026. No macro, syntax, notation, axiom, sorry.
-/
import Derived.Test.YtojfgdoniajmeaaChecked
import GoSem.Claim
import GoSem.ClaimJoined
import GoSem.ClaimMapViews
import Derived.JoinedTies
import Derived.KernelRfl
namespace Go.Proofs.Ytojfgdoniajmeaa
/- THE CELL 'sum', in the pinned program and in every row, IS THE sha256 OF THE DUMP (.gsa) THAT YtojfgdoniajmeaaProg.lean LOADS. Nothing in Lean hashes anything: it is a label: what it is worth is what the hold of that sum in a sandbox is worth. -/
noncomputable def Try.pinned : Pinned := { name := "ytojfgdoniajmeaa", sum := "3a4d7bfba32b81b44f59a1d3610ae3528c9933bbf339f84e2ed8e1c14ddbe3d2", checked := Try.checked }
namespace Rows
def none {H : Type} : Left H := { results := [], args := [] }

/-- 'hauberklaw10.MidGood': WHATEVER THE INPUT: true; the input reads as it did. -/
def midGoodSpec : ChangeSpec := { name := "midGood", fn := fun _ => fun
  | [d] => { results := [.lit (.bool true)], args := [d] }
  | _ => none }
def midGoodRow : OpenClaim := { program := "ytojfgdoniajmeaa", sum := "3a4d7bfba32b81b44f59a1d3610ae3528c9933bbf339f84e2ed8e1c14ddbe3d2", func := "hauberk/hauberklaw10.MidGood", spec := "midGood", unfollowed := true, recurses := true, plainKeys := false, apart := false }
def MidGoodSaid : Prop := midGoodRow.holds Try.pinned (OpenSpec.ofChange midGoodSpec)

/-- ITS FALSE NEIGHBOUR: 'it returns false'. Refute it at one input. -/
def midGoodWrong : ChangeSpec := { name := "midGood", fn := fun _ => fun
  | [d] => { results := [.lit (.bool false)], args := [d] }
  | _ => none }
def MidGoodWrongFalsely : Prop := midGoodRow.holds Try.pinned (OpenSpec.ofChange midGoodWrong)

/-- 'hauberklaw10.MidRuns': WHATEVER THE INPUT: true; the input reads as it did. -/
def midRunsSpec : ChangeSpec := { name := "midRuns", fn := fun _ => fun
  | [d1, d2, d3] => { results := [.lit (.bool true)], args := [d1, d2, d3] }
  | _ => none }
def midRunsRow : OpenClaim := { program := "ytojfgdoniajmeaa", sum := "3a4d7bfba32b81b44f59a1d3610ae3528c9933bbf339f84e2ed8e1c14ddbe3d2", func := "hauberk/hauberklaw10.MidRuns", spec := "midRuns", unfollowed := true, recurses := true, plainKeys := false, apart := false }
def MidRunsSaid : Prop := midRunsRow.holds Try.pinned (OpenSpec.ofChange midRunsSpec)

/-- ITS FALSE NEIGHBOUR: 'it returns false'. Refute it at one input. -/
def midRunsWrong : ChangeSpec := { name := "midRuns", fn := fun _ => fun
  | [d1, d2, d3] => { results := [.lit (.bool false)], args := [d1, d2, d3] }
  | _ => none }
def MidRunsWrongFalsely : Prop := midRunsRow.holds Try.pinned (OpenSpec.ofChange midRunsWrong)

/-- 'hauberklaw10.MidPrefix': WHATEVER THE INPUT: true; the input reads as it did. -/
def midPrefixSpec : ChangeSpec := { name := "midPrefix", fn := fun _ => fun
  | [d1, d2, d3] => { results := [.lit (.bool true)], args := [d1, d2, d3] }
  | _ => none }
def midPrefixRow : OpenClaim := { program := "ytojfgdoniajmeaa", sum := "3a4d7bfba32b81b44f59a1d3610ae3528c9933bbf339f84e2ed8e1c14ddbe3d2", func := "hauberk/hauberklaw10.MidPrefix", spec := "midPrefix", unfollowed := true, recurses := true, plainKeys := false, apart := false }
def MidPrefixSaid : Prop := midPrefixRow.holds Try.pinned (OpenSpec.ofChange midPrefixSpec)

/-- ITS FALSE NEIGHBOUR: 'it returns false'. Refute it at one input. -/
def midPrefixWrong : ChangeSpec := { name := "midPrefix", fn := fun _ => fun
  | [d1, d2, d3] => { results := [.lit (.bool false)], args := [d1, d2, d3] }
  | _ => none }
def MidPrefixWrongFalsely : Prop := midPrefixRow.holds Try.pinned (OpenSpec.ofChange midPrefixWrong)

/-- 'hauberklaw10.MidCounts': WHATEVER THE INPUT: true; the input reads as it did. -/
def midCountsSpec : ChangeSpec := { name := "midCounts", fn := fun _ => fun
  | [d] => { results := [.lit (.bool true)], args := [d] }
  | _ => none }
def midCountsRow : OpenClaim := { program := "ytojfgdoniajmeaa", sum := "3a4d7bfba32b81b44f59a1d3610ae3528c9933bbf339f84e2ed8e1c14ddbe3d2", func := "hauberk/hauberklaw10.MidCounts", spec := "midCounts", unfollowed := true, recurses := true, plainKeys := false, apart := false }
def MidCountsSaid : Prop := midCountsRow.holds Try.pinned (OpenSpec.ofChange midCountsSpec)

/-- ITS FALSE NEIGHBOUR: 'it returns false'. Refute it at one input. -/
def midCountsWrong : ChangeSpec := { name := "midCounts", fn := fun _ => fun
  | [d] => { results := [.lit (.bool false)], args := [d] }
  | _ => none }
def MidCountsWrongFalsely : Prop := midCountsRow.holds Try.pinned (OpenSpec.ofChange midCountsWrong)

/-- 'hauberklaw10.MidSlots': WHATEVER THE INPUT: true; the input reads as it did. -/
def midSlotsSpec : ChangeSpec := { name := "midSlots", fn := fun _ => fun
  | [d1, d2, d3] => { results := [.lit (.bool true)], args := [d1, d2, d3] }
  | _ => none }
def midSlotsRow : OpenClaim := { program := "ytojfgdoniajmeaa", sum := "3a4d7bfba32b81b44f59a1d3610ae3528c9933bbf339f84e2ed8e1c14ddbe3d2", func := "hauberk/hauberklaw10.MidSlots", spec := "midSlots", unfollowed := true, recurses := true, plainKeys := false, apart := false }
def MidSlotsSaid : Prop := midSlotsRow.holds Try.pinned (OpenSpec.ofChange midSlotsSpec)

/-- ITS FALSE NEIGHBOUR: 'it returns false'. Refute it at one input. -/
def midSlotsWrong : ChangeSpec := { name := "midSlots", fn := fun _ => fun
  | [d1, d2, d3] => { results := [.lit (.bool false)], args := [d1, d2, d3] }
  | _ => none }
def MidSlotsWrongFalsely : Prop := midSlotsRow.holds Try.pinned (OpenSpec.ofChange midSlotsWrong)

/-- 'hauberklaw10.MidParts': WHATEVER THE INPUT: true; the input reads as it did. -/
def midPartsSpec : ChangeSpec := { name := "midParts", fn := fun _ => fun
  | [d1, d2, d3] => { results := [.lit (.bool true)], args := [d1, d2, d3] }
  | _ => none }
def midPartsRow : OpenClaim := { program := "ytojfgdoniajmeaa", sum := "3a4d7bfba32b81b44f59a1d3610ae3528c9933bbf339f84e2ed8e1c14ddbe3d2", func := "hauberk/hauberklaw10.MidParts", spec := "midParts", unfollowed := true, recurses := true, plainKeys := false, apart := false }
def MidPartsSaid : Prop := midPartsRow.holds Try.pinned (OpenSpec.ofChange midPartsSpec)

/-- ITS FALSE NEIGHBOUR: 'it returns false'. Refute it at one input. -/
def midPartsWrong : ChangeSpec := { name := "midParts", fn := fun _ => fun
  | [d1, d2, d3] => { results := [.lit (.bool false)], args := [d1, d2, d3] }
  | _ => none }
def MidPartsWrongFalsely : Prop := midPartsRow.holds Try.pinned (OpenSpec.ofChange midPartsWrong)

/-- 'hauberklaw10.MidCalls': WHATEVER THE INPUT: true; the input reads as it did. -/
def midCallsSpec : ChangeSpec := { name := "midCalls", fn := fun _ => fun
  | [d] => { results := [.lit (.bool true)], args := [d] }
  | _ => none }
def midCallsRow : OpenClaim := { program := "ytojfgdoniajmeaa", sum := "3a4d7bfba32b81b44f59a1d3610ae3528c9933bbf339f84e2ed8e1c14ddbe3d2", func := "hauberk/hauberklaw10.MidCalls", spec := "midCalls", unfollowed := true, recurses := true, plainKeys := false, apart := false }
def MidCallsSaid : Prop := midCallsRow.holds Try.pinned (OpenSpec.ofChange midCallsSpec)

/-- ITS FALSE NEIGHBOUR: 'it returns false'. Refute it at one input. -/
def midCallsWrong : ChangeSpec := { name := "midCalls", fn := fun _ => fun
  | [d] => { results := [.lit (.bool false)], args := [d] }
  | _ => none }
def MidCallsWrongFalsely : Prop := midCallsRow.holds Try.pinned (OpenSpec.ofChange midCallsWrong)

/- THE SECOND FORM. 'bulk': how many values and letters a reading holds, each counted each time it is reached (what is shared counts as often as it is met; a slice's spare places count too). A statement '..UptoSaid' is the law's where the arguments, and the package variables that the reading takes, are together of bulk at most 1048576: NARROWER than '..Said'. Prove '..Said' where nothing that the law and all that it calls make is longer than what came in: it says more and counts as full. Else prove '..UptoSaid'. A law counts once. -/
mutual
def uptoBulk {H : Type} : DataW H → Nat
  | .lit (.string bytes) => bytes.length + 1
  | .lit _ => 1
  | .nil => 1
  | .ptr d => uptoBulk d + 1
  | .slice elems spare => uptoBulkAll elems + uptoBulkAll spare + 1
  | .agg parts => uptoBulkAll parts + 1
  | .iface _ d => uptoBulk d + 1
  | .map entries => uptoBulkEntries entries + 1
  | .held _ => 1
def uptoBulkAll {H : Type} : List (DataW H) → Nat
  | [] => 0
  | d :: r => uptoBulk d + uptoBulkAll r
def uptoBulkEntries {H : Type} : List (Lit × DataW H) → Nat
  | [] => 0
  | x :: r => uptoBulkEntry x + uptoBulkEntries r
def uptoBulkEntry {H : Type} : Lit × DataW H → Nat
  | (.string bytes, d) => bytes.length + uptoBulk d + 1
  | (_, d) => uptoBulk d + 1
 end
def uptoSmall : (H : Type) → List (DataW H) → Bool := fun _ ds => decide (uptoBulkAll ds ≤ 1048576)
def OpenSpec.upto (s : _root_.Go.ChangeSpec) : _root_.Go.OpenSpec := { _root_.Go.OpenSpec.ofChange s with cond := some uptoSmall }

/-- 'hauberklaw10.MidGood', WHERE WHAT IT READS IS OF BULK AT MOST 1048576: true; the input reads as it did. -/
def midGoodUptoRow : OpenClaim := { program := "ytojfgdoniajmeaa", sum := "3a4d7bfba32b81b44f59a1d3610ae3528c9933bbf339f84e2ed8e1c14ddbe3d2", func := "hauberk/hauberklaw10.MidGood", spec := "midGood", unfollowed := true, recurses := true, plainKeys := false, apart := false, narrowed := true }
def MidGoodUptoSaid : Prop := midGoodUptoRow.holds Try.pinned (OpenSpec.upto midGoodSpec)

/-- 'hauberklaw10.MidRuns', WHERE WHAT IT READS IS OF BULK AT MOST 1048576: true; the input reads as it did. -/
def midRunsUptoRow : OpenClaim := { program := "ytojfgdoniajmeaa", sum := "3a4d7bfba32b81b44f59a1d3610ae3528c9933bbf339f84e2ed8e1c14ddbe3d2", func := "hauberk/hauberklaw10.MidRuns", spec := "midRuns", unfollowed := true, recurses := true, plainKeys := false, apart := false, narrowed := true }
def MidRunsUptoSaid : Prop := midRunsUptoRow.holds Try.pinned (OpenSpec.upto midRunsSpec)

/-- 'hauberklaw10.MidPrefix', WHERE WHAT IT READS IS OF BULK AT MOST 1048576: true; the input reads as it did. -/
def midPrefixUptoRow : OpenClaim := { program := "ytojfgdoniajmeaa", sum := "3a4d7bfba32b81b44f59a1d3610ae3528c9933bbf339f84e2ed8e1c14ddbe3d2", func := "hauberk/hauberklaw10.MidPrefix", spec := "midPrefix", unfollowed := true, recurses := true, plainKeys := false, apart := false, narrowed := true }
def MidPrefixUptoSaid : Prop := midPrefixUptoRow.holds Try.pinned (OpenSpec.upto midPrefixSpec)

/-- 'hauberklaw10.MidCounts', WHERE WHAT IT READS IS OF BULK AT MOST 1048576: true; the input reads as it did. -/
def midCountsUptoRow : OpenClaim := { program := "ytojfgdoniajmeaa", sum := "3a4d7bfba32b81b44f59a1d3610ae3528c9933bbf339f84e2ed8e1c14ddbe3d2", func := "hauberk/hauberklaw10.MidCounts", spec := "midCounts", unfollowed := true, recurses := true, plainKeys := false, apart := false, narrowed := true }
def MidCountsUptoSaid : Prop := midCountsUptoRow.holds Try.pinned (OpenSpec.upto midCountsSpec)

/-- 'hauberklaw10.MidSlots', WHERE WHAT IT READS IS OF BULK AT MOST 1048576: true; the input reads as it did. -/
def midSlotsUptoRow : OpenClaim := { program := "ytojfgdoniajmeaa", sum := "3a4d7bfba32b81b44f59a1d3610ae3528c9933bbf339f84e2ed8e1c14ddbe3d2", func := "hauberk/hauberklaw10.MidSlots", spec := "midSlots", unfollowed := true, recurses := true, plainKeys := false, apart := false, narrowed := true }
def MidSlotsUptoSaid : Prop := midSlotsUptoRow.holds Try.pinned (OpenSpec.upto midSlotsSpec)

/-- 'hauberklaw10.MidParts', WHERE WHAT IT READS IS OF BULK AT MOST 1048576: true; the input reads as it did. -/
def midPartsUptoRow : OpenClaim := { program := "ytojfgdoniajmeaa", sum := "3a4d7bfba32b81b44f59a1d3610ae3528c9933bbf339f84e2ed8e1c14ddbe3d2", func := "hauberk/hauberklaw10.MidParts", spec := "midParts", unfollowed := true, recurses := true, plainKeys := false, apart := false, narrowed := true }
def MidPartsUptoSaid : Prop := midPartsUptoRow.holds Try.pinned (OpenSpec.upto midPartsSpec)

/-- 'hauberklaw10.MidCalls', WHERE WHAT IT READS IS OF BULK AT MOST 1048576: true; the input reads as it did. -/
def midCallsUptoRow : OpenClaim := { program := "ytojfgdoniajmeaa", sum := "3a4d7bfba32b81b44f59a1d3610ae3528c9933bbf339f84e2ed8e1c14ddbe3d2", func := "hauberk/hauberklaw10.MidCalls", spec := "midCalls", unfollowed := true, recurses := true, plainKeys := false, apart := false, narrowed := true }
def MidCallsUptoSaid : Prop := midCallsUptoRow.holds Try.pinned (OpenSpec.upto midCallsSpec)

end Rows
end Go.Proofs.Ytojfgdoniajmeaa
