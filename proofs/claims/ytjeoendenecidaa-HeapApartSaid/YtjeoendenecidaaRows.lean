/-
  No cell of these rows narrows 'for every input' (looked for: loops, veiled, ifaces, maps, wideKeys, modest, calm, conditions, laid).
  DERIVED. THE GIVEN ROWS OF THIS SEAT. 7 by the template 'for every input the law returns true; each argument reads behind the call as it read before'; 0 by the template 'total and deterministic' (their statements: YtjeoendenecidaaTotals.lean).
  GIVEN WITH THE SEED: the statements are not yours to turn. If you find one false, say at which input.
  Laid BY PROGRAM, IN A SANDBOX (cutbox-rows.mjs): the forced cells as the released guide's own fill.sh prints them over the translation 9ed9564aa6d85f92… (all of the seat's roots in one cut). By AI agents, Wed Nov 11 2026. No macro, syntax, notation, axiom, sorry.
-/
import Derived.Test.YtjeoendenecidaaChecked
import GoSem.Claim
import GoSem.ClaimJoined
import GoSem.ClaimMapViews
import Derived.JoinedTies
import Derived.KernelRfl
namespace Go.Proofs.Ytjeoendenecidaa
/- THE CELL 'sum', in the pinned program and in every row, IS THE sha256 OF THE DUMP (.gsa) THAT YtjeoendenecidaaProg.lean LOADS. Nothing in Lean hashes anything: it is a label: what it is worth is what the hold of that sum in a sandbox is worth. -/
noncomputable def Try.pinned : Pinned := { name := "ytjeoendenecidaa", sum := "9ed9564aa6d85f92a74a0585db62dfdcabd5ef67a84a57411b114c4f3a73dee7", checked := Try.checked }
namespace Rows
def none {H : Type} : Left H := { results := [], args := [] }

/-- 'hauberklaw08.HeapMoves': WHATEVER THE INPUT: true; the input reads as it did. -/
def heapMovesSpec : ChangeSpec := { name := "heapMoves", fn := fun _ => fun
  | [d1, d2, d3] => { results := [.lit (.bool true)], args := [d1, d2, d3] }
  | _ => none }
def heapMovesRow : OpenClaim := { program := "ytjeoendenecidaa", sum := "9ed9564aa6d85f92a74a0585db62dfdcabd5ef67a84a57411b114c4f3a73dee7", func := "hauberk/hauberklaw08.HeapMoves", spec := "heapMoves", plainKeys := false, apart := false }
def HeapMovesSaid : Prop := heapMovesRow.holds Try.pinned (OpenSpec.ofChange heapMovesSpec)

/-- ITS FALSE NEIGHBOUR: 'it returns false'. Refute it at one input. -/
def heapMovesWrong : ChangeSpec := { name := "heapMoves", fn := fun _ => fun
  | [d1, d2, d3] => { results := [.lit (.bool false)], args := [d1, d2, d3] }
  | _ => none }
def HeapMovesWrongFalsely : Prop := heapMovesRow.holds Try.pinned (OpenSpec.ofChange heapMovesWrong)

/-- 'hauberklaw08.HeapBounds': WHATEVER THE INPUT: true; the input reads as it did. -/
def heapBoundsSpec : ChangeSpec := { name := "heapBounds", fn := fun _ => fun
  | [d1, d2, d3] => { results := [.lit (.bool true)], args := [d1, d2, d3] }
  | _ => none }
def heapBoundsRow : OpenClaim := { program := "ytjeoendenecidaa", sum := "9ed9564aa6d85f92a74a0585db62dfdcabd5ef67a84a57411b114c4f3a73dee7", func := "hauberk/hauberklaw08.HeapBounds", spec := "heapBounds", plainKeys := false, apart := false }
def HeapBoundsSaid : Prop := heapBoundsRow.holds Try.pinned (OpenSpec.ofChange heapBoundsSpec)

/-- ITS FALSE NEIGHBOUR: 'it returns false'. Refute it at one input. -/
def heapBoundsWrong : ChangeSpec := { name := "heapBounds", fn := fun _ => fun
  | [d1, d2, d3] => { results := [.lit (.bool false)], args := [d1, d2, d3] }
  | _ => none }
def HeapBoundsWrongFalsely : Prop := heapBoundsRow.holds Try.pinned (OpenSpec.ofChange heapBoundsWrong)

/-- 'hauberklaw08.HeapApart': WHATEVER THE INPUT: true; the input reads as it did. -/
def heapApartSpec : ChangeSpec := { name := "heapApart", fn := fun _ => fun
  | [d1, d2] => { results := [.lit (.bool true)], args := [d1, d2] }
  | _ => none }
def heapApartRow : OpenClaim := { program := "ytjeoendenecidaa", sum := "9ed9564aa6d85f92a74a0585db62dfdcabd5ef67a84a57411b114c4f3a73dee7", func := "hauberk/hauberklaw08.HeapApart", spec := "heapApart", plainKeys := false, apart := false }
def HeapApartSaid : Prop := heapApartRow.holds Try.pinned (OpenSpec.ofChange heapApartSpec)

/-- ITS FALSE NEIGHBOUR: 'it returns false'. Refute it at one input. -/
def heapApartWrong : ChangeSpec := { name := "heapApart", fn := fun _ => fun
  | [d1, d2] => { results := [.lit (.bool false)], args := [d1, d2] }
  | _ => none }
def HeapApartWrongFalsely : Prop := heapApartRow.holds Try.pinned (OpenSpec.ofChange heapApartWrong)

/-- 'hauberklaw08.HeapClears': WHATEVER THE INPUT: true; the input reads as it did. -/
def heapClearsSpec : ChangeSpec := { name := "heapClears", fn := fun _ => fun
  | [d1, d2] => { results := [.lit (.bool true)], args := [d1, d2] }
  | _ => none }
def heapClearsRow : OpenClaim := { program := "ytjeoendenecidaa", sum := "9ed9564aa6d85f92a74a0585db62dfdcabd5ef67a84a57411b114c4f3a73dee7", func := "hauberk/hauberklaw08.HeapClears", spec := "heapClears", unfollowed := true, recurses := true, plainKeys := false, apart := false }
def HeapClearsSaid : Prop := heapClearsRow.holds Try.pinned (OpenSpec.ofChange heapClearsSpec)

/-- ITS FALSE NEIGHBOUR: 'it returns false'. Refute it at one input. -/
def heapClearsWrong : ChangeSpec := { name := "heapClears", fn := fun _ => fun
  | [d1, d2] => { results := [.lit (.bool false)], args := [d1, d2] }
  | _ => none }
def HeapClearsWrongFalsely : Prop := heapClearsRow.holds Try.pinned (OpenSpec.ofChange heapClearsWrong)

/-- 'hauberklaw08.HeapFrees': WHATEVER THE INPUT: true; the input reads as it did. -/
def heapFreesSpec : ChangeSpec := { name := "heapFrees", fn := fun _ => fun
  | [d1, d2, d3] => { results := [.lit (.bool true)], args := [d1, d2, d3] }
  | _ => none }
def heapFreesRow : OpenClaim := { program := "ytjeoendenecidaa", sum := "9ed9564aa6d85f92a74a0585db62dfdcabd5ef67a84a57411b114c4f3a73dee7", func := "hauberk/hauberklaw08.HeapFrees", spec := "heapFrees", unfollowed := true, recurses := true, plainKeys := false, apart := false }
def HeapFreesSaid : Prop := heapFreesRow.holds Try.pinned (OpenSpec.ofChange heapFreesSpec)

/-- ITS FALSE NEIGHBOUR: 'it returns false'. Refute it at one input. -/
def heapFreesWrong : ChangeSpec := { name := "heapFrees", fn := fun _ => fun
  | [d1, d2, d3] => { results := [.lit (.bool false)], args := [d1, d2, d3] }
  | _ => none }
def HeapFreesWrongFalsely : Prop := heapFreesRow.holds Try.pinned (OpenSpec.ofChange heapFreesWrong)

/-- 'hauberklaw08.HeapGone': WHATEVER THE INPUT: true; the input reads as it did. -/
def heapGoneSpec : ChangeSpec := { name := "heapGone", fn := fun _ => fun
  | [d1, d2, d3] => { results := [.lit (.bool true)], args := [d1, d2, d3] }
  | _ => none }
def heapGoneRow : OpenClaim := { program := "ytjeoendenecidaa", sum := "9ed9564aa6d85f92a74a0585db62dfdcabd5ef67a84a57411b114c4f3a73dee7", func := "hauberk/hauberklaw08.HeapGone", spec := "heapGone", unfollowed := true, recurses := true, plainKeys := false, apart := false }
def HeapGoneSaid : Prop := heapGoneRow.holds Try.pinned (OpenSpec.ofChange heapGoneSpec)

/-- ITS FALSE NEIGHBOUR: 'it returns false'. Refute it at one input. -/
def heapGoneWrong : ChangeSpec := { name := "heapGone", fn := fun _ => fun
  | [d1, d2, d3] => { results := [.lit (.bool false)], args := [d1, d2, d3] }
  | _ => none }
def HeapGoneWrongFalsely : Prop := heapGoneRow.holds Try.pinned (OpenSpec.ofChange heapGoneWrong)

/-- 'hauberklaw08.HeapPlays': WHATEVER THE INPUT: true; the input reads as it did. -/
def heapPlaysSpec : ChangeSpec := { name := "heapPlays", fn := fun _ => fun
  | [d] => { results := [.lit (.bool true)], args := [d] }
  | _ => none }
def heapPlaysRow : OpenClaim := { program := "ytjeoendenecidaa", sum := "9ed9564aa6d85f92a74a0585db62dfdcabd5ef67a84a57411b114c4f3a73dee7", func := "hauberk/hauberklaw08.HeapPlays", spec := "heapPlays", unfollowed := true, recurses := true, plainKeys := false, apart := false }
def HeapPlaysSaid : Prop := heapPlaysRow.holds Try.pinned (OpenSpec.ofChange heapPlaysSpec)

/-- ITS FALSE NEIGHBOUR: 'it returns false'. Refute it at one input. -/
def heapPlaysWrong : ChangeSpec := { name := "heapPlays", fn := fun _ => fun
  | [d] => { results := [.lit (.bool false)], args := [d] }
  | _ => none }
def HeapPlaysWrongFalsely : Prop := heapPlaysRow.holds Try.pinned (OpenSpec.ofChange heapPlaysWrong)

/- THE SECOND FORM. 'bulk': how many values and letters a reading holds, each counted each time it is reached (what is shared counts as often as it is met; a slice's spare places count too). A statement '..UptoSaid' is the law's where the arguments, and the package variables that the reading takes, are together of bulk at most 1048576: NARROWER than '..Said'. Prove '..Said' where nothing that the law and all that it calls make is longer than what came in: it says more and counts as full. Else prove '..UptoSaid'. A law counts once. -/
mutual
def uptoBulk {H : Type} : DataW H → Nat
  | .lit (.string bytes) => bytes.length + 1
  | .lit _ => 1
  | .nil => 1
  | .ptr d => uptoBulk d + 1
  | .slice elems spare => uptoBulkAll elems + uptoBulkAll spare + 1
  | .agg parts => uptoBulkAll parts + 1
  | .iface _ d => uptoBulk d + 1
  | .map entries => uptoBulkEntries entries + 1
  | .held _ => 1
def uptoBulkAll {H : Type} : List (DataW H) → Nat
  | [] => 0
  | d :: r => uptoBulk d + uptoBulkAll r
def uptoBulkEntries {H : Type} : List (Lit × DataW H) → Nat
  | [] => 0
  | x :: r => uptoBulkEntry x + uptoBulkEntries r
def uptoBulkEntry {H : Type} : Lit × DataW H → Nat
  | (.string bytes, d) => bytes.length + uptoBulk d + 1
  | (_, d) => uptoBulk d + 1
 end
def uptoSmall : (H : Type) → List (DataW H) → Bool := fun _ ds => decide (uptoBulkAll ds ≤ 1048576)
def OpenSpec.upto (s : _root_.Go.ChangeSpec) : _root_.Go.OpenSpec := { _root_.Go.OpenSpec.ofChange s with cond := some uptoSmall }

/-- 'hauberklaw08.HeapMoves', WHERE WHAT IT READS IS OF BULK AT MOST 1048576: true; the input reads as it did. -/
def heapMovesUptoRow : OpenClaim := { program := "ytjeoendenecidaa", sum := "9ed9564aa6d85f92a74a0585db62dfdcabd5ef67a84a57411b114c4f3a73dee7", func := "hauberk/hauberklaw08.HeapMoves", spec := "heapMoves", plainKeys := false, apart := false, narrowed := true }
def HeapMovesUptoSaid : Prop := heapMovesUptoRow.holds Try.pinned (OpenSpec.upto heapMovesSpec)

/-- 'hauberklaw08.HeapBounds', WHERE WHAT IT READS IS OF BULK AT MOST 1048576: true; the input reads as it did. -/
def heapBoundsUptoRow : OpenClaim := { program := "ytjeoendenecidaa", sum := "9ed9564aa6d85f92a74a0585db62dfdcabd5ef67a84a57411b114c4f3a73dee7", func := "hauberk/hauberklaw08.HeapBounds", spec := "heapBounds", plainKeys := false, apart := false, narrowed := true }
def HeapBoundsUptoSaid : Prop := heapBoundsUptoRow.holds Try.pinned (OpenSpec.upto heapBoundsSpec)

/-- 'hauberklaw08.HeapApart', WHERE WHAT IT READS IS OF BULK AT MOST 1048576: true; the input reads as it did. -/
def heapApartUptoRow : OpenClaim := { program := "ytjeoendenecidaa", sum := "9ed9564aa6d85f92a74a0585db62dfdcabd5ef67a84a57411b114c4f3a73dee7", func := "hauberk/hauberklaw08.HeapApart", spec := "heapApart", plainKeys := false, apart := false, narrowed := true }
def HeapApartUptoSaid : Prop := heapApartUptoRow.holds Try.pinned (OpenSpec.upto heapApartSpec)

/-- 'hauberklaw08.HeapClears', WHERE WHAT IT READS IS OF BULK AT MOST 1048576: true; the input reads as it did. -/
def heapClearsUptoRow : OpenClaim := { program := "ytjeoendenecidaa", sum := "9ed9564aa6d85f92a74a0585db62dfdcabd5ef67a84a57411b114c4f3a73dee7", func := "hauberk/hauberklaw08.HeapClears", spec := "heapClears", unfollowed := true, recurses := true, plainKeys := false, apart := false, narrowed := true }
def HeapClearsUptoSaid : Prop := heapClearsUptoRow.holds Try.pinned (OpenSpec.upto heapClearsSpec)

/-- 'hauberklaw08.HeapFrees', WHERE WHAT IT READS IS OF BULK AT MOST 1048576: true; the input reads as it did. -/
def heapFreesUptoRow : OpenClaim := { program := "ytjeoendenecidaa", sum := "9ed9564aa6d85f92a74a0585db62dfdcabd5ef67a84a57411b114c4f3a73dee7", func := "hauberk/hauberklaw08.HeapFrees", spec := "heapFrees", unfollowed := true, recurses := true, plainKeys := false, apart := false, narrowed := true }
def HeapFreesUptoSaid : Prop := heapFreesUptoRow.holds Try.pinned (OpenSpec.upto heapFreesSpec)

/-- 'hauberklaw08.HeapGone', WHERE WHAT IT READS IS OF BULK AT MOST 1048576: true; the input reads as it did. -/
def heapGoneUptoRow : OpenClaim := { program := "ytjeoendenecidaa", sum := "9ed9564aa6d85f92a74a0585db62dfdcabd5ef67a84a57411b114c4f3a73dee7", func := "hauberk/hauberklaw08.HeapGone", spec := "heapGone", unfollowed := true, recurses := true, plainKeys := false, apart := false, narrowed := true }
def HeapGoneUptoSaid : Prop := heapGoneUptoRow.holds Try.pinned (OpenSpec.upto heapGoneSpec)

/-- 'hauberklaw08.HeapPlays', WHERE WHAT IT READS IS OF BULK AT MOST 1048576: true; the input reads as it did. -/
def heapPlaysUptoRow : OpenClaim := { program := "ytjeoendenecidaa", sum := "9ed9564aa6d85f92a74a0585db62dfdcabd5ef67a84a57411b114c4f3a73dee7", func := "hauberk/hauberklaw08.HeapPlays", spec := "heapPlays", unfollowed := true, recurses := true, plainKeys := false, apart := false, narrowed := true }
def HeapPlaysUptoSaid : Prop := heapPlaysUptoRow.holds Try.pinned (OpenSpec.upto heapPlaysSpec)

end Rows
end Go.Proofs.Ytjeoendenecidaa
