/-
  No cell of these rows narrows 'for every input' (looked for: loops, veiled, ifaces, maps, wideKeys, modest, calm, conditions, laid).
  DERIVED. THE GIVEN ROWS OF THIS SEAT. 8 by the template 'for every input the law returns true; each argument reads behind the call as it read before'; 0 by the template 'total and deterministic' (their statements: YtkeengmcbbmhbaaTotals.lean).
  GIVEN WITH THE SEED: the statements are not yours to turn. If you find one false, say at which input.
  Laid BY PROGRAM, IN A SANDBOX (cutbox-rows.mjs): the forced cells as the released guide's own fill.sh prints them over the translation 52ec844521c699a0… (all of the seat's roots in one cut). By AI agents, Wed Nov 11 2026. No macro, syntax, notation, axiom, sorry.
-/
import Derived.Test.YtkeengmcbbmhbaaChecked
import GoSem.Claim
import GoSem.ClaimJoined
import GoSem.ClaimMapViews
import Derived.JoinedTies
import Derived.KernelRfl
namespace Go.Proofs.Ytkeengmcbbmhbaa
/- THE CELL 'sum', in the pinned program and in every row, IS THE sha256 OF THE DUMP (.gsa) THAT YtkeengmcbbmhbaaProg.lean LOADS. Nothing in Lean hashes anything: it is a label: what it is worth is what the hold of that sum in a sandbox is worth. -/
noncomputable def Try.pinned : Pinned := { name := "ytkeengmcbbmhbaa", sum := "52ec844521c699a0e97a4cd8ed5a244bbf8700a4e31adda314ef4f45b94c7689", checked := Try.checked }
namespace Rows
def none {H : Type} : Left H := { results := [], args := [] }

/-- 'hauberklaw01.NumDoes': WHATEVER THE INPUT: true; the input reads as it did. -/
def numDoesSpec : ChangeSpec := { name := "numDoes", fn := fun _ => fun
  | [d1, d2, d3] => { results := [.lit (.bool true)], args := [d1, d2, d3] }
  | _ => none }
def numDoesRow : OpenClaim := { program := "ytkeengmcbbmhbaa", sum := "52ec844521c699a0e97a4cd8ed5a244bbf8700a4e31adda314ef4f45b94c7689", func := "hauberk/hauberklaw01.NumDoes", spec := "numDoes", recurses := true, apart := false }
def NumDoesSaid : Prop := numDoesRow.holds Try.pinned (OpenSpec.ofChange numDoesSpec)

/-- ITS FALSE NEIGHBOUR: 'it returns false'. Refute it at one input. -/
def numDoesWrong : ChangeSpec := { name := "numDoes", fn := fun _ => fun
  | [d1, d2, d3] => { results := [.lit (.bool false)], args := [d1, d2, d3] }
  | _ => none }
def NumDoesWrongFalsely : Prop := numDoesRow.holds Try.pinned (OpenSpec.ofChange numDoesWrong)

/-- 'hauberklaw01.NumAll': WHATEVER THE INPUT: true; the input reads as it did. -/
def numAllSpec : ChangeSpec := { name := "numAll", fn := fun _ => fun
  | [d1, d2] => { results := [.lit (.bool true)], args := [d1, d2] }
  | _ => none }
def numAllRow : OpenClaim := { program := "ytkeengmcbbmhbaa", sum := "52ec844521c699a0e97a4cd8ed5a244bbf8700a4e31adda314ef4f45b94c7689", func := "hauberk/hauberklaw01.NumAll", spec := "numAll", recurses := true, apart := false }
def NumAllSaid : Prop := numAllRow.holds Try.pinned (OpenSpec.ofChange numAllSpec)

/-- ITS FALSE NEIGHBOUR: 'it returns false'. Refute it at one input. -/
def numAllWrong : ChangeSpec := { name := "numAll", fn := fun _ => fun
  | [d1, d2] => { results := [.lit (.bool false)], args := [d1, d2] }
  | _ => none }
def NumAllWrongFalsely : Prop := numAllRow.holds Try.pinned (OpenSpec.ofChange numAllWrong)

/-- 'hauberklaw01.NumNarrows': WHATEVER THE INPUT: true; the input reads as it did. -/
def numNarrowsSpec : ChangeSpec := { name := "numNarrows", fn := fun _ => fun
  | [d1, d2, d3] => { results := [.lit (.bool true)], args := [d1, d2, d3] }
  | _ => none }
def numNarrowsRow : OpenClaim := { program := "ytkeengmcbbmhbaa", sum := "52ec844521c699a0e97a4cd8ed5a244bbf8700a4e31adda314ef4f45b94c7689", func := "hauberk/hauberklaw01.NumNarrows", spec := "numNarrows", recurses := true, apart := false }
def NumNarrowsSaid : Prop := numNarrowsRow.holds Try.pinned (OpenSpec.ofChange numNarrowsSpec)

/-- ITS FALSE NEIGHBOUR: 'it returns false'. Refute it at one input. -/
def numNarrowsWrong : ChangeSpec := { name := "numNarrows", fn := fun _ => fun
  | [d1, d2, d3] => { results := [.lit (.bool false)], args := [d1, d2, d3] }
  | _ => none }
def NumNarrowsWrongFalsely : Prop := numNarrowsRow.holds Try.pinned (OpenSpec.ofChange numNarrowsWrong)

/-- 'hauberklaw01.NumParts': WHATEVER THE INPUT: true; the input reads as it did. -/
def numPartsSpec : ChangeSpec := { name := "numParts", fn := fun _ => fun
  | [d1, d2] => { results := [.lit (.bool true)], args := [d1, d2] }
  | _ => none }
def numPartsRow : OpenClaim := { program := "ytkeengmcbbmhbaa", sum := "52ec844521c699a0e97a4cd8ed5a244bbf8700a4e31adda314ef4f45b94c7689", func := "hauberk/hauberklaw01.NumParts", spec := "numParts", recurses := true, apart := false }
def NumPartsSaid : Prop := numPartsRow.holds Try.pinned (OpenSpec.ofChange numPartsSpec)

/-- ITS FALSE NEIGHBOUR: 'it returns false'. Refute it at one input. -/
def numPartsWrong : ChangeSpec := { name := "numParts", fn := fun _ => fun
  | [d1, d2] => { results := [.lit (.bool false)], args := [d1, d2] }
  | _ => none }
def NumPartsWrongFalsely : Prop := numPartsRow.holds Try.pinned (OpenSpec.ofChange numPartsWrong)

/-- 'hauberklaw01.NumWhole': WHATEVER THE INPUT: true; the input reads as it did. -/
def numWholeSpec : ChangeSpec := { name := "numWhole", fn := fun _ => fun
  | [d1, d2] => { results := [.lit (.bool true)], args := [d1, d2] }
  | _ => none }
def numWholeRow : OpenClaim := { program := "ytkeengmcbbmhbaa", sum := "52ec844521c699a0e97a4cd8ed5a244bbf8700a4e31adda314ef4f45b94c7689", func := "hauberk/hauberklaw01.NumWhole", spec := "numWhole", recurses := true, apart := false }
def NumWholeSaid : Prop := numWholeRow.holds Try.pinned (OpenSpec.ofChange numWholeSpec)

/-- ITS FALSE NEIGHBOUR: 'it returns false'. Refute it at one input. -/
def numWholeWrong : ChangeSpec := { name := "numWhole", fn := fun _ => fun
  | [d1, d2] => { results := [.lit (.bool false)], args := [d1, d2] }
  | _ => none }
def NumWholeWrongFalsely : Prop := numWholeRow.holds Try.pinned (OpenSpec.ofChange numWholeWrong)

/-- 'hauberklaw01.NumConverts': WHATEVER THE INPUT: true; the input reads as it did. -/
def numConvertsSpec : ChangeSpec := { name := "numConverts", fn := fun _ => fun
  | [d1, d2, d3] => { results := [.lit (.bool true)], args := [d1, d2, d3] }
  | _ => none }
def numConvertsRow : OpenClaim := { program := "ytkeengmcbbmhbaa", sum := "52ec844521c699a0e97a4cd8ed5a244bbf8700a4e31adda314ef4f45b94c7689", func := "hauberk/hauberklaw01.NumConverts", spec := "numConverts", recurses := true, apart := false }
def NumConvertsSaid : Prop := numConvertsRow.holds Try.pinned (OpenSpec.ofChange numConvertsSpec)

/-- ITS FALSE NEIGHBOUR: 'it returns false'. Refute it at one input. -/
def numConvertsWrong : ChangeSpec := { name := "numConverts", fn := fun _ => fun
  | [d1, d2, d3] => { results := [.lit (.bool false)], args := [d1, d2, d3] }
  | _ => none }
def NumConvertsWrongFalsely : Prop := numConvertsRow.holds Try.pinned (OpenSpec.ofChange numConvertsWrong)

/-- 'hauberklaw01.NumShifts': WHATEVER THE INPUT: true; the input reads as it did. -/
def numShiftsSpec : ChangeSpec := { name := "numShifts", fn := fun _ => fun
  | [d1, d2, d3] => { results := [.lit (.bool true)], args := [d1, d2, d3] }
  | _ => none }
def numShiftsRow : OpenClaim := { program := "ytkeengmcbbmhbaa", sum := "52ec844521c699a0e97a4cd8ed5a244bbf8700a4e31adda314ef4f45b94c7689", func := "hauberk/hauberklaw01.NumShifts", spec := "numShifts", recurses := true, apart := false }
def NumShiftsSaid : Prop := numShiftsRow.holds Try.pinned (OpenSpec.ofChange numShiftsSpec)

/-- ITS FALSE NEIGHBOUR: 'it returns false'. Refute it at one input. -/
def numShiftsWrong : ChangeSpec := { name := "numShifts", fn := fun _ => fun
  | [d1, d2, d3] => { results := [.lit (.bool false)], args := [d1, d2, d3] }
  | _ => none }
def NumShiftsWrongFalsely : Prop := numShiftsRow.holds Try.pinned (OpenSpec.ofChange numShiftsWrong)

/-- 'hauberklaw01.NumMeans': WHATEVER THE INPUT: true; the input reads as it did. -/
def numMeansSpec : ChangeSpec := { name := "numMeans", fn := fun _ => fun
  | [d1, d2, d3] => { results := [.lit (.bool true)], args := [d1, d2, d3] }
  | _ => none }
def numMeansRow : OpenClaim := { program := "ytkeengmcbbmhbaa", sum := "52ec844521c699a0e97a4cd8ed5a244bbf8700a4e31adda314ef4f45b94c7689", func := "hauberk/hauberklaw01.NumMeans", spec := "numMeans", recurses := true, apart := false }
def NumMeansSaid : Prop := numMeansRow.holds Try.pinned (OpenSpec.ofChange numMeansSpec)

/-- ITS FALSE NEIGHBOUR: 'it returns false'. Refute it at one input. -/
def numMeansWrong : ChangeSpec := { name := "numMeans", fn := fun _ => fun
  | [d1, d2, d3] => { results := [.lit (.bool false)], args := [d1, d2, d3] }
  | _ => none }
def NumMeansWrongFalsely : Prop := numMeansRow.holds Try.pinned (OpenSpec.ofChange numMeansWrong)

/- THE SECOND FORM. 'bulk': how many values and letters a reading holds, each counted each time it is reached (what is shared counts as often as it is met; a slice's spare places count too). A statement '..UptoSaid' is the law's where the arguments, and the package variables that the reading takes, are together of bulk at most 1048576: NARROWER than '..Said'. Prove '..Said' where nothing that the law and all that it calls make is longer than what came in: it says more and counts as full. Else prove '..UptoSaid'. A law counts once. -/
mutual
def uptoBulk {H : Type} : DataW H → Nat
  | .lit (.string bytes) => bytes.length + 1
  | .lit _ => 1
  | .nil => 1
  | .ptr d => uptoBulk d + 1
  | .slice elems spare => uptoBulkAll elems + uptoBulkAll spare + 1
  | .agg parts => uptoBulkAll parts + 1
  | .iface _ d => uptoBulk d + 1
  | .map entries => uptoBulkEntries entries + 1
  | .held _ => 1
def uptoBulkAll {H : Type} : List (DataW H) → Nat
  | [] => 0
  | d :: r => uptoBulk d + uptoBulkAll r
def uptoBulkEntries {H : Type} : List (Lit × DataW H) → Nat
  | [] => 0
  | x :: r => uptoBulkEntry x + uptoBulkEntries r
def uptoBulkEntry {H : Type} : Lit × DataW H → Nat
  | (.string bytes, d) => bytes.length + uptoBulk d + 1
  | (_, d) => uptoBulk d + 1
 end
def uptoSmall : (H : Type) → List (DataW H) → Bool := fun _ ds => decide (uptoBulkAll ds ≤ 1048576)
def OpenSpec.upto (s : _root_.Go.ChangeSpec) : _root_.Go.OpenSpec := { _root_.Go.OpenSpec.ofChange s with cond := some uptoSmall }

/-- 'hauberklaw01.NumDoes', WHERE WHAT IT READS IS OF BULK AT MOST 1048576: true; the input reads as it did. -/
def numDoesUptoRow : OpenClaim := { program := "ytkeengmcbbmhbaa", sum := "52ec844521c699a0e97a4cd8ed5a244bbf8700a4e31adda314ef4f45b94c7689", func := "hauberk/hauberklaw01.NumDoes", spec := "numDoes", recurses := true, apart := false, narrowed := true }
def NumDoesUptoSaid : Prop := numDoesUptoRow.holds Try.pinned (OpenSpec.upto numDoesSpec)

/-- 'hauberklaw01.NumAll', WHERE WHAT IT READS IS OF BULK AT MOST 1048576: true; the input reads as it did. -/
def numAllUptoRow : OpenClaim := { program := "ytkeengmcbbmhbaa", sum := "52ec844521c699a0e97a4cd8ed5a244bbf8700a4e31adda314ef4f45b94c7689", func := "hauberk/hauberklaw01.NumAll", spec := "numAll", recurses := true, apart := false, narrowed := true }
def NumAllUptoSaid : Prop := numAllUptoRow.holds Try.pinned (OpenSpec.upto numAllSpec)

/-- 'hauberklaw01.NumNarrows', WHERE WHAT IT READS IS OF BULK AT MOST 1048576: true; the input reads as it did. -/
def numNarrowsUptoRow : OpenClaim := { program := "ytkeengmcbbmhbaa", sum := "52ec844521c699a0e97a4cd8ed5a244bbf8700a4e31adda314ef4f45b94c7689", func := "hauberk/hauberklaw01.NumNarrows", spec := "numNarrows", recurses := true, apart := false, narrowed := true }
def NumNarrowsUptoSaid : Prop := numNarrowsUptoRow.holds Try.pinned (OpenSpec.upto numNarrowsSpec)

/-- 'hauberklaw01.NumParts', WHERE WHAT IT READS IS OF BULK AT MOST 1048576: true; the input reads as it did. -/
def numPartsUptoRow : OpenClaim := { program := "ytkeengmcbbmhbaa", sum := "52ec844521c699a0e97a4cd8ed5a244bbf8700a4e31adda314ef4f45b94c7689", func := "hauberk/hauberklaw01.NumParts", spec := "numParts", recurses := true, apart := false, narrowed := true }
def NumPartsUptoSaid : Prop := numPartsUptoRow.holds Try.pinned (OpenSpec.upto numPartsSpec)

/-- 'hauberklaw01.NumWhole', WHERE WHAT IT READS IS OF BULK AT MOST 1048576: true; the input reads as it did. -/
def numWholeUptoRow : OpenClaim := { program := "ytkeengmcbbmhbaa", sum := "52ec844521c699a0e97a4cd8ed5a244bbf8700a4e31adda314ef4f45b94c7689", func := "hauberk/hauberklaw01.NumWhole", spec := "numWhole", recurses := true, apart := false, narrowed := true }
def NumWholeUptoSaid : Prop := numWholeUptoRow.holds Try.pinned (OpenSpec.upto numWholeSpec)

/-- 'hauberklaw01.NumConverts', WHERE WHAT IT READS IS OF BULK AT MOST 1048576: true; the input reads as it did. -/
def numConvertsUptoRow : OpenClaim := { program := "ytkeengmcbbmhbaa", sum := "52ec844521c699a0e97a4cd8ed5a244bbf8700a4e31adda314ef4f45b94c7689", func := "hauberk/hauberklaw01.NumConverts", spec := "numConverts", recurses := true, apart := false, narrowed := true }
def NumConvertsUptoSaid : Prop := numConvertsUptoRow.holds Try.pinned (OpenSpec.upto numConvertsSpec)

/-- 'hauberklaw01.NumShifts', WHERE WHAT IT READS IS OF BULK AT MOST 1048576: true; the input reads as it did. -/
def numShiftsUptoRow : OpenClaim := { program := "ytkeengmcbbmhbaa", sum := "52ec844521c699a0e97a4cd8ed5a244bbf8700a4e31adda314ef4f45b94c7689", func := "hauberk/hauberklaw01.NumShifts", spec := "numShifts", recurses := true, apart := false, narrowed := true }
def NumShiftsUptoSaid : Prop := numShiftsUptoRow.holds Try.pinned (OpenSpec.upto numShiftsSpec)

/-- 'hauberklaw01.NumMeans', WHERE WHAT IT READS IS OF BULK AT MOST 1048576: true; the input reads as it did. -/
def numMeansUptoRow : OpenClaim := { program := "ytkeengmcbbmhbaa", sum := "52ec844521c699a0e97a4cd8ed5a244bbf8700a4e31adda314ef4f45b94c7689", func := "hauberk/hauberklaw01.NumMeans", spec := "numMeans", recurses := true, apart := false, narrowed := true }
def NumMeansUptoSaid : Prop := numMeansUptoRow.holds Try.pinned (OpenSpec.upto numMeansSpec)

end Rows
end Go.Proofs.Ytkeengmcbbmhbaa
