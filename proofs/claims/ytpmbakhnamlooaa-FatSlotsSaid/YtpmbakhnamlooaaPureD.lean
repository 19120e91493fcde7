/- Plain laws of package fat's machine: FatSlots' units, each of the sixty gone through by the kernel. -/
import Derived.Test.YtpmbakhnamlooaaPureA
namespace Go.Proofs.Ytpmbakhnamlooaa
set_option linter.unusedVariables false
set_option linter.unusedSimpArgs false
open Go.RowKit

def slotC : List FIns :=
  [insOf 31 1 0 0 0 0 [] [] 0, insOf 36 0 1 0 0 8 [] [] 0, insOf 19 0 0 0 0 0 [] [] 4, insOf 18 0 0 0 0 0 [] [] 7, insOf 1 2 0 0 1 0 [] [] 0, insOf 3 3 0 2 2 0 [] [] 0,
   ⟨42, 0, 0, 0, 0, 0, ⟨#[102]⟩, [3], [4, 5, 6], 0⟩, insOf 35 7 1 0 0 8 [] [] 0, insOf 20 0 7 0 0 0 [] [] 0, insOf 33 8 0 0 0 0 [] [] 0, insOf 32 9 0 0 0 0 [] [] 0,
   insOf 1 2 0 0 8 0 [] [] 0, insOf 3 10 1 2 1 0 [] [] 0, insOf 34 0 0 0 0 8 [1, 1, 10, 8, 9] [] 0, insOf 43 0 0 0 0 0 [1, 8, 9] [] 0]
def slotF : FFn := ⟨⟨#[102]⟩, [0], List.replicate 11 1, [16], slotC⟩
/-- main's code, up to what stands behind -/
def slotH (n : Int) : List FIns := [insOf 1 0 0 0 n 0 [] [] 0, ⟨42, 0, 0, 0, 0, 0, ⟨#[102]⟩, [0], [1, 2, 3], 0⟩, insOf 1 4 0 0 1 0 [] [] 0, insOf 3 4 1 4 1 0 [] [] 0]
def slotM (n : Int) (behind : Bool) : List FIns := slotH n ++ ((if behind then [insOf 34 0 0 0 0 1 [1, 1, 4, 2, 3] [] 0] else []) ++ [insOf 43 0 0 0 0 0 [] [] 0])
def slotR (n : Nat) (behind : Bool) : RunR := runU topsV [aloneF 5 [] (slotM n behind), slotF] [] 2000
def slotsOk (n : Nat) (behind : Bool) : Bool := ((slotR n behind).state == (if behind then 2 else 1)) && ((slotR n behind).out == (List.range (n + 1)).map fun (i : Nat) => (i : Int)) && ((slotR n behind).code == 0)
theorem slots_0 : (slotsOk 0 true && slotsOk 0 false) = true := by kernel_rfl
theorem slots_1 : (slotsOk 1 true && slotsOk 1 false) = true := by kernel_rfl
theorem slots_2 : (slotsOk 2 true && slotsOk 2 false) = true := by kernel_rfl
theorem slots_3 : (slotsOk 3 true && slotsOk 3 false) = true := by kernel_rfl
theorem slots_4 : (slotsOk 4 true && slotsOk 4 false) = true := by kernel_rfl
theorem slots_5 : (slotsOk 5 true && slotsOk 5 false) = true := by kernel_rfl
theorem slots_6 : (slotsOk 6 true && slotsOk 6 false) = true := by kernel_rfl
theorem slots_7 : (slotsOk 7 true && slotsOk 7 false) = true := by kernel_rfl
theorem slots_8 : (slotsOk 8 true && slotsOk 8 false) = true := by kernel_rfl
theorem slots_9 : (slotsOk 9 true && slotsOk 9 false) = true := by kernel_rfl
theorem slots_10 : (slotsOk 10 true && slotsOk 10 false) = true := by kernel_rfl
theorem slots_11 : (slotsOk 11 true && slotsOk 11 false) = true := by kernel_rfl
theorem slots_12 : (slotsOk 12 true && slotsOk 12 false) = true := by kernel_rfl
theorem slots_13 : (slotsOk 13 true && slotsOk 13 false) = true := by kernel_rfl
theorem slots_14 : (slotsOk 14 true && slotsOk 14 false) = true := by kernel_rfl
theorem slots_15 : (slotsOk 15 true && slotsOk 15 false) = true := by kernel_rfl
theorem slots_16 : (slotsOk 16 true && slotsOk 16 false) = true := by kernel_rfl
theorem slots_17 : (slotsOk 17 true && slotsOk 17 false) = true := by kernel_rfl
theorem slots_18 : (slotsOk 18 true && slotsOk 18 false) = true := by kernel_rfl
theorem slots_19 : (slotsOk 19 true && slotsOk 19 false) = true := by kernel_rfl
theorem slots_20 : (slotsOk 20 true && slotsOk 20 false) = true := by kernel_rfl
theorem slots_21 : (slotsOk 21 true && slotsOk 21 false) = true := by kernel_rfl
theorem slots_22 : (slotsOk 22 true && slotsOk 22 false) = true := by kernel_rfl
theorem slots_23 : (slotsOk 23 true && slotsOk 23 false) = true := by kernel_rfl
theorem slots_24 : (slotsOk 24 true && slotsOk 24 false) = true := by kernel_rfl
theorem slots_25 : (slotsOk 25 true && slotsOk 25 false) = true := by kernel_rfl
theorem slots_26 : (slotsOk 26 true && slotsOk 26 false) = true := by kernel_rfl
theorem slots_27 : (slotsOk 27 true && slotsOk 27 false) = true := by kernel_rfl
theorem slots_28 : (slotsOk 28 true && slotsOk 28 false) = true := by kernel_rfl
theorem slots_29 : (slotsOk 29 true && slotsOk 29 false) = true := by kernel_rfl
theorem slots_all {n : Nat} (h : n < 30) : (slotsOk n true && slotsOk n false) = true := by
  rcases (by omega : n = 0 ∨ n = 1 ∨ n = 2 ∨ n = 3 ∨ n = 4 ∨ n = 5 ∨ n = 6 ∨ n = 7 ∨ n = 8 ∨ n = 9 ∨ n = 10 ∨ n = 11 ∨ n = 12 ∨ n = 13 ∨ n = 14 ∨ n = 15 ∨ n = 16 ∨ n = 17 ∨ n = 18 ∨ n = 19 ∨ n = 20 ∨ n = 21 ∨ n = 22 ∨ n = 23 ∨ n = 24 ∨ n = 25 ∨ n = 26 ∨ n = 27 ∨ n = 28 ∨ n = 29) with rfl | rfl | rfl | rfl | rfl | rfl | rfl | rfl | rfl | rfl | rfl | rfl | rfl | rfl | rfl | rfl | rfl | rfl | rfl | rfl | rfl | rfl | rfl | rfl | rfl | rfl | rfl | rfl | rfl | rfl
  · exact slots_0
  · exact slots_1
  · exact slots_2
  · exact slots_3
  · exact slots_4
  · exact slots_5
  · exact slots_6
  · exact slots_7
  · exact slots_8
  · exact slots_9
  · exact slots_10
  · exact slots_11
  · exact slots_12
  · exact slots_13
  · exact slots_14
  · exact slots_15
  · exact slots_16
  · exact slots_17
  · exact slots_18
  · exact slots_19
  · exact slots_20
  · exact slots_21
  · exact slots_22
  · exact slots_23
  · exact slots_24
  · exact slots_25
  · exact slots_26
  · exact slots_27
  · exact slots_28
  · exact slots_29
end Go.Proofs.Ytpmbakhnamlooaa
