/- Plain laws of package fat's machine: FatShadows' code, gone through by the kernel for any four numbers. -/
import Derived.Test.YtpmbakhnamlooaaPureA
namespace Go.Proofs.Ytpmbakhnamlooaa
set_option linter.unusedVariables false
set_option linter.unusedSimpArgs false
open Go.RowKit

/-- 1, if it isn't 0 -/
def ne0 (x : Int) : Int := if 0 < x then 1 else 0
theorem xor_self {v : Int} : (doF 6 v v).1 = 0 := by
  show IntKind.u64.wrap (((BitVec.ofInt 64 v) ^^^ (BitVec.ofInt 64 v)).toNat : Int) = 0
  rw [BitVec.xor_self]
  rfl
theorem xor_zero {v : Int} (h : is64 v) : (doF 6 0 v).1 = v := by
  obtain ⟨h0, h1⟩ := h
  obtain ⟨n, rfl⟩ := Int.eq_ofNat_of_zero_le h0
  show IntKind.u64.wrap (((BitVec.ofInt 64 0) ^^^ (BitVec.ofInt 64 (n : Int))).toNat : Int) = n
  rw [show BitVec.ofInt 64 0 = 0#64 from rfl, BitVec.zero_xor, BitVec.ofInt_natCast, BitVec.toNat_ofNat, IntKind.wrap_u64]
  omega
def headC : List FIns := [insOf 31 5 0 0 0 0 [] [] 0, insOf 3 5 5 0 1 0 [] [] 0, insOf 38 0 5 0 0 0 [1, 2, 3, 4] [] 0]
def xorC (i : Nat) : List FIns := [insOf 3 (6 + i) (6 + i) (1 + i) 6 0 [] [] 0, insOf 3 (6 + i) 10 (6 + i) 5 0 [] [] 0, insOf 20 0 (6 + i) 0 0 0 [] [] 0]
def sltC (i : Nat) : List FIns := [insOf 3 (6 + i) 10 (6 + i) 5 0 [] [] 0, insOf 20 0 (6 + i) 0 0 0 [] [] 0]
def midC : List FIns := [insOf 1 0 0 0 8 0 [] [] 0, insOf 3 5 5 0 1 0 [] [] 0, insOf 37 0 5 0 0 0 [] [6, 7, 8, 9] 0]
/-- FatShadows' code -/
def shadowsC (off v0 v1 v2 v3 : Int) (clear : Bool) : List FIns :=
  constsC 0 [off, v0, v1, v2, v3] ++ headC ++ (if clear then [insOf 39 0 0 0 0 0 [] [] 0] else []) ++ [insOf 37 0 5 0 0 0 [] [6, 7, 8, 9] 0] ++ (List.range 4).flatMap xorC ++ midC ++ (List.range 4).flatMap sltC ++ [insOf 43 0 0 0 0 0 [] [] 0]
def shR (off v0 v1 v2 v3 : Int) (clear : Bool) : RunR := runU topsV [aloneF 11 [32] (shadowsC off v0 v1 v2 v3 clear)] [] 100
section
variable (v0 v1 v2 v3 : Int)
theorem sh_0f : shR 0 v0 v1 v2 v3 false = ⟨1, 0, [ne0 (doF 6 v0 v0).1 % 256, ne0 (doF 6 v1 v1).1 % 256, ne0 (doF 6 v2 v2).1 % 256, ne0 (doF 6 v3 v3).1 % 256, 0, 0, 0, 0], 33, 0⟩ := by kernel_rfl
theorem sh_0t : shR 0 v0 v1 v2 v3 true = ⟨1, 0, [ne0 (doF 6 0 v0).1 % 256, ne0 (doF 6 0 v1).1 % 256, ne0 (doF 6 0 v2).1 % 256, ne0 (doF 6 0 v3).1 % 256, 0, 0, 0, 0], 34, 0⟩ := by kernel_rfl
theorem sh_1f : shR 8 v0 v1 v2 v3 false = ⟨1, 0, [ne0 (doF 6 v0 v0).1 % 256, ne0 (doF 6 v1 v1).1 % 256, ne0 (doF 6 v2 v2).1 % 256, ne0 (doF 6 v3 v3).1 % 256, 0, 0, 0, 0], 33, 0⟩ := by kernel_rfl
theorem sh_1t : shR 8 v0 v1 v2 v3 true = ⟨1, 0, [ne0 (doF 6 0 v0).1 % 256, ne0 (doF 6 0 v1).1 % 256, ne0 (doF 6 0 v2).1 % 256, ne0 (doF 6 0 v3).1 % 256, 0, 0, 0, 0], 34, 0⟩ := by kernel_rfl
theorem sh_2f : shR 16 v0 v1 v2 v3 false = ⟨1, 0, [ne0 (doF 6 v0 v0).1 % 256, ne0 (doF 6 v1 v1).1 % 256, ne0 (doF 6 v2 v2).1 % 256, ne0 (doF 6 v3 v3).1 % 256, 0, 0, 0, 0], 33, 0⟩ := by kernel_rfl
theorem sh_2t : shR 16 v0 v1 v2 v3 true = ⟨1, 0, [ne0 (doF 6 0 v0).1 % 256, ne0 (doF 6 0 v1).1 % 256, ne0 (doF 6 0 v2).1 % 256, ne0 (doF 6 0 v3).1 % 256, 0, 0, 0, 0], 34, 0⟩ := by kernel_rfl
theorem sh_3f : shR 24 v0 v1 v2 v3 false = ⟨1, 0, [ne0 (doF 6 v0 v0).1 % 256, ne0 (doF 6 v1 v1).1 % 256, ne0 (doF 6 v2 v2).1 % 256, ne0 (doF 6 v3 v3).1 % 256, 0, 0, 0, 0], 33, 0⟩ := by kernel_rfl
theorem sh_3t : shR 24 v0 v1 v2 v3 true = ⟨1, 0, [ne0 (doF 6 0 v0).1 % 256, ne0 (doF 6 0 v1).1 % 256, ne0 (doF 6 0 v2).1 % 256, ne0 (doF 6 0 v3).1 % 256, 0, 0, 0, 0], 34, 0⟩ := by kernel_rfl
end
/-- what is put out of v -/
def shO (v : Int) (clear : Bool) : Int := if clear then ne0 v else 0
theorem ne0_mod (v : Int) : ne0 v % 256 = ne0 v := by unfold ne0; split <;> rfl
theorem shadows_run {off v0 v1 v2 v3 : Int} {clear : Bool} (ho : off = 0 ∨ off = 8 ∨ off = 16 ∨ off = 24) (h0 : is64 v0) (h1 : is64 v1) (h2 : is64 v2) (h3 : is64 v3) :
    shR off v0 v1 v2 v3 clear = ⟨1, 0, [shO v0 clear, shO v1 clear, shO v2 clear, shO v3 clear, 0, 0, 0, 0], if clear then 34 else 33, 0⟩ := by
  cases clear with
  | true =>
    rcases ho with rfl | rfl | rfl | rfl
    · rw [sh_0t, xor_zero h0, xor_zero h1, xor_zero h2, xor_zero h3, ne0_mod, ne0_mod, ne0_mod, ne0_mod]; rfl
    · rw [sh_1t, xor_zero h0, xor_zero h1, xor_zero h2, xor_zero h3, ne0_mod, ne0_mod, ne0_mod, ne0_mod]; rfl
    · rw [sh_2t, xor_zero h0, xor_zero h1, xor_zero h2, xor_zero h3, ne0_mod, ne0_mod, ne0_mod, ne0_mod]; rfl
    · rw [sh_3t, xor_zero h0, xor_zero h1, xor_zero h2, xor_zero h3, ne0_mod, ne0_mod, ne0_mod, ne0_mod]; rfl
  | false =>
    rcases ho with rfl | rfl | rfl | rfl
    · rw [sh_0f, xor_self, xor_self, xor_self, xor_self]; rfl
    · rw [sh_1f, xor_self, xor_self, xor_self, xor_self]; rfl
    · rw [sh_2f, xor_self, xor_self, xor_self, xor_self]; rfl
    · rw [sh_3f, xor_self, xor_self, xor_self, xor_self]; rfl
end Go.Proofs.Ytpmbakhnamlooaa
