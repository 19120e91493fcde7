/- Package fat: a block is freed, or not: all cases. -/
import Derived.Test.YtpmbakhnamlooaaFatH
namespace Go.Proofs.Ytpmbakhnamlooaa
set_option linter.unusedVariables false
set_option linter.unusedSimpArgs false
open Go.RowKit

section
variable {w0 w w' w'' : World} {pf pw gx : Nat} {own own' own'' : Nat → Nat} {vn vp vk vs vc vr vl : Value} {regs slots : List Int} {lock key : Int}

/-- may a block be freed -/
def freeF (locks : List Int) (blocks : Int → Option (Int × Int)) (v : List Int) : Bool :=
  heldF locks (v.getD 4 0) (v.getD 3 0) && (blocks (v.getD 1 0)).isSome && (((blocks (v.getD 1 0)).getD (0, 0)).1 == v.getD 2 0) && (v.getD 0 0 == v.getD 1 0)
theorem release_any {fnv : List UInt8 → Option Value} {tops : List UInt8 → Option Int} {st : FSt} {c : Nat} (hW : FWAt w0 w pw own fnv tops st c) (hF : FrAt w own pf pw gx vn vp vk vs vc vr vl regs slots lock key) (hc : c ≤ 1000000000)
    {F : Nat → Prop} {vv : Value} {xs : List Int} (hl : xs.length = 5) (hv : RowAt w F 38 1 vv xs.length (xs.map (Value.int .u64))) (hx : ∀ x ∈ xs, is64 x) (h0 : ∀ b, F b → own b = 0) :
    Calls Try.prog 91 #[.pointer (some ⟨pf, 0, none⟩), vv] w fun e w' =>
      if freeF st.locks st.blocks xs then e = .returned (.tuple #[]) ∧ Chg own own w w' ∧ FWAt w0 w' pw own fnv tops { st with blocks := fun x => if x = xs.getD 1 0 then none else st.blocks x, locks := st.locks.set (xs.getD 4 0).toNat 0 } c
      else e = .panicked [{ v := stopV 2 0, recovered := false }] ∧ Step (fun b => w.heap.size ≤ b) w w' := by
  obtain ⟨v0, v1, v2, v3, v4, rfl⟩ := five_of xs hl
  obtain ⟨g, cap, rfl, hg, k0, k1, k2, k3, k4⟩ := five_cells hv
  have x1 := hx v1 (by simp)
  have x4 := hx v4 (by simp)
  obtain ⟨bf, bt, bm, bs, bb, ul, ui, uo, P⟩ := hW
  simp only [freeF, List.getD_cons_zero, List.getD_cons_succ]
  have em : (st.blocks v1).getD (0, 0) = (((st.blocks v1).getD (0, 0)).1, ((st.blocks v1).getD (0, 0)).2) := rfl
  by_cases e1 : heldF st.locks v4 v3 = true
  · by_cases e2 : (st.blocks v1).isSome = true
    · by_cases e3 : (((st.blocks v1).getD (0, 0)).1 == v2) = true
      · by_cases e4 : (v0 == v1) = true
        · rw [e1, e2, e3, e4]; simp only [Bool.and_self, if_true]; exact release_case5 P hF hc k0 k1 k2 k3 k4 (h0 g hg) x1 x4 em rfl e1 e2 e3 e4
        · have e4 := eq_false_of_ne_true e4
          rw [e1, e2, e3, e4]; exact release_case4 P hF hc k0 k1 k2 k3 k4 x1 x4 em rfl e1 e2 e3 e4
      · have e3 := eq_false_of_ne_true e3
        rw [e1, e2, e3]; exact release_case3 P hF hc k0 k1 k2 k3 k4 x1 x4 em rfl e1 e2 e3
    · have e2 := eq_false_of_ne_true e2
      rw [e1, e2]; exact release_case2 P hF hc k0 k1 k2 k3 k4 x1 x4 em rfl e1 e2
  · have e1 := eq_false_of_ne_true e1
    rw [e1]; exact release_case1 P hF hc k0 k1 k2 k3 k4 x1 x4 em rfl e1
end
end Go.Proofs.Ytpmbakhnamlooaa
