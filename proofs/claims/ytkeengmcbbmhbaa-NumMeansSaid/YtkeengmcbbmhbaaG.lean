/- The fixed fact of layer 1's statements: the document's examples; and their two small helpers. -/
import Derived.Test.YtkeengmcbbmhbaaB
namespace Go.Proofs.Ytkeengmcbbmhbaa
open Go.RowKit

theorem awake_1 : doF 22 2147483648 4 = (18446744073575333888, true) := by decide +kernel
theorem awake_2 : nar 511 8 true = 18446744073709551615 := by decide +kernel

theorem awake_any (w : World) : Calls Try.prog 11 #[] w fun e w' => e = .returned (.bool true) ∧ w = w' := by
  have d := fun w => do_any 22 2147483648 4 (by omega) (by omega) (by omega) (by omega) w
  rw [awake_1] at d
  have n := fun w => narrow_in 511 8 true (by omega) (by omega) w
  rw [awake_2] at n
  have D := Lib.hid d
  have N := Lib.hid n
  clear d n
  go_enter Try.func11, Try.ntmps11
  go_wp2_with fail
  refine (D.out _).mono ?_; rintro e w' ⟨rfl, rfl⟩
  go_wp2_with fail
  refine (N.out _).mono ?_; rintro e w' ⟨rfl, rfl⟩
  go_wp2_with fail
  go_ret
  exact ⟨rfl, rfl⟩

/-- the helper 'do' -/
theorem law_do (op a b : Int) (h0 : 0 ≤ a) (h1 : a < 18446744073709551616) (g0 : 0 ≤ b) (g1 : b < 18446744073709551616) (w : World) :
    Calls Try.prog 17 #[.int .i64 op, .int .u64 a, .int .u64 b] w fun e w' => e = .returned (.int .u64 (doF op a b).1) ∧ w = w' := by
  go_enter Try.func17, Try.ntmps17
  go_wp2_with fail
  refine (do_any op a b h0 h1 g0 g1 _).mono ?_; rintro e w' ⟨rfl, rfl⟩
  go_wp2_with fail
  go_ret
  exact ⟨rfl, rfl⟩

/-- the helper 'narrow' -/
theorem law_narrow (a n : Int) (n0 : 1 ≤ n) (n1 : n ≤ 64) (w : World) :
    Calls Try.prog 16 #[.int .u64 a, .int .i64 n] w fun e w' => e = .returned (.int .u64 (nar a n true)) ∧ w = w' := by
  go_enter Try.func16, Try.ntmps16
  go_wp2_with fail
  refine (narrow_in a n true n0 n1 _).mono ?_; rintro e w' ⟨rfl, rfl⟩
  go_wp2_with fail
  go_ret
  exact ⟨rfl, rfl⟩

theorem signed_any (a : Int) (w : World) : Calls Try.prog 18 #[.int .u64 a] w fun e w' => e = .returned (.int .i64 (wrap64 a)) ∧ w = w' := by
  go_enter Try.func18, Try.ntmps18
  go_wp2_with fail
  go_ret
  exact ⟨rfl, rfl⟩
theorem unsigned_any (a : Int) (w : World) : Calls Try.prog 19 #[.int .i64 a] w fun e w' => e = .returned (.int .u64 (IntKind.u64.wrap a)) ∧ w = w' := by
  go_enter Try.func19, Try.ntmps19
  go_wp2_with fail
  go_ret
  exact ⟨rfl, rfl⟩

theorem wf_u {n : Int} (h : (Lit.int .u64 n).wf = true) : 0 ≤ n ∧ n < 18446744073709551616 := by
  simp [Lit.wf, IntKind.min, IntKind.max, IntKind.signed, IntKind.bits] at h; omega
theorem wf_i {n : Int} (h : (Lit.int .i64 n).wf = true) : -9223372036854775808 ≤ n ∧ n ≤ 9223372036854775807 := by
  simp [Lit.wf, IntKind.min, IntKind.max, IntKind.signed, IntKind.bits] at h; omega
theorem wf_8 {n : Int} (h : (Lit.int .u8 n).wf = true) : 0 ≤ n ∧ n < 256 := by
  simp [Lit.wf, IntKind.min, IntKind.max, IntKind.signed, IntKind.bits] at h; omega

theorem do_lo (op a b : Int) (h0 : 0 ≤ a) (g0 : 0 ≤ b) : 0 ≤ (doF op a b).1 := by
  unfold doF
  split
  · exact base_lo _ _ _ h0 g0
  · split
    · change 0 ≤ nar _ 32 true; exact nar_lo _ _ _
    · exact Int.le_refl 0
theorem do_hi (op a b : Int) (h0 : 0 ≤ a) (h1 : a < 18446744073709551616) (g0 : 0 ≤ b) (g1 : b < 18446744073709551616) : (doF op a b).1 < 18446744073709551616 := by
  unfold doF
  split
  · exact base_hi _ _ _ h0 h1 g0 g1
  · split
    · change nar _ 32 true < 18446744073709551616; exact nar_hi _ _ _
    · show (0 : Int) < 18446744073709551616
      omega

end Go.Proofs.Ytkeengmcbbmhbaa
