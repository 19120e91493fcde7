/- The walks of layer 1's functions: each returns what its plain function says and leaves the world as it is. -/
import Derived.Test.YtojfgdoniajmeaaRows
import Derived.Test.YtojfgdoniajmeaaNumD
namespace Go.Proofs.Ytojfgdoniajmeaa
set_option linter.unusedVariables false
set_option linter.unusedSimpArgs false
open Go.RowKit

theorem bit_any (b : Bool) (w : World) : Calls Try.prog 96 #[.bool b] w fun e w' => e = .returned (.int .u64 (if b then 1 else 0)) ∧ w = w' := by
  cases b
  all_goals
    go_enter Try.func96, Try.ntmps96
    go_wp2
    go_ret
    exact ⟨rfl, rfl⟩

theorem mul64 (a b : Int) (h0 : 0 ≤ a) (h1 : a < 18446744073709551616) (g0 : 0 ≤ b) (g1 : b < 18446744073709551616) (w : World) :
    Calls Try.prog 95 #[.int .u64 a, .int .u64 b] w fun e w' => e = .returned (.tuple #[.int .u64 (a * b / 18446744073709551616), .int .u64 (U (a * b))]) ∧ w = w' := by
  have ka := bits_m32 a h0 h1
  have kb := bits_m32 b g0 g1
  have kc : ∀ x, bits .and .u64 (IntKind.u64.wrap x) 4294967295 = IntKind.u64.wrap x % 4294967296 := by
    intro x; rw [wrap_U]; exact bits_m32 _ (U_lo x) (U_hi x)
  go_enter Try.func95, Try.ntmps95
  go_wp2
  go_ret2
  refine ⟨ret_ii ?_ (wrap_U _), rfl⟩
  show IntKind.u64.wrap _ = _
  simp only [wrap_U]
  exact mul_hi_walk a b h0 h1 g0 g1

theorem of_any (op : Int) (w : World) : Calls Try.prog 89 #[.int .i64 op] w fun e w' => e = .returned (.tuple #[.int .i64 (ofF op).1, .bool (ofF op).2.1, .bool (ofF op).2.2]) ∧ w = w' := by
  go_enter Try.func89, Try.ntmps89
  go_wp2
  all_goals go_ret3
  all_goals simp_all [ofF]

theorem cases_wide (op : Int) : op = 1 ∨ op = 2 ∨ op = 3 ∨ op = 4 ∨ op = 5 ∨ op = 6 ∨ op = 7 ∨ op = 8 ∨ op = 9 ∨ op = 10 ∨ op = 11 ∨ op = 12 ∨ op = 13 ∨ ¬ (1 ≤ op ∧ op ≤ 13) := by omega
theorem cases_parts (op : Int) : op = 14 ∨ op = 15 ∨ op = 16 ∨ op = 17 ∨ ¬ (14 ≤ op ∧ op ≤ 17) := by omega

set_option maxHeartbeats 1000000 in
theorem wide_any (op a b : Int) (h0 : 0 ≤ a) (h1 : a < 18446744073709551616) (g0 : 0 ≤ b) (g1 : b < 18446744073709551616) (w : World) :
    Calls Try.prog 87 #[.int .i64 op, .int .u64 a, .int .u64 b] w fun e w' => e = .returned (.tuple #[.int .u64 (wideF op a b).1, .bool (wideF op a b).2]) ∧ w = w' := by
  have k63 := bits_63 b g0 g1
  have wa := wrap_S a h0 h1
  have wb := wrap_S b g0 g1
  rcases cases_wide op with rfl | rfl | rfl | rfl | rfl | rfl | rfl | rfl | rfl | rfl | rfl | rfl | rfl | hn
  case inr.inr.inr.inr.inr.inr.inr.inr.inr.inr.inr.inr.inr =>
    rw [none_wide hn]
    have n1 : (op == 1) = false := beq_eq_false_iff_ne.2 (by omega)
    have n2 : (op == 2) = false := beq_eq_false_iff_ne.2 (by omega)
    have n3 : (op == 3) = false := beq_eq_false_iff_ne.2 (by omega)
    have n4 : (op == 4) = false := beq_eq_false_iff_ne.2 (by omega)
    have n5 : (op == 5) = false := beq_eq_false_iff_ne.2 (by omega)
    have n6 : (op == 6) = false := beq_eq_false_iff_ne.2 (by omega)
    have n7 : (op == 7) = false := beq_eq_false_iff_ne.2 (by omega)
    have n8 : (op == 8) = false := beq_eq_false_iff_ne.2 (by omega)
    have n9 : (op == 9) = false := beq_eq_false_iff_ne.2 (by omega)
    have n10 : (op == 10) = false := beq_eq_false_iff_ne.2 (by omega)
    have n11 : (op == 11) = false := beq_eq_false_iff_ne.2 (by omega)
    have n12 : (op == 12) = false := beq_eq_false_iff_ne.2 (by omega)
    have n13 : (op == 13) = false := beq_eq_false_iff_ne.2 (by omega)
    clear hn
    go_enter Try.func87, Try.ntmps87
    go_wp2_with (first | (go_at_call 95; refine (mul64 _ _ (by omega) (by omega) (by omega) (by omega) _).mono ?_; rintro e w' ⟨rfl, rfl⟩))
    go_ret2
    exact ⟨rfl, rfl⟩
  all_goals
    go_enter Try.func87, Try.ntmps87
    go_wp2_with (first | (go_at_call 95; refine (mul64 _ _ (by omega) (by omega) (by omega) (by omega) _).mono ?_; rintro e w' ⟨rfl, rfl⟩) | (go_at_call 96; refine (bit_any _ _).mono ?_; rintro e w' ⟨rfl, rfl⟩))
  all_goals go_ret2
  all_goals first
    | exact ⟨rfl, rfl⟩
    | exact ⟨ret_ib (wrap_U _) rfl, rfl⟩
    | exact ⟨ret_ib (w_yes ‹_›) rfl, rfl⟩
    | exact ⟨ret_ib (w_no (Int.not_lt.2 ‹_›)) rfl, rfl⟩
    | exact ⟨ret_ib (mulh_pp a b h0 h1 g0 g1 _ _ (by first | rw [if_pos ‹_›] | rw [if_neg (by omega)]) (by first | rw [if_pos ‹_›] | rw [if_neg (by omega)])) rfl, rfl⟩

set_option maxHeartbeats 1000000 in
theorem parts_any (op a b : Int) (h0 : 0 ≤ a) (h1 : a < 18446744073709551616) (g0 : 0 ≤ b) (g1 : b < 18446744073709551616) (w : World) :
    Calls Try.prog 88 #[.int .i64 op, .int .u64 a, .int .u64 b] w fun e w' => e = .returned (.tuple #[.int .u64 (partsF op a b).1, .bool (partsF op a b).2]) ∧ w = w' := by
  have wa := wrap_S a h0 h1
  have wb := wrap_S b g0 g1
  rcases cases_parts op with rfl | rfl | rfl | rfl | hn
  case inr.inr.inr.inr =>
    rw [none_parts hn]
    have n1 : (op == 14) = false := beq_eq_false_iff_ne.2 (by omega)
    have n2 : (op == 15) = false := beq_eq_false_iff_ne.2 (by omega)
    have n3 : (op == 16) = false := beq_eq_false_iff_ne.2 (by omega)
    have n4 : (op == 17) = false := beq_eq_false_iff_ne.2 (by omega)
    clear hn
    go_enter Try.func88, Try.ntmps88
    go_wp2
    go_ret2
    exact ⟨rfl, rfl⟩
  all_goals
    by_cases hb : b = 0
    case pos =>
      subst hb
      clear wb
      go_enter Try.func88, Try.ntmps88
      go_wp2
      go_ret2
      exact ⟨rfl, rfl⟩
    have hb1 : (b == 0) = false := beq_eq_false_iff_ne.2 hb
    have hb2 := S_zero b g0 g1 hb
    go_enter Try.func88, Try.ntmps88
    go_wp2
    go_ret2
    first
      | exact ⟨ret_ib ((wrap_U _).trans ((U_wrap64 _).trans (parts_14 hb a).symm)) rfl, rfl⟩
      | exact ⟨ret_ib ((wrap_U _).trans (parts_16 hb a).symm) rfl, rfl⟩
      | exact ⟨ret_ib (parts_15 hb a).symm rfl, rfl⟩
      | exact ⟨ret_ib (parts_17 hb a).symm rfl, rfl⟩

theorem narrow_any (a n : Int) (s : Bool) (n0 : -9223372036854775808 ≤ n) (n1 : n ≤ 9223372036854775807) (w : World) :
    Calls Try.prog 63 #[.int .u64 a, .int .i64 n, .bool s] w fun e w' => e = .returned (.tuple #[.int .u64 (narF a n s).1, .int .i64 (narF a n s).2]) ∧ w = w' := by
  by_cases hl : n < 1
  · go_enter Try.func63, Try.ntmps63
    go_wp2
    go_ret2
    have e : narF a n s = (0, 1) := by unfold narF; rw [if_pos (Or.inl hl)]
    rw [e]; exact ⟨rfl, rfl⟩
  by_cases hh : 64 < n
  · go_enter Try.func63, Try.ntmps63
    go_wp2
    go_ret2
    have e : narF a n s = (0, 1) := by unfold narF; rw [if_pos (Or.inr hh)]
    rw [e]; exact ⟨rfl, rfl⟩
  have e : narF a n s = (nar a n s, 0) := by unfold narF; rw [if_neg (by omega)]
  rw [e]; clear e
  cases s
  all_goals
    go_enter Try.func63, Try.ntmps63
    go_wp2
    go_ret2
    refine ⟨ret_ii ?_ rfl, rfl⟩
    simp [nar, wrap_U, wrap64_eq, U_U]

theorem do_base (op a b : Int) (h0 : 0 ≤ a) (h1 : a < 18446744073709551616) (g0 : 0 ≤ b) (g1 : b < 18446744073709551616) (hb : (baseF op a b).2 = true) (w : World) :
    Calls Try.prog 62 #[.int .i64 op, .int .u64 a, .int .u64 b] w fun e w' => e = .returned (.tuple #[.int .u64 (baseF op a b).1, .int .i64 0]) ∧ w = w' := by
  by_cases hw : (wideF op a b).2 = true
  · have e : baseF op a b = wideF op a b := if_pos hw
    rw [e]; clear e hb
    go_enter Try.func62, Try.ntmps62
    go_wp2_with (go_at_call 87; refine (wide_any _ _ _ (by omega) (by omega) (by omega) (by omega) _).mono ?_; rintro e w' ⟨rfl, rfl⟩)
    go_ret2
    exact ⟨rfl, rfl⟩
  · have hw' : (wideF op a b).2 = false := by simpa using hw
    have e : baseF op a b = partsF op a b := if_neg hw
    rw [e] at hb ⊢; clear e hw
    go_enter Try.func62, Try.ntmps62
    go_wp2_with (first | (go_at_call 87; refine (wide_any _ _ _ (by omega) (by omega) (by omega) (by omega) _).mono ?_; rintro e w' ⟨rfl, rfl⟩) | (go_at_call 88; refine (parts_any _ _ _ (by omega) (by omega) (by omega) (by omega) _).mono ?_; rintro e w' ⟨rfl, rfl⟩))
    go_ret2
    exact ⟨rfl, rfl⟩

end Go.Proofs.Ytojfgdoniajmeaa
