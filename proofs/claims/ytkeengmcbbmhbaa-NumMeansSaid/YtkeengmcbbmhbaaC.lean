/- The walks of the document's plain functions of layer 1. -/
import Derived.Test.YtkeengmcbbmhbaaRows
import Derived.Test.YtkeengmcbbmhbaaD
import Derived.Lib.Hide
import Derived.Deep.QuietTactic
import Derived.BigQuiet
namespace Go.Proofs.Ytkeengmcbbmhbaa
open Go.RowKit

theorem gdraw {a b : World} (h : Grown a b) (n : Nat) : Grown a (b.drewN n) := h
theorem gtrans {a b c : World} (h : Grown a b) (g : Grown b c) : Grown a c := ⟨World.keptBut_trans h.1 g.1, fun x => (g.2.1 x).trans (h.2.1 x), Nat.le_trans h.2.2 g.2.2⟩
theorem gdrawn (w : World) (n : Nat) : Grown w (w.drewN n) := Grown.refl w

theorem flip {P : Program} {f : FuncId} {args : Array Value} {w : World} {v : Value} (h : Calls P f args w fun e w' => e = Ending.returned v ∧ w = w') :
    Calls P f args w fun e w' => e = Ending.returned v ∧ w' = w := h.mono fun _ _ ⟨a, b⟩ => ⟨a, b.symm⟩

theorem neg_any (a : Int) (w : World) : Calls Try.prog 29 #[.int .u64 a] w fun e w' => e = .returned (.bool (decide (9223372036854775808 ≤ a))) ∧ w = w' := by
  go_enter Try.func29, Try.ntmps29
  go_wp2
  go_ret
  exact ⟨rfl, rfl⟩

theorem flag_any (b : Bool) (w : World) : Calls Try.prog 25 #[.bool b] w fun e w' => e = .returned (.int .u64 (if b then 1 else 0)) ∧ w = w' := by
  cases b
  all_goals
    go_enter Try.func25, Try.ntmps25
    go_wp2
    go_ret
    exact ⟨rfl, rfl⟩

theorem sign_any (a : Int) (b : Bool) (w : World) : Calls Try.prog 30 #[.int .u64 a, .bool b] w fun e w' => e = .returned (.int .u64 (if b then U (0 - a) else a)) ∧ w = w' := by
  cases b
  all_goals
    go_enter Try.func30, Try.ntmps30
    go_wp2
    go_ret
    first | exact ⟨rfl, rfl⟩ | exact ⟨ret_i (wrap_U _), rfl⟩

theorem power_any (n : Int) (n0 : 0 ≤ n) (n1 : n ≤ 9223372036854775807) (w : World) : Calls Try.prog 32 #[.int .i64 n] w fun e w' => e = .returned (.int .u64 (U (2 ^ n.toNat))) ∧ w = w' := by
  obtain ⟨m, rfl⟩ := Int.eq_ofNat_of_zero_le n0
  go_enter Try.func32, Try.ntmps32
  go_wp2
  go_loop [0, 3] (fun i p => ∃ k : Nat, k ≤ m ∧ i = .int .i64 ((m : Int) - k) ∧ p = .int .u64 (U (2 ^ k))) (fun i _ => (intOf i).toNat)
  case atStart => exact ⟨0, Nat.zero_le _, by simp, rfl⟩
  case round =>
    obtain ⟨k, hk, rfl, rfl⟩ := hrel
    by_cases hlt : k < m
    · go_wp2
      go_round
      case rel => exact ⟨k + 1, by omega, by go_num, congrArg (Value.int IntKind.u64) (by rw [wrap_U, Int.pow_succ]; unfold U; omega)⟩
      case measure => simp [intOf]; omega
    · obtain rfl : m = k := by omega
      go_wp2
      go_ret
      exact ⟨rfl, rfl⟩

theorem bitof_any (a n : Int) (h0 : 0 ≤ a) (h1 : a < 18446744073709551616) (n0 : 0 ≤ n) (n1 : n ≤ 9223372036854775807) (w : World) : Calls Try.prog 35 #[.int .u64 a, .int .i64 n] w fun e w' => e = .returned (.int .u64 (a / 2 ^ n.toNat % 2)) ∧ w = w' := by
  obtain ⟨m, rfl⟩ := Int.eq_ofNat_of_zero_le n0
  go_enter Try.func35, Try.ntmps35
  go_wp2
  go_loop [0, 1] (fun p i => ∃ k : Nat, k ≤ m ∧ i = .int .i64 ((m : Int) - k) ∧ p = .int .u64 (a / 2 ^ k)) (fun _ i => (intOf i).toNat)
  case atStart => exact ⟨0, Nat.zero_le _, by simp, by simp⟩
  case round =>
    obtain ⟨k, hk, rfl, rfl⟩ := hrel
    have hq : 0 ≤ a / 2 ^ k := Int.ediv_nonneg h0 (Int.pow_nonneg (by omega))
    have hq1 : a / 2 ^ k < 18446744073709551616 := Int.lt_of_le_of_lt (Int.ediv_le_self _ h0) h1
    by_cases hlt : k < m
    · go_wp2
      go_round
      case rel => exact ⟨k + 1, by omega, by go_num, congrArg (Value.int IntKind.u64) (by rw [Int.pow_succ, Int.ediv_ediv_of_nonneg (Int.pow_nonneg (by omega))])⟩
      case measure => simp [intOf]; omega
    · obtain rfl : m = k := by omega
      go_wp2
      go_ret
      exact ⟨rfl, rfl⟩

theorem less_any (a b : Int) (h0 : 0 ≤ a) (h1 : a < 18446744073709551616) (g0 : 0 ≤ b) (g1 : b < 18446744073709551616) (w : World) :
    Calls Try.prog 20 #[.int .u64 a, .int .u64 b] w fun e w' => e = .returned (.bool (decide (S a < S b))) ∧ w = w' := by
  have hf : decide (S a < S b) = if 9223372036854775808 ≤ a then (if 9223372036854775808 ≤ b then decide (a < b) else true) else (if 9223372036854775808 ≤ b then false else decide (a < b)) := by
    rw [Bool.eq_iff_iff]; unfold S
    split <;> split <;> (repeat' split) <;> simp <;> omega
  rw [hf]; clear hf
  by_cases ha : 9223372036854775808 ≤ a <;> by_cases hb : 9223372036854775808 ≤ b
  all_goals
    first | rw [if_pos ha] | rw [if_neg ha]
    first | rw [if_pos hb] | rw [if_neg hb]
    first | have xa : decide (9223372036854775808 ≤ a) = true := decide_eq_true ha | have xa : decide (9223372036854775808 ≤ a) = false := decide_eq_false ha
    first | have xb : decide (9223372036854775808 ≤ b) = true := decide_eq_true hb | have xb : decide (9223372036854775808 ≤ b) = false := decide_eq_false hb
    go_enter Try.func20, Try.ntmps20
    go_wp2_with (go_at_call 29; refine (neg_any _ _).mono ?_; rintro e w' ⟨rfl, rfl⟩)
    go_ret
    exact ⟨rfl, rfl⟩

theorem size_any (a : Int) (h0 : 0 ≤ a) (h1 : a < 18446744073709551616) (w : World) : Calls Try.prog 27 #[.int .u64 a] w fun e w' => e = .returned (.int .u64 (if S a < 0 then - S a else S a)) ∧ w = w' := by
  by_cases h : 9223372036854775808 ≤ a
  · have xa : decide (9223372036854775808 ≤ a) = true := decide_eq_true h
    rw [show (if S a < 0 then - S a else S a) = U (0 - a) from by rw [if_pos ((S_neg a h0 h1).2 h)]; unfold U S; split <;> omega]
    go_enter Try.func27, Try.ntmps27
    go_wp2_with (go_at_call 29; refine (neg_any _ _).mono ?_; rintro e w' ⟨rfl, rfl⟩)
    go_ret
    exact ⟨ret_i ((wrap_U _).trans (by rw [Int.zero_sub])), rfl⟩
  · have xa : decide (9223372036854775808 ≤ a) = false := decide_eq_false h
    rw [show (if S a < 0 then - S a else S a) = a from by rw [if_neg (fun g => h ((S_neg a h0 h1).1 g))]; unfold S; split <;> omega]
    go_enter Try.func27, Try.ntmps27
    go_wp2_with (go_at_call 29; refine (neg_any _ _).mono ?_; rintro e w' ⟨rfl, rfl⟩)
    go_ret
    exact ⟨rfl, rfl⟩

theorem high_any (a b : Int) (h0 : 0 ≤ a) (h1 : a < 18446744073709551616) (g0 : 0 ≤ b) (g1 : b < 18446744073709551616) (w : World) :
    Calls Try.prog 28 #[.int .u64 a, .int .u64 b] w fun e w' => e = .returned (.int .u64 (a * b / 18446744073709551616)) ∧ Grown w w' := by
  go_enter Try.func28, Try.ntmps28
  go_wp2
  go_quiet (fail)
  go_wp2
  go_quiet (fail)
  go_wp2
  go_ret
  refine ⟨ret_i ?_, gdraw (gdrawn _ _) _⟩
  simp only [wrap_U]
  exact mul_hi_ref a b h0 h1 g0 g1

theorem narrow15_any (a n : Int) (s : Bool) (h0 : 0 ≤ a) (h1 : a < 18446744073709551616) (n0 : -9223372036854775808 ≤ n) (n1 : n ≤ 9223372036854775807) (w : World) :
    Calls Try.prog 15 #[.int .u64 a, .int .i64 n, .bool s] w fun e w' => e = .returned (.tuple #[.int .u64 (narF a n s).1, .bool ((narF a n s).2 == 0)]) ∧ w = w' := by
  by_cases hl : n < 1
  · have e : narF a n s = (0, 1) := by unfold narF; rw [if_pos (Or.inl hl)]
    rw [e]; clear e
    go_enter Try.func15, Try.ntmps15
    go_wp2
    go_ret2
    exact ⟨rfl, rfl⟩
  by_cases hh : 64 < n
  · have e : narF a n s = (0, 1) := by unfold narF; rw [if_pos (Or.inr hh)]
    rw [e]; clear e
    go_enter Try.func15, Try.ntmps15
    go_wp2
    go_ret2
    exact ⟨rfl, rfl⟩
  have e : narF a n s = (nar a n s, 0) := by unfold narF; rw [if_neg (by omega)]
  rw [e]; clear e
  by_cases h64 : n = 64
  · subst h64
    rw [nar_64 a s h0 h1]
    go_enter Try.func15, Try.ntmps15
    go_wp2
    go_ret2
    exact ⟨rfl, rfl⟩
  have h64' : (n == 64) = false := beq_eq_false_iff_ne.2 h64
  have pu := pow_U n (by omega)
  have pv := pow_U (n - 1) (by omega)
  have pl := pow_lo n
  have ph := pow_hi n (by omega)
  have pl2 := pow_lo (n - 1)
  rw [nar_eq a n s (by omega) (by omega)]
  have pc : ∀ w, Calls Try.prog 32 #[.int .i64 n] w fun e w' => e = .returned (.int .u64 (2 ^ n.toNat)) ∧ w = w' := by
    intro w; rw [← pu]; exact power_any n (by omega) (by omega) w
  have pd : ∀ w, Calls Try.prog 32 #[.int .i64 (n - 1)] w fun e w' => e = .returned (.int .u64 (2 ^ (n - 1).toNat)) ∧ w = w' := by
    intro w; rw [← pv]; exact power_any (n - 1) (by omega) (by omega) w
  have PC := Lib.hid pc
  have PD := Lib.hid pd
  clear pc pd pu pv h64
  generalize (2 : Int) ^ n.toNat = p at *
  generalize (2 : Int) ^ (n - 1).toNat = q at *
  have hz : ¬ p = 0 := by omega
  have x0 : 0 ≤ a % p := Int.emod_nonneg _ (by omega)
  have x1 : a % p < p := Int.emod_lt_of_pos _ (by omega)
  by_cases hc : s = true ∧ q ≤ a % p
  · obtain ⟨rfl, hq⟩ := hc
    rw [if_pos ⟨rfl, hq⟩]
    go_enter Try.func15, Try.ntmps15
    go_wp2_with fail
    refine (PC.out _).mono ?_; rintro e w' ⟨rfl, rfl⟩
    go_wp2_with fail
    refine (PD.out _).mono ?_; rintro e w' ⟨rfl, rfl⟩
    go_wp2_with fail
    refine (PC.out _).mono ?_; rintro e w' ⟨rfl, rfl⟩
    go_wp2_with fail
    go_ret2
    exact ⟨ret_ib (wrap_U _) rfl, rfl⟩
  · rw [if_neg hc]
    cases s
    · go_enter Try.func15, Try.ntmps15
      go_wp2_with fail
      refine (PC.out _).mono ?_; rintro e w' ⟨rfl, rfl⟩
      go_wp2_with fail
      go_ret2
      exact ⟨rfl, rfl⟩
    · have hq : ¬ q ≤ a % p := fun h => hc ⟨rfl, h⟩
      clear hc
      go_enter Try.func15, Try.ntmps15
      go_wp2_with fail
      refine (PC.out _).mono ?_; rintro e w' ⟨rfl, rfl⟩
      go_wp2_with fail
      refine (PD.out _).mono ?_; rintro e w' ⟨rfl, rfl⟩
      go_wp2_with fail
      go_ret2
      exact ⟨rfl, rfl⟩

theorem pow_in (n : Int) (n0 : 0 ≤ n) (n1 : n ≤ 63) (w : World) : Calls Try.prog 32 #[.int .i64 n] w fun e w' => e = .returned (.int .u64 (2 ^ n.toNat)) ∧ w = w' := by
  have h := power_any n n0 (by omega) w
  rw [pow_U n n1] at h
  exact h

/-- moved to the left -/
theorem moved_0 (a n : Int) (n0 : 0 ≤ n) (n1 : n ≤ 63) (w : World) :
    Calls Try.prog 24 #[.int .i64 0, .int .u64 a, .int .i64 n] w fun e w' => e = .returned (.int .u64 (U (a * 2 ^ n.toNat))) ∧ w = w' := by
  have pc := fun w => pow_in n n0 n1 w
  have PC := Lib.hid pc
  clear pc
  generalize (2 : Int) ^ n.toNat = p at *
  go_enter Try.func24, Try.ntmps24
  go_wp2_with fail
  refine (PC.out _).mono ?_; rintro e w' ⟨rfl, rfl⟩
  go_wp2_with fail
  go_ret
  exact ⟨ret_i (wrap_U _), rfl⟩

/-- moved to the right, with noughts, or of a number with the highest bit clear -/
theorem moved_1 (how a n : Int) (hh : how = 1 ∨ how = 2 ∧ a < 9223372036854775808) (h0 : 0 ≤ a) (h1 : a < 18446744073709551616) (n0 : 0 ≤ n) (n1 : n ≤ 63) (w : World) :
    Calls Try.prog 24 #[.int .i64 how, .int .u64 a, .int .i64 n] w fun e w' => e = .returned (.int .u64 (a / 2 ^ n.toNat)) ∧ w = w' := by
  by_cases hn : n = 0
  · subst hn
    rw [show a / 2 ^ (0 : Int).toNat = a from by simp]
    rcases hh with rfl | ⟨rfl, ha⟩
    · go_enter Try.func24, Try.ntmps24
      go_wp2
      go_ret
      exact ⟨rfl, rfl⟩
    · have xa : decide (9223372036854775808 ≤ a) = false := decide_eq_false (by omega)
      go_enter Try.func24, Try.ntmps24
      go_wp2_with (go_at_call 29; refine (neg_any _ _).mono ?_; rintro e w' ⟨rfl, rfl⟩)
      go_ret
      exact ⟨rfl, rfl⟩
  have hn1 : (n == 0) = false := beq_eq_false_iff_ne.2 hn
  have pc := fun w => pow_in n n0 n1 w
  have pl := pow_lo n
  have PC := Lib.hid pc
  clear pc hn
  generalize (2 : Int) ^ n.toNat = p at *
  have hz : ¬ p = 0 := by omega
  rcases hh with rfl | ⟨rfl, ha⟩
  · go_enter Try.func24, Try.ntmps24
    go_wp2_with fail
    refine (PC.out _).mono ?_; rintro e w' ⟨rfl, rfl⟩
    go_wp2_with fail
    go_ret
    exact ⟨rfl, rfl⟩
  · have xa : decide (9223372036854775808 ≤ a) = false := decide_eq_false (by omega)
    go_enter Try.func24, Try.ntmps24
    go_wp2_with fail
    refine (neg_any _ _).mono ?_; rintro e w' ⟨rfl, rfl⟩
    go_wp2_with fail
    refine (PC.out _).mono ?_; rintro e w' ⟨rfl, rfl⟩
    go_wp2_with fail
    go_ret
    exact ⟨rfl, rfl⟩

/-- moved to the right, with copies of the highest bit -/
theorem moved_2 (a n : Int) (ha : 9223372036854775808 ≤ a) (h1 : a < 18446744073709551616) (n0 : 0 ≤ n) (n1 : n ≤ 63) (w : World) :
    Calls Try.prog 24 #[.int .i64 2, .int .u64 a, .int .i64 n] w fun e w' => e = .returned (.int .u64 (U (S a / 2 ^ n.toNat))) ∧ w = w' := by
  have pc := fun w => pow_in n n0 n1 w
  have pl := pow_lo n
  have ph := pow_hi n n1
  have PC := Lib.hid pc
  clear pc
  generalize (2 : Int) ^ n.toNat = p at *
  have hz : ¬ p = 0 := by omega
  have xa : decide (9223372036854775808 ≤ a) = true := decide_eq_true ha
  go_enter Try.func24, Try.ntmps24
  go_wp2_with fail
  refine (neg_any _ _).mono ?_; rintro e w' ⟨rfl, rfl⟩
  go_wp2_with fail
  refine (PC.out _).mono ?_; rintro e w' ⟨rfl, rfl⟩
  go_wp2_with fail
  refine (PC.out _).mono ?_; rintro e w' ⟨rfl, rfl⟩
  go_wp2_with fail
  go_ret
  refine ⟨ret_i ?_, rfl⟩
  simp only [wrap_U]
  exact moved_eq a p ha h1 pl ph

/-- bit by bit: exclusive or, or, and -/
theorem logic_any (how : Int) (a b c : Nat) (f : Bool → Bool → Bool) (hh : how = 1 ∧ f = Bool.xor ∨ how = 2 ∧ f = Bool.or ∨ how = 3 ∧ f = Bool.and)
    (h1 : a < 2 ^ 64) (g1 : b < 2 ^ 64) (c1 : c < 2 ^ 64) (hc : ∀ i, c.testBit i = f (a.testBit i) (b.testBit i)) (w : World) :
    Calls Try.prog 26 #[.int .i64 how, .int .u64 a, .int .u64 b] w fun e w' => e = .returned (.int .u64 c) ∧ w = w' := by
  have HC := Lib.hid hc
  clear hc
  have ba : ∀ k : Nat, k < 64 → ∀ w, Calls Try.prog 35 #[.int .u64 a, .int .i64 k] w fun e w' => e = .returned (.int .u64 (a.testBit k).toNat) ∧ w = w' := by
    intro k hk w
    have h := bitof_any a k (by omega) (by omega) (by omega) (by omega) w
    rw [Int.toNat_natCast, bit_int] at h; exact h
  have bb : ∀ k : Nat, k < 64 → ∀ w, Calls Try.prog 35 #[.int .u64 b, .int .i64 k] w fun e w' => e = .returned (.int .u64 (b.testBit k).toNat) ∧ w = w' := by
    intro k hk w
    have h := bitof_any b k (by omega) (by omega) (by omega) (by omega) w
    rw [Int.toNat_natCast, bit_int] at h; exact h
  have bp : ∀ k : Nat, k < 64 → ∀ w, Calls Try.prog 32 #[.int .i64 k] w fun e w' => e = .returned (.int .u64 (U (2 ^ k))) ∧ w = w' := by
    intro k hk w
    have h := power_any k (by omega) (by omega) w
    rw [Int.toNat_natCast] at h; exact h
  have BA := Lib.hid ba
  have BB := Lib.hid bb
  have BP := Lib.hid bp
  clear ba bb bp
  have lo : ∀ k : Nat, k < 64 → ((c % 2 ^ (k + 1) : Nat) : Int) = U (((c % 2 ^ k : Nat) : Int) + (if f (a.testBit k) (b.testBit k) then U (2 ^ k) else 0)) := by
    intro k hk; rw [← HC.out k]; exact low_int c k c1 hk
  have LO := Lib.hid lo
  have hend := Nat.mod_eq_of_lt c1
  have HE := Lib.hid hend
  clear hend lo
  rcases hh with ⟨rfl, rfl⟩ | ⟨rfl, rfl⟩ | ⟨rfl, rfl⟩
  all_goals
    go_enter Try.func26, Try.ntmps26
    go_wp2_with fail
    go_loop [7, 8] (fun p i => ∃ k : Nat, k ≤ 64 ∧ i = .int .i64 k ∧ p = .int .u64 ((c % 2 ^ k : Nat) : Int)) (fun _ i => (64 - intOf i).toNat)
    case atStart => exact ⟨0, by omega, rfl, by simp [Nat.mod_one]⟩
    case round =>
      obtain ⟨k, hk, rfl, rfl⟩ := hrel
      by_cases hlt : k < 64
      · have B1 := Lib.hid (BA.out k hlt)
        have B2 := Lib.hid (BB.out k hlt)
        have B3 := Lib.hid (BP.out k hlt)
        have L1 := Lib.hid (LO.out k hlt)
        have LU : Hid (U ((c % 2 ^ k : Nat) : Int) = ((c % 2 ^ k : Nat) : Int)) := Lib.hid (U_id _ (by omega) (by have := Nat.mod_le c (2 ^ k); omega))
        generalize a.testBit k = x at *
        generalize b.testBit k = y at *
        generalize hm : ((c % 2 ^ k : Nat) : Int) = m at *
        clear hm
        generalize hm : ((c % 2 ^ (k + 1) : Nat) : Int) = m' at *
        have HM := Lib.hid hm
        clear hm
        generalize U (2 ^ k) = q at *
        cases x <;> cases y
        all_goals
          go_wp2_with fail
          refine (B1.out _).mono ?_; rintro e w' ⟨rfl, rfl⟩
          go_wp2_with fail
          refine (B2.out _).mono ?_; rintro e w' ⟨rfl, rfl⟩
          go_wp2_with (go_at_call 32; refine (B3.out _).mono ?_; rintro e w' ⟨rfl, rfl⟩)
          go_round
          case rel => exact ⟨k + 1, by omega, by go_num, congrArg (Value.int IntKind.u64) (by first | (with_reducible exact (wrap_U _).trans (HM.out.trans L1.out).symm) | (refine Eq.trans ?_ (HM.out.trans L1.out).symm; first | exact wrap_U _ | (show m = U (m + 0); rw [Int.add_zero]; exact LU.out.symm)))⟩
          case measure => simp [intOf]; omega
      · obtain rfl : k = 64 := by omega
        go_wp2_with fail
        go_ret
        exact ⟨ret_i (congrArg Int.ofNat HE.out), rfl⟩

end Go.Proofs.Ytkeengmcbbmhbaa
