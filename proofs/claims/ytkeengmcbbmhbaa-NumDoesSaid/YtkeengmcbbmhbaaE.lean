/- The walks of the document's operations of layer 1. -/
import Derived.Test.YtkeengmcbbmhbaaC
namespace Go.Proofs.Ytkeengmcbbmhbaa
open Go.RowKit

theorem base_1 {op : Int} (h1 : 1 ≤ op) (h2 : op ≤ 13) (a b : Int) : baseF op a b = wideF op a b := by
  unfold baseF; rw [if_pos]
  rcases cases_wide' op with rfl | rfl | rfl | rfl | rfl | rfl | rfl | rfl | rfl | rfl | rfl | rfl | rfl | hn
  all_goals first | rfl | (exfalso; omega)

/-- operations that need no other function, or one that is told by a test -/
theorem ref_1 (op a b : Int) (ho : op = 1 ∨ op = 2 ∨ op = 4 ∨ op = 5 ∨ op = 11) (h0 : 0 ≤ a) (h1 : a < 18446744073709551616) (g0 : 0 ≤ b) (g1 : b < 18446744073709551616) (w : World) :
    Calls Try.prog 13 #[.int .i64 op, .int .u64 a, .int .u64 b] w fun e w' => e = .returned (.tuple #[.int .u64 (wideF op a b).1, .bool true]) ∧ w = w' := by
  rcases ho with rfl | rfl | rfl | rfl | rfl
  all_goals
    go_enter Try.func13, Try.ntmps13
    go_wp2_with (first | (go_at_call 25; refine (flag_any _ _).mono ?_; rintro e w' ⟨rfl, rfl⟩) | (go_at_call 20; refine (less_any _ _ h0 h1 g0 g1 _).mono ?_; rintro e w' ⟨rfl, rfl⟩))
    all_goals
      go_ret2
      first
        | exact ⟨rfl, rfl⟩
        | exact ⟨ret_ib (wrap_U _) rfl, rfl⟩
        | exact ⟨ret_ib (w_yes ‹_›) rfl, rfl⟩
        | exact ⟨ret_ib (w_no (Int.not_lt.2 ‹_›)) rfl, rfl⟩

/-- operations that are one other function of the document -/
theorem ref_2 (op a b : Int) (ho : op = 3 ∨ op = 6 ∨ op = 7 ∨ op = 8 ∨ op = 9 ∨ op = 10) (h0 : 0 ≤ a) (h1 : a < 18446744073709551616) (g0 : 0 ≤ b) (g1 : b < 18446744073709551616) (w : World) :
    Calls Try.prog 13 #[.int .i64 op, .int .u64 a, .int .u64 b] w fun e w' => e = .returned (.tuple #[.int .u64 (wideF op a b).1, .bool true]) ∧ w = w' := by
  have m0 := fun w => moved_0 a (b % 64) (by omega) (by omega) w
  have m1 := fun w => moved_1 1 a (b % 64) (Or.inl rfl) h0 h1 (by omega) (by omega) w
  have m2 : ∀ w, Calls Try.prog 24 #[.int .i64 2, .int .u64 a, .int .i64 (b % 64)] w fun e w' => e = .returned (.int .u64 (U (S a / 2 ^ (b % 64).toNat))) ∧ w = w' := by
    intro w
    by_cases ha : 9223372036854775808 ≤ a
    · exact moved_2 a (b % 64) ha h1 (by omega) (by omega) w
    · have h := moved_1 2 a (b % 64) (Or.inr ⟨rfl, by omega⟩) h0 h1 (by omega) (by omega) w
      have e : a / 2 ^ (b % 64).toNat = U (S a / 2 ^ (b % 64).toNat) := by
        have hp : (0 : Int) ≤ 2 ^ (b % 64).toNat := Int.pow_nonneg (by omega)
        have hq := Int.ediv_le_self (2 ^ (b % 64).toNat) h0
        have hr := Int.ediv_nonneg h0 hp
        unfold S; rw [if_pos (by omega), U_id _ hr (by omega)]
      rwa [e] at h
  have lg : ∀ (how : Int) (c : Int) (f : Bool → Bool → Bool), (how = 1 ∧ f = Bool.xor ∨ how = 2 ∧ f = Bool.or ∨ how = 3 ∧ f = Bool.and) → (∃ n : Nat, c = n ∧ n < 2 ^ 64 ∧ ∀ i, n.testBit i = f (a.toNat.testBit i) (b.toNat.testBit i)) →
      ∀ w, Calls Try.prog 26 #[.int .i64 how, .int .u64 a, .int .u64 b] w fun e w' => e = .returned (.int .u64 c) ∧ w = w' := by
    intro how c f hh ⟨n, hc, hn, hb⟩ w
    have h := logic_any how a.toNat b.toNat n f hh (by omega) (by omega) hn hb w
    rw [show ((a.toNat : Nat) : Int) = a from by omega, show ((b.toNat : Nat) : Int) = b from by omega] at h
    rw [hc]; exact h
  have ea : ((a.toNat : Nat) : Int) = a := by omega
  have eb : ((b.toNat : Nat) : Int) = b := by omega
  have l1 := lg 1 (bits .xor .u64 a b) _ (Or.inl ⟨rfl, rfl⟩) ⟨a.toNat ^^^ b.toNat, by rw [← xor_nat _ _ (by omega) (by omega), ea, eb], Nat.xor_lt_two_pow (by omega) (by omega), fun i => Nat.testBit_xor ..⟩
  have l2 := lg 2 (bits .or .u64 a b) _ (Or.inr (Or.inl ⟨rfl, rfl⟩)) ⟨a.toNat ||| b.toNat, by rw [← or_nat _ _ (by omega) (by omega), ea, eb], Nat.or_lt_two_pow (by omega) (by omega), fun i => Nat.testBit_or ..⟩
  have l3 := lg 3 (bits .and .u64 a b) _ (Or.inr (Or.inr ⟨rfl, rfl⟩)) ⟨a.toNat &&& b.toNat, by rw [← and_nat _ _ (by omega) (by omega), ea, eb], Nat.and_lt_two_pow _ (by omega), fun i => Nat.testBit_and ..⟩
  have M0 := Lib.hid m0
  have M1 := Lib.hid m1
  have M2 := Lib.hid m2
  have L1 := Lib.hid l1
  have L2 := Lib.hid l2
  have L3 := Lib.hid l3
  clear m0 m1 m2 lg l1 l2 l3 ea eb
  rcases ho with rfl | rfl | rfl | rfl | rfl | rfl
  all_goals
    go_enter Try.func13, Try.ntmps13
    go_wp2_with fail
    first
      | (with_reducible refine (M0.out _).mono ?_)
      | (with_reducible refine (M1.out _).mono ?_)
      | (with_reducible refine (M2.out _).mono ?_)
      | (with_reducible refine (L1.out _).mono ?_)
      | (with_reducible refine (L2.out _).mono ?_)
      | (with_reducible refine (L3.out _).mono ?_)
    rintro e w' ⟨rfl, rfl⟩
    go_wp2_with fail
    go_ret2
    exact ⟨rfl, rfl⟩

/-- the upper half of a product -/
theorem ref_13 (a b : Int) (h0 : 0 ≤ a) (h1 : a < 18446744073709551616) (g0 : 0 ≤ b) (g1 : b < 18446744073709551616) (w : World) :
    Calls Try.prog 13 #[.int .i64 13, .int .u64 a, .int .u64 b] w fun e w' => e = .returned (.tuple #[.int .u64 (wideF 13 a b).1, .bool true]) ∧ Grown w w' := by
  go_enter Try.func13, Try.ntmps13
  go_wp2_with fail
  refine (high_any _ _ h0 h1 g0 g1 _).mono ?_; rintro e w' ⟨rfl, hg⟩
  go_wp2_with fail
  go_ret2
  exact ⟨rfl, hg⟩

/-- .. of signed numbers -/
theorem ref_12 (a b : Int) (h0 : 0 ≤ a) (h1 : a < 18446744073709551616) (g0 : 0 ≤ b) (g1 : b < 18446744073709551616) (w : World) :
    Calls Try.prog 13 #[.int .i64 12, .int .u64 a, .int .u64 b] w fun e w' => e = .returned (.tuple #[.int .u64 (wideF 12 a b).1, .bool true]) ∧ Grown w w' := by
  have e12 : (wideF 12 a b).1 = U (S a * S b / 18446744073709551616) := rfl
  have sa := fun w => size_any a h0 h1 w
  have sb := fun w => size_any b g0 g1 w
  have hp := mulh_pos a b
  have hn := mulh_neg a b
  have x0 := abs_lo a
  have x1 := abs_hi a h0 h1
  have y0 := abs_lo b
  have y1 := abs_hi b g0 g1
  have na := S_neg a h0 h1
  have nb := S_neg b g0 g1
  rw [e12]; clear e12
  generalize (if S a < 0 then - S a else S a) = x at *
  generalize (if S b < 0 then - S b else S b) = y at *
  have hi := fun w => high_any x y x0 x1 y0 y1 w
  have SA := Lib.hid sa
  have SB := Lib.hid sb
  have HI := Lib.hid hi
  clear sa sb hi
  have HP := Lib.hid hp
  have HN := Lib.hid hn
  clear hp hn
  have htop := mul_top x y x0 x1 y0 y1
  have hbot : 0 ≤ x * y := Int.mul_nonneg x0 y0
  by_cases hab : 9223372036854775808 ≤ a ↔ 9223372036854775808 ≤ b
  · have hs : S a * S b = x * y := HP.out ⟨fun g => by omega, fun g => by omega⟩
    rw [hs]; clear hs na nb HN
    by_cases ha : 9223372036854775808 ≤ a
    · have xa : decide (9223372036854775808 ≤ a) = true := decide_eq_true ha
      have xb : decide (9223372036854775808 ≤ b) = true := decide_eq_true (hab.1 ha)
      clear ha hab
      go_enter Try.func13, Try.ntmps13
      go_wp2_with fail
      refine (SA.out _).mono ?_; rintro e w' ⟨rfl, rfl⟩
      go_wp2_with fail
      refine (SB.out _).mono ?_; rintro e w' ⟨rfl, rfl⟩
      go_wp2_with fail
      refine (HI.out _).mono ?_; rintro e w' ⟨rfl, hg⟩
      go_wp2_with (first | (go_at_call 29; refine (neg_any _ _).mono ?_; rintro e w' ⟨rfl, rfl⟩) | (go_at_call 30; refine (sign_any _ _ _).mono ?_; rintro e w' ⟨rfl, rfl⟩))
      go_ret2
      exact ⟨ret_ib (U_id _ (Int.ediv_nonneg hbot (by omega)) htop).symm rfl, hg⟩
    · have xa : decide (9223372036854775808 ≤ a) = false := decide_eq_false ha
      have xb : decide (9223372036854775808 ≤ b) = false := decide_eq_false (fun g => ha (hab.2 g))
      clear ha hab
      go_enter Try.func13, Try.ntmps13
      go_wp2_with fail
      refine (SA.out _).mono ?_; rintro e w' ⟨rfl, rfl⟩
      go_wp2_with fail
      refine (SB.out _).mono ?_; rintro e w' ⟨rfl, rfl⟩
      go_wp2_with fail
      refine (HI.out _).mono ?_; rintro e w' ⟨rfl, hg⟩
      go_wp2_with (first | (go_at_call 29; refine (neg_any _ _).mono ?_; rintro e w' ⟨rfl, rfl⟩) | (go_at_call 30; refine (sign_any _ _ _).mono ?_; rintro e w' ⟨rfl, rfl⟩))
      go_ret2
      exact ⟨ret_ib (U_id _ (Int.ediv_nonneg hbot (by omega)) htop).symm rfl, hg⟩
  · have hs : S a * S b = -(x * y) := HN.out (fun g => by omega)
    rw [hs]; clear hs na nb HP
    have hx : decide (9223372036854775808 ≤ a) = true ∧ decide (9223372036854775808 ≤ b) = false ∨ decide (9223372036854775808 ≤ a) = false ∧ decide (9223372036854775808 ≤ b) = true := by
      by_cases ha : 9223372036854775808 ≤ a
      · exact Or.inl ⟨decide_eq_true ha, decide_eq_false (fun g => hab ⟨fun _ => g, fun _ => ha⟩)⟩
      · exact Or.inr ⟨decide_eq_false ha, decide_eq_true (by omega)⟩
    clear hab
    by_cases hz : U (x * y) = 0
    · have kz : (IntKind.u64.wrap (x * y) == 0) = true := by rw [wrap_U, hz]; rfl
      have KT := Lib.hid (neg_top _ hz)
      clear hz
      rcases hx with ⟨xa, xb⟩ | ⟨xa, xb⟩
      all_goals
        go_enter Try.func13, Try.ntmps13
        go_wp2_with fail
        refine (SA.out _).mono ?_; rintro e w' ⟨rfl, rfl⟩
        go_wp2_with fail
        refine (SB.out _).mono ?_; rintro e w' ⟨rfl, rfl⟩
        go_wp2_with fail
        refine (HI.out _).mono ?_; rintro e w' ⟨rfl, hg⟩
        go_wp2_with (first | (go_at_call 29; refine (neg_any _ _).mono ?_; rintro e w' ⟨rfl, rfl⟩) | (go_at_call 30; refine (sign_any _ _ _).mono ?_; rintro e w' ⟨rfl, rfl⟩))
        go_ret2
        refine ⟨ret_ib ?_ rfl, hg⟩
        first
          | exact KT.out.symm
          | (simp only [wrap_U]; exact KT.out.symm)
    · have kz : (IntKind.u64.wrap (x * y) == 0) = false := by rw [wrap_U]; exact beq_eq_false_iff_ne.2 hz
      have KT := Lib.hid (neg_top' _ hz)
      clear hz
      rcases hx with ⟨xa, xb⟩ | ⟨xa, xb⟩
      all_goals
        go_enter Try.func13, Try.ntmps13
        go_wp2_with fail
        refine (SA.out _).mono ?_; rintro e w' ⟨rfl, rfl⟩
        go_wp2_with fail
        refine (SB.out _).mono ?_; rintro e w' ⟨rfl, rfl⟩
        go_wp2_with fail
        refine (HI.out _).mono ?_; rintro e w' ⟨rfl, hg⟩
        go_wp2_with (first | (go_at_call 29; refine (neg_any _ _).mono ?_; rintro e w' ⟨rfl, rfl⟩) | (go_at_call 30; refine (sign_any _ _ _).mono ?_; rintro e w' ⟨rfl, rfl⟩))
        go_ret2
        refine ⟨ret_ib ?_ rfl, hg⟩
        first
          | exact KT.out.symm
          | (simp only [wrap_U]; exact KT.out.symm)

/-- an operation from 1 to 13 -/
theorem ref_wide (op a b : Int) (ho : 1 ≤ op) (ho' : op ≤ 13) (h0 : 0 ≤ a) (h1 : a < 18446744073709551616) (g0 : 0 ≤ b) (g1 : b < 18446744073709551616) (w : World) :
    Calls Try.prog 13 #[.int .i64 op, .int .u64 a, .int .u64 b] w fun e w' => e = .returned (.tuple #[.int .u64 (wideF op a b).1, .bool true]) ∧ Grown w w' := by
  rcases cases_wide' op with rfl | rfl | rfl | rfl | rfl | rfl | rfl | rfl | rfl | rfl | rfl | rfl | rfl | hn
  case inr.inr.inr.inr.inr.inr.inr.inr.inr.inr.inr.inr.inr => omega
  case inr.inr.inr.inr.inr.inr.inr.inr.inr.inr.inr.inl => exact ref_12 a b h0 h1 g0 g1 w
  case inr.inr.inr.inr.inr.inr.inr.inr.inr.inr.inr.inr.inl => exact ref_13 a b h0 h1 g0 g1 w
  all_goals
    first
      | exact (ref_1 _ a b (by omega) h0 h1 g0 g1 w).mono fun e w' ⟨he, hw⟩ => ⟨he, hw ▸ Grown.refl _⟩
      | exact (ref_2 _ a b (by omega) h0 h1 g0 g1 w).mono fun e w' ⟨he, hw⟩ => ⟨he, hw ▸ Grown.refl _⟩

/-- quotients, and what is left -/
theorem rest_1 (op a b : Int) (ho : op = 15 ∨ op = 17) (g0 : 0 ≤ b) (h0 : 0 ≤ a) (h1 : a < 18446744073709551616) (g1 : b < 18446744073709551616) (w : World) :
    Calls Try.prog 31 #[.int .i64 op, .int .u64 a, .int .u64 b] w fun e w' => e = .returned (.tuple #[.int .u64 (partsF op a b).1, .bool true]) ∧ w = w' := by
  by_cases hb : b = 0
  · subst hb
    rcases ho with rfl | rfl
    all_goals
      go_enter Try.func31, Try.ntmps31
      go_wp2_with fail
      go_ret2
      exact ⟨rfl, rfl⟩
  · have hb1 : (b == 0) = false := beq_eq_false_iff_ne.2 hb
    rcases ho with rfl | rfl
    all_goals
      go_enter Try.func31, Try.ntmps31
      go_wp2_with fail
      go_ret2
      first
        | exact ⟨ret_ib (parts_15 hb a).symm rfl, rfl⟩
        | exact ⟨ret_ib (parts_17 hb a).symm rfl, rfl⟩

theorem rest_14 (a b : Int) (h0 : 0 ≤ a) (h1 : a < 18446744073709551616) (g0 : 0 ≤ b) (g1 : b < 18446744073709551616) (w : World) :
    Calls Try.prog 31 #[.int .i64 14, .int .u64 a, .int .u64 b] w fun e w' => e = .returned (.tuple #[.int .u64 (partsF 14 a b).1, .bool true]) ∧ Grown w w' := by
  by_cases hb : b = 0
  · subst hb
    go_enter Try.func31, Try.ntmps31
    go_wp2_with fail
    go_ret2
    exact ⟨rfl, Grown.refl _⟩
  have hb1 : (b == 0) = false := beq_eq_false_iff_ne.2 hb
  have sz := S_zero b g0 g1 hb
  rw [parts_14 hb a]
  have sa := fun w => size_any a h0 h1 w
  have sb := fun w => size_any b g0 g1 w
  have hp := tdiv_pos a b
  have hn := tdiv_neg a b
  have x0 := abs_lo a
  have x1 := abs_hi a h0 h1
  have y0 : 1 ≤ (if S b < 0 then - S b else S b) := by split <;> omega
  have y1 := abs_hi b g0 g1
  have na := S_neg a h0 h1
  have nb := S_neg b g0 g1
  clear sz
  generalize (if S a < 0 then - S a else S a) = x at *
  generalize (if S b < 0 then - S b else S b) = y at *
  have SA := Lib.hid sa
  have SB := Lib.hid sb
  clear sa sb
  have hq0 : 0 ≤ x / y := Int.ediv_nonneg x0 (by omega)
  have hq1 : x / y ≤ x := Int.ediv_le_self _ x0
  have hr : ∃ s : Bool, (decide (9223372036854775808 ≤ a) != decide (9223372036854775808 ≤ b)) = s ∧ U ((S a).tdiv (S b)) = if s then U (0 - x / y) else x / y := by
    by_cases hab : 9223372036854775808 ≤ a ↔ 9223372036854775808 ≤ b
    · refine ⟨false, by simp [hab], ?_⟩
      rw [hp ⟨fun g => by omega, fun g => by omega⟩]
      exact U_id _ hq0 (by omega)
    · refine ⟨true, by rw [bne_iff_ne]; intro k; exact hab (decide_eq_decide.1 k), ?_⟩
      rw [hn (fun g => by omega)]; simp
  obtain ⟨s, hs, hr⟩ := hr
  rw [hr]
  clear hr hp hn na nb hb
  have hs2 : (!decide (9223372036854775808 ≤ a) == decide (9223372036854775808 ≤ b)) = s := hs
  have e0 : ∀ z : Int, U (0 - z) = U (-z) := fun z => by rw [Int.zero_sub]
  have E0 := Lib.hid e0
  clear e0
  cases s
  all_goals
    go_enter Try.func31, Try.ntmps31
    go_wp2_with fail
    go_quiet ((first | (go_at_call 27; first | (with_reducible exact Calls.quiet_of_same (flip (SA.out _))) | (with_reducible exact Calls.quiet_of_same (flip (SB.out _)))) | (go_at_call 29; exact Calls.quiet_of_same (flip (neg_any _ _))) | (go_at_call 30; exact Calls.quiet_of_same (flip (sign_any _ _ _)))))
    go_wp2_with fail
    go_ret2
    first
      | exact ⟨rfl, gdrawn _ _⟩
      | exact ⟨ret_ib (E0.out _).symm rfl, gdrawn _ _⟩

theorem rest_16 (a b : Int) (h0 : 0 ≤ a) (h1 : a < 18446744073709551616) (g0 : 0 ≤ b) (g1 : b < 18446744073709551616) (w : World) :
    Calls Try.prog 31 #[.int .i64 16, .int .u64 a, .int .u64 b] w fun e w' => e = .returned (.tuple #[.int .u64 (partsF 16 a b).1, .bool true]) ∧ Grown w w' := by
  by_cases hb : b = 0
  · subst hb
    go_enter Try.func31, Try.ntmps31
    go_wp2_with fail
    go_ret2
    exact ⟨rfl, Grown.refl _⟩
  have hb1 : (b == 0) = false := beq_eq_false_iff_ne.2 hb
  have sz := S_zero b g0 g1 hb
  rw [parts_16 hb a]
  have sa := fun w => size_any a h0 h1 w
  have sb := fun w => size_any b g0 g1 w
  have hp := tmod_size a b
  have x0 := abs_lo a
  have x1 := abs_hi a h0 h1
  have y0 : 1 ≤ (if S b < 0 then - S b else S b) := by split <;> omega
  have na := S_neg a h0 h1
  clear sz
  generalize hx : (if S a < 0 then - S a else S a) = x at *
  generalize (if S b < 0 then - S b else S b) = y at *
  have SA := Lib.hid sa
  have SB := Lib.hid sb
  clear sa sb
  have hq0 : 0 ≤ x % y := Int.emod_nonneg _ (by omega)
  have hq1 : x % y < y := Int.emod_lt_of_pos _ (by omega)
  have hq2 : x % y ≤ x := by
    rw [Int.emod_def]
    have := Int.mul_nonneg (show 0 ≤ y by omega) (Int.ediv_nonneg x0 (show 0 ≤ y by omega))
    omega
  have hr : ∃ s : Bool, decide (9223372036854775808 ≤ a) = s ∧ U ((S a).tmod (S b)) = if s then U (0 - x % y) else x % y := by
    by_cases ha : 9223372036854775808 ≤ a
    · exact ⟨true, decide_eq_true ha, by rw [hp, if_pos (na.2 ha), if_pos rfl, Int.zero_sub]⟩
    · exact ⟨false, decide_eq_false ha, by rw [hp, if_neg (fun g => ha (na.1 g)), if_neg (by simp), U_id _ hq0 (by omega)]⟩
  obtain ⟨s, hs, hr⟩ := hr
  rw [hr]
  clear hr hp na hb hx
  have e0 : ∀ z : Int, U (0 - z) = U (-z) := fun z => by rw [Int.zero_sub]
  have E0 := Lib.hid e0
  clear e0
  cases s
  all_goals
    go_enter Try.func31, Try.ntmps31
    go_wp2_with fail
    go_quiet ((first | (go_at_call 27; first | (with_reducible exact Calls.quiet_of_same (flip (SA.out _))) | (with_reducible exact Calls.quiet_of_same (flip (SB.out _)))) | (go_at_call 29; exact Calls.quiet_of_same (flip (neg_any _ _))) | (go_at_call 30; exact Calls.quiet_of_same (flip (sign_any _ _ _)))))
    go_wp2_with fail
    go_ret2
    first
      | exact ⟨rfl, gdrawn _ _⟩
      | exact ⟨ret_ib (E0.out _).symm rfl, gdrawn _ _⟩

theorem rest_parts (op a b : Int) (ho : 14 ≤ op) (ho' : op ≤ 17) (h0 : 0 ≤ a) (h1 : a < 18446744073709551616) (g0 : 0 ≤ b) (g1 : b < 18446744073709551616) (w : World) :
    Calls Try.prog 31 #[.int .i64 op, .int .u64 a, .int .u64 b] w fun e w' => e = .returned (.tuple #[.int .u64 (partsF op a b).1, .bool true]) ∧ Grown w w' := by
  rcases (show op = 14 ∨ op = 16 ∨ (op = 15 ∨ op = 17) by omega) with rfl | rfl | h
  · exact rest_14 a b h0 h1 g0 g1 w
  · exact rest_16 a b h0 h1 g0 g1 w
  · exact (rest_1 op a b h g0 h0 h1 g1 w).mono fun e w' ⟨he, hw⟩ => ⟨he, hw ▸ Grown.refl _⟩

end Go.Proofs.Ytkeengmcbbmhbaa
