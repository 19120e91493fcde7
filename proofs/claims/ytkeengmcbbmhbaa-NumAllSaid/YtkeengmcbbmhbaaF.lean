/- The walks of the document's operation Do of layer 1, whole. -/
import Derived.Test.YtkeengmcbbmhbaaE
namespace Go.Proofs.Ytkeengmcbbmhbaa
open Go.RowKit

/-- what Do hands on to rest -/
theorem ref_over (op a b r : Int) (ok : Bool) (ho : ¬ (1 ≤ op ∧ op ≤ 13)) (g0 : 0 ≤ b) (g1 : b < 18446744073709551616) (w : World)
    (h : ∀ w, Calls Try.prog 31 #[.int .i64 op, .int .u64 a, .int .u64 b] w fun e w' => e = .returned (.tuple #[.int .u64 r, .bool ok]) ∧ Grown w w') :
    Calls Try.prog 13 #[.int .i64 op, .int .u64 a, .int .u64 b] w fun e w' => e = .returned (.tuple #[.int .u64 r, .bool ok]) ∧ Grown w w' := by
  have n1 : (op == 1) = false := beq_eq_false_iff_ne.2 (by omega)
  have n2 : (op == 2) = false := beq_eq_false_iff_ne.2 (by omega)
  have n3 : (op == 3) = false := beq_eq_false_iff_ne.2 (by omega)
  have n4 : (op == 4) = false := beq_eq_false_iff_ne.2 (by omega)
  have n5 : (op == 5) = false := beq_eq_false_iff_ne.2 (by omega)
  have n6 : (op == 6) = false := beq_eq_false_iff_ne.2 (by omega)
  have n7 : (op == 7) = false := beq_eq_false_iff_ne.2 (by omega)
  have n8 : (op == 8) = false := beq_eq_false_iff_ne.2 (by omega)
  have n9 : (op == 9) = false := beq_eq_false_iff_ne.2 (by omega)
  have n10 : (op == 10) = false := beq_eq_false_iff_ne.2 (by omega)
  have n11 : (op == 11) = false := beq_eq_false_iff_ne.2 (by omega)
  have n12 : (op == 12) = false := beq_eq_false_iff_ne.2 (by omega)
  have n13 : (op == 13) = false := beq_eq_false_iff_ne.2 (by omega)
  have H := Lib.hid h
  clear ho h
  go_enter Try.func13, Try.ntmps13
  go_wp2_with fail
  refine (H.out _).mono ?_; rintro e w' ⟨rfl, hg⟩
  go_wp2_with fail
  go_ret2
  exact ⟨rfl, hg⟩

theorem ref_base (op a b : Int) (h0 : 0 ≤ a) (h1 : a < 18446744073709551616) (g0 : 0 ≤ b) (g1 : b < 18446744073709551616) (ho : 1 ≤ op ∧ op ≤ 17) (w : World) :
    Calls Try.prog 13 #[.int .i64 op, .int .u64 a, .int .u64 b] w fun e w' => e = .returned (.tuple #[.int .u64 (baseF op a b).1, .bool true]) ∧ Grown w w' := by
  by_cases h : op ≤ 13
  · rw [base_1 ho.1 h a b]
    exact ref_wide op a b ho.1 h h0 h1 g0 g1 w
  · rw [show baseF op a b = partsF op a b from by unfold baseF; rw [none_wide (by omega)]; simp]
    exact ref_over op a b _ _ (by omega) g0 g1 w fun w => rest_parts op a b (by omega) ho.2 h0 h1 g0 g1 w

theorem narrow15_in (a n : Int) (s : Bool) (h0 : 0 ≤ a) (h1 : a < 18446744073709551616) (n0 : 1 ≤ n) (n1 : n ≤ 64) (w : World) :
    Calls Try.prog 15 #[.int .u64 a, .int .i64 n, .bool s] w fun e w' => e = .returned (.tuple #[.int .u64 (nar a n s), .bool true]) ∧ w = w' := by
  have h := narrow15_any a n s h0 h1 (by omega) (by omega) w
  rw [show narF a n s = (nar a n s, 0) from if_neg (by omega)] at h
  exact h

/-- the document's second operand is the program's -/
theorem sec_eq (b : Int) (s : Bool) : nar b 32 s % 32 = b % 32 := by
  rw [nar_eq b 32 s (by omega) (by omega)]
  show (if s = true ∧ (2147483648 : Int) ≤ b % 4294967296 then U (b % 4294967296 - 4294967296) else b % 4294967296) % 32 = b % 32
  unfold U; split <;> omega

set_option maxHeartbeats 4000000 in
/-- one with W: by its row (op, the one of 64 bits, signed, its second operand) -/
theorem rest_w (op of a b c : Int) (s : Bool) (ho : (op, of, s) = (18, 1, true) ∧ c = nar b 32 true ∨ (op, of, s) = (19, 2, true) ∧ c = nar b 32 true ∨ (op, of, s) = (20, 3, true) ∧ c = b % 32 ∨ (op, of, s) = (21, 7, false) ∧ c = b % 32 ∨ (op, of, s) = (22, 8, true) ∧ c = b % 32
      ∨ (op, of, s) = (23, 11, true) ∧ c = nar b 32 true ∨ (op, of, s) = (24, 14, true) ∧ c = nar b 32 true ∨ (op, of, s) = (25, 15, false) ∧ c = nar b 32 false ∨ (op, of, s) = (26, 16, true) ∧ c = nar b 32 true ∨ (op, of, s) = (27, 17, false) ∧ c = nar b 32 false)
    (h0 : 0 ≤ a) (h1 : a < 18446744073709551616) (g0 : 0 ≤ b) (g1 : b < 18446744073709551616) (w : World) :
    Calls Try.prog 31 #[.int .i64 op, .int .u64 a, .int .u64 b] w fun e w' => e = .returned (.tuple #[.int .u64 (nar (baseF of (nar a 32 s) c).1 32 true), .bool true]) ∧ Grown w w' := by
  have c0 : 0 ≤ c := by
    rcases ho with ⟨_, rfl⟩ | ⟨_, rfl⟩ | ⟨_, rfl⟩ | ⟨_, rfl⟩ | ⟨_, rfl⟩ | ⟨_, rfl⟩ | ⟨_, rfl⟩ | ⟨_, rfl⟩ | ⟨_, rfl⟩ | ⟨_, rfl⟩ <;> first | exact nar_lo _ _ _ | omega
  have c1 : c < 18446744073709551616 := by
    rcases ho with ⟨_, rfl⟩ | ⟨_, rfl⟩ | ⟨_, rfl⟩ | ⟨_, rfl⟩ | ⟨_, rfl⟩ | ⟨_, rfl⟩ | ⟨_, rfl⟩ | ⟨_, rfl⟩ | ⟨_, rfl⟩ | ⟨_, rfl⟩ <;> first | exact nar_hi _ _ _ | omega
  have hof : 1 ≤ of ∧ of ≤ 17 := by
    rcases ho with ⟨h, _⟩ | ⟨h, _⟩ | ⟨h, _⟩ | ⟨h, _⟩ | ⟨h, _⟩ | ⟨h, _⟩ | ⟨h, _⟩ | ⟨h, _⟩ | ⟨h, _⟩ | ⟨h, _⟩ <;> (injection h with _ h; injection h with h _; omega)
  have B := Lib.hid fun w => ref_base of (nar a 32 s) c (nar_lo _ _ _) (nar_hi _ _ _) c0 c1 hof w
  have z0 := base_lo of (nar a 32 s) c (nar_lo _ _ _) c0
  have z1 := base_hi of (nar a 32 s) c (nar_lo _ _ _) (nar_hi _ _ _) c0 c1
  generalize (baseF of (nar a 32 s) c).1 = z at *
  have b15 := Lib.hid fun w => narrow15_in z 32 true z0 z1 (by omega) (by omega) w
  have NA := Lib.hid fun s w => narrow15_in a 32 s h0 h1 (by omega) (by omega) w
  have NB := Lib.hid fun s w => narrow15_in b 32 s g0 g1 (by omega) (by omega) w
  rcases ho with ⟨h, rfl⟩ | ⟨h, rfl⟩ | ⟨h, rfl⟩ | ⟨h, rfl⟩ | ⟨h, rfl⟩ | ⟨h, rfl⟩ | ⟨h, rfl⟩ | ⟨h, rfl⟩ | ⟨h, rfl⟩ | ⟨h, rfl⟩
  all_goals
    obtain ⟨rfl, rfl, rfl⟩ : _ ∧ _ ∧ _ := ⟨congrArg (·.1) h, congrArg (·.2.1) h, congrArg (·.2.2) h⟩
    clear h hof c0 c1
    go_enter Try.func31, Try.ntmps31
    go_wp2_with fail
    refine (NA.out _ _).mono ?_; rintro e w' ⟨rfl, rfl⟩
    go_wp2_with fail
    refine (NB.out _ _).mono ?_; rintro e w' ⟨rfl, rfl⟩
    go_wp2_with fail
    refine (B.out _).mono ?_; rintro e w' ⟨rfl, hg⟩
    go_wp2_with fail
    refine (b15.out _).mono ?_; rintro e w'' ⟨rfl, rfl⟩
    go_wp2_with fail
    go_ret2
    exact ⟨rfl, gtrans (by repeat (first | exact Grown.refl _ | apply Grown.drew | apply Grown.alloc)) hg⟩

/-- none of them -/
theorem rest_none (op a b : Int) (ho : op < 14 ∨ 27 < op) (w : World) :
    Calls Try.prog 31 #[.int .i64 op, .int .u64 a, .int .u64 b] w fun e w' => e = .returned (.tuple #[.int .u64 0, .bool false]) ∧ Grown w w' := by
  have n1 : (op == 14) = false := beq_eq_false_iff_ne.2 (by omega)
  have n2 : (op == 15) = false := beq_eq_false_iff_ne.2 (by omega)
  have n3 : (op == 16) = false := beq_eq_false_iff_ne.2 (by omega)
  have n4 : (op == 17) = false := beq_eq_false_iff_ne.2 (by omega)
  rcases ho with ho | ho
  all_goals
    go_enter Try.func31, Try.ntmps31
    go_wp2_with fail
    go_ret2
    exact ⟨rfl, by repeat (first | exact Grown.refl _ | apply Grown.drew | apply Grown.alloc)⟩

theorem doF_of_w (op of a b : Int) (s : Bool) (h : (baseF op a b).2 = false) (g : ofF op = (of, s, true)) (w : World)
    (hc : Calls Try.prog 31 #[.int .i64 op, .int .u64 a, .int .u64 b] w fun e w' => e = .returned (.tuple #[.int .u64 (nar (baseF of (nar a 32 s) (secF of b s)).1 32 true), .bool true]) ∧ Grown w w') :
    Calls Try.prog 31 #[.int .i64 op, .int .u64 a, .int .u64 b] w fun e w' => e = .returned (.tuple #[.int .u64 (doF op a b).1, .bool (doF op a b).2]) ∧ Grown w w' := by
  rw [doF_w op a b of s h g]; exact hc

theorem rest_all (op a b : Int) (ho : 18 ≤ op ∧ op ≤ 27) (h0 : 0 ≤ a) (h1 : a < 18446744073709551616) (g0 : 0 ≤ b) (g1 : b < 18446744073709551616) (w : World) :
    Calls Try.prog 31 #[.int .i64 op, .int .u64 a, .int .u64 b] w fun e w' => e = .returned (.tuple #[.int .u64 (doF op a b).1, .bool (doF op a b).2]) ∧ Grown w w' := by
  have s3 : ∀ s, secF 3 b s = b % 32 := fun s => sec_eq b s
  have s7 : ∀ s, secF 7 b s = b % 32 := fun s => sec_eq b s
  have s8 : ∀ s, secF 8 b s = b % 32 := fun s => sec_eq b s
  rcases cases_of op with rfl | rfl | rfl | rfl | rfl | rfl | rfl | rfl | rfl | rfl | hn
  case inr.inr.inr.inr.inr.inr.inr.inr.inr.inr => exact absurd ho hn
  all_goals refine doF_of_w _ _ a b _ rfl rfl w (rest_w _ _ a b _ _ ?_ h0 h1 g0 g1 w)
  · exact Or.inl ⟨rfl, rfl⟩
  · exact Or.inr (Or.inl ⟨rfl, rfl⟩)
  · exact Or.inr (Or.inr (Or.inl ⟨rfl, s3 _⟩))
  · exact Or.inr (Or.inr (Or.inr (Or.inl ⟨rfl, s7 _⟩)))
  · exact Or.inr (Or.inr (Or.inr (Or.inr (Or.inl ⟨rfl, s8 _⟩))))
  · exact Or.inr (Or.inr (Or.inr (Or.inr (Or.inr (Or.inl ⟨rfl, rfl⟩)))))
  · exact Or.inr (Or.inr (Or.inr (Or.inr (Or.inr (Or.inr (Or.inl ⟨rfl, rfl⟩))))))
  · exact Or.inr (Or.inr (Or.inr (Or.inr (Or.inr (Or.inr (Or.inr (Or.inl ⟨rfl, rfl⟩)))))))
  · exact Or.inr (Or.inr (Or.inr (Or.inr (Or.inr (Or.inr (Or.inr (Or.inr (Or.inl ⟨rfl, rfl⟩))))))))
  · exact Or.inr (Or.inr (Or.inr (Or.inr (Or.inr (Or.inr (Or.inr (Or.inr (Or.inr ⟨rfl, rfl⟩))))))))

/-- the document's Do is the program's -/
theorem ref_any (op a b : Int) (h0 : 0 ≤ a) (h1 : a < 18446744073709551616) (g0 : 0 ≤ b) (g1 : b < 18446744073709551616) (w : World) :
    Calls Try.prog 13 #[.int .i64 op, .int .u64 a, .int .u64 b] w fun e w' => e = .returned (.tuple #[.int .u64 (doF op a b).1, .bool (doF op a b).2]) ∧ Grown w w' := by
  by_cases hb : 1 ≤ op ∧ op ≤ 17
  · have h : (baseF op a b).2 = true := by
      rcases cases_wide' op with rfl | rfl | rfl | rfl | rfl | rfl | rfl | rfl | rfl | rfl | rfl | rfl | rfl | hn
      case inr.inr.inr.inr.inr.inr.inr.inr.inr.inr.inr.inr.inr =>
        rcases (show op = 14 ∨ op = 15 ∨ op = 16 ∨ op = 17 by omega) with rfl | rfl | rfl | rfl <;> rfl
      all_goals rfl
    rw [doF_base op a b h, h]
    exact ref_base op a b h0 h1 g0 g1 hb w
  · by_cases hw : 18 ≤ op ∧ op ≤ 27
    · exact ref_over op a b _ _ (by omega) g0 g1 w fun w => rest_all op a b hw h0 h1 g0 g1 w
    · rw [doF_none op a b (by unfold baseF; rw [none_wide (by omega), none_parts (by omega)]; rfl) (by rw [none_of hw])]
      exact ref_over op a b _ _ (by omega) g0 g1 w fun w => rest_none op a b (by omega) w

end Go.Proofs.Ytkeengmcbbmhbaa
