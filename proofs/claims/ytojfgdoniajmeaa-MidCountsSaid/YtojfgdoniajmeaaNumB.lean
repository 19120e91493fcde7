/- The walks of layer 1's operation Do, and of the document's plain functions. -/
import Derived.Test.YtojfgdoniajmeaaNumA
import Derived.Lib.Hide
namespace Go.Proofs.Ytojfgdoniajmeaa
set_option linter.unusedVariables false
set_option linter.unusedSimpArgs false
open Go.RowKit

theorem narrow_in (a n : Int) (s : Bool) (n0 : 1 ≤ n) (n1 : n ≤ 64) (w : World) :
    Calls Try.prog 63 #[.int .u64 a, .int .i64 n, .bool s] w fun e w' => e = .returned (.tuple #[.int .u64 (nar a n s), .int .i64 0]) ∧ w = w' := by
  have h := narrow_any a n s (by omega) (by omega) w
  rw [show narF a n s = (nar a n s, 0) from if_neg (by omega)] at h
  exact h

theorem of_in {op of : Int} {s : Bool} (ho : ofF op = (of, s, true)) (w : World) :
    Calls Try.prog 89 #[.int .i64 op] w fun e w' => e = .returned (.tuple #[.int .i64 of, .bool s, .bool true]) ∧ w = w' := by
  have h := of_any op w
  rw [ho] at h
  exact h

theorem do_w (op of a b : Int) (s : Bool) (h0 : 0 ≤ a) (h1 : a < 18446744073709551616) (g0 : 0 ≤ b) (g1 : b < 18446744073709551616)
    (ho : ofF op = (of, s, true)) (hw : (wideF op a b).2 = false) (hp : (partsF op a b).2 = false) (hbs : ∀ x y, (baseF of x y).2 = true) (w : World) :
    Calls Try.prog 62 #[.int .i64 op, .int .u64 a, .int .u64 b] w fun e w' => e = .returned (.tuple #[.int .u64 (nar (baseF of (nar a 32 s) (secF of b s)).1 32 true), .int .i64 0]) ∧ w = w' := by
  have hof := fun W => of_in ho W
  have HOF := Lib.hid hof
  have HBS := Lib.hid hbs
  have na0 := nar_lo a 32 s
  have na1 := nar_hi a 32 s
  have nb0 := nar_lo b 32 s
  have nb1 := nar_hi b 32 s
  have k31 := bits_31 (nar b 32 s) nb0 nb1
  clear hof hbs ho
  by_cases ht : of = 3 ∨ of = 7 ∨ of = 8
  · have hs : secF of b s = nar b 32 s % 32 := if_pos ht
    rw [hs]; clear hs
    rcases ht with rfl | rfl | rfl
    all_goals
      go_enter Try.func62, Try.ntmps62
      go_wp2_with (first | (go_at_call 87; refine (wide_any _ _ _ (by omega) (by omega) (by omega) (by omega) _).mono ?_; rintro e w' ⟨rfl, rfl⟩) | (go_at_call 88; refine (parts_any _ _ _ (by omega) (by omega) (by omega) (by omega) _).mono ?_; rintro e w' ⟨rfl, rfl⟩) | (go_at_call 89; refine (HOF.out _).mono ?_; rintro e w' ⟨rfl, rfl⟩) | (go_at_call 63; refine (narrow_in _ _ _ (by omega) (by omega) _).mono ?_; rintro e w' ⟨rfl, rfl⟩) | (go_at_call 62; refine (do_base _ _ _ (by omega) (by omega) (by omega) (by omega) (HBS.out _ _) _).mono ?_; rintro e w' ⟨rfl, rfl⟩))
      go_ret2
      exact ⟨rfl, rfl⟩
  · have hs : secF of b s = nar b 32 s := if_neg ht
    rw [hs]; clear hs
    have t1 : (of == 3) = false := beq_eq_false_iff_ne.2 (by omega)
    have t2 : (of == 7) = false := beq_eq_false_iff_ne.2 (by omega)
    have t3 : (of == 8) = false := beq_eq_false_iff_ne.2 (by omega)
    clear ht
    go_enter Try.func62, Try.ntmps62
    go_wp2_with (first | (go_at_call 87; refine (wide_any _ _ _ (by omega) (by omega) (by omega) (by omega) _).mono ?_; rintro e w' ⟨rfl, rfl⟩) | (go_at_call 88; refine (parts_any _ _ _ (by omega) (by omega) (by omega) (by omega) _).mono ?_; rintro e w' ⟨rfl, rfl⟩) | (go_at_call 89; refine (HOF.out _).mono ?_; rintro e w' ⟨rfl, rfl⟩) | (go_at_call 63; refine (narrow_in _ _ _ (by omega) (by omega) _).mono ?_; rintro e w' ⟨rfl, rfl⟩) | (go_at_call 62; refine (do_base _ _ _ (by omega) (by omega) (by omega) (by omega) (HBS.out _ _) _).mono ?_; rintro e w' ⟨rfl, rfl⟩))
    go_ret2
    exact ⟨rfl, rfl⟩

set_option maxHeartbeats 2000000 in
theorem do_any (op a b : Int) (h0 : 0 ≤ a) (h1 : a < 18446744073709551616) (g0 : 0 ≤ b) (g1 : b < 18446744073709551616) (w : World) :
    Calls Try.prog 62 #[.int .i64 op, .int .u64 a, .int .u64 b] w fun e w' => e = .returned (.tuple #[.int .u64 (doF op a b).1, .int .i64 (errF (doF op a b).2)]) ∧ w = w' := by
  by_cases hb : (baseF op a b).2 = true
  · refine (do_base op a b h0 h1 g0 g1 hb w).mono ?_
    rintro e w' ⟨rfl, rfl⟩
    rw [doF_base op a b hb]
    exact ⟨ret_ii rfl (by rw [hb]; rfl), rfl⟩
  have hb : (baseF op a b).2 = false := by simpa using hb
  have hw : (wideF op a b).2 = false := by
    cases h : (wideF op a b).2
    · rfl
    · unfold baseF at hb; rw [if_pos h, h] at hb; exact hb
  have hp : (partsF op a b).2 = false := by
    unfold baseF at hb; rwa [if_neg (by rw [hw]; simp)] at hb
  rcases cases_of op with rfl | rfl | rfl | rfl | rfl | rfl | rfl | rfl | rfl | rfl | hn
  case inr.inr.inr.inr.inr.inr.inr.inr.inr.inr =>
    have ho := none_of hn
    rw [doF_none op a b hb (by rw [ho])]
    clear hb hn
    go_enter Try.func62, Try.ntmps62
    go_wp2_with (first | (go_at_call 87; refine (wide_any _ _ _ (by omega) (by omega) (by omega) (by omega) _).mono ?_; rintro e w' ⟨rfl, rfl⟩) | (go_at_call 88; refine (parts_any _ _ _ (by omega) (by omega) (by omega) (by omega) _).mono ?_; rintro e w' ⟨rfl, rfl⟩) | (go_at_call 89; refine (of_any _ _).mono ?_; rintro e w' ⟨rfl, rfl⟩))
    go_ret2
    exact ⟨rfl, rfl⟩
  all_goals
    rw [doF_w _ a b _ _ hb rfl]
    exact do_w _ _ a b _ h0 h1 g0 g1 rfl hw hp (fun _ _ => rfl) w

end Go.Proofs.Ytojfgdoniajmeaa
