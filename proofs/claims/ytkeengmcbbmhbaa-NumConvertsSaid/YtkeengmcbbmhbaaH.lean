/- Plain laws of numbers for NumShifts, NumParts and NumConverts; no program in sight. -/
import Derived.Test.YtkeengmcbbmhbaaD
namespace Go.Proofs.Ytkeengmcbbmhbaa
open Go.RowKit

theorem pow_sum (x y : Int) (hx : 0 ≤ x) (hy : 0 ≤ y) : (2 : Int) ^ (x + y).toNat = 2 ^ x.toNat * 2 ^ y.toNat := by
  rw [Int.toNat_add hx hy, Int.pow_add]

theorem sll_eq (a b : Int) : (doF 3 a b).1 = U (a * 2 ^ (b % 64).toNat) := rfl
theorem srl_eq (a b : Int) : (doF 7 a b).1 = a / 2 ^ (b % 64).toNat := rfl
theorem sra_eq (a b : Int) : (doF 8 a b).1 = U (S a / 2 ^ (b % 64).toNat) := rfl

theorem sra_S (a x : Int) (h0 : 0 ≤ a) (h1 : a < 18446744073709551616) : S (U (S a / 2 ^ x.toNat)) = S a / 2 ^ x.toNat := by
  have := S_lo a h0
  have := S_hi a h1
  have hp := pow_lo x
  generalize (2 : Int) ^ x.toNat = p at *
  have e := Int.mul_ediv_add_emod (S a) p
  have r0 := Int.emod_nonneg (S a) (show p ≠ 0 by omega)
  have r1 := Int.emod_lt_of_pos (S a) (show 0 < p by omega)
  apply S_U
  · by_cases hn : 0 ≤ S a
    · have := Int.ediv_nonneg hn (show 0 ≤ p by omega); omega
    · have h := (Int.le_ediv_iff_mul_le (c := p) (a := S a) (b := S a) (by omega)).2 (by
        have := Int.mul_le_mul_of_nonneg_left hp (show 0 ≤ -S a by omega)
        rw [Int.neg_mul, Int.neg_mul] at this; omega)
      omega
  · by_cases hn : 0 ≤ S a
    · have := Int.ediv_le_self p hn; omega
    · have := Int.ediv_neg_of_neg_of_pos (show S a < 0 by omega) (show 0 < p by omega); omega

theorem comp (op a x y : Int) (ho : op = 3 ∨ op = 7 ∨ op = 8) (h0 : 0 ≤ a) (h1 : a < 18446744073709551616) (x0 : 0 ≤ x) (y0 : 0 ≤ y) (hs : x + y < 64) :
    (doF op (doF op a x).1 y).1 = (doF op a (x + y)).1 := by
  rcases ho with rfl | rfl | rfl
  · rw [sll_eq, sll_eq, sll_eq, Int.emod_eq_of_lt x0 (by omega), Int.emod_eq_of_lt y0 (by omega), Int.emod_eq_of_lt (by omega) hs, pow_sum x y x0 y0]
    unfold U
    rw [← Int.mul_assoc, Int.mul_emod (a * 2 ^ x.toNat % _), Int.emod_emod, ← Int.mul_emod]
  · rw [srl_eq, srl_eq, srl_eq, Int.emod_eq_of_lt x0 (by omega), Int.emod_eq_of_lt y0 (by omega), Int.emod_eq_of_lt (by omega) hs, pow_sum x y x0 y0]
    rw [Int.ediv_ediv_of_nonneg (Int.pow_nonneg (by omega))]
  · rw [sra_eq, sra_eq, sra_eq, Int.emod_eq_of_lt x0 (by omega), Int.emod_eq_of_lt y0 (by omega), Int.emod_eq_of_lt (by omega) hs, pow_sum x y x0 y0]
    rw [sra_S a x h0 h1, Int.ediv_ediv_of_nonneg (Int.pow_nonneg (by omega))]

theorem kept_eq (a x : Int) (x0 : 0 ≤ x) (x1 : x < 64) : (doF 7 (doF 3 a x).1 x).1 = nar a (64 - x) false := by
  rw [sll_eq, srl_eq, Int.emod_eq_of_lt x0 x1]
  unfold nar
  rw [show (64 : Int) - (64 - x) = x from by omega]; simp
theorem signed_eq (a x : Int) (x0 : 0 ≤ x) (x1 : x < 64) : (doF 8 (doF 3 a x).1 x).1 = nar a (64 - x) true := by
  rw [sll_eq, sra_eq, Int.emod_eq_of_lt x0 x1]
  unfold nar
  rw [show (64 : Int) - (64 - x) = x from by omega]; simp
theorem sra_neg (a x : Int) (h0 : 0 ≤ a) (h1 : a < 18446744073709551616) : S (doF 8 a x).1 < 0 ↔ S a < 0 := by
  rw [sra_eq, sra_S a _ h0 h1]
  have hp := pow_lo (x % 64)
  generalize (2 : Int) ^ (x % 64).toNat = p at *
  constructor
  · intro h
    by_cases hn : 0 ≤ S a
    · have := Int.ediv_nonneg hn (show 0 ≤ p by omega); omega
    · omega
  · intro h; exact Int.ediv_neg_of_neg_of_pos h (by omega)

theorem nar_congr (a b n : Int) (s : Bool) (h0 : 1 ≤ n) (h1 : n ≤ 64) (h : a % 2 ^ n.toNat = b % 2 ^ n.toNat) : nar a n s = nar b n s := by
  rw [nar_eq a n s h0 h1, nar_eq b n s h0 h1, h]
theorem U_dvd (n : Int) (h0 : 0 ≤ n) (h1 : n ≤ 64) : (2 : Int) ^ n.toNat ∣ 18446744073709551616 := ⟨_, (pow_both n h0 h1).symm⟩
theorem U_mod (a n : Int) (h0 : 0 ≤ n) (h1 : n ≤ 64) : U a % 2 ^ n.toNat = a % 2 ^ n.toNat := by
  unfold U; exact Int.emod_emod_of_dvd a (U_dvd n h0 h1)
theorem nar_mod (a n : Int) (s : Bool) (h0 : 1 ≤ n) (h1 : n ≤ 64) : nar a n s % 2 ^ n.toNat = a % 2 ^ n.toNat := by
  rw [nar_eq a n s h0 h1]
  split
  · rw [U_mod _ n (by omega) h1, Int.sub_emod_right, Int.emod_emod]
  · rw [Int.emod_emod]

theorem sec_eq' (b : Int) (s : Bool) : nar b 32 s % 32 = b % 32 := by
  rw [nar_eq b 32 s (by omega) (by omega)]
  show (if s = true ∧ (2147483648 : Int) ≤ b % 4294967296 then U (b % 4294967296 - 4294967296) else b % 4294967296) % 32 = b % 32
  unfold U; split <;> omega
theorem sllw_eq (a b : Int) : (doF 20 a b).1 = nar (U (nar a 32 true * 2 ^ (b % 32).toNat)) 32 true := by
  rw [doF_w 20 a b 3 true rfl rfl, show secF 3 b true = b % 32 from sec_eq' b true]
  show nar (U (nar a 32 true * 2 ^ (b % 32 % 64).toNat)) 32 true = _
  rw [show b % 32 % 64 = b % 32 from by omega]
theorem sllw_low (a y : Int) : (doF 20 a (y % 32)).1 = nar (doF 3 a (y % 32)).1 32 true := by
  rw [sllw_eq, sll_eq, show y % 32 % 64 = y % 32 from by omega, show y % 32 % 32 = y % 32 from by omega]
  refine nar_congr _ _ 32 true (by omega) (by omega) ?_
  rw [U_mod _ 32 (by omega) (by omega), U_mod _ 32 (by omega) (by omega), Int.mul_emod, nar_mod a 32 true (by omega) (by omega), ← Int.mul_emod]

/-- a quotient times the second, and what is left -/
theorem parts_s (a b : Int) (h0 : 0 ≤ a) (h1 : a < 18446744073709551616) (g0 : 0 ≤ b) (g1 : b < 18446744073709551616) :
    U (U ((partsF 14 a b).1 * b) + (partsF 16 a b).1) = a := by
  by_cases hb : b = 0
  · subst hb
    show U (U (18446744073709551615 * 0) + a) = a
    unfold U; omega
  · rw [parts_14 hb, parts_16 hb]
    have e := Int.tdiv_mul_add_tmod (S a) (S b)
    have eb : b = S b + 18446744073709551616 * (if 9223372036854775808 ≤ b then 1 else 0) := by unfold S; split <;> split <;> omega
    have hu : U (U (U ((S a).tdiv (S b)) * b) + U ((S a).tmod (S b))) = U ((S a).tdiv (S b) * S b + (S a).tmod (S b)) := by
      have e1 : U (U ((S a).tdiv (S b)) * b) = U ((S a).tdiv (S b) * S b) := by
        unfold U
        rw [Int.mul_emod, Int.emod_emod, ← Int.mul_emod]
        generalize (S a).tdiv (S b) = t
        conv => lhs; rw [eb]
        rw [Int.mul_add, ← Int.mul_assoc, Int.mul_comm _ 18446744073709551616, Int.mul_assoc, Int.add_mul_emod_self_left]
      rw [e1]; unfold U
      rw [← Int.add_emod]
    rw [hu, e]; exact U_S a h0 h1
theorem parts_u (a b : Int) (h0 : 0 ≤ a) (h1 : a < 18446744073709551616) :
    U (U ((partsF 15 a b).1 * b) + (partsF 17 a b).1) = a := by
  by_cases hb : b = 0
  · subst hb
    show U (U (18446744073709551615 * 0) + a) = a
    unfold U; omega
  · rw [parts_15 hb, parts_17 hb]
    have e := Int.ediv_mul_add_emod a b
    have hu : U (U (a / b * b) + a % b) = U (a / b * b + a % b) := by unfold U; rw [Int.emod_add_emod]
    rw [hu, e]; exact U_id a h0 h1

theorem nar32_mod (a : Int) (s : Bool) : nar a 32 s % 4294967296 = a % 4294967296 := nar_mod a 32 s (by omega) (by omega)
theorem U32_mod (a : Int) : U a % 4294967296 = a % 4294967296 := U_mod a 32 (by omega) (by omega)
theorem nar32_congr {a b : Int} (h : a % 4294967296 = b % 4294967296) : nar a 32 true = nar b 32 true := nar_congr a b 32 true (by omega) (by omega) h
theorem mulw_mod (a b : Int) : (doF 23 a b).1 % 4294967296 = a * b % 4294967296 := by
  rw [doF_w 23 a b 11 true rfl rfl]
  show nar (U (nar a 32 true * nar b 32 true)) 32 true % 4294967296 = _
  rw [nar32_mod, U32_mod, Int.mul_emod, nar32_mod, nar32_mod, ← Int.mul_emod]
theorem addw_eq (a b : Int) : (doF 18 a b).1 = nar (a + b) 32 true := by
  rw [doF_w 18 a b 1 true rfl rfl]
  show nar (U (nar a 32 true + nar b 32 true)) 32 true = _
  refine nar32_congr ?_
  rw [U32_mod, Int.add_emod, nar32_mod, nar32_mod, ← Int.add_emod]
theorem mulw_eq (a b : Int) : (doF 23 a b).1 = nar (a * b) 32 true := by
  rw [doF_w 23 a b 11 true rfl rfl]
  show nar (U (nar a 32 true * nar b 32 true)) 32 true = _
  refine nar32_congr ?_
  rw [U32_mod, Int.mul_emod, nar32_mod, nar32_mod, ← Int.mul_emod]

/-- of the 32-bit ones too -/
theorem parts_w (a b q r : Int) (s : Bool) (x y q' r' : Int) (hx : x = nar a 32 s) (hy : y = nar b 32 s)
    (e : U (U (q' * y) + r') = x) (eq : q = nar q' 32 true) (er : r = nar r' 32 true) : (doF 18 (doF 23 q b).1 r).1 = nar a 32 true := by
  rw [addw_eq]
  refine nar32_congr ?_
  have h1 : ((doF 23 q b).1 + r) % 4294967296 = (q' * y + r') % 4294967296 := by
    rw [Int.add_emod, mulw_mod, eq, er, nar32_mod, ← Int.add_emod, Int.add_emod, Int.mul_emod, nar32_mod]
    rw [show b % 4294967296 = y % 4294967296 from by rw [hy, nar32_mod], ← Int.mul_emod, ← Int.add_emod]
  have h2 : x % 4294967296 = (q' * y + r') % 4294967296 := by
    rw [← e, U32_mod, Int.add_emod, U32_mod, ← Int.add_emod]
  rw [h1, ← h2, hx, nar32_mod]

theorem parts_1 (a b : Int) (h0 : 0 ≤ a) (h1 : a < 18446744073709551616) (g0 : 0 ≤ b) (g1 : b < 18446744073709551616) : (doF 1 (doF 11 (doF 14 a b).1 b).1 (doF 16 a b).1).1 = a :=
  parts_s a b h0 h1 g0 g1
theorem parts_2 (a b : Int) (h0 : 0 ≤ a) (h1 : a < 18446744073709551616) : (doF 1 (doF 11 (doF 15 a b).1 b).1 (doF 17 a b).1).1 = a :=
  parts_u a b h0 h1
theorem parts_3 (a b : Int) : (doF 18 (doF 23 (doF 24 a b).1 b).1 (doF 26 a b).1).1 = nar a 32 true :=
  parts_w a b _ _ true (nar a 32 true) (nar b 32 true) (partsF 14 (nar a 32 true) (nar b 32 true)).1 (partsF 16 (nar a 32 true) (nar b 32 true)).1 rfl rfl
    (parts_s _ _ (nar_lo _ _ _) (nar_hi _ _ _) (nar_lo _ _ _) (nar_hi _ _ _)) (by rw [doF_w 24 a b 14 true rfl rfl]; rfl) (by rw [doF_w 26 a b 16 true rfl rfl]; rfl)
theorem parts_4 (a b : Int) : (doF 18 (doF 23 (doF 25 a b).1 b).1 (doF 27 a b).1).1 = nar a 32 true :=
  parts_w a b _ _ false (nar a 32 false) (nar b 32 false) (partsF 15 (nar a 32 false) (nar b 32 false)).1 (partsF 17 (nar a 32 false) (nar b 32 false)).1 rfl rfl
    (parts_u _ _ (nar_lo _ _ _) (nar_hi _ _ _)) (by rw [doF_w 25 a b 15 false rfl rfl]; rfl) (by rw [doF_w 27 a b 17 false rfl rfl]; rfl)

theorem pow_dvd (n m : Int) (h : n ≤ m) : (2 : Int) ^ n.toNat ∣ 2 ^ m.toNat :=
  ⟨2 ^ (m.toNat - n.toNat), by rw [← Int.pow_add]; congr 1; omega⟩
theorem pow_le (n m : Int) (h : n ≤ m) : (2 : Int) ^ n.toNat ≤ 2 ^ m.toNat := Int.le_of_dvd (by have := pow_lo m; omega) (pow_dvd n m h)

/-- narrowed again, to as many bits or more -/
theorem nar_more (a n m : Int) (h0 : 1 ≤ n) (h1 : n ≤ m) (h2 : m ≤ 64) : nar (nar a n true) m true = nar a n true := by
  rw [nar_eq (nar a n true) m true (by omega) h2, nar_eq a n true h0 (by omega)]
  have hn := pow_two n h0
  have hm := pow_two m (by omega)
  have hle := pow_le (n - 1) (m - 1) (by omega)
  have hp := pow_lo (n - 1)
  have hM := pow_both m (by omega) h2
  have hq := pow_lo (64 - m)
  have x0 : 0 ≤ a % 2 ^ n.toNat := Int.emod_nonneg _ (by have := pow_lo n; omega)
  have x1 : a % 2 ^ n.toNat < 2 ^ n.toNat := Int.emod_lt_of_pos _ (by have := pow_lo n; omega)
  have hU := U_mod (a % 2 ^ n.toNat - 2 ^ n.toNat) m (by omega) h2
  generalize a % 2 ^ n.toNat = x at *
  generalize (2 : Int) ^ n.toNat = N at *
  generalize (2 : Int) ^ m.toNat = M at *
  generalize (2 : Int) ^ (n - 1).toNat = N' at *
  generalize (2 : Int) ^ (m - 1).toNat = M' at *
  by_cases h : N' ≤ x
  · have hi : (if true = true ∧ N' ≤ x then U (x - N) else x) = U (x - N) := if_pos ⟨rfl, h⟩
    rw [hi]
    have e : (x - N) % M = x - N + M := by
      rw [← Int.add_emod_right]; exact Int.emod_eq_of_lt (by omega) (by omega)
    rw [hU, e, if_pos ⟨rfl, by omega⟩]
    congr 1; omega
  · have hi : (if true = true ∧ N' ≤ x then U (x - N) else x) = x := if_neg (fun k => h k.2)
    rw [hi, Int.emod_eq_of_lt x0 (by omega), if_neg (fun k => by have := k.2; omega)]
theorem nar_less (a n m : Int) (h0 : 1 ≤ n) (h1 : n ≤ m) (h2 : m ≤ 64) : nar (nar a m true) n true = nar a n true := by
  refine nar_congr _ _ n true h0 (by omega) ?_
  rw [← Int.emod_emod_of_dvd (nar a m true) (pow_dvd n m h1), nar_mod a m true (by omega) h2, Int.emod_emod_of_dvd a (pow_dvd n m h1)]
theorem nar_zero (a n : Int) (h0 : 1 ≤ n) (h2 : n ≤ 64) : nar (nar a n false) n true = nar a n true := by
  refine nar_congr _ _ n true h0 h2 ?_
  rw [nar_mod a n false h0 h2]

theorem nat_and_mod (a b c d n : Nat) (h : a % 2 ^ n = c % 2 ^ n) (g : b % 2 ^ n = d % 2 ^ n) : (a &&& b) % 2 ^ n = (c &&& d) % 2 ^ n := by
  rw [Nat.and_mod_two_pow, h, g, ← Nat.and_mod_two_pow]
theorem nat_or_mod (a b c d n : Nat) (h : a % 2 ^ n = c % 2 ^ n) (g : b % 2 ^ n = d % 2 ^ n) : (a ||| b) % 2 ^ n = (c ||| d) % 2 ^ n := by
  rw [Nat.or_mod_two_pow, h, g, ← Nat.or_mod_two_pow]
theorem nat_xor_mod (a b c d n : Nat) (h : a % 2 ^ n = c % 2 ^ n) (g : b % 2 ^ n = d % 2 ^ n) : (a ^^^ b) % 2 ^ n = (c ^^^ d) % 2 ^ n := by
  rw [Nat.xor_mod_two_pow, h, g, ← Nat.xor_mod_two_pow]

/-- operations that don't hang on whether their operands are narrowed ahead -/
theorem op_mod (op a b c d n : Int) (ho : op = 1 ∨ op = 2 ∨ op = 11 ∨ op = 10 ∨ op = 9 ∨ op = 6) (h0 : 1 ≤ n) (h1 : n ≤ 64)
    (a0 : 0 ≤ a ∧ a < 18446744073709551616) (b0 : 0 ≤ b ∧ b < 18446744073709551616) (c0 : 0 ≤ c ∧ c < 18446744073709551616) (d0 : 0 ≤ d ∧ d < 18446744073709551616)
    (h : a % 2 ^ n.toNat = c % 2 ^ n.toNat) (g : b % 2 ^ n.toNat = d % 2 ^ n.toNat) : (doF op a b).1 % 2 ^ n.toNat = (doF op c d).1 % 2 ^ n.toNat := by
  have cast : ∀ x y : Nat, (x : Int) % 2 ^ n.toNat = (y : Int) % 2 ^ n.toNat → x % 2 ^ n.toNat = y % 2 ^ n.toNat := by
    intro x y k; exact_mod_cast k
  have back : ∀ x y : Nat, x % 2 ^ n.toNat = y % 2 ^ n.toNat → (x : Int) % 2 ^ n.toNat = (y : Int) % 2 ^ n.toNat := by
    intro x y k; exact_mod_cast k
  rcases ho with rfl | rfl | rfl | rfl | rfl | rfl
  · show U (a + b) % _ = U (c + d) % _
    rw [U_mod _ n (by omega) h1, U_mod _ n (by omega) h1, Int.add_emod, h, g, ← Int.add_emod]
  · show U (a - b) % _ = U (c - d) % _
    rw [U_mod _ n (by omega) h1, U_mod _ n (by omega) h1, Int.sub_emod, h, g, ← Int.sub_emod]
  · show U (a * b) % _ = U (c * d) % _
    rw [U_mod _ n (by omega) h1, U_mod _ n (by omega) h1, Int.mul_emod, h, g, ← Int.mul_emod]
  all_goals
    obtain ⟨a, rfl⟩ := Int.eq_ofNat_of_zero_le a0.1
    obtain ⟨b, rfl⟩ := Int.eq_ofNat_of_zero_le b0.1
    obtain ⟨c, rfl⟩ := Int.eq_ofNat_of_zero_le c0.1
    obtain ⟨d, rfl⟩ := Int.eq_ofNat_of_zero_le d0.1
  · show bits .and .u64 a b % _ = bits .and .u64 c d % _
    rw [and_nat _ _ (by omega) (by omega), and_nat _ _ (by omega) (by omega)]
    exact back _ _ (nat_and_mod _ _ _ _ _ (cast _ _ h) (cast _ _ g))
  · show bits .or .u64 a b % _ = bits .or .u64 c d % _
    rw [or_nat _ _ (by omega) (by omega), or_nat _ _ (by omega) (by omega)]
    exact back _ _ (nat_or_mod _ _ _ _ _ (cast _ _ h) (cast _ _ g))
  · show bits .xor .u64 a b % _ = bits .xor .u64 c d % _
    rw [xor_nat _ _ (by omega) (by omega), xor_nat _ _ (by omega) (by omega)]
    exact back _ _ (nat_xor_mod _ _ _ _ _ (cast _ _ h) (cast _ _ g))

theorem op_nar (op a b n : Int) (ho : op = 1 ∨ op = 2 ∨ op = 11 ∨ op = 10 ∨ op = 9 ∨ op = 6) (h0 : 1 ≤ n) (h1 : n ≤ 64)
    (a0 : 0 ≤ a ∧ a < 18446744073709551616) (b0 : 0 ≤ b ∧ b < 18446744073709551616) :
    nar (doF op (nar a n true) (nar b n true)).1 n true = nar (doF op a b).1 n true :=
  nar_congr _ _ n true h0 h1 (op_mod op _ _ _ _ n ho h0 h1 ⟨nar_lo _ _ _, nar_hi _ _ _⟩ ⟨nar_lo _ _ _, nar_hi _ _ _⟩ a0 b0 (nar_mod a n true h0 h1) (nar_mod b n true h0 h1))
theorem addw_low (a b : Int) : nar (doF 1 a b).1 32 true = (doF 18 a b).1 := by
  rw [addw_eq]; exact nar32_congr (U32_mod _)
theorem mulw_low (a b : Int) : nar (doF 11 a b).1 32 true = (doF 23 a b).1 := by
  rw [mulw_eq]; exact nar32_congr (U32_mod _)

end Go.Proofs.Ytkeengmcbbmhbaa
