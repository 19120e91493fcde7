/- Plain numbers for the statements of layer 1: what the operations of 64 bits are, over Int; no program in sight. -/
import Derived.WalkKit
import Derived.ProofKit
import Derived.OpenShut
namespace Go.Proofs.Ytojfgdoniajmeaa
set_option linter.unusedVariables false
set_option linter.unusedSimpArgs false
open Go.RowKit

/-- signed meaning of 64 bits -/
def S (a : Int) : Int := if a < 9223372036854775808 then a else a - 18446744073709551616
/-- 64 bits of a number -/
def U (a : Int) : Int := a % 18446744073709551616

theorem wrap_U (x : Int) : IntKind.u64.wrap x = U x := by
  unfold IntKind.wrap U
  simp [IntKind.bits, IntKind.signed]

theorem wrap_S (a : Int) (h0 : 0 ≤ a) (h1 : a < 18446744073709551616) : wrap64 a = S a := by
  unfold wrap64 S; split <;> omega

theorem wrap64_eq (a : Int) : wrap64 a = S (U a) := by
  unfold wrap64 S U; split <;> omega

theorem U_lo (x : Int) : 0 ≤ U x := by unfold U; omega
theorem U_hi (x : Int) : U x < 18446744073709551616 := by unfold U; omega
theorem U_id (x : Int) (h0 : 0 ≤ x) (h1 : x < 18446744073709551616) : U x = x := by unfold U; omega
theorem S_lo (x : Int) (h0 : 0 ≤ x) : -9223372036854775808 ≤ S x := by unfold S; split <;> omega
theorem S_hi (x : Int) (h1 : x < 18446744073709551616) : S x ≤ 9223372036854775807 := by unfold S; split <;> omega
theorem U_S (x : Int) (h0 : 0 ≤ x) (h1 : x < 18446744073709551616) : U (S x) = x := by unfold U S; split <;> omega
theorem S_U (x : Int) (h0 : -9223372036854775808 ≤ x) (h1 : x ≤ 9223372036854775807) : S (U x) = x := by unfold U S; split <;> omega

theorem and_nat (m n : Nat) (hm : m < 2 ^ 64) (hn : n < 2 ^ 64) : bits .and .u64 m n = ((m &&& n : Nat) : Int) := by
  show IntKind.u64.wrap (((BitVec.ofInt 64 (m : Int)) &&& (BitVec.ofInt 64 (n : Int))).toNat : Int) = _
  have h : m &&& n < 2 ^ 64 := Nat.and_lt_two_pow _ hn
  rw [BitVec.ofInt_natCast, BitVec.ofInt_natCast, BitVec.toNat_and, BitVec.toNat_ofNat, BitVec.toNat_ofNat, Nat.mod_eq_of_lt hm, Nat.mod_eq_of_lt hn, wrap_U, U_id] <;> omega
theorem or_nat (m n : Nat) (hm : m < 2 ^ 64) (hn : n < 2 ^ 64) : bits .or .u64 m n = ((m ||| n : Nat) : Int) := by
  show IntKind.u64.wrap (((BitVec.ofInt 64 (m : Int)) ||| (BitVec.ofInt 64 (n : Int))).toNat : Int) = _
  have h : m ||| n < 2 ^ 64 := Nat.or_lt_two_pow hm hn
  rw [BitVec.ofInt_natCast, BitVec.ofInt_natCast, BitVec.toNat_or, BitVec.toNat_ofNat, BitVec.toNat_ofNat, Nat.mod_eq_of_lt hm, Nat.mod_eq_of_lt hn, wrap_U, U_id] <;> omega
theorem xor_nat (m n : Nat) (hm : m < 2 ^ 64) (hn : n < 2 ^ 64) : bits .xor .u64 m n = ((m ^^^ n : Nat) : Int) := by
  show IntKind.u64.wrap (((BitVec.ofInt 64 (m : Int)) ^^^ (BitVec.ofInt 64 (n : Int))).toNat : Int) = _
  have h : m ^^^ n < 2 ^ 64 := Nat.xor_lt_two_pow hm hn
  rw [BitVec.ofInt_natCast, BitVec.ofInt_natCast, BitVec.toNat_xor, BitVec.toNat_ofNat, BitVec.toNat_ofNat, Nat.mod_eq_of_lt hm, Nat.mod_eq_of_lt hn, wrap_U, U_id] <;> omega

/-- the mask of a power of two -/
theorem bits_mask (k : Nat) (hk : k ≤ 64) (a : Int) (h0 : 0 ≤ a) (h1 : a < 18446744073709551616) : bits .and .u64 a (2 ^ k - 1) = a % 2 ^ k := by
  obtain ⟨n, rfl⟩ := Int.eq_ofNat_of_zero_le h0
  have hn : n < 2 ^ 64 := by omega
  have hp : (1 : Nat) ≤ 2 ^ k := Nat.one_le_two_pow
  have hp2 : 2 ^ k ≤ (2 : Nat) ^ 64 := Nat.pow_le_pow_right (by omega) hk
  have e1 : (((2 : Int) ^ k - 1)) = ((2 ^ k - 1 : Nat) : Int) := by
    rw [Int.natCast_sub hp]; simp
  rw [e1, and_nat _ _ hn (by omega), Nat.and_two_pow_sub_one_eq_mod]
  simp

theorem bits_63 (a : Int) (h0 : 0 ≤ a) (h1 : a < 18446744073709551616) : bits .and .u64 a 63 = a % 64 := bits_mask 6 (by omega) a h0 h1
theorem bits_31 (a : Int) (h0 : 0 ≤ a) (h1 : a < 18446744073709551616) : bits .and .u64 a 31 = a % 32 := bits_mask 5 (by omega) a h0 h1
theorem bits_m32 (a : Int) (h0 : 0 ≤ a) (h1 : a < 18446744073709551616) : bits .and .u64 a 4294967295 = a % 4294967296 := bits_mask 32 (by omega) a h0 h1

/-- operations of 64 bits without W, but quotients -/
def wideF (op a b : Int) : Int × Bool :=
  if op = 1 then (U (a + b), true) else
  if op = 2 then (U (a - b), true) else
  if op = 3 then (U (a * 2 ^ (b % 64).toNat), true) else
  if op = 4 then (if S a < S b then 1 else 0, true) else
  if op = 5 then (if a < b then 1 else 0, true) else
  if op = 6 then (bits .xor .u64 a b, true) else
  if op = 7 then (a / 2 ^ (b % 64).toNat, true) else
  if op = 8 then (U (S a / 2 ^ (b % 64).toNat), true) else
  if op = 9 then (bits .or .u64 a b, true) else
  if op = 10 then (bits .and .u64 a b, true) else
  if op = 11 then (U (a * b), true) else
  if op = 12 then (U (S a * S b / 18446744073709551616), true) else
  if op = 13 then (a * b / 18446744073709551616, true) else (0, false)

/-- quotients, and what is left -/
def partsF (op a b : Int) : Int × Bool :=
  if op = 14 then (if b = 0 then 18446744073709551615 else U ((S a).tdiv (S b)), true) else
  if op = 15 then (if b = 0 then 18446744073709551615 else a / b, true) else
  if op = 16 then (if b = 0 then a else U ((S a).tmod (S b)), true) else
  if op = 17 then (if b = 0 then a else a % b, true) else (0, false)

/-- of which operation one with W is, signed or not -/
def ofF (op : Int) : Int × Bool × Bool :=
  if op = 18 then (1, true, true) else
  if op = 19 then (2, true, true) else
  if op = 20 then (3, true, true) else
  if op = 21 then (7, false, true) else
  if op = 22 then (8, true, true) else
  if op = 23 then (11, true, true) else
  if op = 24 then (14, true, true) else
  if op = 25 then (15, false, true) else
  if op = 26 then (16, true, true) else
  if op = 27 then (17, false, true) else (0, false, false)

/-- the low n bits, signed or not (1 ≤ n ≤ 64) -/
def nar (a n : Int) (s : Bool) : Int :=
  if s then U (S (U (a * 2 ^ (64 - n).toNat)) / 2 ^ (64 - n).toNat) else U (a * 2 ^ (64 - n).toNat) / 2 ^ (64 - n).toNat
def narF (a n : Int) (s : Bool) : Int × Int := if n < 1 ∨ 64 < n then (0, 1) else (nar a n s, 0)

/-- an operation without W -/
def baseF (op a b : Int) : Int × Bool := if (wideF op a b).2 then wideF op a b else partsF op a b

/-- an operation: its number, or none -/
def doF (op a b : Int) : Int × Bool :=
  if (baseF op a b).2 then baseF op a b else
  if (ofF op).2.2 then
    (nar (baseF (ofF op).1 (nar a 32 (ofF op).2.1) (if (ofF op).1 = 3 ∨ (ofF op).1 = 7 ∨ (ofF op).1 = 8 then nar b 32 (ofF op).2.1 % 32 else nar b 32 (ofF op).2.1)).1 32 true, true)
  else (0, false)

/-- the document's number of an error: none, or out of range -/
def errF (ok : Bool) : Int := if ok then 0 else 1

theorem S_neg (x : Int) (h0 : 0 ≤ x) (h1 : x < 18446744073709551616) : S x < 0 ↔ 9223372036854775808 ≤ x := by unfold S; split <;> omega

/-- the upper half of a product, signed -/
theorem mulh (a b : Int) (h0 : 0 ≤ a) (h1 : a < 18446744073709551616) (g0 : 0 ≤ b) (g1 : b < 18446744073709551616) :
    U (S a * S b / 18446744073709551616) = U (a * b / 18446744073709551616 - (if S a < 0 then b else 0) - (if S b < 0 then a else 0)) := by
  unfold S
  split <;> split
  · rw [if_neg (by omega), if_neg (by omega)]; simp
  · rw [if_neg (by omega), if_pos (by omega), Int.mul_sub]
    unfold U; omega
  · rw [if_pos (by omega), if_neg (by omega), Int.sub_mul]
    unfold U; omega
  · rw [if_pos (by omega), if_pos (by omega)]
    have e : (a - 18446744073709551616) * (b - 18446744073709551616) = a * b - 18446744073709551616 * (a + b - 18446744073709551616) := by
      simp only [Int.sub_mul, Int.mul_sub, Int.mul_add]; omega
    rw [e]
    unfold U; omega

/-- the upper half of a product by halves, as Go's library has it -/
theorem mul_hi (a b : Int) :
    (a / 4294967296) * (b / 4294967296) + ((a / 4294967296) * (b % 4294967296) + (a % 4294967296) * (b % 4294967296) / 4294967296) / 4294967296
      + (((a / 4294967296) * (b % 4294967296) + (a % 4294967296) * (b % 4294967296) / 4294967296) % 4294967296 + (a % 4294967296) * (b / 4294967296)) / 4294967296
      = a * b / 18446744073709551616 := by
  have ea : a = a / 4294967296 * 4294967296 + a % 4294967296 := by omega
  have eb : b = b / 4294967296 * 4294967296 + b % 4294967296 := by omega
  generalize a / 4294967296 = x at *
  generalize a % 4294967296 = y at *
  generalize b / 4294967296 = z at *
  generalize b % 4294967296 = t at *
  have e : a * b = x * z * 18446744073709551616 + (x * t + y * z) * 4294967296 + y * t := by
    rw [ea, eb]; simp only [Int.add_mul, Int.mul_add]
    have e1 : x * 4294967296 * (z * 4294967296) = x * z * 18446744073709551616 := by
      rw [Int.mul_assoc, Int.mul_left_comm 4294967296, ← Int.mul_assoc]; simp
    have e2 : x * 4294967296 * t = x * t * 4294967296 := by rw [Int.mul_assoc, Int.mul_comm 4294967296, ← Int.mul_assoc]
    have e3 : y * (z * 4294967296) = y * z * 4294967296 := by rw [← Int.mul_assoc]
    rw [e1, e2, e3]; omega
  rw [e]
  generalize x * z = p
  generalize x * t = q
  generalize y * z = r
  generalize y * t = s
  omega

/-- .. and as the walk spells it -/
theorem mul_hi_walk (a b : Int) (h0 : 0 ≤ a) (h1 : a < 18446744073709551616) (g0 : 0 ≤ b) (g1 : b < 18446744073709551616) :
    U (U (U (a / 4294967296 * (b / 4294967296)) + U (U (a / 4294967296 * (b % 4294967296)) + U (a % 4294967296 * (b % 4294967296)) / 4294967296) / 4294967296)
      + U (U (U (a / 4294967296 * (b % 4294967296)) + U (a % 4294967296 * (b % 4294967296)) / 4294967296) % 4294967296 + U (a % 4294967296 * (b / 4294967296))) / 4294967296)
      = a * b / 18446744073709551616 := by
  rw [← mul_hi a b]
  have hx0 : 0 ≤ a / 4294967296 ∧ a / 4294967296 ≤ 4294967295 := by omega
  have hy0 : 0 ≤ a % 4294967296 ∧ a % 4294967296 ≤ 4294967295 := by omega
  have hz0 : 0 ≤ b / 4294967296 ∧ b / 4294967296 ≤ 4294967295 := by omega
  have ht0 : 0 ≤ b % 4294967296 ∧ b % 4294967296 ≤ 4294967295 := by omega
  generalize a / 4294967296 = x at *
  generalize a % 4294967296 = y at *
  generalize b / 4294967296 = z at *
  generalize b % 4294967296 = t at *
  have bd : ∀ p q : Int, 0 ≤ p ∧ p ≤ 4294967295 → 0 ≤ q ∧ q ≤ 4294967295 → 0 ≤ p * q ∧ p * q ≤ 18446744065119617025 := by
    intro p q hp hq
    refine ⟨Int.mul_nonneg hp.1 hq.1, ?_⟩
    have := Int.mul_le_mul hp.2 hq.2 hq.1 (by omega : (0 : Int) ≤ 4294967295)
    omega
  have b1 := bd x z hx0 hz0
  have b2 := bd x t hx0 ht0
  have b3 := bd y z hy0 hz0
  have b4 := bd y t hy0 ht0
  generalize x * z = p at *
  generalize x * t = q at *
  generalize y * z = r at *
  generalize y * t = s at *
  unfold U
  omega

/-- .. and the document's way of it -/
theorem mul_hi_ref (a b : Int) (h0 : 0 ≤ a) (h1 : a < 18446744073709551616) (g0 : 0 ≤ b) (g1 : b < 18446744073709551616) :
    U (U (U (a / 4294967296 * (b / 4294967296)) + U ((U (U (a / 4294967296 * (b % 4294967296)) + U ((U (a % 4294967296 * (b % 4294967296))).tdiv 4294967296))).tdiv 4294967296))
      + U ((U (U (a % 4294967296 * (b / 4294967296)) + (U (U (a / 4294967296 * (b % 4294967296)) + U ((U (a % 4294967296 * (b % 4294967296))).tdiv 4294967296))).tmod 4294967296)).tdiv 4294967296))
      = a * b / 18446744073709551616 := by
  have ht : ∀ x, (U x).tdiv 4294967296 = U x / 4294967296 := fun x => Int.tdiv_eq_ediv_of_nonneg (U_lo x)
  have hm : ∀ x, (U x).tmod 4294967296 = U x % 4294967296 := fun x => Int.tmod_eq_emod_of_nonneg (U_lo x)
  have hu : ∀ x, U (U x / 4294967296) = U x / 4294967296 := fun x => by
    have := U_lo x; have := U_hi x; exact U_id _ (by omega) (by omega)
  simp only [ht, hm, hu]
  rw [← mul_hi_walk a b h0 h1 g0 g1, Int.add_comm (U (a % 4294967296 * (b / 4294967296)))]

theorem cases_wide' (op : Int) : op = 1 ∨ op = 2 ∨ op = 3 ∨ op = 4 ∨ op = 5 ∨ op = 6 ∨ op = 7 ∨ op = 8 ∨ op = 9 ∨ op = 10 ∨ op = 11 ∨ op = 12 ∨ op = 13 ∨ ¬ (1 ≤ op ∧ op ≤ 13) := by omega
theorem none_wide {op : Int} (h : ¬ (1 ≤ op ∧ op ≤ 13)) (a b : Int) : wideF op a b = (0, false) := by
  unfold wideF
  repeat rw [if_neg (by omega)]
theorem none_parts {op : Int} (h : ¬ (14 ≤ op ∧ op ≤ 17)) (a b : Int) : partsF op a b = (0, false) := by
  unfold partsF
  repeat rw [if_neg (by omega)]
theorem none_of {op : Int} (h : ¬ (18 ≤ op ∧ op ≤ 27)) : ofF op = (0, false, false) := by
  unfold ofF
  repeat rw [if_neg (by omega)]

theorem w_yes {p : Prop} [Decidable p] (h : p) : (1 : Int) = if p then 1 else 0 := by rw [if_pos h]
theorem w_no {p : Prop} [Decidable p] (h : ¬ p) : (0 : Int) = if p then 1 else 0 := by rw [if_neg h]
theorem mulh_pp (a b : Int) (h0 : 0 ≤ a) (h1 : a < 18446744073709551616) (g0 : 0 ≤ b) (g1 : b < 18446744073709551616) (x y : Int)
    (hx : x = if S a < 0 then b else 0) (hy : y = if S b < 0 then a else 0) :
    IntKind.u64.wrap (IntKind.u64.wrap (a * b / 18446744073709551616 - IntKind.u64.wrap x) - IntKind.u64.wrap y) = U (S a * S b / 18446744073709551616) := by
  rw [mulh a b h0 h1 g0 g1, ← hx, ← hy]
  simp only [wrap_U]; unfold U; omega
theorem S_zero (b : Int) (g0 : 0 ≤ b) (g1 : b < 18446744073709551616) (h : ¬ b = 0) : ¬ S b = 0 := by unfold S; split <;> omega

theorem parts_14 {b : Int} (h : ¬ b = 0) (a : Int) : (partsF 14 a b).1 = U ((S a).tdiv (S b)) := by show (if b = 0 then _ else _) = _; rw [if_neg h]
theorem parts_15 {b : Int} (h : ¬ b = 0) (a : Int) : (partsF 15 a b).1 = a / b := by show (if b = 0 then _ else _) = _; rw [if_neg h]
theorem parts_16 {b : Int} (h : ¬ b = 0) (a : Int) : (partsF 16 a b).1 = U ((S a).tmod (S b)) := by show (if b = 0 then _ else _) = _; rw [if_neg h]
theorem parts_17 {b : Int} (h : ¬ b = 0) (a : Int) : (partsF 17 a b).1 = a % b := by show (if b = 0 then _ else _) = _; rw [if_neg h]
theorem U_wrap64 (x : Int) : U (wrap64 x) = U x := by unfold U wrap64; omega
theorem U_U (x : Int) : U (U x) = U x := by unfold U; omega
theorem U_tmod (a b : Int) : IntKind.u64.wrap ((S a).tmod (S b)) = U ((S a).tmod (S b)) := wrap_U _

theorem nar_lo (a n : Int) (s : Bool) : 0 ≤ nar a n s := by
  unfold nar
  split
  · exact U_lo _
  · exact Int.ediv_nonneg (U_lo _) (Int.pow_nonneg (by omega))
theorem nar_hi (a n : Int) (s : Bool) : nar a n s < 18446744073709551616 := by
  unfold nar
  split
  · exact U_hi _
  · exact Int.lt_of_le_of_lt (Int.ediv_le_self _ (U_lo _)) (U_hi _)

theorem ite_p {P : Int × Bool → Prop} {c : Prop} [Decidable c] {x y : Int × Bool} (hx : P x) (hy : P y) : P (if c then x else y) := by split <;> assumption
theorem ite_q {P : Int → Prop} {c : Prop} [Decidable c] {x y : Int} (hx : c → P x) (hy : ¬ c → P y) : P (if c then x else y) := by split; exact hx ‹_›; exact hy ‹_›
theorem bits_lo (op : BinOp) (a b : Int) : 0 ≤ bits op .u64 a b := by unfold bits; rw [wrap_U]; exact U_lo _
theorem bits_hi (op : BinOp) (a b : Int) : bits op .u64 a b < 18446744073709551616 := by unfold bits; rw [wrap_U]; exact U_hi _
theorem wide_lo (op a b : Int) (h0 : 0 ≤ a) (g0 : 0 ≤ b) : 0 ≤ (wideF op a b).1 := by
  unfold wideF
  have hp : ∀ k : Nat, (0 : Int) ≤ 2 ^ k := fun k => Int.pow_nonneg (by omega)
  iterate 13 (refine @ite_p (fun r => 0 ≤ r.1) _ _ _ _ ?_ ?_; rotate_left)
  all_goals first | with_reducible exact U_lo _ | with_reducible exact bits_lo _ _ _ | with_reducible exact Int.ediv_nonneg h0 (hp _) | with_reducible exact Int.ediv_nonneg (Int.mul_nonneg h0 g0) (by omega) | exact @ite_q (fun r => 0 ≤ r) _ _ _ _ (fun _ => by decide) (fun _ => by decide) | with_reducible exact Int.le_refl 0
theorem mul_top (a b : Int) (h0 : 0 ≤ a) (h1 : a < 18446744073709551616) (g0 : 0 ≤ b) (g1 : b < 18446744073709551616) : a * b / 18446744073709551616 < 18446744073709551616 := by
  have h : a * b ≤ 18446744073709551615 * 18446744073709551615 := Int.mul_le_mul (by omega) (by omega) g0 (by omega)
  have := Int.mul_nonneg h0 g0
  generalize a * b = c at *
  omega
theorem wide_hi (op a b : Int) (h0 : 0 ≤ a) (h1 : a < 18446744073709551616) (g0 : 0 ≤ b) (g1 : b < 18446744073709551616) : (wideF op a b).1 < 18446744073709551616 := by
  unfold wideF
  iterate 13 (refine @ite_p (fun r => r.1 < 18446744073709551616) _ _ _ _ ?_ ?_; rotate_left)
  all_goals first | with_reducible exact U_hi _ | with_reducible exact bits_hi _ _ _ | with_reducible exact Int.lt_of_le_of_lt (Int.ediv_le_self _ h0) h1 | with_reducible exact mul_top a b h0 h1 g0 g1 | exact @ite_q (fun r => r < 18446744073709551616) _ _ _ _ (fun _ => by omega) (fun _ => by omega) | (show (0 : Int) < 18446744073709551616; omega)
theorem parts_lo (op a b : Int) (h0 : 0 ≤ a) (g0 : 0 ≤ b) : 0 ≤ (partsF op a b).1 := by
  unfold partsF
  iterate 4 (refine @ite_p (fun r => 0 ≤ r.1) _ _ _ _ ?_ ?_; rotate_left)
  all_goals first | exact @ite_q (fun r => 0 ≤ r) _ _ _ _ (fun _ => by decide) (fun _ => by first | with_reducible exact U_lo _ | with_reducible exact Int.ediv_nonneg h0 g0) | exact @ite_q (fun r => 0 ≤ r) _ _ _ _ (fun _ => h0) (fun h => by first | with_reducible exact U_lo _ | with_reducible exact Int.emod_nonneg _ h) | with_reducible exact Int.le_refl 0
theorem parts_hi (op a b : Int) (h0 : 0 ≤ a) (h1 : a < 18446744073709551616) (g0 : 0 ≤ b) (g1 : b < 18446744073709551616) : (partsF op a b).1 < 18446744073709551616 := by
  unfold partsF
  iterate 4 (refine @ite_p (fun r => r.1 < 18446744073709551616) _ _ _ _ ?_ ?_; rotate_left)
  all_goals first | exact @ite_q (fun r => r < 18446744073709551616) _ _ _ _ (fun _ => by omega) (fun _ => by first | with_reducible exact U_hi _ | with_reducible exact Int.lt_of_le_of_lt (Int.ediv_le_self _ h0) h1) | exact @ite_q (fun r => r < 18446744073709551616) _ _ _ _ (fun _ => h1) (fun h => by first | with_reducible exact U_hi _ | with_reducible exact Int.lt_trans (Int.emod_lt_of_pos _ (by omega)) g1) | (show (0 : Int) < 18446744073709551616; omega)
theorem base_lo (op a b : Int) (h0 : 0 ≤ a) (g0 : 0 ≤ b) : 0 ≤ (baseF op a b).1 := by
  unfold baseF; split
  · exact wide_lo _ _ _ h0 g0
  · exact parts_lo _ _ _ h0 g0
theorem base_hi (op a b : Int) (h0 : 0 ≤ a) (h1 : a < 18446744073709551616) (g0 : 0 ≤ b) (g1 : b < 18446744073709551616) : (baseF op a b).1 < 18446744073709551616 := by
  unfold baseF; split
  · exact wide_hi _ _ _ h0 h1 g0 g1
  · exact parts_hi _ _ _ h0 h1 g0 g1

/-- the second operand of one with W -/
def secF (of b : Int) (s : Bool) : Int := if of = 3 ∨ of = 7 ∨ of = 8 then nar b 32 s % 32 else nar b 32 s
theorem sec_lo (of b : Int) (s : Bool) : 0 ≤ secF of b s := by
  have := nar_lo b 32 s
  unfold secF; split <;> omega
theorem sec_hi (of b : Int) (s : Bool) : secF of b s < 18446744073709551616 := by
  have := nar_lo b 32 s
  have := nar_hi b 32 s
  unfold secF; split <;> omega
theorem doF_base (op a b : Int) (h : (baseF op a b).2 = true) : doF op a b = baseF op a b := by unfold doF; rw [if_pos h]
theorem doF_w (op a b of : Int) (s : Bool) (h : (baseF op a b).2 = false) (g : ofF op = (of, s, true)) : doF op a b = (nar (baseF of (nar a 32 s) (secF of b s)).1 32 true, true) := by
  unfold doF secF; rw [if_neg (by rw [h]; simp), g]; simp
theorem doF_none (op a b : Int) (h : (baseF op a b).2 = false) (g : (ofF op).2.2 = false) : doF op a b = (0, false) := by
  unfold doF; rw [if_neg (by rw [h]; simp), if_neg (by rw [g]; simp)]
theorem cases_of (op : Int) : op = 18 ∨ op = 19 ∨ op = 20 ∨ op = 21 ∨ op = 22 ∨ op = 23 ∨ op = 24 ∨ op = 25 ∨ op = 26 ∨ op = 27 ∨ ¬ (18 ≤ op ∧ op ≤ 27) := by omega

/-- a power of two, below the top -/
theorem pow_lo (n : Int) : 1 ≤ (2 : Int) ^ n.toNat := by
  have : 0 < (2 : Int) ^ n.toNat := Int.pow_pos (by omega)
  omega
theorem pow_hi (n : Int) (h : n ≤ 63) : (2 : Int) ^ n.toNat ≤ 9223372036854775808 := by
  have : (2 : Nat) ^ n.toNat ≤ 2 ^ 63 := Nat.pow_le_pow_right (by omega) (by omega)
  have e : ((2 ^ n.toNat : Nat) : Int) = 2 ^ n.toNat := by simp
  omega
theorem pow_U (n : Int) (h : n ≤ 63) : U (2 ^ n.toNat) = 2 ^ n.toNat := by
  have := pow_lo n
  have := pow_hi n h
  exact U_id _ (by omega) (by omega)
theorem pow_two (n : Int) (h0 : 1 ≤ n) : (2 : Int) ^ n.toNat = 2 * 2 ^ (n - 1).toNat := by
  obtain ⟨m, rfl⟩ : ∃ m : Nat, n = m + 1 := ⟨(n - 1).toNat, by omega⟩
  rw [show ((m : Int) + 1).toNat = m + 1 from by omega, show ((m : Int) + 1 - 1).toNat = m from by omega, Int.pow_succ]; omega
theorem pow_both (n : Int) (h0 : 0 ≤ n) (h1 : n ≤ 64) : (2 : Int) ^ n.toNat * 2 ^ (64 - n).toNat = 18446744073709551616 := by
  obtain ⟨m, rfl⟩ := Int.eq_ofNat_of_zero_le h0
  have hm : m ≤ 64 := by omega
  rw [show ((64 : Int) - m).toNat = 64 - m from by omega, Int.toNat_natCast, ← Int.pow_add, show m + (64 - m) = 64 from by omega]; rfl

/-- the low bits, as a remainder -/
theorem nar_eq (a n : Int) (s : Bool) (h0 : 1 ≤ n) (h1 : n ≤ 64) :
    nar a n s = if s = true ∧ 2 ^ (n - 1).toNat ≤ a % 2 ^ n.toNat then U (a % 2 ^ n.toNat - 2 ^ n.toNat) else a % 2 ^ n.toNat := by
  have hb := pow_both n (by omega) h1
  have hp2 := pow_two n h0
  have hp0 := pow_lo n
  have hq0 := pow_lo (64 - n)
  have hh0 := pow_lo (n - 1)
  unfold nar
  generalize (2 : Int) ^ n.toNat = p at *
  generalize (2 : Int) ^ (64 - n).toNat = q at *
  generalize (2 : Int) ^ (n - 1).toNat = h at *
  have e : U (a * q) = a % p * q := by
    unfold U; rw [← hb, Int.mul_comm a q, Int.mul_comm p q, Int.mul_emod_mul_of_pos _ _ (by omega), Int.mul_comm]
  have x0 : 0 ≤ a % p := Int.emod_nonneg _ (by omega)
  have x1 : a % p < p := Int.emod_lt_of_pos _ (by omega)
  rw [e]
  generalize a % p = x at *
  have hx : x * q < 9223372036854775808 ↔ x < h := by
    have e2 : h * q = 9223372036854775808 := by
      have : 2 * (h * q) = 18446744073709551616 := by rw [← Int.mul_assoc, ← hp2]; exact hb
      omega
    rw [← e2]
    exact ⟨fun g => Int.lt_of_mul_lt_mul_right g (by omega), fun g => Int.mul_lt_mul_of_pos_right g (by omega)⟩
  have hd : x * q / q = x := Int.mul_ediv_cancel _ (by omega)
  cases s
  · simp [hd]
  · by_cases g : x < h
    · have g' := hx.2 g
      rw [if_pos rfl, if_neg (fun k => by omega)]
      unfold S; rw [if_pos g', hd]
      have : p * 1 ≤ p * q := Int.mul_le_mul_of_nonneg_left hq0 (by omega)
      exact U_id _ x0 (by omega)
    · have g' := fun k => g (hx.1 k)
      rw [if_pos rfl, if_pos ⟨rfl, by omega⟩]
      unfold S; rw [if_neg g', ← hb, ← Int.sub_mul, Int.mul_ediv_cancel _ (by omega)]
theorem nar_64 (a : Int) (s : Bool) (h0 : 0 ≤ a) (h1 : a < 18446744073709551616) : nar a 64 s = a := by
  rw [nar_eq a 64 s (by omega) (by omega)]
  show (if s = true ∧ (9223372036854775808 : Int) ≤ a % 18446744073709551616 then U (a % 18446744073709551616 - 18446744073709551616) else a % 18446744073709551616) = a
  unfold U; split <;> omega

/-- sums of bits: the low i bits of a number, one more -/
theorem low_succ (c i : Nat) : c % 2 ^ (i + 1) = c % 2 ^ i + 2 ^ i * (c / 2 ^ i % 2) := by
  rw [Nat.pow_succ, Nat.mod_mul]
theorem bit_of (c i : Nat) : c / 2 ^ i % 2 = (c.testBit i).toNat := by
  rw [Nat.testBit_eq_decide_div_mod_eq]
  have : c / 2 ^ i % 2 = 0 ∨ c / 2 ^ i % 2 = 1 := by omega
  rcases this with h | h <;> rw [h] <;> rfl

theorem bit_int (a i : Nat) : (a : Int) / 2 ^ i % 2 = ((a.testBit i).toNat : Int) := by
  rw [← bit_of]; simp
theorem low_int (c i : Nat) (hc : c < 2 ^ 64) (hi : i < 64) : ((c % 2 ^ (i + 1) : Nat) : Int) = U (((c % 2 ^ i : Nat) : Int) + (if c.testBit i then U (2 ^ i) else 0)) := by
  have h := low_succ c i
  rw [bit_of] at h
  have h1 : c % 2 ^ (i + 1) ≤ c := Nat.mod_le _ _
  have h2 : 2 ^ i ≤ 2 ^ 63 := Nat.pow_le_pow_right (by omega) (by omega)
  have e : ((2 ^ i : Nat) : Int) = 2 ^ i := by simp
  rw [← e]
  rw [U_id ((2 ^ i : Nat) : Int) (by omega) (by omega)]
  cases hb : c.testBit i
  · rw [hb] at h; simp at h
    rw [h]; simp only [Bool.false_eq_true, if_false]; unfold U; omega
  · rw [hb] at h; simp at h
    rw [h] at h1 ⊢; simp only [if_true]; unfold U; omega
/-- a quotient of a negative number, by the quotient of the other one -/
theorem neg_div (m p : Int) (hp : 1 ≤ p) : -m / p = -((m + p - 1) / p) := by
  have h1 : p * ((m + p - 1) / p) + (m + p - 1) % p = m + p - 1 := Int.mul_ediv_add_emod _ _
  have h2 : 0 ≤ (m + p - 1) % p := Int.emod_nonneg _ (by omega)
  have h3 : (m + p - 1) % p < p := Int.emod_lt_of_pos _ (by omega)
  refine ((Int.ediv_emod_unique (r := p - 1 - (m + p - 1) % p) (by omega : 0 < p)).2 ⟨?_, by omega, by omega⟩).1
  rw [Int.mul_neg]; omega
theorem moved_eq (a p : Int) (ha : 9223372036854775808 ≤ a) (h1 : a < 18446744073709551616) (pl : 1 ≤ p) (ph : p ≤ 9223372036854775808) :
    U (-U ((U (U (U (-a) + p) - 1)).tdiv p)) = U (S a / p) := by
  have e1 : U (U (U (-a) + p) - 1) = (18446744073709551616 - a) + p - 1 := by unfold U; omega
  have e2 : S a = -(18446744073709551616 - a) := by unfold S; rw [if_neg (by omega)]; omega
  rw [e1, e2, neg_div _ _ pl, Int.tdiv_eq_ediv_of_nonneg (by omega)]
  unfold U; omega

/-- the upper half of a product of signed numbers by that of their sizes -/
theorem abs_lo (a : Int) : 0 ≤ (if S a < 0 then - S a else S a) := by split <;> omega
theorem abs_hi (a : Int) (h0 : 0 ≤ a) (h1 : a < 18446744073709551616) : (if S a < 0 then - S a else S a) < 18446744073709551616 := by
  have := S_lo a h0; have := S_hi a h1; split <;> omega
theorem mulh_pos (a b : Int) (hs : (S a < 0) ↔ (S b < 0)) : S a * S b = (if S a < 0 then - S a else S a) * (if S b < 0 then - S b else S b) := by
  by_cases h : S a < 0
  · rw [if_pos h, if_pos (hs.1 h), Int.neg_mul_neg]
  · rw [if_neg h, if_neg (fun g => h (hs.2 g))]
theorem mulh_neg (a b : Int) (hs : ¬ ((S a < 0) ↔ (S b < 0))) : S a * S b = -((if S a < 0 then - S a else S a) * (if S b < 0 then - S b else S b)) := by
  by_cases h : S a < 0
  · have h2 : ¬ S b < 0 := fun g => hs ⟨fun _ => g, fun _ => h⟩
    rw [if_pos h, if_neg h2, Int.neg_mul, Int.neg_neg]
  · have h2 : S b < 0 := Decidable.byContradiction fun g => hs ⟨fun k => absurd k h, fun k => absurd k g⟩
    rw [if_neg h, if_pos h2, Int.mul_neg, Int.neg_neg]
theorem neg_top (c : Int) (h : U c = 0) : U (-c / 18446744073709551616) = U (-(c / 18446744073709551616)) := by unfold U at *; omega
theorem neg_top' (c : Int) (h : ¬ U c = 0) : U (-c / 18446744073709551616) = U (U (-(c / 18446744073709551616)) - 1) := by unfold U at *; omega

/-- a quotient of signed numbers by that of their sizes -/
theorem tdiv_pos (a b : Int) (hs : (S a < 0) ↔ (S b < 0)) : (S a).tdiv (S b) = (if S a < 0 then - S a else S a) / (if S b < 0 then - S b else S b) := by
  by_cases h : S a < 0
  · have h2 := hs.1 h
    rw [if_pos h, if_pos h2, ← Int.tdiv_eq_ediv_of_nonneg (by omega), Int.neg_tdiv, Int.tdiv_neg, Int.neg_neg]
  · rw [if_neg h, if_neg (fun g => h (hs.2 g)), Int.tdiv_eq_ediv_of_nonneg (by omega)]
theorem tdiv_neg (a b : Int) (hs : ¬ ((S a < 0) ↔ (S b < 0))) : (S a).tdiv (S b) = -((if S a < 0 then - S a else S a) / (if S b < 0 then - S b else S b)) := by
  by_cases h : S a < 0
  · have h2 : ¬ S b < 0 := fun g => hs ⟨fun _ => g, fun _ => h⟩
    rw [if_pos h, if_neg h2, ← Int.tdiv_eq_ediv_of_nonneg (by omega), Int.neg_tdiv, Int.neg_neg]
  · have h2 : S b < 0 := Decidable.byContradiction fun g => hs ⟨fun k => absurd k h, fun k => absurd k g⟩
    rw [if_neg h, if_pos h2, ← Int.tdiv_eq_ediv_of_nonneg (by omega), Int.tdiv_neg, Int.neg_neg]
theorem tmod_size (a b : Int) : (S a).tmod (S b) = if S a < 0 then -((if S a < 0 then - S a else S a) % (if S b < 0 then - S b else S b)) else (if S a < 0 then - S a else S a) % (if S b < 0 then - S b else S b) := by
  have e : ∀ x, 0 ≤ x → x.tmod (S b) = x % (if S b < 0 then - S b else S b) := by
    intro x hx
    rw [Int.tmod_eq_emod_of_nonneg hx]
    split
    · rw [Int.emod_neg]
    · rfl
  by_cases h : S a < 0
  · rw [if_pos h, if_pos h, ← e _ (by omega), Int.neg_tmod, Int.neg_neg]
  · rw [if_neg h, if_neg h, e _ (by omega)]

/-- the whole product by halves, as NumWhole asks it -/
theorem halves (a b : Int) (h0 : 0 ≤ a) (h1 : a < 18446744073709551616) (g0 : 0 ≤ b) (g1 : b < 18446744073709551616) :
    (U (a * b) = U (U (a % 4294967296 * (b % 4294967296)) % 4294967296 + U (U (U (U (a % 4294967296 * (b % 4294967296)) / 4294967296 + U (a % 4294967296 * (b / 4294967296)) % 4294967296) + U (a / 4294967296 * (b % 4294967296)) % 4294967296) * 4294967296)))
    ∧ a * b / 18446744073709551616 = U (U (U (U (a / 4294967296 * (b / 4294967296)) + U (a % 4294967296 * (b / 4294967296)) / 4294967296) + U (a / 4294967296 * (b % 4294967296)) / 4294967296)
        + U (U (U (a % 4294967296 * (b % 4294967296)) / 4294967296 + U (a % 4294967296 * (b / 4294967296)) % 4294967296) + U (a / 4294967296 * (b % 4294967296)) % 4294967296) / 4294967296) := by
  have e : a * b = (a / 4294967296) * (b / 4294967296) * 18446744073709551616 + ((a / 4294967296) * (b % 4294967296) + (a % 4294967296) * (b / 4294967296)) * 4294967296 + (a % 4294967296) * (b % 4294967296) := by
    have ea : a = a / 4294967296 * 4294967296 + a % 4294967296 := by omega
    have eb : b = b / 4294967296 * 4294967296 + b % 4294967296 := by omega
    generalize a / 4294967296 = x at *
    generalize a % 4294967296 = y at *
    generalize b / 4294967296 = z at *
    generalize b % 4294967296 = t at *
    rw [ea, eb]; simp only [Int.add_mul, Int.mul_add]
    have e1 : x * 4294967296 * (z * 4294967296) = x * z * 18446744073709551616 := by
      rw [Int.mul_assoc, Int.mul_left_comm 4294967296, ← Int.mul_assoc]; simp
    have e2 : x * 4294967296 * t = x * t * 4294967296 := by rw [Int.mul_assoc, Int.mul_comm 4294967296, ← Int.mul_assoc]
    have e3 : y * (z * 4294967296) = y * z * 4294967296 := by rw [← Int.mul_assoc]
    rw [e1, e2, e3]; omega
  rw [e]; clear e
  have hx0 : 0 ≤ a / 4294967296 ∧ a / 4294967296 ≤ 4294967295 := by omega
  have hy0 : 0 ≤ a % 4294967296 ∧ a % 4294967296 ≤ 4294967295 := by omega
  have hz0 : 0 ≤ b / 4294967296 ∧ b / 4294967296 ≤ 4294967295 := by omega
  have ht0 : 0 ≤ b % 4294967296 ∧ b % 4294967296 ≤ 4294967295 := by omega
  generalize a / 4294967296 = x at *
  generalize a % 4294967296 = y at *
  generalize b / 4294967296 = z at *
  generalize b % 4294967296 = t at *
  have bd : ∀ p q : Int, 0 ≤ p ∧ p ≤ 4294967295 → 0 ≤ q ∧ q ≤ 4294967295 → 0 ≤ p * q ∧ p * q ≤ 18446744065119617025 := by
    intro p q hp hq
    refine ⟨Int.mul_nonneg hp.1 hq.1, ?_⟩
    have := Int.mul_le_mul hp.2 hq.2 hq.1 (by omega : (0 : Int) ≤ 4294967295)
    omega
  have b1 := bd x z hx0 hz0
  have b2 := bd x t hx0 ht0
  have b3 := bd y z hy0 hz0
  have b4 := bd y t hy0 ht0
  clear bd hx0 hy0 hz0 ht0
  generalize x * z = p at *
  generalize x * t = q at *
  generalize y * z = r at *
  generalize y * t = s at *
  clear h0 h1 g0 g1
  unfold U
  constructor <;> omega

/-- the endings of a walk, by their numbers -/
theorem ret_i {k : IntKind} {a a' : Int} (h : a = a') : Ending.returned (.int k a) = .returned (.int k a') := by rw [h]
theorem ret_b {a a' : Bool} (h : a = a') : Ending.returned (.bool a) = .returned (.bool a') := by rw [h]
theorem ret_ii {k l : IntKind} {a a' b b' : Int} (h : a = a') (g : b = b') : Ending.returned (.tuple #[.int k a, .int l b]) = .returned (.tuple #[.int k a', .int l b']) := by rw [h, g]
theorem ret_ib {k : IntKind} {a a' : Int} {b b' : Bool} (h : a = a') (g : b = b') : Ending.returned (.tuple #[.int k a, .bool b]) = .returned (.tuple #[.int k a', .bool b']) := by rw [h, g]
theorem ret_ibb {k : IntKind} {a a' : Int} {b b' c c' : Bool} (h : a = a') (g : b = b') (f : c = c') : Ending.returned (.tuple #[.int k a, .bool b, .bool c]) = .returned (.tuple #[.int k a', .bool b', .bool c']) := by rw [h, g, f]

end Go.Proofs.Ytojfgdoniajmeaa
