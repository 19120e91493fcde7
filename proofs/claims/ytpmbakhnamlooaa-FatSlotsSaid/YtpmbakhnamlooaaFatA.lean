/- The machine of package fat, as it lies in memory. -/
import Derived.Test.YtpmbakhnamlooaaLibE
import Derived.Test.YtpmbakhnamlooaaLibI
import Derived.Test.YtpmbakhnamlooaaLibR
import Derived.Test.YtpmbakhnamlooaaLibS
import Derived.Test.YtpmbakhnamlooaaLibK
import Derived.Test.YtpmbakhnamlooaaNumB
import Derived.Test.YtpmbakhnamlooaaRows
import Derived.WalkLawsBesides
import Derived.WalkSpells
namespace Go.Proofs.Ytpmbakhnamlooaa
set_option linter.unusedVariables false
set_option linter.unusedSimpArgs false
open Go.RowKit

/-- what a run of a unit changes -/
structure FSt where
  mem : Int → Option Int
  shadow : Int → Option (Int × Int × Int × Int)
  locks : List Int
  keys : Int
  blocks : Int → Option (Int × Int)
  free : Int
  top : Int
  input : List Int
  out : List Int
  fuel : Int
  steps : Int
  checks : Int

def fourV (s : Int × Int × Int × Int) : Value := .agg #[.int .u64 s.1, .int .u64 s.2.1, .int .u64 s.2.2.1, .int .u64 s.2.2.2]
def madeV (s : Int × Int) : Value := .agg #[.int .u64 s.1, .int .i64 s.2]

/-- the machine's struct stands at pw; 'own' tells of each block whether it is of the machine, and of which part: 1 the struct, 2 the functions, 3 the variables, 4 memory, 5 the shadow, 6 locks, 7 blocks, 8 what was put out -/
structure FParts (w0 w : World) (pw : Nat) (own : Nat → Nat) (fnv : List UInt8 → Option Value) (tops : List UInt8 → Option Int) (st : FSt) (c : Nat) (bf bt bm bs bb : Nat) (vl vi vo : Value) : Prop where
  struct : w.heap[pw]? = some (.cells #[.map (some bf), .map (some bt), .map (some bm), .map (some bs), vl, .int .u64 st.keys, .map (some bb), .int .i64 st.free, .int .i64 st.top, vi, vo, .int .i64 st.fuel, .int .i64 st.steps, .int .i64 st.checks] 71 (0, 0))
  tag : own pw = 1 ∧ own bf = 2 ∧ own bt = 3 ∧ own bm = 4 ∧ own bs = 5 ∧ own bb = 7
  fns : SMap Try.prog 9 w bf c fnv
  tops : SMap Try.prog 9 w bt c (fun s => (tops s).map (Value.int .u64))
  mem : IMap Try.prog 38 .u64 w bm c (fun a => (st.mem a).map (Value.int .u8))
  shadow : IMap Try.prog 38 .u64 w bs c (fun a => (st.shadow a).map fourV)
  blocks : IMap Try.prog 38 .u64 w bb c (fun a => (st.blocks a).map madeV)
  locks : RowAt w (fun b => own b = 6) 38 1 vl st.locks.length (st.locks.map (Value.int .u64))
  out : RowAt w (fun b => own b = 8) 5 1 vo st.out.length (st.out.map (Value.int .u8))
  input : IntsAt .u8 w0 vi st.input
  low : ∀ b, own b ≠ 0 → w0.heap.size ≤ b ∧ b < w.heap.size
  step : Step (fun b => w0.heap.size ≤ b) w0 w
  lens : st.locks.length ≤ c ∧ st.out.length ≤ c

def FWAt (w0 w : World) (pw : Nat) (own : Nat → Nat) (fnv : List UInt8 → Option Value) (tops : List UInt8 → Option Int) (st : FSt) (c : Nat) : Prop :=
  ∃ bf bt bm bs bb vl vi vo, FParts w0 w pw own fnv tops st c bf bt bm bs bb vl vi vo

/-- what a call of the machine's own may change: its blocks, and new ones -/
structure Chg (own own' : Nat → Nat) (w w' : World) : Prop where
  step : Step (fun b => own b ≠ 0) w w'
  same : ∀ b, b < w.heap.size → own' b = own b

section
variable {w0 w w' w'' : World} {pw : Nat} {own own' own'' : Nat → Nat} {fnv : List UInt8 → Option Value} {tops : List UInt8 → Option Int} {st : FSt} {c : Nat} {bf bt bm bs bb : Nat} {vl vi vo : Value}

theorem Chg.refl (own : Nat → Nat) (w : World) : Chg own own w w := ⟨Step.refl _ _, fun _ _ => rfl⟩
theorem Chg.calm (own : Nat → Nat) (s : Step (fun _ => False) w w') : Chg own own w w' := ⟨s.mono fun _ _ x => x.elim, fun _ _ => rfl⟩
theorem Chg.trans (h : Chg own own' w w') (g : Chg own' own'' w' w'') : Chg own own'' w w'' :=
  ⟨h.step.trans g.step fun b hb => by
    by_cases hlt : b < w.heap.size
    · exact .inl (by rw [← h.same b hlt]; exact hb)
    · exact .inr (by omega), fun b hb => (g.same b (Nat.lt_of_lt_of_le hb h.step.size)).trans (h.same b hb)⟩
/-- a block that isn't the machine's stays -/
theorem Chg.keep (h : Chg own own' w w') {b : Nat} (hb : b < w.heap.size) (ho : own b = 0) : w'.heap[b]? = w.heap[b]? := h.step.block b hb (fun x => x ho)
theorem Chg.keeps (h : Chg own own' w w') {b : Nat} {o : Obj} (hb : w.heap[b]? = some o) (ho : own b = 0) : w'.heap[b]? = some o := (h.keep (lt_obj hb) ho).trans hb
theorem Chg.stays0 (h : Chg own own' w w') {b : Nat} {o : Obj} (hb : w.heap[b]? = some o) (ho : own b = 0) : own' b = 0 := (h.same b (lt_obj hb)).trans ho

theorem FParts.whole (h : FParts w0 w pw own fnv tops st c bf bt bm bs bb vl vi vo) : FWAt w0 w pw own fnv tops st c := ⟨_, _, _, _, _, _, _, _, h⟩
theorem FParts.still (h : FParts w0 w pw own fnv tops st c bf bt bm bs bb vl vi vo) (s : Step (fun _ => False) w w') : FParts w0 w' pw own fnv tops st c bf bt bm bs bb vl vi vo := by
  have k : ∀ b, b < w.heap.size → w'.heap[b]? = w.heap[b]? := fun b hb => s.block b hb fun x => x
  have hs := s.size
  exact ⟨(k pw (lt_obj h.struct)).trans h.struct, h.tag, h.fns.same (k _ h.fns.lt), h.tops.same (k _ h.tops.lt), h.mem.same (k _ h.mem.lt), h.shadow.same (k _ h.shadow.lt), h.blocks.same (k _ h.blocks.lt),
    h.locks.same fun b _ hb => k b hb, h.out.same fun b _ hb => k b hb, h.input, fun b hb => by have := h.low b hb; omega, h.step.then s, h.lens⟩
/-- one part of the machine is another one: the rest stays. t: which part (0: none but the struct) -/
theorem FParts.next (h : FParts w0 w pw own fnv tops st c bf bt bm bs bb vl vi vo) (t : Nat) {st' : FSt} {c' : Nat} {vl' vi' vo' : Value} (hcc : c ≤ c') (hs : Step (fun b => own b ≠ 0) w w') (same : ∀ b, b < w.heap.size → own' b = own b) (top : ∀ b, own' b ≠ 0 → b < w'.heap.size)
    (kk : ∀ b, own b ≠ 0 → own b ≠ 1 → own b ≠ t → w'.heap[b]? = w.heap[b]?) (ht : t ≠ 2 ∧ t ≠ 3)
    (struct : w'.heap[pw]? = some (.cells #[.map (some bf), .map (some bt), .map (some bm), .map (some bs), vl', .int .u64 st'.keys, .map (some bb), .int .i64 st'.free, .int .i64 st'.top, vi', vo', .int .i64 st'.fuel, .int .i64 st'.steps, .int .i64 st'.checks] 71 (0, 0)))
    (mem : if t = 4 then IMap Try.prog 38 .u64 w' bm c' (fun a => (st'.mem a).map (Value.int .u8)) else st'.mem = st.mem)
    (shadow : if t = 5 then IMap Try.prog 38 .u64 w' bs c' (fun a => (st'.shadow a).map fourV) else st'.shadow = st.shadow)
    (locks : if t = 6 then RowAt w' (fun b => own' b = 6) 38 1 vl' st'.locks.length (st'.locks.map (Value.int .u64)) ∧ st'.locks.length ≤ c' else vl' = vl ∧ st'.locks = st.locks)
    (blocks : if t = 7 then IMap Try.prog 38 .u64 w' bb c' (fun a => (st'.blocks a).map madeV) else st'.blocks = st.blocks)
    (out : if t = 8 then RowAt w' (fun b => own' b = 8) 5 1 vo' st'.out.length (st'.out.map (Value.int .u8)) ∧ st'.out.length ≤ c' else vo' = vo ∧ st'.out = st.out)
    (input : IntsAt .u8 w0 vi' st'.input) : FParts w0 w' pw own' fnv tops st' c' bf bt bm bs bb vl' vi' vo' := by
  obtain ⟨t1, t2, t3, t4, t5, t7⟩ := h.tag
  have hlens := h.lens
  have hsz := hs.size
  have ss : ∀ {b : Nat} {k : Nat}, own b = k → k ≠ 0 → own' b = k := fun {b k} e hk => (same b (h.low b (by omega)).2).trans e
  have sr : ∀ (k : Nat) (b : Nat), own b = k → k ≠ 0 → k ≠ 1 → k ≠ t → b < w.heap.size → w'.heap[b]? = w.heap[b]? := fun k b e h0 h1 h2 _ => kk b (by omega) (by omega) (by omega)
  refine ⟨struct, ⟨ss t1 (by omega), ss t2 (by omega), ss t3 (by omega), ss t4 (by omega), ss t5 (by omega), ss t7 (by omega)⟩, ?_, ?_, ?_, ?_, ?_, ?_, ?_, input, ?_, ?_, ?_⟩
  · exact (h.fns.same (kk _ (by omega) (by omega) (by omega))).le hcc
  · exact (h.tops.same (kk _ (by omega) (by omega) (by omega))).le hcc
  · by_cases e : t = 4
    · rw [if_pos e] at mem; exact mem
    · rw [if_neg e] at mem; rw [mem]
      exact (h.mem.same (kk _ (by omega) (by omega) (by omega))).le hcc
  · by_cases e : t = 5
    · rw [if_pos e] at shadow; exact shadow
    · rw [if_neg e] at shadow; rw [shadow]
      exact (h.shadow.same (kk _ (by omega) (by omega) (by omega))).le hcc
  · by_cases e : t = 7
    · rw [if_pos e] at blocks; exact blocks
    · rw [if_neg e] at blocks; rw [blocks]
      exact (h.blocks.same (kk _ (by omega) (by omega) (by omega))).le hcc
  · by_cases e : t = 6
    · rw [if_pos e] at locks; exact locks.1
    · rw [if_neg e] at locks; rw [locks.1, locks.2]
      exact (h.locks.same fun b hb hlt => sr 6 b hb (by omega) (by omega) (by omega) hlt).mono fun b hb => ss hb (by omega)
  · by_cases e : t = 8
    · rw [if_pos e] at out; exact out.1
    · rw [if_neg e] at out; rw [out.1, out.2]
      exact (h.out.same fun b hb hlt => sr 8 b hb (by omega) (by omega) (by omega) hlt).mono fun b hb => ss hb (by omega)
  · intro b hb
    refine ⟨?_, top b hb⟩
    by_cases hlt : b < w.heap.size
    · exact (h.low b (by rw [same b hlt] at hb; exact hb)).1
    · have := h.step.size; omega
  · exact h.step.trans hs fun b hb => .inl (h.low b hb).1
  · constructor
    · by_cases e : t = 6
      · rw [if_pos e] at locks; exact locks.2
      · rw [if_neg e] at locks; rw [locks.2]; omega
    · by_cases e : t = 8
      · rw [if_pos e] at out; exact out.2
      · rw [if_neg e] at out; rw [out.2]; omega
theorem FWAt.still (h : FWAt w0 w pw own fnv tops st c) (s : Step (fun _ => False) w w') : FWAt w0 w' pw own fnv tops st c := by
  obtain ⟨_, _, _, _, _, _, _, _, h⟩ := h
  exact (h.still s).whole
theorem FWAt.le (h : FWAt w0 w pw own fnv tops st c) {d : Nat} (e : c ≤ d) : FWAt w0 w pw own fnv tops st d := by
  obtain ⟨_, _, _, _, _, _, _, _, h⟩ := h
  exact ⟨_, _, _, _, _, _, _, _, h.struct, h.tag, h.fns.le e, h.tops.le e, h.mem.le e, h.shadow.le e, h.blocks.le e, h.locks, h.out, h.input, h.low, h.step, by have := h.lens; omega⟩
theorem FWAt.low (h : FWAt w0 w pw own fnv tops st c) : ∀ b, own b ≠ 0 → w0.heap.size ≤ b ∧ b < w.heap.size := by
  obtain ⟨_, _, _, _, _, _, _, _, h⟩ := h
  exact h.low
theorem FWAt.fresh0 (h : FWAt w0 w pw own fnv tops st c) : own w.heap.size = 0 := by
  by_cases e : own w.heap.size = 0
  · exact e
  · have := (h.low _ e).2; omega
/-- a cell older than the machine -/
theorem FWAt.cell_old (h : FWAt w0 w pw own fnv tops st c) {a : Addr} (hb : a.block < w0.heap.size) : w.cell? a = w0.cell? a := by
  obtain ⟨_, _, _, _, _, _, _, _, h⟩ := h
  exact cell_of (h.step.block _ hb (fun x => by omega))
end

/-! ### The plain functions -/
theorem need_ok (s : Int) (w : World) : Calls Try.prog 58 #[.bool true, .int .i64 s] w fun e w' => e = .returned (.tuple #[]) ∧ w = w' := by
  go_enter Try.func58, Try.ntmps58
  go_wp2_with fail
  go_end0
  exact ⟨rfl, rfl⟩
/-- what is thrown: state and code -/
def stopV (s code : Int) : Value := .iface 74 (.agg #[.int .i64 s, .int .u8 code])
theorem need_no (s : Int) (w : World) : Calls Try.prog 58 #[.bool false, .int .i64 s] w fun e w' => e = .panicked [{ v := stopV s 0, recovered := false }] ∧ w = w' := by
  go_enter Try.func58, Try.ntmps58
  go_wp2_with fail
  exact ⟨rfl, rfl, rfl⟩
theorem and_not_15 (x : BitVec 64) : x &&& ~~~(15#64) = (x >>> 4) <<< 4 := by
  apply BitVec.eq_of_getLsbD_eq
  intro i hi
  have h15 : (15#64).getLsbD i = decide (i < 4) := by
    have : (15#64).getLsbD i = (15 : Nat).testBit i := by simp [BitVec.getLsbD, BitVec.toNat_ofNat]
    rw [this, show (15 : Nat) = 2 ^ 4 - 1 from rfl, Nat.testBit_two_pow_sub_one]
  simp only [BitVec.getLsbD_and, BitVec.getLsbD_not, BitVec.getLsbD_shiftLeft, BitVec.getLsbD_ushiftRight, h15]
  by_cases h : i < 4
  · simp [h, hi]
  · have e : 4 + (i - 4) = i := by omega
    simp [h, hi, e]
theorem andnot15 (x : Int) (h0 : 0 ≤ x) (h1 : x < 4611686018427387904) : bits .andNot .i64 x 15 = x / 16 * 16 := by
  obtain ⟨n, rfl⟩ := Int.eq_ofNat_of_zero_le h0
  show IntKind.i64.wrap ((BitVec.ofInt 64 (n : Int) &&& ~~~(BitVec.ofInt 64 15)).toNat : Int) = _
  rw [show BitVec.ofInt 64 15 = 15#64 from rfl, and_not_15, BitVec.toNat_shiftLeft, BitVec.toNat_ushiftRight, BitVec.ofInt_natCast, BitVec.toNat_ofNat, Nat.shiftLeft_eq, Nat.shiftRight_eq_div_pow, IntKind.wrap_i64]
  have e1 : n % 2 ^ 64 = n := Nat.mod_eq_of_lt (by omega)
  rw [e1]
  have e2 : n / 2 ^ 4 * 2 ^ 4 % 2 ^ 64 = n / 16 * 16 := by
    rw [show (2 : Nat) ^ 4 = 16 from rfl]
    exact Nat.mod_eq_of_lt (by omega)
  rw [e2]
  omega
theorem up_any (n : Int) (h0 : 0 ≤ n) (h1 : n ≤ 1000000000000) (w : World) : Calls Try.prog 26 #[.int .i64 n] w fun e w' => e = .returned (.int .i64 ((n + 15) / 16 * 16)) ∧ w = w' := by
  go_enter Try.func26, Try.ntmps26
  go_wp2_with fail
  rw [andnot15 (n + 15) (by omega) (by omega)]
  go_ret
  exact ⟨rfl, rfl⟩
/-- has a lock a key -/
def heldF (locks : List Int) (lock key : Int) : Bool := !(key == 0) && decide (lock < locks.length) && (locks.getD lock.toNat 0 == key)
/-- may bytes stand there -/
def placeF (at_ n : Int) : Bool := (at_ % n == 0) && decide (4096 ≤ at_) && decide (at_ ≤ 4194304 - n)
theorem need_no' {b : Bool} (hb : b = false) (s : Int) (w : World) : Calls Try.prog 58 #[.bool b, .int .i64 s] w fun e w' => e = .panicked [{ v := stopV s 0, recovered := false }] ∧ w = w' := by
  subst hb; exact need_no s w
theorem need_ok' {b : Bool} (hb : b = true) (s : Int) (w : World) : Calls Try.prog 58 #[.bool b, .int .i64 s] w fun e w' => e = .returned (.tuple #[]) ∧ w = w' := by
  subst hb; exact need_ok s w
set_option maxRecDepth 100000 in
theorem place_ok (p : Value) (a n : Int) (hn : n = 1 ∨ n = 4 ∨ n = 8) (h : placeF a n = true) (w : World) : Calls Try.prog 96 #[p, .int .u64 a, .int .i64 n] w fun e w' => e = .returned (.tuple #[]) ∧ w = w' := by
  unfold placeF at h
  simp only [Bool.and_eq_true, beq_iff_eq, decide_eq_true_eq] at h
  obtain ⟨⟨h1, h2⟩, h3⟩ := h
  rcases hn with rfl | rfl | rfl
  all_goals
    go_enter Try.func96, Try.ntmps96
    go_wp2_with fail
    refine (need_ok' ?_ _ _).mono ?_
    · first
        | rfl
        | (refine decide_eq_true ?_
           omega)
    · rintro e w' ⟨rfl, rfl⟩
      go_wp2_with fail
      go_end0
      exact ⟨rfl, rfl⟩
set_option maxRecDepth 100000 in
theorem place_no (p : Value) (a n : Int) (hn : n = 1 ∨ n = 4 ∨ n = 8) (h0 : 0 ≤ a) (h : placeF a n = false) (w : World) : Calls Try.prog 96 #[p, .int .u64 a, .int .i64 n] w fun e w' => e = .panicked [{ v := stopV 4 0, recovered := false }] ∧ w = w' := by
  have key : a % n = 0 → 4096 ≤ a → a ≤ 4194304 - n → False := by
    intro x y z
    simp [placeF, x, y, z] at h
  clear h
  rcases hn with rfl | rfl | rfl
  all_goals
    go_enter Try.func96, Try.ntmps96
    go_wp2_with fail
    all_goals
      refine (need_no' ?_ _ _).mono ?_
      · first
          | rfl
          | (refine decide_eq_false fun hle => ?_
             exact key (by omega) (by omega) hle)
      · rintro e w' ⟨rfl, rfl⟩
        exact ⟨rfl, rfl, rfl⟩
end Go.Proofs.Ytpmbakhnamlooaa
