/- The heap's small functions: Move, Part, New, Live; what a heap in memory stands for. -/
import Derived.Test.YtojfgdoniajmeaaRows
import Derived.Test.YtojfgdoniajmeaaLibR
import Derived.RegionTactic
namespace Go.Proofs.Ytojfgdoniajmeaa
set_option linter.unusedVariables false
set_option linter.unusedSimpArgs false
set_option maxRecDepth 100000
open Go.RowKit

/-- a pointer of the heap's: its block, its offset, from where to below where -/
structure HP where
  block : Int
  off : Int
  low : Int
  high : Int
/-- its four cells -/
def HP.cells (p : HP) : Array Value := #[.int .i64 p.block, .int .i64 p.off, .int .i64 p.low, .int .i64 p.high]
def HP.val (p : HP) : Value := .agg p.cells

/-- what stands at a place: a number, and a pointer -/
structure HV where
  num : Int
  ptr : HP
def HV.val (v : HV) : Value := .agg #[.int .u64 v.num, .int .i64 v.ptr.block, .int .i64 v.ptr.off, .int .i64 v.ptr.low, .int .i64 v.ptr.high]
def HV.zero : HV := ⟨0, ⟨0, 0, 0, 0⟩⟩

/-- one of its blocks: its size, may it be freed, is it live, was something stored in it -/
structure HB where
  size : Int
  free : Bool
  live : Bool
  used : Bool
def HB.cells (x : HB) : List Value := [.int .i64 x.size, .bool x.free, .bool x.live, .bool x.used]
def rows (l : List HB) : List Value := l.flatMap HB.cells

theorem move_any (b off lo hi n : Int) (w : World) : Calls Try.prog 84 #[.agg #[.int .i64 b, .int .i64 off, .int .i64 lo, .int .i64 hi], .int .i64 n] w fun e w' =>
    e = .returned (.agg #[.int .i64 b, .int .i64 (if b = 0 then off else wrap64 (off + n)), .int .i64 lo, .int .i64 hi]) ∧ Step (fun _ => False) w w' := by
  by_cases hb : b = 0
  · have hb1 : (b == 0) = true := by rw [hb]; rfl
    rw [if_pos hb]
    clear hb
    go_enter Try.func84, Try.ntmps84
    go_wp2
    refine bodyPost_ret (v := .agg #[.int .i64 b, .int .i64 off, .int .i64 lo, .int .i64 hi]) (by simp [results, Try.results84, go_sem]) rfl ⟨rfl, ?_⟩
    exact ((Step.refl _ w).al _).al _
  · have hb1 : (b == 0) = false := beq_eq_false_iff_ne.2 hb
    rw [if_neg hb]
    go_enter Try.func84, Try.ntmps84
    go_wp2
    refine bodyPost_ret (v := .agg #[.int .i64 b, .int .i64 (wrap64 (off + n)), .int .i64 lo, .int .i64 hi]) (by simp [results, Try.results84, go_sem]) rfl ⟨rfl, ?_⟩
    exact ((Step.refl _ w).al _).al _

/-- a pointer's part, as it stands in memory -/
theorem part_any (b off lo hi n m : Int) (w : World) : Calls Try.prog 86 #[.agg #[.int .i64 b, .int .i64 off, .int .i64 lo, .int .i64 hi], .int .i64 n, .int .i64 m] w fun e w' =>
    e = .returned (if b = 0 then .agg #[.int .i64 b, .int .i64 off, .int .i64 lo, .int .i64 hi] else
      .agg #[.int .i64 b, .int .i64 (wrap64 (off + n)), .int .i64 (max lo (wrap64 (off + n))), .int .i64 (min hi (wrap64 (wrap64 (off + n) + m)))]) ∧ Step (fun _ => False) w w' := by
  by_cases hb : b = 0
  · have hb1 : (b == 0) = true := by rw [hb]; rfl
    rw [if_pos hb]
    clear hb
    go_enter Try.func86, Try.ntmps86
    go_wp2
    refine bodyPost_ret (v := .agg #[.int .i64 b, .int .i64 off, .int .i64 lo, .int .i64 hi]) (by simp [results, Try.results86, go_sem]) rfl ⟨rfl, ?_⟩
    exact ((Step.refl _ w).al _).al _
  · have hb1 : (b == 0) = false := beq_eq_false_iff_ne.2 hb
    rw [if_neg hb]
    go_enter Try.func86, Try.ntmps86
    go_wp2
    all_goals
      (first | rw [show max lo (wrap64 (off + n)) = wrap64 (off + n) from by omega] | rw [show max lo (wrap64 (off + n)) = lo from by omega])
      (first | rw [show min hi (wrap64 (wrap64 (off + n) + m)) = wrap64 (wrap64 (off + n) + m) from by omega] | rw [show min hi (wrap64 (wrap64 (off + n) + m)) = hi from by omega])
      exact bodyPost_ret (by simp [results, Try.results86, go_sem]) rfl ⟨rfl, ((Step.refl _ w).al _).al _⟩

/-- its block of that number, if it has one -/
def blockOf (l : List HB) (b : Int) : HB := if 0 ≤ b then l.getD b.toNat ⟨0, false, false, false⟩ else ⟨0, false, false, false⟩
/-- a place as a key -/
def plKey (b o : Int) : Lit := .string (keyBytes [.int .i64 b, .int .i64 o])
/-- keys are places -/
def Places (f : Lit → Option HV) : Prop := ∀ kl v, f kl = some v → ∃ b o, (Lit.int .i64 b).wf = true ∧ (Lit.int .i64 o).wf = true ∧ kl = plKey b o

/-- in a block in which nothing was stored nothing stands -/
def Swept (l : List HB) (f : Lit → Option HV) : Prop := ∀ b o : Int, (Lit.int .i64 b).wf = true → (Lit.int .i64 o).wf = true → (blockOf l b).used = false → f (plKey b o) = none

/-- what a heap in memory stands for: its struct in block p; its blocks; what stands at its places (at most n are written); all in blocks of F -/
structure HeapAt (w : World) (p : Nat) (l : List HB) (f : Lit → Option HV) (n : Nat) (F : Nat → Prop) : Prop where
  struct : ∃ sv mb, w.heap[p]? = some (.cells #[sv, .map (some mb)] 92 (0, 0)) ∧ RowAt w (fun g => F g ∧ g ≠ p ∧ g ≠ mb) 114 4 sv l.length (rows l) ∧
    MapAt Try.prog 164 w mb n (fun kl => (f kl).map HV.val) ∧ F mb ∧ mb ≠ p
  here : F p
  dom : Places f
  clean : Swept l f

theorem new_any (w : World) : Calls Try.prog 25 #[] w fun e w' => ∃ p, e = .returned (.pointer (some ⟨p, 0, none⟩)) ∧ Step (fun _ => False) w w' ∧
    HeapAt w' p [⟨0, false, false, false⟩] (fun _ => none) 0 (fun g => w.heap.size ≤ g) := by
  have hmk := @run_makeMap Try.prog
  have hms : ∀ w, (Instr.makeSlice 89 (.int .i64 1) (.int .i64 1)).run Try.prog w = .ok (.slice (some ⟨w.heap.size, 0, none⟩) 1 1) (w.alloc (.cells #[.int .i64 0, .bool false, .bool false, .bool false] 114)) := fun _ => by kernel_rfl
  go_enter Try.func25, Try.ntmps25
  go_wp2
  go_ret
  refine ⟨w.heap.size + 1 + 1, rfl, (((Step.refl _ w).al _).al _).al _, ?_, by show w.heap.size ≤ _; omega, (fun _ _ h => by cases h), (fun _ _ _ _ _ => rfl)⟩
  generalize hw1 : w.alloc (Obj.cells #[Value.int IntKind.i64 0, Value.bool false, Value.bool false, Value.bool false] 114) = w1
  have s1 : w1.heap.size = w.heap.size + 1 := by rw [← hw1]; simp
  have k1 : w1.heap[w.heap.size]? = some (Obj.cells #[Value.int IntKind.i64 0, Value.bool false, Value.bool false, Value.bool false] 114) := by rw [← hw1]; exact heap_alloc_new w _
  generalize hw2 : w1.alloc (Obj.map #[] 0) = w2
  have s2 : w2.heap.size = w.heap.size + 1 + 1 := by rw [← hw2, ← s1]; simp
  have k2 : w2.heap[w.heap.size]? = some (Obj.cells #[Value.int IntKind.i64 0, Value.bool false, Value.bool false, Value.bool false] 114) := by rw [← hw2, heap_alloc_old w1 _ (by omega)]; exact k1
  have m2 : MapAt Try.prog 164 w2 (w.heap.size + 1) 0 (fun _ => none) := by rw [← hw2, ← s1]; exact mapAt_made w1 _ _
  refine ⟨_, _, by rw [← s2]; exact heap_alloc_new w2 _, ⟨rfl, .inr ⟨_, _, _, rfl, ⟨Nat.le_refl _, by omega, by omega⟩, by rw [heap_alloc_old w2 _ (by omega)]; exact k2, Nat.le_refl _, by simp [maxLen], rfl, rfl⟩⟩, ?_, by omega, by omega⟩
  exact m2.same (heap_alloc_old w2 _ (by omega))

def liveOf (l : List HB) (b : Int) : Bool := decide (0 < b) && (decide (b < l.length) && (blockOf l b).live)

theorem rows_length (l : List HB) : (rows l).length = l.length * 4 := by
  induction l with
  | nil => rfl
  | cons x l ih => simp [rows, HB.cells] at *; omega
theorem rows_get (l : List HB) (i : Nat) (h : i < l.length) (j : Nat) (hj : j < 4) : (rows l)[i * 4 + j]? = (l[i].cells)[j]? := by
  induction l generalizing i with
  | nil => simp at h
  | cons x l ih =>
    have e : rows (x :: l) = x.cells ++ rows l := rfl
    have e4 : x.cells.length = 4 := rfl
    cases i with
    | zero => rw [e, List.getElem?_append_left (by omega)]; simp
    | succ i =>
      rw [e, List.getElem?_append_right (by omega), e4, show (i + 1) * 4 + j - 4 = i * 4 + j from by omega, ih i (by simpa using h)]
      simp

/-- where a heap's blocks stand, for a walk -/
theorem HeapAt.open {w : World} {p : Nat} {l : List HB} {f : Lit → Option HV} {n : Nat} {F : Nat → Prop} (h : HeapAt w p l f n F) (hl : 0 < l.length) :
    ∃ g cap mb, w.cell? ⟨p, 0, none⟩ = some (.slice (some ⟨g, 0, none⟩) l.length cap) ∧ w.cell? ⟨p, 1, none⟩ = some (.map (some mb)) ∧ w.frozen? ⟨p, 0, none⟩ = false ∧ w.frozen? ⟨p, 1, none⟩ = false ∧ l.length ≤ cap ∧ cap ≤ maxLen ∧
      (∀ i, (hi : i < l.length) → w.cell? ⟨g, i * 4, none⟩ = some (.int .i64 l[i].size) ∧ w.cell? ⟨g, i * 4 + 1, none⟩ = some (.bool l[i].free) ∧ w.cell? ⟨g, i * 4 + 2, none⟩ = some (.bool l[i].live) ∧ w.cell? ⟨g, i * 4 + 3, none⟩ = some (.bool l[i].used)) ∧
      (∀ i, w.frozen? ⟨g, i, none⟩ = false) ∧ MapAt Try.prog 164 w mb n (fun kl => (f kl).map HV.val) ∧ F g ∧ F mb ∧ F p ∧ g ≠ p ∧ g ≠ mb ∧ mb ≠ p := by
  obtain ⟨⟨sv, mb, h1, h2, h3, h4, h5⟩, h6, h7, h8⟩ := h
  obtain ⟨g, cap, cur, rfl, ⟨g1, g2, g3⟩, hg, hc, hm, hs, ht⟩ := h2.some hl
  refine ⟨g, cap, mb, cell_known h1 rfl, cell_known h1 rfl, free_known h1 0, free_known h1 1, hc, hm, fun i hi => ?_, fun i => free_known hg i, h3, g1, h4, h6, g2, g3, h5⟩
  have k := fun j (hj : j < 4) (u : Value) (hu : (l[i].cells)[j]? = some u) => row_cell hg ht (j := i * 4 + j) (u := u) (by rw [rows_get l i hi j hj]; exact hu)
  exact ⟨k 0 (by omega) _ rfl, k 1 (by omega) _ rfl, k 2 (by omega) _ rfl, k 3 (by omega) _ rfl⟩

theorem HeapAt.same {w : World} {p : Nat} {l : List HB} {f : Lit → Option HV} {n : Nat} {F : Nat → Prop} (h : HeapAt w p l f n F) {w' : World} (g : ∀ b, F b → b < w.heap.size → w'.heap[b]? = w.heap[b]?) : HeapAt w' p l f n F := by
  obtain ⟨⟨sv, mb, h1, h2, h3, h4, h5⟩, h6, h7, h8⟩ := h
  exact ⟨⟨sv, mb, (g p h6 (lt_known h1)).trans h1, h2.same fun b hb hlt => g b hb.1 hlt, h3.same (g mb h4 h3.lt), h4, h5⟩, h6, h7, h8⟩
theorem HeapAt.al {w : World} {p : Nat} {l : List HB} {f : Lit → Option HV} {n : Nat} {F : Nat → Prop} (h : HeapAt w p l f n F) (o : Obj) : HeapAt (w.alloc o) p l f n F :=
  h.same fun b _ hlt => Below.heap_alloc w o b hlt
theorem HeapAt.drewN {w : World} {p : Nat} {l : List HB} {f : Lit → Option HV} {n : Nat} {F : Nat → Prop} (h : HeapAt w p l f n F) (k : Nat) : HeapAt (w.drewN k) p l f n F :=
  h.same fun _ _ _ => rfl
theorem HeapAt.congr {w : World} {p : Nat} {l : List HB} {f f' : Lit → Option HV} {n : Nat} {F : Nat → Prop} (h : HeapAt w p l f n F) (e : ∀ kl, WideAt.IsKeyLit kl → f kl = f' kl) (h1 : Places f') (h2 : Swept l f') : HeapAt w p l f' n F := by
  obtain ⟨⟨sv, mb, k1, k2, k3, k4, k5⟩, k6, _, _⟩ := h
  exact ⟨⟨sv, mb, k1, k2, k3.congr fun kl hk => by rw [e kl hk], k4, k5⟩, k6, h1, h2⟩
theorem HeapAt.mono {w : World} {p : Nat} {l : List HB} {f : Lit → Option HV} {n : Nat} {F : Nat → Prop} (h : HeapAt w p l f n F) {G : Nat → Prop} (g : ∀ b, F b → G b) : HeapAt w p l f n G := by
  obtain ⟨⟨sv, mb, h1, h2, h3, h4, h5⟩, h6, h7, h8⟩ := h
  exact ⟨⟨sv, mb, h1, h2.mono fun b hb => ⟨g b hb.1, hb.2⟩, h3, g mb h4, h5⟩, g p h6, h7, h8⟩

theorem live_any (p : Nat) (b : Int) (l : List HB) (f : Lit → Option HV) (n : Nat) (F : Nat → Prop) (w : World) (h : HeapAt w p l f n F) (hl : 0 < l.length) :
    Calls Try.prog 81 #[.pointer (some ⟨p, 0, none⟩), .int .i64 b] w fun e w' => e = .returned (.bool (liveOf l b)) ∧ w = w' := by
  obtain ⟨g, cap, mb, c0, _, _, _, k1, k2, kb, _⟩ := h.open hl
  unfold maxLen at k2
  by_cases h0 : 0 < b
  · by_cases h1 : b < l.length
    · obtain ⟨i, rfl⟩ := Int.eq_ofNat_of_zero_le (show 0 ≤ b by omega)
      have hi : i < l.length := by omega
      obtain ⟨_, _, c3, _⟩ := kb i hi
      have e : liveOf l i = l[i].live := by
        have hi0 : 0 < i := by omega
        unfold liveOf blockOf
        simp [hi0, hi]
      rw [e]
      clear kb e h
      go_enter Try.func81, Try.ntmps81
      go_wp2
      go_ret
      exact ⟨rfl, rfl⟩
    · have e : liveOf l b = false := by unfold liveOf; simp [h1]
      rw [e]
      clear kb e h
      go_enter Try.func81, Try.ntmps81
      go_wp2
      go_ret
      exact ⟨rfl, rfl⟩
  · have e : liveOf l b = false := by unfold liveOf; simp [h0]
    rw [e]
    clear kb e h
    go_enter Try.func81, Try.ntmps81
    go_wp2
    go_ret
    exact ⟨rfl, rfl⟩

theorem wrap_sub (x y : Int) (h0 : 0 ≤ x - y) (h1 : x - y < 18446744073709551616) : IntKind.u64.wrap (IntKind.u64.wrap x - IntKind.u64.wrap y) = x - y := by
  unfold IntKind.wrap
  simp [IntKind.bits, IntKind.signed]
  omega

/-- what is wrong with a pointer, where so many bytes are asked for -/
def atOf (l : List HB) (b off lo hi n : Int) : Int :=
  if n ≠ 1 ∧ n ≠ 4 ∧ n ≠ 8 then 1 else if b = 0 then 22 else if liveOf l b = false then 20 else if off < lo ∨ hi ≤ off ∨ hi - off < n then 21 else 0

set_option maxHeartbeats 4000000 in
theorem at_any (p : Nat) (b off lo hi n : Int) (l : List HB) (f : Lit → Option HV) (m : Nat) (F : Nat → Prop) (w : World) (h : HeapAt w p l f m F) (hl : 0 < l.length)
    (o0 : -9223372036854775808 ≤ off) (o1 : off ≤ 9223372036854775807) (i0 : -9223372036854775808 ≤ hi) (i1 : hi ≤ 9223372036854775807) :
    Calls Try.prog 90 #[.pointer (some ⟨p, 0, none⟩), .agg #[.int .i64 b, .int .i64 off, .int .i64 lo, .int .i64 hi], .int .i64 n] w fun e w' => e = .returned (.int .i64 (atOf l b off lo hi n)) ∧ Step (fun _ => False) w w' := by
  have hp := lt_known h.struct.choose_spec.choose_spec.1
  have L : Hid (∀ w, HeapAt w p l f m F → Calls Try.prog 81 #[.pointer (some ⟨p, 0, none⟩), .int .i64 b] w fun e w' => e = .returned (.bool (liveOf l b)) ∧ w = w') := Lib.hid fun w h => live_any p b l f m F w h hl
  by_cases hn : n ≠ 1 ∧ n ≠ 4 ∧ n ≠ 8
  · have e : atOf l b off lo hi n = 1 := if_pos hn
    rw [e]
    have n1 : (n != 1) = true := bne_iff_ne.2 hn.1
    have n2 : (n != 4) = true := bne_iff_ne.2 hn.2.1
    have n3 : (n != 8) = true := bne_iff_ne.2 hn.2.2
    clear h hl e hn
    go_enter Try.func90, Try.ntmps90
    go_wp2_with fail
    go_ret
    exact ⟨rfl, (Step.refl _ w).al _⟩
  have hn' : n = 1 ∨ n = 4 ∨ n = 8 := by omega
  by_cases hb : b = 0
  · have e : atOf l b off lo hi n = 22 := by unfold atOf; rw [if_neg hn, if_pos hb]
    rw [e]
    subst hb
    clear h hl e hn
    rcases hn' with rfl | rfl | rfl
    all_goals
      go_enter Try.func90, Try.ntmps90
      go_wp2_with fail
      go_ret
      exact ⟨rfl, (Step.refl _ w).al _⟩
  have hb1 : (b == 0) = false := beq_eq_false_iff_ne.2 hb
  cases hlv : liveOf l b with
  | false =>
    have e : atOf l b off lo hi n = 20 := by unfold atOf; rw [if_neg hn, if_neg hb, if_pos hlv]
    rw [e]
    clear e hn
    have L1 : Hid (∀ w, HeapAt w p l f m F → Calls Try.prog 81 #[.pointer (some ⟨p, 0, none⟩), .int .i64 b] w fun e w' => e = .returned (.bool false) ∧ w = w') := Lib.hid fun w h => hlv ▸ L.out w h
    have H1 := Lib.hid (h.al (.cells #[.int .i64 b, .int .i64 off, .int .i64 lo, .int .i64 hi] 94))
    clear h hl hlv L
    rcases hn' with rfl | rfl | rfl
    all_goals
      go_enter Try.func90, Try.ntmps90
      go_wp2_with fail
      refine (L1.out _ H1.out).mono ?_; rintro e w' ⟨rfl, rfl⟩
      go_wp2_with fail
      go_ret
      exact ⟨rfl, (Step.refl _ w).al _⟩
  | true =>
    have e : atOf l b off lo hi n = if off < lo ∨ hi ≤ off ∨ hi - off < n then 21 else 0 := by unfold atOf; rw [if_neg hn, if_neg hb, if_neg (by rw [hlv]; simp)]
    rw [e]
    clear e hn
    have L1 : Hid (∀ w, HeapAt w p l f m F → Calls Try.prog 81 #[.pointer (some ⟨p, 0, none⟩), .int .i64 b] w fun e w' => e = .returned (.bool true) ∧ w = w') := Lib.hid fun w h => hlv ▸ L.out w h
    have H1 := Lib.hid (h.al (.cells #[.int .i64 b, .int .i64 off, .int .i64 lo, .int .i64 hi] 94))
    clear h hl hlv L
    by_cases hc : off < lo ∨ hi ≤ off
    · rw [if_pos (by omega)]
      rcases hn' with rfl | rfl | rfl
      all_goals
        by_cases hc1 : off < lo
        all_goals
          go_enter Try.func90, Try.ntmps90
          go_wp2_with fail
          refine (L1.out _ H1.out).mono ?_; rintro e w' ⟨rfl, rfl⟩
          go_wp2_with fail
          go_ret
          exact ⟨rfl, (Step.refl _ w).al _⟩
    · have e1 : (if off < lo ∨ hi ≤ off ∨ hi - off < n then (21 : Int) else 0) = if hi - off < n then 21 else 0 := by
        by_cases k : hi - off < n
        · rw [if_pos (Or.inr (Or.inr k)), if_pos k]
        · rw [if_neg (by omega), if_neg k]
      rw [e1]; clear e1
      have hs : IntKind.u64.wrap (IntKind.u64.wrap hi - IntKind.u64.wrap off) = hi - off := wrap_sub hi off (by omega) (by omega)
      have hc1 : lo ≤ off := by omega
      have hc2 : off < hi := by omega
      clear hc
      by_cases hd : hi - off < n
      · rw [if_pos hd]
        rcases hn' with rfl | rfl | rfl
        · exfalso; omega
        all_goals
          go_enter Try.func90, Try.ntmps90
          go_wp2_with fail
          refine (L1.out _ H1.out).mono ?_; rintro e w' ⟨rfl, rfl⟩
          go_wp2_with fail
          go_ret
          exact ⟨rfl, (Step.refl _ w).al _⟩
      · rw [if_neg hd]
        rcases hn' with rfl | rfl | rfl
        all_goals
          go_enter Try.func90, Try.ntmps90
          go_wp2_with fail
          refine (L1.out _ H1.out).mono ?_; rintro e w' ⟨rfl, rfl⟩
          go_wp2_with fail
          go_ret
          exact ⟨rfl, (Step.refl _ w).al _⟩

end Go.Proofs.Ytojfgdoniajmeaa
