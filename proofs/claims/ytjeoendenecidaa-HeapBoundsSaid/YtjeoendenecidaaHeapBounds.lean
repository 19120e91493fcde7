/- HeapBounds returns true for every two ints and every pair of ints, without conditions. -/
import Derived.Test.YtjeoendenecidaaRows
import Derived.Lib.SmallJoins
import Derived.Test.YtjeoendenecidaaHeapG
import Derived.Test.YtjeoendenecidaaLibE
import Derived.Test.YtjeoendenecidaaLibF
import Derived.Test.YtjeoendenecidaaLibK
import Derived.Deep.DeepCutAuto
namespace Go.Proofs.Ytjeoendenecidaa.heapBounds
open Go.ChangeShapes Go.WideShapes Go.ChangeAt Go.RowKit Go.Joins
set_option linter.unusedVariables false

theorem own : ownKnob Try.prog.godebug = none := by kernel_rfl

def planB : Plan where
  T := [[], [0], [0, 1], [0, 1, 2], [0, 1, 2, 3], [], [5], [5, 6], [5, 6, 7], [5, 6, 7, 8], [0, 1, 2, 3, 4], [0, 1, 2, 3, 4, 5, 6, 7, 8, 9, 10]]
  rd := [[], [(0, some 41)], [(1, some 42)], [(2, some 43)], [(3, some 44)], [], [(5, some 46)], [(6, some 47)], [(7, some 48)], [(8, some 49)], [(4, some 45)]]
  all := [(10, some 10), (9, some 50), (8, some 49), (7, some 48), (6, some 47), (5, some 46), (4, some 45), (3, some 44), (2, some 43), (1, some 42), (0, some 41)]
  calm := [true, true, true, true, true, true, true, true, true, true, true]
  hard := []
  fresh := [false, false, false, false, false, false, false, false, false, false, false]

theorem tm40 (n : Int) : 0 ≤ wrap64 ((IntKind.u64.wrap n).tmod 40) ∧ wrap64 ((IntKind.u64.wrap n).tmod 40) < 40 := by
  have h0 : 0 ≤ IntKind.u64.wrap n := by rw [IntKind.wrap_u64]; omega
  have e : (IntKind.u64.wrap n).tmod 40 = (IntKind.u64.wrap n) % 40 := Int.tmod_eq_emod_of_nonneg h0
  rw [e]
  unfold wrap64
  omega
theorem idx3 (k : Nat) (hk : k < 3) : ∃ b : Int, (b = 1 ∨ b = 4 ∨ b = 8) ∧ ∀ w, (Instr.index 38 (.agg #[.int .i64 1, .int .i64 4, .int .i64 8]) (.int .i64 (k : Int))).run Try.prog w = .ok (.int .i64 b) w := by
  match k, hk with
  | 0, _ => exact ⟨1, .inl rfl, fun w => by kernel_rfl⟩
  | 1, _ => exact ⟨4, .inr (.inl rfl), fun w => by kernel_rfl⟩
  | 2, _ => exact ⟨8, .inr (.inr rfl), fun w => by kernel_rfl⟩
theorem code_of (off lo hi b : Int) : ((if off < lo ∨ hi ≤ off ∨ hi - off < b then (21 : Int) else 0) = 0 ∧ ¬ (off < lo ∨ hi ≤ off ∨ hi - off < b)) ∨ ((if off < lo ∨ hi ≤ off ∨ hi - off < b then (21 : Int) else 0) = 21 ∧ (off < lo ∨ hi ≤ off ∨ hi - off < b)) := by
  by_cases h : off < lo ∨ hi ≤ off ∨ hi - off < b
  · exact .inr ⟨if_pos h, h⟩
  · exact .inl ⟨if_neg h, h⟩
abbrev oneB (n : Int) : List HB := [⟨0, false, false, false⟩] ++ [⟨n, true, true, false⟩]
theorem at_one (n off lo hi b : Int) (hb : b = 1 ∨ b = 4 ∨ b = 8) : atOf (oneB n) 1 off lo hi b = if off < lo ∨ hi ≤ off ∨ hi - off < b then 21 else 0 := by
  have e0 : liveOf (oneB n) 1 = true := by simp [liveOf, blockOf]
  unfold atOf
  rw [if_neg (by omega), if_neg (by decide), if_neg (by rw [e0]; simp)]
/-- Load, of a heap in which nothing stands -/
theorem load_none {T : List Nat} {w0 w : World} {p m : Nat} {n : Int} (h : Law T w0 w p (oneB n) (fun _ => none) m) {off lo hi b c : Int} (hb : b = 1 ∨ b = 4 ∨ b = 8) (hc : (if off < lo ∨ hi ≤ off ∨ hi - off < b then (21 : Int) else 0) = c)
    (o0 : -9223372036854775808 ≤ off) (o1 : off ≤ 9223372036854775807) (i0 : -9223372036854775808 ≤ hi) (i1 : hi ≤ 9223372036854775807) :
    Calls Try.prog 17 #[.pointer (some ⟨p, 0, none⟩), .agg #[.int .i64 1, .int .i64 off, .int .i64 lo, .int .i64 hi], .int .i64 b] w fun e w' =>
      e = .returned (.tuple #[.agg #[.int .u64 0, .int .i64 0, .int .i64 0, .int .i64 0, .int .i64 0], .int .i64 c]) ∧ Law T w0 w' p (oneB n) (fun _ => none) m ∧ Step (fun _ => False) w w' := by
  refine (law_load h 1 off lo hi b (by decide) (by decide) o0 o1 i0 i1).mono ?_
  rintro e w' ⟨rfl, h⟩
  rw [at_one n off lo hi b hb, hc]
  refine ⟨?_, h⟩
  have : (if c = 0 then getOf (fun _ => none) 1 off else HV.zero) = HV.zero := by split <;> rfl
  rw [this]; rfl
theorem leaves (z N A S Hq b : Int) (a0 : 0 ≤ A) (s0 : 0 ≤ S) (q1 : Hq ≤ N) (q2 : Hq ≤ A + S) (q3 : N ≤ Hq ∨ A + S ≤ Hq) (b0 : 1 ≤ b) :
    ∃ c1 c2 : Int, (if z < 0 ∨ N ≤ z ∨ N - z < b then (21 : Int) else 0) = c1 ∧ (if A + z < A ∨ Hq ≤ A + z ∨ Hq - (A + z) < b then (21 : Int) else 0) = c2 ∧
      ((c1 = 0 ∧ c2 = 0 ∧ decide (0 ≤ z) = true ∧ decide (z + b ≤ N) = true ∧ decide (z + b ≤ S) = true ∧ decide (A + z + b ≤ N) = true) ∨
       (c1 = 0 ∧ c2 = 21 ∧ decide (0 ≤ z) = true ∧ decide (z + b ≤ N) = true ∧ decide (z + b ≤ S) = true ∧ decide (A + z + b ≤ N) = false) ∨
       (c1 = 0 ∧ c2 = 21 ∧ decide (0 ≤ z) = true ∧ decide (z + b ≤ N) = true ∧ decide (z + b ≤ S) = false) ∨
       (c1 = 21 ∧ c2 = 21 ∧ decide (0 ≤ z) = true ∧ decide (z + b ≤ N) = false ∧ decide (z + b ≤ S) = true ∧ decide (A + z + b ≤ N) = false) ∨
       (c1 = 21 ∧ c2 = 21 ∧ decide (0 ≤ z) = true ∧ decide (z + b ≤ N) = false ∧ decide (z + b ≤ S) = false) ∨
       (c1 = 21 ∧ c2 = 21 ∧ decide (0 ≤ z) = false)) := by
  refine ⟨_, _, rfl, rfl, ?_⟩
  simp only [decide_eq_true_eq, decide_eq_false_iff_not]
  rcases code_of z 0 N b with ⟨e1, p1⟩ | ⟨e1, p1⟩ <;> rcases code_of (A + z) A Hq b with ⟨e2, p2⟩ | ⟨e2, p2⟩ <;> rw [e1, e2]
  · exact .inl ⟨rfl, rfl, by omega, by omega, by omega, by omega⟩
  · by_cases g3 : z + b ≤ S
    · exact .inr (.inl ⟨rfl, rfl, by omega, by omega, g3, by omega⟩)
    · exact .inr (.inr (.inl ⟨rfl, rfl, by omega, by omega, g3⟩))
  · exfalso; omega
  · by_cases g1 : 0 ≤ z
    · by_cases g3 : z + b ≤ S
      · exact .inr (.inr (.inr (.inl ⟨rfl, rfl, g1, by omega, g3, by omega⟩)))
      · exact .inr (.inr (.inr (.inr (.inl ⟨rfl, rfl, g1, by omega, g3⟩))))
    · exact .inr (.inr (.inr (.inr (.inr ⟨rfl, rfl, g1⟩))))
theorem leaves2 (z N b : Int) (b0 : 1 ≤ b) :
    ∃ c1 : Int, (if z < 0 ∨ N ≤ z ∨ N - z < b then (21 : Int) else 0) = c1 ∧
      ((c1 = 0 ∧ decide (0 ≤ z) = true ∧ decide (z ≤ N - b) = true) ∨ (c1 = 21 ∧ decide (0 ≤ z) = true ∧ decide (z ≤ N - b) = false) ∨ (c1 = 21 ∧ decide (0 ≤ z) = false)) := by
  refine ⟨_, rfl, ?_⟩
  simp only [decide_eq_true_eq, decide_eq_false_iff_not]
  rcases code_of z 0 N b with ⟨e1, p1⟩ | ⟨e1, p1⟩ <;> rw [e1]
  · exact .inl ⟨rfl, by omega, by omega⟩
  · by_cases g1 : 0 ≤ z
    · exact .inr (.inl ⟨rfl, g1, by omega⟩)
    · exact .inr (.inr ⟨rfl, g1⟩)
/-- what stands at each round's head -/
def BInv (w1 wr : World) (p t8 t12 : Nat) (N A Hq : Int) : Prop :=
  Law [t12, t8] w1 wr p (oneB N) (fun _ => none) 0 ∧ wr.heap[t8]? = some (pObj 1 0 0 N) ∧ wr.heap[t12]? = some (pObj 1 A A Hq)

set_option maxHeartbeats 4000000 in
set_option maxRecDepth 100000 in
theorem walk (n off x0 x1 : Int) (f0 : -9223372036854775808 ≤ off) (f1 : off ≤ 9223372036854775807) (w : World) : Calls Try.prog 4 #[.int .i64 n, .int .i64 off, .agg #[.int .i64 x0, .int .i64 x1]] w fun e w' => e = .returned (.bool true) ∧ Below w.heap.size w w' := by
  go_enter Try.func4, Try.ntmps4
  go_wp2_with fail
  obtain ⟨t5, w1, e1, e2, k5, s1⟩ := made0 w (.cells #[.int .i64 x0, .int .i64 x1] 24)
  rw [e1, e2]
  have B1 := Lib.hid (s1.below (Nat.le_refl _) fun _ x => x.elim)
  have K5 := Lib.hid k5
  have l5 := lt_obj k5
  clear e1 e2 k5 s1
  refine (law_new _).mono ?_; rintro e w2 ⟨p, rfl, h2⟩
  have H2 := Lib.hid h2
  clear h2
  go_wp2_with fail
  refine (awake_any _).mono ?_; rintro e w3 ⟨rfl, s3⟩
  have H3 := Lib.hid (H2.out.still s3)
  clear s3 H2
  go_wp2_with fail
  obtain ⟨n0, n1⟩ := tm40 n
  generalize wrap64 ((IntKind.u64.wrap n).tmod 40) = N at *
  refine (law_make H3.out N true n0 (by omega) (by decide)).mono ?_; rintro e w4 ⟨rfl, h4, _⟩
  have H4 := Lib.hid h4
  clear h4 H3
  go_wp2_with fail
  obtain ⟨t8, w5, e1, e2, h5, k8, s5⟩ := H4.out.made (pObj 1 0 0 N)
  have H5 := Lib.hid h5
  have k5 : w5.heap[t5]? = some _ := (h5.old l5).trans K5.out
  rw [e1, e2]
  clear e1 e2 h5 s5 H4
  obtain ⟨c0, c1, _⟩ := cells_known2 k5
  obtain ⟨d0, d1, d2, d3, _⟩ := cells_known4 k8
  have l8 := lt_obj k8
  have l5' := lt_obj k5
  have K8 := Lib.hid k8
  clear k8 k5
  refine wp_region_each 11 planB (fun _ _ => False) (Step (fun _ => False) w5) (fun _ => True) [Is ?v8_0, Is ?v8_1, Is ?v8_2, Is ?v8_3, Is ?v8_4, Is ?v8_5, Is ?v8_6, Is ?v8_7, Is ?v8_8, Is ?v8_9, Is ?v8_10] (by kernel_rfl) (by kernel_rfl) (fun _ _ h => h.elim) ((Step.refl _ _).drew) trivial ?stab8 (fun _ _ h => h.elim) ?obl8 ?fin8
  case stab8 => exact fun w w' h => ⟨fun k => k.trans h (fun _ x => x.elim), fun _ => trivial, fun _ k => k, fun _ k => k, fun _ k => k, fun _ k => k, fun _ k => k, fun _ k => k, fun _ k => k, fun _ k => k, fun _ k => k, fun _ k => k, fun _ k => k, trivial⟩
  case obl8 =>
    refine ⟨?o8_0, ?o8_1, ?o8_2, ?o8_3, ?o8_4, ?o8_5, ?o8_6, ?o8_7, ?o8_8, ?o8_9, ?o8_10, trivial⟩
    case o8_0 =>
      intro x w hH _ H a ha Q' hQ
      have cc := scell hH
      change a = puts _ x [] at ha
      simp only [puts] at ha
      subst ha; clear H 
      go_wp2_with fail
      (try refine hQ _ _ ?_)
      refine ⟨Step.refl _ _, ?_, nofun⟩
      exact (rfl : _ = _)
    case o8_1 =>
      intro x w hH _ H a ha Q' hQ
      have cc := scell hH
      have h0 : x 0 = _ := H 0 (by kernel_rfl)
      change a = puts _ x [(0, some 41)] at ha
      simp only [puts, Act.put, List.setIfInBounds_toArray, List.set_cons_zero, List.set_cons_succ, h0] at ha
      subst ha; clear H h0
      go_wp2_with fail
      (try refine hQ _ _ ?_)
      refine ⟨Step.refl _ _, ?_, nofun⟩
      exact (rfl : _ = _)
    case o8_2 =>
      intro x w hH _ H a ha Q' hQ
      have cc := scell hH
      have h1 : x 1 = _ := H 1 (by kernel_rfl)
      change a = puts _ x [(1, some 42)] at ha
      simp only [puts, Act.put, List.setIfInBounds_toArray, List.set_cons_zero, List.set_cons_succ, h1] at ha
      subst ha; clear H h1
      go_wp2_with fail
      (try refine hQ _ _ ?_)
      refine ⟨Step.refl _ _, ?_, nofun⟩
      exact (rfl : _ = _)
    case o8_3 =>
      intro x w hH _ H a ha Q' hQ
      have cc := scell hH
      have h2 : x 2 = _ := H 2 (by kernel_rfl)
      change a = puts _ x [(2, some 43)] at ha
      simp only [puts, Act.put, List.setIfInBounds_toArray, List.set_cons_zero, List.set_cons_succ, h2] at ha
      subst ha; clear H h2
      go_wp2_with fail
      (try refine hQ _ _ ?_)
      refine ⟨Step.refl _ _, ?_, nofun⟩
      exact (rfl : _ = _)
    case o8_4 =>
      intro x w hH _ H a ha Q' hQ
      have cc := scell hH
      have h3 : x 3 = _ := H 3 (by kernel_rfl)
      change a = puts _ x [(3, some 44)] at ha
      simp only [puts, Act.put, List.setIfInBounds_toArray, List.set_cons_zero, List.set_cons_succ, h3] at ha
      subst ha; clear H h3
      go_wp2_with fail
      (try refine hQ _ _ ?_)
      refine ⟨Step.refl _ _, ?_, nofun⟩
      exact (rfl : _ = _)
    case o8_5 =>
      intro x w hH _ H a ha Q' hQ
      have cc := scell hH
      change a = puts _ x [] at ha
      simp only [puts] at ha
      subst ha; clear H 
      go_wp2_with fail
      (try refine hQ _ _ ?_)
      refine ⟨Step.refl _ _, ?_, nofun⟩
      exact (rfl : _ = _)
    case o8_6 =>
      intro x w hH _ H a ha Q' hQ
      have cc := scell hH
      have h5 : x 5 = _ := H 5 (by kernel_rfl)
      change a = puts _ x [(5, some 46)] at ha
      simp only [puts, Act.put, List.setIfInBounds_toArray, List.set_cons_zero, List.set_cons_succ, h5] at ha
      subst ha; clear H h5
      go_wp2_with fail
      (try refine hQ _ _ ?_)
      refine ⟨Step.refl _ _, ?_, nofun⟩
      exact (rfl : _ = _)
    case o8_7 =>
      intro x w hH _ H a ha Q' hQ
      have cc := scell hH
      have h6 : x 6 = _ := H 6 (by kernel_rfl)
      change a = puts _ x [(6, some 47)] at ha
      simp only [puts, Act.put, List.setIfInBounds_toArray, List.set_cons_zero, List.set_cons_succ, h6] at ha
      subst ha; clear H h6
      go_wp2_with fail
      (try refine hQ _ _ ?_)
      refine ⟨Step.refl _ _, ?_, nofun⟩
      exact (rfl : _ = _)
    case o8_8 =>
      intro x w hH _ H a ha Q' hQ
      have cc := scell hH
      have h7 : x 7 = _ := H 7 (by kernel_rfl)
      change a = puts _ x [(7, some 48)] at ha
      simp only [puts, Act.put, List.setIfInBounds_toArray, List.set_cons_zero, List.set_cons_succ, h7] at ha
      subst ha; clear H h7
      go_wp2_with fail
      (try refine hQ _ _ ?_)
      refine ⟨Step.refl _ _, ?_, nofun⟩
      exact (rfl : _ = _)
    case o8_9 =>
      intro x w hH _ H a ha Q' hQ
      have cc := scell hH
      have h8 : x 8 = _ := H 8 (by kernel_rfl)
      change a = puts _ x [(8, some 49)] at ha
      simp only [puts, Act.put, List.setIfInBounds_toArray, List.set_cons_zero, List.set_cons_succ, h8] at ha
      subst ha; clear H h8
      go_wp2_with fail
      (try refine hQ _ _ ?_)
      refine ⟨Step.refl _ _, ?_, nofun⟩
      exact (rfl : _ = _)
    case o8_10 =>
      intro x w hH _ H a ha Q' hQ
      have cc := scell hH
      have h4 : x 4 = _ := H 4 (by kernel_rfl)
      change a = puts _ x [(4, some 45)] at ha
      simp only [puts, Act.put, List.setIfInBounds_toArray, List.set_cons_zero, List.set_cons_succ, h4] at ha
      subst ha; clear H h4
      go_wp2_with fail
      (try refine hQ _ _ ?_)
      refine ⟨Step.refl _ _, ?_, nofun⟩
      exact (rfl : _ = _)
  intro x w6 hH _ H hsz hF hN
  have h0 : x 0 = _ := H 0 (by decide) (by kernel_rfl)
  have h1 : x 1 = _ := H 1 (by decide) (by kernel_rfl)
  have h2 : x 2 = _ := H 2 (by decide) (by kernel_rfl)
  have h3 : x 3 = _ := H 3 (by decide) (by kernel_rfl)
  have h4 : x 4 = _ := H 4 (by decide) (by kernel_rfl)
  have h5 : x 5 = _ := H 5 (by decide) (by kernel_rfl)
  have h6 : x 6 = _ := H 6 (by decide) (by kernel_rfl)
  have h7 : x 7 = _ := H 7 (by decide) (by kernel_rfl)
  have h8 : x 8 = _ := H 8 (by decide) (by kernel_rfl)
  have h9 : x 9 = _ := H 9 (by decide) (by kernel_rfl)
  have h10 : x 10 = _ := H 10 (by decide) (by kernel_rfl)
  simp only [planB, puts, Act.put, List.setIfInBounds_toArray, List.set_cons_zero, List.set_cons_succ, List.drop_succ_cons, List.drop_zero, h0, h1, h2, h3, h4, h5, h6, h7, h8, h9, h10]
  clear H hF hN h0 h1 h2 h3 h4 h5 h6 h7 h8 h9 h10
  have k8 : w6.heap[t8]? = some (pObj 1 0 0 N) := hH.keeps K8.out
  have H6 := Lib.hid (H5.out.still hH)
  clear hH hsz c0 c1 d0 d1 d2 d3 K8 H5 l5' l5 K5
  obtain ⟨d0, d1, d2, d3, _⟩ := cells_known4 k8
  have K8 := Lib.hid k8
  clear k8
  go_wp2_with fail
  obtain ⟨a0, a1⟩ := tm40 x0
  obtain ⟨s0, s1⟩ := tm40 x1
  generalize wrap64 ((IntKind.u64.wrap x0).tmod 40) = A at *
  generalize wrap64 ((IntKind.u64.wrap x1).tmod 40) = S at *
  have hq : ∃ Hq : Int, (if N ≤ A + S then N else A + S) = Hq ∧ mvOff 1 0 A = A ∧ ptLo 1 0 0 A = A ∧ ptHi 1 0 N A S = Hq := by
    have e : wrap64 (0 + A) = A := by unfold wrap64; omega
    have e2 : wrap64 (A + S) = A + S := by unfold wrap64; omega
    refine ⟨_, rfl, ?_, ?_, ?_⟩
    · simp only [mvOff, if_neg (show ¬ (1 : Int) = 0 by decide), e]
    · simp only [ptLo, if_neg (show ¬ (1 : Int) = 0 by decide), e]; omega
    · simp only [ptHi, if_neg (show ¬ (1 : Int) = 0 by decide), e, e2]
      rw [Int.min_def]
  obtain ⟨Hq, hq, m1, m2, m3⟩ := hq
  refine (part_val 1 0 0 N A S _).mono ?_; rintro e w7 ⟨rfl, s7⟩
  rw [m1, m2, m3]
  have hq1 : Hq ≤ N ∧ Hq ≤ A + S ∧ (N ≤ Hq ∨ A + S ≤ Hq) ∧ 0 ≤ Hq := by subst hq; split <;> omega
  have HQ := Lib.hid hq1
  clear hq m1 m2 m3 hq1
  have k8 := s7.keeps K8.out
  have h7 := H6.out.still s7
  clear H6 K8 d0 d1 d2 d3 s7
  obtain ⟨d0, d1, d2, d3, _⟩ := cells_known4 k8
  have H7 := Lib.hid h7
  have K8 := Lib.hid k8
  clear h7 k8
  go_wp2_with fail
  obtain ⟨t12, w8, e1, e2, h8, k12, s8⟩ := H7.out.made (pObj 1 A A Hq)
  rw [e1, e2]
  have INV : BInv w1 w8 p t8 t12 N A Hq := ⟨h8, s8.keeps K8.out, k12⟩
  clear e1 e2 h8 k12 s8 H7 K8 d0 d1 d2 d3
  have HI := Lib.hid INV
  clear INV
  go_loopw [14, 15, 16, 17, 18, 19, 20, 21, 56] (fun _ _ _ _ _ _ _ _ i wr => ∃ k : Nat, k ≤ 3 ∧ i = .int .i64 k ∧ BInv w1 wr p t8 t12 N A Hq) (fun _ _ _ _ _ _ _ _ i _ => 3 - (intOf i).toNat)
  case atStart => exact ⟨0, by omega, rfl, HI.out⟩
  case round =>
    obtain ⟨k, hk, rfl, hI⟩ := hrel
    by_cases hlt : k < 3
    · obtain ⟨b, hb, hidx⟩ := idx3 k hlt
      have hb0 : 1 ≤ b ∧ b ≤ 8 := by omega
      obtain ⟨hb0, hb1⟩ := hb0
      have HB := Lib.hid hb
      have HJ := Lib.hid hI
      have dk : decide ((k : Int) < 3) = true := decide_eq_true (by omega)
      clear hI hb
      go_wp2_with fail
      clear hidx
      go_loopw [15, 16, 17, 18, 19] (fun a _ _ _ _ wv => ∃ z : Int, -9 ≤ z ∧ z ≤ 50 ∧ a = .int .i64 z ∧ BInv w1 wv p t8 t12 N A Hq) (fun a _ _ _ _ _ => (50 - intOf a).toNat)
      case atStart => exact ⟨-9, by omega, by omega, rfl, HJ.out⟩
      case round =>
        obtain ⟨z, z0, z1, rfl, hI⟩ := hrel
        clear HJ HI
        obtain ⟨h, k8, k12⟩ := hI
        obtain ⟨q1, q2, q3, q4⟩ := HQ.out
        by_cases hz : z < 50
        · obtain ⟨u1, u2, e1, e2, hD⟩ := leaves z N A S Hq b a0 s0 q1 q2 q3 hb0
          rcases hD with ⟨rfl, rfl, dg1, dg2, dg3, dg4⟩ | ⟨rfl, rfl, dg1, dg2, dg3, dg4⟩ | ⟨rfl, rfl, dg1, dg2, dg3⟩ | ⟨rfl, rfl, dg1, dg2, dg3, dg4⟩ | ⟨rfl, rfl, dg1, dg2, dg3⟩ | ⟨rfl, rfl, dg1⟩
          all_goals
            have E1 := Lib.hid e1
            have E2 := Lib.hid e2
            clear e1 e2
            obtain ⟨c0, c1, c2, c3, _⟩ := cells_known4 k8
            have K8 := Lib.hid k8
            have K12 := Lib.hid k12
            have H := Lib.hid h
            clear h k8 k12
            go_wp2_with fail
            refine (move_at (x := z) (by decide) (by unfold wrap64; omega) _).mono ?_; rintro e v1 ⟨rfl, s1⟩
            have H1 := Lib.hid (H.out.still s1)
            have K8a := Lib.hid (s1.keeps K8.out)
            have K12a := Lib.hid (s1.keeps K12.out)
            clear s1 H K8 K12 c0 c1 c2 c3
            go_wp2_with fail
            refine (load_none H1.out HB.out E1.out (by omega) (by omega) (by omega) (by omega)).mono ?_; rintro e v2 ⟨rfl, h2, s2⟩
            have K8b := Lib.hid (s2.keeps K8a.out)
            have K12b := Lib.hid (s2.keeps K12a.out)
            have H2 := Lib.hid h2
            clear s2 h2 H1 K8a K12a
            obtain ⟨d0, d1, d2, d3, _⟩ := cells_known4 K12b.out
            have l12 := lt_obj K12b.out
            go_wp2_with fail
            obtain ⟨t16, v3, r1, r2, h3, k16, s3⟩ := H2.out.made (vObj 0 0 0 0 0)
            rw [r1]
            refine (move_at (x := A + z) (by decide) (by unfold wrap64; omega) _).mono ?_; rintro e v4 ⟨rfl, s4⟩
            have H4 := Lib.hid (h3.drop.still s4)
            have K8c := Lib.hid (s4.keeps (s3.keeps K8b.out))
            have K12c := Lib.hid (s4.keeps (s3.keeps K12b.out))
            clear s4 s3 k16 h3 H2 K8b K12b d0 d1 d2 d3 l12
            rw [r2]
            clear r1 r2
            go_wp2_with fail
            refine (load_none H4.out HB.out E2.out (by omega) (by omega) (by omega) (by omega)).mono ?_; rintro e v5 ⟨rfl, h5, s5⟩
            have K8d := Lib.hid (s5.keeps K8c.out)
            have K12d := Lib.hid (s5.keeps K12c.out)
            have H5 := Lib.hid h5
            clear s5 h5 H4 K8c K12c E1 E2
            go_wp2_with fail
            go_roundw
            case rel => exact ⟨z + 1, by omega, by omega, by go_num, (H5.out.al _).drop, (Step.alloc _ _ _).keeps K8d.out, (Step.alloc _ _ _).keeps K12d.out⟩
            case measure => simp [intOf]; omega
        · have dz : decide (z < 50) = false := decide_eq_false hz
          obtain ⟨c0, c1, c2, c3, _⟩ := cells_known4 k8
          have K8 := Lib.hid k8
          have K12 := Lib.hid k12
          have H := Lib.hid h
          clear h k8 k12
          have hoff : mvOff 1 0 off = off := by
            simp only [mvOff, if_neg (show ¬ (1 : Int) = 0 by decide)]
            unfold wrap64; omega
          have HO := Lib.hid hoff
          clear hoff
          obtain ⟨u1, e1, hD⟩ := leaves2 off N b hb0
          have E1 := Lib.hid e1
          clear e1
          rcases hD with ⟨rfl, dg1, dg2⟩ | ⟨rfl, dg1, dg2⟩ | ⟨rfl, dg1⟩
          all_goals
            go_wp2_with fail
            refine (move_val 1 0 0 N off _).mono ?_; rintro e v1 ⟨rfl, s1⟩
            rw [HO.out]
            have H1 := Lib.hid (H.out.still s1)
            have K8a := Lib.hid (s1.keeps K8.out)
            have K12a := Lib.hid (s1.keeps K12.out)
            clear s1 H K8 K12 c0 c1 c2 c3
            go_wp2_with fail
            refine (load_none H1.out HB.out E1.out f0 f1 (by omega) (by omega)).mono ?_; rintro e v2 ⟨rfl, h2, s2⟩
            have K8b := Lib.hid (s2.keeps K8a.out)
            have K12b := Lib.hid (s2.keeps K12a.out)
            have H2 := Lib.hid h2
            clear s2 h2 H1 K8a K12a
            go_wp2_with fail
            go_roundw
            case rel => exact ⟨k + 1, by omega, by go_num, (H2.out.al _).drop, (Step.alloc _ _ _).keeps K8b.out, (Step.alloc _ _ _).keeps K12b.out⟩
            case measure => simp [intOf]; omega
    · have dk : decide ((k : Int) < 3) = false := decide_eq_false (by omega)
      obtain ⟨h, _, _⟩ := hI
      have H := Lib.hid h
      clear h
      go_wp2_with fail
      go_ret
      exact ⟨rfl, Below.trans B1.out (H.out.step.below (Below.size B1.out) fun _ x => Nat.le_trans (Below.size B1.out) x)⟩

/-! ### The row. -/

set_option maxRecDepth 100000 in
theorem lifted (os : Os) (started : os.Started) (H : Type) (enc : TypeId × Value → H) :
    ReturnsInHanded {} Try.checked os 4 .any (Rows.heapBoundsSpec.pre6 enc Try.prog Try.f4 Rows.heapBoundsRow.domain false) (Rows.heapBoundsSpec.post enc Try.prog Try.f4 false true false false) := by
  refine returnsInHanded_of_change (C := Try.checked) own started (by kernel_rfl) Try.func4
    (ChangeSpec.witness6 (enc := enc) (C := Try.checked) false ⟨#[], #[.int .i64 0, .int .i64 0, .agg #[.int .i64 0, .int .i64 0]], []⟩ 8 (by kernel_rfl) (by kernel_rfl) (by kernel_rfl) (by kernel_rfl)) ?_
  intro W base args ds gs before hval0 hW hcnd _
  have hval : ∀ (j : Nat) t v, Try.f4.params[j]? = some t → args[j]? = some v → Value.okWide Try.prog W .any base t v := hval0
  have hW' := hW
  obtain ⟨p, q, hA0, hV, rfl, hfz, hnd⟩ := hW
  have hA : DataW.TrodAll enc Try.prog W 0 (fun _ => true) true Try.f4.params.toList args.toList ds p := hA0
  rw [Try.params4] at hA hval
  obtain ⟨v0, vs0, d0, ds0, p0, q0, hargs, rfl, rfl, h0, r0⟩ := trodAll_cons hA
  obtain ⟨v1, vs1, d1, ds1, p1, q1, rfl, rfl, rfl, h1, r1⟩ := trodAll_cons r0
  obtain ⟨v2, vs2, d2, ds2, p2, q2, rfl, rfl, rfl, h2, r2⟩ := trodAll_cons r1
  obtain ⟨rfl, rfl, rfl⟩ := trodAll_nil r2
  obtain rfl : args = #[v0, v1, v2] := by cases args; simp_all
  obtain ⟨rfl, rfl⟩ := trodVars_none hV
  obtain ⟨a0, rfl, rfl, rfl, w0⟩ := open_int Try.underlying3 (hval 0 3 v0 rfl rfl) h0
  obtain ⟨a1, rfl, rfl, rfl, w1⟩ := open_int Try.underlying3 (hval 1 3 v1 rfl rfl) h1
  obtain ⟨xs, hxs, rfl, rfl, rfl, wxs⟩ := open_int_arr Try.underlying24 Try.underlying3 (by kernel_rfl) (by kernel_rfl) (hval 2 24 v2 rfl rfl) h2
  obtain ⟨z0, z1, rfl⟩ := two_of xs hxs
  clear hA0 hval0
  simp only [List.append_nil] at hW'
  refine (walk a0 a1 z0 z1 (wfi64 w1).1 (wfi64 w1).2 W).mono fun e W' ⟨he, hb⟩ => ?_
  subst he
  exact ⟨_, rfl, law_post laidOut (by kernel_rfl) rfl rfl rfl Try.underlying4 hW' hb⟩

theorem over : Rows.heapBoundsRow.holds Try.pinned (OpenSpec.ofChange Rows.heapBoundsSpec) :=
  OpenClaim.holds_of_wide 4 Try.f4 rfl rfl rfl rfl rfl rfl rfl ⟨rfl, rfl, rfl, rfl, rfl⟩ rfl rfl rfl rfl rfl (by kernel_rfl) Try.func4 (by kernel_rfl)
    (of_decide_eq_true (by kernel_rfl)) (by unfold Func.isWrapper; first | (rw [if_pos (by decide +kernel)]; kernel_rfl) | (rw [if_neg (by decide +kernel)]; exact ⟨rfl, rfl⟩))
    (fun os started H enc _ => lifted os started H enc)

/-- The statement. -/
theorem proved : Rows.HeapBoundsSaid :=
  over
#print axioms proved
end Go.Proofs.Ytjeoendenecidaa.heapBounds
