/- HeapMoves returns true for every pointer, every int and every pair of ints, without conditions. -/
import Derived.Test.YtjeoendenecidaaRows
import Derived.Test.YtjeoendenecidaaHeapG
import Derived.Test.YtjeoendenecidaaLibE
import Derived.Test.YtjeoendenecidaaLibF
import Derived.Test.YtjeoendenecidaaLibK
import Derived.Deep.DeepCutAuto
import Derived.Lib.SmallJoins
namespace Go.Proofs.Ytjeoendenecidaa.heapMoves
open Go.ChangeShapes Go.WideShapes Go.ChangeAt Go.RowKit Go.Joins
set_option linter.unusedVariables false

theorem own : ownKnob Try.prog.godebug = none := by kernel_rfl

def planM : Plan where
  T := [[], [], [0, 1], [], [], [4], [], [6], [0, 1, 2, 3, 4, 5, 6, 7], [], [], [0, 1, 2, 3, 4, 5, 6, 7, 8, 9, 10], [0, 1, 2, 3, 4, 5, 6, 7, 8, 9, 10, 11]]
  rd := [[], [], [(0, some 11), (1, some 12)], [], [], [(4, some 15)], [], [(6, some 17)], [(3, some 14), (5, some 16), (7, some 18)], [], []]
  all := [(10, some 8), (9, some 7), (8, some 19), (7, some 18), (6, some 17), (5, some 16), (4, some 15), (3, some 14), (2, some 13), (1, some 12), (0, some 11)]
  calm := [true, true, true, true, true, true, true, true, true, true, true]
  hard := []
  fresh := [false, false, false, false, false, false, false, false, false, true, true]

def planM4 : Plan where
  T := [[], [], [], [1, 2], [0, 1, 2, 3], [0, 1, 2, 3, 4], [0, 1, 2, 3, 4, 5], [0, 1, 2, 3, 4, 5], [0, 1, 2, 3, 4, 5], [0, 1, 2, 3, 4, 5, 8], [0, 1, 2, 3, 4, 5], [0, 1, 2, 3, 4, 5, 10], [0, 1, 2, 3, 4, 5, 7, 8, 9, 10, 11], [0, 1, 2, 3, 4, 5, 6, 7, 8, 9, 10, 11, 12], [0, 1, 2, 3, 4, 5, 6, 7, 8, 9, 10, 11, 12, 13]]
  rd := [[], [], [], [(1, some 21), (2, some 22)], [(0, some 20), (3, some 23)], [(4, some 24)], [(5, some 25)], [(5, some 25)], [(5, some 25)], [(5, some 25), (8, some 28)], [(5, some 25)], [(5, some 25), (10, some 30)], [(5, some 25), (7, some 27), (9, some 29), (11, some 31)]]
  all := [(12, some 32), (11, some 31), (10, some 30), (9, some 29), (8, some 28), (7, some 27), (6, some 26), (5, some 25), (4, some 24), (3, some 23), (2, some 22), (1, some 21), (0, some 20)]
  calm := [true, true, true, true, true, true, true, true, true, true, true, true, true]
  hard := []
  fresh := [false, false, false, false, false, false, false, false, false, false, false, false, false]

set_option maxHeartbeats 1000000 in
set_option maxRecDepth 100000 in
theorem walk (b off lo hi n px y : Int) (w : World) : Calls Try.prog 3 #[.agg #[.int .i64 b, .int .i64 off, .int .i64 lo, .int .i64 hi], .int .i64 n, .agg #[.int .i64 px, .int .i64 y]] w fun e w' => e = .returned (.bool true) ∧ Below w.heap.size w w' := by
  go_enter Try.func3, Try.ntmps3
  go_wp2_with fail
  obtain ⟨t3, w1, e1, e2, k1, s1⟩ : ∃ t w', w.alloc (pObj b off lo hi) = w' ∧ w.heap.size = t ∧ w'.heap[t]? = some (pObj b off lo hi) ∧ Step (fun _ => False) w w' := ⟨_, _, rfl, rfl, heap_alloc_new w _, Step.alloc _ w _⟩
  rw [e1]
  have hsz : w1.heap.size = t3 + 1 := by rw [← e1, ← e2]; simp
  obtain ⟨t5, w2, f1, f2, k2, s2⟩ : ∃ t w', w1.alloc (.cells #[.int .i64 px, .int .i64 y] 24) = w' ∧ t3 + 1 = t ∧ w'.heap[t]? = some (.cells #[.int .i64 px, .int .i64 y] 24) ∧ Step (fun _ => False) w1 w' := ⟨_, _, rfl, rfl, by rw [← hsz]; exact heap_alloc_new w1 _, Step.alloc _ w1 _⟩
  rw [f1]
  refine (awake_any _).mono ?_; rintro e w3 ⟨rfl, s3⟩
  rw [e2, f2]
  have S3 : Step (fun _ => False) w1 w3 := s2.trans s3 (fun _ x => .inl x)
  have l5 : t5 < w3.heap.size := Nat.lt_of_lt_of_le (lt_known k2) s3.size
  have k3 : w3.heap[t3]? = some (pObj b off lo hi) := (S3.block t3 (lt_known k1) (fun x => x)).trans k1
  have k5 : w3.heap[t5]? = some (.cells #[.int .i64 px, .int .i64 y] 24) := (s3.block t5 (lt_known k2) (fun x => x)).trans k2
  have S : Hid (Step (fun _ => False) w w3) := Lib.hid (by rw [← e1] at S3; exact (Step.alloc _ w _).trans S3 (fun _ x => .inl x))
  obtain ⟨c0, c1, c2, c3, _⟩ := cells_known4 k3
  obtain ⟨d0, d1, _⟩ := cells_known2 k5
  have l3 : t3 < w3.heap.size := lt_known k3
  have K3 := Lib.hid k3
  have K5 := Lib.hid k5
  clear k3 k5 S3 s3 s2 s1 k1 k2 f1 f2 e1 e2 hsz
  have HB : Bel w w3 := S.out.below (Nat.le_refl _) (fun _ x => x.elim)
  have lw := bel_size HB
  go_upto_region 3 with fail
  refine wp_region_each 11 planM (fun _ _ => False) (Step (fun _ => False) w3) (fun _ => True) [Is ?v3_0, Is ?v3_1, Is ?v3_2, Is ?v3_3, Is ?v3_4, Is ?v3_5, Is ?v3_6, Is ?v3_7, Is ?v3_8, IsNew w3 (pObj 0 0 0 0), IsNew w3 (pObj 0 0 0 0)] (by kernel_rfl) (by kernel_rfl) (fun _ _ h => h.elim) ((Step.refl _ _).drew) trivial ?stab3 (fun _ _ h => h.elim) ?obl3 ?fin3
  case stab3 => exact fun w w' h => ⟨fun k => k.trans h (fun _ x => x.elim), fun _ => trivial, fun _ k => k, fun _ k => k, fun _ k => k, fun _ k => k, fun _ k => k, fun _ k => k, fun _ k => k, fun _ k => k, fun _ k => k, fun _ k => IsNew.stable h k, fun _ k => IsNew.stable h k, trivial⟩
  case obl3 =>
    refine ⟨?o3_0, ?o3_1, ?o3_2, ?o3_3, ?o3_4, ?o3_5, ?o3_6, ?o3_7, ?o3_8, ?o3_9, ?o3_10, trivial⟩
    case o3_0 =>
      intro x w hH _ H a ha Q' hQ
      have cc := scell hH
      change a = puts _ x [] at ha
      simp only [puts] at ha
      subst ha; clear H 
      go_wp2_with fail
      (try refine hQ _ _ ?_)
      refine ⟨Step.refl _ _, ?_, nofun⟩
      exact (rfl : _ = _)
    case o3_1 =>
      intro x w hH _ H a ha Q' hQ
      have cc := scell hH
      change a = puts _ x [] at ha
      simp only [puts] at ha
      subst ha; clear H 
      go_wp2_with fail
      (try refine hQ _ _ ?_)
      refine ⟨Step.refl _ _, ?_, nofun⟩
      exact (rfl : _ = _)
    case o3_2 =>
      intro x w hH _ H a ha Q' hQ
      have cc := scell hH
      have h0 : x 0 = _ := H 0 (by kernel_rfl)
      have h1 : x 1 = _ := H 1 (by kernel_rfl)
      change a = puts _ x [(0, some 11), (1, some 12)] at ha
      simp only [puts, Act.put, List.setIfInBounds_toArray, List.set_cons_zero, List.set_cons_succ, h0, h1] at ha
      subst ha; clear H h0 h1
      go_wp2_with fail
      refine (move_val _ _ _ _ _ _).mono ?_; rintro e w4 ⟨rfl, s4⟩
      go_wp2_with fail
      (try refine hQ _ _ ?_)
      refine ⟨s4, ?_, nofun⟩
      exact (rfl : _ = _)
    case o3_3 =>
      intro x w hH _ H a ha Q' hQ
      have cc := scell hH
      change a = puts _ x [] at ha
      simp only [puts] at ha
      subst ha; clear H 
      go_wp2_with fail
      (try refine hQ _ _ ?_)
      refine ⟨Step.refl _ _, ?_, nofun⟩
      exact (rfl : _ = _)
    case o3_4 =>
      intro x w hH _ H a ha Q' hQ
      have cc := scell hH
      change a = puts _ x [] at ha
      simp only [puts] at ha
      subst ha; clear H 
      go_wp2_with fail
      (try refine hQ _ _ ?_)
      refine ⟨Step.refl _ _, ?_, nofun⟩
      exact (rfl : _ = _)
    case o3_5 =>
      intro x w hH _ H a ha Q' hQ
      have cc := scell hH
      have h4 : x 4 = _ := H 4 (by kernel_rfl)
      change a = puts _ x [(4, some 15)] at ha
      simp only [puts, Act.put, List.setIfInBounds_toArray, List.set_cons_zero, List.set_cons_succ, h4] at ha
      subst ha; clear H h4
      go_wp2_with fail
      (try refine hQ _ _ ?_)
      refine ⟨Step.refl _ _, ?_, nofun⟩
      exact (rfl : _ = _)
    case o3_6 =>
      intro x w hH _ H a ha Q' hQ
      have cc := scell hH
      change a = puts _ x [] at ha
      simp only [puts] at ha
      subst ha; clear H 
      go_wp2_with fail
      (try refine hQ _ _ ?_)
      refine ⟨Step.refl _ _, ?_, nofun⟩
      exact (rfl : _ = _)
    case o3_7 =>
      intro x w hH _ H a ha Q' hQ
      have cc := scell hH
      have h6 : x 6 = _ := H 6 (by kernel_rfl)
      change a = puts _ x [(6, some 17)] at ha
      simp only [puts, Act.put, List.setIfInBounds_toArray, List.set_cons_zero, List.set_cons_succ, h6] at ha
      subst ha; clear H h6
      go_wp2_with fail
      (try refine hQ _ _ ?_)
      refine ⟨Step.refl _ _, ?_, nofun⟩
      exact (rfl : _ = _)
    case o3_8 =>
      intro x w hH _ H a ha Q' hQ
      have cc := scell hH
      have h3 : x 3 = _ := H 3 (by kernel_rfl)
      have h5 : x 5 = _ := H 5 (by kernel_rfl)
      have h7 : x 7 = _ := H 7 (by kernel_rfl)
      change a = puts _ x [(3, some 14), (5, some 16), (7, some 18)] at ha
      simp only [puts, Act.put, List.setIfInBounds_toArray, List.set_cons_zero, List.set_cons_succ, h3, h5, h7] at ha
      subst ha; clear H h3 h5 h7
      go_wp2_with fail
      refine (part_val _ _ _ _ _ _ _).mono ?_; rintro e w4 ⟨rfl, s4⟩
      go_wp2_with fail
      (try refine hQ _ _ ?_)
      refine ⟨s4, ?_, nofun⟩
      exact (rfl : _ = _)
    case o3_9 =>
      intro x w hH _ H a ha Q' hQ
      have cc := scell hH
      change a = puts _ x [] at ha
      simp only [puts] at ha
      subst ha; clear H 
      go_wp2_with fail
      (try refine hQ _ _ ?_)
      refine ⟨Step.alloc _ _ _, ?_, fun _ => ⟨_, rfl, Nat.le_refl _, by simp⟩⟩
      exact ⟨_, rfl, hH.size, heap_alloc_new _ _⟩
    case o3_10 =>
      intro x w hH _ H a ha Q' hQ
      have cc := scell hH
      change a = puts _ x [] at ha
      simp only [puts] at ha
      subst ha; clear H 
      go_wp2_with fail
      (try refine hQ _ _ ?_)
      refine ⟨Step.alloc _ _ _, ?_, fun _ => ⟨_, rfl, Nat.le_refl _, by simp⟩⟩
      exact ⟨_, rfl, hH.size, heap_alloc_new _ _⟩
  intro x w4 hH _ H hsz hF hN
  have h0 : x 0 = _ := H 0 (by decide) (by kernel_rfl)
  have h1 : x 1 = _ := H 1 (by decide) (by kernel_rfl)
  have h2 : x 2 = _ := H 2 (by decide) (by kernel_rfl)
  have h3 : x 3 = _ := H 3 (by decide) (by kernel_rfl)
  have h4 : x 4 = _ := H 4 (by decide) (by kernel_rfl)
  have h5 : x 5 = _ := H 5 (by decide) (by kernel_rfl)
  have h6 : x 6 = _ := H 6 (by decide) (by kernel_rfl)
  have h7 : x 7 = _ := H 7 (by decide) (by kernel_rfl)
  have h8 : x 8 = _ := H 8 (by decide) (by kernel_rfl)
  obtain ⟨b9, h9, l9, k9⟩ : IsNew w3 (pObj 0 0 0 0) _ _ := H 9 (by decide) (by kernel_rfl)
  obtain ⟨b10, h10, l10, k10⟩ : IsNew w3 (pObj 0 0 0 0) _ _ := H 10 (by decide) (by kernel_rfl)
  have n9_10 : b9 ≠ b10 := by have h := hN 9 (by decide) 10 (by decide) (by decide) rfl rfl; rw [h9, h10] at h; exact fun e => h (by rw [e])
  simp only [planM, puts, Act.put, List.setIfInBounds_toArray, List.set_cons_zero, List.set_cons_succ, List.drop_succ_cons, List.drop_zero, h0, h1, h2, h3, h4, h5, h6, h7, h8, h9, h10]
  clear H hF hN h0 h1 h2 h3 h4 h5 h6 h7 h8 h9 h10
  obtain ⟨u0, u1, u2, u3, g0, g1, g2, g3⟩ := cells_known4 k9
  obtain ⟨x0, x1, x2, x3, y0, y1, y2, y3⟩ := cells_known4 k10
  have hne := n9_10
  have hne' := n9_10.symm
  have K9 := Lib.hid k9
  have K10 := Lib.hid k10
  have S4 := Lib.hid hH
  clear k9 k10 n9_10 hH
  go_wp2_with fail
  obtain ⟨w5, e5, q9, q10, q3, q5, hb5⟩ : ∃ w5, ((((((((w4.setCell ⟨b9, 0, none⟩ (.int .i64 b)).setCell ⟨b9, 1, none⟩ (.int .i64 (mvOff b off n))).setCell ⟨b9, 2, none⟩ (.int .i64 lo)).setCell ⟨b9, 3, none⟩ (.int .i64 hi)).setCell ⟨b10, 0, none⟩ (.int .i64 b)).setCell ⟨b10, 1, none⟩ (.int .i64 (mvOff b off px))).setCell ⟨b10, 2, none⟩ (.int .i64 (ptLo b off lo px))).setCell ⟨b10, 3, none⟩ (.int .i64 (ptHi b off hi px y))) = w5 ∧
      w5.heap[b9]? = some (pObj b (mvOff b off n) lo hi) ∧ w5.heap[b10]? = some (pObj b (mvOff b off px) (ptLo b off lo px) (ptHi b off hi px y)) ∧ w5.heap[t3]? = some (pObj b off lo hi) ∧ w5.heap[t5]? = some (.cells #[.int .i64 px, .int .i64 y] 24) ∧ Bel w w5 := by
    refine ⟨_, rfl, ?_, ?_, ?_, ?_, ?_⟩
    · rw [set4_other hne]; exact set4_known K9.out _ _ _ _
    · exact set4_known ((set4_other hne' _ _ _ _).trans K10.out) _ _ _ _
    · rw [set4_other (by omega), set4_other (by omega)]; exact (S4.out.block _ l3 fun x => x).trans K3.out
    · rw [set4_other (by omega), set4_other (by omega)]; exact (S4.out.block _ l5 fun x => x).trans K5.out
    · exact ((set4_step (set4_step (F := fun x => w.heap.size ≤ x) ((S.out.trans S4.out (fun _ x => x.elim)).mono fun _ _ x => x.elim) (.inl (by omega)) _ _ _ _) (.inl (by omega)) _ _ _ _)).below (Nat.le_refl _) fun _ x => x
  rw [e5]
  clear e5 u0 u1 u2 u3 g0 g1 g2 g3 x0 x1 x2 x3 y0 y1 y2 y3 c0 c1 c2 c3 d0 d1 K3 K5 K9 K10 S4 S HB l3 l5 hsz l9 l10
  obtain ⟨a0, a1, a2, a3, _⟩ := cells_known4 q9
  obtain ⟨c0, c1, c2, c3, _⟩ := cells_known4 q10
  obtain ⟨d0, d1, d2, d3, _⟩ := cells_known4 q3
  obtain ⟨f0, f1, _⟩ := cells_known2 q5
  have l9 := lt_known q9
  have l10 := lt_known q10
  have l3 := lt_known q3
  have l5 := lt_known q5
  have Q9 := Lib.hid q9
  have Q10 := Lib.hid q10
  have Q3 := Lib.hid q3
  have Q5 := Lib.hid q5
  clear q9 q10 q3 q5
  refine wp_region_each 13 planM4 (fun _ _ => False) (Step (fun _ => False) w5) (fun _ => True) [Is ?v4_0, Is ?v4_1, Is ?v4_2, Is ?v4_3, Is ?v4_4, Is ?v4_5, Is ?v4_6, Is ?v4_7, Is ?v4_8, Is ?v4_9, Is ?v4_10, Is ?v4_11, Is ?v4_12] (by kernel_rfl) (by kernel_rfl) (fun _ _ h => h.elim) ((Step.refl _ _).drew) trivial ?stab4 (fun _ _ h => h.elim) ?obl4 ?fin4
  case stab4 => exact fun w w' h => ⟨fun k => k.trans h (fun _ x => x.elim), fun _ => trivial, fun _ k => k, fun _ k => k, fun _ k => k, fun _ k => k, fun _ k => k, fun _ k => k, fun _ k => k, fun _ k => k, fun _ k => k, fun _ k => k, fun _ k => k, fun _ k => k, fun _ k => k, trivial⟩
  case obl4 =>
    refine ⟨?o4_0, ?o4_1, ?o4_2, ?o4_3, ?o4_4, ?o4_5, ?o4_6, ?o4_7, ?o4_8, ?o4_9, ?o4_10, ?o4_11, ?o4_12, trivial⟩
    case o4_0 =>
      intro x w hH _ H a ha Q' hQ
      have cc := scell hH
      change a = puts _ x [] at ha
      simp only [puts] at ha
      subst ha; clear H 
      go_wp2_with fail
      (try refine hQ _ _ ?_)
      refine ⟨Step.refl _ _, ?_, nofun⟩
      exact (rfl : _ = _)
    case o4_1 =>
      intro x w hH _ H a ha Q' hQ
      have cc := scell hH
      change a = puts _ x [] at ha
      simp only [puts] at ha
      subst ha; clear H 
      go_wp2_with fail
      (try refine hQ _ _ ?_)
      refine ⟨Step.refl _ _, ?_, nofun⟩
      exact (rfl : _ = _)
    case o4_2 =>
      intro x w hH _ H a ha Q' hQ
      have cc := scell hH
      change a = puts _ x [] at ha
      simp only [puts] at ha
      subst ha; clear H 
      go_wp2_with fail
      (try refine hQ _ _ ?_)
      refine ⟨Step.refl _ _, ?_, nofun⟩
      exact (rfl : _ = _)
    case o4_3 =>
      intro x w hH _ H a ha Q' hQ
      have cc := scell hH
      have h1 : x 1 = _ := H 1 (by kernel_rfl)
      have h2 : x 2 = _ := H 2 (by kernel_rfl)
      change a = puts _ x [(1, some 21), (2, some 22)] at ha
      simp only [puts, Act.put, List.setIfInBounds_toArray, List.set_cons_zero, List.set_cons_succ, h1, h2] at ha
      subst ha; clear H h1 h2
      go_wp2_with fail
      refine (refmove_val _ _ _ _ _ _).mono ?_; rintro e w4 ⟨rfl, s4⟩
      go_wp2_with fail
      (try refine hQ _ _ ?_)
      refine ⟨s4, ?_, nofun⟩
      exact (rfl : _ = _)
    case o4_4 =>
      intro x w hH _ H a ha Q' hQ
      have cc := scell hH
      have h0 : x 0 = _ := H 0 (by kernel_rfl)
      have h3 : x 3 = _ := H 3 (by kernel_rfl)
      change a = puts _ x [(0, some 20), (3, some 23)] at ha
      simp only [puts, Act.put, List.setIfInBounds_toArray, List.set_cons_zero, List.set_cons_succ, h0, h3] at ha
      subst ha; clear H h0 h3
      go_wp2_with fail
      (try refine hQ _ _ ?_)
      refine ⟨Step.refl _ _, ?_, nofun⟩
      exact (rfl : _ = _)
    case o4_5 =>
      intro x w hH _ H a ha Q' hQ
      have cc := scell hH
      have h4 : x 4 = _ := H 4 (by kernel_rfl)
      change a = puts _ x [(4, some 24)] at ha
      simp only [puts, Act.put, List.setIfInBounds_toArray, List.set_cons_zero, List.set_cons_succ, h4] at ha
      subst ha; clear H h4
      go_wp2_with fail
      (try refine hQ _ _ ?_)
      refine ⟨Step.refl _ _, ?_, nofun⟩
      exact (rfl : _ = _)
    case o4_6 =>
      intro x w hH _ H a ha Q' hQ
      have cc := scell hH
      have h5 : x 5 = _ := H 5 (by kernel_rfl)
      change a = puts _ x [(5, some 25)] at ha
      simp only [puts, Act.put, List.setIfInBounds_toArray, List.set_cons_zero, List.set_cons_succ, h5] at ha
      subst ha; clear H h5
      go_wp2_with fail
      (try refine hQ _ _ ?_)
      refine ⟨Step.refl _ _, ?_, nofun⟩
      exact (rfl : _ = _)
    case o4_7 =>
      intro x w hH _ H a ha Q' hQ
      have cc := scell hH
      have h5 : x 5 = _ := H 5 (by kernel_rfl)
      change a = puts _ x [(5, some 25)] at ha
      simp only [puts, Act.put, List.setIfInBounds_toArray, List.set_cons_zero, List.set_cons_succ, h5] at ha
      subst ha; clear H h5
      go_wp2_with fail
      (try refine hQ _ _ ?_)
      refine ⟨Step.refl _ _, ?_, nofun⟩
      exact (rfl : _ = _)
    case o4_8 =>
      intro x w hH _ H a ha Q' hQ
      have cc := scell hH
      have h5 : x 5 = _ := H 5 (by kernel_rfl)
      change a = puts _ x [(5, some 25)] at ha
      simp only [puts, Act.put, List.setIfInBounds_toArray, List.set_cons_zero, List.set_cons_succ, h5] at ha
      subst ha; clear H h5
      go_wp2_with fail
      (try refine hQ _ _ ?_)
      refine ⟨Step.refl _ _, ?_, nofun⟩
      exact (rfl : _ = _)
    case o4_9 =>
      intro x w hH _ H a ha Q' hQ
      have cc := scell hH
      have h5 : x 5 = _ := H 5 (by kernel_rfl)
      have h8 : x 8 = _ := H 8 (by kernel_rfl)
      change a = puts _ x [(5, some 25), (8, some 28)] at ha
      simp only [puts, Act.put, List.setIfInBounds_toArray, List.set_cons_zero, List.set_cons_succ, h5, h8] at ha
      subst ha; clear H h5 h8
      go_wp2_with fail
      (try refine hQ _ _ ?_)
      refine ⟨Step.refl _ _, ?_, nofun⟩
      exact (rfl : _ = _)
    case o4_10 =>
      intro x w hH _ H a ha Q' hQ
      have cc := scell hH
      have h5 : x 5 = _ := H 5 (by kernel_rfl)
      change a = puts _ x [(5, some 25)] at ha
      simp only [puts, Act.put, List.setIfInBounds_toArray, List.set_cons_zero, List.set_cons_succ, h5] at ha
      subst ha; clear H h5
      go_wp2_with fail
      (try refine hQ _ _ ?_)
      refine ⟨Step.refl _ _, ?_, nofun⟩
      exact (rfl : _ = _)
    case o4_11 =>
      intro x w hH _ H a ha Q' hQ
      have cc := scell hH
      have h5 : x 5 = _ := H 5 (by kernel_rfl)
      have h10 : x 10 = _ := H 10 (by kernel_rfl)
      change a = puts _ x [(5, some 25), (10, some 30)] at ha
      simp only [puts, Act.put, List.setIfInBounds_toArray, List.set_cons_zero, List.set_cons_succ, h5, h10] at ha
      subst ha; clear H h5 h10
      go_wp2_with fail
      (try refine hQ _ _ ?_)
      refine ⟨Step.refl _ _, ?_, nofun⟩
      exact (rfl : _ = _)
    case o4_12 =>
      intro x w hH _ H a ha Q' hQ
      have cc := scell hH
      have h5 : x 5 = _ := H 5 (by kernel_rfl)
      have h7 : x 7 = _ := H 7 (by kernel_rfl)
      have h9 : x 9 = _ := H 9 (by kernel_rfl)
      have h11 : x 11 = _ := H 11 (by kernel_rfl)
      change a = puts _ x [(5, some 25), (7, some 27), (9, some 29), (11, some 31)] at ha
      simp only [puts, Act.put, List.setIfInBounds_toArray, List.set_cons_zero, List.set_cons_succ, h5, h7, h9, h11] at ha
      subst ha; clear H h5 h7 h9 h11
      go_wp2_with fail
      refine (refpart_val _ _ _ _ _ _ _).mono ?_; rintro e w4 ⟨rfl, s4⟩
      go_wp2_with fail
      (try refine hQ _ _ ?_)
      refine ⟨s4, ?_, nofun⟩
      exact (rfl : _ = _)
  intro x w6 hH _ H hsz hF hN
  have h0 : x 0 = _ := H 0 (by decide) (by kernel_rfl)
  have h1 : x 1 = _ := H 1 (by decide) (by kernel_rfl)
  have h2 : x 2 = _ := H 2 (by decide) (by kernel_rfl)
  have h3 : x 3 = _ := H 3 (by decide) (by kernel_rfl)
  have h4 : x 4 = _ := H 4 (by decide) (by kernel_rfl)
  have h5 : x 5 = _ := H 5 (by decide) (by kernel_rfl)
  have h6 : x 6 = _ := H 6 (by decide) (by kernel_rfl)
  have h7 : x 7 = _ := H 7 (by decide) (by kernel_rfl)
  have h8 : x 8 = _ := H 8 (by decide) (by kernel_rfl)
  have h9 : x 9 = _ := H 9 (by decide) (by kernel_rfl)
  have h10 : x 10 = _ := H 10 (by decide) (by kernel_rfl)
  have h11 : x 11 = _ := H 11 (by decide) (by kernel_rfl)
  have h12 : x 12 = _ := H 12 (by decide) (by kernel_rfl)
  simp only [planM4, puts, Act.put, List.setIfInBounds_toArray, List.set_cons_zero, List.set_cons_succ, List.drop_succ_cons, List.drop_zero, h0, h1, h2, h3, h4, h5, h6, h7, h8, h9, h10, h11, h12]
  clear H hF hN h0 h1 h2 h3 h4 h5 h6 h7 h8 h9 h10 h11 h12
  have cc := scell hH
  have fin : Below w.heap.size w w6 := Below.trans hb5 (hH.below (show w.heap.size ≤ w5.heap.size from Below.size hb5) (fun _ x => x.elim))
  have FIN := Lib.hid fin
  clear fin hH hsz hb5
  by_cases hb : b = 0
  · have m1 : ∀ z, mvOff b off z = off := fun z => by simp [mvOff, hb]
    have m2 : ptLo b off lo px = lo := by simp [ptLo, hb]
    have m3 : ptHi b off hi px y = hi := by simp [ptHi, hb]
    rw [m1] at a1 c1
    rw [m2] at c2
    rw [m3] at c3
    have hb1 : (b != 0) = false := by simp [hb]
    clear m1 m2 m3 hb
    go_wp2_with fail
    go_ret
    exact ⟨rfl, FIN.out⟩
  · have hb1 : (b != 0) = true := by simp [hb]
    clear hb
    go_wp2_with fail
    go_ret
    exact ⟨rfl, FIN.out⟩

/-! ### The row. -/

set_option maxRecDepth 100000 in
theorem lifted (os : Os) (started : os.Started) (H : Type) (enc : TypeId × Value → H) :
    ReturnsInHanded {} Try.checked os 3 .any (Rows.heapMovesSpec.pre6 enc Try.prog Try.f3 Rows.heapMovesRow.domain false) (Rows.heapMovesSpec.post enc Try.prog Try.f3 false true false false) := by
  refine returnsInHanded_of_change (C := Try.checked) own started (by kernel_rfl) Try.func3
    (ChangeSpec.witness6 (enc := enc) (C := Try.checked) false ⟨#[], #[.agg #[.int .i64 0, .int .i64 0, .int .i64 0, .int .i64 0], .int .i64 0, .agg #[.int .i64 0, .int .i64 0]], []⟩ 8 (by kernel_rfl) (by kernel_rfl) (by kernel_rfl) (by kernel_rfl)) ?_
  intro W base args ds gs before hval0 hW hcnd _
  have hval : ∀ (j : Nat) t v, Try.f3.params[j]? = some t → args[j]? = some v → Value.okWide Try.prog W .any base t v := hval0
  have hW' := hW
  obtain ⟨p, q, hA0, hV, rfl, hfz, hnd⟩ := hW
  have hA : DataW.TrodAll enc Try.prog W 0 (fun _ => true) true Try.f3.params.toList args.toList ds p := hA0
  rw [Try.params3] at hA hval
  obtain ⟨v0, vs0, d0, ds0, p0, q0, hargs, rfl, rfl, h0, r0⟩ := trodAll_cons hA
  obtain ⟨v1, vs1, d1, ds1, p1, q1, rfl, rfl, rfl, h1, r1⟩ := trodAll_cons r0
  obtain ⟨v2, vs2, d2, ds2, p2, q2, rfl, rfl, rfl, h2, r2⟩ := trodAll_cons r1
  obtain ⟨rfl, rfl, rfl⟩ := trodAll_nil r2
  obtain rfl : args = #[v0, v1, v2] := by cases args; simp_all
  obtain ⟨rfl, rfl⟩ := trodVars_none hV
  obtain ⟨c0, c1, c2, c3, y0, y1, y2, y3, n, rfl, rfl, rfl, g0, g1, g2, g3⟩ := open_agg4 Try.underlying23 (by kernel_rfl) (by kernel_rfl) (hval 0 23 v0 rfl rfl) h0
  obtain ⟨x0, e0, rfl, _⟩ := DataW.trod_int Try.underlying3 g0
  obtain ⟨x1, e1, rfl, _⟩ := DataW.trod_int Try.underlying3 g1
  obtain ⟨x2, e2, rfl, _⟩ := DataW.trod_int Try.underlying3 g2
  obtain ⟨x3, e3, rfl, _⟩ := DataW.trod_int Try.underlying3 g3
  obtain ⟨rfl, rfl, rfl, rfl⟩ : c0 = .int .i64 x0 ∧ c1 = .int .i64 x1 ∧ c2 = .int .i64 x2 ∧ c3 = .int .i64 x3 := ⟨by simpa using e0, by simpa using e1, by simpa using e2, by simpa using e3⟩
  obtain ⟨a1, rfl, rfl, rfl, w1⟩ := open_int Try.underlying3 (hval 1 3 v1 rfl rfl) h1
  obtain ⟨xs, hxs, rfl, rfl, rfl, wxs⟩ := open_int_arr Try.underlying24 Try.underlying3 (by kernel_rfl) (by kernel_rfl) (hval 2 24 v2 rfl rfl) h2
  obtain ⟨z0, z1, rfl⟩ := two_of xs hxs
  clear hA0 hval0
  simp only [List.append_nil] at hW'
  refine (walk x0 x1 x2 x3 a1 z0 z1 W).mono fun e W' ⟨he, hb⟩ => ?_
  subst he
  exact ⟨_, rfl, law_post laidOut (by kernel_rfl) rfl rfl rfl Try.underlying4 hW' hb⟩

theorem over : Rows.heapMovesRow.holds Try.pinned (OpenSpec.ofChange Rows.heapMovesSpec) :=
  OpenClaim.holds_of_wide 3 Try.f3 rfl rfl rfl rfl rfl rfl rfl ⟨rfl, rfl, rfl, rfl, rfl⟩ rfl rfl rfl rfl rfl (by kernel_rfl) Try.func3 (by kernel_rfl)
    (of_decide_eq_true (by kernel_rfl)) (by unfold Func.isWrapper; first | (rw [if_pos (by decide +kernel)]; kernel_rfl) | (rw [if_neg (by decide +kernel)]; exact ⟨rfl, rfl⟩))
    (fun os started H enc _ => lifted os started H enc)

/-- The statement. -/
theorem proved : Rows.HeapMovesSaid :=
  over
#print axioms proved
end Go.Proofs.Ytjeoendenecidaa.heapMoves
