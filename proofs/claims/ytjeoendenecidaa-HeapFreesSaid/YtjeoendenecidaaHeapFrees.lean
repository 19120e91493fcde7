/- HeapFrees returns true for every byte, every three ints and every bool, without conditions. -/
import Derived.Test.YtjeoendenecidaaRows
import Derived.Lib.SmallJoins
import Derived.Test.YtjeoendenecidaaHeapG
import Derived.Test.YtjeoendenecidaaLibE
import Derived.Test.YtjeoendenecidaaLibF
import Derived.Test.YtjeoendenecidaaLibK
import Derived.Deep.DeepCutAuto
namespace Go.Proofs.Ytjeoendenecidaa.heapFrees
open Go.ChangeShapes Go.WideShapes Go.ChangeAt Go.RowKit Go.Joins
set_option linter.unusedVariables false

theorem own : ownKnob Try.prog.godebug = none := by kernel_rfl

def planF : Plan where
  T := [[], [], [1], [0, 1, 2], [], [4], [], [6], [0, 1, 2, 3, 4, 5, 6, 7], [], [0, 1, 2, 3, 4, 5, 6, 7, 8, 9]]
  rd := [[], [], [(1, some 31)], [(0, some 30), (2, some 32)], [], [(4, some 34)], [], [(6, some 36)], [(3, some 33), (5, some 35), (7, some 37)], []]
  all := [(9, some 10), (8, some 38), (7, some 37), (6, some 36), (5, some 35), (4, some 34), (3, some 33), (2, some 32), (1, some 31), (0, some 30)]
  calm := [true, true, true, true, true, true, true, true, true, true]
  hard := []
  fresh := [false, false, false, false, false, false, false, false, false, true]

theorem free_cases (s : Int) (may : Bool) (qo ql qh : Int) (A B C : Bool) (hA : (qo == 0) = A) (hB : (ql == 0) = B) (hC : (qh == s) = C) : freeOf ([⟨0, false, false, false⟩] ++ [⟨s, may, true, false⟩]) 1 qo ql qh = if (may && A && B && C) = true then 0 else 23 := by
  have e0 : liveOf ([⟨0, false, false, false⟩] ++ [⟨s, may, true, false⟩]) 1 = true := by simp [liveOf, blockOf]
  have e1 : blockOf ([⟨0, false, false, false⟩] ++ [⟨s, may, true, false⟩]) 1 = ⟨s, may, true, false⟩ := by simp [blockOf]
  unfold freeOf
  rw [if_neg (by decide), if_neg (by rw [e0]; simp), e1]
  subst hA hB hC
  cases may
  · simp
  · by_cases a : qo = 0
    · by_cases b : ql = 0
      · by_cases c : qh = s
        · simp [a, b, c]
        · simp [a, b, c]
      · simp [a, b]
    · simp [a]
theorem live_one (s : Int) (may : Bool) : liveOf ([⟨0, false, false, false⟩] ++ [⟨s, may, true, false⟩]) 1 = true := by simp [liveOf, blockOf]
theorem live_ended (s : Int) (may : Bool) : liveOf (setAt ([⟨0, false, false, false⟩] ++ [⟨s, may, true, false⟩]) 1 fun y => { y with live := false, used := false }) 1 = false := by simp [liveOf, blockOf, setAt]

set_option maxHeartbeats 4000000 in
set_option maxRecDepth 100000 in
theorem walk (n x0 x1 x2 : Int) (may : Bool) (n0 : 0 ≤ n) (n1 : n ≤ 255) (w : World) : Calls Try.prog 7 #[.int .u8 n, .agg #[.int .i64 x0, .int .i64 x1, .int .i64 x2], .bool may] w fun e w' => e = .returned (.bool true) ∧ Below w.heap.size w w' := by
  go_enter Try.func7, Try.ntmps7
  go_wp2_with fail
  obtain ⟨t4, w1, e1, e2, k4, s1⟩ := made0 w (.cells #[.int .i64 x0, .int .i64 x1, .int .i64 x2] 38)
  rw [e1, e2]
  have B1 := Lib.hid (s1.below (Nat.le_refl _) fun _ x => x.elim)
  have K4 := Lib.hid k4
  have l4 := lt_obj k4
  clear e1 e2 k4 s1
  refine (law_new _).mono ?_; rintro e w2 ⟨p, rfl, h2⟩
  have H2 := Lib.hid h2
  clear h2
  go_wp2_with fail
  refine (awake_any _).mono ?_; rintro e w3 ⟨rfl, s3⟩
  have H3 := Lib.hid (H2.out.still s3)
  clear s3 H2
  go_wp2_with fail
  refine (law_make H3.out n may n0 (by omega) (by decide)).mono ?_; rintro e w4 ⟨rfl, h4, _⟩
  have H4 := Lib.hid h4
  clear h4 H3
  go_wp2_with fail
  obtain ⟨t8, w5, e1, e2, h5, k8, s5⟩ := H4.out.made (pObj 1 0 0 n)
  have H5 := Lib.hid h5
  have k4 : w5.heap[t4]? = some _ := (h5.old l4).trans K4.out
  rw [e1, e2]
  clear e1 e2 h5 s5 H4
  obtain ⟨c0, c1, c2, _⟩ := cells_known3 k4
  obtain ⟨d0, d1, d2, d3, _⟩ := cells_known4 k8
  have l8 := lt_obj k8
  have l4' := lt_obj k4
  have K4' := Lib.hid k4
  have K8 := Lib.hid k8
  clear k4 k8
  refine wp_region_each 10 planF (fun _ _ => False) (Step (fun _ => False) w5) (fun _ => True) [Is ?v7_0, Is ?v7_1, Is ?v7_2, Is ?v7_3, Is ?v7_4, Is ?v7_5, Is ?v7_6, Is ?v7_7, Is ?v7_8, IsNew w5 (pObj 0 0 0 0)] (by kernel_rfl) (by kernel_rfl) (fun _ _ h => h.elim) ((Step.refl _ _).drew) trivial ?stab7 (fun _ _ h => h.elim) ?obl7 ?fin7
  case stab7 => exact fun w w' h => ⟨fun k => k.trans h (fun _ x => x.elim), fun _ => trivial, fun _ k => k, fun _ k => k, fun _ k => k, fun _ k => k, fun _ k => k, fun _ k => k, fun _ k => k, fun _ k => k, fun _ k => k, fun _ k => IsNew.stable h k, trivial⟩
  case obl7 =>
    refine ⟨?o7_0, ?o7_1, ?o7_2, ?o7_3, ?o7_4, ?o7_5, ?o7_6, ?o7_7, ?o7_8, ?o7_9, trivial⟩
    case o7_0 =>
      intro x w hH _ H a ha Q' hQ
      have cc := scell hH
      change a = puts _ x [] at ha
      simp only [puts] at ha
      subst ha; clear H 
      go_wp2_with fail
      (try refine hQ _ _ ?_)
      refine ⟨Step.refl _ _, ?_, nofun⟩
      exact (rfl : _ = _)
    case o7_1 =>
      intro x w hH _ H a ha Q' hQ
      have cc := scell hH
      change a = puts _ x [] at ha
      simp only [puts] at ha
      subst ha; clear H 
      go_wp2_with fail
      (try refine hQ _ _ ?_)
      refine ⟨Step.refl _ _, ?_, nofun⟩
      exact (rfl : _ = _)
    case o7_2 =>
      intro x w hH _ H a ha Q' hQ
      have cc := scell hH
      have h1 : x 1 = _ := H 1 (by kernel_rfl)
      change a = puts _ x [(1, some 31)] at ha
      simp only [puts, Act.put, List.setIfInBounds_toArray, List.set_cons_zero, List.set_cons_succ, h1] at ha
      subst ha; clear H h1
      go_wp2_with fail
      (try refine hQ _ _ ?_)
      refine ⟨Step.refl _ _, ?_, nofun⟩
      exact (rfl : _ = _)
    case o7_3 =>
      intro x w hH _ H a ha Q' hQ
      have cc := scell hH
      have h0 : x 0 = _ := H 0 (by kernel_rfl)
      have h2 : x 2 = _ := H 2 (by kernel_rfl)
      change a = puts _ x [(0, some 30), (2, some 32)] at ha
      simp only [puts, Act.put, List.setIfInBounds_toArray, List.set_cons_zero, List.set_cons_succ, h0, h2] at ha
      subst ha; clear H h0 h2
      go_wp2_with fail
      refine (move_val _ _ _ _ _ _).mono ?_; rintro e w4 ⟨rfl, s4⟩
      go_wp2_with fail
      (try refine hQ _ _ ?_)
      refine ⟨s4, ?_, nofun⟩
      exact (rfl : _ = _)
    case o7_4 =>
      intro x w hH _ H a ha Q' hQ
      have cc := scell hH
      change a = puts _ x [] at ha
      simp only [puts] at ha
      subst ha; clear H 
      go_wp2_with fail
      (try refine hQ _ _ ?_)
      refine ⟨Step.refl _ _, ?_, nofun⟩
      exact (rfl : _ = _)
    case o7_5 =>
      intro x w hH _ H a ha Q' hQ
      have cc := scell hH
      have h4 : x 4 = _ := H 4 (by kernel_rfl)
      change a = puts _ x [(4, some 34)] at ha
      simp only [puts, Act.put, List.setIfInBounds_toArray, List.set_cons_zero, List.set_cons_succ, h4] at ha
      subst ha; clear H h4
      go_wp2_with fail
      (try refine hQ _ _ ?_)
      refine ⟨Step.refl _ _, ?_, nofun⟩
      exact (rfl : _ = _)
    case o7_6 =>
      intro x w hH _ H a ha Q' hQ
      have cc := scell hH
      change a = puts _ x [] at ha
      simp only [puts] at ha
      subst ha; clear H 
      go_wp2_with fail
      (try refine hQ _ _ ?_)
      refine ⟨Step.refl _ _, ?_, nofun⟩
      exact (rfl : _ = _)
    case o7_7 =>
      intro x w hH _ H a ha Q' hQ
      have cc := scell hH
      have h6 : x 6 = _ := H 6 (by kernel_rfl)
      change a = puts _ x [(6, some 36)] at ha
      simp only [puts, Act.put, List.setIfInBounds_toArray, List.set_cons_zero, List.set_cons_succ, h6] at ha
      subst ha; clear H h6
      go_wp2_with fail
      (try refine hQ _ _ ?_)
      refine ⟨Step.refl _ _, ?_, nofun⟩
      exact (rfl : _ = _)
    case o7_8 =>
      intro x w hH _ H a ha Q' hQ
      have cc := scell hH
      have h3 : x 3 = _ := H 3 (by kernel_rfl)
      have h5 : x 5 = _ := H 5 (by kernel_rfl)
      have h7 : x 7 = _ := H 7 (by kernel_rfl)
      change a = puts _ x [(3, some 33), (5, some 35), (7, some 37)] at ha
      simp only [puts, Act.put, List.setIfInBounds_toArray, List.set_cons_zero, List.set_cons_succ, h3, h5, h7] at ha
      subst ha; clear H h3 h5 h7
      go_wp2_with fail
      refine (part_val _ _ _ _ _ _ _).mono ?_; rintro e w4 ⟨rfl, s4⟩
      go_wp2_with fail
      (try refine hQ _ _ ?_)
      refine ⟨s4, ?_, nofun⟩
      exact (rfl : _ = _)
    case o7_9 =>
      intro x w hH _ H a ha Q' hQ
      have cc := scell hH
      change a = puts _ x [] at ha
      simp only [puts] at ha
      subst ha; clear H 
      go_wp2_with fail
      (try refine hQ _ _ ?_)
      refine ⟨Step.alloc _ _ _, ?_, fun _ => ⟨_, rfl, Nat.le_refl _, by simp⟩⟩
      exact ⟨_, rfl, hH.size, heap_alloc_new _ _⟩
  intro x w6 hH _ H hsz hF hN
  have h0 : x 0 = _ := H 0 (by decide) (by kernel_rfl)
  have h1 : x 1 = _ := H 1 (by decide) (by kernel_rfl)
  have h2 : x 2 = _ := H 2 (by decide) (by kernel_rfl)
  have h3 : x 3 = _ := H 3 (by decide) (by kernel_rfl)
  have h4 : x 4 = _ := H 4 (by decide) (by kernel_rfl)
  have h5 : x 5 = _ := H 5 (by decide) (by kernel_rfl)
  have h6 : x 6 = _ := H 6 (by decide) (by kernel_rfl)
  have h7 : x 7 = _ := H 7 (by decide) (by kernel_rfl)
  have h8 : x 8 = _ := H 8 (by decide) (by kernel_rfl)
  obtain ⟨b9, h9, l9, k9⟩ : IsNew w5 (pObj 0 0 0 0) _ _ := H 9 (by decide) (by kernel_rfl)
  simp only [planF, puts, Act.put, List.setIfInBounds_toArray, List.set_cons_zero, List.set_cons_succ, List.drop_succ_cons, List.drop_zero, h0, h1, h2, h3, h4, h5, h6, h7, h8, h9]
  clear H hF hN h0 h1 h2 h3 h4 h5 h6 h7 h8 h9
  have K8' : Hid (w6.heap[t8]? = some (pObj 1 0 0 n)) := Lib.hid (hH.keeps K8.out)
  have BW := Lib.hid hH
  obtain ⟨g0, g1, g2, g3, f0, f1, f2, f3⟩ := cells_known4 k9
  have K9 := Lib.hid k9
  have l9' := lt_obj k9
  clear k9 hH hsz c0 c1 c2 d0 d1 d2 d3 K4' K4 l4 l4' K8
  have n9 : t8 ≠ b9 := by omega
  generalize mvOff 1 (mvOff 1 0 x0) x1 = qo
  generalize ptLo 1 (mvOff 1 0 x0) 0 x1 = ql
  generalize ptHi 1 (mvOff 1 0 x0) n x1 x2 = qh
  obtain ⟨A, hA⟩ : ∃ A, (qo == 0) = A := ⟨_, rfl⟩
  obtain ⟨B, hB⟩ : ∃ B, (ql == 0) = B := ⟨_, rfl⟩
  obtain ⟨C, hC⟩ : ∃ C, (qh == n) = C := ⟨_, rfl⟩
  have hf : freeOf ([⟨0, false, false, false⟩] ++ [⟨n, may, true, false⟩]) 1 qo ql qh = if (may && A && B && C) = true then 0 else 23 := free_cases n may qo ql qh A B C hA hB hC
  have hf2 : freeOf ([⟨0, false, false, false⟩] ++ [⟨n, may, true, false⟩]) 1 0 0 n = if may = true then 0 else 23 := by rw [free_cases n may 0 0 n true true true rfl rfl (by simp)]; simp
  have H5' : ∃ w7, ((((w6.setCell ⟨b9, 0, none⟩ (.int .i64 1)).setCell ⟨b9, 1, none⟩ (.int .i64 qo)).setCell ⟨b9, 2, none⟩ (.int .i64 ql)).setCell ⟨b9, 3, none⟩ (.int .i64 qh)) = w7 ∧ Law [b9, t8] w1 w7 p ([⟨0, false, false, false⟩] ++ [⟨n, may, true, false⟩]) (fun _ => none) 0 ∧ w7.heap[t8]? = some (pObj 1 0 0 n) ∧ w7.heap[b9]? = some (pObj 1 qo ql qh) := by
    refine ⟨_, rfl, ?_, (set4_other n9 _ _ _ _).trans K8'.out, set4_known K9.out _ _ _ _⟩
    refine H5.out.grow (S := [b9]) ((set4_step (F := fun x => w5.heap.size ≤ x) (BW.out.mono fun _ _ x => x.elim) (.inl l9) _ _ _ _).below (Nat.le_refl _) fun _ x => x) ?_
    intro t ht
    simp only [List.mem_singleton] at ht
    subst ht
    exact ⟨l9, by simpa using l9'⟩
  have H7 := Lib.hid H5'
  have HF := Lib.hid hf
  have HF2 := Lib.hid hf2
  clear hf hf2 H5' H5 BW K8' K9
  cases A <;> cases B <;> cases C <;> cases may
  all_goals
    go_wp2_with fail
    obtain ⟨w7, e7, h7, k8, k9⟩ := H7.out
    rw [e7]
    clear e7
    have h7' := Lib.hid h7
    have k8' := Lib.hid k8
    clear h7 k8 k9 H7 g0 g1 g2 g3 f0 f1 f2 f3
    refine (law_free h7'.out 1 qo ql qh (by decide) (by decide)).mono ?_; rintro e w8 ⟨rfl, h8, o8⟩
    have hf := HF.out
    simp only [Bool.and_true, Bool.and_false, Bool.false_eq_true, if_true, if_false] at hf
    rw [hf] at h8 ⊢
    clear hf HF
    have k8 : w8.heap[t8]? = some (pObj 1 0 0 n) := (o8.cell h7'.out (by simp)).trans k8'.out
    obtain ⟨c0, c1, c2, c3, _⟩ := cells_known4 k8
    have K8 := Lib.hid k8
    have H8 := Lib.hid h8
    clear h7' o8 k8 k8' h8
  any_goals
    simp only [if_neg (show ¬ (23 : Int) = 0 by decide)] at H8
    go_wp2_with fail
    refine (law_live H8.out 1).mono ?_; rintro e w9 ⟨rfl, rfl⟩
    rw [live_one]
    go_wp2_with fail
    refine (law_free H8.out 1 0 0 n (by decide) (by decide)).mono ?_; rintro e w9 ⟨rfl, h9, _⟩
    have hf := HF2.out
    simp only [Bool.false_eq_true, if_true, if_false] at hf
    rw [hf]
    have H9 := Lib.hid h9
    clear hf HF2 h9
    go_wp2_with fail
    go_ret
    exact ⟨rfl, Below.trans B1.out (H9.out.step.below (Below.size B1.out) fun _ x => Nat.le_trans (Below.size B1.out) x)⟩
  simp only [if_true] at H8
  go_wp2_with fail
  refine (law_live H8.out 1).mono ?_; rintro e w9 ⟨rfl, rfl⟩
  rw [live_ended]
  go_wp2_with fail
  go_ret
  exact ⟨rfl, Below.trans B1.out (H8.out.step.below (Below.size B1.out) fun _ x => Nat.le_trans (Below.size B1.out) x)⟩

/-! ### The row. -/

set_option maxRecDepth 100000 in
theorem lifted (os : Os) (started : os.Started) (H : Type) (enc : TypeId × Value → H) :
    ReturnsInHanded {} Try.checked os 7 .any (Rows.heapFreesSpec.pre6 enc Try.prog Try.f7 Rows.heapFreesRow.domain false) (Rows.heapFreesSpec.post enc Try.prog Try.f7 false true false false) := by
  refine returnsInHanded_of_change (C := Try.checked) own started (by kernel_rfl) Try.func7
    (ChangeSpec.witness6 (enc := enc) (C := Try.checked) false ⟨#[], #[.int .u8 0, .agg #[.int .i64 0, .int .i64 0, .int .i64 0], .bool false], []⟩ 8 (by kernel_rfl) (by kernel_rfl) (by kernel_rfl) (by kernel_rfl)) ?_
  intro W base args ds gs before hval0 hW hcnd _
  have hval : ∀ (j : Nat) t v, Try.f7.params[j]? = some t → args[j]? = some v → Value.okWide Try.prog W .any base t v := hval0
  have hW' := hW
  obtain ⟨p, q, hA0, hV, rfl, hfz, hnd⟩ := hW
  have hA : DataW.TrodAll enc Try.prog W 0 (fun _ => true) true Try.f7.params.toList args.toList ds p := hA0
  rw [Try.params7] at hA hval
  obtain ⟨v0, vs0, d0, ds0, p0, q0, hargs, rfl, rfl, h0, r0⟩ := trodAll_cons hA
  obtain ⟨v1, vs1, d1, ds1, p1, q1, rfl, rfl, rfl, h1, r1⟩ := trodAll_cons r0
  obtain ⟨v2, vs2, d2, ds2, p2, q2, rfl, rfl, rfl, h2, r2⟩ := trodAll_cons r1
  obtain ⟨rfl, rfl, rfl⟩ := trodAll_nil r2
  obtain rfl : args = #[v0, v1, v2] := by cases args; simp_all
  obtain ⟨rfl, rfl⟩ := trodVars_none hV
  obtain ⟨a0, rfl, rfl, rfl, w0⟩ := open_int Try.underlying5 (hval 0 5 v0 rfl rfl) h0
  obtain ⟨xs, hxs, rfl, rfl, rfl, wxs⟩ := open_int_arr Try.underlying38 Try.underlying3 (by kernel_rfl) (by kernel_rfl) (hval 1 38 v1 rfl rfl) h1
  obtain ⟨z0, z1, z2, rfl⟩ := three_of xs hxs
  obtain ⟨b2, rfl, rfl, rfl⟩ := open_bool Try.underlying4 (hval 2 4 v2 rfl rfl) h2
  clear hA0 hval0
  simp only [List.append_nil] at hW'
  refine (walk a0 z0 z1 z2 b2 (wfu8 w0).1 (wfu8 w0).2 W).mono fun e W' ⟨he, hb⟩ => ?_
  subst he
  exact ⟨_, rfl, law_post laidOut (by kernel_rfl) rfl rfl rfl Try.underlying4 hW' hb⟩

theorem over : Rows.heapFreesRow.holds Try.pinned (OpenSpec.ofChange Rows.heapFreesSpec) :=
  OpenClaim.holds_of_wide 7 Try.f7 rfl rfl rfl rfl rfl rfl rfl ⟨rfl, rfl, rfl, rfl, rfl⟩ rfl rfl rfl rfl rfl (by kernel_rfl) Try.func7 (by kernel_rfl)
    (of_decide_eq_true (by kernel_rfl)) (by unfold Func.isWrapper; first | (rw [if_pos (by decide +kernel)]; kernel_rfl) | (rw [if_neg (by decide +kernel)]; exact ⟨rfl, rfl⟩))
    (fun os started H enc _ => lifted os started H enc)

/-- The statement. -/
theorem proved : Rows.HeapFreesSaid :=
  over
#print axioms proved
end Go.Proofs.Ytjeoendenecidaa.heapFrees
