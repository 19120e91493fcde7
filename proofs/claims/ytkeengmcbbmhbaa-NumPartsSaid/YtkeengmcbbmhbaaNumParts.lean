/- NumParts returns true for every two numbers of 64 bits, without conditions. The frame around the walk was written by the seat's proof-skeleton.mjs. -/
import Derived.Test.YtkeengmcbbmhbaaRows
import Derived.Test.YtkeengmcbbmhbaaG
import Derived.Test.YtkeengmcbbmhbaaH
import Derived.Test.YtkeengmcbbmhbaaC
import Derived.WalkKit
import Derived.ProofKit
import Derived.OpenShut
namespace Go.Proofs.Ytkeengmcbbmhbaa.numParts
open Go.ChangeShapes Go.WideShapes Go.ChangeAt Go.RowKit
set_option linter.unusedVariables false      -- a walk need not use every 'w<i>' (that an integer argument fits its kind)

theorem own : ownKnob Try.prog.godebug = none := by kernel_rfl

/-! ### The walk. -/
set_option maxHeartbeats 4000000 in
theorem walk (a0 : Int) (a1 : Int) (w0 : (Lit.int .u64 a0).wf = true) (w1 : (Lit.int .u64 a1).wf = true) (w : World) :
    Calls Try.prog 6 #[.int .u64 a0, .int .u64 a1] w fun e w' => e = .returned (.bool true) ∧ Grown w w' := by
  obtain ⟨p0, p1⟩ := wf_u w0
  obtain ⟨q0, q1⟩ := wf_u w1
  have KB : ∀ op a b : Int, 0 ≤ a → a < 18446744073709551616 → 0 ≤ b → b < 18446744073709551616 → 0 ≤ (doF op a b).1 ∧ (doF op a b).1 < 18446744073709551616 :=
    fun op a b h0 h1 g0 g1 => ⟨do_lo op a b h0 g0, do_hi op a b h0 h1 g0 g1⟩
  have row : ∀ o1 o2 o3 o4 want : Int, (doF o4 (doF o3 (doF o1 a0 a1).1 a1).1 (doF o2 a0 a1).1).1 = want →
      ∃ q m r : Int, (∀ W, Calls Try.prog 17 #[.int .i64 o1, .int .u64 a0, .int .u64 a1] W fun e w' => e = .returned (.int .u64 q) ∧ W = w')
        ∧ (∀ W, Calls Try.prog 17 #[.int .i64 o3, .int .u64 q, .int .u64 a1] W fun e w' => e = .returned (.int .u64 m) ∧ W = w')
        ∧ (∀ W, Calls Try.prog 17 #[.int .i64 o2, .int .u64 a0, .int .u64 a1] W fun e w' => e = .returned (.int .u64 r) ∧ W = w')
        ∧ (∀ W, Calls Try.prog 17 #[.int .i64 o4, .int .u64 m, .int .u64 r] W fun e w' => e = .returned (.int .u64 want) ∧ W = w') := by
    intro o1 o2 o3 o4 want hw
    have b1 := KB o1 a0 a1 p0 p1 q0 q1
    have b2 := KB o2 a0 a1 p0 p1 q0 q1
    have b3 := KB o3 (doF o1 a0 a1).1 a1 b1.1 b1.2 q0 q1
    exact ⟨_, _, _, fun W => law_do o1 a0 a1 p0 p1 q0 q1 W, fun W => law_do o3 _ a1 b1.1 b1.2 q0 q1 W, fun W => law_do o2 a0 a1 p0 p1 q0 q1 W, fun W => hw ▸ law_do o4 _ _ b3.1 b3.2 b2.1 b2.2 W⟩
  have R1 := Lib.hid (row 14 16 11 1 a0 (parts_1 a0 a1 p0 p1 q0 q1))
  have R2 := Lib.hid (row 15 17 11 1 a0 (parts_2 a0 a1 p0 p1))
  have R3 := Lib.hid (row 24 26 23 18 (nar a0 32 true) (parts_3 a0 a1))
  have R4 := Lib.hid (row 25 27 23 18 (nar a0 32 true) (parts_4 a0 a1))
  have NA := Lib.hid fun W => law_narrow a0 32 (by omega) (by omega) W
  clear row KB
  generalize nar a0 32 true = na at *
  have i0 : ∀ w, (Instr.index 35 (.agg #[.int .i64 14, .int .i64 16, .int .i64 11, .int .i64 1, .int .i64 15, .int .i64 17, .int .i64 11, .int .i64 1, .int .i64 24, .int .i64 26, .int .i64 23, .int .i64 18, .int .i64 25, .int .i64 27, .int .i64 23, .int .i64 18]) (.int .i64 0)).run Try.prog w = .ok (.agg #[.int .i64 14, .int .i64 16, .int .i64 11, .int .i64 1]) w := fun _ => by kernel_rfl
  have i1 : ∀ w, (Instr.index 35 (.agg #[.int .i64 14, .int .i64 16, .int .i64 11, .int .i64 1, .int .i64 15, .int .i64 17, .int .i64 11, .int .i64 1, .int .i64 24, .int .i64 26, .int .i64 23, .int .i64 18, .int .i64 25, .int .i64 27, .int .i64 23, .int .i64 18]) (.int .i64 1)).run Try.prog w = .ok (.agg #[.int .i64 15, .int .i64 17, .int .i64 11, .int .i64 1]) w := fun _ => by kernel_rfl
  have i2 : ∀ w, (Instr.index 35 (.agg #[.int .i64 14, .int .i64 16, .int .i64 11, .int .i64 1, .int .i64 15, .int .i64 17, .int .i64 11, .int .i64 1, .int .i64 24, .int .i64 26, .int .i64 23, .int .i64 18, .int .i64 25, .int .i64 27, .int .i64 23, .int .i64 18]) (.int .i64 2)).run Try.prog w = .ok (.agg #[.int .i64 24, .int .i64 26, .int .i64 23, .int .i64 18]) w := fun _ => by kernel_rfl
  have i3 : ∀ w, (Instr.index 35 (.agg #[.int .i64 14, .int .i64 16, .int .i64 11, .int .i64 1, .int .i64 15, .int .i64 17, .int .i64 11, .int .i64 1, .int .i64 24, .int .i64 26, .int .i64 23, .int .i64 18, .int .i64 25, .int .i64 27, .int .i64 23, .int .i64 18]) (.int .i64 3)).run Try.prog w = .ok (.agg #[.int .i64 25, .int .i64 27, .int .i64 23, .int .i64 18]) w := fun _ => by kernel_rfl
  go_enter Try.func6, Try.ntmps6
  go_wp2_with fail
  refine (awake_any _).mono ?_; rintro e w' ⟨rfl, rfl⟩
  go_wp2_with fail
  go_loopw [15] (fun i wr => ∃ k : Nat, k ≤ 4 ∧ i = .int .i64 k ∧ Grown w wr) (fun i _ => (4 - intOf i).toNat)
  case atStart => exact ⟨0, by omega, rfl, Grown.refl _⟩
  case round =>
    obtain ⟨k, hk, rfl, hgr⟩ := hrel
    have GR := Lib.hid hgr
    clear hgr
    rcases (show k = 0 ∨ k = 1 ∨ k = 2 ∨ k = 3 ∨ k = 4 by omega) with rfl | rfl | rfl | rfl | rfl
    · obtain ⟨q, m, r, l1, l2, l3, l4⟩ := R1.out
      have L1 := Lib.hid l1
      have L2 := Lib.hid l2
      have L3 := Lib.hid l3
      have L4 := Lib.hid l4
      clear l1 l2 l3 l4
      go_wp2_with (go_at_call 16; refine (NA.out _).mono ?_; rintro e w' ⟨rfl, rfl⟩)
      go_quiet ((go_at_call 17; first | (with_reducible exact Calls.quiet_of_same (flip (L1.out _))) | (with_reducible exact Calls.quiet_of_same (flip (L2.out _))) | (with_reducible exact Calls.quiet_of_same (flip (L3.out _))) | (with_reducible exact Calls.quiet_of_same (flip (L4.out _)))))
      go_wp2_with fail
      go_roundw
      case rel => exact ⟨1, by omega, rfl, by repeat (first | exact GR.out | apply Grown.drew | apply gdraw | apply Grown.alloc)⟩
      case measure => simp [intOf]
    · obtain ⟨q, m, r, l1, l2, l3, l4⟩ := R2.out
      have L1 := Lib.hid l1
      have L2 := Lib.hid l2
      have L3 := Lib.hid l3
      have L4 := Lib.hid l4
      clear l1 l2 l3 l4
      go_wp2_with (go_at_call 16; refine (NA.out _).mono ?_; rintro e w' ⟨rfl, rfl⟩)
      go_quiet ((go_at_call 17; first | (with_reducible exact Calls.quiet_of_same (flip (L1.out _))) | (with_reducible exact Calls.quiet_of_same (flip (L2.out _))) | (with_reducible exact Calls.quiet_of_same (flip (L3.out _))) | (with_reducible exact Calls.quiet_of_same (flip (L4.out _)))))
      go_wp2_with fail
      go_roundw
      case rel => exact ⟨2, by omega, rfl, by repeat (first | exact GR.out | apply Grown.drew | apply gdraw | apply Grown.alloc)⟩
      case measure => simp [intOf]
    · obtain ⟨q, m, r, l1, l2, l3, l4⟩ := R3.out
      have L1 := Lib.hid l1
      have L2 := Lib.hid l2
      have L3 := Lib.hid l3
      have L4 := Lib.hid l4
      clear l1 l2 l3 l4
      go_wp2_with (go_at_call 16; refine (NA.out _).mono ?_; rintro e w' ⟨rfl, rfl⟩)
      go_quiet ((go_at_call 17; first | (with_reducible exact Calls.quiet_of_same (flip (L1.out _))) | (with_reducible exact Calls.quiet_of_same (flip (L2.out _))) | (with_reducible exact Calls.quiet_of_same (flip (L3.out _))) | (with_reducible exact Calls.quiet_of_same (flip (L4.out _)))))
      go_wp2_with fail
      go_roundw
      case rel => exact ⟨3, by omega, rfl, by repeat (first | exact GR.out | apply Grown.drew | apply gdraw | apply Grown.alloc)⟩
      case measure => simp [intOf]
    · obtain ⟨q, m, r, l1, l2, l3, l4⟩ := R4.out
      have L1 := Lib.hid l1
      have L2 := Lib.hid l2
      have L3 := Lib.hid l3
      have L4 := Lib.hid l4
      clear l1 l2 l3 l4
      go_wp2_with (go_at_call 16; refine (NA.out _).mono ?_; rintro e w' ⟨rfl, rfl⟩)
      go_quiet ((go_at_call 17; first | (with_reducible exact Calls.quiet_of_same (flip (L1.out _))) | (with_reducible exact Calls.quiet_of_same (flip (L2.out _))) | (with_reducible exact Calls.quiet_of_same (flip (L3.out _))) | (with_reducible exact Calls.quiet_of_same (flip (L4.out _)))))
      go_wp2_with fail
      go_roundw
      case rel => exact ⟨4, by omega, rfl, by repeat (first | exact GR.out | apply Grown.drew | apply gdraw | apply Grown.alloc)⟩
      case measure => simp [intOf]
    · go_wp2_with fail
      go_ret
      exact ⟨rfl, GR.out⟩

/-! ### The row's step, as the seat's tool writes it. -/
set_option maxRecDepth 100000 in
theorem lifted (os : Os) (started : os.Started) (H : Type) (enc : TypeId × Value → H) :
    ReturnsInHanded {} Try.checked os 6 .any (Rows.numPartsSpec.pre6 enc Try.prog Try.f6 Rows.numPartsRow.domain false) (Rows.numPartsSpec.post enc Try.prog Try.f6 false true false false) := by
  refine returnsInHanded_of_change (C := Try.checked) own started (by kernel_rfl) Try.func6
    (ChangeSpec.witness6 (enc := enc) (C := Try.checked) false ⟨#[], #[.int .u64 0, .int .u64 0], []⟩ 8 (by kernel_rfl) (by kernel_rfl) (by kernel_rfl) (by kernel_rfl)) ?_
  intro W base args ds gs before hval0 hW hcnd _
  have hval : ∀ (j : Nat) t v, Try.f6.params[j]? = some t → args[j]? = some v → Value.okWide Try.prog W .any base t v := hval0
  have hW' := hW
  obtain ⟨p, q, hA0, hV, rfl, hfz, hnd⟩ := hW
  have hA : DataW.TrodAll enc Try.prog W 0 (fun _ => true) true Try.f6.params.toList args.toList ds p := hA0
  rw [Try.params6] at hA hval
  obtain ⟨v0, vs0, d0, ds0, p0, q0, hargs, rfl, rfl, h0, r0⟩ := trodAll_cons hA
  obtain ⟨v1, vs1, d1, ds1, p1, q1, rfl, rfl, rfl, h1, r1⟩ := trodAll_cons r0
  obtain ⟨rfl, rfl, rfl⟩ := trodAll_nil r1
  obtain rfl : args = #[v0, v1] := by cases args; simp_all
  obtain ⟨rfl, rfl⟩ := trodVars_none hV
  obtain ⟨a0, rfl, rfl, rfl, w0⟩ := open_int Try.underlying22 (hval 0 22 v0 rfl rfl) h0
  obtain ⟨a1, rfl, rfl, rfl, w1⟩ := open_int Try.underlying22 (hval 1 22 v1 rfl rfl) h1
  clear hA0 hval0
  simp only [List.append_nil] at hW'
  refine (walk a0 a1 w0 w1 W).mono fun e W' ⟨he, hg⟩ => ?_
  subst he
  exact ⟨_, rfl, post_of_same (pa := []) (pv := []) hW' (fun _ _ _ => (trodAll_cons_mk (shut_bool Try.underlying4 _) trodAll_mk0)) (fun sp _ => (trodAll_cons_mk (shut_int Try.underlying22 w0) (trodAll_cons_mk (shut_int Try.underlying22 w1) trodAll_mk0))) (fun _ _ => rfl) rfl
    (hg.frame _) hg.2.1 (ok_one (by kernel_rfl) rfl (okWide_bool_mk Try.underlying4 _))⟩

theorem over : Rows.numPartsRow.holds Try.pinned (OpenSpec.ofChange Rows.numPartsSpec) :=
  OpenClaim.holds_of_wide 6 Try.f6 rfl rfl rfl rfl rfl rfl rfl ⟨rfl, rfl, rfl, rfl, rfl⟩ rfl rfl rfl rfl rfl (by kernel_rfl) Try.func6 (by kernel_rfl)
    (of_decide_eq_true (by kernel_rfl)) (by unfold Func.isWrapper; first | (rw [if_pos (by decide +kernel)]; kernel_rfl) | (rw [if_neg (by decide +kernel)]; exact ⟨rfl, rfl⟩))
    (fun os started H enc _ => lifted os started H enc)

/-- The statement. -/
theorem proved : Rows.NumPartsSaid :=
  over
#print axioms proved
end Go.Proofs.Ytkeengmcbbmhbaa.numParts
