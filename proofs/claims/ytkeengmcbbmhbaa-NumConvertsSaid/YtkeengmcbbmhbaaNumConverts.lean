/- NumConverts returns true for every two numbers of 64 bits and every two counts of bits, without conditions. The frame around the walk was written by the seat's proof-skeleton.mjs. -/
import Derived.Test.YtkeengmcbbmhbaaRows
import Derived.Test.YtkeengmcbbmhbaaG
import Derived.Test.YtkeengmcbbmhbaaH
import Derived.Test.YtkeengmcbbmhbaaK
import Derived.Deep.QuietTactic
import Derived.BigQuiet
import Derived.Test.YtkeengmcbbmhbaaC
import Derived.WalkKit
import Derived.ProofKit
import Derived.OpenShut
namespace Go.Proofs.Ytkeengmcbbmhbaa.numConverts
open Go.ChangeShapes Go.WideShapes Go.ChangeAt Go.RowKit
set_option linter.unusedVariables false      -- a walk need not use every 'w<i>' (that an integer argument fits its kind)

theorem own : ownKnob Try.prog.godebug = none := by kernel_rfl

/-! ### The walk. -/
theorem two_of (l : List Int) (h : l.length = 2) : ∃ a b, l = [a, b] := by
  match l, h with
  | [a, b], _ => exact ⟨a, b, rfl⟩

set_option maxHeartbeats 4000000 in
theorem walk (a0 a1 x0 x1 : Int) (w0 : (Lit.int .u64 a0).wf = true) (w1 : (Lit.int .u64 a1).wf = true) (w2 : (Lit.int .u8 x0).wf = true) (w3 : (Lit.int .u8 x1).wf = true) (w : World) :
    Calls Try.prog 8 #[.int .u64 a0, .int .u64 a1, .agg #[.int .u8 x0, .int .u8 x1]] w fun e w' => e = .returned (.bool true) ∧ Grown w w' := by
  obtain ⟨p0, p1⟩ := wf_u w0
  obtain ⟨q0, q1⟩ := wf_u w1
  obtain ⟨n0, n1⟩ := wf_8 w2
  obtain ⟨m0, m1⟩ := wf_8 w3
  have hM : ∃ M : Int, (M = x1 % 64 + 1 ∧ x0 % 64 + 1 < x1 % 64 + 1 ∨ M = x0 % 64 + 1 ∧ ¬ x0 % 64 + 1 < x1 % 64 + 1) := by
    by_cases h : x0 % 64 + 1 < x1 % 64 + 1
    · exact ⟨_, Or.inl ⟨rfl, h⟩⟩
    · exact ⟨_, Or.inr ⟨rfl, h⟩⟩
  obtain ⟨M, hM⟩ := hM
  have m1 : x0 % 64 + 1 ≤ M := by omega
  have m2 : M ≤ 64 := by omega
  have KB : ∀ op a b : Int, 0 ≤ a → a < 18446744073709551616 → 0 ≤ b → b < 18446744073709551616 → 0 ≤ (doF op a b).1 ∧ (doF op a b).1 < 18446744073709551616 :=
    fun op a b h0 h1 g0 g1 => ⟨do_lo op a b h0 g0, do_hi op a b h0 h1 g0 g1⟩
  obtain ⟨n, hn⟩ : ∃ n, n = x0 % 64 + 1 := ⟨_, rfl⟩
  rw [← hn] at m1
  have n1 : 1 ≤ n ∧ n ≤ 64 := by omega
  have c1 := Lib.hid fun W => law_narrow a0 n (by omega) (by omega) W
  have c2 : Hid _ := Lib.hid fun W => nar_more a0 n M n1.1 m1 m2 ▸ law_narrow (nar a0 n true) M (by omega) m2 W
  have c3 := Lib.hid fun W => law_narrow a0 M (by omega) m2 W
  have c4 : Hid _ := Lib.hid fun W => nar_less a0 n M n1.1 m1 m2 ▸ law_narrow (nar a0 M true) n (by omega) (by omega) W
  have c5 := Lib.hid fun W => law_narrow a1 n (by omega) (by omega) W
  have c6 := Lib.hid fun W => narrow_in a0 n false n1.1 n1.2 W
  have c7 : Hid _ := Lib.hid fun W => nar_zero a0 n n1.1 n1.2 ▸ law_narrow (nar a0 n false) n (by omega) (by omega) W
  have c8 := Lib.hid fun W => law_do 18 a0 a1 p0 p1 q0 q1 W
  have c9 := Lib.hid fun W => law_do 1 a0 a1 p0 p1 q0 q1 W
  have c10 : Hid _ := Lib.hid fun W => addw_low a0 a1 ▸ law_narrow (doF 1 a0 a1).1 32 (by omega) (by omega) W
  have c11 := Lib.hid fun W => law_do 23 a0 a1 p0 p1 q0 q1 W
  have c12 := Lib.hid fun W => law_do 11 a0 a1 p0 p1 q0 q1 W
  have c13 : Hid _ := Lib.hid fun W => mulw_low a0 a1 ▸ law_narrow (doF 11 a0 a1).1 32 (by omega) (by omega) W
  have row : ∀ op : Int, (op = 1 ∨ op = 2 ∨ op = 11 ∨ op = 10 ∨ op = 9 ∨ op = 6) → ∃ s t u : Int, (∀ W, Calls Try.prog 17 #[.int .i64 op, .int .u64 (nar a0 n true), .int .u64 (nar a1 n true)] W fun e w' => e = .returned (.int .u64 s) ∧ W = w')
      ∧ (∀ W, Calls Try.prog 16 #[.int .u64 s, .int .i64 n] W fun e w' => e = .returned (.int .u64 t) ∧ W = w')
      ∧ (∀ W, Calls Try.prog 17 #[.int .i64 op, .int .u64 a0, .int .u64 a1] W fun e w' => e = .returned (.int .u64 u) ∧ W = w')
      ∧ (∀ W, Calls Try.prog 16 #[.int .u64 u, .int .i64 n] W fun e w' => e = .returned (.int .u64 t) ∧ W = w') := by
    intro op ho
    refine ⟨_, _, _, fun W => law_do op _ _ (nar_lo _ _ _) (nar_hi _ _ _) (nar_lo _ _ _) (nar_hi _ _ _) W, fun W => law_narrow _ n n1.1 n1.2 W, fun W => law_do op a0 a1 p0 p1 q0 q1 W, fun W => ?_⟩
    rw [op_nar op a0 a1 n ho n1.1 n1.2 ⟨p0, p1⟩ ⟨q0, q1⟩]
    exact law_narrow _ n n1.1 n1.2 W
  have R := Lib.hid row
  clear row KB
  generalize nar a0 n true = r1 at *
  generalize nar a1 n true = r3 at *
  generalize nar a0 n false = r0 at *
  generalize nar a0 M true = r2 at *
  generalize (doF 18 a0 a1).1 = v1 at *
  generalize (doF 1 a0 a1).1 = v2 at *
  generalize (doF 23 a0 a1).1 = v3 at *
  generalize (doF 11 a0 a1).1 = v4 at *
  have i0 : ∀ w, (Instr.index 40 (.agg #[.int .i64 1, .int .i64 2, .int .i64 11, .int .i64 10, .int .i64 9, .int .i64 6]) (.int .i64 0)).run Try.prog w = .ok (.int .i64 1) w := fun _ => by kernel_rfl
  have i1 : ∀ w, (Instr.index 40 (.agg #[.int .i64 1, .int .i64 2, .int .i64 11, .int .i64 10, .int .i64 9, .int .i64 6]) (.int .i64 1)).run Try.prog w = .ok (.int .i64 2) w := fun _ => by kernel_rfl
  have i2 : ∀ w, (Instr.index 40 (.agg #[.int .i64 1, .int .i64 2, .int .i64 11, .int .i64 10, .int .i64 9, .int .i64 6]) (.int .i64 2)).run Try.prog w = .ok (.int .i64 11) w := fun _ => by kernel_rfl
  have i3 : ∀ w, (Instr.index 40 (.agg #[.int .i64 1, .int .i64 2, .int .i64 11, .int .i64 10, .int .i64 9, .int .i64 6]) (.int .i64 3)).run Try.prog w = .ok (.int .i64 10) w := fun _ => by kernel_rfl
  have i4 : ∀ w, (Instr.index 40 (.agg #[.int .i64 1, .int .i64 2, .int .i64 11, .int .i64 10, .int .i64 9, .int .i64 6]) (.int .i64 4)).run Try.prog w = .ok (.int .i64 9) w := fun _ => by kernel_rfl
  have i5 : ∀ w, (Instr.index 40 (.agg #[.int .i64 1, .int .i64 2, .int .i64 11, .int .i64 10, .int .i64 9, .int .i64 6]) (.int .i64 5)).run Try.prog w = .ok (.int .i64 6) w := fun _ => by kernel_rfl
  rcases hM with ⟨rfl, hlt⟩ | ⟨rfl, hlt⟩
  all_goals
    subst hn
    go_enter Try.func8, Try.ntmps8
    go_wp2_with fail
    refine (awake_any _).mono ?_; rintro e w' ⟨rfl, rfl⟩
    go_wp2_with fail
    go_quiet (fail)
    have hgw : Grown w ((w.alloc (Obj.cells #[Value.int IntKind.u8 x0, Value.int IntKind.u8 x1] 39)).drewN nq) := gdraw ((Grown.refl _).alloc _ _) _
    generalize (w.alloc (Obj.cells #[Value.int IntKind.u8 x0, Value.int IntKind.u8 x1] 39)).drewN nq = w1 at *
    have HG := Lib.hid hgw
    clear hgw
    go_wp2_with fail
    refine (c1.out _).mono ?_; rintro e w' ⟨rfl, rfl⟩
    go_wp2_with fail
    refine (c2.out _).mono ?_; rintro e w' ⟨rfl, rfl⟩
    go_wp2_with fail
    refine (c1.out _).mono ?_; rintro e w' ⟨rfl, rfl⟩
    go_wp2_with fail
    refine (c3.out _).mono ?_; rintro e w' ⟨rfl, rfl⟩
    go_wp2_with fail
    refine (c4.out _).mono ?_; rintro e w' ⟨rfl, rfl⟩
    go_wp2_with fail
    refine (c1.out _).mono ?_; rintro e w' ⟨rfl, rfl⟩
    go_wp2_with fail
    go_loop [50] (fun i => ∃ k : Nat, k ≤ 6 ∧ i = .int .i64 k) (fun i => (6 - intOf i).toNat)
    case atStart => exact ⟨0, by omega, rfl⟩
    case round =>
      obtain ⟨k, hk, rfl⟩ := hrel
      rcases (show k = 6 ∨ k = 0 ∨ k = 1 ∨ k = 2 ∨ k = 3 ∨ k = 4 ∨ k = 5 by omega) with rfl | rfl | rfl | rfl | rfl | rfl | rfl
      · go_wp2_with fail
        refine (c6.out _).mono ?_; rintro e w' ⟨rfl, rfl⟩
        go_wp2_with fail
        refine (c7.out _).mono ?_; rintro e w' ⟨rfl, rfl⟩
        go_wp2_with fail
        refine (c1.out _).mono ?_; rintro e w' ⟨rfl, rfl⟩
        go_wp2_with fail
        refine (c8.out _).mono ?_; rintro e w' ⟨rfl, rfl⟩
        go_wp2_with fail
        refine (c9.out _).mono ?_; rintro e w' ⟨rfl, rfl⟩
        go_wp2_with fail
        refine (c10.out _).mono ?_; rintro e w' ⟨rfl, rfl⟩
        go_wp2_with fail
        refine (c11.out _).mono ?_; rintro e w' ⟨rfl, rfl⟩
        go_wp2_with fail
        refine (c12.out _).mono ?_; rintro e w' ⟨rfl, rfl⟩
        go_wp2_with fail
        refine (c13.out _).mono ?_; rintro e w' ⟨rfl, rfl⟩
        go_wp2_with fail
        go_ret
        exact ⟨rfl, HG.out⟩
      · obtain ⟨s, t, u, l1, l2, l3, l4⟩ := R.out 1 (Or.inl rfl)
        have L1 := Lib.hid l1
        have L2 := Lib.hid l2
        have L3 := Lib.hid l3
        have L4 := Lib.hid l4
        clear l1 l2 l3 l4
        go_wp2_with fail
        refine (c1.out _).mono ?_; rintro e w' ⟨rfl, rfl⟩
        go_wp2_with fail
        refine (c5.out _).mono ?_; rintro e w' ⟨rfl, rfl⟩
        go_wp2_with fail
        refine (L1.out _).mono ?_; rintro e w' ⟨rfl, rfl⟩
        go_wp2_with fail
        refine (L2.out _).mono ?_; rintro e w' ⟨rfl, rfl⟩
        go_wp2_with fail
        refine (L3.out _).mono ?_; rintro e w' ⟨rfl, rfl⟩
        go_wp2_with fail
        refine (L4.out _).mono ?_; rintro e w' ⟨rfl, rfl⟩
        go_wp2_with fail
        go_round
        case rel => exact ⟨1, by omega, rfl⟩
        case measure => simp [intOf]
      · obtain ⟨s, t, u, l1, l2, l3, l4⟩ := R.out 2 (Or.inr (Or.inl rfl))
        have L1 := Lib.hid l1
        have L2 := Lib.hid l2
        have L3 := Lib.hid l3
        have L4 := Lib.hid l4
        clear l1 l2 l3 l4
        go_wp2_with fail
        refine (c1.out _).mono ?_; rintro e w' ⟨rfl, rfl⟩
        go_wp2_with fail
        refine (c5.out _).mono ?_; rintro e w' ⟨rfl, rfl⟩
        go_wp2_with fail
        refine (L1.out _).mono ?_; rintro e w' ⟨rfl, rfl⟩
        go_wp2_with fail
        refine (L2.out _).mono ?_; rintro e w' ⟨rfl, rfl⟩
        go_wp2_with fail
        refine (L3.out _).mono ?_; rintro e w' ⟨rfl, rfl⟩
        go_wp2_with fail
        refine (L4.out _).mono ?_; rintro e w' ⟨rfl, rfl⟩
        go_wp2_with fail
        go_round
        case rel => exact ⟨2, by omega, rfl⟩
        case measure => simp [intOf]
      · obtain ⟨s, t, u, l1, l2, l3, l4⟩ := R.out 11 (Or.inr (Or.inr (Or.inl rfl)))
        have L1 := Lib.hid l1
        have L2 := Lib.hid l2
        have L3 := Lib.hid l3
        have L4 := Lib.hid l4
        clear l1 l2 l3 l4
        go_wp2_with fail
        refine (c1.out _).mono ?_; rintro e w' ⟨rfl, rfl⟩
        go_wp2_with fail
        refine (c5.out _).mono ?_; rintro e w' ⟨rfl, rfl⟩
        go_wp2_with fail
        refine (L1.out _).mono ?_; rintro e w' ⟨rfl, rfl⟩
        go_wp2_with fail
        refine (L2.out _).mono ?_; rintro e w' ⟨rfl, rfl⟩
        go_wp2_with fail
        refine (L3.out _).mono ?_; rintro e w' ⟨rfl, rfl⟩
        go_wp2_with fail
        refine (L4.out _).mono ?_; rintro e w' ⟨rfl, rfl⟩
        go_wp2_with fail
        go_round
        case rel => exact ⟨3, by omega, rfl⟩
        case measure => simp [intOf]
      · obtain ⟨s, t, u, l1, l2, l3, l4⟩ := R.out 10 (Or.inr (Or.inr (Or.inr (Or.inl rfl))))
        have L1 := Lib.hid l1
        have L2 := Lib.hid l2
        have L3 := Lib.hid l3
        have L4 := Lib.hid l4
        clear l1 l2 l3 l4
        go_wp2_with fail
        refine (c1.out _).mono ?_; rintro e w' ⟨rfl, rfl⟩
        go_wp2_with fail
        refine (c5.out _).mono ?_; rintro e w' ⟨rfl, rfl⟩
        go_wp2_with fail
        refine (L1.out _).mono ?_; rintro e w' ⟨rfl, rfl⟩
        go_wp2_with fail
        refine (L2.out _).mono ?_; rintro e w' ⟨rfl, rfl⟩
        go_wp2_with fail
        refine (L3.out _).mono ?_; rintro e w' ⟨rfl, rfl⟩
        go_wp2_with fail
        refine (L4.out _).mono ?_; rintro e w' ⟨rfl, rfl⟩
        go_wp2_with fail
        go_round
        case rel => exact ⟨4, by omega, rfl⟩
        case measure => simp [intOf]
      · obtain ⟨s, t, u, l1, l2, l3, l4⟩ := R.out 9 (Or.inr (Or.inr (Or.inr (Or.inr (Or.inl rfl)))))
        have L1 := Lib.hid l1
        have L2 := Lib.hid l2
        have L3 := Lib.hid l3
        have L4 := Lib.hid l4
        clear l1 l2 l3 l4
        go_wp2_with fail
        refine (c1.out _).mono ?_; rintro e w' ⟨rfl, rfl⟩
        go_wp2_with fail
        refine (c5.out _).mono ?_; rintro e w' ⟨rfl, rfl⟩
        go_wp2_with fail
        refine (L1.out _).mono ?_; rintro e w' ⟨rfl, rfl⟩
        go_wp2_with fail
        refine (L2.out _).mono ?_; rintro e w' ⟨rfl, rfl⟩
        go_wp2_with fail
        refine (L3.out _).mono ?_; rintro e w' ⟨rfl, rfl⟩
        go_wp2_with fail
        refine (L4.out _).mono ?_; rintro e w' ⟨rfl, rfl⟩
        go_wp2_with fail
        go_round
        case rel => exact ⟨5, by omega, rfl⟩
        case measure => simp [intOf]
      · obtain ⟨s, t, u, l1, l2, l3, l4⟩ := R.out 6 (Or.inr (Or.inr (Or.inr (Or.inr (Or.inr rfl)))))
        have L1 := Lib.hid l1
        have L2 := Lib.hid l2
        have L3 := Lib.hid l3
        have L4 := Lib.hid l4
        clear l1 l2 l3 l4
        go_wp2_with fail
        refine (c1.out _).mono ?_; rintro e w' ⟨rfl, rfl⟩
        go_wp2_with fail
        refine (c5.out _).mono ?_; rintro e w' ⟨rfl, rfl⟩
        go_wp2_with fail
        refine (L1.out _).mono ?_; rintro e w' ⟨rfl, rfl⟩
        go_wp2_with fail
        refine (L2.out _).mono ?_; rintro e w' ⟨rfl, rfl⟩
        go_wp2_with fail
        refine (L3.out _).mono ?_; rintro e w' ⟨rfl, rfl⟩
        go_wp2_with fail
        refine (L4.out _).mono ?_; rintro e w' ⟨rfl, rfl⟩
        go_wp2_with fail
        go_round
        case rel => exact ⟨6, by omega, rfl⟩
        case measure => simp [intOf]

/-! ### The row's step, as the seat's tool writes it. -/
set_option maxRecDepth 100000 in
theorem lifted (os : Os) (started : os.Started) (H : Type) (enc : TypeId × Value → H) :
    ReturnsInHanded {} Try.checked os 8 .any (Rows.numConvertsSpec.pre6 enc Try.prog Try.f8 Rows.numConvertsRow.domain false) (Rows.numConvertsSpec.post enc Try.prog Try.f8 false true false false) := by
  refine returnsInHanded_of_change (C := Try.checked) own started (by kernel_rfl) Try.func8
    (ChangeSpec.witness6 (enc := enc) (C := Try.checked) false ⟨#[], #[.int .u64 0, .int .u64 0, .agg #[.int .u8 0, .int .u8 0]], []⟩ 8 (by kernel_rfl) (by kernel_rfl) (by kernel_rfl) (by kernel_rfl)) ?_
  intro W base args ds gs before hval0 hW hcnd _
  have hval : ∀ (j : Nat) t v, Try.f8.params[j]? = some t → args[j]? = some v → Value.okWide Try.prog W .any base t v := hval0
  have hW' := hW
  obtain ⟨p, q, hA0, hV, rfl, hfz, hnd⟩ := hW
  have hA : DataW.TrodAll enc Try.prog W 0 (fun _ => true) true Try.f8.params.toList args.toList ds p := hA0
  rw [Try.params8] at hA hval
  obtain ⟨v0, vs0, d0, ds0, p0, q0, hargs, rfl, rfl, h0, r0⟩ := trodAll_cons hA
  obtain ⟨v1, vs1, d1, ds1, p1, q1, rfl, rfl, rfl, h1, r1⟩ := trodAll_cons r0
  obtain ⟨v2, vs2, d2, ds2, p2, q2, rfl, rfl, rfl, h2, r2⟩ := trodAll_cons r1
  obtain ⟨rfl, rfl, rfl⟩ := trodAll_nil r2
  obtain rfl : args = #[v0, v1, v2] := by cases args; simp_all
  obtain ⟨rfl, rfl⟩ := trodVars_none hV
  obtain ⟨a0, rfl, rfl, rfl, w0⟩ := open_int Try.underlying22 (hval 0 22 v0 rfl rfl) h0
  obtain ⟨a1, rfl, rfl, rfl, w1⟩ := open_int Try.underlying22 (hval 1 22 v1 rfl rfl) h1
  obtain ⟨xs, hxs, rfl, rfl, rfl, wxs⟩ := open_int_arr Try.underlying39 Try.underlying5 (by kernel_rfl) (by kernel_rfl) (hval 2 39 v2 rfl rfl) h2
  obtain ⟨x0, x1, rfl⟩ := two_of xs hxs
  clear hA0 hval0
  simp only [List.append_nil] at hW'
  refine (walk a0 a1 x0 x1 w0 w1 (wxs x0 (by simp)) (wxs x1 (by simp)) W).mono fun e W' ⟨he, hg⟩ => ?_
  subst he
  exact ⟨_, rfl, post_of_same (pa := []) (pv := []) hW' (fun _ _ _ => (trodAll_cons_mk (shut_bool Try.underlying4 _) trodAll_mk0)) (fun sp _ => (trodAll_cons_mk (shut_int Try.underlying22 w0) (trodAll_cons_mk (shut_int Try.underlying22 w1) (trodAll_cons_mk (shut_int_arr (xs := [x0, x1]) Try.underlying39 Try.underlying5 (by kernel_rfl) (by kernel_rfl) rfl wxs) trodAll_mk0)))) (fun _ _ => rfl) rfl
    (hg.frame _) hg.2.1 (ok_one (by kernel_rfl) rfl (okWide_bool_mk Try.underlying4 _))⟩

theorem over : Rows.numConvertsRow.holds Try.pinned (OpenSpec.ofChange Rows.numConvertsSpec) :=
  OpenClaim.holds_of_wide 8 Try.f8 rfl rfl rfl rfl rfl rfl rfl ⟨rfl, rfl, rfl, rfl, rfl⟩ rfl rfl rfl rfl rfl (by kernel_rfl) Try.func8 (by kernel_rfl)
    (of_decide_eq_true (by kernel_rfl)) (by unfold Func.isWrapper; first | (rw [if_pos (by decide +kernel)]; kernel_rfl) | (rw [if_neg (by decide +kernel)]; exact ⟨rfl, rfl⟩))
    (fun os started H enc _ => lifted os started H enc)

/-- The statement. -/
theorem proved : Rows.NumConvertsSaid :=
  over
#print axioms proved
end Go.Proofs.Ytkeengmcbbmhbaa.numConverts
