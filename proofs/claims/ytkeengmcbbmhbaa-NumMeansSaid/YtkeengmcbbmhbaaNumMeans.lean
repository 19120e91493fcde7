/- NumMeans returns true for every two numbers of 64 bits and every int, without conditions. The frame around the walk was written by the seat's proof-skeleton.mjs. -/
import Derived.Test.YtkeengmcbbmhbaaRows
import Derived.Test.YtkeengmcbbmhbaaG
import Derived.Test.YtkeengmcbbmhbaaC
import Derived.WalkKit
import Derived.ProofKit
import Derived.OpenShut
namespace Go.Proofs.Ytkeengmcbbmhbaa.numMeans
open Go.ChangeShapes Go.WideShapes Go.ChangeAt Go.RowKit
set_option linter.unusedVariables false      -- a walk need not use every 'w<i>' (that an integer argument fits its kind)

theorem own : ownKnob Try.prog.godebug = none := by kernel_rfl

/-! ### The walk. -/
theorem walk (a0 : Int) (a1 : Int) (a2 : Int) (w0 : (Lit.int .u64 a0).wf = true) (w1 : (Lit.int .u64 a1).wf = true) (w2 : (Lit.int .i64 a2).wf = true) (w : World) :
    Calls Try.prog 10 #[.int .u64 a0, .int .u64 a1, .int .i64 a2] w fun e w' => e = .returned (.bool true) ∧ Grown w w' := by
  obtain ⟨p0, p1⟩ := wf_u w0
  obtain ⟨q0, q1⟩ := wf_u w1
  obtain ⟨n0, n1⟩ := wf_i w2
  have L := Lib.hid fun w => less_any a0 a1 p0 p1 q0 q1 w
  have ua : IntKind.u64.wrap (S a0) = a0 := by rw [wrap_U]; exact U_S a0 p0 p1
  have un : wrap64 (IntKind.u64.wrap a2) = a2 := by rw [wrap64_eq, wrap_U, U_U]; exact S_U a2 n0 n1
  have hs := S_neg a0 p0 p1
  have ht : (decide (S a0 < 0) == decide (9223372036854775808 ≤ a0)) = true := by rw [beq_iff_eq]; exact decide_eq_decide.2 hs
  clear hs
  have K18a : ∀ w, Calls Try.prog 18 #[.int .u64 a0] w fun e w' => e = .returned (.int .i64 (S a0)) ∧ w = w' := fun w => wrap_S a0 p0 p1 ▸ signed_any a0 w
  have K18b : ∀ w, Calls Try.prog 18 #[.int .u64 a1] w fun e w' => e = .returned (.int .i64 (S a1)) ∧ w = w' := fun w => wrap_S a1 q0 q1 ▸ signed_any a1 w
  have K19a : ∀ w, Calls Try.prog 19 #[.int .i64 (S a0)] w fun e w' => e = .returned (.int .u64 a0) ∧ w = w' := by
    intro w; have h := unsigned_any (S a0) w; rw [ua] at h; exact h
  have K18n : ∀ w, Calls Try.prog 18 #[.int .u64 (IntKind.u64.wrap a2)] w fun e w' => e = .returned (.int .i64 a2) ∧ w = w' := by
    intro w; have h := signed_any (IntKind.u64.wrap a2) w; rw [un] at h; exact h
  have A := Lib.hid K18a
  have B := Lib.hid K18b
  have C := Lib.hid K19a
  have D := Lib.hid K18n
  clear K18a K18b K19a K18n ua un
  generalize S a0 = x at *
  generalize S a1 = y at *
  by_cases hb : x < y
  all_goals
    go_enter Try.func10, Try.ntmps10
    go_wp2_with fail
    refine (awake_any _).mono ?_; rintro e w' ⟨rfl, rfl⟩
    go_wp2_with fail
    refine (A.out _).mono ?_; rintro e w' ⟨rfl, rfl⟩
    go_wp2_with fail
    refine (C.out _).mono ?_; rintro e w' ⟨rfl, rfl⟩
    go_wp2_with fail
    refine (unsigned_any _ _).mono ?_; rintro e w' ⟨rfl, rfl⟩
    go_wp2_with fail
    refine (D.out _).mono ?_; rintro e w' ⟨rfl, rfl⟩
    go_wp2_with fail
    refine (A.out _).mono ?_; rintro e w' ⟨rfl, rfl⟩
    go_wp2_with fail
    refine (B.out _).mono ?_; rintro e w' ⟨rfl, rfl⟩
    go_wp2_with fail
    refine (L.out _).mono ?_; rintro e w' ⟨rfl, rfl⟩
    go_wp2_with fail
    refine (A.out _).mono ?_; rintro e w' ⟨rfl, rfl⟩
    go_wp2_with fail
    go_ret
    exact ⟨rfl, Grown.refl _⟩

/-! ### The row's step, as the seat's tool writes it. -/
set_option maxRecDepth 100000 in
theorem lifted (os : Os) (started : os.Started) (H : Type) (enc : TypeId × Value → H) :
    ReturnsInHanded {} Try.checked os 10 .any (Rows.numMeansSpec.pre6 enc Try.prog Try.f10 Rows.numMeansRow.domain false) (Rows.numMeansSpec.post enc Try.prog Try.f10 false true false false) := by
  refine returnsInHanded_of_change (C := Try.checked) own started (by kernel_rfl) Try.func10
    (ChangeSpec.witness6 (enc := enc) (C := Try.checked) false ⟨#[], #[.int .u64 0, .int .u64 0, .int .i64 0], []⟩ 8 (by kernel_rfl) (by kernel_rfl) (by kernel_rfl) (by kernel_rfl)) ?_
  intro W base args ds gs before hval0 hW hcnd _
  have hval : ∀ (j : Nat) t v, Try.f10.params[j]? = some t → args[j]? = some v → Value.okWide Try.prog W .any base t v := hval0
  have hW' := hW
  obtain ⟨p, q, hA0, hV, rfl, hfz, hnd⟩ := hW
  have hA : DataW.TrodAll enc Try.prog W 0 (fun _ => true) true Try.f10.params.toList args.toList ds p := hA0
  rw [Try.params10] at hA hval
  obtain ⟨v0, vs0, d0, ds0, p0, q0, hargs, rfl, rfl, h0, r0⟩ := trodAll_cons hA
  obtain ⟨v1, vs1, d1, ds1, p1, q1, rfl, rfl, rfl, h1, r1⟩ := trodAll_cons r0
  obtain ⟨v2, vs2, d2, ds2, p2, q2, rfl, rfl, rfl, h2, r2⟩ := trodAll_cons r1
  obtain ⟨rfl, rfl, rfl⟩ := trodAll_nil r2
  obtain rfl : args = #[v0, v1, v2] := by cases args; simp_all
  obtain ⟨rfl, rfl⟩ := trodVars_none hV
  obtain ⟨a0, rfl, rfl, rfl, w0⟩ := open_int Try.underlying22 (hval 0 22 v0 rfl rfl) h0
  obtain ⟨a1, rfl, rfl, rfl, w1⟩ := open_int Try.underlying22 (hval 1 22 v1 rfl rfl) h1
  obtain ⟨a2, rfl, rfl, rfl, w2⟩ := open_int Try.underlying3 (hval 2 3 v2 rfl rfl) h2
  clear hA0 hval0
  simp only [List.append_nil] at hW'
  refine (walk a0 a1 a2 w0 w1 w2 W).mono fun e W' ⟨he, hg⟩ => ?_
  subst he
  exact ⟨_, rfl, post_of_same (pa := []) (pv := []) hW' (fun _ _ _ => (trodAll_cons_mk (shut_bool Try.underlying4 _) trodAll_mk0)) (fun sp _ => (trodAll_cons_mk (shut_int Try.underlying22 w0) (trodAll_cons_mk (shut_int Try.underlying22 w1) (trodAll_cons_mk (shut_int Try.underlying3 w2) trodAll_mk0)))) (fun _ _ => rfl) rfl
    (hg.frame _) hg.2.1 (ok_one (by kernel_rfl) rfl (okWide_bool_mk Try.underlying4 _))⟩

theorem over : Rows.numMeansRow.holds Try.pinned (OpenSpec.ofChange Rows.numMeansSpec) :=
  OpenClaim.holds_of_wide 10 Try.f10 rfl rfl rfl rfl rfl rfl rfl ⟨rfl, rfl, rfl, rfl, rfl⟩ rfl rfl rfl rfl rfl (by kernel_rfl) Try.func10 (by kernel_rfl)
    (of_decide_eq_true (by kernel_rfl)) (by unfold Func.isWrapper; first | (rw [if_pos (by decide +kernel)]; kernel_rfl) | (rw [if_neg (by decide +kernel)]; exact ⟨rfl, rfl⟩))
    (fun os started H enc _ => lifted os started H enc)

/-- The statement. -/
theorem proved : Rows.NumMeansSaid :=
  over
#print axioms proved
end Go.Proofs.Ytkeengmcbbmhbaa.numMeans
