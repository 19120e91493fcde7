/- NumWhole returns true for every two numbers of 64 bits, without conditions. The frame around the walk was written by the seat's proof-skeleton.mjs. -/
import Derived.Test.YtkeengmcbbmhbaaRows
import Derived.Test.YtkeengmcbbmhbaaG
import Derived.WalkKit
import Derived.ProofKit
import Derived.OpenShut
namespace Go.Proofs.Ytkeengmcbbmhbaa.numWhole
open Go.ChangeShapes Go.WideShapes Go.ChangeAt Go.RowKit
set_option linter.unusedVariables false      -- a walk need not use every 'w<i>' (that an integer argument fits its kind)

theorem own : ownKnob Try.prog.godebug = none := by kernel_rfl

/-! ### The walk. -/
theorem walk (a0 : Int) (a1 : Int) (w0 : (Lit.int .u64 a0).wf = true) (w1 : (Lit.int .u64 a1).wf = true) (w : World) :
    Calls Try.prog 7 #[.int .u64 a0, .int .u64 a1] w fun e w' => e = .returned (.bool true) ∧ Grown w w' := by
  obtain ⟨p0, p1⟩ := wf_u w0
  obtain ⟨q0, q1⟩ := wf_u w1
  have ka := bits_m32 a0 p0 p1
  have kb := bits_m32 a1 q0 q1
  have kc : ∀ x, bits .and .u64 (IntKind.u64.wrap x) 4294967295 = IntKind.u64.wrap x % 4294967296 := by
    intro x; rw [wrap_U]; exact bits_m32 _ (U_lo x) (U_hi x)
  obtain ⟨e1, e2⟩ := halves a0 a1 p0 p1 q0 q1
  simp only [← wrap_U] at e1 e2
  have d1 := fun W => law_do 11 a0 a1 p0 p1 q0 q1 W
  have d2 := fun W => law_do 13 a0 a1 p0 p1 q0 q1 W
  have d3 := fun W => law_do 12 a0 a1 p0 p1 q0 q1 W
  have f1 : (doF 11 a0 a1).1 = IntKind.u64.wrap (a0 * a1) := (wrap_U _).symm
  have f2 : (doF 13 a0 a1).1 = a0 * a1 / 18446744073709551616 := rfl
  have f3 : (doF 12 a0 a1).1 = IntKind.u64.wrap (IntKind.u64.wrap (a0 * a1 / 18446744073709551616 - IntKind.u64.wrap (if S a0 < 0 then a1 else 0)) - IntKind.u64.wrap (if S a1 < 0 then a0 else 0)) :=
    (mulh_pp a0 a1 p0 p1 q0 q1 _ _ rfl rfl).symm
  rw [f1] at d1
  rw [f2] at d2
  rw [f3] at d3
  have g1 := bne_eq_false_iff_eq.2 e1
  have g2 := bne_eq_false_iff_eq.2 e2
  have na := S_neg a0 p0 p1
  have nb := S_neg a1 q0 q1
  have t0 := Int.ediv_nonneg (Int.mul_nonneg p0 q0) (show (0 : Int) ≤ 18446744073709551616 by omega)
  have t1 := mul_top a0 a1 p0 p1 q0 q1
  clear e1 e2 f1 f2 f3
  have D1 := Lib.hid d1
  have D2 := Lib.hid d2
  clear d1 d2
  generalize IntKind.u64.wrap (a0 * a1) = lo at *
  generalize a0 * a1 / 18446744073709551616 = hi at *
  by_cases ha : 9223372036854775808 ≤ a0
  case pos =>
    rw [if_pos (na.2 ha)] at d3
    by_cases hb : 9223372036854775808 ≤ a1
    case pos =>
      rw [if_pos (nb.2 hb)] at d3
      have x1 : IntKind.u64.wrap a1 = a1 := by rw [wrap_U]; exact U_id a1 q0 q1
      have x2 : IntKind.u64.wrap a0 = a0 := by rw [wrap_U]; exact U_id a0 p0 p1
      rw [x1, x2] at d3
      have D3 := Lib.hid d3
      clear d3 na nb x1 x2
      go_enter Try.func7, Try.ntmps7
      go_wp2_with fail
      refine (awake_any _).mono ?_; rintro e w' ⟨rfl, rfl⟩
      go_wp2_with fail
      refine (D1.out _).mono ?_; rintro e w' ⟨rfl, rfl⟩
      go_wp2_with fail
      refine (D2.out _).mono ?_; rintro e w' ⟨rfl, rfl⟩
      go_wp2_with fail
      refine (D3.out _).mono ?_; rintro e w' ⟨rfl, rfl⟩
      go_wp2_with fail
      go_ret
      exact ⟨rfl, Grown.refl _⟩
    case neg =>
      rw [if_neg (fun h => hb (nb.1 h))] at d3
      have x1 : IntKind.u64.wrap a1 = a1 := by rw [wrap_U]; exact U_id a1 q0 q1
      have x2 : IntKind.u64.wrap (IntKind.u64.wrap (hi - a1) - IntKind.u64.wrap 0) = IntKind.u64.wrap (hi - a1) := by simp only [wrap_U]; unfold U; omega
      rw [x1, x2] at d3
      have D3 := Lib.hid d3
      clear d3 na nb x1 x2
      go_enter Try.func7, Try.ntmps7
      go_wp2_with fail
      refine (awake_any _).mono ?_; rintro e w' ⟨rfl, rfl⟩
      go_wp2_with fail
      refine (D1.out _).mono ?_; rintro e w' ⟨rfl, rfl⟩
      go_wp2_with fail
      refine (D2.out _).mono ?_; rintro e w' ⟨rfl, rfl⟩
      go_wp2_with fail
      refine (D3.out _).mono ?_; rintro e w' ⟨rfl, rfl⟩
      go_wp2_with fail
      go_ret
      exact ⟨rfl, Grown.refl _⟩
  case neg =>
    rw [if_neg (fun h => ha (na.1 h))] at d3
    have x0 : IntKind.u64.wrap (hi - IntKind.u64.wrap 0) = hi := by simp only [wrap_U]; unfold U; omega
    rw [x0] at d3
    by_cases hb : 9223372036854775808 ≤ a1
    case pos =>
      rw [if_pos (nb.2 hb)] at d3
      have x2 : IntKind.u64.wrap a0 = a0 := by rw [wrap_U]; exact U_id a0 p0 p1
      rw [x2] at d3
      have D3 := Lib.hid d3
      clear d3 na nb x0 x2
      go_enter Try.func7, Try.ntmps7
      go_wp2_with fail
      refine (awake_any _).mono ?_; rintro e w' ⟨rfl, rfl⟩
      go_wp2_with fail
      refine (D1.out _).mono ?_; rintro e w' ⟨rfl, rfl⟩
      go_wp2_with fail
      refine (D2.out _).mono ?_; rintro e w' ⟨rfl, rfl⟩
      go_wp2_with fail
      refine (D3.out _).mono ?_; rintro e w' ⟨rfl, rfl⟩
      go_wp2_with fail
      go_ret
      exact ⟨rfl, Grown.refl _⟩
    case neg =>
      rw [if_neg (fun h => hb (nb.1 h)), x0] at d3
      have D3 := Lib.hid d3
      clear d3 na nb x0
      go_enter Try.func7, Try.ntmps7
      go_wp2_with fail
      refine (awake_any _).mono ?_; rintro e w' ⟨rfl, rfl⟩
      go_wp2_with fail
      refine (D1.out _).mono ?_; rintro e w' ⟨rfl, rfl⟩
      go_wp2_with fail
      refine (D2.out _).mono ?_; rintro e w' ⟨rfl, rfl⟩
      go_wp2_with fail
      refine (D3.out _).mono ?_; rintro e w' ⟨rfl, rfl⟩
      go_wp2_with fail
      go_ret
      exact ⟨rfl, Grown.refl _⟩

/-! ### The row's step, as the seat's tool writes it. -/
set_option maxRecDepth 100000 in
theorem lifted (os : Os) (started : os.Started) (H : Type) (enc : TypeId × Value → H) :
    ReturnsInHanded {} Try.checked os 7 .any (Rows.numWholeSpec.pre6 enc Try.prog Try.f7 Rows.numWholeRow.domain false) (Rows.numWholeSpec.post enc Try.prog Try.f7 false true false false) := by
  refine returnsInHanded_of_change (C := Try.checked) own started (by kernel_rfl) Try.func7
    (ChangeSpec.witness6 (enc := enc) (C := Try.checked) false ⟨#[], #[.int .u64 0, .int .u64 0], []⟩ 8 (by kernel_rfl) (by kernel_rfl) (by kernel_rfl) (by kernel_rfl)) ?_
  intro W base args ds gs before hval0 hW hcnd _
  have hval : ∀ (j : Nat) t v, Try.f7.params[j]? = some t → args[j]? = some v → Value.okWide Try.prog W .any base t v := hval0
  have hW' := hW
  obtain ⟨p, q, hA0, hV, rfl, hfz, hnd⟩ := hW
  have hA : DataW.TrodAll enc Try.prog W 0 (fun _ => true) true Try.f7.params.toList args.toList ds p := hA0
  rw [Try.params7] at hA hval
  obtain ⟨v0, vs0, d0, ds0, p0, q0, hargs, rfl, rfl, h0, r0⟩ := trodAll_cons hA
  obtain ⟨v1, vs1, d1, ds1, p1, q1, rfl, rfl, rfl, h1, r1⟩ := trodAll_cons r0
  obtain ⟨rfl, rfl, rfl⟩ := trodAll_nil r1
  obtain rfl : args = #[v0, v1] := by cases args; simp_all
  obtain ⟨rfl, rfl⟩ := trodVars_none hV
  obtain ⟨a0, rfl, rfl, rfl, w0⟩ := open_int Try.underlying22 (hval 0 22 v0 rfl rfl) h0
  obtain ⟨a1, rfl, rfl, rfl, w1⟩ := open_int Try.underlying22 (hval 1 22 v1 rfl rfl) h1
  clear hA0 hval0
  simp only [List.append_nil] at hW'
  refine (walk a0 a1 w0 w1 W).mono fun e W' ⟨he, hg⟩ => ?_
  subst he
  exact ⟨_, rfl, post_of_same (pa := []) (pv := []) hW' (fun _ _ _ => (trodAll_cons_mk (shut_bool Try.underlying4 _) trodAll_mk0)) (fun sp _ => (trodAll_cons_mk (shut_int Try.underlying22 w0) (trodAll_cons_mk (shut_int Try.underlying22 w1) trodAll_mk0))) (fun _ _ => rfl) rfl
    (hg.frame _) hg.2.1 (ok_one (by kernel_rfl) rfl (okWide_bool_mk Try.underlying4 _))⟩

theorem over : Rows.numWholeRow.holds Try.pinned (OpenSpec.ofChange Rows.numWholeSpec) :=
  OpenClaim.holds_of_wide 7 Try.f7 rfl rfl rfl rfl rfl rfl rfl ⟨rfl, rfl, rfl, rfl, rfl⟩ rfl rfl rfl rfl rfl (by kernel_rfl) Try.func7 (by kernel_rfl)
    (of_decide_eq_true (by kernel_rfl)) (by unfold Func.isWrapper; first | (rw [if_pos (by decide +kernel)]; kernel_rfl) | (rw [if_neg (by decide +kernel)]; exact ⟨rfl, rfl⟩))
    (fun os started H enc _ => lifted os started H enc)

/-- The statement. -/
theorem proved : Rows.NumWholeSaid :=
  over
#print axioms proved
end Go.Proofs.Ytkeengmcbbmhbaa.numWhole
