/- NumShifts returns true for every number of 64 bits and every two counts, without conditions. The frame around the walk was written by the seat's proof-skeleton.mjs. -/
import Derived.Test.YtkeengmcbbmhbaaRows
import Derived.Test.YtkeengmcbbmhbaaG
import Derived.Test.YtkeengmcbbmhbaaH
import Derived.WalkKit
import Derived.ProofKit
import Derived.OpenShut
namespace Go.Proofs.Ytkeengmcbbmhbaa.numShifts
open Go.ChangeShapes Go.WideShapes Go.ChangeAt Go.RowKit
set_option linter.unusedVariables false      -- a walk need not use every 'w<i>' (that an integer argument fits its kind)

theorem own : ownKnob Try.prog.godebug = none := by kernel_rfl

/-! ### The walk. -/
set_option maxHeartbeats 2000000 in
theorem walk (a0 : Int) (a1 : Int) (a2 : Int) (w0 : (Lit.int .u64 a0).wf = true) (w1 : (Lit.int .u8 a1).wf = true) (w2 : (Lit.int .u8 a2).wf = true) (w : World) :
    Calls Try.prog 9 #[.int .u64 a0, .int .u8 a1, .int .u8 a2] w fun e w' => e = .returned (.bool true) ∧ Grown w w' := by
  obtain ⟨p0, p1⟩ := wf_u w0
  obtain ⟨n0, n1⟩ := wf_8 w1
  obtain ⟨m0, m1⟩ := wf_8 w2
  obtain ⟨x, hx⟩ : ∃ x, x = a1 % 64 := ⟨_, rfl⟩
  obtain ⟨y, hy⟩ : ∃ y, y = a2 % 64 := ⟨_, rfl⟩
  have x0 : 0 ≤ x ∧ x < 64 := by omega
  have y0 : 0 ≤ y ∧ y < 64 := by omega
  have K := Lib.hid fun (op a b : Int) h0 h1 q0 q1 W => law_do op a b h0 h1 q0 q1 W
  have KB : ∀ op a b : Int, 0 ≤ a → a < 18446744073709551616 → 0 ≤ b → b < 18446744073709551616 → 0 ≤ (doF op a b).1 ∧ (doF op a b).1 < 18446744073709551616 :=
    fun op a b h0 h1 g0 g1 => ⟨do_lo op a b h0 g0, do_hi op a b h0 h1 g0 g1⟩
  -- the calls behind the first test
  have k7 := Lib.hid fun W => narrow_in a0 (64 - x) false (by omega) (by omega) W
  have k8 := Lib.hid fun W => narrow_in a0 (64 - x) true (by omega) (by omega) W
  have k3 := Lib.hid fun W => law_do 3 a0 x p0 p1 (by omega) (by omega) W
  have b3 := KB 3 a0 x p0 p1 (by omega) (by omega)
  have k37 : Hid _ := Lib.hid fun W => kept_eq a0 x x0.1 x0.2 ▸ law_do 7 (doF 3 a0 x).1 x b3.1 b3.2 (by omega) (by omega) W
  have k38 : Hid _ := Lib.hid fun W => signed_eq a0 x x0.1 x0.2 ▸ law_do 8 (doF 3 a0 x).1 x b3.1 b3.2 (by omega) (by omega) W
  have s8 := Lib.hid fun W => law_do 8 a0 x p0 p1 (by omega) (by omega) W
  have b8 := KB 8 a0 x p0 p1 (by omega) (by omega)
  have g8 : Hid _ := Lib.hid fun W => wrap_S (doF 8 a0 x).1 b8.1 b8.2 ▸ signed_any (doF 8 a0 x).1 W
  have g0 : Hid _ := Lib.hid fun W => wrap_S a0 p0 p1 ▸ signed_any a0 W
  have hsg := sra_neg a0 x p0 p1
  have hdec : decide (S (doF 8 a0 x).1 < 0) = decide (S a0 < 0) := decide_eq_decide.2 hsg
  have e3 : (doF 3 a0 (x + 64)).1 = (doF 3 a0 x).1 := by rw [sll_eq, sll_eq, show (x + 64) % 64 = x % 64 from by omega]
  have c3 : Hid _ := Lib.hid fun W => e3 ▸ law_do 3 a0 (x + 64) p0 p1 (by omega) (by omega) W
  have e20 : (doF 20 a0 (x + 32)).1 = (doF 20 a0 x).1 := by rw [sllw_eq, sllw_eq, show (x + 32) % 32 = x % 32 from by omega]
  have c20 : Hid _ := Lib.hid fun W => e20 ▸ law_do 20 a0 (x + 32) p0 p1 (by omega) (by omega) W
  have d20 := Lib.hid fun W => law_do 20 a0 x p0 p1 (by omega) (by omega) W
  have e21 := sllw_low a0 a2
  have f20 : Hid _ := Lib.hid fun W => e21 ▸ law_do 20 a0 (a2 % 32) p0 p1 (by omega) (by omega) W
  have f3 := Lib.hid fun W => law_do 3 a0 (a2 % 32) p0 p1 (by omega) (by omega) W
  have fn := Lib.hid fun W => law_narrow (doF 3 a0 (a2 % 32)).1 32 (by omega) (by omega) W
  by_cases hs : x + y < 64
  · have kk : ∀ op, op = 3 ∨ op = 7 ∨ op = 8 → ∃ r t : Int, (∀ W, Calls Try.prog 17 #[.int .i64 op, .int .u64 a0, .int .u64 x] W fun e w' => e = .returned (.int .u64 r) ∧ W = w')
        ∧ (∀ W, Calls Try.prog 17 #[.int .i64 op, .int .u64 r, .int .u64 y] W fun e w' => e = .returned (.int .u64 t) ∧ W = w')
        ∧ (∀ W, Calls Try.prog 17 #[.int .i64 op, .int .u64 a0, .int .u64 (x + y)] W fun e w' => e = .returned (.int .u64 t) ∧ W = w') := by
      intro op ho
      have b := KB op a0 x p0 p1 (by omega) (by omega)
      refine ⟨(doF op a0 x).1, (doF op a0 (x + y)).1, fun W => law_do op a0 x p0 p1 (by omega) (by omega) W, fun W => ?_, fun W => law_do op a0 (x + y) p0 p1 (by omega) (by omega) W⟩
      have h := law_do op (doF op a0 x).1 y b.1 b.2 (by omega) (by omega) W
      rw [comp op a0 x y ho p0 p1 x0.1 y0.1 hs] at h; exact h
    obtain ⟨r1, t1, l11, l12, l13⟩ := kk 3 (by omega)
    obtain ⟨r2, t2, l21, l22, l23⟩ := kk 7 (by omega)
    obtain ⟨r3, t3, l31, l32, l33⟩ := kk 8 (by omega)
    have L11 := Lib.hid l11
    have L12 := Lib.hid l12
    have L13 := Lib.hid l13
    have L21 := Lib.hid l21
    have L22 := Lib.hid l22
    have L23 := Lib.hid l23
    have L31 := Lib.hid l31
    have L32 := Lib.hid l32
    have L33 := Lib.hid l33
    clear l11 l12 l13 l21 l22 l23 l31 l32 l33 kk KB K
    generalize (doF 20 a0 x).1 = v20 at *
    generalize (doF 3 a0 (a2 % 32)).1 = v3 at *
    generalize (doF 3 a0 x).1 = p3 at *
    generalize (doF 8 a0 x).1 = p8 at *
    clear hsg e3 e20 e21
    subst hx hy
    go_enter Try.func9, Try.ntmps9
    go_wp2_with fail
    refine (awake_any _).mono ?_; rintro e w' ⟨rfl, rfl⟩
    go_wp2_with fail
    refine (L11.out _).mono ?_; rintro e w' ⟨rfl, rfl⟩
    go_wp2_with fail
    refine (L12.out _).mono ?_; rintro e w' ⟨rfl, rfl⟩
    go_wp2_with fail
    refine (L13.out _).mono ?_; rintro e w' ⟨rfl, rfl⟩
    go_wp2_with fail
    refine (L21.out _).mono ?_; rintro e w' ⟨rfl, rfl⟩
    go_wp2_with fail
    refine (L22.out _).mono ?_; rintro e w' ⟨rfl, rfl⟩
    go_wp2_with fail
    refine (L23.out _).mono ?_; rintro e w' ⟨rfl, rfl⟩
    go_wp2_with fail
    refine (L31.out _).mono ?_; rintro e w' ⟨rfl, rfl⟩
    go_wp2_with fail
    refine (L32.out _).mono ?_; rintro e w' ⟨rfl, rfl⟩
    go_wp2_with fail
    refine (L33.out _).mono ?_; rintro e w' ⟨rfl, rfl⟩
    go_wp2_with fail
    refine (k7.out _).mono ?_; rintro e w' ⟨rfl, rfl⟩
    go_wp2_with fail
    refine (k8.out _).mono ?_; rintro e w' ⟨rfl, rfl⟩
    go_wp2_with fail
    refine (k3.out _).mono ?_; rintro e w' ⟨rfl, rfl⟩
    go_wp2_with fail
    refine (k37.out _).mono ?_; rintro e w' ⟨rfl, rfl⟩
    go_wp2_with fail
    refine (k3.out _).mono ?_; rintro e w' ⟨rfl, rfl⟩
    go_wp2_with fail
    refine (k38.out _).mono ?_; rintro e w' ⟨rfl, rfl⟩
    go_wp2_with fail
    refine (s8.out _).mono ?_; rintro e w' ⟨rfl, rfl⟩
    go_wp2_with fail
    refine (g8.out _).mono ?_; rintro e w' ⟨rfl, rfl⟩
    go_wp2_with fail
    refine (g0.out _).mono ?_; rintro e w' ⟨rfl, rfl⟩
    go_wp2_with fail
    refine (c3.out _).mono ?_; rintro e w' ⟨rfl, rfl⟩
    go_wp2_with fail
    refine (k3.out _).mono ?_; rintro e w' ⟨rfl, rfl⟩
    go_wp2_with fail
    refine (c20.out _).mono ?_; rintro e w' ⟨rfl, rfl⟩
    go_wp2_with fail
    refine (d20.out _).mono ?_; rintro e w' ⟨rfl, rfl⟩
    go_wp2_with fail
    refine (f20.out _).mono ?_; rintro e w' ⟨rfl, rfl⟩
    go_wp2_with fail
    refine (f3.out _).mono ?_; rintro e w' ⟨rfl, rfl⟩
    go_wp2_with fail
    refine (fn.out _).mono ?_; rintro e w' ⟨rfl, rfl⟩
    go_wp2_with fail
    go_ret
    exact ⟨rfl, Grown.refl _⟩
  · clear KB K
    generalize (doF 20 a0 x).1 = v20 at *
    generalize (doF 3 a0 (a2 % 32)).1 = v3 at *
    generalize (doF 3 a0 x).1 = p3 at *
    generalize (doF 8 a0 x).1 = p8 at *
    clear hsg e3 e20 e21
    subst hx hy
    go_enter Try.func9, Try.ntmps9
    go_wp2_with fail
    refine (awake_any _).mono ?_; rintro e w' ⟨rfl, rfl⟩
    go_wp2_with fail
    refine (k7.out _).mono ?_; rintro e w' ⟨rfl, rfl⟩
    go_wp2_with fail
    refine (k8.out _).mono ?_; rintro e w' ⟨rfl, rfl⟩
    go_wp2_with fail
    refine (k3.out _).mono ?_; rintro e w' ⟨rfl, rfl⟩
    go_wp2_with fail
    refine (k37.out _).mono ?_; rintro e w' ⟨rfl, rfl⟩
    go_wp2_with fail
    refine (k3.out _).mono ?_; rintro e w' ⟨rfl, rfl⟩
    go_wp2_with fail
    refine (k38.out _).mono ?_; rintro e w' ⟨rfl, rfl⟩
    go_wp2_with fail
    refine (s8.out _).mono ?_; rintro e w' ⟨rfl, rfl⟩
    go_wp2_with fail
    refine (g8.out _).mono ?_; rintro e w' ⟨rfl, rfl⟩
    go_wp2_with fail
    refine (g0.out _).mono ?_; rintro e w' ⟨rfl, rfl⟩
    go_wp2_with fail
    refine (c3.out _).mono ?_; rintro e w' ⟨rfl, rfl⟩
    go_wp2_with fail
    refine (k3.out _).mono ?_; rintro e w' ⟨rfl, rfl⟩
    go_wp2_with fail
    refine (c20.out _).mono ?_; rintro e w' ⟨rfl, rfl⟩
    go_wp2_with fail
    refine (d20.out _).mono ?_; rintro e w' ⟨rfl, rfl⟩
    go_wp2_with fail
    refine (f20.out _).mono ?_; rintro e w' ⟨rfl, rfl⟩
    go_wp2_with fail
    refine (f3.out _).mono ?_; rintro e w' ⟨rfl, rfl⟩
    go_wp2_with fail
    refine (fn.out _).mono ?_; rintro e w' ⟨rfl, rfl⟩
    go_wp2_with fail
    go_ret
    exact ⟨rfl, Grown.refl _⟩

/-! ### The row's step, as the seat's tool writes it. -/
set_option maxRecDepth 100000 in
theorem lifted (os : Os) (started : os.Started) (H : Type) (enc : TypeId × Value → H) :
    ReturnsInHanded {} Try.checked os 9 .any (Rows.numShiftsSpec.pre6 enc Try.prog Try.f9 Rows.numShiftsRow.domain false) (Rows.numShiftsSpec.post enc Try.prog Try.f9 false true false false) := by
  refine returnsInHanded_of_change (C := Try.checked) own started (by kernel_rfl) Try.func9
    (ChangeSpec.witness6 (enc := enc) (C := Try.checked) false ⟨#[], #[.int .u64 0, .int .u8 0, .int .u8 0], []⟩ 8 (by kernel_rfl) (by kernel_rfl) (by kernel_rfl) (by kernel_rfl)) ?_
  intro W base args ds gs before hval0 hW hcnd _
  have hval : ∀ (j : Nat) t v, Try.f9.params[j]? = some t → args[j]? = some v → Value.okWide Try.prog W .any base t v := hval0
  have hW' := hW
  obtain ⟨p, q, hA0, hV, rfl, hfz, hnd⟩ := hW
  have hA : DataW.TrodAll enc Try.prog W 0 (fun _ => true) true Try.f9.params.toList args.toList ds p := hA0
  rw [Try.params9] at hA hval
  obtain ⟨v0, vs0, d0, ds0, p0, q0, hargs, rfl, rfl, h0, r0⟩ := trodAll_cons hA
  obtain ⟨v1, vs1, d1, ds1, p1, q1, rfl, rfl, rfl, h1, r1⟩ := trodAll_cons r0
  obtain ⟨v2, vs2, d2, ds2, p2, q2, rfl, rfl, rfl, h2, r2⟩ := trodAll_cons r1
  obtain ⟨rfl, rfl, rfl⟩ := trodAll_nil r2
  obtain rfl : args = #[v0, v1, v2] := by cases args; simp_all
  obtain ⟨rfl, rfl⟩ := trodVars_none hV
  obtain ⟨a0, rfl, rfl, rfl, w0⟩ := open_int Try.underlying22 (hval 0 22 v0 rfl rfl) h0
  obtain ⟨a1, rfl, rfl, rfl, w1⟩ := open_int Try.underlying5 (hval 1 5 v1 rfl rfl) h1
  obtain ⟨a2, rfl, rfl, rfl, w2⟩ := open_int Try.underlying5 (hval 2 5 v2 rfl rfl) h2
  clear hA0 hval0
  simp only [List.append_nil] at hW'
  refine (walk a0 a1 a2 w0 w1 w2 W).mono fun e W' ⟨he, hg⟩ => ?_
  subst he
  exact ⟨_, rfl, post_of_same (pa := []) (pv := []) hW' (fun _ _ _ => (trodAll_cons_mk (shut_bool Try.underlying4 _) trodAll_mk0)) (fun sp _ => (trodAll_cons_mk (shut_int Try.underlying22 w0) (trodAll_cons_mk (shut_int Try.underlying5 w1) (trodAll_cons_mk (shut_int Try.underlying5 w2) trodAll_mk0)))) (fun _ _ => rfl) rfl
    (hg.frame _) hg.2.1 (ok_one (by kernel_rfl) rfl (okWide_bool_mk Try.underlying4 _))⟩

theorem over : Rows.numShiftsRow.holds Try.pinned (OpenSpec.ofChange Rows.numShiftsSpec) :=
  OpenClaim.holds_of_wide 9 Try.f9 rfl rfl rfl rfl rfl rfl rfl ⟨rfl, rfl, rfl, rfl, rfl⟩ rfl rfl rfl rfl rfl (by kernel_rfl) Try.func9 (by kernel_rfl)
    (of_decide_eq_true (by kernel_rfl)) (by unfold Func.isWrapper; first | (rw [if_pos (by decide +kernel)]; kernel_rfl) | (rw [if_neg (by decide +kernel)]; exact ⟨rfl, rfl⟩))
    (fun os started H enc _ => lifted os started H enc)

/-- The statement. -/
theorem proved : Rows.NumShiftsSaid :=
  over
#print axioms proved
end Go.Proofs.Ytkeengmcbbmhbaa.numShifts
