/- MidCounts returns true for every byte, without conditions. -/
import Derived.Test.YtojfgdoniajmeaaRows
import Derived.Lib.SmallJoins
import Derived.Test.YtojfgdoniajmeaaMPureA
import Derived.Test.YtojfgdoniajmeaaLibF
import Derived.Test.YtojfgdoniajmeaaLibK
namespace Go.Proofs.Ytojfgdoniajmeaa.midCounts
open Go.ChangeShapes Go.WideShapes Go.ChangeAt Go.RowKit Go.Joins
set_option linter.unusedVariables false
set_option linter.unusedSimpArgs false

theorem own : ownKnob Try.prog.godebug = none := by kernel_rfl

theorem laidOut : laidOutB Try.prog = true := by kernel_rfl
set_option maxHeartbeats 4000000 in
set_option maxRecDepth 100000 in
theorem walk (n : Int) (h0 : 0 ≤ n) (h9 : n ≤ 255) (w : World) : Calls Try.prog 6 #[.int .u8 n] w fun e w' => e = .returned (.bool true) ∧ Below w.heap.size w w' := by
  by_cases hz : n = 0
  · subst hz
    go_enter Try.func6, Try.ntmps6
    go_wp2_with fail
    refine (awake_any w).mono ?_
    rintro e w1 ⟨rfl, s1⟩
    have S1 := Lib.hid s1
    clear s1
    go_wp2_with fail
    refine (awake_any w1).mono ?_
    rintro e w2 ⟨rfl, s2⟩
    have S2 := Lib.hid (S1.out.then s2)
    clear s2
    go_wp2_with fail
    go_ret
    exact ⟨rfl, S2.out.below (Nat.le_refl _) fun _ x => x.elim⟩
  · have hz1 : (n == 0) = false := beq_false_of_ne hz
    have h1 : 1 ≤ n := by omega
    clear hz
    go_enter Try.func6, Try.ntmps6
    go_wp2_with fail
    refine (awake_any w).mono ?_
    rintro e w1 ⟨rfl, s1⟩
    have S1 := Lib.hid s1
    clear s1
    have k2 := heap_alloc_new w1 (.cells #[.int .i64 1, .int .i64 1] 3 (0, 0))
    have s2 := Step.alloc (fun _ => False) w1 (.cells #[.int .i64 1, .int .i64 1] 3 (0, 0))
    generalize hw2 : w1.alloc (.cells #[.int .i64 1, .int .i64 1] 3 (0, 0)) = w2 at *
    have hz2 : w2.heap.size = w1.heap.size + 1 := by rw [← hw2]; simp
    have k3 := heap_alloc_new w2 (.cells #[.int .i64 21, .int .i64 0, .int .i64 0, .int .i64 0, .int .u64 0, .int .i64 0, .string ⟨#[]⟩, .slice none 0 0, .slice none 0 0, .int .i64 0, .int .i64 1, .int .i64 1, .int .i64 0, .int .i64 0, .int .u64 1, .int .i64 0, .string ⟨#[]⟩, .slice none 0 0, .slice none 0 0, .int .i64 0, .int .i64 20, .int .i64 0, .int .i64 0, .int .i64 0, .int .u64 0, .int .i64 0, .string ⟨#[]⟩, .slice none 0 0, .slice none 0 0, .int .i64 0, .int .i64 3, .int .i64 0, .int .i64 0, .int .i64 1, .int .u64 2, .int .i64 0, .string ⟨#[]⟩, .slice none 0 0, .slice none 0 0, .int .i64 0, .int .i64 19, .int .i64 0, .int .i64 0, .int .i64 0, .int .u64 0, .int .i64 0, .string ⟨#[]⟩, .slice none 0 0, .slice none 0 0, .int .i64 2, .int .i64 17, .int .i64 0, .int .i64 1, .int .i64 0, .int .u64 0, .int .i64 0, .string ⟨#[]⟩, .slice none 0 0, .slice none 0 0, .int .i64 0] 42 (0, 0))
    have s3 := Step.alloc (fun _ => False) w2 (.cells #[.int .i64 21, .int .i64 0, .int .i64 0, .int .i64 0, .int .u64 0, .int .i64 0, .string ⟨#[]⟩, .slice none 0 0, .slice none 0 0, .int .i64 0, .int .i64 1, .int .i64 1, .int .i64 0, .int .i64 0, .int .u64 1, .int .i64 0, .string ⟨#[]⟩, .slice none 0 0, .slice none 0 0, .int .i64 0, .int .i64 20, .int .i64 0, .int .i64 0, .int .i64 0, .int .u64 0, .int .i64 0, .string ⟨#[]⟩, .slice none 0 0, .slice none 0 0, .int .i64 0, .int .i64 3, .int .i64 0, .int .i64 0, .int .i64 1, .int .u64 2, .int .i64 0, .string ⟨#[]⟩, .slice none 0 0, .slice none 0 0, .int .i64 0, .int .i64 19, .int .i64 0, .int .i64 0, .int .i64 0, .int .u64 0, .int .i64 0, .string ⟨#[]⟩, .slice none 0 0, .slice none 0 0, .int .i64 2, .int .i64 17, .int .i64 0, .int .i64 1, .int .i64 0, .int .u64 0, .int .i64 0, .string ⟨#[]⟩, .slice none 0 0, .slice none 0 0, .int .i64 0] 42 (0, 0))
    rw [hz2] at k3
    go_wp2_with fail
    replace k2 := s3.keeps k2
    have S3 := Lib.hid (s2.then s3)
    generalize w2.alloc (.cells #[.int .i64 21, .int .i64 0, .int .i64 0, .int .i64 0, .int .u64 0, .int .i64 0, .string ⟨#[]⟩, .slice none 0 0, .slice none 0 0, .int .i64 0, .int .i64 1, .int .i64 1, .int .i64 0, .int .i64 0, .int .u64 1, .int .i64 0, .string ⟨#[]⟩, .slice none 0 0, .slice none 0 0, .int .i64 0, .int .i64 20, .int .i64 0, .int .i64 0, .int .i64 0, .int .u64 0, .int .i64 0, .string ⟨#[]⟩, .slice none 0 0, .slice none 0 0, .int .i64 0, .int .i64 3, .int .i64 0, .int .i64 0, .int .i64 1, .int .u64 2, .int .i64 0, .string ⟨#[]⟩, .slice none 0 0, .slice none 0 0, .int .i64 0, .int .i64 19, .int .i64 0, .int .i64 0, .int .i64 0, .int .u64 0, .int .i64 0, .string ⟨#[]⟩, .slice none 0 0, .slice none 0 0, .int .i64 2, .int .i64 17, .int .i64 0, .int .i64 1, .int .i64 0, .int .u64 0, .int .i64 0, .string ⟨#[]⟩, .slice none 0 0, .slice none 0 0, .int .i64 0] 42 (0, 0)) = w3 at *
    have hk := (ints_keep (F := fun _ => False) (q := .i64) (zs := [1, 1]) k2 rfl (fun x => x) rfl (by simp [maxLen]) (by decide)) w3 (Step.refl _ _)
    have hrow : CodeRow w3 _ _ countsC := codeRow_of_block (vis := [insV (insOf 21 0 0 0 0 0 [] [] 0) (.slice none 0 0) (.slice none 0 0), insV (insOf 1 1 0 0 1 0 [] [] 0) (.slice none 0 0) (.slice none 0 0), insV (insOf 20 0 0 0 0 0 [] [] 0) (.slice none 0 0) (.slice none 0 0), insV (insOf 3 0 0 1 2 0 [] [] 0) (.slice none 0 0) (.slice none 0 0), insV (insOf 19 0 0 0 0 0 [] [] 2) (.slice none 0 0) (.slice none 0 0), insV (insOf 17 0 1 0 0 0 [] [] 0) (.slice none 0 0) (.slice none 0 0)]) k3 ⟨keeps_bare rfl rfl, keeps_bare rfl rfl, keeps_bare rfl rfl, keeps_bare rfl rfl, keeps_bare rfl rfl, keeps_bare rfl rfl, trivial⟩ (by simp [countsC, maxLen])
    refine (alone_any hk (ints_nil _ _) hrow.code).mono ?_
    rintro e w4 ⟨b, rfl, hb, k4, hfn, s4⟩
    have HF := Lib.hid (fns_one k4 hfn)
    have HUN := Lib.hid (show UnitOk [] [aloneM [1, 1] [] countsC] from unitOk_of (by simp) (by simp) (by kernel_rfl))
    have S4 := Lib.hid (S3.out.then s4)
    clear k2 k3 s2 s3 hk hrow s4 hb k4 hfn hw2 hz2
    have k5 := heap_alloc_new w4 (.cells #[.int .u8 n] 5 (0, 0))
    have s5 := Step.alloc (fun _ => False) w4 (.cells #[.int .u8 n] 5 (0, 0))
    go_wp2_with fail
    generalize w4.alloc (.cells #[.int .u8 n] 5 (0, 0)) = w5 at *
    generalize w4.heap.size = B at *
    have hin : IntsAt .u8 w5 (.slice (some ⟨B, 0, none⟩) 1 1) [n] := (ints_keep (F := fun _ => False) (q := .u8) (zs := [n]) k5 rfl (fun x => x) rfl (by simp [maxLen]) (by
      intro z hz
      rw [List.mem_singleton.1 hz]
      simp only [Lit.wf, Bool.and_eq_true, decide_eq_true_eq]
      have e1 : IntKind.u8.min = 0 := rfl
      have e2 : IntKind.u8.max = 255 := rfl
      omega)) w5 (Step.refl _ _)
    have RUN := Lib.hid (Run_any (w := w5) (fuel := 2000) (tops_nil w5) (fnsAt_step HF.out s5) hin HUN.out (by omega))
    rw [counts_run' h1 h9] at RUN
    have S5 := Lib.hid (S4.out.then s5)
    clear k5 s5 hin HUN HF
    refine RUN.out.mono ?_
    rintro e w6 ⟨vo, rfl, hrow, s6⟩
    have hdl : (down n.toNat).length = n.toNat := down_len _
    have hdg : ∀ j, j < n.toNat → (down n.toNat).getD j 0 = n - j := fun j hj => by rw [down_get _ _ hj]; omega
    have hln : ((down n.toNat).length : Int) = n := by rw [hdl]; omega
    unfold resV
    simp only at hrow ⊢
    generalize down n.toNat = o at *
    obtain ⟨L, hL⟩ : ∃ L, o.length = L := ⟨_, rfl⟩
    rw [hL] at hrow hln hdl
    rw [← hdl] at hdg
    obtain ⟨oa, oc, rfl⟩ := hrow.slice
    have ROW := Lib.hid hrow
    have HDG := Lib.hid hdg
    have HOL := Lib.hid hL
    have S6 := Lib.hid (S5.out.then s6)
    have hne : ((L : Int) != n) = false := by rw [hln]; simp
    have hL0 : 0 < L := by omega
    have hLh : L ≤ 255 := by omega
    have hLn := Lib.hid hln
    clear hrow s6 hdl hdg hL RUN hln
    have k7 := heap_alloc_new w6 (.cells #[.int .i64 1, .int .u8 1, .int .i64 0, .slice oa L oc, .int .i64 (3 * n + 3), .int .i64 0] 31 (0, 0))
    have s7 := Step.alloc (fun _ => False) w6 (.cells #[.int .i64 1, .int .u8 1, .int .i64 0, .slice oa L oc, .int .i64 (3 * n + 3), .int .i64 0] 31 (0, 0))
    go_upto_region 4 with fail
    generalize w6.alloc (.cells #[.int .i64 1, .int .u8 1, .int .i64 0, .slice oa L oc, .int .i64 (3 * n + 3), .int .i64 0] 31 (0, 0)) = w7 at *
    generalize w6.heap.size = B2 at *
    have S7 := Lib.hid (S6.out.then s7)
    have HS7 := Lib.hid s7
    have K7 := Lib.hid k7
    clear k7 s7
    obtain ⟨c0, c1, c2, c3, c4, c5⟩ := cells_known6 K7.out
    go_wp2_with fail
    go_loopw [4, 5, 53] (fun _ _ i wr => ∃ k : Nat, k ≤ L ∧ i = .int .i64 k ∧ wr = w7) (fun _ _ i _ => L - (intOf i).toNat)
    case atStart => exact ⟨0, by omega, rfl, rfl⟩
    case round =>
      obtain ⟨k, hk, rfl, rfl⟩ := hrel
      by_cases hlt : k < L
      · have hd : decide (k < L) = true := decide_eq_true hlt
        obtain ⟨g, cap, cur, eg, _, hg, _, _, _, htk⟩ := ROW.out.some hL0
        simp only [Value.slice.injEq, true_and] at eg
        obtain ⟨rfl, rfl⟩ := eg
        have hx := HDG.out k hlt
        have hc := row_cell (size := 1) (HS7.out.keeps hg) htk (j := k) (u := .int .u8 (o.getD k 0)) (by
          rw [List.getElem?_map, List.getElem?_eq_getElem (by rw [HOL.out]; exact hlt), List.getD_eq_getElem?_getD, List.getElem?_eq_getElem (by rw [HOL.out]; exact hlt)]; rfl)
        generalize o.getD k 0 = x at *
        have hx0 : 0 ≤ x := by have := hLn.out; omega
        have hx9 : x ≤ 255 := by omega
        have hd0 : 0 ≤ n - (k : Int) := by have := hLn.out; omega
        have hxe : (x != n - (k : Int)) = false := by rw [hx]; simp
        have hw : wrap64 (n - (k : Int)) = n - (k : Int) := Go.IntWalk.wrap64_in _ ⟨by omega, by omega⟩
        clear hx hg htk
        go_wp2_with fail
        go_roundw
        case rel => exact ⟨k + 1, by omega, by go_num, by first | trivial | rfl⟩
        case measure => simp [intOf]; omega
      · have hd : decide (k < L) = false := decide_eq_false hlt
        go_wp2_with fail
        go_ret
        exact ⟨rfl, (S1.out.then S7.out).below (Nat.le_refl _) fun _ x => x.elim⟩

/-! ### The row. -/

set_option maxRecDepth 100000 in
theorem lifted (os : Os) (started : os.Started) (H : Type) (enc : TypeId × Value → H) :
    ReturnsInHanded {} Try.checked os 6 .any (Rows.midCountsSpec.pre6 enc Try.prog Try.f6 Rows.midCountsRow.domain false) (Rows.midCountsSpec.post enc Try.prog Try.f6 false true false false) := by
  refine returnsInHanded_of_change (C := Try.checked) own started (by kernel_rfl) Try.func6
    (ChangeSpec.witness6 (enc := enc) (C := Try.checked) false ⟨#[], #[.int .u8 0], []⟩ 8 (by kernel_rfl) (by kernel_rfl) (by kernel_rfl) (by kernel_rfl)) ?_
  intro W base args ds gs before hval0 hW hcnd _
  have hval : ∀ (j : Nat) t v, Try.f6.params[j]? = some t → args[j]? = some v → Value.okWide Try.prog W .any base t v := hval0
  have hW' := hW
  obtain ⟨p, q, hA0, hV, rfl, hfz, hnd⟩ := hW
  have hA : DataW.TrodAll enc Try.prog W 0 (fun _ => true) true Try.f6.params.toList args.toList ds p := hA0
  rw [Try.params6] at hA hval
  obtain ⟨v0, vs0, d0, ds0, p0, q0, hargs, rfl, rfl, h0, r0⟩ := trodAll_cons hA
  obtain ⟨rfl, rfl, rfl⟩ := trodAll_nil r0
  obtain rfl : args = #[v0] := by cases args; simp_all
  obtain ⟨rfl, rfl⟩ := trodVars_none hV
  obtain ⟨x, rfl, rfl, rfl, hx⟩ := open_int Try.underlying5 (hval 0 5 v0 rfl rfl) h0
  clear hA0 hval0
  simp only [List.append_nil] at hW'
  refine (walk x (wfu8 hx).1 (wfu8 hx).2 W).mono fun e W' ⟨he, hb⟩ => ?_
  subst he
  exact ⟨_, rfl, law_post laidOut (by kernel_rfl) rfl rfl rfl Try.underlying4 hW' hb⟩

theorem over : Rows.midCountsRow.holds Try.pinned (OpenSpec.ofChange Rows.midCountsSpec) :=
  OpenClaim.holds_of_wide 6 Try.f6 rfl rfl rfl rfl rfl rfl rfl ⟨rfl, rfl, rfl, rfl, rfl⟩ rfl rfl rfl rfl rfl (by kernel_rfl) Try.func6 (by kernel_rfl)
    (of_decide_eq_true (by kernel_rfl)) (by unfold Func.isWrapper; first | (rw [if_pos (by decide +kernel)]; kernel_rfl) | (rw [if_neg (by decide +kernel)]; exact ⟨rfl, rfl⟩))
    (fun os started H enc _ => lifted os started H enc)

/-- The statement. -/
theorem proved : Rows.MidCountsSaid :=
  over
#print axioms proved
end Go.Proofs.Ytojfgdoniajmeaa.midCounts
