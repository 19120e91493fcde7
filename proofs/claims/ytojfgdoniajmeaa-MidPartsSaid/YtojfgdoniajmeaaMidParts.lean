/- MidParts returns true for every two bytes and every small number, without conditions. -/
import Derived.Test.YtojfgdoniajmeaaRows
import Derived.Lib.SmallJoins
import Derived.Test.YtojfgdoniajmeaaMPureA
import Derived.Test.YtojfgdoniajmeaaLibF
import Derived.Test.YtojfgdoniajmeaaLibK
namespace Go.Proofs.Ytojfgdoniajmeaa.midParts
open Go.ChangeShapes Go.WideShapes Go.ChangeAt Go.RowKit Go.Joins
set_option linter.unusedVariables false
set_option linter.unusedSimpArgs false

theorem own : ownKnob Try.prog.godebug = none := by kernel_rfl

theorem laidOut : laidOutB Try.prog = true := by kernel_rfl
theorem wfi8 {n : Int} (h : (Lit.int .i8 n).wf = true) : -128 ≤ n ∧ n ≤ 127 := by
  simp only [Lit.wf, Bool.and_eq_true, decide_eq_true_eq] at h
  have e1 : IntKind.i8.min = -128 := rfl
  have e2 : IntKind.i8.max = 127 := rfl
  omega
theorem tops_one {w : World} {b : Nat} {nm : ByteArray} {sz : Int} (h : w.heap[b]? = some (.cells #[.string nm, .int .i64 sz] 52 (0, 0))) (hn : nm.size ≤ maxLen) (hw : (Lit.int .i64 sz).wf = true) : TopsAt w (.slice (some ⟨b, 0, none⟩) 1 1) [(nm, sz)] :=
  ⟨_, 1, rfl, by simp, by simp [maxLen], fun j hj => by
    have e : j = 0 := by simp at hj; omega
    subst e
    exact ⟨_, rfl, cell_known (i := 0) h rfl, cell_known (i := 1) h rfl, hn, hw⟩⟩
set_option maxHeartbeats 4000000 in
set_option maxRecDepth 100000 in
theorem walk (n size at_ : Int) (hn : 0 ≤ n ∧ n ≤ 255) (hs : 0 ≤ size ∧ size ≤ 255) (ha : -128 ≤ at_ ∧ at_ ≤ 127) (w : World) : Calls Try.prog 8 #[.int .u8 n, .int .u8 size, .int .i8 at_] w fun e w' => e = .returned (.bool true) ∧ Below w.heap.size w w' := by
  have PI := parts_is hn hs ha
  obtain ⟨hn0, hn9⟩ := hn
  obtain ⟨hs0, hs9⟩ := hs
  obtain ⟨ha0, ha9⟩ := ha
  have PR := parts_run (n := n) (sz := size + 1) (u := at_ % 18446744073709551616) (by omega) (by omega) (by omega)
  have HPI := Lib.hid PI
  have HPR := Lib.hid PR
  clear PI PR
  have hu : IntKind.u64.wrap at_ = at_ % 18446744073709551616 := IntKind.wrap_u64 _
  go_enter Try.func8, Try.ntmps8
  go_wp2_with fail
  refine (awake_any w).mono ?_
  rintro e w1 ⟨rfl, s1⟩
  have S1 := Lib.hid s1
  clear s1
  have k2 := heap_alloc_new w1 (.cells #[.int .i64 2, .int .i64 1] 3 (0, 0))
  have s2 := Step.alloc (fun _ => False) w1 (.cells #[.int .i64 2, .int .i64 1] 3 (0, 0))
  generalize hw2 : w1.alloc (.cells #[.int .i64 2, .int .i64 1] 3 (0, 0)) = w2 at *
  have hz2 : w2.heap.size = w1.heap.size + 1 := by rw [← hw2]; simp
  have k3 := heap_alloc_new w2 (.cells #[.int .i64 6, .int .i64 0, .int .i64 0, .int .i64 0, .int .u64 0, .int .i64 0, .string ⟨#[118]⟩, .slice none 0 0, .slice none 0 0, .int .i64 0, .int .i64 9, .int .i64 0, .int .i64 0, .int .i64 0, .int .u64 n, .int .i64 (size + 1), .string ⟨#[]⟩, .slice none 0 0, .slice none 0 0, .int .i64 0, .int .i64 1, .int .i64 1, .int .i64 0, .int .i64 0, .int .u64 (at_ % 18446744073709551616), .int .i64 0, .string ⟨#[]⟩, .slice none 0 0, .slice none 0 0, .int .i64 0, .int .i64 8, .int .i64 0, .int .i64 0, .int .i64 1, .int .u64 0, .int .i64 0, .string ⟨#[]⟩, .slice none 0 0, .slice none 0 0, .int .i64 0, .int .i64 11, .int .i64 1, .int .i64 0, .int .i64 0, .int .u64 0, .int .i64 1, .string ⟨#[]⟩, .slice none 0 0, .slice none 0 0, .int .i64 0, .int .i64 17, .int .i64 0, .int .i64 1, .int .i64 0, .int .u64 0, .int .i64 0, .string ⟨#[]⟩, .slice none 0 0, .slice none 0 0, .int .i64 0] 42 (0, 0))
  have s3 := Step.alloc (fun _ => False) w2 (.cells #[.int .i64 6, .int .i64 0, .int .i64 0, .int .i64 0, .int .u64 0, .int .i64 0, .string ⟨#[118]⟩, .slice none 0 0, .slice none 0 0, .int .i64 0, .int .i64 9, .int .i64 0, .int .i64 0, .int .i64 0, .int .u64 n, .int .i64 (size + 1), .string ⟨#[]⟩, .slice none 0 0, .slice none 0 0, .int .i64 0, .int .i64 1, .int .i64 1, .int .i64 0, .int .i64 0, .int .u64 (at_ % 18446744073709551616), .int .i64 0, .string ⟨#[]⟩, .slice none 0 0, .slice none 0 0, .int .i64 0, .int .i64 8, .int .i64 0, .int .i64 0, .int .i64 1, .int .u64 0, .int .i64 0, .string ⟨#[]⟩, .slice none 0 0, .slice none 0 0, .int .i64 0, .int .i64 11, .int .i64 1, .int .i64 0, .int .i64 0, .int .u64 0, .int .i64 1, .string ⟨#[]⟩, .slice none 0 0, .slice none 0 0, .int .i64 0, .int .i64 17, .int .i64 0, .int .i64 1, .int .i64 0, .int .u64 0, .int .i64 0, .string ⟨#[]⟩, .slice none 0 0, .slice none 0 0, .int .i64 0] 42 (0, 0))
  rw [hz2] at k3
  go_wp2_with fail
  replace k2 := s3.keeps k2
  have S3 := Lib.hid (s2.then s3)
  generalize w2.alloc (.cells #[.int .i64 6, .int .i64 0, .int .i64 0, .int .i64 0, .int .u64 0, .int .i64 0, .string ⟨#[118]⟩, .slice none 0 0, .slice none 0 0, .int .i64 0, .int .i64 9, .int .i64 0, .int .i64 0, .int .i64 0, .int .u64 n, .int .i64 (size + 1), .string ⟨#[]⟩, .slice none 0 0, .slice none 0 0, .int .i64 0, .int .i64 1, .int .i64 1, .int .i64 0, .int .i64 0, .int .u64 (at_ % 18446744073709551616), .int .i64 0, .string ⟨#[]⟩, .slice none 0 0, .slice none 0 0, .int .i64 0, .int .i64 8, .int .i64 0, .int .i64 0, .int .i64 1, .int .u64 0, .int .i64 0, .string ⟨#[]⟩, .slice none 0 0, .slice none 0 0, .int .i64 0, .int .i64 11, .int .i64 1, .int .i64 0, .int .i64 0, .int .u64 0, .int .i64 1, .string ⟨#[]⟩, .slice none 0 0, .slice none 0 0, .int .i64 0, .int .i64 17, .int .i64 0, .int .i64 1, .int .i64 0, .int .u64 0, .int .i64 0, .string ⟨#[]⟩, .slice none 0 0, .slice none 0 0, .int .i64 0] 42 (0, 0)) = w3 at *
  have hk := (ints_keep (F := fun _ => False) (q := .i64) (zs := [2, 1]) k2 rfl (fun x => x) rfl (by simp [maxLen]) (by decide)) w3 (Step.refl _ _)
  have hrow : CodeRow w3 _ _ (partsC n (size + 1) (at_ % 18446744073709551616)) := codeRow_of_block (vis := [insV ⟨6, 0, 0, 0, 0, 0, ⟨#[118]⟩, [], [], 0⟩ (.slice none 0 0) (.slice none 0 0), insV (insOf 9 0 0 0 n (size + 1) [] [] 0) (.slice none 0 0) (.slice none 0 0), insV (insOf 1 1 0 0 (at_ % 18446744073709551616) 0 [] [] 0) (.slice none 0 0) (.slice none 0 0), insV (insOf 8 0 0 1 0 0 [] [] 0) (.slice none 0 0) (.slice none 0 0), insV (insOf 11 1 0 0 0 1 [] [] 0) (.slice none 0 0) (.slice none 0 0), insV (insOf 17 0 1 0 0 0 [] [] 0) (.slice none 0 0) (.slice none 0 0)]) k3 ⟨keeps_bare rfl rfl, keeps_bare rfl rfl, keeps_bare rfl rfl, keeps_bare rfl rfl, keeps_bare rfl rfl, keeps_bare rfl rfl, trivial⟩ (by simp [partsC, maxLen])
  refine (alone_any hk (ints_nil _ _) hrow.code).mono ?_
  rintro e w4 ⟨b, rfl, hb, k4, hfn, s4⟩
  have HF := Lib.hid (fns_one k4 hfn)
  have HUN := Lib.hid (show UnitOk topV [aloneM [2, 1] [] (partsC n (size + 1) (at_ % 18446744073709551616))] from unitOk_of (by simp [topV]) (by simp) (by
    have e1 : decide (0 ≤ n) = true := decide_eq_true hn0
    have e2 : decide (n < 18446744073709551616) = true := decide_eq_true (by omega)
    have e3 : decide (0 ≤ at_ % 18446744073709551616) = true := decide_eq_true (by omega)
    have e4 : decide (at_ % 18446744073709551616 < 18446744073709551616) = true := decide_eq_true (by omega)
    have f1 : insOkB (insOf 9 0 0 0 n (size + 1) [] [] 0) = true := by
      show (true && decide (0 ≤ n) && decide (n < 18446744073709551616) && true && true && true && true) = true
      rw [e1, e2]; rfl
    have f2 : insOkB (insOf 1 1 0 0 (at_ % 18446744073709551616) 0 [] [] 0) = true := by
      show (true && decide (0 ≤ at_ % 18446744073709551616) && decide (at_ % 18446744073709551616 < 18446744073709551616) && true && true && true && true) = true
      rw [e3, e4]; rfl
    have f3 : (partsC n (size + 1) (at_ % 18446744073709551616)).all insOkB = true := by
      unfold partsC
      rw [List.all_cons, List.all_cons, List.all_cons, f1, f2]; rfl
    rw [List.all_cons, List.all_nil, Bool.and_true]
    unfold fnOkB
    rw [show (aloneM [2, 1] [] (partsC n (size + 1) (at_ % 18446744073709551616))).code = partsC n (size + 1) (at_ % 18446744073709551616) from rfl, f3]; rfl))
  have S4 := Lib.hid ((S1.out.then S3.out).then s4)
  clear k2 k3 s2 s3 hk hrow s4 hb k4 hfn hw2 hz2 S3
  have k5 := heap_alloc_new w4 (.cells #[.slice none 0 0, .slice (some ⟨b, 0, none⟩) 1 1] 25 (0, 0))
  have s5 := Step.alloc (fun _ => False) w4 (.cells #[.slice none 0 0, .slice (some ⟨b, 0, none⟩) 1 1] 25 (0, 0))
  go_upto_region 4 with fail
  generalize w4.alloc (.cells #[.slice none 0 0, .slice (some ⟨b, 0, none⟩) 1 1] 25 (0, 0)) = w5 at *
  have hBz := S4.out.size
  obtain ⟨B, hB⟩ : ∃ B, w4.heap.size = B := ⟨_, rfl⟩
  rw [hB] at k5 hBz ⊢
  obtain ⟨T, w6, e6, z6, k6, s6⟩ := made0 w5 (.cells #[.string ⟨#[118]⟩, .int .i64 100] 52 (0, 0))
  have hlt := lt_obj k5
  replace k5 := s6.keeps k5
  obtain ⟨u0, u1, z0, z1⟩ := cells_known2 k5
  go_upto_region 5 with fail
  have hset : (w6.setCell ⟨B, 0, none⟩ (.slice (some ⟨T, 0, none⟩) 1 1)).heap[B]? = some (.cells #[.slice (some ⟨T, 0, none⟩) 1 1, .slice (some ⟨b, 0, none⟩) 1 1] 25 (0, 0)) := by rw [set_known k5]; rfl
  have ktop := (set_other (w := w6) ⟨B, 0, none⟩ (.slice (some ⟨T, 0, none⟩) 1 1) (show T ≠ B by omega)).trans k6
  have s7 : Step (fun _ => False) w4 (w6.setCell ⟨B, 0, none⟩ (.slice (some ⟨T, 0, none⟩) 1 1)) := (s5.then s6).set (p := ⟨B, 0, none⟩) (.inr (by rw [hB]; exact Nat.le_refl _)) _
  clear k5 k6 s5 s6 u0 u1 z0 z1 hlt e6 z6
  generalize w6.setCell ⟨B, 0, none⟩ (.slice (some ⟨T, 0, none⟩) 1 1) = w7 at *
  have HFN := Lib.hid (fnsAt_step HF.out s7)
  have HTP := Lib.hid (tops_one ktop (by decide) (by decide))
  have S7 := Lib.hid (S4.out.then s7)
  have RUN := Lib.hid (Run_any (w := w7) (fuel := 20) HTP.out HFN.out (ints_nil .u8 w7) HUN.out (by omega))
  rw [show ([(⟨#[118]⟩, 100)] : List Tp) = topV from rfl, HPR.out] at RUN
  obtain ⟨u0, u1, _, _⟩ := cells_known2 hset
  have hwx : wrap64 (n + at_) = n + at_ := Go.IntWalk.wrap64_in _ ⟨by omega, by omega⟩
  clear hset ktop s7 HF HPR HUN HTP HFN hB hBz
  by_cases hg : 0 ≤ at_ ∧ at_ ≤ size ∧ n + at_ < 100
  · rw [if_neg (fun h => (HPI.out.1 h) hg)] at RUN
    have d0 : decide (0 ≤ at_) = true := decide_eq_true hg.1
    have d1 : decide (at_ ≤ size) = true := decide_eq_true hg.2.1
    have d2 : decide (n + at_ < 100) = true := decide_eq_true hg.2.2
    clear hg HPI
    go_wp2_with fail
    refine RUN.out.mono ?_
    rintro e w8 ⟨vo, rfl, hrow, s8⟩
    obtain ⟨oa, oc, rfl⟩ := hrow.slice
    have S8 := Lib.hid (S7.out.then s8)
    clear hrow s8 RUN u0 u1
    unfold resV
    have k9 := heap_alloc_new w8 (.cells #[.int .i64 1, .int .u8 0, .int .i64 0, .slice oa 0 oc, .int .i64 6, .int .i64 0] 31 (0, 0))
    have s9 := Step.alloc (fun _ => False) w8 (.cells #[.int .i64 1, .int .u8 0, .int .i64 0, .slice oa 0 oc, .int .i64 6, .int .i64 0] 31 (0, 0))
    go_upto_region 6 with fail
    generalize w8.alloc (.cells #[.int .i64 1, .int .u8 0, .int .i64 0, .slice oa 0 oc, .int .i64 6, .int .i64 0] 31 (0, 0)) = w9 at *
    have S9 := Lib.hid (S8.out.then s9)
    obtain ⟨c0, c1, c2, c3, c4, c5⟩ := cells_known6 k9
    clear k9 s9
    go_wp2_with fail
    go_ret
    exact ⟨rfl, S9.out.below (Nat.le_refl _) fun _ x => x.elim⟩
  · rw [if_pos (HPI.out.2 hg)] at RUN
    clear HPI
    cases d0 : decide (0 ≤ at_) with
    | false =>
      clear hg
      go_wp2_with fail
      refine RUN.out.mono ?_
      rintro e w8 ⟨vo, rfl, hrow, s8⟩
      obtain ⟨oa, oc, rfl⟩ := hrow.slice
      have S8 := Lib.hid (S7.out.then s8)
      clear hrow s8 RUN u0 u1
      unfold resV
      have k9 := heap_alloc_new w8 (.cells #[.int .i64 5, .int .u8 0, .int .i64 21, .slice oa 0 oc, .int .i64 5, .int .i64 0] 31 (0, 0))
      have s9 := Step.alloc (fun _ => False) w8 (.cells #[.int .i64 5, .int .u8 0, .int .i64 21, .slice oa 0 oc, .int .i64 5, .int .i64 0] 31 (0, 0))
      go_upto_region 6 with fail
      generalize w8.alloc (.cells #[.int .i64 5, .int .u8 0, .int .i64 21, .slice oa 0 oc, .int .i64 5, .int .i64 0] 31 (0, 0)) = w9 at *
      have S9 := Lib.hid (S8.out.then s9)
      obtain ⟨c0, c1, c2, c3, c4, c5⟩ := cells_known6 k9
      clear k9 s9
      go_wp2_with fail
      go_ret
      exact ⟨rfl, S9.out.below (Nat.le_refl _) fun _ x => x.elim⟩
    | true =>
      cases d1 : decide (at_ ≤ size) with
      | false =>
        clear hg
        go_wp2_with fail
        refine RUN.out.mono ?_
        rintro e w8 ⟨vo, rfl, hrow, s8⟩
        obtain ⟨oa, oc, rfl⟩ := hrow.slice
        have S8 := Lib.hid (S7.out.then s8)
        clear hrow s8 RUN u0 u1
        unfold resV
        have k9 := heap_alloc_new w8 (.cells #[.int .i64 5, .int .u8 0, .int .i64 21, .slice oa 0 oc, .int .i64 5, .int .i64 0] 31 (0, 0))
        have s9 := Step.alloc (fun _ => False) w8 (.cells #[.int .i64 5, .int .u8 0, .int .i64 21, .slice oa 0 oc, .int .i64 5, .int .i64 0] 31 (0, 0))
        go_upto_region 6 with fail
        generalize w8.alloc (.cells #[.int .i64 5, .int .u8 0, .int .i64 21, .slice oa 0 oc, .int .i64 5, .int .i64 0] 31 (0, 0)) = w9 at *
        have S9 := Lib.hid (S8.out.then s9)
        obtain ⟨c0, c1, c2, c3, c4, c5⟩ := cells_known6 k9
        clear k9 s9
        go_wp2_with fail
        go_ret
        exact ⟨rfl, S9.out.below (Nat.le_refl _) fun _ x => x.elim⟩
      | true =>
        have d2 : decide (n + at_ < 100) = false := decide_eq_false fun h => hg ⟨of_decide_eq_true d0, of_decide_eq_true d1, h⟩
        clear hg
        go_wp2_with fail
        refine RUN.out.mono ?_
        rintro e w8 ⟨vo, rfl, hrow, s8⟩
        obtain ⟨oa, oc, rfl⟩ := hrow.slice
        have S8 := Lib.hid (S7.out.then s8)
        clear hrow s8 RUN u0 u1
        unfold resV
        have k9 := heap_alloc_new w8 (.cells #[.int .i64 5, .int .u8 0, .int .i64 21, .slice oa 0 oc, .int .i64 5, .int .i64 0] 31 (0, 0))
        have s9 := Step.alloc (fun _ => False) w8 (.cells #[.int .i64 5, .int .u8 0, .int .i64 21, .slice oa 0 oc, .int .i64 5, .int .i64 0] 31 (0, 0))
        go_upto_region 6 with fail
        generalize w8.alloc (.cells #[.int .i64 5, .int .u8 0, .int .i64 21, .slice oa 0 oc, .int .i64 5, .int .i64 0] 31 (0, 0)) = w9 at *
        have S9 := Lib.hid (S8.out.then s9)
        obtain ⟨c0, c1, c2, c3, c4, c5⟩ := cells_known6 k9
        clear k9 s9
        go_wp2_with fail
        go_ret
        exact ⟨rfl, S9.out.below (Nat.le_refl _) fun _ x => x.elim⟩

/-! ### The row. -/

set_option maxRecDepth 100000 in
theorem lifted (os : Os) (started : os.Started) (H : Type) (enc : TypeId × Value → H) :
    ReturnsInHanded {} Try.checked os 8 .any (Rows.midPartsSpec.pre6 enc Try.prog Try.f8 Rows.midPartsRow.domain false) (Rows.midPartsSpec.post enc Try.prog Try.f8 false true false false) := by
  refine returnsInHanded_of_change (C := Try.checked) own started (by kernel_rfl) Try.func8
    (ChangeSpec.witness6 (enc := enc) (C := Try.checked) false ⟨#[], #[.int .u8 0, .int .u8 0, .int .i8 0], []⟩ 8 (by kernel_rfl) (by kernel_rfl) (by kernel_rfl) (by kernel_rfl)) ?_
  intro W base args ds gs before hval0 hW hcnd _
  have hval : ∀ (j : Nat) t v, Try.f8.params[j]? = some t → args[j]? = some v → Value.okWide Try.prog W .any base t v := hval0
  have hW' := hW
  obtain ⟨p, q, hA0, hV, rfl, hfz, hnd⟩ := hW
  have hA : DataW.TrodAll enc Try.prog W 0 (fun _ => true) true Try.f8.params.toList args.toList ds p := hA0
  rw [Try.params8] at hA hval
  obtain ⟨v0, vs0, d0, ds0, p0, q0, hargs, rfl, rfl, h0, r0⟩ := trodAll_cons hA
  obtain ⟨v1, vs1, d1, ds1, p1, q1, rfl, rfl, rfl, h1, r1⟩ := trodAll_cons r0
  obtain ⟨v2, vs2, d2, ds2, p2, q2, rfl, rfl, rfl, h2, r2⟩ := trodAll_cons r1
  obtain ⟨rfl, rfl, rfl⟩ := trodAll_nil r2
  obtain rfl : args = #[v0, v1, v2] := by cases args; simp_all
  obtain ⟨rfl, rfl⟩ := trodVars_none hV
  obtain ⟨x0, rfl, rfl, rfl, w0⟩ := open_int Try.underlying5 (hval 0 5 v0 rfl rfl) h0
  obtain ⟨x1, rfl, rfl, rfl, w1⟩ := open_int Try.underlying5 (hval 1 5 v1 rfl rfl) h1
  obtain ⟨x2, rfl, rfl, rfl, w2⟩ := open_int Try.underlying50 (hval 2 50 v2 rfl rfl) h2
  clear hA0 hval0
  simp only [List.append_nil] at hW'
  refine (walk x0 x1 x2 (wfu8 w0) (wfu8 w1) (wfi8 w2) W).mono fun e W' ⟨he, hb⟩ => ?_
  subst he
  exact ⟨_, rfl, law_post laidOut (by kernel_rfl) rfl rfl rfl Try.underlying4 hW' hb⟩

theorem over : Rows.midPartsRow.holds Try.pinned (OpenSpec.ofChange Rows.midPartsSpec) :=
  OpenClaim.holds_of_wide 8 Try.f8 rfl rfl rfl rfl rfl rfl rfl ⟨rfl, rfl, rfl, rfl, rfl⟩ rfl rfl rfl rfl rfl (by kernel_rfl) Try.func8 (by kernel_rfl)
    (of_decide_eq_true (by kernel_rfl)) (by unfold Func.isWrapper; first | (rw [if_pos (by decide +kernel)]; kernel_rfl) | (rw [if_neg (by decide +kernel)]; exact ⟨rfl, rfl⟩))
    (fun os started H enc _ => lifted os started H enc)

/-- The statement. -/
theorem proved : Rows.MidPartsSaid :=
  over
#print axioms proved
end Go.Proofs.Ytojfgdoniajmeaa.midParts
