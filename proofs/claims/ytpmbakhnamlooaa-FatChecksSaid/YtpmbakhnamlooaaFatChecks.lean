/- FatChecks returns true for every five numbers of 64 bits and every size, without conditions. -/
import Derived.Test.YtpmbakhnamlooaaRows
import Derived.Lib.SmallJoins
import Derived.Test.YtpmbakhnamlooaaPureA
import Derived.Test.YtpmbakhnamlooaaLibF
import Derived.Test.YtpmbakhnamlooaaLibK
namespace Go.Proofs.Ytpmbakhnamlooaa.fatChecks
open Go.ChangeShapes Go.WideShapes Go.ChangeAt Go.RowKit Go.Joins
set_option linter.unusedVariables false

theorem own : ownKnob Try.prog.godebug = none := by kernel_rfl

theorem laidOut : laidOutB Try.prog = true := by kernel_rfl
theorem size_ok (size : Int) : 1 ≤ wrap64 (wrap64 ((IntKind.u64.wrap size).tmod 4194304) + 1) ∧ wrap64 (wrap64 ((IntKind.u64.wrap size).tmod 4194304) + 1) ≤ 4194304 := by
  rw [IntKind.wrap_u64]
  have h0 : 0 ≤ size % 18446744073709551616 := Int.emod_nonneg _ (by omega)
  rw [Int.tmod_eq_emod_of_nonneg h0]
  rw [Go.IntWalk.wrap64_in (size % 18446744073709551616 % 4194304) ⟨by omega, by omega⟩, Go.IntWalk.wrap64_in _ ⟨by omega, by omega⟩]
  omega
theorem checks_ok {v0 v1 v2 v3 v4 n : Int} (hv : ∀ z ∈ [v0, v1, v2, v3, v4], (Lit.int .u64 z).wf = true) : (checksC v0 v1 v2 v3 v4 n).all insOkB = true := by
  rw [List.all_eq_true]
  intro i hi
  have h := fun z hz => wfu64 (hv z hz)
  simp only [checksC, constsC, List.cons_append, List.nil_append, List.mem_cons, List.not_mem_nil, or_false] at hi
  have hc : ∀ (d z : Int), z ∈ [v0, v1, v2, v3, v4] → insOkB (insOf 1 d 0 0 z 0 [] [] 0) = true := fun d z hz => by
    have h1 := h z hz
    have e1 : decide (0 ≤ z) = true := decide_eq_true h1.1
    have e2 : decide (z < 18446744073709551616) = true := decide_eq_true (by omega)
    show (true && decide (0 ≤ z) && decide (z < 18446744073709551616) && true && true && true && true) = true
    rw [e1, e2]; rfl
  rcases hi with rfl | rfl | rfl | rfl | rfl | rfl | rfl
  · exact hc _ _ (by simp)
  · exact hc _ _ (by simp)
  · exact hc _ _ (by simp)
  · exact hc _ _ (by simp)
  · exact hc _ _ (by simp)
  · rfl
  · rfl
theorem check_is {v0 v1 v2 v3 v4 n : Int} (hv : ∀ z ∈ [v0, v1, v2, v3, v4], (Lit.int .u64 z).wf = true) : checkF [1] [v0, v1, v2, v3, v4] n = ((v4 == 0) && (v3 == 1) && decide (v1 ≤ v0) && decide (v0 ≤ v2) && decide (n ≤ v2 - v0)) := by
  have h4 := wfu64 (hv v4 (by simp))
  unfold checkF heldF
  simp only [List.getD_cons_zero, List.getD_cons_succ, List.length_cons, List.length_nil]
  by_cases e4 : v4 = 0
  · subst e4
    by_cases e3 : v3 = 1
    · subst e3; simp
    · have : (v3 == 1) = false := beq_false_of_ne e3
      have h2 : ((1 : Int) == v3) = false := beq_false_of_ne fun h => e3 h.symm
      simp [this, h2]
  · have : (v4 == 0) = false := beq_false_of_ne e4
    have h2 : decide (v4 < ((0 + 1 : Nat) : Int)) = false := decide_eq_false (by omega)
    rw [this, h2]; simp
set_option maxHeartbeats 4000000 in
set_option maxRecDepth 100000 in
theorem walk (v0 v1 v2 v3 v4 size : Int) (hv : ∀ z ∈ [v0, v1, v2, v3, v4], (Lit.int .u64 z).wf = true) (w : World) : Calls Try.prog 6 #[.agg #[.int .u64 v0, .int .u64 v1, .int .u64 v2, .int .u64 v3, .int .u64 v4], .int .i64 size] w fun e w' => e = .returned (.bool true) ∧ Below w.heap.size w w' := by
  have k1 := heap_alloc_new w (.cells #[.int .u64 v0, .int .u64 v1, .int .u64 v2, .int .u64 v3, .int .u64 v4] 39 (0, 0))
  have s1 := Step.alloc (fun _ => False) w (.cells #[.int .u64 v0, .int .u64 v1, .int .u64 v2, .int .u64 v3, .int .u64 v4] 39 (0, 0))
  go_enter Try.func6, Try.ntmps6
  go_wp2_with fail
  generalize w.alloc (.cells #[.int .u64 v0, .int .u64 v1, .int .u64 v2, .int .u64 v3, .int .u64 v4] 39 (0, 0)) = w1 at *
  generalize hB : w.heap.size = B at *
  refine (awake_any w1).mono ?_
  rintro e w2 ⟨rfl, s2⟩
  have K2 := Lib.hid (s2.keeps k1)
  have S2 := Lib.hid (s1.then s2)
  have HV := Lib.hid hv
  clear k1 s1 s2 hv
  have VS := Lib.hid (ints_keep (F := fun _ => False) (q := .u64) (zs := [v0, v1, v2, v3, v4]) K2.out rfl (fun x => x) rfl (by simp [maxLen]) HV.out)
  obtain ⟨i0, hi, hz0, hz1, hz2⟩ := info_parts ins_info
  go_wp2_with fail
  have hn := size_ok size
  generalize wrap64 (wrap64 ((IntKind.u64.wrap size).tmod 4194304) + 1) = n at *
  refine (consts_any (VS.out w2 (Step.refl _ _)) (by simp)).mono ?_
  rintro e w3 ⟨vo, F0, rfl, hcr, hF0, s3⟩
  obtain ⟨F, ⟨vis, hrow, hkeep⟩, hFF, hFl⟩ := hcr.narrow
  have hF : ∀ b, F b → w2.heap.size ≤ b := fun b hb => hF0 b (hFF b hb)
  have HFL := Lib.hid hFl
  clear hcr hF0 hFF hFl
  obtain ⟨op, oc, rfl⟩ := hrow.slice
  obtain ⟨xs, hxs⟩ : ∃ xs, xs = vis.flatMap fun v => v.cells.toList := ⟨_, rfl⟩
  have HXS := Lib.hid hxs
  rw [← hxs] at hrow
  have ROW := Lib.hid (show RowAt w3 F 47 10 (.slice op 5 oc) 5 xs from hrow)
  have KEEP := Lib.hid hkeep
  have HF := Lib.hid hF
  have K3 := Lib.hid (s3.keeps K2.out)
  have S3 := Lib.hid (S2.out.then s3)
  have HN := Lib.hid hn
  have HFS := Lib.hid (show ¬ F w3.heap.size from fun h => Nat.lt_irrefl _ (HFL.out _ h))
  clear hrow hkeep hF s3 hn hxs
  have k4 := heap_alloc_new w3 (.cells #[.int .i64 0, .int .i64 1, .int .i64 2, .int .i64 3, .int .i64 4] 3 (0, 0))
  have s4 := Step.alloc (fun _ => False) w3 (.cells #[.int .i64 0, .int .i64 1, .int .i64 2, .int .i64 3, .int .i64 4] 3 (0, 0))
  have k5 := heap_alloc_new (w3.alloc (.cells #[.int .i64 0, .int .i64 1, .int .i64 2, .int .i64 3, .int .i64 4] 3 (0, 0))) (.cells #[.int .i64 34, .int .i64 0, .int .i64 0, .int .i64 0, .int .u64 0, .int .i64 n, .string ⟨#[]⟩, .slice (some ⟨w3.heap.size, 0, none⟩) 5 5, .slice none 0 0, .int .i64 0, .int .i64 43, .int .i64 0, .int .i64 0, .int .i64 0, .int .u64 0, .int .i64 0, .string ⟨#[]⟩, .slice none 0 0, .slice none 0 0, .int .i64 0] 47 (0, 0))
  have s5 := s4.then (Step.alloc (fun _ => False) (w3.alloc (.cells #[.int .i64 0, .int .i64 1, .int .i64 2, .int .i64 3, .int .i64 4] 3 (0, 0))) (.cells #[.int .i64 34, .int .i64 0, .int .i64 0, .int .i64 0, .int .u64 0, .int .i64 n, .string ⟨#[]⟩, .slice (some ⟨w3.heap.size, 0, none⟩) 5 5, .slice none 0 0, .int .i64 0, .int .i64 43, .int .i64 0, .int .i64 0, .int .i64 0, .int .u64 0, .int .i64 0, .string ⟨#[]⟩, .slice none 0 0, .slice none 0 0, .int .i64 0] 47 (0, 0)))
  replace k4 := (Step.alloc (fun _ => False) (w3.alloc (.cells #[.int .i64 0, .int .i64 1, .int .i64 2, .int .i64 3, .int .i64 4] 3 (0, 0))) (.cells #[.int .i64 34, .int .i64 0, .int .i64 0, .int .i64 0, .int .u64 0, .int .i64 n, .string ⟨#[]⟩, .slice (some ⟨w3.heap.size, 0, none⟩) 5 5, .slice none 0 0, .int .i64 0, .int .i64 43, .int .i64 0, .int .i64 0, .int .i64 0, .int .u64 0, .int .i64 0, .string ⟨#[]⟩, .slice none 0 0, .slice none 0 0, .int .i64 0] 47 (0, 0))).keeps k4
  rw [show (w3.alloc (.cells #[.int .i64 0, .int .i64 1, .int .i64 2, .int .i64 3, .int .i64 4] 3 (0, 0))).heap.size = w3.heap.size + 1 by simp] at k5
  have hsz5 : ((w3.alloc (.cells #[.int .i64 0, .int .i64 1, .int .i64 2, .int .i64 3, .int .i64 4] 3 (0, 0))).alloc (.cells #[.int .i64 34, .int .i64 0, .int .i64 0, .int .i64 0, .int .u64 0, .int .i64 n, .string ⟨#[]⟩, .slice (some ⟨w3.heap.size, 0, none⟩) 5 5, .slice none 0 0, .int .i64 0, .int .i64 43, .int .i64 0, .int .i64 0, .int .i64 0, .int .u64 0, .int .i64 0, .string ⟨#[]⟩, .slice none 0 0, .slice none 0 0, .int .i64 0] 47 (0, 0))).heap.size = w3.heap.size + 2 := by simp
  have K4 := Lib.hid k4
  have S5 := Lib.hid s5
  have HSZ5 := Lib.hid hsz5
  clear k4 k5 s4 s5 hsz5
  go_wp2_with (first | (at_builtin; refine wpList_append_row rfl (.tmp 16) (.tmp 21) 42 rfl F 47 i0 _ 10 120 Try.underlying42 hi hz0 hz1 hz2 rfl _ _ _ rfl ((ROW.out.al _).al _) ⟨w3.heap.size + 1, 0, none⟩ 2 2 [.int .i64 34, .int .i64 0, .int .i64 0, .int .i64 0, .int .u64 0, .int .i64 n, .string ⟨#[]⟩, .slice (some ⟨w3.heap.size, 0, none⟩) 5 5, .slice none 0 0, .int .i64 0, .int .i64 43, .int .i64 0, .int .i64 0, .int .i64 0, .int .u64 0, .int .i64 0, .string ⟨#[]⟩, .slice none 0 0, .slice none 0 0, .int .i64 0] rfl (by omega) rfl ?c1 ?c2 ?c3 ?c4 ?_))
  case c1 => exact new_cells (by simp) [_, _, _, _, _, _, _, _, _, _, _, _, _, _, _, _, _, _, _, _] _
  case c2 => exact fun u hu => by simp only [List.mem_cons, List.not_mem_nil, or_false] at hu; rcases hu with rfl | rfl | rfl | rfl | rfl | rfl | rfl | rfl | rfl | rfl | rfl | rfl | rfl | rfl | rfl | rfl | rfl | rfl | rfl | rfl <;> rfl
  case c3 => simp [maxLen]
  case c4 => omega
  intro g6 cap6 w6 hrow6 hst6 hz6
  have hkp := ints_keep (F := F) (q := .i64) (zs := [0, 1, 2, 3, 4]) K4.out rfl HFS.out rfl (by simp [maxLen]) (by decide)
  have hcr := CodeRow.app (code := constsC 0 [v0, v1, v2, v3, v4]) (nvis := [insV (insOf 34 0 0 0 0 n [0, 1, 2, 3, 4] [] 0) (.slice (some ⟨w3.heap.size, 0, none⟩) 5 5) (.slice none 0 0), insV (insOf 43 0 0 0 0 0 [] [] 0) (.slice none 0 0) (.slice none 0 0)]) (ncode := [insOf 34 0 0 0 0 n [0, 1, 2, 3, 4] [] 0, insOf 43 0 0 0 0 0 [] [] 0]) (KEEP.out.go (S5.out.mono fun _ _ x => x.elim) fun b hb => .inl hb) ⟨fun y hy => ⟨_, _, rfl, hkp y hy, ints_nil _ _⟩, keeps_bare rfl rfl, trivial⟩ hst6 (by rw [HSZ5.out, ← HXS.out]; exact hrow6)
  have CODE := Lib.hid (show CodeAt w6 _ (checksC v0 v1 v2 v3 v4 n) from hcr.code)
  have S6 := Lib.hid ((S3.out.then S5.out).trans hst6 fun b hb => .inr (by have := HF.out b hb; have := S2.out.size; omega))
  have K6 := Lib.hid ((hst6.block _ (Nat.lt_of_lt_of_le (lt_obj K3.out) S5.out.size) (fun h => by have h1 := HF.out _ h; have h2 := lt_obj K2.out; omega)).trans (S5.out.keeps K3.out))
  clear hcr hkp hrow6 hst6 hz6
  go_wp2_with fail
  refine (alone_any (regs := 5) (sl := []) (by omega) (ints_nil _ _) CODE.out).mono ?_
  rintro e w7 ⟨vt, vf, rfl, htops, hfns, s7⟩
  have hn := HN.out
  have RUN := Lib.hid (Run_any (w := w7) (fuel := 20) htops hfns (ints_nil .u8 w7) (unitOk_alone (by omega) (by simp) (by simp [checksC, constsC]) (checks_ok HV.out)) (by omega))
  rw [checks_run hn.1 hn.2] at RUN
  have S7 := Lib.hid (S6.out.then s7)
  have K7 := Lib.hid (s7.keeps K6.out)
  have HCK := Lib.hid (check_is (n := n) HV.out)
  have hu0 := wfu64 (HV.out v0 (by simp))
  have hu2 := wfu64 (HV.out v2 (by simp))
  clear s7 htops hfns CODE
  cases hb0 : (v4 == 0) with
  | false =>
    rw [show checkF [1] [v0, v1, v2, v3, v4] n = false from by rw [HCK.out, hb0]; rfl] at RUN
    replace RUN := Lib.hid (show Calls Try.prog _ _ _ (RunPost w7 ⟨2, 0, [], 6, 1⟩) from RUN.out)
    go_wp2_with fail
    refine RUN.out.mono ?_
    rintro e w8 ⟨vo, rfl, hrow, s8⟩
    obtain ⟨oa, oc, rfl⟩ := hrow.slice
    have S8 := Lib.hid ((S7.out.then s8).then (Step.alloc (fun _ => False) w8 (.cells #[.int .i64 2, .int .u8 0, .int .i64 0, .slice oa 0 oc, .int .i64 6, .int .i64 1] 31 (0, 0))))
    obtain ⟨c0, c1, c2, c3, c4, _⟩ := cells_known5 (s8.keeps K7.out)
    have hlt := lt_obj (s8.keeps K7.out)
    clear hrow s8
    unfold resV
    go_wp2_with fail
    go_ret
    exact ⟨rfl, S8.out.below (by omega) fun _ x => x.elim⟩
  | true =>
    cases hb1 : (v3 == 1) with
    | false =>
      rw [show checkF [1] [v0, v1, v2, v3, v4] n = false from by rw [HCK.out, hb0, hb1]; rfl] at RUN
      replace RUN := Lib.hid (show Calls Try.prog _ _ _ (RunPost w7 ⟨2, 0, [], 6, 1⟩) from RUN.out)
      go_wp2_with fail
      refine RUN.out.mono ?_
      rintro e w8 ⟨vo, rfl, hrow, s8⟩
      obtain ⟨oa, oc, rfl⟩ := hrow.slice
      have S8 := Lib.hid ((S7.out.then s8).then (Step.alloc (fun _ => False) w8 (.cells #[.int .i64 2, .int .u8 0, .int .i64 0, .slice oa 0 oc, .int .i64 6, .int .i64 1] 31 (0, 0))))
      obtain ⟨c0, c1, c2, c3, c4, _⟩ := cells_known5 (s8.keeps K7.out)
      have hlt := lt_obj (s8.keeps K7.out)
      clear hrow s8
      unfold resV
      go_wp2_with fail
      go_ret
      exact ⟨rfl, S8.out.below (by omega) fun _ x => x.elim⟩
    | true =>
      cases hb2 : decide (v1 ≤ v0) with
      | false =>
        rw [show checkF [1] [v0, v1, v2, v3, v4] n = false from by rw [HCK.out, hb0, hb1, hb2]; rfl] at RUN
        replace RUN := Lib.hid (show Calls Try.prog _ _ _ (RunPost w7 ⟨2, 0, [], 6, 1⟩) from RUN.out)
        go_wp2_with fail
        refine RUN.out.mono ?_
        rintro e w8 ⟨vo, rfl, hrow, s8⟩
        obtain ⟨oa, oc, rfl⟩ := hrow.slice
        have S8 := Lib.hid ((S7.out.then s8).then (Step.alloc (fun _ => False) w8 (.cells #[.int .i64 2, .int .u8 0, .int .i64 0, .slice oa 0 oc, .int .i64 6, .int .i64 1] 31 (0, 0))))
        obtain ⟨c0, c1, c2, c3, c4, _⟩ := cells_known5 (s8.keeps K7.out)
        have hlt := lt_obj (s8.keeps K7.out)
        clear hrow s8
        unfold resV
        go_wp2_with fail
        go_ret
        exact ⟨rfl, S8.out.below (by omega) fun _ x => x.elim⟩
      | true =>
        cases hb3 : decide (v0 ≤ v2) with
        | false =>
          rw [show checkF [1] [v0, v1, v2, v3, v4] n = false from by rw [HCK.out, hb0, hb1, hb2, hb3]; rfl] at RUN
          replace RUN := Lib.hid (show Calls Try.prog _ _ _ (RunPost w7 ⟨2, 0, [], 6, 1⟩) from RUN.out)
          go_wp2_with fail
          refine RUN.out.mono ?_
          rintro e w8 ⟨vo, rfl, hrow, s8⟩
          obtain ⟨oa, oc, rfl⟩ := hrow.slice
          have S8 := Lib.hid ((S7.out.then s8).then (Step.alloc (fun _ => False) w8 (.cells #[.int .i64 2, .int .u8 0, .int .i64 0, .slice oa 0 oc, .int .i64 6, .int .i64 1] 31 (0, 0))))
          obtain ⟨c0, c1, c2, c3, c4, _⟩ := cells_known5 (s8.keeps K7.out)
          have hlt := lt_obj (s8.keeps K7.out)
          clear hrow s8
          unfold resV
          go_wp2_with fail
          go_ret
          exact ⟨rfl, S8.out.below (by omega) fun _ x => x.elim⟩
        | true =>
          have hle := of_decide_eq_true hb3
          have hw2 : IntKind.u64.wrap (v2 - v0) = v2 - v0 := by rw [IntKind.wrap_u64]; omega
          cases hb4 : decide (n ≤ v2 - v0) with
          | false =>
            rw [show checkF [1] [v0, v1, v2, v3, v4] n = false from by rw [HCK.out, hb0, hb1, hb2, hb3, hb4]; rfl] at RUN
            replace RUN := Lib.hid (show Calls Try.prog _ _ _ (RunPost w7 ⟨2, 0, [], 6, 1⟩) from RUN.out)
            go_wp2_with fail
            refine RUN.out.mono ?_
            rintro e w8 ⟨vo, rfl, hrow, s8⟩
            obtain ⟨oa, oc, rfl⟩ := hrow.slice
            have S8 := Lib.hid ((S7.out.then s8).then (Step.alloc (fun _ => False) w8 (.cells #[.int .i64 2, .int .u8 0, .int .i64 0, .slice oa 0 oc, .int .i64 6, .int .i64 1] 31 (0, 0))))
            obtain ⟨c0, c1, c2, c3, c4, _⟩ := cells_known5 (s8.keeps K7.out)
            have hlt := lt_obj (s8.keeps K7.out)
            clear hrow s8
            unfold resV
            go_wp2_with fail
            go_ret
            exact ⟨rfl, S8.out.below (by omega) fun _ x => x.elim⟩
          | true =>
            rw [show checkF [1] [v0, v1, v2, v3, v4] n = true from by rw [HCK.out, hb0, hb1, hb2, hb3, hb4]; rfl] at RUN
            replace RUN := Lib.hid (show Calls Try.prog _ _ _ (RunPost w7 ⟨1, 0, [], 7, 1⟩) from RUN.out)
            go_wp2_with fail
            refine RUN.out.mono ?_
            rintro e w8 ⟨vo, rfl, hrow, s8⟩
            obtain ⟨oa, oc, rfl⟩ := hrow.slice
            have S8 := Lib.hid ((S7.out.then s8).then (Step.alloc (fun _ => False) w8 (.cells #[.int .i64 1, .int .u8 0, .int .i64 0, .slice oa 0 oc, .int .i64 7, .int .i64 1] 31 (0, 0))))
            obtain ⟨c0, c1, c2, c3, c4, _⟩ := cells_known5 (s8.keeps K7.out)
            have hlt := lt_obj (s8.keeps K7.out)
            clear hrow s8
            unfold resV
            go_wp2_with fail
            go_ret
            exact ⟨rfl, S8.out.below (by omega) fun _ x => x.elim⟩

/-! ### The row. -/

set_option maxRecDepth 100000 in
theorem lifted (os : Os) (started : os.Started) (H : Type) (enc : TypeId × Value → H) :
    ReturnsInHanded {} Try.checked os 6 .any (Rows.fatChecksSpec.pre6 enc Try.prog Try.f6 Rows.fatChecksRow.domain false) (Rows.fatChecksSpec.post enc Try.prog Try.f6 false true false false) := by
  refine returnsInHanded_of_change (C := Try.checked) own started (by kernel_rfl) Try.func6
    (ChangeSpec.witness6 (enc := enc) (C := Try.checked) false ⟨#[], #[.agg #[.int .u64 0, .int .u64 0, .int .u64 0, .int .u64 0, .int .u64 0], .int .i64 0], []⟩ 8 (by kernel_rfl) (by kernel_rfl) (by kernel_rfl) (by kernel_rfl)) ?_
  intro W base args ds gs before hval0 hW hcnd _
  have hval : ∀ (j : Nat) t v, Try.f6.params[j]? = some t → args[j]? = some v → Value.okWide Try.prog W .any base t v := hval0
  have hW' := hW
  obtain ⟨p, q, hA0, hV, rfl, hfz, hnd⟩ := hW
  have hA : DataW.TrodAll enc Try.prog W 0 (fun _ => true) true Try.f6.params.toList args.toList ds p := hA0
  rw [Try.params6] at hA hval
  obtain ⟨v0, vs0, d0, ds0, p0, q0, hargs, rfl, rfl, h0, r0⟩ := trodAll_cons hA
  obtain ⟨v1, vs1, d1, ds1, p1, q1, rfl, rfl, rfl, h1, r1⟩ := trodAll_cons r0
  obtain ⟨rfl, rfl, rfl⟩ := trodAll_nil r1
  obtain rfl : args = #[v0, v1] := by cases args; simp_all
  obtain ⟨rfl, rfl⟩ := trodVars_none hV
  obtain ⟨xs, hxs, rfl, rfl, rfl, wxs⟩ := open_int_arr Try.underlying39 Try.underlying38 (by kernel_rfl) (by kernel_rfl) (hval 0 39 v0 rfl rfl) h0
  obtain ⟨z0, z1, z2, z3, z4, rfl⟩ := five_of xs hxs
  obtain ⟨a1, rfl, rfl, rfl, w1⟩ := open_int Try.underlying3 (hval 1 3 v1 rfl rfl) h1
  clear hA0 hval0
  simp only [List.append_nil] at hW'
  refine (walk z0 z1 z2 z3 z4 a1 wxs W).mono fun e W' ⟨he, hb⟩ => ?_
  subst he
  exact ⟨_, rfl, law_post laidOut (by kernel_rfl) rfl rfl rfl Try.underlying4 hW' hb⟩

theorem over : Rows.fatChecksRow.holds Try.pinned (OpenSpec.ofChange Rows.fatChecksSpec) :=
  OpenClaim.holds_of_wide 6 Try.f6 rfl rfl rfl rfl rfl rfl rfl ⟨rfl, rfl, rfl, rfl, rfl⟩ rfl rfl rfl rfl rfl (by kernel_rfl) Try.func6 (by kernel_rfl)
    (of_decide_eq_true (by kernel_rfl)) (by unfold Func.isWrapper; first | (rw [if_pos (by decide +kernel)]; kernel_rfl) | (rw [if_neg (by decide +kernel)]; exact ⟨rfl, rfl⟩))
    (fun os started H enc _ => lifted os started H enc)

/-- The statement. -/
theorem proved : Rows.FatChecksSaid :=
  over
#print axioms proved
end Go.Proofs.Ytpmbakhnamlooaa.fatChecks
