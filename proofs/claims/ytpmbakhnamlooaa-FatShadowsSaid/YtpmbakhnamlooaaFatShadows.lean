/- FatShadows returns true for every offset, every four numbers of 64 bits, cleared or not, without conditions. -/
import Derived.Test.YtpmbakhnamlooaaRows
import Derived.Lib.SmallJoins
import Derived.Test.YtpmbakhnamlooaaPureB
import Derived.Test.YtpmbakhnamlooaaLawD
import Derived.Test.YtpmbakhnamlooaaLibF
import Derived.Test.YtpmbakhnamlooaaLibK
namespace Go.Proofs.Ytpmbakhnamlooaa.fatShadows
open Go.ChangeShapes Go.WideShapes Go.ChangeAt Go.RowKit Go.Joins
set_option linter.unusedVariables false
set_option linter.unusedSimpArgs false

theorem own : ownKnob Try.prog.godebug = none := by kernel_rfl

theorem laidOut : laidOutB Try.prog = true := by kernel_rfl
def xorCs (k : Nat) : List FIns := (List.range k).flatMap xorC
def sltCs (k : Nat) : List FIns := (List.range k).flatMap sltC
theorem xorCs_succ (k : Nat) : xorCs (k + 1) = xorCs k ++ xorC k := by unfold xorCs; rw [List.range_succ, List.flatMap_append]; simp
theorem sltCs_succ (k : Nat) : sltCs (k + 1) = sltCs k ++ sltC k := by unfold sltCs; rw [List.range_succ, List.flatMap_append]; simp
theorem xorCs_len : ∀ k : Nat, (xorCs k).length = 3 * k
  | 0 => rfl
  | k + 1 => by rw [xorCs_succ, List.length_append, xorCs_len k]; simp [xorC]; omega
theorem sltCs_len : ∀ k : Nat, (sltCs k).length = 2 * k
  | 0 => rfl
  | k + 1 => by rw [sltCs_succ, List.length_append, sltCs_len k]; simp [sltC]; omega
theorem shadows_ok {off v0 v1 v2 v3 : Int} {clear : Bool} (ho : is64 off) (h0 : is64 v0) (h1 : is64 v1) (h2 : is64 v2) (h3 : is64 v3) : (shadowsC off v0 v1 v2 v3 clear).all insOkB = true := by
  have hc : ∀ (d z : Int), is64 z → insOkB (insOf 1 d 0 0 z 0 [] [] 0) = true := fun d z h => by
    have e1 : decide (0 ≤ z) = true := decide_eq_true h.1
    have e2 : decide (z < 18446744073709551616) = true := decide_eq_true h.2
    show (true && decide (0 ≤ z) && decide (z < 18446744073709551616) && true && true && true && true) = true
    rw [e1, e2]; rfl
  have hk : (constsC 0 [off, v0, v1, v2, v3]).all insOkB = true := by
    simp only [constsC, List.all_cons, List.all_nil, hc _ _ ho, hc _ _ h0, hc _ _ h1, hc _ _ h2, hc _ _ h3]; rfl
  unfold shadowsC
  simp only [List.all_append, hk]
  cases clear <;> decide
theorem code_len {off v0 v1 v2 v3 : Int} {clear : Bool} : (constsC 0 [off, v0, v1, v2, v3] ++ headC ++ (if clear then [insOf 39 0 0 0 0 0 [] [] 0] else []) ++ [insOf 37 0 5 0 0 0 [] [6, 7, 8, 9] 0]).length = if clear then 10 else 9 := by cases clear <;> rfl
/-- behind FWrite and FClear -/
def topC (off v0 v1 v2 v3 : Int) (clear : Bool) : List FIns := constsC 0 [off, v0, v1, v2, v3] ++ headC ++ (if clear then [insOf 39 0 0 0 0 0 [] [] 0] else [])
theorem topC_len {off v0 v1 v2 v3 : Int} {clear : Bool} : (topC off v0 v1 v2 v3 clear).length = if clear then 9 else 8 := by cases clear <;> rfl
theorem all_there {off v0 v1 v2 v3 : Int} {clear : Bool} : topC off v0 v1 v2 v3 clear ++ [insOf 37 0 5 0 0 0 [] [6, 7, 8, 9] 0] ++ xorCs 4 ++ midC ++ sltCs 4 ++ [insOf 43 0 0 0 0 0 [] [] 0] = shadowsC off v0 v1 v2 v3 clear := rfl
/-- what is expected of the k-th byte -/
def wantB (vs : List Int) (clear : Bool) (k : Nat) : Bool := decide (k < 4) && clear && (vs.getD k 0 != 0)
theorem out_at {v0 v1 v2 v3 : Int} {clear : Bool} (h : ∀ z ∈ [v0, v1, v2, v3], 0 ≤ z) : ∀ k, k < 8 → ∃ c : Int, [shO v0 clear, shO v1 clear, shO v2 clear, shO v3 clear, 0, 0, 0, 0][k]? = some c ∧ (c == 1) = wantB [v0, v1, v2, v3] clear k := by
  have one : ∀ v : Int, 0 ≤ v → (shO v clear == 1) = (clear && (v != 0)) := fun v hv => by
    unfold shO ne0
    cases clear with
    | false => rfl
    | true =>
      by_cases e : v = 0
      · subst e; rfl
      · have h1 : (v != 0) = true := by simpa using e
        rw [if_pos rfl, if_pos (by omega), h1]; rfl
  intro k hk
  rcases (by omega : k = 0 ∨ k = 1 ∨ k = 2 ∨ k = 3 ∨ k = 4 ∨ k = 5 ∨ k = 6 ∨ k = 7) with rfl | rfl | rfl | rfl | rfl | rfl | rfl | rfl
  · exact ⟨_, rfl, one v0 (h _ (by simp))⟩
  · exact ⟨_, rfl, one v1 (h _ (by simp))⟩
  · exact ⟨_, rfl, one v2 (h _ (by simp))⟩
  · exact ⟨_, rfl, one v3 (h _ (by simp))⟩
  · exact ⟨_, rfl, rfl⟩
  · exact ⟨_, rfl, rfl⟩
  · exact ⟨_, rfl, rfl⟩
  · exact ⟨_, rfl, rfl⟩
set_option maxHeartbeats 4000000 in
set_option maxRecDepth 100000 in
theorem walk (a v0 v1 v2 v3 : Int) (cl : Bool) (ha : 0 ≤ a ∧ a ≤ 255) (hv : ∀ z ∈ [v0, v1, v2, v3], (Lit.int .u64 z).wf = true) (w : World) : Calls Try.prog 8 #[.int .u8 a, .agg #[.int .u64 v0, .int .u64 v1, .int .u64 v2, .int .u64 v3], .bool cl] w fun e w' => e = .returned (.bool true) ∧ Below w.heap.size w w' := by
  obtain ⟨ha0, ha1⟩ := ha
  have k1 := heap_alloc_new w (.cells #[.int .u64 v0, .int .u64 v1, .int .u64 v2, .int .u64 v3] 51 (0, 0))
  have s1 := Step.alloc (fun _ => False) w (.cells #[.int .u64 v0, .int .u64 v1, .int .u64 v2, .int .u64 v3] 51 (0, 0))
  go_enter Try.func8, Try.ntmps8
  go_wp2_with fail
  generalize w.alloc (.cells #[.int .u64 v0, .int .u64 v1, .int .u64 v2, .int .u64 v3] 51 (0, 0)) = w1 at *
  refine (awake_any w1).mono ?_
  rintro e w2 ⟨rfl, s2⟩
  have K2 := Lib.hid (s2.keeps k1)
  have S2 := Lib.hid (s1.then s2)
  have HV := Lib.hid hv
  clear k1 s1 s2 hv
  obtain ⟨c0, c1, c2, c3, _⟩ := cells_known4 K2.out
  go_upto_region 4 with fail
  obtain ⟨off, hoff⟩ : ∃ off, a % 4 * 8 = off := ⟨_, rfl⟩
  rw [hoff]
  have HO := Lib.hid (show off = 0 ∨ off = 8 ∨ off = 16 ∨ off = 24 by omega)
  clear hoff ha0 ha1
  have q1 := heap_alloc_new w2 (.cells #[.int .u64 off, .int .u64 v0, .int .u64 v1, .int .u64 v2, .int .u64 v3] 38 (0, 0))
  have t1 := Step.alloc (fun _ => False) w2 (.cells #[.int .u64 off, .int .u64 v0, .int .u64 v1, .int .u64 v2, .int .u64 v3] 38 (0, 0))
  have H64 := Lib.hid (show is64 off ∧ is64 v0 ∧ is64 v1 ∧ is64 v2 ∧ is64 v3 from by
    have ho := HO.out
    have x0 := wfu64 (HV.out v0 (by simp))
    have x1 := wfu64 (HV.out v1 (by simp))
    have x2 := wfu64 (HV.out v2 (by simp))
    have x3 := wfu64 (HV.out v3 (by simp))
    unfold is64
    omega)
  have VS := Lib.hid (ints_keep (F := fun _ => False) (q := .u64) (zs := [off, v0, v1, v2, v3]) q1 rfl (fun x => x) rfl (by simp [maxLen]) (fun z hz => by
    simp only [List.mem_cons, List.not_mem_nil, or_false] at hz
    rcases hz with rfl | rfl | rfl | rfl | rfl
    · rcases HO.out with rfl | rfl | rfl | rfl <;> rfl
    · exact HV.out _ (by simp)
    · exact HV.out _ (by simp)
    · exact HV.out _ (by simp)
    · exact HV.out _ (by simp)))
  have T1 := Lib.hid t1
  clear q1 t1
  go_wp2_with fail
  refine (consts_any (VS.out _ (Step.refl _ _)) (by simp)).mono ?_
  rintro e w3 ⟨vo, F0, rfl, hcr, hF0, s3⟩
  obtain ⟨F3, hc3⟩ := Code.narrow (w0 := w2) hcr (fun b hb => Nat.le_trans T1.out.size (hF0 b hb)) (T1.out.then s3)
  obtain ⟨op, oc, rfl⟩ := hcr.slice
  have Cw3 := Lib.hid (show Code w2 w3 F3 (.slice op 5 oc) (constsC 0 [off, v0, v1, v2, v3]) from hc3)
  clear hcr hF0 s3 hc3 T1 VS c0 c1 c2 c3
  have q10 := heap_alloc_new w3 (.cells #[.int .i64 1, .int .i64 2, .int .i64 3, .int .i64 4] 3 (0, 0))
  have t10 := Step.alloc (fun _ => False) w3 (.cells #[.int .i64 1, .int .i64 2, .int .i64 3, .int .i64 4] 3 (0, 0))
  have q11 := heap_alloc_new (w3.alloc (.cells #[.int .i64 1, .int .i64 2, .int .i64 3, .int .i64 4] 3 (0, 0))) (.cells #[.int .i64 31, .int .i64 5, .int .i64 0, .int .i64 0, .int .u64 0, .int .i64 0, .string ⟨#[]⟩, .slice none 0 0, .slice none 0 0, .int .i64 0, .int .i64 3, .int .i64 5, .int .i64 5, .int .i64 0, .int .u64 1, .int .i64 0, .string ⟨#[]⟩, .slice none 0 0, .slice none 0 0, .int .i64 0, .int .i64 38, .int .i64 0, .int .i64 5, .int .i64 0, .int .u64 0, .int .i64 0, .string ⟨#[]⟩, .slice (some ⟨w3.heap.size, 0, none⟩) 4 4, .slice none 0 0, .int .i64 0] 47 (0, 0))
  have t11 := Step.alloc (fun _ => False) (w3.alloc (.cells #[.int .i64 1, .int .i64 2, .int .i64 3, .int .i64 4] 3 (0, 0))) (.cells #[.int .i64 31, .int .i64 5, .int .i64 0, .int .i64 0, .int .u64 0, .int .i64 0, .string ⟨#[]⟩, .slice none 0 0, .slice none 0 0, .int .i64 0, .int .i64 3, .int .i64 5, .int .i64 5, .int .i64 0, .int .u64 1, .int .i64 0, .string ⟨#[]⟩, .slice none 0 0, .slice none 0 0, .int .i64 0, .int .i64 38, .int .i64 0, .int .i64 5, .int .i64 0, .int .u64 0, .int .i64 0, .string ⟨#[]⟩, .slice (some ⟨w3.heap.size, 0, none⟩) 4 4, .slice none 0 0, .int .i64 0] 47 (0, 0))
  rw [show (w3.alloc (.cells #[.int .i64 1, .int .i64 2, .int .i64 3, .int .i64 4] 3 (0, 0))).heap.size = w3.heap.size + 1 by simp] at q11
  have Ta := Lib.hid (t10.then t11)
  have Qa_0 := Lib.hid (t11.keeps q10)
  have Qa_1 := Lib.hid q11
  have CWa := Lib.hid (Cw3.out.go Ta.out).row
  have KAa := Lib.hid (show KeepAll F3 ((w3.alloc (.cells #[.int .i64 1, .int .i64 2, .int .i64 3, .int .i64 4] 3 (0, 0))).alloc (.cells #[.int .i64 31, .int .i64 5, .int .i64 0, .int .i64 0, .int .u64 0, .int .i64 0, .string ⟨#[]⟩, .slice none 0 0, .slice none 0 0, .int .i64 0, .int .i64 3, .int .i64 5, .int .i64 5, .int .i64 0, .int .u64 1, .int .i64 0, .string ⟨#[]⟩, .slice none 0 0, .slice none 0 0, .int .i64 0, .int .i64 38, .int .i64 0, .int .i64 5, .int .i64 0, .int .u64 0, .int .i64 0, .string ⟨#[]⟩, .slice (some ⟨w3.heap.size, 0, none⟩) 4 4, .slice none 0 0, .int .i64 0] 47 (0, 0))) [insV (insOf 31 5 0 0 0 0 [] [] 0) (.slice none 0 0) (.slice none 0 0), insV (insOf 3 5 5 0 1 0 [] [] 0) (.slice none 0 0) (.slice none 0 0), insV (insOf 38 0 5 0 0 0 [1, 2, 3, 4] [] 0) (.slice (some ⟨w3.heap.size, 0, none⟩) 4 4) (.slice none 0 0)] [insOf 31 5 0 0 0 0 [] [] 0, insOf 3 5 5 0 1 0 [] [] 0, insOf 38 0 5 0 0 0 [1, 2, 3, 4] [] 0] from ⟨keeps_bare rfl rfl, keeps_bare rfl rfl, fun y hy => ⟨_, _, rfl, ints_keep (F := F3) (q := .i64) (zs := [1, 2, 3, 4]) Qa_0.out rfl (Cw3.out.fresh 0) rfl (by simp [maxLen]) (by decide) y hy, ints_nil _ _⟩, trivial⟩)
  have BLa := Lib.hid (show ((w3.alloc (.cells #[.int .i64 1, .int .i64 2, .int .i64 3, .int .i64 4] 3 (0, 0))).alloc (.cells #[.int .i64 31, .int .i64 5, .int .i64 0, .int .i64 0, .int .u64 0, .int .i64 0, .string ⟨#[]⟩, .slice none 0 0, .slice none 0 0, .int .i64 0, .int .i64 3, .int .i64 5, .int .i64 5, .int .i64 0, .int .u64 1, .int .i64 0, .string ⟨#[]⟩, .slice none 0 0, .slice none 0 0, .int .i64 0, .int .i64 38, .int .i64 0, .int .i64 5, .int .i64 0, .int .u64 0, .int .i64 0, .string ⟨#[]⟩, .slice (some ⟨w3.heap.size, 0, none⟩) 4 4, .slice none 0 0, .int .i64 0] 47 (0, 0))).heap[w3.heap.size + 1]? = some (.cells (([insV (insOf 31 5 0 0 0 0 [] [] 0) (.slice none 0 0) (.slice none 0 0), insV (insOf 3 5 5 0 1 0 [] [] 0) (.slice none 0 0) (.slice none 0 0), insV (insOf 38 0 5 0 0 0 [1, 2, 3, 4] [] 0) (.slice (some ⟨w3.heap.size, 0, none⟩) 4 4) (.slice none 0 0)] : List Value).flatMap fun v => v.cells.toList).toArray 47 (0, 0)) from Qa_1.out)
  clear q10 t10 q11 t11
  go_wp2_with (first | (at_builtin; refine wpList_append_codeN rfl (.tmp 31) (.tmp 36) rfl 8 rfl CWa.out rfl BLa.out KAa.out rfl (by omega) (by simp [constsC]) rfl (show _ = constsC 0 [off, v0, v1, v2, v3] ++ headC from rfl) ?_))
  intro ga capa w4 Fw4 hcr hF hFl st
  have Cw4 := Lib.hid ((Cw3.out.go Ta.out).app hcr (fun b hb => (hF b hb).imp_right fun h => by simpa using h) hFl st)
  clear hcr hF hFl
  have S4 := Lib.hid (S2.out.then Cw4.out.step)
  cases cl with
  | true =>
    have q10 := heap_alloc_new w4 (.cells #[.int .i64 39, .int .i64 0, .int .i64 0, .int .i64 0, .int .u64 0, .int .i64 0, .string ⟨#[]⟩, .slice none 0 0, .slice none 0 0, .int .i64 0] 47 (0, 0))
    have t10 := Step.alloc (fun _ => False) w4 (.cells #[.int .i64 39, .int .i64 0, .int .i64 0, .int .i64 0, .int .u64 0, .int .i64 0, .string ⟨#[]⟩, .slice none 0 0, .slice none 0 0, .int .i64 0] 47 (0, 0))
    have Tb := Lib.hid t10
    have Qb_0 := Lib.hid q10
    have CWb := Lib.hid (Cw4.out.go Tb.out).row
    have KAb := Lib.hid (show KeepAll Fw4 (w4.alloc (.cells #[.int .i64 39, .int .i64 0, .int .i64 0, .int .i64 0, .int .u64 0, .int .i64 0, .string ⟨#[]⟩, .slice none 0 0, .slice none 0 0, .int .i64 0] 47 (0, 0))) [insV (insOf 39 0 0 0 0 0 [] [] 0) (.slice none 0 0) (.slice none 0 0)] [insOf 39 0 0 0 0 0 [] [] 0] from ⟨keeps_bare rfl rfl, trivial⟩)
    have BLb := Lib.hid (show (w4.alloc (.cells #[.int .i64 39, .int .i64 0, .int .i64 0, .int .i64 0, .int .u64 0, .int .i64 0, .string ⟨#[]⟩, .slice none 0 0, .slice none 0 0, .int .i64 0] 47 (0, 0))).heap[w4.heap.size]? = some (.cells (([insV (insOf 39 0 0 0 0 0 [] [] 0) (.slice none 0 0) (.slice none 0 0)] : List Value).flatMap fun v => v.cells.toList).toArray 47 (0, 0)) from Qb_0.out)
    clear q10 t10
    go_wp2_with (first | (at_builtin; refine wpList_append_codeN rfl (.tmp 39) (.tmp 41) rfl 9 rfl CWb.out rfl BLb.out KAb.out rfl (by omega) (by simp [constsC, headC]) rfl (show _ = topC off v0 v1 v2 v3 true from rfl) ?_))
    intro gb capb w5 Fw5 hcr hF hFl st
    have Cw5 := Lib.hid ((Cw4.out.go Tb.out).app hcr (fun b hb => (hF b hb).imp_right fun h => by simpa using h) hFl st)
    clear hcr hF hFl
    have q10 := heap_alloc_new w5 (.cells #[.int .i64 6, .int .i64 7, .int .i64 8, .int .i64 9] 3 (0, 0))
    have t10 := Step.alloc (fun _ => False) w5 (.cells #[.int .i64 6, .int .i64 7, .int .i64 8, .int .i64 9] 3 (0, 0))
    have q11 := heap_alloc_new (w5.alloc (.cells #[.int .i64 6, .int .i64 7, .int .i64 8, .int .i64 9] 3 (0, 0))) (.cells #[.int .i64 37, .int .i64 0, .int .i64 5, .int .i64 0, .int .u64 0, .int .i64 0, .string ⟨#[]⟩, .slice none 0 0, .slice (some ⟨w5.heap.size, 0, none⟩) 4 4, .int .i64 0] 47 (0, 0))
    have t11 := Step.alloc (fun _ => False) (w5.alloc (.cells #[.int .i64 6, .int .i64 7, .int .i64 8, .int .i64 9] 3 (0, 0))) (.cells #[.int .i64 37, .int .i64 0, .int .i64 5, .int .i64 0, .int .u64 0, .int .i64 0, .string ⟨#[]⟩, .slice none 0 0, .slice (some ⟨w5.heap.size, 0, none⟩) 4 4, .int .i64 0] 47 (0, 0))
    rw [show (w5.alloc (.cells #[.int .i64 6, .int .i64 7, .int .i64 8, .int .i64 9] 3 (0, 0))).heap.size = w5.heap.size + 1 by simp] at q11
    have Tc := Lib.hid (t10.then t11)
    have Qc_0 := Lib.hid (t11.keeps q10)
    have Qc_1 := Lib.hid q11
    have CWc := Lib.hid (Cw5.out.go Tc.out).row
    have KAc := Lib.hid (show KeepAll Fw5 ((w5.alloc (.cells #[.int .i64 6, .int .i64 7, .int .i64 8, .int .i64 9] 3 (0, 0))).alloc (.cells #[.int .i64 37, .int .i64 0, .int .i64 5, .int .i64 0, .int .u64 0, .int .i64 0, .string ⟨#[]⟩, .slice none 0 0, .slice (some ⟨w5.heap.size, 0, none⟩) 4 4, .int .i64 0] 47 (0, 0))) [insV (insOf 37 0 5 0 0 0 [] [6, 7, 8, 9] 0) (.slice none 0 0) (.slice (some ⟨w5.heap.size, 0, none⟩) 4 4)] [insOf 37 0 5 0 0 0 [] [6, 7, 8, 9] 0] from ⟨fun y hy => ⟨_, _, rfl, ints_nil _ _, ints_keep (F := Fw5) (q := .i64) (zs := [6, 7, 8, 9]) Qc_0.out rfl (Cw5.out.fresh 0) rfl (by simp [maxLen]) (by decide) y hy⟩, trivial⟩)
    have BLc := Lib.hid (show ((w5.alloc (.cells #[.int .i64 6, .int .i64 7, .int .i64 8, .int .i64 9] 3 (0, 0))).alloc (.cells #[.int .i64 37, .int .i64 0, .int .i64 5, .int .i64 0, .int .u64 0, .int .i64 0, .string ⟨#[]⟩, .slice none 0 0, .slice (some ⟨w5.heap.size, 0, none⟩) 4 4, .int .i64 0] 47 (0, 0))).heap[w5.heap.size + 1]? = some (.cells (([insV (insOf 37 0 5 0 0 0 [] [6, 7, 8, 9] 0) (.slice none 0 0) (.slice (some ⟨w5.heap.size, 0, none⟩) 4 4)] : List Value).flatMap fun v => v.cells.toList).toArray 47 (0, 0)) from Qc_1.out)
    clear q10 t10 q11 t11
    go_wp2_with (first | (at_builtin; refine wpList_append_codeN rfl (.tmp 43) (.tmp 46) rfl 10 rfl CWc.out rfl BLc.out KAc.out rfl (by omega) (by rw [topC_len]; decide) (by rw [topC_len]; rfl) (show _ = topC off v0 v1 v2 v3 true ++ [insOf 37 0 5 0 0 0 [] [6, 7, 8, 9] 0] from rfl) ?_))
    intro gc capc w6 Fw6 hcr hF hFl st
    have Cw6 := Lib.hid ((Cw5.out.go Tc.out).app hcr (fun b hb => (hF b hb).imp_right fun h => by simpa using h) hFl st)
    clear hcr hF hFl
    have B0 := Lib.hid (show (topC off v0 v1 v2 v3 true ++ [insOf 37 0 5 0 0 0 [] [6, 7, 8, 9] 0]).length = 10 from by rw [List.length_append, topC_len]; rfl)
    obtain ⟨base, hbase⟩ : ∃ base, base = topC off v0 v1 v2 v3 true ++ [insOf 37 0 5 0 0 0 [] [6, 7, 8, 9] 0] := ⟨_, rfl⟩
    rw [← hbase] at Cw6 B0
    have HB := Lib.hid hbase
    clear hbase
    go_wp2_with fail
    go_loopw [8, 9] (fun x i wr => ∃ (k : Nat) (F : Nat → Prop) (q : Option Addr) (c : Nat), k ≤ 4 ∧ i = .int .i64 k ∧ x = .slice q (10 + 3 * k) c ∧ Code w2 wr F x (base ++ xorCs k)) (fun _ i _ => 4 - (intOf i).toNat)
    case atStart => exact ⟨0, Fw6, _, _, by omega, rfl, rfl, by have h := Cw6.out; rwa [show base = base ++ xorCs 0 from by unfold xorCs; simp] at h⟩
    case round =>
      obtain ⟨k, F, q, c, hk, rfl, rfl, hc⟩ := hrel
      have C := Lib.hid hc
      clear hc
      have HLEN := Lib.hid (show (base ++ xorCs k).length = 10 + 3 * k from by rw [List.length_append, B0.out, xorCs_len])
      by_cases hlt : k < 4
      · have hd : decide ((k : Int) < 4) = true := decide_eq_true (by omega)
        have q10 := heap_alloc_new wr (.cells #[.int .i64 3, .int .i64 (6 + k), .int .i64 (6 + k), .int .i64 (1 + k), .int .u64 6, .int .i64 0, .string ⟨#[]⟩, .slice none 0 0, .slice none 0 0, .int .i64 0, .int .i64 3, .int .i64 (6 + k), .int .i64 10, .int .i64 (6 + k), .int .u64 5, .int .i64 0, .string ⟨#[]⟩, .slice none 0 0, .slice none 0 0, .int .i64 0, .int .i64 20, .int .i64 0, .int .i64 (6 + k), .int .i64 0, .int .u64 0, .int .i64 0, .string ⟨#[]⟩, .slice none 0 0, .slice none 0 0, .int .i64 0] 47 (0, 0))
        have t10 := Step.alloc (fun _ => False) wr (.cells #[.int .i64 3, .int .i64 (6 + k), .int .i64 (6 + k), .int .i64 (1 + k), .int .u64 6, .int .i64 0, .string ⟨#[]⟩, .slice none 0 0, .slice none 0 0, .int .i64 0, .int .i64 3, .int .i64 (6 + k), .int .i64 10, .int .i64 (6 + k), .int .u64 5, .int .i64 0, .string ⟨#[]⟩, .slice none 0 0, .slice none 0 0, .int .i64 0, .int .i64 20, .int .i64 0, .int .i64 (6 + k), .int .i64 0, .int .u64 0, .int .i64 0, .string ⟨#[]⟩, .slice none 0 0, .slice none 0 0, .int .i64 0] 47 (0, 0))
        have Td := Lib.hid t10
        have Qd_0 := Lib.hid q10
        have CWd := Lib.hid (C.out.go Td.out).row
        have KAd := Lib.hid (show KeepAll F (wr.alloc (.cells #[.int .i64 3, .int .i64 (6 + k), .int .i64 (6 + k), .int .i64 (1 + k), .int .u64 6, .int .i64 0, .string ⟨#[]⟩, .slice none 0 0, .slice none 0 0, .int .i64 0, .int .i64 3, .int .i64 (6 + k), .int .i64 10, .int .i64 (6 + k), .int .u64 5, .int .i64 0, .string ⟨#[]⟩, .slice none 0 0, .slice none 0 0, .int .i64 0, .int .i64 20, .int .i64 0, .int .i64 (6 + k), .int .i64 0, .int .u64 0, .int .i64 0, .string ⟨#[]⟩, .slice none 0 0, .slice none 0 0, .int .i64 0] 47 (0, 0))) [insV (insOf 3 (6 + k) (6 + k) (1 + k) 6 0 [] [] 0) (.slice none 0 0) (.slice none 0 0), insV (insOf 3 (6 + k) 10 (6 + k) 5 0 [] [] 0) (.slice none 0 0) (.slice none 0 0), insV (insOf 20 0 (6 + k) 0 0 0 [] [] 0) (.slice none 0 0) (.slice none 0 0)] [insOf 3 (6 + k) (6 + k) (1 + k) 6 0 [] [] 0, insOf 3 (6 + k) 10 (6 + k) 5 0 [] [] 0, insOf 20 0 (6 + k) 0 0 0 [] [] 0] from ⟨keeps_bare rfl rfl, keeps_bare rfl rfl, keeps_bare rfl rfl, trivial⟩)
        have BLd := Lib.hid (show (wr.alloc (.cells #[.int .i64 3, .int .i64 (6 + k), .int .i64 (6 + k), .int .i64 (1 + k), .int .u64 6, .int .i64 0, .string ⟨#[]⟩, .slice none 0 0, .slice none 0 0, .int .i64 0, .int .i64 3, .int .i64 (6 + k), .int .i64 10, .int .i64 (6 + k), .int .u64 5, .int .i64 0, .string ⟨#[]⟩, .slice none 0 0, .slice none 0 0, .int .i64 0, .int .i64 20, .int .i64 0, .int .i64 (6 + k), .int .i64 0, .int .u64 0, .int .i64 0, .string ⟨#[]⟩, .slice none 0 0, .slice none 0 0, .int .i64 0] 47 (0, 0))).heap[wr.heap.size]? = some (.cells (([insV (insOf 3 (6 + k) (6 + k) (1 + k) 6 0 [] [] 0) (.slice none 0 0) (.slice none 0 0), insV (insOf 3 (6 + k) 10 (6 + k) 5 0 [] [] 0) (.slice none 0 0) (.slice none 0 0), insV (insOf 20 0 (6 + k) 0 0 0 [] [] 0) (.slice none 0 0) (.slice none 0 0)] : List Value).flatMap fun v => v.cells.toList).toArray 47 (0, 0)) from Qd_0.out)
        clear q10 t10
        go_wp2_with (first | (at_builtin; refine wpList_append_codeN rfl (.tmp 52) (.tmp 68) rfl (10 + 3 * (k + 1)) rfl CWd.out rfl BLd.out KAd.out rfl (by omega) (by have := HLEN.out; omega) (by have := HLEN.out; omega) (show _ = base ++ xorCs (k + 1) from (by rw [xorCs_succ, ← List.append_assoc]; rfl)) ?_))
        intro gd capd w7 Fw7 hcr hF hFl st
        have Cw7 := Lib.hid ((C.out.go Td.out).app hcr (fun b hb => (hF b hb).imp_right fun h => by simpa using h) hFl st)
        clear hcr hF hFl
        go_wp2_with fail
        go_roundw
        case rel => exact ⟨k + 1, Fw7, _, _, by omega, by go_num, rfl, Cw7.out⟩
        case measure => simp [intOf]; omega
      · have hd : decide ((k : Int) < 4) = false := decide_eq_false (by omega)
        obtain rfl : k = 4 := by omega
        clear hd
        have Cw7 := Lib.hid (show Code w2 wr F (.slice q 22 c) (base ++ xorCs 4) from C.out)
        clear C
        have q10 := heap_alloc_new wr (.cells #[.int .i64 6, .int .i64 7, .int .i64 8, .int .i64 9] 3 (0, 0))
        have t10 := Step.alloc (fun _ => False) wr (.cells #[.int .i64 6, .int .i64 7, .int .i64 8, .int .i64 9] 3 (0, 0))
        have q11 := heap_alloc_new (wr.alloc (.cells #[.int .i64 6, .int .i64 7, .int .i64 8, .int .i64 9] 3 (0, 0))) (.cells #[.int .i64 1, .int .i64 0, .int .i64 0, .int .i64 0, .int .u64 8, .int .i64 0, .string ⟨#[]⟩, .slice none 0 0, .slice none 0 0, .int .i64 0, .int .i64 3, .int .i64 5, .int .i64 5, .int .i64 0, .int .u64 1, .int .i64 0, .string ⟨#[]⟩, .slice none 0 0, .slice none 0 0, .int .i64 0, .int .i64 37, .int .i64 0, .int .i64 5, .int .i64 0, .int .u64 0, .int .i64 0, .string ⟨#[]⟩, .slice none 0 0, .slice (some ⟨wr.heap.size, 0, none⟩) 4 4, .int .i64 0] 47 (0, 0))
        have t11 := Step.alloc (fun _ => False) (wr.alloc (.cells #[.int .i64 6, .int .i64 7, .int .i64 8, .int .i64 9] 3 (0, 0))) (.cells #[.int .i64 1, .int .i64 0, .int .i64 0, .int .i64 0, .int .u64 8, .int .i64 0, .string ⟨#[]⟩, .slice none 0 0, .slice none 0 0, .int .i64 0, .int .i64 3, .int .i64 5, .int .i64 5, .int .i64 0, .int .u64 1, .int .i64 0, .string ⟨#[]⟩, .slice none 0 0, .slice none 0 0, .int .i64 0, .int .i64 37, .int .i64 0, .int .i64 5, .int .i64 0, .int .u64 0, .int .i64 0, .string ⟨#[]⟩, .slice none 0 0, .slice (some ⟨wr.heap.size, 0, none⟩) 4 4, .int .i64 0] 47 (0, 0))
        rw [show (wr.alloc (.cells #[.int .i64 6, .int .i64 7, .int .i64 8, .int .i64 9] 3 (0, 0))).heap.size = wr.heap.size + 1 by simp] at q11
        have Te := Lib.hid (t10.then t11)
        have Qe_0 := Lib.hid (t11.keeps q10)
        have Qe_1 := Lib.hid q11
        have CWe := Lib.hid (Cw7.out.go Te.out).row
        have KAe := Lib.hid (show KeepAll F ((wr.alloc (.cells #[.int .i64 6, .int .i64 7, .int .i64 8, .int .i64 9] 3 (0, 0))).alloc (.cells #[.int .i64 1, .int .i64 0, .int .i64 0, .int .i64 0, .int .u64 8, .int .i64 0, .string ⟨#[]⟩, .slice none 0 0, .slice none 0 0, .int .i64 0, .int .i64 3, .int .i64 5, .int .i64 5, .int .i64 0, .int .u64 1, .int .i64 0, .string ⟨#[]⟩, .slice none 0 0, .slice none 0 0, .int .i64 0, .int .i64 37, .int .i64 0, .int .i64 5, .int .i64 0, .int .u64 0, .int .i64 0, .string ⟨#[]⟩, .slice none 0 0, .slice (some ⟨wr.heap.size, 0, none⟩) 4 4, .int .i64 0] 47 (0, 0))) [insV (insOf 1 0 0 0 8 0 [] [] 0) (.slice none 0 0) (.slice none 0 0), insV (insOf 3 5 5 0 1 0 [] [] 0) (.slice none 0 0) (.slice none 0 0), insV (insOf 37 0 5 0 0 0 [] [6, 7, 8, 9] 0) (.slice none 0 0) (.slice (some ⟨wr.heap.size, 0, none⟩) 4 4)] [insOf 1 0 0 0 8 0 [] [] 0, insOf 3 5 5 0 1 0 [] [] 0, insOf 37 0 5 0 0 0 [] [6, 7, 8, 9] 0] from ⟨keeps_bare rfl rfl, keeps_bare rfl rfl, fun y hy => ⟨_, _, rfl, ints_nil _ _, ints_keep (F := F) (q := .i64) (zs := [6, 7, 8, 9]) Qe_0.out rfl (Cw7.out.fresh 0) rfl (by simp [maxLen]) (by decide) y hy⟩, trivial⟩)
        have BLe := Lib.hid (show ((wr.alloc (.cells #[.int .i64 6, .int .i64 7, .int .i64 8, .int .i64 9] 3 (0, 0))).alloc (.cells #[.int .i64 1, .int .i64 0, .int .i64 0, .int .i64 0, .int .u64 8, .int .i64 0, .string ⟨#[]⟩, .slice none 0 0, .slice none 0 0, .int .i64 0, .int .i64 3, .int .i64 5, .int .i64 5, .int .i64 0, .int .u64 1, .int .i64 0, .string ⟨#[]⟩, .slice none 0 0, .slice none 0 0, .int .i64 0, .int .i64 37, .int .i64 0, .int .i64 5, .int .i64 0, .int .u64 0, .int .i64 0, .string ⟨#[]⟩, .slice none 0 0, .slice (some ⟨wr.heap.size, 0, none⟩) 4 4, .int .i64 0] 47 (0, 0))).heap[wr.heap.size + 1]? = some (.cells (([insV (insOf 1 0 0 0 8 0 [] [] 0) (.slice none 0 0) (.slice none 0 0), insV (insOf 3 5 5 0 1 0 [] [] 0) (.slice none 0 0) (.slice none 0 0), insV (insOf 37 0 5 0 0 0 [] [6, 7, 8, 9] 0) (.slice none 0 0) (.slice (some ⟨wr.heap.size, 0, none⟩) 4 4)] : List Value).flatMap fun v => v.cells.toList).toArray 47 (0, 0)) from Qe_1.out)
        clear q10 t10 q11 t11
        go_wp2_with (first | (at_builtin; refine wpList_append_codeN rfl (.tmp 70) (.tmp 75) rfl 25 rfl CWe.out rfl BLe.out KAe.out rfl (by omega) (by have := HLEN.out; omega) (by have := HLEN.out; omega) (show _ = base ++ xorCs 4 ++ midC from rfl) ?_))
        intro ge cape w8 Fw8 hcr hF hFl st
        have Cw8 := Lib.hid ((Cw7.out.go Te.out).app hcr (fun b hb => (hF b hb).imp_right fun h => by simpa using h) hFl st)
        clear hcr hF hFl
        have B1 := Lib.hid (show (base ++ xorCs 4 ++ midC).length = 25 from by rw [List.length_append, HLEN.out]; rfl)
        obtain ⟨base1, hbase1⟩ : ∃ b, b = base ++ xorCs 4 ++ midC := ⟨_, rfl⟩
        rw [← List.append_assoc] at Cw8
        rw [← hbase1] at Cw8 B1
        have HB1 := Lib.hid hbase1
        clear hbase1 HLEN
        go_wp2_with fail
        clear hlt hk st
        go_loopw [8, 10] (fun x i wr => ∃ (k : Nat) (F : Nat → Prop) (q : Option Addr) (c : Nat), k ≤ 4 ∧ i = .int .i64 k ∧ x = .slice q (25 + 2 * k) c ∧ Code w2 wr F x (base1 ++ sltCs k)) (fun _ i _ => 4 - (intOf i).toNat)
        case atStart => exact ⟨0, Fw8, _, _, by omega, rfl, rfl, by have h := Cw8.out; rwa [show base1 = base1 ++ sltCs 0 from by unfold sltCs; simp] at h⟩
        case round =>
          clear Cw7 Cw8
          obtain ⟨k, F, q, c, hk, rfl, rfl, hc⟩ := hrel
          have C := Lib.hid hc
          clear hc
          have HLEN := Lib.hid (show (base1 ++ sltCs k).length = 25 + 2 * k from by rw [List.length_append, B1.out, sltCs_len])
          by_cases hlt : k < 4
          · have hd : decide ((k : Int) < 4) = true := decide_eq_true (by omega)
            have q10 := heap_alloc_new wr (.cells #[.int .i64 3, .int .i64 (6 + k), .int .i64 10, .int .i64 (6 + k), .int .u64 5, .int .i64 0, .string ⟨#[]⟩, .slice none 0 0, .slice none 0 0, .int .i64 0, .int .i64 20, .int .i64 0, .int .i64 (6 + k), .int .i64 0, .int .u64 0, .int .i64 0, .string ⟨#[]⟩, .slice none 0 0, .slice none 0 0, .int .i64 0] 47 (0, 0))
            have t10 := Step.alloc (fun _ => False) wr (.cells #[.int .i64 3, .int .i64 (6 + k), .int .i64 10, .int .i64 (6 + k), .int .u64 5, .int .i64 0, .string ⟨#[]⟩, .slice none 0 0, .slice none 0 0, .int .i64 0, .int .i64 20, .int .i64 0, .int .i64 (6 + k), .int .i64 0, .int .u64 0, .int .i64 0, .string ⟨#[]⟩, .slice none 0 0, .slice none 0 0, .int .i64 0] 47 (0, 0))
            have Tf := Lib.hid t10
            have Qf_0 := Lib.hid q10
            have CWf := Lib.hid (C.out.go Tf.out).row
            have KAf := Lib.hid (show KeepAll F (wr.alloc (.cells #[.int .i64 3, .int .i64 (6 + k), .int .i64 10, .int .i64 (6 + k), .int .u64 5, .int .i64 0, .string ⟨#[]⟩, .slice none 0 0, .slice none 0 0, .int .i64 0, .int .i64 20, .int .i64 0, .int .i64 (6 + k), .int .i64 0, .int .u64 0, .int .i64 0, .string ⟨#[]⟩, .slice none 0 0, .slice none 0 0, .int .i64 0] 47 (0, 0))) [insV (insOf 3 (6 + k) 10 (6 + k) 5 0 [] [] 0) (.slice none 0 0) (.slice none 0 0), insV (insOf 20 0 (6 + k) 0 0 0 [] [] 0) (.slice none 0 0) (.slice none 0 0)] [insOf 3 (6 + k) 10 (6 + k) 5 0 [] [] 0, insOf 20 0 (6 + k) 0 0 0 [] [] 0] from ⟨keeps_bare rfl rfl, keeps_bare rfl rfl, trivial⟩)
            have BLf := Lib.hid (show (wr.alloc (.cells #[.int .i64 3, .int .i64 (6 + k), .int .i64 10, .int .i64 (6 + k), .int .u64 5, .int .i64 0, .string ⟨#[]⟩, .slice none 0 0, .slice none 0 0, .int .i64 0, .int .i64 20, .int .i64 0, .int .i64 (6 + k), .int .i64 0, .int .u64 0, .int .i64 0, .string ⟨#[]⟩, .slice none 0 0, .slice none 0 0, .int .i64 0] 47 (0, 0))).heap[wr.heap.size]? = some (.cells (([insV (insOf 3 (6 + k) 10 (6 + k) 5 0 [] [] 0) (.slice none 0 0) (.slice none 0 0), insV (insOf 20 0 (6 + k) 0 0 0 [] [] 0) (.slice none 0 0) (.slice none 0 0)] : List Value).flatMap fun v => v.cells.toList).toArray 47 (0, 0)) from Qf_0.out)
            clear q10 t10
            go_wp2_with (first | (at_builtin; refine wpList_append_codeN rfl (.tmp 81) (.tmp 90) rfl (25 + 2 * (k + 1)) rfl CWf.out rfl BLf.out KAf.out rfl (by omega) (by have := HLEN.out; omega) (by have := HLEN.out; omega) (show _ = base1 ++ sltCs (k + 1) from (by rw [sltCs_succ, ← List.append_assoc]; rfl)) ?_))
            intro gf capf w9 Fw9 hcr hF hFl st
            have Cw9 := Lib.hid ((C.out.go Tf.out).app hcr (fun b hb => (hF b hb).imp_right fun h => by simpa using h) hFl st)
            clear hcr hF hFl
            go_wp2_with fail
            go_roundw
            case rel => exact ⟨k + 1, Fw9, _, _, by omega, by go_num, rfl, Cw9.out⟩
            case measure => simp [intOf]; omega
          · have hd : decide ((k : Int) < 4) = false := decide_eq_false (by omega)
            obtain rfl : k = 4 := by omega
            clear hd
            have Cw9 := Lib.hid (show Code w2 wr F (.slice q 33 c) (base1 ++ sltCs 4) from C.out)
            clear C
            have q10 := heap_alloc_new wr (.cells #[.int .i64 32] 3 (0, 0))
            have t10 := Step.alloc (fun _ => False) wr (.cells #[.int .i64 32] 3 (0, 0))
            have q11 := heap_alloc_new (wr.alloc (.cells #[.int .i64 32] 3 (0, 0))) (.cells #[.int .i64 43, .int .i64 0, .int .i64 0, .int .i64 0, .int .u64 0, .int .i64 0, .string ⟨#[]⟩, .slice none 0 0, .slice none 0 0, .int .i64 0] 47 (0, 0))
            have t11 := Step.alloc (fun _ => False) (wr.alloc (.cells #[.int .i64 32] 3 (0, 0))) (.cells #[.int .i64 43, .int .i64 0, .int .i64 0, .int .i64 0, .int .u64 0, .int .i64 0, .string ⟨#[]⟩, .slice none 0 0, .slice none 0 0, .int .i64 0] 47 (0, 0))
            rw [show (wr.alloc (.cells #[.int .i64 32] 3 (0, 0))).heap.size = wr.heap.size + 1 by simp] at q11
            have Tg := Lib.hid (t10.then t11)
            have Qg_0 := Lib.hid (t11.keeps q10)
            have Qg_1 := Lib.hid q11
            have CWg := Lib.hid (Cw9.out.go Tg.out).row
            have KAg := Lib.hid (show KeepAll F ((wr.alloc (.cells #[.int .i64 32] 3 (0, 0))).alloc (.cells #[.int .i64 43, .int .i64 0, .int .i64 0, .int .i64 0, .int .u64 0, .int .i64 0, .string ⟨#[]⟩, .slice none 0 0, .slice none 0 0, .int .i64 0] 47 (0, 0))) [insV (insOf 43 0 0 0 0 0 [] [] 0) (.slice none 0 0) (.slice none 0 0)] [insOf 43 0 0 0 0 0 [] [] 0] from ⟨keeps_bare rfl rfl, trivial⟩)
            have BLg := Lib.hid (show ((wr.alloc (.cells #[.int .i64 32] 3 (0, 0))).alloc (.cells #[.int .i64 43, .int .i64 0, .int .i64 0, .int .i64 0, .int .u64 0, .int .i64 0, .string ⟨#[]⟩, .slice none 0 0, .slice none 0 0, .int .i64 0] 47 (0, 0))).heap[wr.heap.size + 1]? = some (.cells (([insV (insOf 43 0 0 0 0 0 [] [] 0) (.slice none 0 0) (.slice none 0 0)] : List Value).flatMap fun v => v.cells.toList).toArray 47 (0, 0)) from Qg_1.out)
            clear q10 t10 q11 t11
            go_wp2_with (first | (at_builtin; refine wpList_append_codeN rfl (.tmp 93) (.tmp 95) rfl 34 rfl CWg.out rfl BLg.out KAg.out rfl (by omega) (by have := HLEN.out; omega) (by have := HLEN.out; omega) (show _ = shadowsC off v0 v1 v2 v3 true from by rw [HB1.out, HB.out]; exact all_there) ?_))
            intro gg capg w10 F10 hcr hF hFl st
            have C10 := Lib.hid ((Cw9.out.go Tg.out).app hcr (fun b hb => (hF b hb).imp_right fun h => by simpa using h) hFl st)
            have SL := Lib.hid (ints_keep (F := F) (q := .i64) (zs := [32]) Qg_0.out rfl (Cw9.out.fresh 0) rfl (by simp [maxLen]) (by decide) _ st)
            clear hcr hF hFl st
            go_wp2_with fail
            refine (alone_any (regs := 11) (sl := [32]) (by omega) SL.out C10.out.row.code).mono ?_
            rintro e w11 ⟨vt, vf, rfl, htops, hfns, s11⟩
            have RUN := Lib.hid (Run_any (w := w11) (fuel := 100) htops hfns (ints_nil .u8 w11) (unitOk_alone (by omega) (by simp) (by have e := HLEN.out; have e1 := congrArg List.length (show base1 ++ sltCs 4 ++ [insOf 43 0 0 0 0 0 [] [] 0] = shadowsC off v0 v1 v2 v3 true from by rw [HB1.out, HB.out]; exact all_there); rw [List.length_append, e] at e1; rw [← e1]; simp) (shadows_ok H64.out.1 H64.out.2.1 H64.out.2.2.1 H64.out.2.2.2.1 H64.out.2.2.2.2)) (by omega))
            have RUNS := shadows_run (clear := true) HO.out H64.out.2.1 H64.out.2.2.1 H64.out.2.2.2.1 H64.out.2.2.2.2
            unfold shR at RUNS
            rw [RUNS] at RUN
            have OUT := Lib.hid (out_at (clear := true) (fun z hz => (wfu64 (HV.out z hz)).1))
            obtain ⟨outl, houtl⟩ : ∃ l, l = [shO v0 true, shO v1 true, shO v2 true, shO v3 true, 0, 0, 0, 0] := ⟨_, rfl⟩
            have HOL := Lib.hid (show outl.length = 8 from by rw [houtl]; rfl)
            rw [← houtl] at RUN OUT
            have S11 := Lib.hid ((S2.out.then C10.out.step).then s11)
            have K11 := Lib.hid ((C10.out.step.then s11).keeps K2.out)
            clear s11 htops hfns RUNS houtl SL
            go_wp2_with fail
            refine RUN.out.mono ?_
            rintro e w12 ⟨vo, rfl, hrow, s12⟩
            simp only at hrow
            rw [HOL.out] at hrow
            obtain ⟨og, oc2, cur, rfl, _, hcur, _, _, _, htk⟩ := hrow.some (by omega)
            have k13 := heap_alloc_new w12 (.cells #[.int .i64 1, .int .u8 0, .int .i64 0, .slice (some ⟨og, 0, none⟩) 8 oc2, .int .i64 34, .int .i64 0] 31 (0, 0))
            have s13 := Step.alloc (fun _ => False) w12 (.cells #[.int .i64 1, .int .u8 0, .int .i64 0, .slice (some ⟨og, 0, none⟩) 8 oc2, .int .i64 34, .int .i64 0] 31 (0, 0))
            have CUR := Lib.hid (s13.keeps hcur)
            have HTK := Lib.hid htk
            have K12 := Lib.hid (s13.keeps (s12.keeps K11.out))
            have S13 := Lib.hid ((S11.out.then s12).then s13)
            unfold resV
            simp only [if_true]
            clear hrow s12 s13 hcur htk k13
            go_wp2_with fail
            generalize w12.alloc (.cells #[.int .i64 1, .int .u8 0, .int .i64 0, .slice (some ⟨og, 0, none⟩) 8 oc2, .int .i64 34, .int .i64 0] 31 (0, 0)) = w13 at *
            clear hlt hk
            go_loop [12, 13, 14, 111] (fun _ _ _ i => ∃ k : Nat, k ≤ 8 ∧ i = .int .i64 k) (fun _ _ _ i => 8 - (intOf i).toNat)
            case atStart => exact ⟨0, by omega, rfl⟩
            case round =>
              obtain ⟨k, hk, rfl⟩ := hrel
              by_cases hlt : k < 8
              · have hd : decide ((k : Int) < 8) = true := decide_eq_true (by omega)
                obtain ⟨z, hz, hw⟩ := OUT.out k hlt
                have cz : w13.cell? ⟨og, k, none⟩ = some (.int .u8 z) := row_cell (size := 1) CUR.out HTK.out (by rw [List.getElem?_map, hz]; rfl)
                have HZ := Lib.hid hz
                clear hz
                cases h4 : decide ((k : Int) < 4) with
                | false =>
                  have hw2 : (z == 1) = false := by rw [hw]; unfold wantB; rw [decide_eq_false (show ¬ k < 4 by have := of_decide_eq_false h4; omega)]; rfl
                  clear hw
                  go_wp2_with fail
                  go_round
                  case rel => exact ⟨k + 1, by omega, by go_num⟩
                  case measure => simp [intOf]; omega
                | true =>
                  have hk4 : k < 4 := by have := of_decide_eq_true h4; omega
                  obtain ⟨y, hy, cy⟩ : ∃ y, [v0, v1, v2, v3].getD k 0 = y ∧ w13.cell? ⟨w.heap.size, k, none⟩ = some (.int .u64 y) := ⟨_, rfl, cell_known K12.out (by rcases (by omega : k = 0 ∨ k = 1 ∨ k = 2 ∨ k = 3) with rfl | rfl | rfl | rfl <;> rfl)⟩
                  have hw1 : (z == 1) = (y != 0) := by rw [hw]; unfold wantB; rw [decide_eq_true hk4, hy]; simp
                  have HW1 := Lib.hid hw1
                  clear hw hw1 hy
                  cases hy0 : (y != 0) with
                  | true =>
                    have hw2 : (z == 1) = true := HW1.out.trans hy0
                    go_wp2_with fail
                    go_round
                    case rel => exact ⟨k + 1, by omega, by go_num⟩
                    case measure => simp [intOf]; omega
                  | false =>
                    have hw2 : (z == 1) = false := HW1.out.trans hy0
                    go_wp2_with fail
                    go_round
                    case rel => exact ⟨k + 1, by omega, by go_num⟩
                    case measure => simp [intOf]; omega
              · have hd : decide ((k : Int) < 8) = false := decide_eq_false (by omega)
                go_wp2_with fail
                go_ret
                exact ⟨rfl, S13.out.below (Nat.le_refl _) fun _ x => x.elim⟩
  | false =>
    have Cw5 := Lib.hid (show Code w2 w4 Fw4 _ (topC off v0 v1 v2 v3 false) from by have h := Cw4.out; rwa [show constsC 0 [off, v0, v1, v2, v3] ++ headC = topC off v0 v1 v2 v3 false from by unfold topC; simp] at h)
    have q10 := heap_alloc_new w4 (.cells #[.int .i64 6, .int .i64 7, .int .i64 8, .int .i64 9] 3 (0, 0))
    have t10 := Step.alloc (fun _ => False) w4 (.cells #[.int .i64 6, .int .i64 7, .int .i64 8, .int .i64 9] 3 (0, 0))
    have q11 := heap_alloc_new (w4.alloc (.cells #[.int .i64 6, .int .i64 7, .int .i64 8, .int .i64 9] 3 (0, 0))) (.cells #[.int .i64 37, .int .i64 0, .int .i64 5, .int .i64 0, .int .u64 0, .int .i64 0, .string ⟨#[]⟩, .slice none 0 0, .slice (some ⟨w4.heap.size, 0, none⟩) 4 4, .int .i64 0] 47 (0, 0))
    have t11 := Step.alloc (fun _ => False) (w4.alloc (.cells #[.int .i64 6, .int .i64 7, .int .i64 8, .int .i64 9] 3 (0, 0))) (.cells #[.int .i64 37, .int .i64 0, .int .i64 5, .int .i64 0, .int .u64 0, .int .i64 0, .string ⟨#[]⟩, .slice none 0 0, .slice (some ⟨w4.heap.size, 0, none⟩) 4 4, .int .i64 0] 47 (0, 0))
    rw [show (w4.alloc (.cells #[.int .i64 6, .int .i64 7, .int .i64 8, .int .i64 9] 3 (0, 0))).heap.size = w4.heap.size + 1 by simp] at q11
    have Tc := Lib.hid (t10.then t11)
    have Qc_0 := Lib.hid (t11.keeps q10)
    have Qc_1 := Lib.hid q11
    have CWc := Lib.hid (Cw5.out.go Tc.out).row
    have KAc := Lib.hid (show KeepAll Fw4 ((w4.alloc (.cells #[.int .i64 6, .int .i64 7, .int .i64 8, .int .i64 9] 3 (0, 0))).alloc (.cells #[.int .i64 37, .int .i64 0, .int .i64 5, .int .i64 0, .int .u64 0, .int .i64 0, .string ⟨#[]⟩, .slice none 0 0, .slice (some ⟨w4.heap.size, 0, none⟩) 4 4, .int .i64 0] 47 (0, 0))) [insV (insOf 37 0 5 0 0 0 [] [6, 7, 8, 9] 0) (.slice none 0 0) (.slice (some ⟨w4.heap.size, 0, none⟩) 4 4)] [insOf 37 0 5 0 0 0 [] [6, 7, 8, 9] 0] from ⟨fun y hy => ⟨_, _, rfl, ints_nil _ _, ints_keep (F := Fw4) (q := .i64) (zs := [6, 7, 8, 9]) Qc_0.out rfl (Cw5.out.fresh 0) rfl (by simp [maxLen]) (by decide) y hy⟩, trivial⟩)
    have BLc := Lib.hid (show ((w4.alloc (.cells #[.int .i64 6, .int .i64 7, .int .i64 8, .int .i64 9] 3 (0, 0))).alloc (.cells #[.int .i64 37, .int .i64 0, .int .i64 5, .int .i64 0, .int .u64 0, .int .i64 0, .string ⟨#[]⟩, .slice none 0 0, .slice (some ⟨w4.heap.size, 0, none⟩) 4 4, .int .i64 0] 47 (0, 0))).heap[w4.heap.size + 1]? = some (.cells (([insV (insOf 37 0 5 0 0 0 [] [6, 7, 8, 9] 0) (.slice none 0 0) (.slice (some ⟨w4.heap.size, 0, none⟩) 4 4)] : List Value).flatMap fun v => v.cells.toList).toArray 47 (0, 0)) from Qc_1.out)
    clear q10 t10 q11 t11
    go_wp2_with (first | (at_builtin; refine wpList_append_codeN rfl (.tmp 43) (.tmp 46) rfl 9 rfl CWc.out rfl BLc.out KAc.out rfl (by omega) (by rw [topC_len]; decide) (by rw [topC_len]; rfl) (show _ = topC off v0 v1 v2 v3 false ++ [insOf 37 0 5 0 0 0 [] [6, 7, 8, 9] 0] from rfl) ?_))
    intro gc capc w6 Fw6 hcr hF hFl st
    have Cw6 := Lib.hid ((Cw5.out.go Tc.out).app hcr (fun b hb => (hF b hb).imp_right fun h => by simpa using h) hFl st)
    clear hcr hF hFl
    have B0 := Lib.hid (show (topC off v0 v1 v2 v3 false ++ [insOf 37 0 5 0 0 0 [] [6, 7, 8, 9] 0]).length = 9 from by rw [List.length_append, topC_len]; rfl)
    obtain ⟨base, hbase⟩ : ∃ base, base = topC off v0 v1 v2 v3 false ++ [insOf 37 0 5 0 0 0 [] [6, 7, 8, 9] 0] := ⟨_, rfl⟩
    rw [← hbase] at Cw6 B0
    have HB := Lib.hid hbase
    clear hbase
    go_wp2_with fail
    go_loopw [8, 9] (fun x i wr => ∃ (k : Nat) (F : Nat → Prop) (q : Option Addr) (c : Nat), k ≤ 4 ∧ i = .int .i64 k ∧ x = .slice q (9 + 3 * k) c ∧ Code w2 wr F x (base ++ xorCs k)) (fun _ i _ => 4 - (intOf i).toNat)
    case atStart => exact ⟨0, Fw6, _, _, by omega, rfl, rfl, by have h := Cw6.out; rwa [show base = base ++ xorCs 0 from by unfold xorCs; simp] at h⟩
    case round =>
      obtain ⟨k, F, q, c, hk, rfl, rfl, hc⟩ := hrel
      have C := Lib.hid hc
      clear hc
      have HLEN := Lib.hid (show (base ++ xorCs k).length = 9 + 3 * k from by rw [List.length_append, B0.out, xorCs_len])
      by_cases hlt : k < 4
      · have hd : decide ((k : Int) < 4) = true := decide_eq_true (by omega)
        have q10 := heap_alloc_new wr (.cells #[.int .i64 3, .int .i64 (6 + k), .int .i64 (6 + k), .int .i64 (1 + k), .int .u64 6, .int .i64 0, .string ⟨#[]⟩, .slice none 0 0, .slice none 0 0, .int .i64 0, .int .i64 3, .int .i64 (6 + k), .int .i64 10, .int .i64 (6 + k), .int .u64 5, .int .i64 0, .string ⟨#[]⟩, .slice none 0 0, .slice none 0 0, .int .i64 0, .int .i64 20, .int .i64 0, .int .i64 (6 + k), .int .i64 0, .int .u64 0, .int .i64 0, .string ⟨#[]⟩, .slice none 0 0, .slice none 0 0, .int .i64 0] 47 (0, 0))
        have t10 := Step.alloc (fun _ => False) wr (.cells #[.int .i64 3, .int .i64 (6 + k), .int .i64 (6 + k), .int .i64 (1 + k), .int .u64 6, .int .i64 0, .string ⟨#[]⟩, .slice none 0 0, .slice none 0 0, .int .i64 0, .int .i64 3, .int .i64 (6 + k), .int .i64 10, .int .i64 (6 + k), .int .u64 5, .int .i64 0, .string ⟨#[]⟩, .slice none 0 0, .slice none 0 0, .int .i64 0, .int .i64 20, .int .i64 0, .int .i64 (6 + k), .int .i64 0, .int .u64 0, .int .i64 0, .string ⟨#[]⟩, .slice none 0 0, .slice none 0 0, .int .i64 0] 47 (0, 0))
        have Td := Lib.hid t10
        have Qd_0 := Lib.hid q10
        have CWd := Lib.hid (C.out.go Td.out).row
        have KAd := Lib.hid (show KeepAll F (wr.alloc (.cells #[.int .i64 3, .int .i64 (6 + k), .int .i64 (6 + k), .int .i64 (1 + k), .int .u64 6, .int .i64 0, .string ⟨#[]⟩, .slice none 0 0, .slice none 0 0, .int .i64 0, .int .i64 3, .int .i64 (6 + k), .int .i64 10, .int .i64 (6 + k), .int .u64 5, .int .i64 0, .string ⟨#[]⟩, .slice none 0 0, .slice none 0 0, .int .i64 0, .int .i64 20, .int .i64 0, .int .i64 (6 + k), .int .i64 0, .int .u64 0, .int .i64 0, .string ⟨#[]⟩, .slice none 0 0, .slice none 0 0, .int .i64 0] 47 (0, 0))) [insV (insOf 3 (6 + k) (6 + k) (1 + k) 6 0 [] [] 0) (.slice none 0 0) (.slice none 0 0), insV (insOf 3 (6 + k) 10 (6 + k) 5 0 [] [] 0) (.slice none 0 0) (.slice none 0 0), insV (insOf 20 0 (6 + k) 0 0 0 [] [] 0) (.slice none 0 0) (.slice none 0 0)] [insOf 3 (6 + k) (6 + k) (1 + k) 6 0 [] [] 0, insOf 3 (6 + k) 10 (6 + k) 5 0 [] [] 0, insOf 20 0 (6 + k) 0 0 0 [] [] 0] from ⟨keeps_bare rfl rfl, keeps_bare rfl rfl, keeps_bare rfl rfl, trivial⟩)
        have BLd := Lib.hid (show (wr.alloc (.cells #[.int .i64 3, .int .i64 (6 + k), .int .i64 (6 + k), .int .i64 (1 + k), .int .u64 6, .int .i64 0, .string ⟨#[]⟩, .slice none 0 0, .slice none 0 0, .int .i64 0, .int .i64 3, .int .i64 (6 + k), .int .i64 10, .int .i64 (6 + k), .int .u64 5, .int .i64 0, .string ⟨#[]⟩, .slice none 0 0, .slice none 0 0, .int .i64 0, .int .i64 20, .int .i64 0, .int .i64 (6 + k), .int .i64 0, .int .u64 0, .int .i64 0, .string ⟨#[]⟩, .slice none 0 0, .slice none 0 0, .int .i64 0] 47 (0, 0))).heap[wr.heap.size]? = some (.cells (([insV (insOf 3 (6 + k) (6 + k) (1 + k) 6 0 [] [] 0) (.slice none 0 0) (.slice none 0 0), insV (insOf 3 (6 + k) 10 (6 + k) 5 0 [] [] 0) (.slice none 0 0) (.slice none 0 0), insV (insOf 20 0 (6 + k) 0 0 0 [] [] 0) (.slice none 0 0) (.slice none 0 0)] : List Value).flatMap fun v => v.cells.toList).toArray 47 (0, 0)) from Qd_0.out)
        clear q10 t10
        go_wp2_with (first | (at_builtin; refine wpList_append_codeN rfl (.tmp 52) (.tmp 68) rfl (9 + 3 * (k + 1)) rfl CWd.out rfl BLd.out KAd.out rfl (by omega) (by have := HLEN.out; omega) (by have := HLEN.out; omega) (show _ = base ++ xorCs (k + 1) from (by rw [xorCs_succ, ← List.append_assoc]; rfl)) ?_))
        intro gd capd w7 Fw7 hcr hF hFl st
        have Cw7 := Lib.hid ((C.out.go Td.out).app hcr (fun b hb => (hF b hb).imp_right fun h => by simpa using h) hFl st)
        clear hcr hF hFl
        go_wp2_with fail
        go_roundw
        case rel => exact ⟨k + 1, Fw7, _, _, by omega, by go_num, rfl, Cw7.out⟩
        case measure => simp [intOf]; omega
      · have hd : decide ((k : Int) < 4) = false := decide_eq_false (by omega)
        obtain rfl : k = 4 := by omega
        clear hd
        have Cw7 := Lib.hid (show Code w2 wr F (.slice q 21 c) (base ++ xorCs 4) from C.out)
        clear C
        have q10 := heap_alloc_new wr (.cells #[.int .i64 6, .int .i64 7, .int .i64 8, .int .i64 9] 3 (0, 0))
        have t10 := Step.alloc (fun _ => False) wr (.cells #[.int .i64 6, .int .i64 7, .int .i64 8, .int .i64 9] 3 (0, 0))
        have q11 := heap_alloc_new (wr.alloc (.cells #[.int .i64 6, .int .i64 7, .int .i64 8, .int .i64 9] 3 (0, 0))) (.cells #[.int .i64 1, .int .i64 0, .int .i64 0, .int .i64 0, .int .u64 8, .int .i64 0, .string ⟨#[]⟩, .slice none 0 0, .slice none 0 0, .int .i64 0, .int .i64 3, .int .i64 5, .int .i64 5, .int .i64 0, .int .u64 1, .int .i64 0, .string ⟨#[]⟩, .slice none 0 0, .slice none 0 0, .int .i64 0, .int .i64 37, .int .i64 0, .int .i64 5, .int .i64 0, .int .u64 0, .int .i64 0, .string ⟨#[]⟩, .slice none 0 0, .slice (some ⟨wr.heap.size, 0, none⟩) 4 4, .int .i64 0] 47 (0, 0))
        have t11 := Step.alloc (fun _ => False) (wr.alloc (.cells #[.int .i64 6, .int .i64 7, .int .i64 8, .int .i64 9] 3 (0, 0))) (.cells #[.int .i64 1, .int .i64 0, .int .i64 0, .int .i64 0, .int .u64 8, .int .i64 0, .string ⟨#[]⟩, .slice none 0 0, .slice none 0 0, .int .i64 0, .int .i64 3, .int .i64 5, .int .i64 5, .int .i64 0, .int .u64 1, .int .i64 0, .string ⟨#[]⟩, .slice none 0 0, .slice none 0 0, .int .i64 0, .int .i64 37, .int .i64 0, .int .i64 5, .int .i64 0, .int .u64 0, .int .i64 0, .string ⟨#[]⟩, .slice none 0 0, .slice (some ⟨wr.heap.size, 0, none⟩) 4 4, .int .i64 0] 47 (0, 0))
        rw [show (wr.alloc (.cells #[.int .i64 6, .int .i64 7, .int .i64 8, .int .i64 9] 3 (0, 0))).heap.size = wr.heap.size + 1 by simp] at q11
        have Te := Lib.hid (t10.then t11)
        have Qe_0 := Lib.hid (t11.keeps q10)
        have Qe_1 := Lib.hid q11
        have CWe := Lib.hid (Cw7.out.go Te.out).row
        have KAe := Lib.hid (show KeepAll F ((wr.alloc (.cells #[.int .i64 6, .int .i64 7, .int .i64 8, .int .i64 9] 3 (0, 0))).alloc (.cells #[.int .i64 1, .int .i64 0, .int .i64 0, .int .i64 0, .int .u64 8, .int .i64 0, .string ⟨#[]⟩, .slice none 0 0, .slice none 0 0, .int .i64 0, .int .i64 3, .int .i64 5, .int .i64 5, .int .i64 0, .int .u64 1, .int .i64 0, .string ⟨#[]⟩, .slice none 0 0, .slice none 0 0, .int .i64 0, .int .i64 37, .int .i64 0, .int .i64 5, .int .i64 0, .int .u64 0, .int .i64 0, .string ⟨#[]⟩, .slice none 0 0, .slice (some ⟨wr.heap.size, 0, none⟩) 4 4, .int .i64 0] 47 (0, 0))) [insV (insOf 1 0 0 0 8 0 [] [] 0) (.slice none 0 0) (.slice none 0 0), insV (insOf 3 5 5 0 1 0 [] [] 0) (.slice none 0 0) (.slice none 0 0), insV (insOf 37 0 5 0 0 0 [] [6, 7, 8, 9] 0) (.slice none 0 0) (.slice (some ⟨wr.heap.size, 0, none⟩) 4 4)] [insOf 1 0 0 0 8 0 [] [] 0, insOf 3 5 5 0 1 0 [] [] 0, insOf 37 0 5 0 0 0 [] [6, 7, 8, 9] 0] from ⟨keeps_bare rfl rfl, keeps_bare rfl rfl, fun y hy => ⟨_, _, rfl, ints_nil _ _, ints_keep (F := F) (q := .i64) (zs := [6, 7, 8, 9]) Qe_0.out rfl (Cw7.out.fresh 0) rfl (by simp [maxLen]) (by decide) y hy⟩, trivial⟩)
        have BLe := Lib.hid (show ((wr.alloc (.cells #[.int .i64 6, .int .i64 7, .int .i64 8, .int .i64 9] 3 (0, 0))).alloc (.cells #[.int .i64 1, .int .i64 0, .int .i64 0, .int .i64 0, .int .u64 8, .int .i64 0, .string ⟨#[]⟩, .slice none 0 0, .slice none 0 0, .int .i64 0, .int .i64 3, .int .i64 5, .int .i64 5, .int .i64 0, .int .u64 1, .int .i64 0, .string ⟨#[]⟩, .slice none 0 0, .slice none 0 0, .int .i64 0, .int .i64 37, .int .i64 0, .int .i64 5, .int .i64 0, .int .u64 0, .int .i64 0, .string ⟨#[]⟩, .slice none 0 0, .slice (some ⟨wr.heap.size, 0, none⟩) 4 4, .int .i64 0] 47 (0, 0))).heap[wr.heap.size + 1]? = some (.cells (([insV (insOf 1 0 0 0 8 0 [] [] 0) (.slice none 0 0) (.slice none 0 0), insV (insOf 3 5 5 0 1 0 [] [] 0) (.slice none 0 0) (.slice none 0 0), insV (insOf 37 0 5 0 0 0 [] [6, 7, 8, 9] 0) (.slice none 0 0) (.slice (some ⟨wr.heap.size, 0, none⟩) 4 4)] : List Value).flatMap fun v => v.cells.toList).toArray 47 (0, 0)) from Qe_1.out)
        clear q10 t10 q11 t11
        go_wp2_with (first | (at_builtin; refine wpList_append_codeN rfl (.tmp 70) (.tmp 75) rfl 24 rfl CWe.out rfl BLe.out KAe.out rfl (by omega) (by have := HLEN.out; omega) (by have := HLEN.out; omega) (show _ = base ++ xorCs 4 ++ midC from rfl) ?_))
        intro ge cape w8 Fw8 hcr hF hFl st
        have Cw8 := Lib.hid ((Cw7.out.go Te.out).app hcr (fun b hb => (hF b hb).imp_right fun h => by simpa using h) hFl st)
        clear hcr hF hFl
        have B1 := Lib.hid (show (base ++ xorCs 4 ++ midC).length = 24 from by rw [List.length_append, HLEN.out]; rfl)
        obtain ⟨base1, hbase1⟩ : ∃ b, b = base ++ xorCs 4 ++ midC := ⟨_, rfl⟩
        rw [← List.append_assoc] at Cw8
        rw [← hbase1] at Cw8 B1
        have HB1 := Lib.hid hbase1
        clear hbase1 HLEN
        go_wp2_with fail
        clear hlt hk st
        go_loopw [8, 10] (fun x i wr => ∃ (k : Nat) (F : Nat → Prop) (q : Option Addr) (c : Nat), k ≤ 4 ∧ i = .int .i64 k ∧ x = .slice q (24 + 2 * k) c ∧ Code w2 wr F x (base1 ++ sltCs k)) (fun _ i _ => 4 - (intOf i).toNat)
        case atStart => exact ⟨0, Fw8, _, _, by omega, rfl, rfl, by have h := Cw8.out; rwa [show base1 = base1 ++ sltCs 0 from by unfold sltCs; simp] at h⟩
        case round =>
          clear Cw7 Cw8
          obtain ⟨k, F, q, c, hk, rfl, rfl, hc⟩ := hrel
          have C := Lib.hid hc
          clear hc
          have HLEN := Lib.hid (show (base1 ++ sltCs k).length = 24 + 2 * k from by rw [List.length_append, B1.out, sltCs_len])
          by_cases hlt : k < 4
          · have hd : decide ((k : Int) < 4) = true := decide_eq_true (by omega)
            have q10 := heap_alloc_new wr (.cells #[.int .i64 3, .int .i64 (6 + k), .int .i64 10, .int .i64 (6 + k), .int .u64 5, .int .i64 0, .string ⟨#[]⟩, .slice none 0 0, .slice none 0 0, .int .i64 0, .int .i64 20, .int .i64 0, .int .i64 (6 + k), .int .i64 0, .int .u64 0, .int .i64 0, .string ⟨#[]⟩, .slice none 0 0, .slice none 0 0, .int .i64 0] 47 (0, 0))
            have t10 := Step.alloc (fun _ => False) wr (.cells #[.int .i64 3, .int .i64 (6 + k), .int .i64 10, .int .i64 (6 + k), .int .u64 5, .int .i64 0, .string ⟨#[]⟩, .slice none 0 0, .slice none 0 0, .int .i64 0, .int .i64 20, .int .i64 0, .int .i64 (6 + k), .int .i64 0, .int .u64 0, .int .i64 0, .string ⟨#[]⟩, .slice none 0 0, .slice none 0 0, .int .i64 0] 47 (0, 0))
            have Tf := Lib.hid t10
            have Qf_0 := Lib.hid q10
            have CWf := Lib.hid (C.out.go Tf.out).row
            have KAf := Lib.hid (show KeepAll F (wr.alloc (.cells #[.int .i64 3, .int .i64 (6 + k), .int .i64 10, .int .i64 (6 + k), .int .u64 5, .int .i64 0, .string ⟨#[]⟩, .slice none 0 0, .slice none 0 0, .int .i64 0, .int .i64 20, .int .i64 0, .int .i64 (6 + k), .int .i64 0, .int .u64 0, .int .i64 0, .string ⟨#[]⟩, .slice none 0 0, .slice none 0 0, .int .i64 0] 47 (0, 0))) [insV (insOf 3 (6 + k) 10 (6 + k) 5 0 [] [] 0) (.slice none 0 0) (.slice none 0 0), insV (insOf 20 0 (6 + k) 0 0 0 [] [] 0) (.slice none 0 0) (.slice none 0 0)] [insOf 3 (6 + k) 10 (6 + k) 5 0 [] [] 0, insOf 20 0 (6 + k) 0 0 0 [] [] 0] from ⟨keeps_bare rfl rfl, keeps_bare rfl rfl, trivial⟩)
            have BLf := Lib.hid (show (wr.alloc (.cells #[.int .i64 3, .int .i64 (6 + k), .int .i64 10, .int .i64 (6 + k), .int .u64 5, .int .i64 0, .string ⟨#[]⟩, .slice none 0 0, .slice none 0 0, .int .i64 0, .int .i64 20, .int .i64 0, .int .i64 (6 + k), .int .i64 0, .int .u64 0, .int .i64 0, .string ⟨#[]⟩, .slice none 0 0, .slice none 0 0, .int .i64 0] 47 (0, 0))).heap[wr.heap.size]? = some (.cells (([insV (insOf 3 (6 + k) 10 (6 + k) 5 0 [] [] 0) (.slice none 0 0) (.slice none 0 0), insV (insOf 20 0 (6 + k) 0 0 0 [] [] 0) (.slice none 0 0) (.slice none 0 0)] : List Value).flatMap fun v => v.cells.toList).toArray 47 (0, 0)) from Qf_0.out)
            clear q10 t10
            go_wp2_with (first | (at_builtin; refine wpList_append_codeN rfl (.tmp 81) (.tmp 90) rfl (24 + 2 * (k + 1)) rfl CWf.out rfl BLf.out KAf.out rfl (by omega) (by have := HLEN.out; omega) (by have := HLEN.out; omega) (show _ = base1 ++ sltCs (k + 1) from (by rw [sltCs_succ, ← List.append_assoc]; rfl)) ?_))
            intro gf capf w9 Fw9 hcr hF hFl st
            have Cw9 := Lib.hid ((C.out.go Tf.out).app hcr (fun b hb => (hF b hb).imp_right fun h => by simpa using h) hFl st)
            clear hcr hF hFl
            go_wp2_with fail
            go_roundw
            case rel => exact ⟨k + 1, Fw9, _, _, by omega, by go_num, rfl, Cw9.out⟩
            case measure => simp [intOf]; omega
          · have hd : decide ((k : Int) < 4) = false := decide_eq_false (by omega)
            obtain rfl : k = 4 := by omega
            clear hd
            have Cw9 := Lib.hid (show Code w2 wr F (.slice q 32 c) (base1 ++ sltCs 4) from C.out)
            clear C
            have q10 := heap_alloc_new wr (.cells #[.int .i64 32] 3 (0, 0))
            have t10 := Step.alloc (fun _ => False) wr (.cells #[.int .i64 32] 3 (0, 0))
            have q11 := heap_alloc_new (wr.alloc (.cells #[.int .i64 32] 3 (0, 0))) (.cells #[.int .i64 43, .int .i64 0, .int .i64 0, .int .i64 0, .int .u64 0, .int .i64 0, .string ⟨#[]⟩, .slice none 0 0, .slice none 0 0, .int .i64 0] 47 (0, 0))
            have t11 := Step.alloc (fun _ => False) (wr.alloc (.cells #[.int .i64 32] 3 (0, 0))) (.cells #[.int .i64 43, .int .i64 0, .int .i64 0, .int .i64 0, .int .u64 0, .int .i64 0, .string ⟨#[]⟩, .slice none 0 0, .slice none 0 0, .int .i64 0] 47 (0, 0))
            rw [show (wr.alloc (.cells #[.int .i64 32] 3 (0, 0))).heap.size = wr.heap.size + 1 by simp] at q11
            have Tg := Lib.hid (t10.then t11)
            have Qg_0 := Lib.hid (t11.keeps q10)
            have Qg_1 := Lib.hid q11
            have CWg := Lib.hid (Cw9.out.go Tg.out).row
            have KAg := Lib.hid (show KeepAll F ((wr.alloc (.cells #[.int .i64 32] 3 (0, 0))).alloc (.cells #[.int .i64 43, .int .i64 0, .int .i64 0, .int .i64 0, .int .u64 0, .int .i64 0, .string ⟨#[]⟩, .slice none 0 0, .slice none 0 0, .int .i64 0] 47 (0, 0))) [insV (insOf 43 0 0 0 0 0 [] [] 0) (.slice none 0 0) (.slice none 0 0)] [insOf 43 0 0 0 0 0 [] [] 0] from ⟨keeps_bare rfl rfl, trivial⟩)
            have BLg := Lib.hid (show ((wr.alloc (.cells #[.int .i64 32] 3 (0, 0))).alloc (.cells #[.int .i64 43, .int .i64 0, .int .i64 0, .int .i64 0, .int .u64 0, .int .i64 0, .string ⟨#[]⟩, .slice none 0 0, .slice none 0 0, .int .i64 0] 47 (0, 0))).heap[wr.heap.size + 1]? = some (.cells (([insV (insOf 43 0 0 0 0 0 [] [] 0) (.slice none 0 0) (.slice none 0 0)] : List Value).flatMap fun v => v.cells.toList).toArray 47 (0, 0)) from Qg_1.out)
            clear q10 t10 q11 t11
            go_wp2_with (first | (at_builtin; refine wpList_append_codeN rfl (.tmp 93) (.tmp 95) rfl 33 rfl CWg.out rfl BLg.out KAg.out rfl (by omega) (by have := HLEN.out; omega) (by have := HLEN.out; omega) (show _ = shadowsC off v0 v1 v2 v3 false from by rw [HB1.out, HB.out]; exact all_there) ?_))
            intro gg capg w10 F10 hcr hF hFl st
            have C10 := Lib.hid ((Cw9.out.go Tg.out).app hcr (fun b hb => (hF b hb).imp_right fun h => by simpa using h) hFl st)
            have SL := Lib.hid (ints_keep (F := F) (q := .i64) (zs := [32]) Qg_0.out rfl (Cw9.out.fresh 0) rfl (by simp [maxLen]) (by decide) _ st)
            clear hcr hF hFl st
            go_wp2_with fail
            refine (alone_any (regs := 11) (sl := [32]) (by omega) SL.out C10.out.row.code).mono ?_
            rintro e w11 ⟨vt, vf, rfl, htops, hfns, s11⟩
            have RUN := Lib.hid (Run_any (w := w11) (fuel := 100) htops hfns (ints_nil .u8 w11) (unitOk_alone (by omega) (by simp) (by have e := HLEN.out; have e1 := congrArg List.length (show base1 ++ sltCs 4 ++ [insOf 43 0 0 0 0 0 [] [] 0] = shadowsC off v0 v1 v2 v3 false from by rw [HB1.out, HB.out]; exact all_there); rw [List.length_append, e] at e1; rw [← e1]; simp) (shadows_ok H64.out.1 H64.out.2.1 H64.out.2.2.1 H64.out.2.2.2.1 H64.out.2.2.2.2)) (by omega))
            have RUNS := shadows_run (clear := false) HO.out H64.out.2.1 H64.out.2.2.1 H64.out.2.2.2.1 H64.out.2.2.2.2
            unfold shR at RUNS
            rw [RUNS] at RUN
            have OUT := Lib.hid (out_at (clear := false) (fun z hz => (wfu64 (HV.out z hz)).1))
            obtain ⟨outl, houtl⟩ : ∃ l, l = [shO v0 false, shO v1 false, shO v2 false, shO v3 false, 0, 0, 0, 0] := ⟨_, rfl⟩
            have HOL := Lib.hid (show outl.length = 8 from by rw [houtl]; rfl)
            rw [← houtl] at RUN OUT
            have S11 := Lib.hid ((S2.out.then C10.out.step).then s11)
            have K11 := Lib.hid ((C10.out.step.then s11).keeps K2.out)
            clear s11 htops hfns RUNS houtl SL
            go_wp2_with fail
            refine RUN.out.mono ?_
            rintro e w12 ⟨vo, rfl, hrow, s12⟩
            simp only at hrow
            rw [HOL.out] at hrow
            obtain ⟨og, oc2, cur, rfl, _, hcur, _, _, _, htk⟩ := hrow.some (by omega)
            have k13 := heap_alloc_new w12 (.cells #[.int .i64 1, .int .u8 0, .int .i64 0, .slice (some ⟨og, 0, none⟩) 8 oc2, .int .i64 33, .int .i64 0] 31 (0, 0))
            have s13 := Step.alloc (fun _ => False) w12 (.cells #[.int .i64 1, .int .u8 0, .int .i64 0, .slice (some ⟨og, 0, none⟩) 8 oc2, .int .i64 33, .int .i64 0] 31 (0, 0))
            have CUR := Lib.hid (s13.keeps hcur)
            have HTK := Lib.hid htk
            have K12 := Lib.hid (s13.keeps (s12.keeps K11.out))
            have S13 := Lib.hid ((S11.out.then s12).then s13)
            unfold resV
            simp only [if_false, Bool.false_eq_true]
            clear hrow s12 s13 hcur htk k13
            go_wp2_with fail
            generalize w12.alloc (.cells #[.int .i64 1, .int .u8 0, .int .i64 0, .slice (some ⟨og, 0, none⟩) 8 oc2, .int .i64 33, .int .i64 0] 31 (0, 0)) = w13 at *
            clear hlt hk
            go_loop [12, 13, 14, 111] (fun _ _ _ i => ∃ k : Nat, k ≤ 8 ∧ i = .int .i64 k) (fun _ _ _ i => 8 - (intOf i).toNat)
            case atStart => exact ⟨0, by omega, rfl⟩
            case round =>
              obtain ⟨k, hk, rfl⟩ := hrel
              by_cases hlt : k < 8
              · have hd : decide ((k : Int) < 8) = true := decide_eq_true (by omega)
                obtain ⟨z, hz, hw⟩ := OUT.out k hlt
                have cz : w13.cell? ⟨og, k, none⟩ = some (.int .u8 z) := row_cell (size := 1) CUR.out HTK.out (by rw [List.getElem?_map, hz]; rfl)
                have HZ := Lib.hid hz
                clear hz
                cases h4 : decide ((k : Int) < 4) with
                | false =>
                  have hw2 : (z == 1) = false := by rw [hw]; unfold wantB; rw [decide_eq_false (show ¬ k < 4 by have := of_decide_eq_false h4; omega)]; rfl
                  clear hw
                  go_wp2_with fail
                  go_round
                  case rel => exact ⟨k + 1, by omega, by go_num⟩
                  case measure => simp [intOf]; omega
                | true =>
                  have hw2 : (z == 1) = false := by rw [hw]; unfold wantB; simp
                  clear hw
                  go_wp2_with fail
                  go_round
                  case rel => exact ⟨k + 1, by omega, by go_num⟩
                  case measure => simp [intOf]; omega
              · have hd : decide ((k : Int) < 8) = false := decide_eq_false (by omega)
                go_wp2_with fail
                go_ret
                exact ⟨rfl, S13.out.below (Nat.le_refl _) fun _ x => x.elim⟩

/-! ### The row. -/

set_option maxRecDepth 100000 in
theorem lifted (os : Os) (started : os.Started) (H : Type) (enc : TypeId × Value → H) :
    ReturnsInHanded {} Try.checked os 8 .any (Rows.fatShadowsSpec.pre6 enc Try.prog Try.f8 Rows.fatShadowsRow.domain false) (Rows.fatShadowsSpec.post enc Try.prog Try.f8 false true false false) := by
  refine returnsInHanded_of_change (C := Try.checked) own started (by kernel_rfl) Try.func8
    (ChangeSpec.witness6 (enc := enc) (C := Try.checked) false ⟨#[], #[.int .u8 0, .agg #[.int .u64 0, .int .u64 0, .int .u64 0, .int .u64 0], .bool false], []⟩ 8 (by kernel_rfl) (by kernel_rfl) (by kernel_rfl) (by kernel_rfl)) ?_
  intro W base args ds gs before hval0 hW hcnd _
  have hval : ∀ (j : Nat) t v, Try.f8.params[j]? = some t → args[j]? = some v → Value.okWide Try.prog W .any base t v := hval0
  have hW' := hW
  obtain ⟨p, q, hA0, hV, rfl, hfz, hnd⟩ := hW
  have hA : DataW.TrodAll enc Try.prog W 0 (fun _ => true) true Try.f8.params.toList args.toList ds p := hA0
  rw [Try.params8] at hA hval
  obtain ⟨v0, vs0, d0, ds0, p0, q0, hargs, rfl, rfl, h0, r0⟩ := trodAll_cons hA
  obtain ⟨v1, vs1, d1, ds1, p1, q1, rfl, rfl, rfl, h1, r1⟩ := trodAll_cons r0
  obtain ⟨v2, vs2, d2, ds2, p2, q2, rfl, rfl, rfl, h2, r2⟩ := trodAll_cons r1
  obtain ⟨rfl, rfl, rfl⟩ := trodAll_nil r2
  obtain rfl : args = #[v0, v1, v2] := by cases args; simp_all
  obtain ⟨rfl, rfl⟩ := trodVars_none hV
  obtain ⟨a0, rfl, rfl, rfl, wa⟩ := open_int Try.underlying5 (hval 0 5 v0 rfl rfl) h0
  obtain ⟨xs, hxs, rfl, rfl, rfl, wxs⟩ := open_int_arr Try.underlying51 Try.underlying38 (by kernel_rfl) (by kernel_rfl) (hval 1 51 v1 rfl rfl) h1
  obtain ⟨z0, z1, z2, z3, rfl⟩ := four_of xs hxs
  obtain ⟨b2, rfl, rfl, rfl⟩ := open_bool Try.underlying4 (hval 2 4 v2 rfl rfl) h2
  clear hA0 hval0
  simp only [List.append_nil] at hW'
  refine (walk a0 z0 z1 z2 z3 b2 (wfu8 wa) wxs W).mono fun e W' ⟨he, hb⟩ => ?_
  subst he
  exact ⟨_, rfl, law_post laidOut (by kernel_rfl) rfl rfl rfl Try.underlying4 hW' hb⟩

theorem over : Rows.fatShadowsRow.holds Try.pinned (OpenSpec.ofChange Rows.fatShadowsSpec) :=
  OpenClaim.holds_of_wide 8 Try.f8 rfl rfl rfl rfl rfl rfl rfl ⟨rfl, rfl, rfl, rfl, rfl⟩ rfl rfl rfl rfl rfl (by kernel_rfl) Try.func8 (by kernel_rfl)
    (of_decide_eq_true (by kernel_rfl)) (by unfold Func.isWrapper; first | (rw [if_pos (by decide +kernel)]; kernel_rfl) | (rw [if_neg (by decide +kernel)]; exact ⟨rfl, rfl⟩))
    (fun os started H enc _ => lifted os started H enc)

/-- The statement. -/
theorem proved : Rows.FatShadowsSaid :=
  over
#print axioms proved
end Go.Proofs.Ytpmbakhnamlooaa.fatShadows
