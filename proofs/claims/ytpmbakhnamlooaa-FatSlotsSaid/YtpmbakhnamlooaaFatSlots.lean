/- FatSlots returns true for every depth, with the check behind or without, without conditions. -/
import Derived.Test.YtpmbakhnamlooaaRows
import Derived.Lib.SmallJoins
import Derived.Test.YtpmbakhnamlooaaPureD
import Derived.Test.YtpmbakhnamlooaaLawE
import Derived.Test.YtpmbakhnamlooaaLawC
import Derived.Test.YtpmbakhnamlooaaLibF
import Derived.Test.YtpmbakhnamlooaaLibK
namespace Go.Proofs.Ytpmbakhnamlooaa.fatSlots
open Go.ChangeShapes Go.WideShapes Go.ChangeAt Go.RowKit Go.Joins
set_option linter.unusedVariables false
set_option linter.unusedSimpArgs false

theorem own : ownKnob Try.prog.godebug = none := by kernel_rfl

theorem laidOut : laidOutB Try.prog = true := by kernel_rfl
theorem strOfNums_app (xs ys : List Int) : strOfNums xs ++ strOfNums ys = strOfNums (xs ++ ys) := by
  apply ByteArray.ext
  rw [ByteArray.data_append]
  simp [strOfNums]
theorem unitOk_slots {n : Int} (hn : 0 ≤ n ∧ n ≤ 100) (b : Bool) : UnitOk topsV [aloneF 5 [] (slotM n b), slotF] := by
  have h1 : (slotM n b).all insOkB = true := by
    have e : insOkB (insOf 1 0 0 0 n 0 [] [] 0) = true := by
      have e1 : decide (0 ≤ n) = true := decide_eq_true hn.1
      have e2 : decide (n < 18446744073709551616) = true := decide_eq_true (by omega)
      show (true && decide (0 ≤ n) && decide (n < 18446744073709551616) && true && true && true && true) = true
      rw [e1, e2]; rfl
    unfold slotM slotH
    simp only [List.cons_append, List.nil_append, List.all_cons, e]
    cases b <;> decide
  have h2 : slotC.all insOkB = true := by decide
  rw [List.all_eq_true] at h1 h2
  have hl : (slotM n b).length ≤ 6 := by cases b <;> simp [slotM, slotH]
  refine ⟨by simp [topsV], by simp, fun f hf => ?_, fun f hf i hm => ?_⟩
  · simp only [List.mem_cons, List.not_mem_nil, or_false] at hf
    rcases hf with rfl | rfl
    · simp only [aloneF, List.length_replicate, List.length_nil, mainN]
      exact ⟨by omega, by omega, by omega, by omega, by simp [ByteArray.size, maxLen]⟩
    · simp only [slotF, List.length_replicate, List.length_nil, List.length_cons, slotC]
      exact ⟨by omega, by omega, by omega, by omega, by simp [ByteArray.size, maxLen]⟩
  · simp only [List.mem_cons, List.not_mem_nil, or_false] at hf
    rcases hf with rfl | rfl
    · exact insOk_of (h1 i hm)
    · exact insOk_of (h2 i hm)
theorem slots_facts {n : Nat} (h : n < 30) (b : Bool) : (slotR n b).state = (if b then 2 else 1) ∧ (slotR n b).out = ((List.range (n + 1)).map fun (i : Nat) => (i : Int)) ∧ (slotR n b).code = 0 := by
  have h := slots_all h
  rw [Bool.and_eq_true] at h
  have : slotsOk n b = true := by cases b; exact h.2; exact h.1
  unfold slotsOk at this
  simp only [Bool.and_eq_true, beq_iff_eq] at this
  exact ⟨this.1.1, this.1.2, this.2⟩
theorem range_more (k : Nat) : ((List.range (k + 1)).map fun (i : Nat) => (i : Int)) = ((List.range k).map fun (i : Nat) => (i : Int)) ++ [(k : Int)] := by
  rw [List.range_succ, List.map_append]; rfl
set_option maxHeartbeats 4000000 in
set_option maxRecDepth 100000 in
theorem walk (a : Int) (bh : Bool) (ha : 0 ≤ a ∧ a ≤ 255) (w : World) : Calls Try.prog 9 #[.int .u8 a, .bool bh] w fun e w' => e = .returned (.bool true) ∧ Below w.heap.size w w' := by
  obtain ⟨ha0, ha1⟩ := ha
  obtain ⟨i0, hi, hz0, hz1, hz2⟩ := info_parts int_info
  obtain ⟨j0, hj, hy0, hy1, hy2⟩ := info_parts fn_info
  go_enter Try.func9, Try.ntmps9
  go_wp2_with fail
  refine (awake_any w).mono ?_
  rintro e w2 ⟨rfl, s2⟩
  have S2 := Lib.hid s2
  clear s2
  obtain ⟨n, hn, hnv⟩ : ∃ n : Nat, n < 30 ∧ a % 30 = (n : Int) := ⟨(a % 30).toNat, by omega, by omega⟩
  go_upto_region 4 with fail
  rw [hnv]
  have HN := Lib.hid hn
  clear ha0 ha1 hnv hn
  have q10 := heap_alloc_new w2 (.cells #[.int .i64 0] 3 (0, 0))
  have t10 := Step.alloc (fun _ => False) w2 (.cells #[.int .i64 0] 3 (0, 0))
  have q11 := heap_alloc_new (w2.alloc (.cells #[.int .i64 0] 3 (0, 0))) (.cells #[.int .i64 16] 3 (0, 0))
  have t11 := Step.alloc (fun _ => False) (w2.alloc (.cells #[.int .i64 0] 3 (0, 0))) (.cells #[.int .i64 16] 3 (0, 0))
  rw [show (w2.alloc (.cells #[.int .i64 0] 3 (0, 0))).heap.size = w2.heap.size + 1 by simp] at q11
  have q12 := heap_alloc_new ((w2.alloc (.cells #[.int .i64 0] 3 (0, 0))).alloc (.cells #[.int .i64 16] 3 (0, 0))) (.cells #[.int .i64 3] 3 (0, 0))
  have t12 := Step.alloc (fun _ => False) ((w2.alloc (.cells #[.int .i64 0] 3 (0, 0))).alloc (.cells #[.int .i64 16] 3 (0, 0))) (.cells #[.int .i64 3] 3 (0, 0))
  rw [show ((w2.alloc (.cells #[.int .i64 0] 3 (0, 0))).alloc (.cells #[.int .i64 16] 3 (0, 0))).heap.size = w2.heap.size + 2 by simp] at q12
  have q13 := heap_alloc_new (((w2.alloc (.cells #[.int .i64 0] 3 (0, 0))).alloc (.cells #[.int .i64 16] 3 (0, 0))).alloc (.cells #[.int .i64 3] 3 (0, 0))) (.cells #[.int .i64 4, .int .i64 5, .int .i64 6] 3 (0, 0))
  have t13 := Step.alloc (fun _ => False) (((w2.alloc (.cells #[.int .i64 0] 3 (0, 0))).alloc (.cells #[.int .i64 16] 3 (0, 0))).alloc (.cells #[.int .i64 3] 3 (0, 0))) (.cells #[.int .i64 4, .int .i64 5, .int .i64 6] 3 (0, 0))
  rw [show (((w2.alloc (.cells #[.int .i64 0] 3 (0, 0))).alloc (.cells #[.int .i64 16] 3 (0, 0))).alloc (.cells #[.int .i64 3] 3 (0, 0))).heap.size = w2.heap.size + 3 by simp] at q13
  have q14 := heap_alloc_new ((((w2.alloc (.cells #[.int .i64 0] 3 (0, 0))).alloc (.cells #[.int .i64 16] 3 (0, 0))).alloc (.cells #[.int .i64 3] 3 (0, 0))).alloc (.cells #[.int .i64 4, .int .i64 5, .int .i64 6] 3 (0, 0))) (.cells #[.int .i64 1, .int .i64 1, .int .i64 10, .int .i64 8, .int .i64 9] 3 (0, 0))
  have t14 := Step.alloc (fun _ => False) ((((w2.alloc (.cells #[.int .i64 0] 3 (0, 0))).alloc (.cells #[.int .i64 16] 3 (0, 0))).alloc (.cells #[.int .i64 3] 3 (0, 0))).alloc (.cells #[.int .i64 4, .int .i64 5, .int .i64 6] 3 (0, 0))) (.cells #[.int .i64 1, .int .i64 1, .int .i64 10, .int .i64 8, .int .i64 9] 3 (0, 0))
  rw [show ((((w2.alloc (.cells #[.int .i64 0] 3 (0, 0))).alloc (.cells #[.int .i64 16] 3 (0, 0))).alloc (.cells #[.int .i64 3] 3 (0, 0))).alloc (.cells #[.int .i64 4, .int .i64 5, .int .i64 6] 3 (0, 0))).heap.size = w2.heap.size + 4 by simp] at q14
  have q15 := heap_alloc_new (((((w2.alloc (.cells #[.int .i64 0] 3 (0, 0))).alloc (.cells #[.int .i64 16] 3 (0, 0))).alloc (.cells #[.int .i64 3] 3 (0, 0))).alloc (.cells #[.int .i64 4, .int .i64 5, .int .i64 6] 3 (0, 0))).alloc (.cells #[.int .i64 1, .int .i64 1, .int .i64 10, .int .i64 8, .int .i64 9] 3 (0, 0))) (.cells #[.int .i64 1, .int .i64 8, .int .i64 9] 3 (0, 0))
  have t15 := Step.alloc (fun _ => False) (((((w2.alloc (.cells #[.int .i64 0] 3 (0, 0))).alloc (.cells #[.int .i64 16] 3 (0, 0))).alloc (.cells #[.int .i64 3] 3 (0, 0))).alloc (.cells #[.int .i64 4, .int .i64 5, .int .i64 6] 3 (0, 0))).alloc (.cells #[.int .i64 1, .int .i64 1, .int .i64 10, .int .i64 8, .int .i64 9] 3 (0, 0))) (.cells #[.int .i64 1, .int .i64 8, .int .i64 9] 3 (0, 0))
  rw [show (((((w2.alloc (.cells #[.int .i64 0] 3 (0, 0))).alloc (.cells #[.int .i64 16] 3 (0, 0))).alloc (.cells #[.int .i64 3] 3 (0, 0))).alloc (.cells #[.int .i64 4, .int .i64 5, .int .i64 6] 3 (0, 0))).alloc (.cells #[.int .i64 1, .int .i64 1, .int .i64 10, .int .i64 8, .int .i64 9] 3 (0, 0))).heap.size = w2.heap.size + 5 by simp] at q15
  have q16 := heap_alloc_new ((((((w2.alloc (.cells #[.int .i64 0] 3 (0, 0))).alloc (.cells #[.int .i64 16] 3 (0, 0))).alloc (.cells #[.int .i64 3] 3 (0, 0))).alloc (.cells #[.int .i64 4, .int .i64 5, .int .i64 6] 3 (0, 0))).alloc (.cells #[.int .i64 1, .int .i64 1, .int .i64 10, .int .i64 8, .int .i64 9] 3 (0, 0))).alloc (.cells #[.int .i64 1, .int .i64 8, .int .i64 9] 3 (0, 0))) (.cells #[.int .i64 31, .int .i64 1, .int .i64 0, .int .i64 0, .int .u64 0, .int .i64 0, .string ⟨#[]⟩, .slice none 0 0, .slice none 0 0, .int .i64 0, .int .i64 36, .int .i64 0, .int .i64 1, .int .i64 0, .int .u64 0, .int .i64 8, .string ⟨#[]⟩, .slice none 0 0, .slice none 0 0, .int .i64 0, .int .i64 19, .int .i64 0, .int .i64 0, .int .i64 0, .int .u64 0, .int .i64 0, .string ⟨#[]⟩, .slice none 0 0, .slice none 0 0, .int .i64 4, .int .i64 18, .int .i64 0, .int .i64 0, .int .i64 0, .int .u64 0, .int .i64 0, .string ⟨#[]⟩, .slice none 0 0, .slice none 0 0, .int .i64 7, .int .i64 1, .int .i64 2, .int .i64 0, .int .i64 0, .int .u64 1, .int .i64 0, .string ⟨#[]⟩, .slice none 0 0, .slice none 0 0, .int .i64 0, .int .i64 3, .int .i64 3, .int .i64 0, .int .i64 2, .int .u64 2, .int .i64 0, .string ⟨#[]⟩, .slice none 0 0, .slice none 0 0, .int .i64 0, .int .i64 42, .int .i64 0, .int .i64 0, .int .i64 0, .int .u64 0, .int .i64 0, .string ⟨#[102]⟩, .slice (some ⟨w2.heap.size + 2, 0, none⟩) 1 1, .slice (some ⟨w2.heap.size + 3, 0, none⟩) 3 3, .int .i64 0, .int .i64 35, .int .i64 7, .int .i64 1, .int .i64 0, .int .u64 0, .int .i64 8, .string ⟨#[]⟩, .slice none 0 0, .slice none 0 0, .int .i64 0, .int .i64 20, .int .i64 0, .int .i64 7, .int .i64 0, .int .u64 0, .int .i64 0, .string ⟨#[]⟩, .slice none 0 0, .slice none 0 0, .int .i64 0, .int .i64 33, .int .i64 8, .int .i64 0, .int .i64 0, .int .u64 0, .int .i64 0, .string ⟨#[]⟩, .slice none 0 0, .slice none 0 0, .int .i64 0, .int .i64 32, .int .i64 9, .int .i64 0, .int .i64 0, .int .u64 0, .int .i64 0, .string ⟨#[]⟩, .slice none 0 0, .slice none 0 0, .int .i64 0, .int .i64 1, .int .i64 2, .int .i64 0, .int .i64 0, .int .u64 8, .int .i64 0, .string ⟨#[]⟩, .slice none 0 0, .slice none 0 0, .int .i64 0, .int .i64 3, .int .i64 10, .int .i64 1, .int .i64 2, .int .u64 1, .int .i64 0, .string ⟨#[]⟩, .slice none 0 0, .slice none 0 0, .int .i64 0, .int .i64 34, .int .i64 0, .int .i64 0, .int .i64 0, .int .u64 0, .int .i64 8, .string ⟨#[]⟩, .slice (some ⟨w2.heap.size + 4, 0, none⟩) 5 5, .slice none 0 0, .int .i64 0, .int .i64 43, .int .i64 0, .int .i64 0, .int .i64 0, .int .u64 0, .int .i64 0, .string ⟨#[]⟩, .slice (some ⟨w2.heap.size + 5, 0, none⟩) 3 3, .slice none 0 0, .int .i64 0] 47 (0, 0))
  have t16 := Step.alloc (fun _ => False) ((((((w2.alloc (.cells #[.int .i64 0] 3 (0, 0))).alloc (.cells #[.int .i64 16] 3 (0, 0))).alloc (.cells #[.int .i64 3] 3 (0, 0))).alloc (.cells #[.int .i64 4, .int .i64 5, .int .i64 6] 3 (0, 0))).alloc (.cells #[.int .i64 1, .int .i64 1, .int .i64 10, .int .i64 8, .int .i64 9] 3 (0, 0))).alloc (.cells #[.int .i64 1, .int .i64 8, .int .i64 9] 3 (0, 0))) (.cells #[.int .i64 31, .int .i64 1, .int .i64 0, .int .i64 0, .int .u64 0, .int .i64 0, .string ⟨#[]⟩, .slice none 0 0, .slice none 0 0, .int .i64 0, .int .i64 36, .int .i64 0, .int .i64 1, .int .i64 0, .int .u64 0, .int .i64 8, .string ⟨#[]⟩, .slice none 0 0, .slice none 0 0, .int .i64 0, .int .i64 19, .int .i64 0, .int .i64 0, .int .i64 0, .int .u64 0, .int .i64 0, .string ⟨#[]⟩, .slice none 0 0, .slice none 0 0, .int .i64 4, .int .i64 18, .int .i64 0, .int .i64 0, .int .i64 0, .int .u64 0, .int .i64 0, .string ⟨#[]⟩, .slice none 0 0, .slice none 0 0, .int .i64 7, .int .i64 1, .int .i64 2, .int .i64 0, .int .i64 0, .int .u64 1, .int .i64 0, .string ⟨#[]⟩, .slice none 0 0, .slice none 0 0, .int .i64 0, .int .i64 3, .int .i64 3, .int .i64 0, .int .i64 2, .int .u64 2, .int .i64 0, .string ⟨#[]⟩, .slice none 0 0, .slice none 0 0, .int .i64 0, .int .i64 42, .int .i64 0, .int .i64 0, .int .i64 0, .int .u64 0, .int .i64 0, .string ⟨#[102]⟩, .slice (some ⟨w2.heap.size + 2, 0, none⟩) 1 1, .slice (some ⟨w2.heap.size + 3, 0, none⟩) 3 3, .int .i64 0, .int .i64 35, .int .i64 7, .int .i64 1, .int .i64 0, .int .u64 0, .int .i64 8, .string ⟨#[]⟩, .slice none 0 0, .slice none 0 0, .int .i64 0, .int .i64 20, .int .i64 0, .int .i64 7, .int .i64 0, .int .u64 0, .int .i64 0, .string ⟨#[]⟩, .slice none 0 0, .slice none 0 0, .int .i64 0, .int .i64 33, .int .i64 8, .int .i64 0, .int .i64 0, .int .u64 0, .int .i64 0, .string ⟨#[]⟩, .slice none 0 0, .slice none 0 0, .int .i64 0, .int .i64 32, .int .i64 9, .int .i64 0, .int .i64 0, .int .u64 0, .int .i64 0, .string ⟨#[]⟩, .slice none 0 0, .slice none 0 0, .int .i64 0, .int .i64 1, .int .i64 2, .int .i64 0, .int .i64 0, .int .u64 8, .int .i64 0, .string ⟨#[]⟩, .slice none 0 0, .slice none 0 0, .int .i64 0, .int .i64 3, .int .i64 10, .int .i64 1, .int .i64 2, .int .u64 1, .int .i64 0, .string ⟨#[]⟩, .slice none 0 0, .slice none 0 0, .int .i64 0, .int .i64 34, .int .i64 0, .int .i64 0, .int .i64 0, .int .u64 0, .int .i64 8, .string ⟨#[]⟩, .slice (some ⟨w2.heap.size + 4, 0, none⟩) 5 5, .slice none 0 0, .int .i64 0, .int .i64 43, .int .i64 0, .int .i64 0, .int .i64 0, .int .u64 0, .int .i64 0, .string ⟨#[]⟩, .slice (some ⟨w2.heap.size + 5, 0, none⟩) 3 3, .slice none 0 0, .int .i64 0] 47 (0, 0))
  rw [show ((((((w2.alloc (.cells #[.int .i64 0] 3 (0, 0))).alloc (.cells #[.int .i64 16] 3 (0, 0))).alloc (.cells #[.int .i64 3] 3 (0, 0))).alloc (.cells #[.int .i64 4, .int .i64 5, .int .i64 6] 3 (0, 0))).alloc (.cells #[.int .i64 1, .int .i64 1, .int .i64 10, .int .i64 8, .int .i64 9] 3 (0, 0))).alloc (.cells #[.int .i64 1, .int .i64 8, .int .i64 9] 3 (0, 0))).heap.size = w2.heap.size + 6 by simp] at q16
  have Ta := Lib.hid ((((((t10.then t11).then t12).then t13).then t14).then t15).then t16)
  have Qa_0 := Lib.hid (t16.keeps (t15.keeps (t14.keeps (t13.keeps (t12.keeps (t11.keeps q10))))))
  have Qa_1 := Lib.hid (t16.keeps (t15.keeps (t14.keeps (t13.keeps (t12.keeps q11)))))
  have Qa_2 := Lib.hid (t16.keeps (t15.keeps (t14.keeps (t13.keeps q12))))
  have Qa_3 := Lib.hid (t16.keeps (t15.keeps (t14.keeps q13)))
  have Qa_4 := Lib.hid (t16.keeps (t15.keeps q14))
  have Qa_5 := Lib.hid (t16.keeps q15)
  have Qa_6 := Lib.hid q16
  have KAa := Lib.hid (show KeepAll (fun x => w2.heap.size + 6 ≤ x) (((((((w2.alloc (.cells #[.int .i64 0] 3 (0, 0))).alloc (.cells #[.int .i64 16] 3 (0, 0))).alloc (.cells #[.int .i64 3] 3 (0, 0))).alloc (.cells #[.int .i64 4, .int .i64 5, .int .i64 6] 3 (0, 0))).alloc (.cells #[.int .i64 1, .int .i64 1, .int .i64 10, .int .i64 8, .int .i64 9] 3 (0, 0))).alloc (.cells #[.int .i64 1, .int .i64 8, .int .i64 9] 3 (0, 0))).alloc (.cells #[.int .i64 31, .int .i64 1, .int .i64 0, .int .i64 0, .int .u64 0, .int .i64 0, .string ⟨#[]⟩, .slice none 0 0, .slice none 0 0, .int .i64 0, .int .i64 36, .int .i64 0, .int .i64 1, .int .i64 0, .int .u64 0, .int .i64 8, .string ⟨#[]⟩, .slice none 0 0, .slice none 0 0, .int .i64 0, .int .i64 19, .int .i64 0, .int .i64 0, .int .i64 0, .int .u64 0, .int .i64 0, .string ⟨#[]⟩, .slice none 0 0, .slice none 0 0, .int .i64 4, .int .i64 18, .int .i64 0, .int .i64 0, .int .i64 0, .int .u64 0, .int .i64 0, .string ⟨#[]⟩, .slice none 0 0, .slice none 0 0, .int .i64 7, .int .i64 1, .int .i64 2, .int .i64 0, .int .i64 0, .int .u64 1, .int .i64 0, .string ⟨#[]⟩, .slice none 0 0, .slice none 0 0, .int .i64 0, .int .i64 3, .int .i64 3, .int .i64 0, .int .i64 2, .int .u64 2, .int .i64 0, .string ⟨#[]⟩, .slice none 0 0, .slice none 0 0, .int .i64 0, .int .i64 42, .int .i64 0, .int .i64 0, .int .i64 0, .int .u64 0, .int .i64 0, .string ⟨#[102]⟩, .slice (some ⟨w2.heap.size + 2, 0, none⟩) 1 1, .slice (some ⟨w2.heap.size + 3, 0, none⟩) 3 3, .int .i64 0, .int .i64 35, .int .i64 7, .int .i64 1, .int .i64 0, .int .u64 0, .int .i64 8, .string ⟨#[]⟩, .slice none 0 0, .slice none 0 0, .int .i64 0, .int .i64 20, .int .i64 0, .int .i64 7, .int .i64 0, .int .u64 0, .int .i64 0, .string ⟨#[]⟩, .slice none 0 0, .slice none 0 0, .int .i64 0, .int .i64 33, .int .i64 8, .int .i64 0, .int .i64 0, .int .u64 0, .int .i64 0, .string ⟨#[]⟩, .slice none 0 0, .slice none 0 0, .int .i64 0, .int .i64 32, .int .i64 9, .int .i64 0, .int .i64 0, .int .u64 0, .int .i64 0, .string ⟨#[]⟩, .slice none 0 0, .slice none 0 0, .int .i64 0, .int .i64 1, .int .i64 2, .int .i64 0, .int .i64 0, .int .u64 8, .int .i64 0, .string ⟨#[]⟩, .slice none 0 0, .slice none 0 0, .int .i64 0, .int .i64 3, .int .i64 10, .int .i64 1, .int .i64 2, .int .u64 1, .int .i64 0, .string ⟨#[]⟩, .slice none 0 0, .slice none 0 0, .int .i64 0, .int .i64 34, .int .i64 0, .int .i64 0, .int .i64 0, .int .u64 0, .int .i64 8, .string ⟨#[]⟩, .slice (some ⟨w2.heap.size + 4, 0, none⟩) 5 5, .slice none 0 0, .int .i64 0, .int .i64 43, .int .i64 0, .int .i64 0, .int .i64 0, .int .u64 0, .int .i64 0, .string ⟨#[]⟩, .slice (some ⟨w2.heap.size + 5, 0, none⟩) 3 3, .slice none 0 0, .int .i64 0] 47 (0, 0))) [insV (insOf 31 1 0 0 0 0 [] [] 0) (.slice none 0 0) (.slice none 0 0), insV (insOf 36 0 1 0 0 8 [] [] 0) (.slice none 0 0) (.slice none 0 0), insV (insOf 19 0 0 0 0 0 [] [] 4) (.slice none 0 0) (.slice none 0 0), insV (insOf 18 0 0 0 0 0 [] [] 7) (.slice none 0 0) (.slice none 0 0), insV (insOf 1 2 0 0 1 0 [] [] 0) (.slice none 0 0) (.slice none 0 0), insV (insOf 3 3 0 2 2 0 [] [] 0) (.slice none 0 0) (.slice none 0 0), insV ((⟨42, 0, 0, 0, 0, 0, ⟨#[102]⟩, [3], [4, 5, 6], 0⟩ : FIns)) (.slice (some ⟨w2.heap.size + 2, 0, none⟩) 1 1) (.slice (some ⟨w2.heap.size + 3, 0, none⟩) 3 3), insV (insOf 35 7 1 0 0 8 [] [] 0) (.slice none 0 0) (.slice none 0 0), insV (insOf 20 0 7 0 0 0 [] [] 0) (.slice none 0 0) (.slice none 0 0), insV (insOf 33 8 0 0 0 0 [] [] 0) (.slice none 0 0) (.slice none 0 0), insV (insOf 32 9 0 0 0 0 [] [] 0) (.slice none 0 0) (.slice none 0 0), insV (insOf 1 2 0 0 8 0 [] [] 0) (.slice none 0 0) (.slice none 0 0), insV (insOf 3 10 1 2 1 0 [] [] 0) (.slice none 0 0) (.slice none 0 0), insV (insOf 34 0 0 0 0 8 [1, 1, 10, 8, 9] [] 0) (.slice (some ⟨w2.heap.size + 4, 0, none⟩) 5 5) (.slice none 0 0), insV (insOf 43 0 0 0 0 0 [1, 8, 9] [] 0) (.slice (some ⟨w2.heap.size + 5, 0, none⟩) 3 3) (.slice none 0 0)] [insOf 31 1 0 0 0 0 [] [] 0, insOf 36 0 1 0 0 8 [] [] 0, insOf 19 0 0 0 0 0 [] [] 4, insOf 18 0 0 0 0 0 [] [] 7, insOf 1 2 0 0 1 0 [] [] 0, insOf 3 3 0 2 2 0 [] [] 0, (⟨42, 0, 0, 0, 0, 0, ⟨#[102]⟩, [3], [4, 5, 6], 0⟩ : FIns), insOf 35 7 1 0 0 8 [] [] 0, insOf 20 0 7 0 0 0 [] [] 0, insOf 33 8 0 0 0 0 [] [] 0, insOf 32 9 0 0 0 0 [] [] 0, insOf 1 2 0 0 8 0 [] [] 0, insOf 3 10 1 2 1 0 [] [] 0, insOf 34 0 0 0 0 8 [1, 1, 10, 8, 9] [] 0, insOf 43 0 0 0 0 0 [1, 8, 9] [] 0] from ⟨keeps_bare rfl rfl, keeps_bare rfl rfl, keeps_bare rfl rfl, keeps_bare rfl rfl, keeps_bare rfl rfl, keeps_bare rfl rfl, fun y hy => ⟨_, _, rfl, ints_keep (F := (fun x => w2.heap.size + 6 ≤ x)) (q := .i64) (zs := [3]) Qa_2.out rfl (show ¬ (w2.heap.size + 6 ≤ w2.heap.size + 2) by omega) rfl (by simp [maxLen]) (by decide) y hy, ints_keep (F := (fun x => w2.heap.size + 6 ≤ x)) (q := .i64) (zs := [4, 5, 6]) Qa_3.out rfl (show ¬ (w2.heap.size + 6 ≤ w2.heap.size + 3) by omega) rfl (by simp [maxLen]) (by decide) y hy⟩, keeps_bare rfl rfl, keeps_bare rfl rfl, keeps_bare rfl rfl, keeps_bare rfl rfl, keeps_bare rfl rfl, keeps_bare rfl rfl, fun y hy => ⟨_, _, rfl, ints_keep (F := (fun x => w2.heap.size + 6 ≤ x)) (q := .i64) (zs := [1, 1, 10, 8, 9]) Qa_4.out rfl (show ¬ (w2.heap.size + 6 ≤ w2.heap.size + 4) by omega) rfl (by simp [maxLen]) (by decide) y hy, ints_nil _ _⟩, fun y hy => ⟨_, _, rfl, ints_keep (F := (fun x => w2.heap.size + 6 ≤ x)) (q := .i64) (zs := [1, 8, 9]) Qa_5.out rfl (show ¬ (w2.heap.size + 6 ≤ w2.heap.size + 5) by omega) rfl (by simp [maxLen]) (by decide) y hy, ints_nil _ _⟩, trivial⟩)
  have BLa := Lib.hid (show (((((((w2.alloc (.cells #[.int .i64 0] 3 (0, 0))).alloc (.cells #[.int .i64 16] 3 (0, 0))).alloc (.cells #[.int .i64 3] 3 (0, 0))).alloc (.cells #[.int .i64 4, .int .i64 5, .int .i64 6] 3 (0, 0))).alloc (.cells #[.int .i64 1, .int .i64 1, .int .i64 10, .int .i64 8, .int .i64 9] 3 (0, 0))).alloc (.cells #[.int .i64 1, .int .i64 8, .int .i64 9] 3 (0, 0))).alloc (.cells #[.int .i64 31, .int .i64 1, .int .i64 0, .int .i64 0, .int .u64 0, .int .i64 0, .string ⟨#[]⟩, .slice none 0 0, .slice none 0 0, .int .i64 0, .int .i64 36, .int .i64 0, .int .i64 1, .int .i64 0, .int .u64 0, .int .i64 8, .string ⟨#[]⟩, .slice none 0 0, .slice none 0 0, .int .i64 0, .int .i64 19, .int .i64 0, .int .i64 0, .int .i64 0, .int .u64 0, .int .i64 0, .string ⟨#[]⟩, .slice none 0 0, .slice none 0 0, .int .i64 4, .int .i64 18, .int .i64 0, .int .i64 0, .int .i64 0, .int .u64 0, .int .i64 0, .string ⟨#[]⟩, .slice none 0 0, .slice none 0 0, .int .i64 7, .int .i64 1, .int .i64 2, .int .i64 0, .int .i64 0, .int .u64 1, .int .i64 0, .string ⟨#[]⟩, .slice none 0 0, .slice none 0 0, .int .i64 0, .int .i64 3, .int .i64 3, .int .i64 0, .int .i64 2, .int .u64 2, .int .i64 0, .string ⟨#[]⟩, .slice none 0 0, .slice none 0 0, .int .i64 0, .int .i64 42, .int .i64 0, .int .i64 0, .int .i64 0, .int .u64 0, .int .i64 0, .string ⟨#[102]⟩, .slice (some ⟨w2.heap.size + 2, 0, none⟩) 1 1, .slice (some ⟨w2.heap.size + 3, 0, none⟩) 3 3, .int .i64 0, .int .i64 35, .int .i64 7, .int .i64 1, .int .i64 0, .int .u64 0, .int .i64 8, .string ⟨#[]⟩, .slice none 0 0, .slice none 0 0, .int .i64 0, .int .i64 20, .int .i64 0, .int .i64 7, .int .i64 0, .int .u64 0, .int .i64 0, .string ⟨#[]⟩, .slice none 0 0, .slice none 0 0, .int .i64 0, .int .i64 33, .int .i64 8, .int .i64 0, .int .i64 0, .int .u64 0, .int .i64 0, .string ⟨#[]⟩, .slice none 0 0, .slice none 0 0, .int .i64 0, .int .i64 32, .int .i64 9, .int .i64 0, .int .i64 0, .int .u64 0, .int .i64 0, .string ⟨#[]⟩, .slice none 0 0, .slice none 0 0, .int .i64 0, .int .i64 1, .int .i64 2, .int .i64 0, .int .i64 0, .int .u64 8, .int .i64 0, .string ⟨#[]⟩, .slice none 0 0, .slice none 0 0, .int .i64 0, .int .i64 3, .int .i64 10, .int .i64 1, .int .i64 2, .int .u64 1, .int .i64 0, .string ⟨#[]⟩, .slice none 0 0, .slice none 0 0, .int .i64 0, .int .i64 34, .int .i64 0, .int .i64 0, .int .i64 0, .int .u64 0, .int .i64 8, .string ⟨#[]⟩, .slice (some ⟨w2.heap.size + 4, 0, none⟩) 5 5, .slice none 0 0, .int .i64 0, .int .i64 43, .int .i64 0, .int .i64 0, .int .i64 0, .int .u64 0, .int .i64 0, .string ⟨#[]⟩, .slice (some ⟨w2.heap.size + 5, 0, none⟩) 3 3, .slice none 0 0, .int .i64 0] 47 (0, 0))).heap[w2.heap.size + 6]? = some (.cells (([insV (insOf 31 1 0 0 0 0 [] [] 0) (.slice none 0 0) (.slice none 0 0), insV (insOf 36 0 1 0 0 8 [] [] 0) (.slice none 0 0) (.slice none 0 0), insV (insOf 19 0 0 0 0 0 [] [] 4) (.slice none 0 0) (.slice none 0 0), insV (insOf 18 0 0 0 0 0 [] [] 7) (.slice none 0 0) (.slice none 0 0), insV (insOf 1 2 0 0 1 0 [] [] 0) (.slice none 0 0) (.slice none 0 0), insV (insOf 3 3 0 2 2 0 [] [] 0) (.slice none 0 0) (.slice none 0 0), insV ((⟨42, 0, 0, 0, 0, 0, ⟨#[102]⟩, [3], [4, 5, 6], 0⟩ : FIns)) (.slice (some ⟨w2.heap.size + 2, 0, none⟩) 1 1) (.slice (some ⟨w2.heap.size + 3, 0, none⟩) 3 3), insV (insOf 35 7 1 0 0 8 [] [] 0) (.slice none 0 0) (.slice none 0 0), insV (insOf 20 0 7 0 0 0 [] [] 0) (.slice none 0 0) (.slice none 0 0), insV (insOf 33 8 0 0 0 0 [] [] 0) (.slice none 0 0) (.slice none 0 0), insV (insOf 32 9 0 0 0 0 [] [] 0) (.slice none 0 0) (.slice none 0 0), insV (insOf 1 2 0 0 8 0 [] [] 0) (.slice none 0 0) (.slice none 0 0), insV (insOf 3 10 1 2 1 0 [] [] 0) (.slice none 0 0) (.slice none 0 0), insV (insOf 34 0 0 0 0 8 [1, 1, 10, 8, 9] [] 0) (.slice (some ⟨w2.heap.size + 4, 0, none⟩) 5 5) (.slice none 0 0), insV (insOf 43 0 0 0 0 0 [1, 8, 9] [] 0) (.slice (some ⟨w2.heap.size + 5, 0, none⟩) 3 3) (.slice none 0 0)] : List Value).flatMap fun v => v.cells.toList).toArray 47 (0, 0)) from Qa_6.out)
  clear q10 t10 q11 t11 q12 t12 q13 t13 q14 t14 q15 t15 q16 t16
  have k3 := heap_alloc_new (((((((w2.alloc (.cells #[.int .i64 0] 3 (0, 0))).alloc (.cells #[.int .i64 16] 3 (0, 0))).alloc (.cells #[.int .i64 3] 3 (0, 0))).alloc (.cells #[.int .i64 4, .int .i64 5, .int .i64 6] 3 (0, 0))).alloc (.cells #[.int .i64 1, .int .i64 1, .int .i64 10, .int .i64 8, .int .i64 9] 3 (0, 0))).alloc (.cells #[.int .i64 1, .int .i64 8, .int .i64 9] 3 (0, 0))).alloc (.cells #[.int .i64 31, .int .i64 1, .int .i64 0, .int .i64 0, .int .u64 0, .int .i64 0, .string ⟨#[]⟩, .slice none 0 0, .slice none 0 0, .int .i64 0, .int .i64 36, .int .i64 0, .int .i64 1, .int .i64 0, .int .u64 0, .int .i64 8, .string ⟨#[]⟩, .slice none 0 0, .slice none 0 0, .int .i64 0, .int .i64 19, .int .i64 0, .int .i64 0, .int .i64 0, .int .u64 0, .int .i64 0, .string ⟨#[]⟩, .slice none 0 0, .slice none 0 0, .int .i64 4, .int .i64 18, .int .i64 0, .int .i64 0, .int .i64 0, .int .u64 0, .int .i64 0, .string ⟨#[]⟩, .slice none 0 0, .slice none 0 0, .int .i64 7, .int .i64 1, .int .i64 2, .int .i64 0, .int .i64 0, .int .u64 1, .int .i64 0, .string ⟨#[]⟩, .slice none 0 0, .slice none 0 0, .int .i64 0, .int .i64 3, .int .i64 3, .int .i64 0, .int .i64 2, .int .u64 2, .int .i64 0, .string ⟨#[]⟩, .slice none 0 0, .slice none 0 0, .int .i64 0, .int .i64 42, .int .i64 0, .int .i64 0, .int .i64 0, .int .u64 0, .int .i64 0, .string ⟨#[102]⟩, .slice (some ⟨w2.heap.size + 2, 0, none⟩) 1 1, .slice (some ⟨w2.heap.size + 3, 0, none⟩) 3 3, .int .i64 0, .int .i64 35, .int .i64 7, .int .i64 1, .int .i64 0, .int .u64 0, .int .i64 8, .string ⟨#[]⟩, .slice none 0 0, .slice none 0 0, .int .i64 0, .int .i64 20, .int .i64 0, .int .i64 7, .int .i64 0, .int .u64 0, .int .i64 0, .string ⟨#[]⟩, .slice none 0 0, .slice none 0 0, .int .i64 0, .int .i64 33, .int .i64 8, .int .i64 0, .int .i64 0, .int .u64 0, .int .i64 0, .string ⟨#[]⟩, .slice none 0 0, .slice none 0 0, .int .i64 0, .int .i64 32, .int .i64 9, .int .i64 0, .int .i64 0, .int .u64 0, .int .i64 0, .string ⟨#[]⟩, .slice none 0 0, .slice none 0 0, .int .i64 0, .int .i64 1, .int .i64 2, .int .i64 0, .int .i64 0, .int .u64 8, .int .i64 0, .string ⟨#[]⟩, .slice none 0 0, .slice none 0 0, .int .i64 0, .int .i64 3, .int .i64 10, .int .i64 1, .int .i64 2, .int .u64 1, .int .i64 0, .string ⟨#[]⟩, .slice none 0 0, .slice none 0 0, .int .i64 0, .int .i64 34, .int .i64 0, .int .i64 0, .int .i64 0, .int .u64 0, .int .i64 8, .string ⟨#[]⟩, .slice (some ⟨w2.heap.size + 4, 0, none⟩) 5 5, .slice none 0 0, .int .i64 0, .int .i64 43, .int .i64 0, .int .i64 0, .int .i64 0, .int .u64 0, .int .i64 0, .string ⟨#[]⟩, .slice (some ⟨w2.heap.size + 5, 0, none⟩) 3 3, .slice none 0 0, .int .i64 0] 47 (0, 0))) (.cells #[.string ⟨#[102]⟩, .slice (some ⟨w2.heap.size, 0, none⟩) 1 1, .slice none 0 0, .slice (some ⟨w2.heap.size + 1, 0, none⟩) 1 1, .slice (some ⟨w2.heap.size + 6, 0, none⟩) 15 15] 54 (0, 0))
  have s3 := Step.alloc (fun _ => False) (((((((w2.alloc (.cells #[.int .i64 0] 3 (0, 0))).alloc (.cells #[.int .i64 16] 3 (0, 0))).alloc (.cells #[.int .i64 3] 3 (0, 0))).alloc (.cells #[.int .i64 4, .int .i64 5, .int .i64 6] 3 (0, 0))).alloc (.cells #[.int .i64 1, .int .i64 1, .int .i64 10, .int .i64 8, .int .i64 9] 3 (0, 0))).alloc (.cells #[.int .i64 1, .int .i64 8, .int .i64 9] 3 (0, 0))).alloc (.cells #[.int .i64 31, .int .i64 1, .int .i64 0, .int .i64 0, .int .u64 0, .int .i64 0, .string ⟨#[]⟩, .slice none 0 0, .slice none 0 0, .int .i64 0, .int .i64 36, .int .i64 0, .int .i64 1, .int .i64 0, .int .u64 0, .int .i64 8, .string ⟨#[]⟩, .slice none 0 0, .slice none 0 0, .int .i64 0, .int .i64 19, .int .i64 0, .int .i64 0, .int .i64 0, .int .u64 0, .int .i64 0, .string ⟨#[]⟩, .slice none 0 0, .slice none 0 0, .int .i64 4, .int .i64 18, .int .i64 0, .int .i64 0, .int .i64 0, .int .u64 0, .int .i64 0, .string ⟨#[]⟩, .slice none 0 0, .slice none 0 0, .int .i64 7, .int .i64 1, .int .i64 2, .int .i64 0, .int .i64 0, .int .u64 1, .int .i64 0, .string ⟨#[]⟩, .slice none 0 0, .slice none 0 0, .int .i64 0, .int .i64 3, .int .i64 3, .int .i64 0, .int .i64 2, .int .u64 2, .int .i64 0, .string ⟨#[]⟩, .slice none 0 0, .slice none 0 0, .int .i64 0, .int .i64 42, .int .i64 0, .int .i64 0, .int .i64 0, .int .u64 0, .int .i64 0, .string ⟨#[102]⟩, .slice (some ⟨w2.heap.size + 2, 0, none⟩) 1 1, .slice (some ⟨w2.heap.size + 3, 0, none⟩) 3 3, .int .i64 0, .int .i64 35, .int .i64 7, .int .i64 1, .int .i64 0, .int .u64 0, .int .i64 8, .string ⟨#[]⟩, .slice none 0 0, .slice none 0 0, .int .i64 0, .int .i64 20, .int .i64 0, .int .i64 7, .int .i64 0, .int .u64 0, .int .i64 0, .string ⟨#[]⟩, .slice none 0 0, .slice none 0 0, .int .i64 0, .int .i64 33, .int .i64 8, .int .i64 0, .int .i64 0, .int .u64 0, .int .i64 0, .string ⟨#[]⟩, .slice none 0 0, .slice none 0 0, .int .i64 0, .int .i64 32, .int .i64 9, .int .i64 0, .int .i64 0, .int .u64 0, .int .i64 0, .string ⟨#[]⟩, .slice none 0 0, .slice none 0 0, .int .i64 0, .int .i64 1, .int .i64 2, .int .i64 0, .int .i64 0, .int .u64 8, .int .i64 0, .string ⟨#[]⟩, .slice none 0 0, .slice none 0 0, .int .i64 0, .int .i64 3, .int .i64 10, .int .i64 1, .int .i64 2, .int .u64 1, .int .i64 0, .string ⟨#[]⟩, .slice none 0 0, .slice none 0 0, .int .i64 0, .int .i64 34, .int .i64 0, .int .i64 0, .int .i64 0, .int .u64 0, .int .i64 8, .string ⟨#[]⟩, .slice (some ⟨w2.heap.size + 4, 0, none⟩) 5 5, .slice none 0 0, .int .i64 0, .int .i64 43, .int .i64 0, .int .i64 0, .int .i64 0, .int .u64 0, .int .i64 0, .string ⟨#[]⟩, .slice (some ⟨w2.heap.size + 5, 0, none⟩) 3 3, .slice none 0 0, .int .i64 0] 47 (0, 0))) (.cells #[.string ⟨#[102]⟩, .slice (some ⟨w2.heap.size, 0, none⟩) 1 1, .slice none 0 0, .slice (some ⟨w2.heap.size + 1, 0, none⟩) 1 1, .slice (some ⟨w2.heap.size + 6, 0, none⟩) 15 15] 54 (0, 0))
  rw [show (((((((w2.alloc (.cells #[.int .i64 0] 3 (0, 0))).alloc (.cells #[.int .i64 16] 3 (0, 0))).alloc (.cells #[.int .i64 3] 3 (0, 0))).alloc (.cells #[.int .i64 4, .int .i64 5, .int .i64 6] 3 (0, 0))).alloc (.cells #[.int .i64 1, .int .i64 1, .int .i64 10, .int .i64 8, .int .i64 9] 3 (0, 0))).alloc (.cells #[.int .i64 1, .int .i64 8, .int .i64 9] 3 (0, 0))).alloc (.cells #[.int .i64 31, .int .i64 1, .int .i64 0, .int .i64 0, .int .u64 0, .int .i64 0, .string ⟨#[]⟩, .slice none 0 0, .slice none 0 0, .int .i64 0, .int .i64 36, .int .i64 0, .int .i64 1, .int .i64 0, .int .u64 0, .int .i64 8, .string ⟨#[]⟩, .slice none 0 0, .slice none 0 0, .int .i64 0, .int .i64 19, .int .i64 0, .int .i64 0, .int .i64 0, .int .u64 0, .int .i64 0, .string ⟨#[]⟩, .slice none 0 0, .slice none 0 0, .int .i64 4, .int .i64 18, .int .i64 0, .int .i64 0, .int .i64 0, .int .u64 0, .int .i64 0, .string ⟨#[]⟩, .slice none 0 0, .slice none 0 0, .int .i64 7, .int .i64 1, .int .i64 2, .int .i64 0, .int .i64 0, .int .u64 1, .int .i64 0, .string ⟨#[]⟩, .slice none 0 0, .slice none 0 0, .int .i64 0, .int .i64 3, .int .i64 3, .int .i64 0, .int .i64 2, .int .u64 2, .int .i64 0, .string ⟨#[]⟩, .slice none 0 0, .slice none 0 0, .int .i64 0, .int .i64 42, .int .i64 0, .int .i64 0, .int .i64 0, .int .u64 0, .int .i64 0, .string ⟨#[102]⟩, .slice (some ⟨w2.heap.size + 2, 0, none⟩) 1 1, .slice (some ⟨w2.heap.size + 3, 0, none⟩) 3 3, .int .i64 0, .int .i64 35, .int .i64 7, .int .i64 1, .int .i64 0, .int .u64 0, .int .i64 8, .string ⟨#[]⟩, .slice none 0 0, .slice none 0 0, .int .i64 0, .int .i64 20, .int .i64 0, .int .i64 7, .int .i64 0, .int .u64 0, .int .i64 0, .string ⟨#[]⟩, .slice none 0 0, .slice none 0 0, .int .i64 0, .int .i64 33, .int .i64 8, .int .i64 0, .int .i64 0, .int .u64 0, .int .i64 0, .string ⟨#[]⟩, .slice none 0 0, .slice none 0 0, .int .i64 0, .int .i64 32, .int .i64 9, .int .i64 0, .int .i64 0, .int .u64 0, .int .i64 0, .string ⟨#[]⟩, .slice none 0 0, .slice none 0 0, .int .i64 0, .int .i64 1, .int .i64 2, .int .i64 0, .int .i64 0, .int .u64 8, .int .i64 0, .string ⟨#[]⟩, .slice none 0 0, .slice none 0 0, .int .i64 0, .int .i64 3, .int .i64 10, .int .i64 1, .int .i64 2, .int .u64 1, .int .i64 0, .string ⟨#[]⟩, .slice none 0 0, .slice none 0 0, .int .i64 0, .int .i64 34, .int .i64 0, .int .i64 0, .int .i64 0, .int .u64 0, .int .i64 8, .string ⟨#[]⟩, .slice (some ⟨w2.heap.size + 4, 0, none⟩) 5 5, .slice none 0 0, .int .i64 0, .int .i64 43, .int .i64 0, .int .i64 0, .int .i64 0, .int .u64 0, .int .i64 0, .string ⟨#[]⟩, .slice (some ⟨w2.heap.size + 5, 0, none⟩) 3 3, .slice none 0 0, .int .i64 0] 47 (0, 0))).heap.size = w2.heap.size + 7 by simp] at k3
  have PARTS := Lib.hid (show ∀ y, Step (fun x => x = w2.heap.size + 7) ((((((((w2.alloc (.cells #[.int .i64 0] 3 (0, 0))).alloc (.cells #[.int .i64 16] 3 (0, 0))).alloc (.cells #[.int .i64 3] 3 (0, 0))).alloc (.cells #[.int .i64 4, .int .i64 5, .int .i64 6] 3 (0, 0))).alloc (.cells #[.int .i64 1, .int .i64 1, .int .i64 10, .int .i64 8, .int .i64 9] 3 (0, 0))).alloc (.cells #[.int .i64 1, .int .i64 8, .int .i64 9] 3 (0, 0))).alloc (.cells #[.int .i64 31, .int .i64 1, .int .i64 0, .int .i64 0, .int .u64 0, .int .i64 0, .string ⟨#[]⟩, .slice none 0 0, .slice none 0 0, .int .i64 0, .int .i64 36, .int .i64 0, .int .i64 1, .int .i64 0, .int .u64 0, .int .i64 8, .string ⟨#[]⟩, .slice none 0 0, .slice none 0 0, .int .i64 0, .int .i64 19, .int .i64 0, .int .i64 0, .int .i64 0, .int .u64 0, .int .i64 0, .string ⟨#[]⟩, .slice none 0 0, .slice none 0 0, .int .i64 4, .int .i64 18, .int .i64 0, .int .i64 0, .int .i64 0, .int .u64 0, .int .i64 0, .string ⟨#[]⟩, .slice none 0 0, .slice none 0 0, .int .i64 7, .int .i64 1, .int .i64 2, .int .i64 0, .int .i64 0, .int .u64 1, .int .i64 0, .string ⟨#[]⟩, .slice none 0 0, .slice none 0 0, .int .i64 0, .int .i64 3, .int .i64 3, .int .i64 0, .int .i64 2, .int .u64 2, .int .i64 0, .string ⟨#[]⟩, .slice none 0 0, .slice none 0 0, .int .i64 0, .int .i64 42, .int .i64 0, .int .i64 0, .int .i64 0, .int .u64 0, .int .i64 0, .string ⟨#[102]⟩, .slice (some ⟨w2.heap.size + 2, 0, none⟩) 1 1, .slice (some ⟨w2.heap.size + 3, 0, none⟩) 3 3, .int .i64 0, .int .i64 35, .int .i64 7, .int .i64 1, .int .i64 0, .int .u64 0, .int .i64 8, .string ⟨#[]⟩, .slice none 0 0, .slice none 0 0, .int .i64 0, .int .i64 20, .int .i64 0, .int .i64 7, .int .i64 0, .int .u64 0, .int .i64 0, .string ⟨#[]⟩, .slice none 0 0, .slice none 0 0, .int .i64 0, .int .i64 33, .int .i64 8, .int .i64 0, .int .i64 0, .int .u64 0, .int .i64 0, .string ⟨#[]⟩, .slice none 0 0, .slice none 0 0, .int .i64 0, .int .i64 32, .int .i64 9, .int .i64 0, .int .i64 0, .int .u64 0, .int .i64 0, .string ⟨#[]⟩, .slice none 0 0, .slice none 0 0, .int .i64 0, .int .i64 1, .int .i64 2, .int .i64 0, .int .i64 0, .int .u64 8, .int .i64 0, .string ⟨#[]⟩, .slice none 0 0, .slice none 0 0, .int .i64 0, .int .i64 3, .int .i64 10, .int .i64 1, .int .i64 2, .int .u64 1, .int .i64 0, .string ⟨#[]⟩, .slice none 0 0, .slice none 0 0, .int .i64 0, .int .i64 34, .int .i64 0, .int .i64 0, .int .i64 0, .int .u64 0, .int .i64 8, .string ⟨#[]⟩, .slice (some ⟨w2.heap.size + 4, 0, none⟩) 5 5, .slice none 0 0, .int .i64 0, .int .i64 43, .int .i64 0, .int .i64 0, .int .i64 0, .int .u64 0, .int .i64 0, .string ⟨#[]⟩, .slice (some ⟨w2.heap.size + 5, 0, none⟩) 3 3, .slice none 0 0, .int .i64 0] 47 (0, 0))).alloc (.cells #[.string ⟨#[102]⟩, .slice (some ⟨w2.heap.size, 0, none⟩) 1 1, .slice none 0 0, .slice (some ⟨w2.heap.size + 1, 0, none⟩) 1 1, .slice (some ⟨w2.heap.size + 6, 0, none⟩) 15 15] 54 (0, 0))) y → IntsAt .i64 y (.slice (some ⟨w2.heap.size, 0, none⟩) 1 1) [0] ∧ IntsAt .i64 y (.slice (some ⟨w2.heap.size + 1, 0, none⟩) 1 1) [16] ∧ CodeAt y (.slice (some ⟨w2.heap.size + 6, 0, none⟩) 15 15) slotC from fun y hy => by
    have sy : Step (fun x => x = w2.heap.size + 7) (((((((w2.alloc (.cells #[.int .i64 0] 3 (0, 0))).alloc (.cells #[.int .i64 16] 3 (0, 0))).alloc (.cells #[.int .i64 3] 3 (0, 0))).alloc (.cells #[.int .i64 4, .int .i64 5, .int .i64 6] 3 (0, 0))).alloc (.cells #[.int .i64 1, .int .i64 1, .int .i64 10, .int .i64 8, .int .i64 9] 3 (0, 0))).alloc (.cells #[.int .i64 1, .int .i64 8, .int .i64 9] 3 (0, 0))).alloc (.cells #[.int .i64 31, .int .i64 1, .int .i64 0, .int .i64 0, .int .u64 0, .int .i64 0, .string ⟨#[]⟩, .slice none 0 0, .slice none 0 0, .int .i64 0, .int .i64 36, .int .i64 0, .int .i64 1, .int .i64 0, .int .u64 0, .int .i64 8, .string ⟨#[]⟩, .slice none 0 0, .slice none 0 0, .int .i64 0, .int .i64 19, .int .i64 0, .int .i64 0, .int .i64 0, .int .u64 0, .int .i64 0, .string ⟨#[]⟩, .slice none 0 0, .slice none 0 0, .int .i64 4, .int .i64 18, .int .i64 0, .int .i64 0, .int .i64 0, .int .u64 0, .int .i64 0, .string ⟨#[]⟩, .slice none 0 0, .slice none 0 0, .int .i64 7, .int .i64 1, .int .i64 2, .int .i64 0, .int .i64 0, .int .u64 1, .int .i64 0, .string ⟨#[]⟩, .slice none 0 0, .slice none 0 0, .int .i64 0, .int .i64 3, .int .i64 3, .int .i64 0, .int .i64 2, .int .u64 2, .int .i64 0, .string ⟨#[]⟩, .slice none 0 0, .slice none 0 0, .int .i64 0, .int .i64 42, .int .i64 0, .int .i64 0, .int .i64 0, .int .u64 0, .int .i64 0, .string ⟨#[102]⟩, .slice (some ⟨w2.heap.size + 2, 0, none⟩) 1 1, .slice (some ⟨w2.heap.size + 3, 0, none⟩) 3 3, .int .i64 0, .int .i64 35, .int .i64 7, .int .i64 1, .int .i64 0, .int .u64 0, .int .i64 8, .string ⟨#[]⟩, .slice none 0 0, .slice none 0 0, .int .i64 0, .int .i64 20, .int .i64 0, .int .i64 7, .int .i64 0, .int .u64 0, .int .i64 0, .string ⟨#[]⟩, .slice none 0 0, .slice none 0 0, .int .i64 0, .int .i64 33, .int .i64 8, .int .i64 0, .int .i64 0, .int .u64 0, .int .i64 0, .string ⟨#[]⟩, .slice none 0 0, .slice none 0 0, .int .i64 0, .int .i64 32, .int .i64 9, .int .i64 0, .int .i64 0, .int .u64 0, .int .i64 0, .string ⟨#[]⟩, .slice none 0 0, .slice none 0 0, .int .i64 0, .int .i64 1, .int .i64 2, .int .i64 0, .int .i64 0, .int .u64 8, .int .i64 0, .string ⟨#[]⟩, .slice none 0 0, .slice none 0 0, .int .i64 0, .int .i64 3, .int .i64 10, .int .i64 1, .int .i64 2, .int .u64 1, .int .i64 0, .string ⟨#[]⟩, .slice none 0 0, .slice none 0 0, .int .i64 0, .int .i64 34, .int .i64 0, .int .i64 0, .int .i64 0, .int .u64 0, .int .i64 8, .string ⟨#[]⟩, .slice (some ⟨w2.heap.size + 4, 0, none⟩) 5 5, .slice none 0 0, .int .i64 0, .int .i64 43, .int .i64 0, .int .i64 0, .int .i64 0, .int .u64 0, .int .i64 0, .string ⟨#[]⟩, .slice (some ⟨w2.heap.size + 5, 0, none⟩) 3 3, .slice none 0 0, .int .i64 0] 47 (0, 0))) y := (s3.mono (G := fun x => x = w2.heap.size + 7) fun _ _ x => x.elim).trans hy fun x hx => .inl hx
    exact ⟨ints_keep (F := fun x => x = w2.heap.size + 7) (q := .i64) (zs := [0]) Qa_0.out rfl (show ¬ (w2.heap.size = w2.heap.size + 7) by omega) rfl (by simp [maxLen]) (by decide) _ sy, ints_keep (F := fun x => x = w2.heap.size + 7) (q := .i64) (zs := [16]) Qa_1.out rfl (show ¬ (w2.heap.size + 1 = w2.heap.size + 7) by omega) rfl (by simp [maxLen]) (by decide) _ sy, codeAt_keep (code := slotC) BLa.out KAa.out (by simp [slotC, maxLen]) (show w2.heap.size + 6 ≤ w2.heap.size + 6 by omega) (show ¬ (w2.heap.size + 6 = w2.heap.size + 7) by omega) sy fun x hx => .inl (by rw [hx]; omega)⟩)
  have S3 := Lib.hid (Ta.out.then s3)
  have K3 := Lib.hid k3
  have HZ3 := Lib.hid (show ((((((((w2.alloc (.cells #[.int .i64 0] 3 (0, 0))).alloc (.cells #[.int .i64 16] 3 (0, 0))).alloc (.cells #[.int .i64 3] 3 (0, 0))).alloc (.cells #[.int .i64 4, .int .i64 5, .int .i64 6] 3 (0, 0))).alloc (.cells #[.int .i64 1, .int .i64 1, .int .i64 10, .int .i64 8, .int .i64 9] 3 (0, 0))).alloc (.cells #[.int .i64 1, .int .i64 8, .int .i64 9] 3 (0, 0))).alloc (.cells #[.int .i64 31, .int .i64 1, .int .i64 0, .int .i64 0, .int .u64 0, .int .i64 0, .string ⟨#[]⟩, .slice none 0 0, .slice none 0 0, .int .i64 0, .int .i64 36, .int .i64 0, .int .i64 1, .int .i64 0, .int .u64 0, .int .i64 8, .string ⟨#[]⟩, .slice none 0 0, .slice none 0 0, .int .i64 0, .int .i64 19, .int .i64 0, .int .i64 0, .int .i64 0, .int .u64 0, .int .i64 0, .string ⟨#[]⟩, .slice none 0 0, .slice none 0 0, .int .i64 4, .int .i64 18, .int .i64 0, .int .i64 0, .int .i64 0, .int .u64 0, .int .i64 0, .string ⟨#[]⟩, .slice none 0 0, .slice none 0 0, .int .i64 7, .int .i64 1, .int .i64 2, .int .i64 0, .int .i64 0, .int .u64 1, .int .i64 0, .string ⟨#[]⟩, .slice none 0 0, .slice none 0 0, .int .i64 0, .int .i64 3, .int .i64 3, .int .i64 0, .int .i64 2, .int .u64 2, .int .i64 0, .string ⟨#[]⟩, .slice none 0 0, .slice none 0 0, .int .i64 0, .int .i64 42, .int .i64 0, .int .i64 0, .int .i64 0, .int .u64 0, .int .i64 0, .string ⟨#[102]⟩, .slice (some ⟨w2.heap.size + 2, 0, none⟩) 1 1, .slice (some ⟨w2.heap.size + 3, 0, none⟩) 3 3, .int .i64 0, .int .i64 35, .int .i64 7, .int .i64 1, .int .i64 0, .int .u64 0, .int .i64 8, .string ⟨#[]⟩, .slice none 0 0, .slice none 0 0, .int .i64 0, .int .i64 20, .int .i64 0, .int .i64 7, .int .i64 0, .int .u64 0, .int .i64 0, .string ⟨#[]⟩, .slice none 0 0, .slice none 0 0, .int .i64 0, .int .i64 33, .int .i64 8, .int .i64 0, .int .i64 0, .int .u64 0, .int .i64 0, .string ⟨#[]⟩, .slice none 0 0, .slice none 0 0, .int .i64 0, .int .i64 32, .int .i64 9, .int .i64 0, .int .i64 0, .int .u64 0, .int .i64 0, .string ⟨#[]⟩, .slice none 0 0, .slice none 0 0, .int .i64 0, .int .i64 1, .int .i64 2, .int .i64 0, .int .i64 0, .int .u64 8, .int .i64 0, .string ⟨#[]⟩, .slice none 0 0, .slice none 0 0, .int .i64 0, .int .i64 3, .int .i64 10, .int .i64 1, .int .i64 2, .int .u64 1, .int .i64 0, .string ⟨#[]⟩, .slice none 0 0, .slice none 0 0, .int .i64 0, .int .i64 34, .int .i64 0, .int .i64 0, .int .i64 0, .int .u64 0, .int .i64 8, .string ⟨#[]⟩, .slice (some ⟨w2.heap.size + 4, 0, none⟩) 5 5, .slice none 0 0, .int .i64 0, .int .i64 43, .int .i64 0, .int .i64 0, .int .i64 0, .int .u64 0, .int .i64 0, .string ⟨#[]⟩, .slice (some ⟨w2.heap.size + 5, 0, none⟩) 3 3, .slice none 0 0, .int .i64 0] 47 (0, 0))).alloc (.cells #[.string ⟨#[102]⟩, .slice (some ⟨w2.heap.size, 0, none⟩) 1 1, .slice none 0 0, .slice (some ⟨w2.heap.size + 1, 0, none⟩) 1 1, .slice (some ⟨w2.heap.size + 6, 0, none⟩) 15 15] 54 (0, 0))).heap.size = w2.heap.size + 8 by simp)
  clear k3 s3 Ta Qa_0 Qa_1 Qa_2 Qa_3 Qa_4 Qa_5 Qa_6 KAa BLa
  go_wp2_with fail
  generalize (((((((w2.alloc (.cells #[.int .i64 0] 3 (0, 0))).alloc (.cells #[.int .i64 16] 3 (0, 0))).alloc (.cells #[.int .i64 3] 3 (0, 0))).alloc (.cells #[.int .i64 4, .int .i64 5, .int .i64 6] 3 (0, 0))).alloc (.cells #[.int .i64 1, .int .i64 1, .int .i64 10, .int .i64 8, .int .i64 9] 3 (0, 0))).alloc (.cells #[.int .i64 1, .int .i64 8, .int .i64 9] 3 (0, 0))).alloc (.cells #[.int .i64 31, .int .i64 1, .int .i64 0, .int .i64 0, .int .u64 0, .int .i64 0, .string ⟨#[]⟩, .slice none 0 0, .slice none 0 0, .int .i64 0, .int .i64 36, .int .i64 0, .int .i64 1, .int .i64 0, .int .u64 0, .int .i64 8, .string ⟨#[]⟩, .slice none 0 0, .slice none 0 0, .int .i64 0, .int .i64 19, .int .i64 0, .int .i64 0, .int .i64 0, .int .u64 0, .int .i64 0, .string ⟨#[]⟩, .slice none 0 0, .slice none 0 0, .int .i64 4, .int .i64 18, .int .i64 0, .int .i64 0, .int .i64 0, .int .u64 0, .int .i64 0, .string ⟨#[]⟩, .slice none 0 0, .slice none 0 0, .int .i64 7, .int .i64 1, .int .i64 2, .int .i64 0, .int .i64 0, .int .u64 1, .int .i64 0, .string ⟨#[]⟩, .slice none 0 0, .slice none 0 0, .int .i64 0, .int .i64 3, .int .i64 3, .int .i64 0, .int .i64 2, .int .u64 2, .int .i64 0, .string ⟨#[]⟩, .slice none 0 0, .slice none 0 0, .int .i64 0, .int .i64 42, .int .i64 0, .int .i64 0, .int .i64 0, .int .u64 0, .int .i64 0, .string ⟨#[102]⟩, .slice (some ⟨w2.heap.size + 2, 0, none⟩) 1 1, .slice (some ⟨w2.heap.size + 3, 0, none⟩) 3 3, .int .i64 0, .int .i64 35, .int .i64 7, .int .i64 1, .int .i64 0, .int .u64 0, .int .i64 8, .string ⟨#[]⟩, .slice none 0 0, .slice none 0 0, .int .i64 0, .int .i64 20, .int .i64 0, .int .i64 7, .int .i64 0, .int .u64 0, .int .i64 0, .string ⟨#[]⟩, .slice none 0 0, .slice none 0 0, .int .i64 0, .int .i64 33, .int .i64 8, .int .i64 0, .int .i64 0, .int .u64 0, .int .i64 0, .string ⟨#[]⟩, .slice none 0 0, .slice none 0 0, .int .i64 0, .int .i64 32, .int .i64 9, .int .i64 0, .int .i64 0, .int .u64 0, .int .i64 0, .string ⟨#[]⟩, .slice none 0 0, .slice none 0 0, .int .i64 0, .int .i64 1, .int .i64 2, .int .i64 0, .int .i64 0, .int .u64 8, .int .i64 0, .string ⟨#[]⟩, .slice none 0 0, .slice none 0 0, .int .i64 0, .int .i64 3, .int .i64 10, .int .i64 1, .int .i64 2, .int .u64 1, .int .i64 0, .string ⟨#[]⟩, .slice none 0 0, .slice none 0 0, .int .i64 0, .int .i64 34, .int .i64 0, .int .i64 0, .int .i64 0, .int .u64 0, .int .i64 8, .string ⟨#[]⟩, .slice (some ⟨w2.heap.size + 4, 0, none⟩) 5 5, .slice none 0 0, .int .i64 0, .int .i64 43, .int .i64 0, .int .i64 0, .int .i64 0, .int .u64 0, .int .i64 0, .string ⟨#[]⟩, .slice (some ⟨w2.heap.size + 5, 0, none⟩) 3 3, .slice none 0 0, .int .i64 0] 47 (0, 0))).alloc (.cells #[.string ⟨#[102]⟩, .slice (some ⟨w2.heap.size, 0, none⟩) 1 1, .slice none 0 0, .slice (some ⟨w2.heap.size + 1, 0, none⟩) 1 1, .slice (some ⟨w2.heap.size + 6, 0, none⟩) 15 15] 54 (0, 0)) = w3 at *
  rw [show w2.heap.size + 1 + 1 + 1 + 1 + 1 + 1 + 1 = w2.heap.size + 7 from rfl]
  go_loopg [] 11 (fun gg wr => ∃ (k : Nat) (pk : Option Addr) (ck : Nat), k ≤ 11 ∧ 11 - k ≤ gg ∧ wr.heap[w2.heap.size + 7]? = some (.cells #[.string ⟨#[102]⟩, .slice (some ⟨w2.heap.size, 0, none⟩) 1 1, .slice pk k ck, .slice (some ⟨w2.heap.size + 1, 0, none⟩) 1 1, .slice (some ⟨w2.heap.size + 6, 0, none⟩) 15 15] 54 (0, 0)) ∧ RowAt wr (fun b => w3.heap.size ≤ b) 3 1 (.slice pk k ck) k (List.replicate k (.int .i64 1)) ∧ Step (fun x => x = w2.heap.size + 7) w3 wr)
  case atStart => exact ⟨0, none, 0, by omega, by omega, K3.out, rowAt_nil _ _ _ _, Step.refl _ _⟩
  case round =>
    obtain ⟨k, pk, ck, hk, hgk, hk2, hrow, hst⟩ := hrel
    have K2 := Lib.hid hk2
    have ROW := Lib.hid hrow
    have ST := Lib.hid hst
    obtain ⟨f0, f1, f2, f3, f4, z0, z1, z2, z3, z4⟩ := cells_known5 hk2
    clear hk2 hrow hst
    by_cases hlt : k < 11
    · have hd : decide ((k : Int) < 11) = true := decide_eq_true (by omega)
      go_wp2_with (first | (at_builtin; refine wpList_append_row rfl (.tmp 45) (.tmp 46) 45 rfl (fun b => w3.heap.size ≤ b) 3 i0 _ 1 8 Try.underlying45 hi hz0 hz1 hz2 rfl _ _ _ rfl (ROW.out.al _) ⟨wr.heap.size, 0, none⟩ 1 1 [.int .i64 1] rfl (by omega) rfl ?c1 ?c2 ?c3 ?c4 ?_))
      case c1 => exact new_cells rfl [_] _
      case c2 => exact fun u hu => by rw [List.mem_singleton.1 hu]; rfl
      case c3 => simp only [maxLen]; omega
      case c4 => omega
      intro g3 cap3 w4 hrow3 hst3 hz3
      have hz8 := HZ3.out
      have hlt1 := lt_obj K2.out
      have k2' := (hst3.block _ (by rw [show (wr.alloc (.cells #[.int .i64 1] 3)).heap.size = wr.heap.size + 1 by simp]; omega) (by omega)).trans ((Step.alloc (fun _ => False) wr (.cells #[.int .i64 1] 3 (0, 0))).keeps K2.out)
      have em : List.replicate k (Value.int .i64 1) ++ [Value.int .i64 1] = List.replicate (k + 1) (.int .i64 1) := by rw [List.replicate_succ']
      rw [em] at hrow3
      have K23 := Lib.hid k2'
      have ROW3 := Lib.hid hrow3
      have ST3 := Lib.hid ((ST.out.trans (Step.alloc (fun _ => False) wr (.cells #[.int .i64 1] 3 (0, 0))) fun x hx => hx.elim).trans hst3 fun x hx => .inr (by omega))
      obtain ⟨e0, e1, e2, e3, e4, x0, x1, x2, x3, x4⟩ := cells_known5 k2'
      clear k2' hrow3 hst3 em f0 f1 f2 f3 f4 z0 z1 z2 z3 z4 hz8
      go_wp2_with fail
      go_roundg (11 - (k + 1))
      case measure => omega
      case rel =>
        have hz8 := HZ3.out
        have sset : Step (fun b => b = w2.heap.size + 7) w4 (w4.setCell ⟨w2.heap.size + 7, 2, none⟩ (.slice (some ⟨g3, 0, none⟩) (k + 1) cap3)) := Step.setCell _ _ _ _ rfl
        refine ⟨k + 1, some ⟨g3, 0, none⟩, cap3, by omega, by omega, ?_, ?_, ST3.out.trans sset fun x hx => .inl hx⟩
        · rw [set_known K23.out]; rfl
        · have hwz := ST.out.size
          exact (ROW3.out.same fun b hb hlt => sset.block b hlt (by omega)).mono fun b hb => by omega
    · have hd : decide ((k : Int) < 11) = false := decide_eq_false (by omega)
      obtain rfl : k = 11 := by omega
      clear hlt hk hgk
      have FN := Lib.hid (show FnAt wr (.agg #[.string ⟨#[102]⟩, .slice (some ⟨w2.heap.size, 0, none⟩) 1 1, .slice pk 11 ck, .slice (some ⟨w2.heap.size + 1, 0, none⟩) 1 1, .slice (some ⟨w2.heap.size + 6, 0, none⟩) 15 15]) slotF from ⟨_, _, _, _, rfl, (PARTS.out wr ST.out).1, ints_of_row (zs := List.replicate 11 1) (by have h := ROW.out; rwa [show List.replicate 11 (Value.int .i64 1) = (List.replicate 11 (1 : Int)).map (Value.int .i64) from by rw [List.map_replicate]] at h) (fun z hz => by rw [(List.mem_replicate.1 hz).2]; rfl), (PARTS.out wr ST.out).2.1, (PARTS.out wr ST.out).2.2⟩)
      have S4 := Lib.hid (((S2.out.then S3.out).trans ST.out fun x hx => .inr (by have := S2.out.size; omega)))
      clear PARTS ROW ST S3 K3 HZ3 S2
      have q10 := heap_alloc_new wr (.cells #[.int .i64 0] 3 (0, 0))
      have t10 := Step.alloc (fun _ => False) wr (.cells #[.int .i64 0] 3 (0, 0))
      have q11 := heap_alloc_new (wr.alloc (.cells #[.int .i64 0] 3 (0, 0))) (.cells #[.int .i64 1, .int .i64 2, .int .i64 3] 3 (0, 0))
      have t11 := Step.alloc (fun _ => False) (wr.alloc (.cells #[.int .i64 0] 3 (0, 0))) (.cells #[.int .i64 1, .int .i64 2, .int .i64 3] 3 (0, 0))
      rw [show (wr.alloc (.cells #[.int .i64 0] 3 (0, 0))).heap.size = wr.heap.size + 1 by simp] at q11
      have q12 := heap_alloc_new ((wr.alloc (.cells #[.int .i64 0] 3 (0, 0))).alloc (.cells #[.int .i64 1, .int .i64 2, .int .i64 3] 3 (0, 0))) (.cells #[.int .i64 1, .int .i64 0, .int .i64 0, .int .i64 0, .int .u64 n, .int .i64 0, .string ⟨#[]⟩, .slice none 0 0, .slice none 0 0, .int .i64 0, .int .i64 42, .int .i64 0, .int .i64 0, .int .i64 0, .int .u64 0, .int .i64 0, .string ⟨#[102]⟩, .slice (some ⟨wr.heap.size, 0, none⟩) 1 1, .slice (some ⟨wr.heap.size + 1, 0, none⟩) 3 3, .int .i64 0, .int .i64 1, .int .i64 4, .int .i64 0, .int .i64 0, .int .u64 1, .int .i64 0, .string ⟨#[]⟩, .slice none 0 0, .slice none 0 0, .int .i64 0, .int .i64 3, .int .i64 4, .int .i64 1, .int .i64 4, .int .u64 1, .int .i64 0, .string ⟨#[]⟩, .slice none 0 0, .slice none 0 0, .int .i64 0] 47 (0, 0))
      have t12 := Step.alloc (fun _ => False) ((wr.alloc (.cells #[.int .i64 0] 3 (0, 0))).alloc (.cells #[.int .i64 1, .int .i64 2, .int .i64 3] 3 (0, 0))) (.cells #[.int .i64 1, .int .i64 0, .int .i64 0, .int .i64 0, .int .u64 n, .int .i64 0, .string ⟨#[]⟩, .slice none 0 0, .slice none 0 0, .int .i64 0, .int .i64 42, .int .i64 0, .int .i64 0, .int .i64 0, .int .u64 0, .int .i64 0, .string ⟨#[102]⟩, .slice (some ⟨wr.heap.size, 0, none⟩) 1 1, .slice (some ⟨wr.heap.size + 1, 0, none⟩) 3 3, .int .i64 0, .int .i64 1, .int .i64 4, .int .i64 0, .int .i64 0, .int .u64 1, .int .i64 0, .string ⟨#[]⟩, .slice none 0 0, .slice none 0 0, .int .i64 0, .int .i64 3, .int .i64 4, .int .i64 1, .int .i64 4, .int .u64 1, .int .i64 0, .string ⟨#[]⟩, .slice none 0 0, .slice none 0 0, .int .i64 0] 47 (0, 0))
      rw [show ((wr.alloc (.cells #[.int .i64 0] 3 (0, 0))).alloc (.cells #[.int .i64 1, .int .i64 2, .int .i64 3] 3 (0, 0))).heap.size = wr.heap.size + 2 by simp] at q12
      have Tb := Lib.hid ((t10.then t11).then t12)
      have Qb_0 := Lib.hid (t12.keeps (t11.keeps q10))
      have Qb_1 := Lib.hid (t12.keeps q11)
      have Qb_2 := Lib.hid q12
      have KAb := Lib.hid (show KeepAll (fun x => x = wr.heap.size + 2) (((wr.alloc (.cells #[.int .i64 0] 3 (0, 0))).alloc (.cells #[.int .i64 1, .int .i64 2, .int .i64 3] 3 (0, 0))).alloc (.cells #[.int .i64 1, .int .i64 0, .int .i64 0, .int .i64 0, .int .u64 n, .int .i64 0, .string ⟨#[]⟩, .slice none 0 0, .slice none 0 0, .int .i64 0, .int .i64 42, .int .i64 0, .int .i64 0, .int .i64 0, .int .u64 0, .int .i64 0, .string ⟨#[102]⟩, .slice (some ⟨wr.heap.size, 0, none⟩) 1 1, .slice (some ⟨wr.heap.size + 1, 0, none⟩) 3 3, .int .i64 0, .int .i64 1, .int .i64 4, .int .i64 0, .int .i64 0, .int .u64 1, .int .i64 0, .string ⟨#[]⟩, .slice none 0 0, .slice none 0 0, .int .i64 0, .int .i64 3, .int .i64 4, .int .i64 1, .int .i64 4, .int .u64 1, .int .i64 0, .string ⟨#[]⟩, .slice none 0 0, .slice none 0 0, .int .i64 0] 47 (0, 0))) [insV (insOf 1 0 0 0 n 0 [] [] 0) (.slice none 0 0) (.slice none 0 0), insV ((⟨42, 0, 0, 0, 0, 0, ⟨#[102]⟩, [0], [1, 2, 3], 0⟩ : FIns)) (.slice (some ⟨wr.heap.size, 0, none⟩) 1 1) (.slice (some ⟨wr.heap.size + 1, 0, none⟩) 3 3), insV (insOf 1 4 0 0 1 0 [] [] 0) (.slice none 0 0) (.slice none 0 0), insV (insOf 3 4 1 4 1 0 [] [] 0) (.slice none 0 0) (.slice none 0 0)] [insOf 1 0 0 0 n 0 [] [] 0, (⟨42, 0, 0, 0, 0, 0, ⟨#[102]⟩, [0], [1, 2, 3], 0⟩ : FIns), insOf 1 4 0 0 1 0 [] [] 0, insOf 3 4 1 4 1 0 [] [] 0] from ⟨keeps_bare rfl rfl, fun y hy => ⟨_, _, rfl, ints_keep (F := (fun x => x = wr.heap.size + 2)) (q := .i64) (zs := [0]) Qb_0.out rfl (show ¬ (wr.heap.size = wr.heap.size + 2) by omega) rfl (by simp [maxLen]) (by decide) y hy, ints_keep (F := (fun x => x = wr.heap.size + 2)) (q := .i64) (zs := [1, 2, 3]) Qb_1.out rfl (show ¬ (wr.heap.size + 1 = wr.heap.size + 2) by omega) rfl (by simp [maxLen]) (by decide) y hy⟩, keeps_bare rfl rfl, keeps_bare rfl rfl, trivial⟩)
      have BLb := Lib.hid (show (((wr.alloc (.cells #[.int .i64 0] 3 (0, 0))).alloc (.cells #[.int .i64 1, .int .i64 2, .int .i64 3] 3 (0, 0))).alloc (.cells #[.int .i64 1, .int .i64 0, .int .i64 0, .int .i64 0, .int .u64 n, .int .i64 0, .string ⟨#[]⟩, .slice none 0 0, .slice none 0 0, .int .i64 0, .int .i64 42, .int .i64 0, .int .i64 0, .int .i64 0, .int .u64 0, .int .i64 0, .string ⟨#[102]⟩, .slice (some ⟨wr.heap.size, 0, none⟩) 1 1, .slice (some ⟨wr.heap.size + 1, 0, none⟩) 3 3, .int .i64 0, .int .i64 1, .int .i64 4, .int .i64 0, .int .i64 0, .int .u64 1, .int .i64 0, .string ⟨#[]⟩, .slice none 0 0, .slice none 0 0, .int .i64 0, .int .i64 3, .int .i64 4, .int .i64 1, .int .i64 4, .int .u64 1, .int .i64 0, .string ⟨#[]⟩, .slice none 0 0, .slice none 0 0, .int .i64 0] 47 (0, 0))).heap[wr.heap.size + 2]? = some (.cells (([insV (insOf 1 0 0 0 n 0 [] [] 0) (.slice none 0 0) (.slice none 0 0), insV ((⟨42, 0, 0, 0, 0, 0, ⟨#[102]⟩, [0], [1, 2, 3], 0⟩ : FIns)) (.slice (some ⟨wr.heap.size, 0, none⟩) 1 1) (.slice (some ⟨wr.heap.size + 1, 0, none⟩) 3 3), insV (insOf 1 4 0 0 1 0 [] [] 0) (.slice none 0 0) (.slice none 0 0), insV (insOf 3 4 1 4 1 0 [] [] 0) (.slice none 0 0) (.slice none 0 0)] : List Value).flatMap fun v => v.cells.toList).toArray 47 (0, 0)) from Qb_2.out)
      clear q10 t10 q11 t11 q12 t12
      have Cw5 := Lib.hid (show Code wr (((wr.alloc (.cells #[.int .i64 0] 3 (0, 0))).alloc (.cells #[.int .i64 1, .int .i64 2, .int .i64 3] 3 (0, 0))).alloc (.cells #[.int .i64 1, .int .i64 0, .int .i64 0, .int .i64 0, .int .u64 n, .int .i64 0, .string ⟨#[]⟩, .slice none 0 0, .slice none 0 0, .int .i64 0, .int .i64 42, .int .i64 0, .int .i64 0, .int .i64 0, .int .u64 0, .int .i64 0, .string ⟨#[102]⟩, .slice (some ⟨wr.heap.size, 0, none⟩) 1 1, .slice (some ⟨wr.heap.size + 1, 0, none⟩) 3 3, .int .i64 0, .int .i64 1, .int .i64 4, .int .i64 0, .int .i64 0, .int .u64 1, .int .i64 0, .string ⟨#[]⟩, .slice none 0 0, .slice none 0 0, .int .i64 0, .int .i64 3, .int .i64 4, .int .i64 1, .int .i64 4, .int .u64 1, .int .i64 0, .string ⟨#[]⟩, .slice none 0 0, .slice none 0 0, .int .i64 0] 47 (0, 0))) (fun x => x = wr.heap.size + 2) (.slice (some ⟨wr.heap.size + 2, 0, none⟩) 4 4) (slotH n) from ⟨codeRow_of_block (code := slotH n) BLb.out KAb.out (by simp [slotH, maxLen]), fun b hb => by rw [hb]; omega, fun b hb => by rw [hb]; simp, Tb.out⟩)
      clear Tb Qb_0 Qb_1 Qb_2 KAb BLb
      go_upto_region 8 with fail
      clear f0 f1 f2 f3 f4 z0 z1 z2 z3 z4
      generalize (((wr.alloc (.cells #[.int .i64 0] 3 (0, 0))).alloc (.cells #[.int .i64 1, .int .i64 2, .int .i64 3] 3 (0, 0))).alloc (.cells #[.int .i64 1, .int .i64 0, .int .i64 0, .int .i64 0, .int .u64 n, .int .i64 0, .string ⟨#[]⟩, .slice none 0 0, .slice none 0 0, .int .i64 0, .int .i64 42, .int .i64 0, .int .i64 0, .int .i64 0, .int .u64 0, .int .i64 0, .string ⟨#[102]⟩, .slice (some ⟨wr.heap.size, 0, none⟩) 1 1, .slice (some ⟨wr.heap.size + 1, 0, none⟩) 3 3, .int .i64 0, .int .i64 1, .int .i64 4, .int .i64 0, .int .i64 0, .int .u64 1, .int .i64 0, .string ⟨#[]⟩, .slice none 0 0, .slice none 0 0, .int .i64 0, .int .i64 3, .int .i64 4, .int .i64 1, .int .i64 4, .int .u64 1, .int .i64 0, .string ⟨#[]⟩, .slice none 0 0, .slice none 0 0, .int .i64 0] 47 (0, 0))) = w5 at *
      cases bh with
      | true =>
        have q10 := heap_alloc_new w5 (.cells #[.int .i64 1, .int .i64 1, .int .i64 4, .int .i64 2, .int .i64 3] 3 (0, 0))
        have t10 := Step.alloc (fun _ => False) w5 (.cells #[.int .i64 1, .int .i64 1, .int .i64 4, .int .i64 2, .int .i64 3] 3 (0, 0))
        have q11 := heap_alloc_new (w5.alloc (.cells #[.int .i64 1, .int .i64 1, .int .i64 4, .int .i64 2, .int .i64 3] 3 (0, 0))) (.cells #[.int .i64 34, .int .i64 0, .int .i64 0, .int .i64 0, .int .u64 0, .int .i64 1, .string ⟨#[]⟩, .slice (some ⟨w5.heap.size, 0, none⟩) 5 5, .slice none 0 0, .int .i64 0] 47 (0, 0))
        have t11 := Step.alloc (fun _ => False) (w5.alloc (.cells #[.int .i64 1, .int .i64 1, .int .i64 4, .int .i64 2, .int .i64 3] 3 (0, 0))) (.cells #[.int .i64 34, .int .i64 0, .int .i64 0, .int .i64 0, .int .u64 0, .int .i64 1, .string ⟨#[]⟩, .slice (some ⟨w5.heap.size, 0, none⟩) 5 5, .slice none 0 0, .int .i64 0] 47 (0, 0))
        rw [show (w5.alloc (.cells #[.int .i64 1, .int .i64 1, .int .i64 4, .int .i64 2, .int .i64 3] 3 (0, 0))).heap.size = w5.heap.size + 1 by simp] at q11
        have Tc := Lib.hid (t10.then t11)
        have Qc_0 := Lib.hid (t11.keeps q10)
        have Qc_1 := Lib.hid q11
        have CWc := Lib.hid (Cw5.out.go Tc.out).row
        have KAc := Lib.hid (show KeepAll (fun x => x = wr.heap.size + 2) ((w5.alloc (.cells #[.int .i64 1, .int .i64 1, .int .i64 4, .int .i64 2, .int .i64 3] 3 (0, 0))).alloc (.cells #[.int .i64 34, .int .i64 0, .int .i64 0, .int .i64 0, .int .u64 0, .int .i64 1, .string ⟨#[]⟩, .slice (some ⟨w5.heap.size, 0, none⟩) 5 5, .slice none 0 0, .int .i64 0] 47 (0, 0))) [insV (insOf 34 0 0 0 0 1 [1, 1, 4, 2, 3] [] 0) (.slice (some ⟨w5.heap.size, 0, none⟩) 5 5) (.slice none 0 0)] [insOf 34 0 0 0 0 1 [1, 1, 4, 2, 3] [] 0] from ⟨fun y hy => ⟨_, _, rfl, ints_keep (F := (fun x => x = wr.heap.size + 2)) (q := .i64) (zs := [1, 1, 4, 2, 3]) Qc_0.out rfl (Cw5.out.fresh 0) rfl (by simp [maxLen]) (by decide) y hy, ints_nil _ _⟩, trivial⟩)
        have BLc := Lib.hid (show ((w5.alloc (.cells #[.int .i64 1, .int .i64 1, .int .i64 4, .int .i64 2, .int .i64 3] 3 (0, 0))).alloc (.cells #[.int .i64 34, .int .i64 0, .int .i64 0, .int .i64 0, .int .u64 0, .int .i64 1, .string ⟨#[]⟩, .slice (some ⟨w5.heap.size, 0, none⟩) 5 5, .slice none 0 0, .int .i64 0] 47 (0, 0))).heap[w5.heap.size + 1]? = some (.cells (([insV (insOf 34 0 0 0 0 1 [1, 1, 4, 2, 3] [] 0) (.slice (some ⟨w5.heap.size, 0, none⟩) 5 5) (.slice none 0 0)] : List Value).flatMap fun v => v.cells.toList).toArray 47 (0, 0)) from Qc_1.out)
        clear q10 t10 q11 t11
        go_wp2_with (first | (at_builtin; refine wpList_append_codeN rfl (.tmp 58) (.tmp 61) rfl 5 rfl CWc.out rfl BLc.out KAc.out rfl (by omega) (by simp [slotH]) rfl (show _ = slotH n ++ [insOf 34 0 0 0 0 1 [1, 1, 4, 2, 3] [] 0] from rfl) ?_))
        intro gc capc w6 Fw6 hcr hF hFl st
        have Cw6 := Lib.hid ((Cw5.out.go Tc.out).app hcr (fun b hb => (hF b hb).imp_right fun h => by simpa using h) hFl st)
        clear hcr hF hFl
        have q10 := heap_alloc_new w6 (.cells #[.int .i64 43, .int .i64 0, .int .i64 0, .int .i64 0, .int .u64 0, .int .i64 0, .string ⟨#[]⟩, .slice none 0 0, .slice none 0 0, .int .i64 0] 47 (0, 0))
        have t10 := Step.alloc (fun _ => False) w6 (.cells #[.int .i64 43, .int .i64 0, .int .i64 0, .int .i64 0, .int .u64 0, .int .i64 0, .string ⟨#[]⟩, .slice none 0 0, .slice none 0 0, .int .i64 0] 47 (0, 0))
        have Td := Lib.hid t10
        have Qd_0 := Lib.hid q10
        have CWd := Lib.hid (Cw6.out.go Td.out).row
        have KAd := Lib.hid (show KeepAll Fw6 (w6.alloc (.cells #[.int .i64 43, .int .i64 0, .int .i64 0, .int .i64 0, .int .u64 0, .int .i64 0, .string ⟨#[]⟩, .slice none 0 0, .slice none 0 0, .int .i64 0] 47 (0, 0))) [insV (insOf 43 0 0 0 0 0 [] [] 0) (.slice none 0 0) (.slice none 0 0)] [insOf 43 0 0 0 0 0 [] [] 0] from ⟨keeps_bare rfl rfl, trivial⟩)
        have BLd := Lib.hid (show (w6.alloc (.cells #[.int .i64 43, .int .i64 0, .int .i64 0, .int .i64 0, .int .u64 0, .int .i64 0, .string ⟨#[]⟩, .slice none 0 0, .slice none 0 0, .int .i64 0] 47 (0, 0))).heap[w6.heap.size]? = some (.cells (([insV (insOf 43 0 0 0 0 0 [] [] 0) (.slice none 0 0) (.slice none 0 0)] : List Value).flatMap fun v => v.cells.toList).toArray 47 (0, 0)) from Qd_0.out)
        clear q10 t10
        go_wp2_with (first | (at_builtin; refine wpList_append_codeN rfl (.tmp 63) (.tmp 65) rfl 6 rfl CWd.out rfl BLd.out KAd.out rfl (by omega) (by simp [slotH]) rfl (show _ = slotM n true from (by unfold slotM; simp)) ?_))
        intro gd capd w7 Fw7 hcr hF hFl st
        have Cw7 := Lib.hid ((Cw6.out.go Td.out).app hcr (fun b hb => (hF b hb).imp_right fun h => by simpa using h) hFl st)
        clear hcr hF hFl
        have SZ7 := Lib.hid Cw7.out.step
        have K7 := Lib.hid (Cw7.out.step.keeps K2.out)
        go_wp2_with fail
        refine (alone2_any (regs := 5) (sl := []) (by omega) (ints_nil _ _) Cw7.out.row.code).mono ?_
        rintro e w8 ⟨vt, bf, cells, rfl, hcs, hbf, hge, hkeep, s8⟩
        obtain ⟨⟨pt, ct, hvt, _⟩, _⟩ := hkeep w8 (Step.refl _ _)
        replace hvt : vt = .slice pt 1 ct := hvt
        subst hvt
        have HKEEP := Lib.hid hkeep
        have K8 := Lib.hid (s8.keeps K7.out)
        have S8 := Lib.hid (Cw7.out.step.then s8)
        have HBF := Lib.hid hbf
        have HCS := Lib.hid hcs
        have k9 := heap_alloc_new w8 (.cells #[.slice pt 1 ct, .slice (some ⟨bf, 0, none⟩) 1 1] 25 (0, 0))
        have s9 := Step.alloc (fun _ => False) w8 (.cells #[.slice pt 1 ct, .slice (some ⟨bf, 0, none⟩) 1 1] 25 (0, 0))
        have K9 := Lib.hid k9
        have S9 := Lib.hid s9
        clear hkeep s8 hbf hcs k9 s9 st
        go_upto_region 11 with fail
        generalize w8.alloc (.cells #[.slice pt 1 ct, .slice (some ⟨bf, 0, none⟩) 1 1] 25 (0, 0)) = w9 at *
        have HUB := Lib.hid (lt_obj HBF.out)
        have HGE := Lib.hid hge
        have ROWF := Lib.hid (row_of_block (size := 5) (n := 1) (S9.out.keeps HBF.out) (by rw [HCS.out]) (by simp [maxLen]))
        obtain ⟨u0, u1, y0, y1⟩ := cells_known2 K9.out
        obtain ⟨g0, g1, g2, g3, g4, _⟩ := cells_known5 (S9.out.keeps K8.out)
        clear hge
        go_wp2_with (first | (at_builtin; refine wpList_append_row rfl (.tmp 69) (.tmp 71) 23 rfl (fun x => x = bf) 54 j0 _ 5 112 Try.underlying23 hj hy0 hy1 hy2 rfl _ _ _ rfl (ROWF.out.al _) ⟨w9.heap.size, 0, none⟩ 1 1 [.string ⟨#[102]⟩, .slice (some ⟨w2.heap.size, 0, none⟩) 1 1, .slice pk 11 ck, .slice (some ⟨w2.heap.size + 1, 0, none⟩) 1 1, .slice (some ⟨w2.heap.size + 6, 0, none⟩) 15 15] rfl (by omega) rfl ?c1 ?c2 ?c3 ?c4 ?_))
        case c1 => exact new_cells rfl [_, _, _, _, _] _
        case c2 => exact fun u hu => by simp only [List.mem_cons, List.not_mem_nil, or_false] at hu; rcases hu with rfl | rfl | rfl | rfl | rfl <;> rfl
        case c3 => simp [maxLen]
        case c4 => omega
        intro gq capq w10 hrow3 hst3 hz3
        have hst3 : Step (fun x => x = bf) (w9.alloc (.cells #[.string ⟨#[102]⟩, .slice (some ⟨w2.heap.size, 0, none⟩) 1 1, .slice pk 11 ck, .slice (some ⟨w2.heap.size + 1, 0, none⟩) 1 1, .slice (some ⟨w2.heap.size + 6, 0, none⟩) 15 15] 54 (0, 0))) w10 := hst3
        have ROW3 := Lib.hid (show RowAt w10 (fun x => x = bf ∨ x = w9.heap.size + 1) 54 5 (.slice (some ⟨gq, 0, none⟩) 2 capq) 2 (cells.toList ++ (#[.string ⟨#[102]⟩, .slice (some ⟨w2.heap.size, 0, none⟩) 1 1, .slice pk 11 ck, .slice (some ⟨w2.heap.size + 1, 0, none⟩) 1 1, .slice (some ⟨w2.heap.size + 6, 0, none⟩) 15 15] : Array Value).toList) from hrow3)
        have ST10 := Lib.hid (((S9.out.mono (G := fun x => x = bf) fun _ _ x => x.elim).trans (Step.alloc (fun _ => False) w9 (.cells #[.string ⟨#[102]⟩, .slice (some ⟨w2.heap.size, 0, none⟩) 1 1, .slice pk 11 ck, .slice (some ⟨w2.heap.size + 1, 0, none⟩) 1 1, .slice (some ⟨w2.heap.size + 6, 0, none⟩) 15 15] 54 (0, 0))) fun x hx => hx.elim).trans hst3 fun x hx => .inl hx)
        have K10 := Lib.hid ((hst3.block _ (by have := lt_obj K9.out; simp; omega) (by have := HUB.out; omega)).trans ((Step.alloc (fun _ => False) w9 (.cells #[.string ⟨#[102]⟩, .slice (some ⟨w2.heap.size, 0, none⟩) 1 1, .slice pk 11 ck, .slice (some ⟨w2.heap.size + 1, 0, none⟩) 1 1, .slice (some ⟨w2.heap.size + 6, 0, none⟩) 15 15] 54 (0, 0))).keeps K9.out))
        clear hrow3 hst3 hz3 u0 u1 y0 y1 g0 g1 g2 g3 g4
        obtain ⟨u0, u1, y0, y1⟩ := cells_known2 K10.out
        have sset : Step (fun x => x = w8.heap.size) w10 (w10.setCell ⟨w8.heap.size, 1, none⟩ (.slice (some ⟨gq, 0, none⟩) 2 capq)) := Step.setCell _ _ _ _ rfl
        have K11 := Lib.hid (show (w10.setCell ⟨w8.heap.size, 1, none⟩ (.slice (some ⟨gq, 0, none⟩) 2 capq)).heap[w8.heap.size]? = some (.cells #[.slice pt 1 ct, .slice (some ⟨gq, 0, none⟩) 2 capq] 25 (0, 0)) from by rw [set_known K10.out]; rfl)
        have ST11 := Lib.hid (ST10.out.trans sset fun x hx => .inr (by omega))
        have ROW4 := Lib.hid (ROW3.out.same fun b hb hlt => sset.block b hlt (by have h1 := HUB.out; have h2 := S9.out.size; have h3 := lt_obj K9.out; rcases hb with rfl | rfl <;> omega))
        clear sset
        go_upto_region 12 with fail
        generalize w10.setCell ⟨w8.heap.size, 1, none⟩ (.slice (some ⟨gq, 0, none⟩) 2 capq) = w11 at *
        clear u0 u1 y0 y1
        obtain ⟨u0, u1, y0, y1⟩ := cells_known2 K11.out
        have FN11 := fnAt_old FN.out (w' := w11) fun b hb => (ST11.out.block b (Nat.lt_of_lt_of_le hb S8.out.size) (show ¬ b = bf by have h1 := HGE.out; have h2 := SZ7.out.size; omega)).trans (S8.out.block b hb fun x => x)
        have RUN := Lib.hid (Run_any (w := w11) (fuel := 2000) (HKEEP.out w11 ST11.out).1 (fns_two HCS.out rfl ROW4.out (HKEEP.out w11 ST11.out).2 FN11) (ints_nil .u8 w11) (unitOk_slots ⟨by omega, by have := HN.out; omega⟩ true) (by omega))
        obtain ⟨q1, q2, q3⟩ := slots_facts HN.out true
        obtain ⟨r, hr⟩ : ∃ r, slotR n true = r := ⟨_, rfl⟩
        rw [hr] at q1 q2 q3
        rw [show runU topsV [aloneF 5 [] (slotM n true), slotF] [] 2000 = r from hr] at RUN
        obtain ⟨rs, rc, ro, rt, rk⟩ := r
        simp only at q1 q2 q3
        subst q1 q3
        have HRO := Lib.hid q2
        have HRL := Lib.hid (show ro.length = n + 1 from by rw [q2]; simp)
        have S11 := Lib.hid ((S4.out.then S8.out).trans ST11.out fun x hx => .inr (by have h1 := HGE.out; have h2 := SZ7.out.size; have h3 := S4.out.size; omega))
        clear hr q2 FN11 HKEEP ROW4 ROW3 ROWF HBF HCS FN
        go_wp2_with fail
        refine RUN.out.mono ?_
        rintro e w12 ⟨vo, rfl, hrow, s12⟩
        simp only at hrow
        rw [HRL.out] at hrow
        have hroww := hrow
        obtain ⟨oa, oc2, rfl⟩ := hrow.slice
        have k13 := heap_alloc_new w12 (.cells #[.int .i64 2, .int .u8 0, .int .i64 0, .slice oa (n + 1) oc2, .int .i64 rt, .int .i64 rk] 31 (0, 0))
        have s13 := Step.alloc (fun _ => False) w12 (.cells #[.int .i64 2, .int .u8 0, .int .i64 0, .slice oa (n + 1) oc2, .int .i64 rt, .int .i64 rk] 31 (0, 0))
        have ROWO := Lib.hid (hroww.same (w' := w12.alloc (.cells #[.int .i64 2, .int .u8 0, .int .i64 0, .slice oa (n + 1) oc2, .int .i64 rt, .int .i64 rk] 31 (0, 0))) fun b _ hlt => heap_alloc_old w12 _ hlt)
        have S13 := Lib.hid ((S11.out.then s12).then s13)
        have K13 := Lib.hid k13
        unfold resV
        simp only [if_true]
        clear hrow hroww s12 s13 k13 u0 u1 y0 y1
        go_wp2_with fail
        generalize w12.alloc (.cells #[.int .i64 2, .int .u8 0, .int .i64 0, .slice oa (n + 1) oc2, .int .i64 rt, .int .i64 rk] 31 (0, 0)) = w13 at *
        go_loopw [10, 11] (fun s i wr => ∃ k : Nat, k ≤ n + 1 ∧ i = .int .u64 k ∧ s = .string (strOfNums ((List.range k).map fun (i : Nat) => (i : Int))) ∧ Step (fun _ => False) w13 wr) (fun _ i _ => n + 1 - (intOf i).toNat)
        case atStart => exact ⟨0, by omega, rfl, rfl, Step.refl _ _⟩
        case round =>
          obtain ⟨k, hk, rfl, rfl, hst⟩ := hrel
          have ST := Lib.hid hst
          clear hst
          have hn29 : n ≤ 29 := by have := HN.out; omega
          by_cases hlt : k ≤ n
          · have hd : decide ((k : Int) ≤ (n : Int)) = true := decide_eq_true (by omega)
            have hd2 : decide (k ≤ n) = true := decide_eq_true hlt
            have hu8 : IntKind.u8.wrap (k : Int) = k := by rw [IntKind.wrap_u8]; omega
            have CV : (convert 28 9 (.slice (some ⟨wr.heap.size, 0, none⟩) 1 1)).run Try.prog (wr.alloc (.cells #[.int .u8 k] 5 (0, 0))) = .ok (.string (strOfNums [(k : Int)])) (wr.alloc (.cells #[.int .u8 k] 5 (0, 0))) := conv_row (xs := [(k : Int)]) (row_of_block (size := 1) (n := 1) (heap_alloc_new wr _) rfl (by simp [maxLen])) (Nat.le_refl _)
            obtain ⟨sk, hsk⟩ : ∃ sk, strOfNums ((List.range k).map fun (i : Nat) => (i : Int)) = sk := ⟨_, rfl⟩
            have HSK := Lib.hid hsk
            have SKL := Lib.hid (show sk.size = k from by rw [← hsk, strOfNums_size]; simp)
            rw [hsk]
            have AL := Lib.hid (Step.alloc (fun _ => False) wr (.cells #[.int .u8 k] 5 (0, 0)))
            clear hsk
            have hs0 : sk.size ≤ 100 := by have := SKL.out; omega
            have hs1 : (strOfNums [(k : Int)]).size = 1 := by rw [strOfNums_size]; rfl
            have hs2 : ¬ 9223372036854775807 < sk.size + (strOfNums [(k : Int)]).size := by rw [hs1]; omega
            have HS1 := Lib.hid hs1
            clear hs1
            go_wp2_with fail
            go_roundw
            case rel => exact ⟨k + 1, by omega, by go_num, by rw [range_more, ← strOfNums_app, HSK.out], ST.out.then AL.out⟩
            case measure => simp [intOf]; omega
          · have hd : decide ((k : Int) ≤ (n : Int)) = false := decide_eq_false (by omega)
            have hd2 : decide (k ≤ n) = false := decide_eq_false hlt
            obtain rfl : k = n + 1 := by omega
            rw [← HRO.out]
            have CV2 : (convert 28 9 (.slice oa (n + 1) oc2)).run Try.prog wr = .ok (.string (strOfNums ro)) wr := by
              have h := conv_row (ROWO.out.same (w' := wr) fun b _ hlt => ST.out.block b hlt fun x => x) (Nat.le_refl _)
              rwa [List.take_of_length_le (by rw [HRL.out]; exact Nat.le_refl _)] at h
            have i0 := cell_known (ST.out.keeps K13.out) (i := 0) rfl
            have i3 := cell_known (ST.out.keeps K13.out) (i := 3) rfl
            go_wp2_with fail
            go_ret
            exact ⟨rfl, (S13.out.then ST.out).below (Nat.le_refl _) fun _ x => x.elim⟩
      | false =>
        have q10 := heap_alloc_new w5 (.cells #[.int .i64 43, .int .i64 0, .int .i64 0, .int .i64 0, .int .u64 0, .int .i64 0, .string ⟨#[]⟩, .slice none 0 0, .slice none 0 0, .int .i64 0] 47 (0, 0))
        have t10 := Step.alloc (fun _ => False) w5 (.cells #[.int .i64 43, .int .i64 0, .int .i64 0, .int .i64 0, .int .u64 0, .int .i64 0, .string ⟨#[]⟩, .slice none 0 0, .slice none 0 0, .int .i64 0] 47 (0, 0))
        have Td := Lib.hid t10
        have Qd_0 := Lib.hid q10
        have CWd := Lib.hid (Cw5.out.go Td.out).row
        have KAd := Lib.hid (show KeepAll (fun x => x = wr.heap.size + 2) (w5.alloc (.cells #[.int .i64 43, .int .i64 0, .int .i64 0, .int .i64 0, .int .u64 0, .int .i64 0, .string ⟨#[]⟩, .slice none 0 0, .slice none 0 0, .int .i64 0] 47 (0, 0))) [insV (insOf 43 0 0 0 0 0 [] [] 0) (.slice none 0 0) (.slice none 0 0)] [insOf 43 0 0 0 0 0 [] [] 0] from ⟨keeps_bare rfl rfl, trivial⟩)
        have BLd := Lib.hid (show (w5.alloc (.cells #[.int .i64 43, .int .i64 0, .int .i64 0, .int .i64 0, .int .u64 0, .int .i64 0, .string ⟨#[]⟩, .slice none 0 0, .slice none 0 0, .int .i64 0] 47 (0, 0))).heap[w5.heap.size]? = some (.cells (([insV (insOf 43 0 0 0 0 0 [] [] 0) (.slice none 0 0) (.slice none 0 0)] : List Value).flatMap fun v => v.cells.toList).toArray 47 (0, 0)) from Qd_0.out)
        clear q10 t10
        go_wp2_with (first | (at_builtin; refine wpList_append_codeN rfl (.tmp 63) (.tmp 65) rfl 5 rfl CWd.out rfl BLd.out KAd.out rfl (by omega) (by simp [slotH]) rfl (show _ = slotM n false from rfl) ?_))
        intro gd capd w7 Fw7 hcr hF hFl st
        have Cw7 := Lib.hid ((Cw5.out.go Td.out).app hcr (fun b hb => (hF b hb).imp_right fun h => by simpa using h) hFl st)
        clear hcr hF hFl
        have SZ7 := Lib.hid Cw7.out.step
        have K7 := Lib.hid (Cw7.out.step.keeps K2.out)
        go_wp2_with fail
        refine (alone2_any (regs := 5) (sl := []) (by omega) (ints_nil _ _) Cw7.out.row.code).mono ?_
        rintro e w8 ⟨vt, bf, cells, rfl, hcs, hbf, hge, hkeep, s8⟩
        obtain ⟨⟨pt, ct, hvt, _⟩, _⟩ := hkeep w8 (Step.refl _ _)
        replace hvt : vt = .slice pt 1 ct := hvt
        subst hvt
        have HKEEP := Lib.hid hkeep
        have K8 := Lib.hid (s8.keeps K7.out)
        have S8 := Lib.hid (Cw7.out.step.then s8)
        have HBF := Lib.hid hbf
        have HCS := Lib.hid hcs
        have k9 := heap_alloc_new w8 (.cells #[.slice pt 1 ct, .slice (some ⟨bf, 0, none⟩) 1 1] 25 (0, 0))
        have s9 := Step.alloc (fun _ => False) w8 (.cells #[.slice pt 1 ct, .slice (some ⟨bf, 0, none⟩) 1 1] 25 (0, 0))
        have K9 := Lib.hid k9
        have S9 := Lib.hid s9
        clear hkeep s8 hbf hcs k9 s9 st
        go_upto_region 11 with fail
        generalize w8.alloc (.cells #[.slice pt 1 ct, .slice (some ⟨bf, 0, none⟩) 1 1] 25 (0, 0)) = w9 at *
        have HUB := Lib.hid (lt_obj HBF.out)
        have HGE := Lib.hid hge
        have ROWF := Lib.hid (row_of_block (size := 5) (n := 1) (S9.out.keeps HBF.out) (by rw [HCS.out]) (by simp [maxLen]))
        obtain ⟨u0, u1, y0, y1⟩ := cells_known2 K9.out
        obtain ⟨g0, g1, g2, g3, g4, _⟩ := cells_known5 (S9.out.keeps K8.out)
        clear hge
        go_wp2_with (first | (at_builtin; refine wpList_append_row rfl (.tmp 69) (.tmp 71) 23 rfl (fun x => x = bf) 54 j0 _ 5 112 Try.underlying23 hj hy0 hy1 hy2 rfl _ _ _ rfl (ROWF.out.al _) ⟨w9.heap.size, 0, none⟩ 1 1 [.string ⟨#[102]⟩, .slice (some ⟨w2.heap.size, 0, none⟩) 1 1, .slice pk 11 ck, .slice (some ⟨w2.heap.size + 1, 0, none⟩) 1 1, .slice (some ⟨w2.heap.size + 6, 0, none⟩) 15 15] rfl (by omega) rfl ?c1 ?c2 ?c3 ?c4 ?_))
        case c1 => exact new_cells rfl [_, _, _, _, _] _
        case c2 => exact fun u hu => by simp only [List.mem_cons, List.not_mem_nil, or_false] at hu; rcases hu with rfl | rfl | rfl | rfl | rfl <;> rfl
        case c3 => simp [maxLen]
        case c4 => omega
        intro gq capq w10 hrow3 hst3 hz3
        have hst3 : Step (fun x => x = bf) (w9.alloc (.cells #[.string ⟨#[102]⟩, .slice (some ⟨w2.heap.size, 0, none⟩) 1 1, .slice pk 11 ck, .slice (some ⟨w2.heap.size + 1, 0, none⟩) 1 1, .slice (some ⟨w2.heap.size + 6, 0, none⟩) 15 15] 54 (0, 0))) w10 := hst3
        have ROW3 := Lib.hid (show RowAt w10 (fun x => x = bf ∨ x = w9.heap.size + 1) 54 5 (.slice (some ⟨gq, 0, none⟩) 2 capq) 2 (cells.toList ++ (#[.string ⟨#[102]⟩, .slice (some ⟨w2.heap.size, 0, none⟩) 1 1, .slice pk 11 ck, .slice (some ⟨w2.heap.size + 1, 0, none⟩) 1 1, .slice (some ⟨w2.heap.size + 6, 0, none⟩) 15 15] : Array Value).toList) from hrow3)
        have ST10 := Lib.hid (((S9.out.mono (G := fun x => x = bf) fun _ _ x => x.elim).trans (Step.alloc (fun _ => False) w9 (.cells #[.string ⟨#[102]⟩, .slice (some ⟨w2.heap.size, 0, none⟩) 1 1, .slice pk 11 ck, .slice (some ⟨w2.heap.size + 1, 0, none⟩) 1 1, .slice (some ⟨w2.heap.size + 6, 0, none⟩) 15 15] 54 (0, 0))) fun x hx => hx.elim).trans hst3 fun x hx => .inl hx)
        have K10 := Lib.hid ((hst3.block _ (by have := lt_obj K9.out; simp; omega) (by have := HUB.out; omega)).trans ((Step.alloc (fun _ => False) w9 (.cells #[.string ⟨#[102]⟩, .slice (some ⟨w2.heap.size, 0, none⟩) 1 1, .slice pk 11 ck, .slice (some ⟨w2.heap.size + 1, 0, none⟩) 1 1, .slice (some ⟨w2.heap.size + 6, 0, none⟩) 15 15] 54 (0, 0))).keeps K9.out))
        clear hrow3 hst3 hz3 u0 u1 y0 y1 g0 g1 g2 g3 g4
        obtain ⟨u0, u1, y0, y1⟩ := cells_known2 K10.out
        have sset : Step (fun x => x = w8.heap.size) w10 (w10.setCell ⟨w8.heap.size, 1, none⟩ (.slice (some ⟨gq, 0, none⟩) 2 capq)) := Step.setCell _ _ _ _ rfl
        have K11 := Lib.hid (show (w10.setCell ⟨w8.heap.size, 1, none⟩ (.slice (some ⟨gq, 0, none⟩) 2 capq)).heap[w8.heap.size]? = some (.cells #[.slice pt 1 ct, .slice (some ⟨gq, 0, none⟩) 2 capq] 25 (0, 0)) from by rw [set_known K10.out]; rfl)
        have ST11 := Lib.hid (ST10.out.trans sset fun x hx => .inr (by omega))
        have ROW4 := Lib.hid (ROW3.out.same fun b hb hlt => sset.block b hlt (by have h1 := HUB.out; have h2 := S9.out.size; have h3 := lt_obj K9.out; rcases hb with rfl | rfl <;> omega))
        clear sset
        go_upto_region 12 with fail
        generalize w10.setCell ⟨w8.heap.size, 1, none⟩ (.slice (some ⟨gq, 0, none⟩) 2 capq) = w11 at *
        clear u0 u1 y0 y1
        obtain ⟨u0, u1, y0, y1⟩ := cells_known2 K11.out
        have FN11 := fnAt_old FN.out (w' := w11) fun b hb => (ST11.out.block b (Nat.lt_of_lt_of_le hb S8.out.size) (show ¬ b = bf by have h1 := HGE.out; have h2 := SZ7.out.size; omega)).trans (S8.out.block b hb fun x => x)
        have RUN := Lib.hid (Run_any (w := w11) (fuel := 2000) (HKEEP.out w11 ST11.out).1 (fns_two HCS.out rfl ROW4.out (HKEEP.out w11 ST11.out).2 FN11) (ints_nil .u8 w11) (unitOk_slots ⟨by omega, by have := HN.out; omega⟩ false) (by omega))
        obtain ⟨q1, q2, q3⟩ := slots_facts HN.out false
        obtain ⟨r, hr⟩ : ∃ r, slotR n false = r := ⟨_, rfl⟩
        rw [hr] at q1 q2 q3
        rw [show runU topsV [aloneF 5 [] (slotM n false), slotF] [] 2000 = r from hr] at RUN
        obtain ⟨rs, rc, ro, rt, rk⟩ := r
        simp only at q1 q2 q3
        subst q1 q3
        have HRO := Lib.hid q2
        have HRL := Lib.hid (show ro.length = n + 1 from by rw [q2]; simp)
        have S11 := Lib.hid ((S4.out.then S8.out).trans ST11.out fun x hx => .inr (by have h1 := HGE.out; have h2 := SZ7.out.size; have h3 := S4.out.size; omega))
        clear hr q2 FN11 HKEEP ROW4 ROW3 ROWF HBF HCS FN
        go_wp2_with fail
        refine RUN.out.mono ?_
        rintro e w12 ⟨vo, rfl, hrow, s12⟩
        simp only at hrow
        rw [HRL.out] at hrow
        have hroww := hrow
        obtain ⟨oa, oc2, rfl⟩ := hrow.slice
        have k13 := heap_alloc_new w12 (.cells #[.int .i64 1, .int .u8 0, .int .i64 0, .slice oa (n + 1) oc2, .int .i64 rt, .int .i64 rk] 31 (0, 0))
        have s13 := Step.alloc (fun _ => False) w12 (.cells #[.int .i64 1, .int .u8 0, .int .i64 0, .slice oa (n + 1) oc2, .int .i64 rt, .int .i64 rk] 31 (0, 0))
        have ROWO := Lib.hid (hroww.same (w' := w12.alloc (.cells #[.int .i64 1, .int .u8 0, .int .i64 0, .slice oa (n + 1) oc2, .int .i64 rt, .int .i64 rk] 31 (0, 0))) fun b _ hlt => heap_alloc_old w12 _ hlt)
        have S13 := Lib.hid ((S11.out.then s12).then s13)
        have K13 := Lib.hid k13
        unfold resV
        simp only [if_false, Bool.false_eq_true]
        clear hrow hroww s12 s13 k13 u0 u1 y0 y1
        go_wp2_with fail
        generalize w12.alloc (.cells #[.int .i64 1, .int .u8 0, .int .i64 0, .slice oa (n + 1) oc2, .int .i64 rt, .int .i64 rk] 31 (0, 0)) = w13 at *
        go_loopw [10, 11] (fun s i wr => ∃ k : Nat, k ≤ n + 1 ∧ i = .int .u64 k ∧ s = .string (strOfNums ((List.range k).map fun (i : Nat) => (i : Int))) ∧ Step (fun _ => False) w13 wr) (fun _ i _ => n + 1 - (intOf i).toNat)
        case atStart => exact ⟨0, by omega, rfl, rfl, Step.refl _ _⟩
        case round =>
          obtain ⟨k, hk, rfl, rfl, hst⟩ := hrel
          have ST := Lib.hid hst
          clear hst
          have hn29 : n ≤ 29 := by have := HN.out; omega
          by_cases hlt : k ≤ n
          · have hd : decide ((k : Int) ≤ (n : Int)) = true := decide_eq_true (by omega)
            have hd2 : decide (k ≤ n) = true := decide_eq_true hlt
            have hu8 : IntKind.u8.wrap (k : Int) = k := by rw [IntKind.wrap_u8]; omega
            have CV : (convert 28 9 (.slice (some ⟨wr.heap.size, 0, none⟩) 1 1)).run Try.prog (wr.alloc (.cells #[.int .u8 k] 5 (0, 0))) = .ok (.string (strOfNums [(k : Int)])) (wr.alloc (.cells #[.int .u8 k] 5 (0, 0))) := conv_row (xs := [(k : Int)]) (row_of_block (size := 1) (n := 1) (heap_alloc_new wr _) rfl (by simp [maxLen])) (Nat.le_refl _)
            obtain ⟨sk, hsk⟩ : ∃ sk, strOfNums ((List.range k).map fun (i : Nat) => (i : Int)) = sk := ⟨_, rfl⟩
            have HSK := Lib.hid hsk
            have SKL := Lib.hid (show sk.size = k from by rw [← hsk, strOfNums_size]; simp)
            rw [hsk]
            have AL := Lib.hid (Step.alloc (fun _ => False) wr (.cells #[.int .u8 k] 5 (0, 0)))
            clear hsk
            have hs0 : sk.size ≤ 100 := by have := SKL.out; omega
            have hs1 : (strOfNums [(k : Int)]).size = 1 := by rw [strOfNums_size]; rfl
            have hs2 : ¬ 9223372036854775807 < sk.size + (strOfNums [(k : Int)]).size := by rw [hs1]; omega
            have HS1 := Lib.hid hs1
            clear hs1
            go_wp2_with fail
            go_roundw
            case rel => exact ⟨k + 1, by omega, by go_num, by rw [range_more, ← strOfNums_app, HSK.out], ST.out.then AL.out⟩
            case measure => simp [intOf]; omega
          · have hd : decide ((k : Int) ≤ (n : Int)) = false := decide_eq_false (by omega)
            have hd2 : decide (k ≤ n) = false := decide_eq_false hlt
            obtain rfl : k = n + 1 := by omega
            rw [← HRO.out]
            have CV2 : (convert 28 9 (.slice oa (n + 1) oc2)).run Try.prog wr = .ok (.string (strOfNums ro)) wr := by
              have h := conv_row (ROWO.out.same (w' := wr) fun b _ hlt => ST.out.block b hlt fun x => x) (Nat.le_refl _)
              rwa [List.take_of_length_le (by rw [HRL.out]; exact Nat.le_refl _)] at h
            have i0 := cell_known (ST.out.keeps K13.out) (i := 0) rfl
            have i3 := cell_known (ST.out.keeps K13.out) (i := 3) rfl
            go_wp2_with fail
            go_ret
            exact ⟨rfl, (S13.out.then ST.out).below (Nat.le_refl _) fun _ x => x.elim⟩

/-! ### The row. -/

set_option maxRecDepth 100000 in
theorem lifted (os : Os) (started : os.Started) (H : Type) (enc : TypeId × Value → H) :
    ReturnsInHanded {} Try.checked os 9 .any (Rows.fatSlotsSpec.pre6 enc Try.prog Try.f9 Rows.fatSlotsRow.domain false) (Rows.fatSlotsSpec.post enc Try.prog Try.f9 false true false false) := by
  refine returnsInHanded_of_change (C := Try.checked) own started (by kernel_rfl) Try.func9
    (ChangeSpec.witness6 (enc := enc) (C := Try.checked) false ⟨#[], #[.int .u8 0, .bool false], []⟩ 8 (by kernel_rfl) (by kernel_rfl) (by kernel_rfl) (by kernel_rfl)) ?_
  intro W base args ds gs before hval0 hW hcnd _
  have hval : ∀ (j : Nat) t v, Try.f9.params[j]? = some t → args[j]? = some v → Value.okWide Try.prog W .any base t v := hval0
  have hW' := hW
  obtain ⟨p, q, hA0, hV, rfl, hfz, hnd⟩ := hW
  have hA : DataW.TrodAll enc Try.prog W 0 (fun _ => true) true Try.f9.params.toList args.toList ds p := hA0
  rw [Try.params9] at hA hval
  obtain ⟨v0, vs0, d0, ds0, p0, q0, hargs, rfl, rfl, h0, r0⟩ := trodAll_cons hA
  obtain ⟨v1, vs1, d1, ds1, p1, q1, rfl, rfl, rfl, h1, r1⟩ := trodAll_cons r0
  obtain ⟨rfl, rfl, rfl⟩ := trodAll_nil r1
  obtain rfl : args = #[v0, v1] := by cases args; simp_all
  obtain ⟨rfl, rfl⟩ := trodVars_none hV
  obtain ⟨a0, rfl, rfl, rfl, wa⟩ := open_int Try.underlying5 (hval 0 5 v0 rfl rfl) h0
  obtain ⟨b1, rfl, rfl, rfl⟩ := open_bool Try.underlying4 (hval 1 4 v1 rfl rfl) h1
  clear hA0 hval0
  simp only [List.append_nil] at hW'
  refine (walk a0 b1 (wfu8 wa) W).mono fun e W' ⟨he, hb⟩ => ?_
  subst he
  exact ⟨_, rfl, law_post laidOut (by kernel_rfl) rfl rfl rfl Try.underlying4 hW' hb⟩

theorem over : Rows.fatSlotsRow.holds Try.pinned (OpenSpec.ofChange Rows.fatSlotsSpec) :=
  OpenClaim.holds_of_wide 9 Try.f9 rfl rfl rfl rfl rfl rfl rfl ⟨rfl, rfl, rfl, rfl, rfl⟩ rfl rfl rfl rfl rfl (by kernel_rfl) Try.func9 (by kernel_rfl)
    (of_decide_eq_true (by kernel_rfl)) (by unfold Func.isWrapper; first | (rw [if_pos (by decide +kernel)]; kernel_rfl) | (rw [if_neg (by decide +kernel)]; exact ⟨rfl, rfl⟩))
    (fun os started H enc _ => lifted os started H enc)

/-- The statement. -/
theorem proved : Rows.FatSlotsSaid :=
  over
#print axioms proved
end Go.Proofs.Ytpmbakhnamlooaa.fatSlots
