/- FatMallocs returns true for all sizes and every number of a block, without conditions. -/
import Derived.Test.YtpmbakhnamlooaaRows
import Derived.Lib.SmallJoins
import Derived.Test.YtpmbakhnamlooaaPureE
import Derived.Test.YtpmbakhnamlooaaLawD
import Derived.Test.YtpmbakhnamlooaaLibF
import Derived.Test.YtpmbakhnamlooaaLibK
namespace Go.Proofs.Ytpmbakhnamlooaa.fatMallocs
open Go.ChangeShapes Go.WideShapes Go.ChangeAt Go.RowKit Go.Joins
set_option linter.unusedVariables false
set_option linter.unusedSimpArgs false

theorem own : ownKnob Try.prog.godebug = none := by kernel_rfl

theorem laidOut : laidOutB Try.prog = true := by kernel_rfl
theorem mk1_eq (k : Nat) (n : Int) : mk1 k n = [insOf 1 0 0 0 (n + 1) 0 [] [] 0, insOf 40 0 0 0 0 0 [] [5 * (k : Int) + 1, 5 * (k : Int) + 2, 5 * (k : Int) + 3, 5 * (k : Int) + 4, 5 * (k : Int) + 5] 0, insOf 1 0 0 0 ((k : Int) + 7) 0 [] [] 0, insOf 36 0 (5 * (k : Int) + 1) 0 0 1 [] [] 0] := by
  unfold mk1 regsL
  push_cast
  rfl
theorem regsL_eq (k : Nat) : regsL k = [5 * (k : Int) + 1, 5 * (k : Int) + 2, 5 * (k : Int) + 3, 5 * (k : Int) + 4, 5 * (k : Int) + 5] := by
  unfold regsL
  push_cast
  rfl
theorem ask1_yes {k i : Nat} (h : i ≠ k) (n : Int) : ask1 k i n = [insOf 34 0 0 0 0 (n + 1) [5 * (i : Int) + 1, 5 * (i : Int) + 2, 5 * (i : Int) + 3, 5 * (i : Int) + 4, 5 * (i : Int) + 5] [] 0, insOf 35 0 (5 * (i : Int) + 1) 0 0 1 [] [] 0, insOf 20 0 0 0 0 0 [] [] 0] := by
  unfold ask1
  rw [if_neg h, regsL_eq]
  push_cast
  rfl
theorem take_more {zs : List Int} {k : Nat} (h : k < zs.length) : zs.take (k + 1) = zs.take k ++ [zs.getD k 0] := by
  rw [List.take_succ_eq_append_getElem h, List.getD_eq_getElem?_getD, List.getElem?_eq_getElem h]
  rfl
set_option maxHeartbeats 1000000 in
theorem regs_any {i : Int} (h0 : 0 ≤ i) (h1 : i ≤ 1000) (w : World) : Calls Try.prog 20 #[.int .i64 i] w fun e w' => e = .returned (.slice (some ⟨w.heap.size, 0, none⟩) 5 5) ∧ w' = w.alloc (.cells #[.int .i64 (5 * i + 1), .int .i64 (5 * i + 2), .int .i64 (5 * i + 3), .int .i64 (5 * i + 4), .int .i64 (5 * i + 5)] 3 (0, 0)) := by
  go_enter Try.func20, Try.ntmps20
  go_wp2_with fail
  go_ret
  exact ⟨rfl, rfl⟩
set_option maxHeartbeats 4000000 in
set_option maxRecDepth 100000 in
theorem walk {vz : Value} {zs : List Int} {which : Int} {w : World} (hz : IntsAt .u8 w vz zs) : Calls Try.prog 7 #[vz, .int .i64 which] w fun e w' => e = .returned (.bool true) ∧ Below w.heap.size w w' := by
  obtain ⟨⟨pz, cz, rfl, hz1, hz2, hz3⟩, hzw⟩ := hz
  have HZ := Lib.hid hz3
  have HZW := Lib.hid hzw
  clear hz3 hzw
  have hzl : zs.length ≤ 9223372036854775807 := by simp only [maxLen] at hz2; omega
  clear hz1 hz2
  go_enter Try.func7, Try.ntmps7
  go_wp2_with fail
  refine (awake_any w).mono ?_
  rintro e w2 ⟨rfl, s2⟩
  have S2 := Lib.hid s2
  clear s2
  cases hl0 : ((zs.length : Int) == 0) with
  | true =>
    go_wp2_with fail
    refine (awake_any w2).mono ?_
    rintro e w3 ⟨rfl, s3⟩
    have S3 := Lib.hid (S2.out.then s3)
    clear s3
    go_wp2_with fail
    go_ret
    exact ⟨rfl, S3.out.below (Nat.le_refl _) fun _ x => x.elim⟩
  | false =>
    cases hl1 : decide (12 < (zs.length : Int)) with
    | true =>
      go_wp2_with fail
      refine (awake_any w2).mono ?_
      rintro e w3 ⟨rfl, s3⟩
      have S3 := Lib.hid (S2.out.then s3)
      clear s3
      go_wp2_with fail
      go_ret
      exact ⟨rfl, S3.out.below (Nat.le_refl _) fun _ x => x.elim⟩
    | false =>
      have hL : zs.length ≤ 12 := by have := of_decide_eq_false hl1; omega
      have hL0 : 0 < zs.length := by
        have h : ((zs.length : Int) == 0) = false := hl0
        have : ¬ (zs.length : Int) = 0 := by simpa using h
        omega
      have SM := Lib.hid (show Small zs from ⟨hL, fun j => by
        by_cases hj : j < zs.length
        · rw [List.getD_eq_getElem?_getD, List.getElem?_eq_getElem hj]
          exact wfu8 (HZW.out _ (List.getElem_mem hj))
        · rw [List.getD_eq_getElem?_getD, List.getElem?_eq_none (by omega)]
          exact ⟨Int.le_refl _, by decide⟩⟩)
      obtain ⟨kk, hkk, hkv⟩ : ∃ kk : Nat, kk < zs.length ∧ ((IntKind.u64.wrap which) % (zs.length : Int)) = (kk : Int) := by
        have h0 : 0 ≤ (IntKind.u64.wrap which) % (zs.length : Int) := Int.emod_nonneg _ (by omega)
        have h1 : (IntKind.u64.wrap which) % (zs.length : Int) < zs.length := Int.emod_lt_of_pos _ (by omega)
        exact ⟨((IntKind.u64.wrap which) % (zs.length : Int)).toNat, by omega, by omega⟩
      have hu0 : 0 ≤ IntKind.u64.wrap which := by rw [IntKind.wrap_u64]; exact Int.emod_nonneg _ (by omega)
      have htm : (IntKind.u64.wrap which).tmod (zs.length : Int) = kk := by rw [Int.tmod_eq_emod_of_nonneg hu0, hkv]
      go_upto_region 4 with fail
      clear hkv hu0 htm hl0 hl1
      have HKK := Lib.hid hkk
      clear hkk
      have CN := Lib.hid (code_nil w2)
      go_wp2_with fail
      go_loopw [7, 8, 9, 38] (fun x _ _ i wr => ∃ (k : Nat) (F : Nat → Prop) (q : Option Addr) (c : Nat), k ≤ zs.length ∧ i = .int .i64 k ∧ x = .slice q (4 * k) c ∧ Code w2 wr F x (mks 0 (zs.take k))) (fun _ _ _ i _ => zs.length - (intOf i).toNat)
      case atStart => exact ⟨0, _, none, 0, by omega, rfl, rfl, CN.out⟩
      case round =>
        obtain ⟨k, F, q, c, hk, rfl, rfl, hc⟩ := hrel
        have C := Lib.hid hc
        clear hc
        by_cases hlt : k < zs.length
        · have hd : decide ((k : Int) < (zs.length : Int)) = true := decide_eq_true (by omega)
          have hd2 : decide (k < zs.length) = true := decide_eq_true hlt
          have HLEN := Lib.hid (show (mks 0 (zs.take k)).length = 4 * k from by rw [mks_len, List.length_take]; omega)
          have HTK := Lib.hid (show mks 0 (zs.take (k + 1)) = mks 0 (zs.take k) ++ mk1 k (zs.getD k 0) from by rw [take_more hlt, mks_snoc, List.length_take]; congr 2; omega)
          obtain ⟨az, rfl, hca⟩ := HZ.out k hlt
          have hca := ((S2.out.then C.out.step).cell (block_lt hca) fun x => x).trans hca
          have hz2 := SM.out.2 k
          generalize zs.getD k 0 = z at *
          obtain ⟨hz20, hz21⟩ := hz2
          have q10 := heap_alloc_new wr (.cells #[.int .i64 (5 * (k : Int) + 1), .int .i64 (5 * (k : Int) + 2), .int .i64 (5 * (k : Int) + 3), .int .i64 (5 * (k : Int) + 4), .int .i64 (5 * (k : Int) + 5)] 3 (0, 0))
          have t10 := Step.alloc (fun _ => False) wr (.cells #[.int .i64 (5 * (k : Int) + 1), .int .i64 (5 * (k : Int) + 2), .int .i64 (5 * (k : Int) + 3), .int .i64 (5 * (k : Int) + 4), .int .i64 (5 * (k : Int) + 5)] 3 (0, 0))
          have q11 := heap_alloc_new (wr.alloc (.cells #[.int .i64 (5 * (k : Int) + 1), .int .i64 (5 * (k : Int) + 2), .int .i64 (5 * (k : Int) + 3), .int .i64 (5 * (k : Int) + 4), .int .i64 (5 * (k : Int) + 5)] 3 (0, 0))) (.cells #[.int .i64 1, .int .i64 0, .int .i64 0, .int .i64 0, .int .u64 (z + 1), .int .i64 0, .string ⟨#[]⟩, .slice none 0 0, .slice none 0 0, .int .i64 0, .int .i64 40, .int .i64 0, .int .i64 0, .int .i64 0, .int .u64 0, .int .i64 0, .string ⟨#[]⟩, .slice none 0 0, .slice (some ⟨wr.heap.size, 0, none⟩) 5 5, .int .i64 0, .int .i64 1, .int .i64 0, .int .i64 0, .int .i64 0, .int .u64 ((k : Int) + 7), .int .i64 0, .string ⟨#[]⟩, .slice none 0 0, .slice none 0 0, .int .i64 0, .int .i64 36, .int .i64 0, .int .i64 (5 * (k : Int) + 1), .int .i64 0, .int .u64 0, .int .i64 1, .string ⟨#[]⟩, .slice none 0 0, .slice none 0 0, .int .i64 0] 47 (0, 0))
          have t11 := Step.alloc (fun _ => False) (wr.alloc (.cells #[.int .i64 (5 * (k : Int) + 1), .int .i64 (5 * (k : Int) + 2), .int .i64 (5 * (k : Int) + 3), .int .i64 (5 * (k : Int) + 4), .int .i64 (5 * (k : Int) + 5)] 3 (0, 0))) (.cells #[.int .i64 1, .int .i64 0, .int .i64 0, .int .i64 0, .int .u64 (z + 1), .int .i64 0, .string ⟨#[]⟩, .slice none 0 0, .slice none 0 0, .int .i64 0, .int .i64 40, .int .i64 0, .int .i64 0, .int .i64 0, .int .u64 0, .int .i64 0, .string ⟨#[]⟩, .slice none 0 0, .slice (some ⟨wr.heap.size, 0, none⟩) 5 5, .int .i64 0, .int .i64 1, .int .i64 0, .int .i64 0, .int .i64 0, .int .u64 ((k : Int) + 7), .int .i64 0, .string ⟨#[]⟩, .slice none 0 0, .slice none 0 0, .int .i64 0, .int .i64 36, .int .i64 0, .int .i64 (5 * (k : Int) + 1), .int .i64 0, .int .u64 0, .int .i64 1, .string ⟨#[]⟩, .slice none 0 0, .slice none 0 0, .int .i64 0] 47 (0, 0))
          rw [show (wr.alloc (.cells #[.int .i64 (5 * (k : Int) + 1), .int .i64 (5 * (k : Int) + 2), .int .i64 (5 * (k : Int) + 3), .int .i64 (5 * (k : Int) + 4), .int .i64 (5 * (k : Int) + 5)] 3 (0, 0))).heap.size = wr.heap.size + 1 by simp] at q11
          have Ta := Lib.hid (t10.then t11)
          have Qa_0 := Lib.hid (t11.keeps q10)
          have Qa_1 := Lib.hid q11
          have CWa := Lib.hid (C.out.go Ta.out).row
          have KAa := Lib.hid (show KeepAll F ((wr.alloc (.cells #[.int .i64 (5 * (k : Int) + 1), .int .i64 (5 * (k : Int) + 2), .int .i64 (5 * (k : Int) + 3), .int .i64 (5 * (k : Int) + 4), .int .i64 (5 * (k : Int) + 5)] 3 (0, 0))).alloc (.cells #[.int .i64 1, .int .i64 0, .int .i64 0, .int .i64 0, .int .u64 (z + 1), .int .i64 0, .string ⟨#[]⟩, .slice none 0 0, .slice none 0 0, .int .i64 0, .int .i64 40, .int .i64 0, .int .i64 0, .int .i64 0, .int .u64 0, .int .i64 0, .string ⟨#[]⟩, .slice none 0 0, .slice (some ⟨wr.heap.size, 0, none⟩) 5 5, .int .i64 0, .int .i64 1, .int .i64 0, .int .i64 0, .int .i64 0, .int .u64 ((k : Int) + 7), .int .i64 0, .string ⟨#[]⟩, .slice none 0 0, .slice none 0 0, .int .i64 0, .int .i64 36, .int .i64 0, .int .i64 (5 * (k : Int) + 1), .int .i64 0, .int .u64 0, .int .i64 1, .string ⟨#[]⟩, .slice none 0 0, .slice none 0 0, .int .i64 0] 47 (0, 0))) [insV (insOf 1 0 0 0 (z + 1) 0 [] [] 0) (.slice none 0 0) (.slice none 0 0), insV (insOf 40 0 0 0 0 0 [] [5 * (k : Int) + 1, 5 * (k : Int) + 2, 5 * (k : Int) + 3, 5 * (k : Int) + 4, 5 * (k : Int) + 5] 0) (.slice none 0 0) (.slice (some ⟨wr.heap.size, 0, none⟩) 5 5), insV (insOf 1 0 0 0 ((k : Int) + 7) 0 [] [] 0) (.slice none 0 0) (.slice none 0 0), insV (insOf 36 0 (5 * (k : Int) + 1) 0 0 1 [] [] 0) (.slice none 0 0) (.slice none 0 0)] [insOf 1 0 0 0 (z + 1) 0 [] [] 0, insOf 40 0 0 0 0 0 [] [5 * (k : Int) + 1, 5 * (k : Int) + 2, 5 * (k : Int) + 3, 5 * (k : Int) + 4, 5 * (k : Int) + 5] 0, insOf 1 0 0 0 ((k : Int) + 7) 0 [] [] 0, insOf 36 0 (5 * (k : Int) + 1) 0 0 1 [] [] 0] from ⟨keeps_bare rfl rfl, fun y hy => ⟨_, _, rfl, ints_nil _ _, ints_keep (F := F) (q := .i64) (zs := [5 * (k : Int) + 1, 5 * (k : Int) + 2, 5 * (k : Int) + 3, 5 * (k : Int) + 4, 5 * (k : Int) + 5]) Qa_0.out rfl (C.out.fresh 0) rfl (by simp [maxLen]) (by intro z hz; simp only [List.mem_cons, List.not_mem_nil, or_false] at hz; rcases hz with rfl | rfl | rfl | rfl | rfl <;> simp only [Lit.wf, Bool.and_eq_true, decide_eq_true_eq, show IntKind.i64.min = -9223372036854775808 from rfl, show IntKind.i64.max = 9223372036854775807 from rfl] <;> omega) y hy⟩, keeps_bare rfl rfl, keeps_bare rfl rfl, trivial⟩)
          have BLa := Lib.hid (show ((wr.alloc (.cells #[.int .i64 (5 * (k : Int) + 1), .int .i64 (5 * (k : Int) + 2), .int .i64 (5 * (k : Int) + 3), .int .i64 (5 * (k : Int) + 4), .int .i64 (5 * (k : Int) + 5)] 3 (0, 0))).alloc (.cells #[.int .i64 1, .int .i64 0, .int .i64 0, .int .i64 0, .int .u64 (z + 1), .int .i64 0, .string ⟨#[]⟩, .slice none 0 0, .slice none 0 0, .int .i64 0, .int .i64 40, .int .i64 0, .int .i64 0, .int .i64 0, .int .u64 0, .int .i64 0, .string ⟨#[]⟩, .slice none 0 0, .slice (some ⟨wr.heap.size, 0, none⟩) 5 5, .int .i64 0, .int .i64 1, .int .i64 0, .int .i64 0, .int .i64 0, .int .u64 ((k : Int) + 7), .int .i64 0, .string ⟨#[]⟩, .slice none 0 0, .slice none 0 0, .int .i64 0, .int .i64 36, .int .i64 0, .int .i64 (5 * (k : Int) + 1), .int .i64 0, .int .u64 0, .int .i64 1, .string ⟨#[]⟩, .slice none 0 0, .slice none 0 0, .int .i64 0] 47 (0, 0))).heap[wr.heap.size + 1]? = some (.cells (([insV (insOf 1 0 0 0 (z + 1) 0 [] [] 0) (.slice none 0 0) (.slice none 0 0), insV (insOf 40 0 0 0 0 0 [] [5 * (k : Int) + 1, 5 * (k : Int) + 2, 5 * (k : Int) + 3, 5 * (k : Int) + 4, 5 * (k : Int) + 5] 0) (.slice none 0 0) (.slice (some ⟨wr.heap.size, 0, none⟩) 5 5), insV (insOf 1 0 0 0 ((k : Int) + 7) 0 [] [] 0) (.slice none 0 0) (.slice none 0 0), insV (insOf 36 0 (5 * (k : Int) + 1) 0 0 1 [] [] 0) (.slice none 0 0) (.slice none 0 0)] : List Value).flatMap fun v => v.cells.toList).toArray 47 (0, 0)) from Qa_1.out)
          clear q10 t10 q11 t11
          go_wp2_with fail
          refine (regs_any (i := k) (by omega) (by omega) _).mono ?_
          rintro e w3 ⟨rfl, rfl⟩
          go_wp2_with (first | (at_builtin; refine wpList_append_codeN rfl (.tmp 43) (.tmp 60) rfl (4 * (k + 1)) rfl CWa.out rfl BLa.out KAa.out rfl (by omega) (by rw [HLEN.out]; omega) (by rw [HLEN.out]; omega) (show _ = mks 0 (zs.take (k + 1)) from by rw [HTK.out, mk1_eq]) ?_))
          intro ga capa w4 F4 hcr hF hFl st
          have C4 := Lib.hid ((C.out.go Ta.out).app hcr (fun b hb => (hF b hb).imp_right fun h => by simpa using h) hFl st)
          clear hcr hF hFl st
          go_wp2_with fail
          go_roundw
          case rel => exact ⟨k + 1, F4, _, _, by omega, by go_num, rfl, C4.out⟩
          case measure => simp [intOf]; omega
        · have hd : decide ((k : Int) < (zs.length : Int)) = false := decide_eq_false (by omega)
          have hd2 : decide (k < zs.length) = false := decide_eq_false hlt
          obtain rfl : k = zs.length := by omega
          have C3 := Lib.hid (show Code w2 wr F (.slice q (4 * zs.length) c) (mks 0 zs) from by have h := C.out; rwa [List.take_length] at h)
          have HLEN := Lib.hid (mks_len zs 0)
          clear C hd hd2
          have hkk := HKK.out
          have q10 := heap_alloc_new wr (.cells #[.int .i64 (5 * (kk : Int) + 1), .int .i64 (5 * (kk : Int) + 2), .int .i64 (5 * (kk : Int) + 3), .int .i64 (5 * (kk : Int) + 4), .int .i64 (5 * (kk : Int) + 5)] 3 (0, 0))
          have t10 := Step.alloc (fun _ => False) wr (.cells #[.int .i64 (5 * (kk : Int) + 1), .int .i64 (5 * (kk : Int) + 2), .int .i64 (5 * (kk : Int) + 3), .int .i64 (5 * (kk : Int) + 4), .int .i64 (5 * (kk : Int) + 5)] 3 (0, 0))
          have q11 := heap_alloc_new (wr.alloc (.cells #[.int .i64 (5 * (kk : Int) + 1), .int .i64 (5 * (kk : Int) + 2), .int .i64 (5 * (kk : Int) + 3), .int .i64 (5 * (kk : Int) + 4), .int .i64 (5 * (kk : Int) + 5)] 3 (0, 0))) (.cells #[.int .i64 41, .int .i64 0, .int .i64 0, .int .i64 0, .int .u64 0, .int .i64 0, .string ⟨#[]⟩, .slice (some ⟨wr.heap.size, 0, none⟩) 5 5, .slice none 0 0, .int .i64 0] 47 (0, 0))
          have t11 := Step.alloc (fun _ => False) (wr.alloc (.cells #[.int .i64 (5 * (kk : Int) + 1), .int .i64 (5 * (kk : Int) + 2), .int .i64 (5 * (kk : Int) + 3), .int .i64 (5 * (kk : Int) + 4), .int .i64 (5 * (kk : Int) + 5)] 3 (0, 0))) (.cells #[.int .i64 41, .int .i64 0, .int .i64 0, .int .i64 0, .int .u64 0, .int .i64 0, .string ⟨#[]⟩, .slice (some ⟨wr.heap.size, 0, none⟩) 5 5, .slice none 0 0, .int .i64 0] 47 (0, 0))
          rw [show (wr.alloc (.cells #[.int .i64 (5 * (kk : Int) + 1), .int .i64 (5 * (kk : Int) + 2), .int .i64 (5 * (kk : Int) + 3), .int .i64 (5 * (kk : Int) + 4), .int .i64 (5 * (kk : Int) + 5)] 3 (0, 0))).heap.size = wr.heap.size + 1 by simp] at q11
          have Tb := Lib.hid (t10.then t11)
          have Qb_0 := Lib.hid (t11.keeps q10)
          have Qb_1 := Lib.hid q11
          have CWb := Lib.hid (C3.out.go Tb.out).row
          have KAb := Lib.hid (show KeepAll F ((wr.alloc (.cells #[.int .i64 (5 * (kk : Int) + 1), .int .i64 (5 * (kk : Int) + 2), .int .i64 (5 * (kk : Int) + 3), .int .i64 (5 * (kk : Int) + 4), .int .i64 (5 * (kk : Int) + 5)] 3 (0, 0))).alloc (.cells #[.int .i64 41, .int .i64 0, .int .i64 0, .int .i64 0, .int .u64 0, .int .i64 0, .string ⟨#[]⟩, .slice (some ⟨wr.heap.size, 0, none⟩) 5 5, .slice none 0 0, .int .i64 0] 47 (0, 0))) [insV (insOf 41 0 0 0 0 0 [5 * (kk : Int) + 1, 5 * (kk : Int) + 2, 5 * (kk : Int) + 3, 5 * (kk : Int) + 4, 5 * (kk : Int) + 5] [] 0) (.slice (some ⟨wr.heap.size, 0, none⟩) 5 5) (.slice none 0 0)] [insOf 41 0 0 0 0 0 [5 * (kk : Int) + 1, 5 * (kk : Int) + 2, 5 * (kk : Int) + 3, 5 * (kk : Int) + 4, 5 * (kk : Int) + 5] [] 0] from ⟨fun y hy => ⟨_, _, rfl, ints_keep (F := F) (q := .i64) (zs := [5 * (kk : Int) + 1, 5 * (kk : Int) + 2, 5 * (kk : Int) + 3, 5 * (kk : Int) + 4, 5 * (kk : Int) + 5]) Qb_0.out rfl (C3.out.fresh 0) rfl (by simp [maxLen]) (by intro z hz; simp only [List.mem_cons, List.not_mem_nil, or_false] at hz; rcases hz with rfl | rfl | rfl | rfl | rfl <;> simp only [Lit.wf, Bool.and_eq_true, decide_eq_true_eq, show IntKind.i64.min = -9223372036854775808 from rfl, show IntKind.i64.max = 9223372036854775807 from rfl] <;> omega) y hy, ints_nil _ _⟩, trivial⟩)
          have BLb := Lib.hid (show ((wr.alloc (.cells #[.int .i64 (5 * (kk : Int) + 1), .int .i64 (5 * (kk : Int) + 2), .int .i64 (5 * (kk : Int) + 3), .int .i64 (5 * (kk : Int) + 4), .int .i64 (5 * (kk : Int) + 5)] 3 (0, 0))).alloc (.cells #[.int .i64 41, .int .i64 0, .int .i64 0, .int .i64 0, .int .u64 0, .int .i64 0, .string ⟨#[]⟩, .slice (some ⟨wr.heap.size, 0, none⟩) 5 5, .slice none 0 0, .int .i64 0] 47 (0, 0))).heap[wr.heap.size + 1]? = some (.cells (([insV (insOf 41 0 0 0 0 0 [5 * (kk : Int) + 1, 5 * (kk : Int) + 2, 5 * (kk : Int) + 3, 5 * (kk : Int) + 4, 5 * (kk : Int) + 5] [] 0) (.slice (some ⟨wr.heap.size, 0, none⟩) 5 5) (.slice none 0 0)] : List Value).flatMap fun v => v.cells.toList).toArray 47 (0, 0)) from Qb_1.out)
          clear q10 t10 q11 t11
          go_wp2_with fail
          refine (regs_any (i := kk) (by omega) (by omega) _).mono ?_
          rintro e w3 ⟨rfl, rfl⟩
          go_wp2_with (first | (at_builtin; refine wpList_append_codeN rfl (.tmp 63) (.tmp 68) rfl (4 * zs.length + 1) rfl CWb.out rfl BLb.out KAb.out rfl (by omega) (by rw [HLEN.out]; omega) (by rw [HLEN.out]) (show _ = mks 0 zs ++ [insOf 41 0 0 0 0 0 (regsL kk) [] 0] from by rw [regsL_eq]) ?_))
          intro gb capb w4 F4 hcr hF hFl st
          have C4 := Lib.hid ((C3.out.go Tb.out).app hcr (fun b hb => (hF b hb).imp_right fun h => by simpa using h) hFl st)
          clear hcr hF hFl st
          have B0 := Lib.hid (show (mks 0 zs ++ [insOf 41 0 0 0 0 0 (regsL kk) [] 0]).length = 4 * zs.length + 1 from by rw [List.length_append, HLEN.out]; rfl)
          obtain ⟨base, hbase⟩ : ∃ base, base = mks 0 zs ++ [insOf 41 0 0 0 0 0 (regsL kk) [] 0] := ⟨_, rfl⟩
          rw [← hbase] at C4 B0
          have HB := Lib.hid hbase
          clear hbase hlt hk HLEN
          go_wp2_with fail
          go_loopw [7, 10, 11, 72] (fun x _ _ i wr => ∃ (k : Nat) (F : Nat → Prop) (q : Option Addr) (c : Nat), k ≤ zs.length ∧ i = .int .i64 k ∧ x = .slice q (4 * zs.length + 1 + askLen kk k) c ∧ Code w2 wr F x (base ++ asks kk 0 (zs.take k))) (fun _ _ _ i _ => zs.length - (intOf i).toNat)
          case atStart => exact ⟨0, F4, _, _, by omega, rfl, rfl, by have h := C4.out; rwa [show base = base ++ asks kk 0 (zs.take 0) from by simp [asks]] at h⟩
          case round =>
            clear C3 C4
            obtain ⟨k, F, q, c, hk, rfl, rfl, hc⟩ := hrel
            have C := Lib.hid hc
            clear hc
            have HLEN := Lib.hid (show (base ++ asks kk 0 (zs.take k)).length = 4 * zs.length + 1 + askLen kk k from by rw [List.length_append, B0.out, asks_len, List.length_take, show min k zs.length = k by omega])
            have hal := askLen_le kk k
            by_cases hlt : k < zs.length
            · have hd : decide ((k : Int) < (zs.length : Int)) = true := decide_eq_true (by omega)
              have hd2 : decide (k < zs.length) = true := decide_eq_true hlt
              have HTK := Lib.hid (show asks kk 0 (zs.take (k + 1)) = asks kk 0 (zs.take k) ++ ask1 kk k (zs.getD k 0) from by rw [take_more hlt, asks_snoc, List.length_take]; congr 2; omega)
              obtain ⟨az, haz, hca⟩ := HZ.out k hlt
              subst haz
              have hca := ((S2.out.then C.out.step).cell (block_lt hca) fun x => x).trans hca
              have hz2 := SM.out.2 k
              generalize zs.getD k 0 = z at *
              obtain ⟨hz20, hz21⟩ := hz2
              by_cases hkq : k = kk
              · have hne : ((k : Int) != (kk : Int)) = false := by simp [hkq]
                have HAL := Lib.hid (show askLen kk (k + 1) = askLen kk k from by rw [askLen, if_pos hkq]; rfl)
                have HTK2 := Lib.hid (show asks kk 0 (zs.take (k + 1)) = asks kk 0 (zs.take k) from by rw [HTK.out]; unfold ask1; rw [if_pos hkq, List.append_nil])
                clear hkq
                go_wp2_with fail
                go_roundw
                case rel => exact ⟨k + 1, F, _, _, by omega, by go_num, by rw [HAL.out], by rw [HTK2.out]; exact C.out⟩
                case measure => simp [intOf]; omega
              · have hne : ((k : Int) != (kk : Int)) = true := by have : (k : Int) ≠ (kk : Int) := (by omega); simpa using this
                have HAL := Lib.hid (show askLen kk (k + 1) = askLen kk k + 3 from by rw [askLen, if_neg hkq])
                have HA1 := Lib.hid (ask1_yes hkq z)
                clear hkq
                have q10 := heap_alloc_new wr (.cells #[.int .i64 (5 * (k : Int) + 1), .int .i64 (5 * (k : Int) + 2), .int .i64 (5 * (k : Int) + 3), .int .i64 (5 * (k : Int) + 4), .int .i64 (5 * (k : Int) + 5)] 3 (0, 0))
                have t10 := Step.alloc (fun _ => False) wr (.cells #[.int .i64 (5 * (k : Int) + 1), .int .i64 (5 * (k : Int) + 2), .int .i64 (5 * (k : Int) + 3), .int .i64 (5 * (k : Int) + 4), .int .i64 (5 * (k : Int) + 5)] 3 (0, 0))
                have q11 := heap_alloc_new (wr.alloc (.cells #[.int .i64 (5 * (k : Int) + 1), .int .i64 (5 * (k : Int) + 2), .int .i64 (5 * (k : Int) + 3), .int .i64 (5 * (k : Int) + 4), .int .i64 (5 * (k : Int) + 5)] 3 (0, 0))) (.cells #[.int .i64 34, .int .i64 0, .int .i64 0, .int .i64 0, .int .u64 0, .int .i64 (z + 1), .string ⟨#[]⟩, .slice (some ⟨wr.heap.size, 0, none⟩) 5 5, .slice none 0 0, .int .i64 0, .int .i64 35, .int .i64 0, .int .i64 (5 * (k : Int) + 1), .int .i64 0, .int .u64 0, .int .i64 1, .string ⟨#[]⟩, .slice none 0 0, .slice none 0 0, .int .i64 0, .int .i64 20, .int .i64 0, .int .i64 0, .int .i64 0, .int .u64 0, .int .i64 0, .string ⟨#[]⟩, .slice none 0 0, .slice none 0 0, .int .i64 0] 47 (0, 0))
                have t11 := Step.alloc (fun _ => False) (wr.alloc (.cells #[.int .i64 (5 * (k : Int) + 1), .int .i64 (5 * (k : Int) + 2), .int .i64 (5 * (k : Int) + 3), .int .i64 (5 * (k : Int) + 4), .int .i64 (5 * (k : Int) + 5)] 3 (0, 0))) (.cells #[.int .i64 34, .int .i64 0, .int .i64 0, .int .i64 0, .int .u64 0, .int .i64 (z + 1), .string ⟨#[]⟩, .slice (some ⟨wr.heap.size, 0, none⟩) 5 5, .slice none 0 0, .int .i64 0, .int .i64 35, .int .i64 0, .int .i64 (5 * (k : Int) + 1), .int .i64 0, .int .u64 0, .int .i64 1, .string ⟨#[]⟩, .slice none 0 0, .slice none 0 0, .int .i64 0, .int .i64 20, .int .i64 0, .int .i64 0, .int .i64 0, .int .u64 0, .int .i64 0, .string ⟨#[]⟩, .slice none 0 0, .slice none 0 0, .int .i64 0] 47 (0, 0))
                rw [show (wr.alloc (.cells #[.int .i64 (5 * (k : Int) + 1), .int .i64 (5 * (k : Int) + 2), .int .i64 (5 * (k : Int) + 3), .int .i64 (5 * (k : Int) + 4), .int .i64 (5 * (k : Int) + 5)] 3 (0, 0))).heap.size = wr.heap.size + 1 by simp] at q11
                have Tc := Lib.hid (t10.then t11)
                have Qc_0 := Lib.hid (t11.keeps q10)
                have Qc_1 := Lib.hid q11
                have CWc := Lib.hid (C.out.go Tc.out).row
                have KAc := Lib.hid (show KeepAll F ((wr.alloc (.cells #[.int .i64 (5 * (k : Int) + 1), .int .i64 (5 * (k : Int) + 2), .int .i64 (5 * (k : Int) + 3), .int .i64 (5 * (k : Int) + 4), .int .i64 (5 * (k : Int) + 5)] 3 (0, 0))).alloc (.cells #[.int .i64 34, .int .i64 0, .int .i64 0, .int .i64 0, .int .u64 0, .int .i64 (z + 1), .string ⟨#[]⟩, .slice (some ⟨wr.heap.size, 0, none⟩) 5 5, .slice none 0 0, .int .i64 0, .int .i64 35, .int .i64 0, .int .i64 (5 * (k : Int) + 1), .int .i64 0, .int .u64 0, .int .i64 1, .string ⟨#[]⟩, .slice none 0 0, .slice none 0 0, .int .i64 0, .int .i64 20, .int .i64 0, .int .i64 0, .int .i64 0, .int .u64 0, .int .i64 0, .string ⟨#[]⟩, .slice none 0 0, .slice none 0 0, .int .i64 0] 47 (0, 0))) [insV (insOf 34 0 0 0 0 (z + 1) [5 * (k : Int) + 1, 5 * (k : Int) + 2, 5 * (k : Int) + 3, 5 * (k : Int) + 4, 5 * (k : Int) + 5] [] 0) (.slice (some ⟨wr.heap.size, 0, none⟩) 5 5) (.slice none 0 0), insV (insOf 35 0 (5 * (k : Int) + 1) 0 0 1 [] [] 0) (.slice none 0 0) (.slice none 0 0), insV (insOf 20 0 0 0 0 0 [] [] 0) (.slice none 0 0) (.slice none 0 0)] [insOf 34 0 0 0 0 (z + 1) [5 * (k : Int) + 1, 5 * (k : Int) + 2, 5 * (k : Int) + 3, 5 * (k : Int) + 4, 5 * (k : Int) + 5] [] 0, insOf 35 0 (5 * (k : Int) + 1) 0 0 1 [] [] 0, insOf 20 0 0 0 0 0 [] [] 0] from ⟨fun y hy => ⟨_, _, rfl, ints_keep (F := F) (q := .i64) (zs := [5 * (k : Int) + 1, 5 * (k : Int) + 2, 5 * (k : Int) + 3, 5 * (k : Int) + 4, 5 * (k : Int) + 5]) Qc_0.out rfl (C.out.fresh 0) rfl (by simp [maxLen]) (by intro z hz; simp only [List.mem_cons, List.not_mem_nil, or_false] at hz; rcases hz with rfl | rfl | rfl | rfl | rfl <;> simp only [Lit.wf, Bool.and_eq_true, decide_eq_true_eq, show IntKind.i64.min = -9223372036854775808 from rfl, show IntKind.i64.max = 9223372036854775807 from rfl] <;> omega) y hy, ints_nil _ _⟩, keeps_bare rfl rfl, keeps_bare rfl rfl, trivial⟩)
                have BLc := Lib.hid (show ((wr.alloc (.cells #[.int .i64 (5 * (k : Int) + 1), .int .i64 (5 * (k : Int) + 2), .int .i64 (5 * (k : Int) + 3), .int .i64 (5 * (k : Int) + 4), .int .i64 (5 * (k : Int) + 5)] 3 (0, 0))).alloc (.cells #[.int .i64 34, .int .i64 0, .int .i64 0, .int .i64 0, .int .u64 0, .int .i64 (z + 1), .string ⟨#[]⟩, .slice (some ⟨wr.heap.size, 0, none⟩) 5 5, .slice none 0 0, .int .i64 0, .int .i64 35, .int .i64 0, .int .i64 (5 * (k : Int) + 1), .int .i64 0, .int .u64 0, .int .i64 1, .string ⟨#[]⟩, .slice none 0 0, .slice none 0 0, .int .i64 0, .int .i64 20, .int .i64 0, .int .i64 0, .int .i64 0, .int .u64 0, .int .i64 0, .string ⟨#[]⟩, .slice none 0 0, .slice none 0 0, .int .i64 0] 47 (0, 0))).heap[wr.heap.size + 1]? = some (.cells (([insV (insOf 34 0 0 0 0 (z + 1) [5 * (k : Int) + 1, 5 * (k : Int) + 2, 5 * (k : Int) + 3, 5 * (k : Int) + 4, 5 * (k : Int) + 5] [] 0) (.slice (some ⟨wr.heap.size, 0, none⟩) 5 5) (.slice none 0 0), insV (insOf 35 0 (5 * (k : Int) + 1) 0 0 1 [] [] 0) (.slice none 0 0) (.slice none 0 0), insV (insOf 20 0 0 0 0 0 [] [] 0) (.slice none 0 0) (.slice none 0 0)] : List Value).flatMap fun v => v.cells.toList).toArray 47 (0, 0)) from Qc_1.out)
                clear q10 t10 q11 t11
                go_wp2_with fail
                refine (regs_any (i := k) (by omega) (by omega) _).mono ?_
                rintro e w3 ⟨rfl, rfl⟩
                go_wp2_with (first | (at_builtin; refine wpList_append_codeN rfl (.tmp 80) (.tmp 93) rfl (4 * zs.length + 1 + askLen kk (k + 1)) rfl CWc.out rfl BLc.out KAc.out rfl (by omega) (by rw [HLEN.out]; omega) (by rw [HLEN.out, HAL.out]; omega) (show _ = base ++ asks kk 0 (zs.take (k + 1)) from by rw [HTK.out, HA1.out, List.append_assoc]) ?_))
                intro gc capc w4 F4 hcr hF hFl st
                have C4 := Lib.hid ((C.out.go Tc.out).app hcr (fun b hb => (hF b hb).imp_right fun h => by simpa using h) hFl st)
                clear hcr hF hFl st
                go_wp2_with fail
                go_roundw
                case rel => exact ⟨k + 1, F4, _, _, by omega, by go_num, rfl, C4.out⟩
                case measure => simp [intOf]; omega
            · have hd : decide ((k : Int) < (zs.length : Int)) = false := decide_eq_false (by omega)
              have hd2 : decide (k < zs.length) = false := decide_eq_false hlt
              obtain rfl : k = zs.length := by omega
              have C3 := Lib.hid (show Code w2 wr F (.slice q (4 * zs.length + 1 + askLen kk zs.length) c) (base ++ asks kk 0 zs) from by have h := C.out; rwa [List.take_length] at h)
              have HLN := Lib.hid (show (base ++ asks kk 0 zs).length = 4 * zs.length + 1 + askLen kk zs.length from by rw [List.length_append, B0.out, asks_len])
              clear C hd hd2
              have q10 := heap_alloc_new wr (.cells #[.int .i64 (5 * (kk : Int) + 1), .int .i64 (5 * (kk : Int) + 2), .int .i64 (5 * (kk : Int) + 3), .int .i64 (5 * (kk : Int) + 4), .int .i64 (5 * (kk : Int) + 5)] 3 (0, 0))
              have t10 := Step.alloc (fun _ => False) wr (.cells #[.int .i64 (5 * (kk : Int) + 1), .int .i64 (5 * (kk : Int) + 2), .int .i64 (5 * (kk : Int) + 3), .int .i64 (5 * (kk : Int) + 4), .int .i64 (5 * (kk : Int) + 5)] 3 (0, 0))
              have q11 := heap_alloc_new (wr.alloc (.cells #[.int .i64 (5 * (kk : Int) + 1), .int .i64 (5 * (kk : Int) + 2), .int .i64 (5 * (kk : Int) + 3), .int .i64 (5 * (kk : Int) + 4), .int .i64 (5 * (kk : Int) + 5)] 3 (0, 0))) (.cells #[.int .i64 34, .int .i64 0, .int .i64 0, .int .i64 0, .int .u64 0, .int .i64 1, .string ⟨#[]⟩, .slice (some ⟨wr.heap.size, 0, none⟩) 5 5, .slice none 0 0, .int .i64 0, .int .i64 43, .int .i64 0, .int .i64 0, .int .i64 0, .int .u64 0, .int .i64 0, .string ⟨#[]⟩, .slice none 0 0, .slice none 0 0, .int .i64 0] 47 (0, 0))
              have t11 := Step.alloc (fun _ => False) (wr.alloc (.cells #[.int .i64 (5 * (kk : Int) + 1), .int .i64 (5 * (kk : Int) + 2), .int .i64 (5 * (kk : Int) + 3), .int .i64 (5 * (kk : Int) + 4), .int .i64 (5 * (kk : Int) + 5)] 3 (0, 0))) (.cells #[.int .i64 34, .int .i64 0, .int .i64 0, .int .i64 0, .int .u64 0, .int .i64 1, .string ⟨#[]⟩, .slice (some ⟨wr.heap.size, 0, none⟩) 5 5, .slice none 0 0, .int .i64 0, .int .i64 43, .int .i64 0, .int .i64 0, .int .i64 0, .int .u64 0, .int .i64 0, .string ⟨#[]⟩, .slice none 0 0, .slice none 0 0, .int .i64 0] 47 (0, 0))
              rw [show (wr.alloc (.cells #[.int .i64 (5 * (kk : Int) + 1), .int .i64 (5 * (kk : Int) + 2), .int .i64 (5 * (kk : Int) + 3), .int .i64 (5 * (kk : Int) + 4), .int .i64 (5 * (kk : Int) + 5)] 3 (0, 0))).heap.size = wr.heap.size + 1 by simp] at q11
              have Td := Lib.hid (t10.then t11)
              have Qd_0 := Lib.hid (t11.keeps q10)
              have Qd_1 := Lib.hid q11
              have CWd := Lib.hid (C3.out.go Td.out).row
              have KAd := Lib.hid (show KeepAll F ((wr.alloc (.cells #[.int .i64 (5 * (kk : Int) + 1), .int .i64 (5 * (kk : Int) + 2), .int .i64 (5 * (kk : Int) + 3), .int .i64 (5 * (kk : Int) + 4), .int .i64 (5 * (kk : Int) + 5)] 3 (0, 0))).alloc (.cells #[.int .i64 34, .int .i64 0, .int .i64 0, .int .i64 0, .int .u64 0, .int .i64 1, .string ⟨#[]⟩, .slice (some ⟨wr.heap.size, 0, none⟩) 5 5, .slice none 0 0, .int .i64 0, .int .i64 43, .int .i64 0, .int .i64 0, .int .i64 0, .int .u64 0, .int .i64 0, .string ⟨#[]⟩, .slice none 0 0, .slice none 0 0, .int .i64 0] 47 (0, 0))) [insV (insOf 34 0 0 0 0 1 [5 * (kk : Int) + 1, 5 * (kk : Int) + 2, 5 * (kk : Int) + 3, 5 * (kk : Int) + 4, 5 * (kk : Int) + 5] [] 0) (.slice (some ⟨wr.heap.size, 0, none⟩) 5 5) (.slice none 0 0), insV (insOf 43 0 0 0 0 0 [] [] 0) (.slice none 0 0) (.slice none 0 0)] [insOf 34 0 0 0 0 1 [5 * (kk : Int) + 1, 5 * (kk : Int) + 2, 5 * (kk : Int) + 3, 5 * (kk : Int) + 4, 5 * (kk : Int) + 5] [] 0, insOf 43 0 0 0 0 0 [] [] 0] from ⟨fun y hy => ⟨_, _, rfl, ints_keep (F := F) (q := .i64) (zs := [5 * (kk : Int) + 1, 5 * (kk : Int) + 2, 5 * (kk : Int) + 3, 5 * (kk : Int) + 4, 5 * (kk : Int) + 5]) Qd_0.out rfl (C3.out.fresh 0) rfl (by simp [maxLen]) (by intro z hz; simp only [List.mem_cons, List.not_mem_nil, or_false] at hz; rcases hz with rfl | rfl | rfl | rfl | rfl <;> simp only [Lit.wf, Bool.and_eq_true, decide_eq_true_eq, show IntKind.i64.min = -9223372036854775808 from rfl, show IntKind.i64.max = 9223372036854775807 from rfl] <;> omega) y hy, ints_nil _ _⟩, keeps_bare rfl rfl, trivial⟩)
              have BLd := Lib.hid (show ((wr.alloc (.cells #[.int .i64 (5 * (kk : Int) + 1), .int .i64 (5 * (kk : Int) + 2), .int .i64 (5 * (kk : Int) + 3), .int .i64 (5 * (kk : Int) + 4), .int .i64 (5 * (kk : Int) + 5)] 3 (0, 0))).alloc (.cells #[.int .i64 34, .int .i64 0, .int .i64 0, .int .i64 0, .int .u64 0, .int .i64 1, .string ⟨#[]⟩, .slice (some ⟨wr.heap.size, 0, none⟩) 5 5, .slice none 0 0, .int .i64 0, .int .i64 43, .int .i64 0, .int .i64 0, .int .i64 0, .int .u64 0, .int .i64 0, .string ⟨#[]⟩, .slice none 0 0, .slice none 0 0, .int .i64 0] 47 (0, 0))).heap[wr.heap.size + 1]? = some (.cells (([insV (insOf 34 0 0 0 0 1 [5 * (kk : Int) + 1, 5 * (kk : Int) + 2, 5 * (kk : Int) + 3, 5 * (kk : Int) + 4, 5 * (kk : Int) + 5] [] 0) (.slice (some ⟨wr.heap.size, 0, none⟩) 5 5) (.slice none 0 0), insV (insOf 43 0 0 0 0 0 [] [] 0) (.slice none 0 0) (.slice none 0 0)] : List Value).flatMap fun v => v.cells.toList).toArray 47 (0, 0)) from Qd_1.out)
              clear q10 t10 q11 t11
              go_wp2_with fail
              refine (regs_any (i := kk) (by omega) (by omega) _).mono ?_
              rintro e w3 ⟨rfl, rfl⟩
              go_wp2_with (first | (at_builtin; refine wpList_append_codeN rfl (.tmp 96) (.tmp 102) rfl (4 * zs.length + 1 + askLen kk zs.length + 2) rfl CWd.out rfl BLd.out KAd.out rfl (by omega) (by rw [HLN.out]; omega) (by rw [HLN.out]) (show _ = mallocsC zs kk from by rw [HB.out]; unfold mallocsC; rw [regsL_eq]) ?_))
              intro gd capd w4 F4 hcr hF hFl st
              have C4 := Lib.hid ((C3.out.go Td.out).app hcr (fun b hb => (hF b hb).imp_right fun h => by simpa using h) hFl st)
              clear hcr hF hFl st
              have HL4 := Lib.hid (show (mallocsC zs kk).length = 4 * zs.length + 1 + askLen kk zs.length + 2 from by have e := congrArg List.length (show base ++ asks kk 0 zs ++ [insOf 34 0 0 0 0 1 (regsL kk) [] 0, insOf 43 0 0 0 0 0 [] [] 0] = mallocsC zs kk from by rw [HB.out]; rfl); rw [← e, List.length_append, HLN.out]; rfl)
              have ALONE := Lib.hid (show _ from by have h := alone_any (w := w4) (regs := 5 * zs.length + 1) (sl := []) (by omega) (ints_nil _ _) C4.out.row.code; rw [show ((5 * zs.length + 1 : Nat) : Int) = 5 * (zs.length : Int) + 1 by push_cast; rfl] at h; exact h)
              go_wp2_with fail
              refine ALONE.out.mono ?_
              rintro e w11 ⟨vt, vf, rfl, htops, hfns, s11⟩
              have RUN := Lib.hid (Run_any (w := w11) (fuel := 1000) htops hfns (ints_nil .u8 w11) (unitOk_alone (by omega) (by simp) (by have := mallocs_len zs kk; omega) (mallocs_ok SM.out)) (by omega))
              obtain ⟨steps, hsteps⟩ := mallocs_run SM.out hkk
              rw [hsteps] at RUN
              have OUT := Lib.hid (outK_get kk zs.length)
              have HOL := outK_len kk zs.length
              rw [if_pos hkk] at HOL
              generalize outK kk zs.length = outl at *
              obtain ⟨m, hm⟩ : ∃ m, outl.length = m := ⟨_, rfl⟩
              have hmL : m + 1 = zs.length := by omega
              rw [hm] at OUT
              have HM := Lib.hid hm
              have S11 := Lib.hid ((S2.out.then C4.out.step).then s11)
              clear s11 htops hfns hsteps hm HOL C3 ALONE
              go_wp2_with fail
              refine RUN.out.mono ?_
              rintro e w12 ⟨vo, rfl, hrow, s12⟩
              simp only at hrow
              rw [HM.out] at hrow
              have hroww := hrow
              obtain ⟨oa, oc2, rfl⟩ := hrow.slice
              have s13 := Step.alloc (fun _ => False) w12 (.cells #[.int .i64 2, .int .u8 0, .int .i64 0, .slice oa m oc2, .int .i64 steps, .int .i64 (zs.length : Int)] 31 (0, 0))
              have ROWO := Lib.hid (hroww.same (w' := w12.alloc (.cells #[.int .i64 2, .int .u8 0, .int .i64 0, .slice oa m oc2, .int .i64 steps, .int .i64 (zs.length : Int)] 31 (0, 0))) fun b _ hlt => heap_alloc_old w12 _ hlt)
              have S13 := Lib.hid ((S11.out.then s12).then s13)
              have hne1 : ((m : Int) != (zs.length : Int) - 1) = false := by have : (m : Int) = (zs.length : Int) - 1 := (by omega); simpa using this
              unfold resV
              clear hrow hroww s12 s13
              go_wp2_with fail
              generalize w12.alloc (.cells #[.int .i64 2, .int .u8 0, .int .i64 0, .slice oa m oc2, .int .i64 steps, .int .i64 (zs.length : Int)] 31 (0, 0)) = w13 at *
              clear hlt hk hne1
              go_loop [13, 14, 15, 133] (fun _ _ _ i => ∃ k : Nat, k ≤ m ∧ i = .int .i64 k) (fun _ _ _ i => m - (intOf i).toNat)
              case atStart => exact ⟨0, by omega, rfl⟩
              case round =>
                obtain ⟨k, hk, rfl⟩ := hrel
                by_cases hlt : k < m
                · have hd : decide ((k : Int) < (m : Int)) = true := decide_eq_true (by omega)
                  have hd2 : decide (k < m) = true := decide_eq_true hlt
                  obtain ⟨z, hz, hw⟩ : ∃ z, outl[k]? = some z ∧ z = (if k < kk then (k : Int) + 7 else (k : Int) + 8) := by
                    have h := OUT.out k hlt
                    have hml := HM.out
                    rw [List.getD_eq_getElem?_getD, List.getElem?_eq_getElem (by omega)] at h
                    exact ⟨_, List.getElem?_eq_getElem (by omega), h⟩
                  obtain ⟨og, ocap, cur, eo, _, hcur, _, _, _, htk⟩ := ROWO.out.some (by omega)
                  cases eo
                  have cz : w13.cell? ⟨og, k, none⟩ = some (.int .u8 z) := row_cell (size := 1) hcur htk (by rw [List.getElem?_map, hz]; rfl)
                  clear hz hcur htk
                  by_cases hkc : kk ≤ k
                  · have hz8 : z = (k : Int) + 8 := by rw [hw, if_neg (by omega)]
                    have hg : decide ((kk : Int) ≤ (k : Int)) = true := decide_eq_true (by omega)
                    have hg2 : decide (kk ≤ k) = true := decide_eq_true hkc
                    have hg3 : decide ((k : Int) < (kk : Int)) = false := decide_eq_false (by omega)
                    have hg4 : decide (k < kk) = false := decide_eq_false (by omega)
                    have h1 : (z != (k : Int) + 7 + 1) = false := by have : z = (k : Int) + 7 + 1 := (by omega); simpa using this
                    have h2 : (z != (k : Int) + 8) = false := by simpa using hz8
                    have hzb0 : 0 ≤ z := by omega
                    have hzb1 : z ≤ 255 := by omega
                    clear hw hz8 hkc
                    go_wp2_with fail
                    go_round
                    case rel => exact ⟨k + 1, by omega, by go_num⟩
                    case measure => simp [intOf]; omega
                  · have hz8 : z = (k : Int) + 7 := by rw [hw, if_pos (by omega)]
                    have hg : decide ((kk : Int) ≤ (k : Int)) = false := decide_eq_false (by omega)
                    have hg2 : decide (kk ≤ k) = false := decide_eq_false hkc
                    have hg3 : decide ((k : Int) < (kk : Int)) = true := decide_eq_true (by omega)
                    have hg4 : decide (k < kk) = true := decide_eq_true (by omega)
                    have h2 : (z != (k : Int) + 7) = false := by simpa using hz8
                    have hzb0 : 0 ≤ z := by omega
                    have hzb1 : z ≤ 255 := by omega
                    clear hw hz8 hkc
                    go_wp2_with fail
                    go_round
                    case rel => exact ⟨k + 1, by omega, by go_num⟩
                    case measure => simp [intOf]; omega
                · have hd : decide ((k : Int) < (m : Int)) = false := decide_eq_false (by omega)
                  have hd2 : decide (k < m) = false := decide_eq_false hlt
                  go_wp2_with fail
                  go_ret
                  exact ⟨rfl, S13.out.below (Nat.le_refl _) fun _ x => x.elim⟩

/-! ### The row. -/

set_option maxRecDepth 100000 in
theorem lifted (os : Os) (started : os.Started) (H : Type) (enc : TypeId × Value → H) :
    ReturnsInHanded {} Try.checked os 7 .any (Rows.fatMallocsSpec.pre6 enc Try.prog Try.f7 Rows.fatMallocsRow.domain false) (Rows.fatMallocsSpec.post enc Try.prog Try.f7 false true false false) := by
  refine returnsInHanded_of_change (C := Try.checked) own started (by kernel_rfl) Try.func7
    (ChangeSpec.witness6 (enc := enc) (C := Try.checked) false ⟨#[], #[.slice none 0 0, .int .i64 0], []⟩ 8 (by kernel_rfl) (by kernel_rfl) (by kernel_rfl) (by kernel_rfl)) ?_
  intro W base args ds gs before hval0 hW hcnd _
  have hval : ∀ (j : Nat) t v, Try.f7.params[j]? = some t → args[j]? = some v → Value.okWide Try.prog W .any base t v := hval0
  have hW' := hW
  obtain ⟨p, q, hA0, hV, rfl, hfz, hnd⟩ := hW
  have hA : DataW.TrodAll enc Try.prog W 0 (fun _ => true) true Try.f7.params.toList args.toList ds p := hA0
  rw [Try.params7] at hA hval
  obtain ⟨v0, vs0, d0, ds0, p0, q0, hargs, rfl, rfl, h0, r0⟩ := trodAll_cons hA
  obtain ⟨v1, vs1, d1, ds1, p1, q1, rfl, rfl, rfl, h1, r1⟩ := trodAll_cons r0
  obtain ⟨rfl, rfl, rfl⟩ := trodAll_nil r1
  obtain rfl : args = #[v0, v1] := by cases args; simp_all
  obtain ⟨rfl, rfl⟩ := trodVars_none hV
  obtain ⟨zs, hzs⟩ := ints_in Try.underlying28 Try.underlying5 (by kernel_rfl) (hval 0 28 v0 rfl rfl) h0
  obtain ⟨a1, rfl, rfl, rfl, w1⟩ := open_int Try.underlying3 (hval 1 3 v1 rfl rfl) h1
  clear hA0 hval0
  simp only [List.append_nil] at hW'
  refine (walk hzs).mono fun e W' ⟨he, hb⟩ => ?_
  subst he
  exact ⟨_, rfl, law_post laidOut (by kernel_rfl) rfl rfl rfl Try.underlying4 hW' hb⟩

theorem over : Rows.fatMallocsRow.holds Try.pinned (OpenSpec.ofChange Rows.fatMallocsSpec) :=
  OpenClaim.holds_of_wide 7 Try.f7 rfl rfl rfl rfl rfl rfl rfl ⟨rfl, rfl, rfl, rfl, rfl⟩ rfl rfl rfl rfl rfl (by kernel_rfl) Try.func7 (by kernel_rfl)
    (of_decide_eq_true (by kernel_rfl)) (by unfold Func.isWrapper; first | (rw [if_pos (by decide +kernel)]; kernel_rfl) | (rw [if_neg (by decide +kernel)]; exact ⟨rfl, rfl⟩))
    (fun os started H enc _ => lifted os started H enc)

/-- The statement. -/
theorem proved : Rows.FatMallocsSaid :=
  over
#print axioms proved
end Go.Proofs.Ytpmbakhnamlooaa.fatMallocs
