/- Package mid: what effect does; do's instructions that effect does. -/
import Derived.Test.YtojfgdoniajmeaaMidD
namespace Go.Proofs.Ytojfgdoniajmeaa
set_option linter.unusedVariables false
set_option linter.unusedSimpArgs false
open Go.RowKit

section
variable {w0 w w' w1 w2 : World} {pf pw gx : Nat} {own own' own'' : Nat → Nat} {vn vp vk vs vc vr vl : Value} {regs : List HV} {slots : List HP} {fnv : List UInt8 → Option Value} {tops : List UInt8 → Option HP} {st : MSt} {c : Nat}
set_option maxHeartbeats 1000000 in
set_option maxRecDepth 100000 in
/-- an instruction that effect does -/
theorem do_eff {v : Value} {i : FIns} (hi : InsAt w0 v i) (ho : i.op = 12 ∨ i.op = 13 ∨ i.op = 15 ∨ i.op = 18 ∨ i.op = 19 ∨ i.op = 20) {p : Value} {Q : World → Prop} (hP : ∀ y, Step (fun _ => False) w y → Calls Try.prog 68 #[p, v] y fun e w' => e = .returned (.tuple #[]) ∧ Q w') :
    Calls Try.prog 45 #[p, v] w fun e w' => e = .returned (.tuple #[]) ∧ Q w' := by
  have ne : ∀ k : Int, k ≠ 12 → k ≠ 13 → k ≠ 15 → k ≠ 18 → k ≠ 19 → k ≠ 20 → (i.op == k) = false := fun k h1 h2 h3 h4 h5 h6 => beq_false_of_ne (by omega)
  have NO := Lib.hid (fun y => ptr_none hi p y (ne 5 (by decide) (by decide) (by decide) (by decide) (by decide) (by decide)) (ne 6 (by decide) (by decide) (by decide) (by decide) (by decide) (by decide)) (ne 7 (by decide) (by decide) (by decide) (by decide) (by decide) (by decide)) (ne 8 (by decide) (by decide) (by decide) (by decide) (by decide) (by decide)) (ne 9 (by decide) (by decide) (by decide) (by decide) (by decide) (by decide)) (ne 14 (by decide) (by decide) (by decide) (by decide) (by decide) (by decide)))
  have e1 := ne 1 (by decide) (by decide) (by decide) (by decide) (by decide) (by decide)
  have e2 := ne 2 (by decide) (by decide) (by decide) (by decide) (by decide) (by decide)
  have e3 := ne 3 (by decide) (by decide) (by decide) (by decide) (by decide) (by decide)
  have e4 := ne 4 (by decide) (by decide) (by decide) (by decide) (by decide) (by decide)
  have e10 := ne 10 (by decide) (by decide) (by decide) (by decide) (by decide) (by decide)
  have e11 := ne 11 (by decide) (by decide) (by decide) (by decide) (by decide) (by decide)
  have e16 := ne 16 (by decide) (by decide) (by decide) (by decide) (by decide) (by decide)
  have e21 := ne 21 (by decide) (by decide) (by decide) (by decide) (by decide) (by decide)
  obtain ⟨va, vo, rfl, iargs, iouts⟩ := hi
  obtain ⟨op, dst, a, b, n, size, name, args, outs, tt⟩ := i
  simp only at *
  have HP' := Lib.hid hP
  clear iargs iouts hP ho ne
  have kb := heap_alloc_new w (.cells #[.int .i64 op, .int .i64 dst, .int .i64 a, .int .i64 b, .int .u64 n, .int .i64 size, .string name, va, vo, .int .i64 tt] 42 (0, 0))
  have s1 := Step.alloc (fun _ => False) w (.cells #[.int .i64 op, .int .i64 dst, .int .i64 a, .int .i64 b, .int .u64 n, .int .i64 size, .string name, va, vo, .int .i64 tt] 42 (0, 0))
  have KB := Lib.hid kb
  have S1 := Lib.hid s1
  clear kb s1
  go_enter Try.func45, Try.ntmps45
  go_upto_region 1 with fail
  generalize w.alloc (.cells #[.int .i64 op, .int .i64 dst, .int .i64 a, .int .i64 b, .int .u64 n, .int .i64 size, .string name, va, vo, .int .i64 tt] 42 (0, 0)) = w1 at KB S1 ⊢
  generalize w.heap.size = tb at KB ⊢
  obtain ⟨b0, b1, b2, b3, b4, b5, b6, b7, b8, b9⟩ := box_facts KB.out _ (Step.refl _ _)
  go_wp2_with fail
  refine (NO.out _).mono ?_
  rintro e w2 ⟨rfl, s2⟩
  have s3 := s2.then (Step.alloc (fun _ => False) w2 (.cells #[.int .u64 0, .int .i64 0, .int .i64 0, .int .i64 0, .int .i64 0] 98 (0, 0)))
  have KB2 := Lib.hid (s3.keeps KB.out)
  have S2 := Lib.hid (S1.out.then s3)
  clear b0 b1 b2 b3 b4 b5 b6 b7 b8 b9 s2 s3
  go_upto_region 3 with fail
  generalize w2.alloc (.cells #[.int .u64 0, .int .i64 0, .int .i64 0, .int .i64 0, .int .i64 0] 98 (0, 0)) = w3 at KB2 S2 ⊢
  obtain ⟨b0, b1, b2, b3, b4, b5, b6, b7, b8, b9⟩ := box_facts KB2.out _ (Step.refl _ _)
  go_wp2_with fail
  refine (HP'.out _ S2.out).mono ?_
  rintro e w4 ⟨rfl, hq⟩
  have HQ := Lib.hid hq
  clear hq
  go_wp2_with fail
  exact bodyPost_ret (v := .tuple #[]) (results_none rfl _ _ _) rfl ⟨rfl, HQ.out⟩
set_option maxHeartbeats 1000000 in
set_option maxRecDepth 100000 in
theorem do_eff_no {v : Value} {i : FIns} (hi : InsAt w0 v i) (ho : i.op = 12 ∨ i.op = 13 ∨ i.op = 15 ∨ i.op = 18 ∨ i.op = 19 ∨ i.op = 22) {p : Value} {s code why : Int} {Q : World → Prop} (hP : ∀ y, Step (fun _ => False) w y → Calls Try.prog 68 #[p, v] y fun e w' => e = .panicked [{ v := stopV s code why, recovered := false }] ∧ Q w') :
    Calls Try.prog 45 #[p, v] w fun e w' => e = .panicked [{ v := stopV s code why, recovered := false }] ∧ Q w' := by
  have ne : ∀ k : Int, k ≠ 12 → k ≠ 13 → k ≠ 15 → k ≠ 18 → k ≠ 19 → k ≠ 22 → (i.op == k) = false := fun k h1 h2 h3 h4 h5 h6 => beq_false_of_ne (by omega)
  have NO := Lib.hid (fun y => ptr_none hi p y (ne 5 (by decide) (by decide) (by decide) (by decide) (by decide) (by decide)) (ne 6 (by decide) (by decide) (by decide) (by decide) (by decide) (by decide)) (ne 7 (by decide) (by decide) (by decide) (by decide) (by decide) (by decide)) (ne 8 (by decide) (by decide) (by decide) (by decide) (by decide) (by decide)) (ne 9 (by decide) (by decide) (by decide) (by decide) (by decide) (by decide)) (ne 14 (by decide) (by decide) (by decide) (by decide) (by decide) (by decide)))
  have e1 := ne 1 (by decide) (by decide) (by decide) (by decide) (by decide) (by decide)
  have e2 := ne 2 (by decide) (by decide) (by decide) (by decide) (by decide) (by decide)
  have e3 := ne 3 (by decide) (by decide) (by decide) (by decide) (by decide) (by decide)
  have e4 := ne 4 (by decide) (by decide) (by decide) (by decide) (by decide) (by decide)
  have e10 := ne 10 (by decide) (by decide) (by decide) (by decide) (by decide) (by decide)
  have e11 := ne 11 (by decide) (by decide) (by decide) (by decide) (by decide) (by decide)
  have e16 := ne 16 (by decide) (by decide) (by decide) (by decide) (by decide) (by decide)
  have e21 := ne 21 (by decide) (by decide) (by decide) (by decide) (by decide) (by decide)
  obtain ⟨va, vo, rfl, iargs, iouts⟩ := hi
  obtain ⟨op, dst, a, b, n, size, name, args, outs, tt⟩ := i
  simp only at *
  have HP' := Lib.hid hP
  clear iargs iouts hP ho ne
  have kb := heap_alloc_new w (.cells #[.int .i64 op, .int .i64 dst, .int .i64 a, .int .i64 b, .int .u64 n, .int .i64 size, .string name, va, vo, .int .i64 tt] 42 (0, 0))
  have s1 := Step.alloc (fun _ => False) w (.cells #[.int .i64 op, .int .i64 dst, .int .i64 a, .int .i64 b, .int .u64 n, .int .i64 size, .string name, va, vo, .int .i64 tt] 42 (0, 0))
  have KB := Lib.hid kb
  have S1 := Lib.hid s1
  clear kb s1
  go_enter Try.func45, Try.ntmps45
  go_upto_region 1 with fail
  generalize w.alloc (.cells #[.int .i64 op, .int .i64 dst, .int .i64 a, .int .i64 b, .int .u64 n, .int .i64 size, .string name, va, vo, .int .i64 tt] 42 (0, 0)) = w1 at KB S1 ⊢
  generalize w.heap.size = tb at KB ⊢
  obtain ⟨b0, b1, b2, b3, b4, b5, b6, b7, b8, b9⟩ := box_facts KB.out _ (Step.refl _ _)
  go_wp2_with fail
  refine (NO.out _).mono ?_
  rintro e w2 ⟨rfl, s2⟩
  have s3 := s2.then (Step.alloc (fun _ => False) w2 (.cells #[.int .u64 0, .int .i64 0, .int .i64 0, .int .i64 0, .int .i64 0] 98 (0, 0)))
  have KB2 := Lib.hid (s3.keeps KB.out)
  have S2 := Lib.hid (S1.out.then s3)
  clear b0 b1 b2 b3 b4 b5 b6 b7 b8 b9 s2 s3
  go_upto_region 3 with fail
  generalize w2.alloc (.cells #[.int .u64 0, .int .i64 0, .int .i64 0, .int .i64 0, .int .i64 0] 98 (0, 0)) = w3 at KB2 S2 ⊢
  obtain ⟨b0, b1, b2, b3, b4, b5, b6, b7, b8, b9⟩ := box_facts KB2.out _ (Step.refl _ _)
  go_wp2_with fail
  refine (HP'.out _ S2.out).mono ?_
  rintro e w4 ⟨rfl, hq⟩
  have HQ := Lib.hid hq
  clear hq
  exact ⟨rfl, rfl, HQ.out⟩
def planEff11 : Plan where
  T := [[], [0], [0, 1], [0, 1, 2], [], [4], [0, 1, 2, 3, 4, 5], [0, 1, 2, 3, 4, 5, 6], [0, 1, 2, 3, 4, 5, 6, 7], [0, 1, 2, 3, 4, 5, 6, 7, 8], [0, 1, 2, 3, 4, 5, 6, 7, 8, 9], [0, 1, 2, 3, 4, 5, 6, 7, 8, 9, 10], [0, 1, 2, 3, 4, 5, 6, 7, 8, 9, 10, 11]]
  rd := [[], [(0, some 110)], [(1, some 111)], [(2, some 112)], [], [(4, some 114)]]
  all := [(5, some 115), (4, some 114), (3, some 113), (2, some 112), (1, some 111), (0, some 110)]
  calm := [true, true, true, true, true, true]
  hard := []
  fresh := [false, false, false, false, false, false]

def planEff3 : Plan where
  T := [[], [0], [0, 1], [0, 1, 2], [0, 1, 2, 3], [0, 1, 2, 3, 4], [0, 1, 2, 3, 4, 5], [], [7], [7, 8], [7, 8, 9], [], [11], [7, 8, 9, 10, 11, 12], [7, 8, 9, 10, 11, 12, 13], [7, 8, 9, 10, 11, 12, 13, 14], [], [16], [], [], [19], [], [21], [21, 22], [21, 22, 23], [], [25], [21, 22, 23, 24, 25, 26], [21, 22, 23, 24, 25, 26, 27], [], [29], [18, 19, 20, 21, 22, 23, 24, 25, 26, 27, 28, 29, 30], [0, 1, 2, 3, 4, 5, 6, 7, 8, 9, 10, 11, 12, 13, 14, 15, 16, 17, 18, 19, 20, 21, 22, 23, 24, 25, 26, 27, 28, 29, 30, 31], [0, 1, 2, 3, 4, 5, 6, 7, 8, 9, 10, 11, 12, 13, 14, 15, 16, 17, 18, 19, 20, 21, 22, 23, 24, 25, 26, 27, 28, 29, 30, 31, 32]]
  rd := [[], [(0, some 8)], [(1, some 9)], [(2, some 10)], [(3, some 11)], [(4, some 12)], [(5, some 13)], [], [(7, some 15)], [(8, some 16)], [(9, some 17)], [], [(11, some 19)], [(10, some 18), (12, some 20)], [(13, some 21)], [(14, some 22)], [], [(16, some 24)], [], [], [(19, some 27)], [], [(21, some 29)], [(22, some 30)], [(23, some 31)], [], [(25, some 33)], [(24, some 32), (26, some 34)], [(27, some 35)], [], [(29, some 37)], [(18, some 26), (20, some 28), (28, some 36), (30, some 38)]]
  all := [(31, some 39), (30, some 38), (29, some 37), (28, some 36), (27, some 35), (26, some 34), (25, some 33), (24, some 32), (23, some 31), (22, some 30), (21, some 29), (20, some 28), (19, some 27), (18, some 26), (17, some 25), (16, some 24), (15, some 23), (14, some 22), (13, some 21), (12, some 20), (11, some 19), (10, some 18), (9, some 17), (8, some 16), (7, some 15), (6, some 14), (5, some 13), (4, some 12), (3, some 11), (2, some 10), (1, some 9), (0, some 8)]
  calm := [true, true, true, true, true, true, true, true, true, true, true, true, true, true, true, true, true, true, true, true, true, true, true, true, true, true, true, true, true, true, true, true]
  hard := []
  fresh := [false, false, false, false, false, false, false, false, false, false, false, false, false, false, false, false, false, false, false, false, false, false, false, false, false, false, false, false, false, false, false, false]

set_option maxHeartbeats 1000000 in
set_option maxRecDepth 100000 in
theorem eff_nop {v : Value} {i : FIns} (hi : InsAt w0 v i) (ho : i.op = 18 ∨ i.op = 19) (p : Value) (w : World) :
    Calls Try.prog 68 #[p, v] w fun e w' => e = .returned (.tuple #[]) ∧ Step (fun _ => False) w w' := by
  obtain ⟨va, vo, rfl, iargs, iouts⟩ := hi
  obtain ⟨op, dst, a, b, n, size, name, args, outs, tt⟩ := i
  simp only at *
  clear iargs iouts
  rcases ho with rfl | rfl
  · go_enter Try.func68, Try.ntmps68
    go_wp2_with fail
    go_end0
    exact ⟨rfl, (Step.refl _ w).al _⟩
  · go_enter Try.func68, Try.ntmps68
    go_wp2_with fail
    go_end0
    exact ⟨rfl, (Step.refl _ w).al _⟩
set_option maxHeartbeats 4000000 in
set_option maxRecDepth 100000 in
theorem eff_22 (hW : MWAt w0 w pw own fnv tops st c) (hF : MFr w own pf pw gx vn vp vk vs vc vr vl regs slots) (hl : w0.heap.size ≤ gx) {v : Value} {i : FIns} (hi : InsAt w0 v i) (ho : i.op = 22) (ok_a : ok1 regs i.a) (h64 : is64 (rgV regs i.a).num) :
    Calls Try.prog 68 #[.pointer (some ⟨pf, 0, none⟩), v] w (fun e w' => e = .panicked [{ v := stopV 1 ((rgV regs i.a).num % 256) 0, recovered := false }] ∧ Step (fun _ => False) w w') := by
  obtain ⟨va, vo, rfl, iargs, iouts⟩ := hi
  obtain ⟨op, dst, a, b, n, size, name, args, outs, tt⟩ := i
  simp only at *
  subst ho
  obtain ⟨rcap, rfl⟩ := regs_slice hF (by unfold ok1 at ok_a; omega)
  have HW := Lib.hid hW
  have HF := Lib.hid hF
  have HL := Lib.hid hl
  have FF := Lib.hid (frame_facts hF)
  have FR := Lib.hid (reg_facts hF)
  unfold ok1 at ok_a
  obtain ⟨ph, bt, bf, vin, vout, P⟩ := HW.out
  have PP := Lib.hid P
  have MF := Lib.hid (show ∀ y, Step (fun _ => False) w y → y.cell? ⟨pw, 0, none⟩ = some (.pointer (some ⟨ph, 0, none⟩)) from fun y hy => cell_known (hy.keeps P.struct) rfl)
  unfold is64 at h64
  clear P
  clear hW hF hl
  obtain ⟨f0, f3, f6, f7⟩ := FF.out _ (Step.refl _ _)
  have hpf := block_lt f6
  simp only at hpf
  have kb := heap_alloc_new w (.cells #[.int .i64 22, .int .i64 dst, .int .i64 a, .int .i64 b, .int .u64 n, .int .i64 size, .string name, va, vo, .int .i64 tt] 42 (0, 0))
  have s1 := Step.alloc (fun _ => False) w (.cells #[.int .i64 22, .int .i64 dst, .int .i64 a, .int .i64 b, .int .u64 n, .int .i64 size, .string name, va, vo, .int .i64 tt] 42 (0, 0))
  have HT := Lib.hid (show gx < w.heap.size ∧ own w.heap.size = 0 from ⟨HF.out.free.2.2.2, HW.out.fresh0⟩)
  have KB := Lib.hid kb
  have S1 := Lib.hid s1
  clear kb s1
  go_enter Try.func68, Try.ntmps68
  go_upto_region 1 with fail
  clear f0 f3 f6 f7 hpf
  generalize w.alloc (.cells #[.int .i64 22, .int .i64 dst, .int .i64 a, .int .i64 b, .int .u64 n, .int .i64 size, .string name, va, vo, .int .i64 tt] 42 (0, 0)) = w1 at KB S1 ⊢
  generalize w.heap.size = tb at KB HT ⊢
  have FB := Lib.hid (box_facts KB.out)
  obtain ⟨b0, b1, b2, b3, b4, b5, b6, b7, b8, b9⟩ := FB.out _ (Step.refl _ _)
  go_upto_region 11 with fail
  clear b0 b1 b2 b3 b4 b5 b6 b7 b8 b9
  have ew : IntKind.u8.wrap (rgV regs a).num = (rgV regs a).num % 256 := IntKind.wrap_u8 _
  refine wp_region_each 6 planEff11 (fun _ _ => False) (Step (fun _ => False) w1) (fun _ => True) [Is ?v11_1_0, Is ?v11_1_1, Is ?v11_1_2, Is ?v11_1_3, Is ?v11_1_4, Is ?v11_1_5] [] (by kernel_rfl) (by kernel_rfl) (fun _ _ h => h.elim) ((Step.refl _ _).drew) (trivial) ?stab11_1 ?stabD11_1 ?obl11_1 ?fin11_1
  case stab11_1 => exact fun w w' h => ⟨fun k => k.trans h (fun _ x => x.elim), fun _ => trivial, ⟨fun _ k => k, fun _ k => k, fun _ k => k, fun _ k => k, fun _ k => k, fun _ k => k, trivial⟩, trivial⟩
  case stabD11_1 => exact fun _ _ h => h.elim
  case obl11_1 =>
    refine ⟨?o11_1_0, ?o11_1_1, ?o11_1_2, ?o11_1_3, ?o11_1_4, ?o11_1_5, trivial⟩
    all_goals intro xv wq hH hS H hU aq ha Q' hQ
    case o11_1_0 => cases rd0 ha; clear H hU hS; go_wp2_with fail; (try refine hQ _ _ ?_); refine ⟨Step.refl _ _, ?_, trivial, nofun⟩; exact (rfl : _ = _)
    case o11_1_1 | o11_1_2 => have ha := rd1 ha H (by kernel_rfl) rfl; simp only [q3, q5, q6, q7] at ha; subst ha; clear H hU hS; go_wp2_with fail; (try refine hQ _ _ ?_); refine ⟨Step.refl _ _, ?_, trivial, nofun⟩; exact (rfl : _ = _)
    case o11_1_3 => obtain ⟨f0, f3, f6, f7⟩ := FF.out _ (S1.out.then hH); have m0 := MF.out _ (S1.out.then hH); obtain ⟨c0_a, c1_a, c2_a, c3_a, c4_a, z_a⟩ := FR.out _ (S1.out.then hH) a ok_a; obtain ⟨b0, b1, b2, b3, b4, b5, b6, b7, b8, b9⟩ := FB.out _ hH; have ha := rd1 ha H (by kernel_rfl) rfl; simp only [q3, q5, q6, q7] at ha; subst ha; clear H hU hS; go_wp2_with fail; (try refine hQ _ _ ?_); refine ⟨Step.refl _ _, ?_, trivial, nofun⟩; exact (rfl : _ = _)
    case o11_1_4 => cases rd0 ha; clear H hU hS; go_wp2_with fail; (try refine hQ _ _ ?_); refine ⟨Step.refl _ _, ?_, trivial, nofun⟩; exact (rfl : _ = _)
    case o11_1_5 => obtain ⟨f0, f3, f6, f7⟩ := FF.out _ (S1.out.then hH); have m0 := MF.out _ (S1.out.then hH); obtain ⟨c0_a, c1_a, c2_a, c3_a, c4_a, z_a⟩ := FR.out _ (S1.out.then hH) a ok_a; obtain ⟨b0, b1, b2, b3, b4, b5, b6, b7, b8, b9⟩ := FB.out _ hH; have ha := rd1 ha H (by kernel_rfl) rfl; simp only [q3, q5, q6, q7] at ha; subst ha; clear H hU hS; go_wp2_with fail; (try refine hQ _ _ ?_); refine ⟨Step.refl _ _, ?_, trivial, nofun⟩; exact (rfl : _ = _)
  intro xv w2 hH hS H hU hsz hF hN
  have h0 : xv 0 = _ := H 0 (by decide) (by kernel_rfl); have h1 : xv 1 = _ := H 1 (by decide) (by kernel_rfl); have h2 : xv 2 = _ := H 2 (by decide) (by kernel_rfl); have h3 : xv 3 = _ := H 3 (by decide) (by kernel_rfl); have h4 : xv 4 = _ := H 4 (by decide) (by kernel_rfl); have h5 : xv 5 = _ := H 5 (by decide) (by kernel_rfl)
  simp only [planEff11, q1, q2, q3, q5, q6, q7, q4, List.drop_succ_cons, List.drop_zero, h0, h1, h2, h3, h4, h5]
  clear H hF hN hS hU h0 h1 h2 h3 h4 h5
  have SA := Lib.hid hH
  have SB := Lib.hid (S1.out.then hH)
  clear hH
  obtain ⟨f0, f3, f6, f7⟩ := FF.out _ SB.out
  have m0 := MF.out _ SB.out
  obtain ⟨c0_a, c1_a, c2_a, c3_a, c4_a, z_a⟩ := FR.out _ SB.out a ok_a
  obtain ⟨b0, b1, b2, b3, b4, b5, b6, b7, b8, b9⟩ := FB.out _ SA.out
  go_wp2_with fail
  exact ⟨rfl, rfl, SB.out⟩
set_option maxHeartbeats 4000000 in
set_option maxRecDepth 100000 in
theorem eff_12ok (hW : MWAt w0 w pw own fnv tops st c) (hF : MFr w own pf pw gx vn vp vk vs vc vr vl regs slots) (hl : w0.heap.size ≤ gx) {v : Value} {i : FIns} (hi : InsAt w0 v i) (ho : i.op = 12) (ok_a : ok1 regs i.a) (ok_b : ok1 regs i.b) {kinds : List Int} (hk : IntsAt .i64 w0 vk kinds) (hkl : regs.length = kinds.length) (hs : i.size = 1 ∨ i.size = 4 ∨ i.size = 8) (hx : i64B (rgV regs i.a).ptr.block ∧ i64B (rgV regs i.a).ptr.off ∧ i64B (rgV regs i.a).ptr.high) (he : errP st (rgV regs i.a).ptr i.size = 0) (hc : c ≤ 2000000000) :
    Calls Try.prog 68 #[.pointer (some ⟨pf, 0, none⟩), v] w (fun e w' => e = .returned (.tuple #[]) ∧ ∃ c' : Nat, c' ≤ c + 1 ∧ Went w0 w pw own fnv tops pf gx vn vp vk vs vc vr vl slots ({ st with blks := setAt st.blks (rgV regs i.a).ptr.block fun y => { y with used := true }, at_ := putH st.at_ (rgV regs i.a).ptr.block (rgV regs i.a).ptr.off (asV (kinds.getD i.b.toNat 0) (rgV regs i.b) i.size) }) c' regs w') := by
  obtain ⟨va, vo, rfl, iargs, iouts⟩ := hi
  obtain ⟨op, dst, a, b, n, size, name, args, outs, tt⟩ := i
  simp only at *
  subst ho
  obtain ⟨rcap, rfl⟩ := regs_slice hF (by unfold ok1 at ok_a; omega)
  have HW := Lib.hid hW
  have HF := Lib.hid hF
  have HL := Lib.hid hl
  have FF := Lib.hid (frame_facts hF)
  have FR := Lib.hid (reg_facts hF)
  unfold ok1 at ok_a ok_b
  obtain ⟨ph, bt, bf, vin, vout, P⟩ := HW.out
  have PP := Lib.hid P
  have MF := Lib.hid (show ∀ y, Step (fun _ => False) w y → y.cell? ⟨pw, 0, none⟩ = some (.pointer (some ⟨ph, 0, none⟩)) from fun y hy => cell_known (hy.keeps P.struct) rfl)
  unfold i64B at hx
  obtain ⟨⟨hx0, hx1⟩, ⟨hx2, hx3⟩, ⟨hx4, hx5⟩⟩ := hx
  obtain ⟨z, hzz⟩ : ∃ z, asV (kinds.getD b.toNat 0) (rgV regs b) size = z := ⟨_, rfl⟩
  have AS := Lib.hid (show ∀ y, Step (fun _ => False) w y → Calls Try.prog 66 #[.pointer (some ⟨pf, 0, none⟩), .int .i64 b, .agg #[.int .u64 (rgV regs b).num, .int .i64 (rgV regs b).ptr.block, .int .i64 (rgV regs b).ptr.off, .int .i64 (rgV regs b).ptr.low, .int .i64 (rgV regs b).ptr.high], .int .i64 size] y fun e w' => e = .returned (.agg #[.int .u64 z.num, .int .i64 z.ptr.block, .int .i64 z.ptr.off, .int .i64 z.ptr.low, .int .i64 z.ptr.high]) ∧ Step (fun _ => False) y w' from fun y hy => by
    have h := as_any (HF.out.still hy) (hk.step (P.still hy).step fun b h => h) (r := b) (by omega) (rgV regs b) hs
    rw [hzz] at h
    exact h)
  rw [hzz]
  have ST := Lib.hid (show ∀ y, Step (fun _ => False) w y → Calls Try.prog 91 #[.pointer (some ⟨ph, 0, none⟩), .agg #[.int .i64 (rgV regs a).ptr.block, .int .i64 (rgV regs a).ptr.off, .int .i64 (rgV regs a).ptr.low, .int .i64 (rgV regs a).ptr.high], .int .i64 size, .agg #[.int .u64 z.num, .int .i64 z.ptr.block, .int .i64 z.ptr.off, .int .i64 z.ptr.low, .int .i64 z.ptr.high]] y fun e w' => e = .returned (.int .i64 0) ∧ Step (fun b => own b = 4) y w' ∧ HeapAt w' ph (setAt st.blks (rgV regs a).ptr.block fun y => { y with used := true }) (putH st.at_ (rgV regs a).ptr.block (rgV regs a).ptr.off z) (c + 1) (fun b => own b = 4) from fun y hy => by
    have h := store_any ph (rgV regs a).ptr.block (rgV regs a).ptr.off (rgV regs a).ptr.low (rgV regs a).ptr.high size z st.blks st.at_ c _ y (P.still hy).heap P.lens.1 (by omega) hx0 hx1 hx2 hx3 hx4 hx5
    unfold errP at he
    simp only [he, if_true] at h
    exact h)
  clear P hzz he hk
  clear hW hF hl
  obtain ⟨f0, f3, f6, f7⟩ := FF.out _ (Step.refl _ _)
  have hpf := block_lt f6
  simp only at hpf
  have kb := heap_alloc_new w (.cells #[.int .i64 12, .int .i64 dst, .int .i64 a, .int .i64 b, .int .u64 n, .int .i64 size, .string name, va, vo, .int .i64 tt] 42 (0, 0))
  have s1 := Step.alloc (fun _ => False) w (.cells #[.int .i64 12, .int .i64 dst, .int .i64 a, .int .i64 b, .int .u64 n, .int .i64 size, .string name, va, vo, .int .i64 tt] 42 (0, 0))
  have HT := Lib.hid (show gx < w.heap.size ∧ own w.heap.size = 0 from ⟨HF.out.free.2.2.2, HW.out.fresh0⟩)
  have KB := Lib.hid kb
  have S1 := Lib.hid s1
  clear kb s1
  go_enter Try.func68, Try.ntmps68
  go_upto_region 1 with fail
  clear f0 f3 f6 f7 hpf
  generalize w.alloc (.cells #[.int .i64 12, .int .i64 dst, .int .i64 a, .int .i64 b, .int .u64 n, .int .i64 size, .string name, va, vo, .int .i64 tt] 42 (0, 0)) = w1 at KB S1 ⊢
  generalize w.heap.size = tb at KB HT ⊢
  have FB := Lib.hid (box_facts KB.out)
  obtain ⟨b0, b1, b2, b3, b4, b5, b6, b7, b8, b9⟩ := FB.out _ (Step.refl _ _)
  go_upto_region 3 with fail
  clear b0 b1 b2 b3 b4 b5 b6 b7 b8 b9
  refine wp_region_each 32 planEff3 (fun _ _ => False) (Step (fun _ => False) w1) (fun _ => True) [Is ?v3_2_0, Is ?v3_2_1, Is ?v3_2_2, Is ?v3_2_3, Is ?v3_2_4, Is ?v3_2_5, Is ?v3_2_6, Is ?v3_2_7, Is ?v3_2_8, Is ?v3_2_9, Is ?v3_2_10, Is ?v3_2_11, Is ?v3_2_12, Is ?v3_2_13, Is ?v3_2_14, Is ?v3_2_15, Is ?v3_2_16, Is ?v3_2_17, Is ?v3_2_18, Is ?v3_2_19, Is ?v3_2_20, Is ?v3_2_21, Is ?v3_2_22, Is ?v3_2_23, Is ?v3_2_24, Is ?v3_2_25, Is ?v3_2_26, Is ?v3_2_27, Is ?v3_2_28, Is ?v3_2_29, Is ?v3_2_30, Is ?v3_2_31] [] (by kernel_rfl) (by kernel_rfl) (fun _ _ h => h.elim) ((Step.refl _ _).drew) (trivial) ?stab3_2 ?stabD3_2 ?obl3_2 ?fin3_2
  case stab3_2 => exact fun w w' h => ⟨fun k => k.trans h (fun _ x => x.elim), fun _ => trivial, ⟨fun _ k => k, fun _ k => k, fun _ k => k, fun _ k => k, fun _ k => k, fun _ k => k, fun _ k => k, fun _ k => k, fun _ k => k, fun _ k => k, fun _ k => k, fun _ k => k, fun _ k => k, fun _ k => k, fun _ k => k, fun _ k => k, fun _ k => k, fun _ k => k, fun _ k => k, fun _ k => k, fun _ k => k, fun _ k => k, fun _ k => k, fun _ k => k, fun _ k => k, fun _ k => k, fun _ k => k, fun _ k => k, fun _ k => k, fun _ k => k, fun _ k => k, fun _ k => k, trivial⟩, trivial⟩
  case stabD3_2 => exact fun _ _ h => h.elim
  case obl3_2 =>
    refine ⟨?o3_2_0, ?o3_2_1, ?o3_2_2, ?o3_2_3, ?o3_2_4, ?o3_2_5, ?o3_2_6, ?o3_2_7, ?o3_2_8, ?o3_2_9, ?o3_2_10, ?o3_2_11, ?o3_2_12, ?o3_2_13, ?o3_2_14, ?o3_2_15, ?o3_2_16, ?o3_2_17, ?o3_2_18, ?o3_2_19, ?o3_2_20, ?o3_2_21, ?o3_2_22, ?o3_2_23, ?o3_2_24, ?o3_2_25, ?o3_2_26, ?o3_2_27, ?o3_2_28, ?o3_2_29, ?o3_2_30, ?o3_2_31, trivial⟩
    all_goals intro xv wq hH hS H hU aq ha Q' hQ
    case o3_2_0 => cases rd0 ha; clear H hU hS; go_wp2_with fail; (try refine hQ _ _ ?_); refine ⟨Step.refl _ _, ?_, trivial, nofun⟩; exact (rfl : _ = _)
    case o3_2_1 | o3_2_2 => have ha := rd1 ha H (by kernel_rfl) rfl; simp only [q3, q5, q6, q7] at ha; subst ha; clear H hU hS; go_wp2_with fail; (try refine hQ _ _ ?_); refine ⟨Step.refl _ _, ?_, trivial, nofun⟩; exact (rfl : _ = _)
    case o3_2_3 => obtain ⟨f0, f3, f6, f7⟩ := FF.out _ (S1.out.then hH); have m0 := MF.out _ (S1.out.then hH); obtain ⟨c0_a, c1_a, c2_a, c3_a, c4_a, z_a⟩ := FR.out _ (S1.out.then hH) a ok_a; obtain ⟨c0_b, c1_b, c2_b, c3_b, c4_b, z_b⟩ := FR.out _ (S1.out.then hH) b ok_b; obtain ⟨b0, b1, b2, b3, b4, b5, b6, b7, b8, b9⟩ := FB.out _ hH; have ha := rd1 ha H (by kernel_rfl) rfl; simp only [q3, q5, q6, q7] at ha; subst ha; clear H hU hS; go_wp2_with fail; (try refine hQ _ _ ?_); refine ⟨Step.refl _ _, ?_, trivial, nofun⟩; exact (rfl : _ = _)
    case o3_2_4 | o3_2_5 => have ha := rd1 ha H (by kernel_rfl) rfl; simp only [q3, q5, q6, q7] at ha; subst ha; clear H hU hS; go_wp2_with fail; (try refine hQ _ _ ?_); refine ⟨Step.refl _ _, ?_, trivial, nofun⟩; exact (rfl : _ = _)
    case o3_2_6 => obtain ⟨f0, f3, f6, f7⟩ := FF.out _ (S1.out.then hH); have m0 := MF.out _ (S1.out.then hH); obtain ⟨c0_a, c1_a, c2_a, c3_a, c4_a, z_a⟩ := FR.out _ (S1.out.then hH) a ok_a; obtain ⟨c0_b, c1_b, c2_b, c3_b, c4_b, z_b⟩ := FR.out _ (S1.out.then hH) b ok_b; obtain ⟨b0, b1, b2, b3, b4, b5, b6, b7, b8, b9⟩ := FB.out _ hH; have ha := rd1 ha H (by kernel_rfl) rfl; simp only [q3, q5, q6, q7] at ha; subst ha; clear H hU hS; go_wp2_with fail; (try refine hQ _ _ ?_); refine ⟨Step.refl _ _, ?_, trivial, nofun⟩; exact (rfl : _ = _)
    case o3_2_7 => cases rd0 ha; clear H hU hS; go_wp2_with fail; (try refine hQ _ _ ?_); refine ⟨Step.refl _ _, ?_, trivial, nofun⟩; exact (rfl : _ = _)
    case o3_2_8 | o3_2_9 => have ha := rd1 ha H (by kernel_rfl) rfl; simp only [q3, q5, q6, q7] at ha; subst ha; clear H hU hS; go_wp2_with fail; (try refine hQ _ _ ?_); refine ⟨Step.refl _ _, ?_, trivial, nofun⟩; exact (rfl : _ = _)
    case o3_2_10 => obtain ⟨f0, f3, f6, f7⟩ := FF.out _ (S1.out.then hH); have m0 := MF.out _ (S1.out.then hH); obtain ⟨c0_a, c1_a, c2_a, c3_a, c4_a, z_a⟩ := FR.out _ (S1.out.then hH) a ok_a; obtain ⟨c0_b, c1_b, c2_b, c3_b, c4_b, z_b⟩ := FR.out _ (S1.out.then hH) b ok_b; obtain ⟨b0, b1, b2, b3, b4, b5, b6, b7, b8, b9⟩ := FB.out _ hH; have ha := rd1 ha H (by kernel_rfl) rfl; simp only [q3, q5, q6, q7] at ha; subst ha; clear H hU hS; go_wp2_with fail; (try refine hQ _ _ ?_); refine ⟨Step.refl _ _, ?_, trivial, nofun⟩; exact (rfl : _ = _)
    case o3_2_11 => cases rd0 ha; clear H hU hS; go_wp2_with fail; (try refine hQ _ _ ?_); refine ⟨Step.refl _ _, ?_, trivial, nofun⟩; exact (rfl : _ = _)
    case o3_2_12 => obtain ⟨f0, f3, f6, f7⟩ := FF.out _ (S1.out.then hH); have m0 := MF.out _ (S1.out.then hH); obtain ⟨c0_a, c1_a, c2_a, c3_a, c4_a, z_a⟩ := FR.out _ (S1.out.then hH) a ok_a; obtain ⟨c0_b, c1_b, c2_b, c3_b, c4_b, z_b⟩ := FR.out _ (S1.out.then hH) b ok_b; obtain ⟨b0, b1, b2, b3, b4, b5, b6, b7, b8, b9⟩ := FB.out _ hH; have ha := rd1 ha H (by kernel_rfl) rfl; simp only [q3, q5, q6, q7] at ha; subst ha; clear H hU hS; go_wp2_with fail; (try refine hQ _ _ ?_); refine ⟨Step.refl _ _, ?_, trivial, nofun⟩; exact (rfl : _ = _)
    case o3_2_13 => obtain ⟨f0, f3, f6, f7⟩ := FF.out _ (S1.out.then hH); have m0 := MF.out _ (S1.out.then hH); obtain ⟨c0_a, c1_a, c2_a, c3_a, c4_a, z_a⟩ := FR.out _ (S1.out.then hH) a ok_a; obtain ⟨c0_b, c1_b, c2_b, c3_b, c4_b, z_b⟩ := FR.out _ (S1.out.then hH) b ok_b; obtain ⟨b0, b1, b2, b3, b4, b5, b6, b7, b8, b9⟩ := FB.out _ hH; have ha := rd2 ha H (by kernel_rfl) (by kernel_rfl) rfl rfl; simp only [q3, q5, q6, q7] at ha; subst ha; clear H hU hS; go_wp2_with fail; (try refine hQ _ _ ?_); refine ⟨Step.refl _ _, ?_, trivial, nofun⟩; exact (rfl : _ = _)
    case o3_2_14 => have ha := rd1 ha H (by kernel_rfl) rfl; simp only [q3, q5, q6, q7] at ha; subst ha; clear H hU hS; go_wp2_with fail; (try refine hQ _ _ ?_); refine ⟨Step.refl _ _, ?_, trivial, nofun⟩; exact (rfl : _ = _)
    case o3_2_15 => obtain ⟨f0, f3, f6, f7⟩ := FF.out _ (S1.out.then hH); have m0 := MF.out _ (S1.out.then hH); obtain ⟨c0_a, c1_a, c2_a, c3_a, c4_a, z_a⟩ := FR.out _ (S1.out.then hH) a ok_a; obtain ⟨c0_b, c1_b, c2_b, c3_b, c4_b, z_b⟩ := FR.out _ (S1.out.then hH) b ok_b; obtain ⟨b0, b1, b2, b3, b4, b5, b6, b7, b8, b9⟩ := FB.out _ hH; have ha := rd1 ha H (by kernel_rfl) rfl; simp only [q3, q5, q6, q7] at ha; subst ha; clear H hU hS; go_wp2_with fail; (try refine hQ _ _ ?_); refine ⟨Step.refl _ _, ?_, trivial, nofun⟩; exact (rfl : _ = _)
    case o3_2_16 => cases rd0 ha; clear H hU hS; go_wp2_with fail; (try refine hQ _ _ ?_); refine ⟨Step.refl _ _, ?_, trivial, nofun⟩; exact (rfl : _ = _)
    case o3_2_17 => obtain ⟨f0, f3, f6, f7⟩ := FF.out _ (S1.out.then hH); have m0 := MF.out _ (S1.out.then hH); obtain ⟨c0_a, c1_a, c2_a, c3_a, c4_a, z_a⟩ := FR.out _ (S1.out.then hH) a ok_a; obtain ⟨c0_b, c1_b, c2_b, c3_b, c4_b, z_b⟩ := FR.out _ (S1.out.then hH) b ok_b; obtain ⟨b0, b1, b2, b3, b4, b5, b6, b7, b8, b9⟩ := FB.out _ hH; have ha := rd1 ha H (by kernel_rfl) rfl; simp only [q3, q5, q6, q7] at ha; subst ha; clear H hU hS; go_wp2_with fail; (try refine hQ _ _ ?_); refine ⟨Step.refl _ _, ?_, trivial, nofun⟩; exact (rfl : _ = _)
    case o3_2_18 | o3_2_19 => cases rd0 ha; clear H hU hS; go_wp2_with fail; (try refine hQ _ _ ?_); refine ⟨Step.refl _ _, ?_, trivial, nofun⟩; exact (rfl : _ = _)
    case o3_2_20 => obtain ⟨f0, f3, f6, f7⟩ := FF.out _ (S1.out.then hH); have m0 := MF.out _ (S1.out.then hH); obtain ⟨c0_a, c1_a, c2_a, c3_a, c4_a, z_a⟩ := FR.out _ (S1.out.then hH) a ok_a; obtain ⟨c0_b, c1_b, c2_b, c3_b, c4_b, z_b⟩ := FR.out _ (S1.out.then hH) b ok_b; obtain ⟨b0, b1, b2, b3, b4, b5, b6, b7, b8, b9⟩ := FB.out _ hH; have ha := rd1 ha H (by kernel_rfl) rfl; simp only [q3, q5, q6, q7] at ha; subst ha; clear H hU hS; go_wp2_with fail; (try refine hQ _ _ ?_); refine ⟨Step.refl _ _, ?_, trivial, nofun⟩; exact (rfl : _ = _)
    case o3_2_21 => cases rd0 ha; clear H hU hS; go_wp2_with fail; (try refine hQ _ _ ?_); refine ⟨Step.refl _ _, ?_, trivial, nofun⟩; exact (rfl : _ = _)
    case o3_2_22 | o3_2_23 => have ha := rd1 ha H (by kernel_rfl) rfl; simp only [q3, q5, q6, q7] at ha; subst ha; clear H hU hS; go_wp2_with fail; (try refine hQ _ _ ?_); refine ⟨Step.refl _ _, ?_, trivial, nofun⟩; exact (rfl : _ = _)
    case o3_2_24 => obtain ⟨f0, f3, f6, f7⟩ := FF.out _ (S1.out.then hH); have m0 := MF.out _ (S1.out.then hH); obtain ⟨c0_a, c1_a, c2_a, c3_a, c4_a, z_a⟩ := FR.out _ (S1.out.then hH) a ok_a; obtain ⟨c0_b, c1_b, c2_b, c3_b, c4_b, z_b⟩ := FR.out _ (S1.out.then hH) b ok_b; obtain ⟨b0, b1, b2, b3, b4, b5, b6, b7, b8, b9⟩ := FB.out _ hH; have ha := rd1 ha H (by kernel_rfl) rfl; simp only [q3, q5, q6, q7] at ha; subst ha; clear H hU hS; go_wp2_with fail; (try refine hQ _ _ ?_); refine ⟨Step.refl _ _, ?_, trivial, nofun⟩; exact (rfl : _ = _)
    case o3_2_25 => cases rd0 ha; clear H hU hS; go_wp2_with fail; (try refine hQ _ _ ?_); refine ⟨Step.refl _ _, ?_, trivial, nofun⟩; exact (rfl : _ = _)
    case o3_2_26 => obtain ⟨f0, f3, f6, f7⟩ := FF.out _ (S1.out.then hH); have m0 := MF.out _ (S1.out.then hH); obtain ⟨c0_a, c1_a, c2_a, c3_a, c4_a, z_a⟩ := FR.out _ (S1.out.then hH) a ok_a; obtain ⟨c0_b, c1_b, c2_b, c3_b, c4_b, z_b⟩ := FR.out _ (S1.out.then hH) b ok_b; obtain ⟨b0, b1, b2, b3, b4, b5, b6, b7, b8, b9⟩ := FB.out _ hH; have ha := rd1 ha H (by kernel_rfl) rfl; simp only [q3, q5, q6, q7] at ha; subst ha; clear H hU hS; go_wp2_with fail; (try refine hQ _ _ ?_); refine ⟨Step.refl _ _, ?_, trivial, nofun⟩; exact (rfl : _ = _)
    case o3_2_27 => obtain ⟨f0, f3, f6, f7⟩ := FF.out _ (S1.out.then hH); have m0 := MF.out _ (S1.out.then hH); obtain ⟨c0_a, c1_a, c2_a, c3_a, c4_a, z_a⟩ := FR.out _ (S1.out.then hH) a ok_a; obtain ⟨c0_b, c1_b, c2_b, c3_b, c4_b, z_b⟩ := FR.out _ (S1.out.then hH) b ok_b; obtain ⟨b0, b1, b2, b3, b4, b5, b6, b7, b8, b9⟩ := FB.out _ hH; have ha := rd2 ha H (by kernel_rfl) (by kernel_rfl) rfl rfl; simp only [q3, q5, q6, q7] at ha; subst ha; clear H hU hS; go_wp2_with fail; (try refine hQ _ _ ?_); refine ⟨Step.refl _ _, ?_, trivial, nofun⟩; exact (rfl : _ = _)
    case o3_2_28 => obtain ⟨f0, f3, f6, f7⟩ := FF.out _ (S1.out.then hH); have m0 := MF.out _ (S1.out.then hH); obtain ⟨c0_a, c1_a, c2_a, c3_a, c4_a, z_a⟩ := FR.out _ (S1.out.then hH) a ok_a; obtain ⟨c0_b, c1_b, c2_b, c3_b, c4_b, z_b⟩ := FR.out _ (S1.out.then hH) b ok_b; obtain ⟨b0, b1, b2, b3, b4, b5, b6, b7, b8, b9⟩ := FB.out _ hH; have ha := rd1 ha H (by kernel_rfl) rfl; simp only [q3, q5, q6, q7] at ha; subst ha; clear H hU hS; go_wp2_with fail; (try refine hQ _ _ ?_); refine ⟨Step.refl _ _, ?_, trivial, nofun⟩; exact (rfl : _ = _)
    case o3_2_29 => cases rd0 ha; clear H hU hS; go_wp2_with fail; (try refine hQ _ _ ?_); refine ⟨Step.refl _ _, ?_, trivial, nofun⟩; exact (rfl : _ = _)
    case o3_2_30 => obtain ⟨f0, f3, f6, f7⟩ := FF.out _ (S1.out.then hH); have m0 := MF.out _ (S1.out.then hH); obtain ⟨c0_a, c1_a, c2_a, c3_a, c4_a, z_a⟩ := FR.out _ (S1.out.then hH) a ok_a; obtain ⟨c0_b, c1_b, c2_b, c3_b, c4_b, z_b⟩ := FR.out _ (S1.out.then hH) b ok_b; obtain ⟨b0, b1, b2, b3, b4, b5, b6, b7, b8, b9⟩ := FB.out _ hH; have ha := rd1 ha H (by kernel_rfl) rfl; simp only [q3, q5, q6, q7] at ha; subst ha; clear H hU hS; go_wp2_with fail; (try refine hQ _ _ ?_); refine ⟨Step.refl _ _, ?_, trivial, nofun⟩; exact (rfl : _ = _)
    case o3_2_31 => obtain ⟨f0, f3, f6, f7⟩ := FF.out _ (S1.out.then hH); have m0 := MF.out _ (S1.out.then hH); obtain ⟨c0_a, c1_a, c2_a, c3_a, c4_a, z_a⟩ := FR.out _ (S1.out.then hH) a ok_a; obtain ⟨c0_b, c1_b, c2_b, c3_b, c4_b, z_b⟩ := FR.out _ (S1.out.then hH) b ok_b; obtain ⟨b0, b1, b2, b3, b4, b5, b6, b7, b8, b9⟩ := FB.out _ hH; have h18 : xv 18 = _ := H 18 (by kernel_rfl); have h20 : xv 20 = _ := H 20 (by kernel_rfl); have h28 : xv 28 = _ := H 28 (by kernel_rfl); have h30 : xv 30 = _ := H 30 (by kernel_rfl); change aq = puts _ xv [(18, some 26), (20, some 28), (28, some 36), (30, some 38)] at ha; simp only [q1, q2, q3, q5, q6, q7, h18, h20, h28, h30] at ha; subst ha; clear H h18 h20 h28 h30; clear hU hS; go_wp2_with fail; refine (AS.out _ (S1.out.then hH)).mono ?_; rintro e w4 ⟨rfl, s4⟩; go_wp2_with fail; (try refine hQ _ _ ?_); refine ⟨s4, ?_, trivial, nofun⟩; exact (rfl : _ = _)
  intro xv w2 hH hS H hU hsz hF hN
  have h0 : xv 0 = _ := H 0 (by decide) (by kernel_rfl); have h1 : xv 1 = _ := H 1 (by decide) (by kernel_rfl); have h2 : xv 2 = _ := H 2 (by decide) (by kernel_rfl); have h3 : xv 3 = _ := H 3 (by decide) (by kernel_rfl); have h4 : xv 4 = _ := H 4 (by decide) (by kernel_rfl); have h5 : xv 5 = _ := H 5 (by decide) (by kernel_rfl); have h6 : xv 6 = _ := H 6 (by decide) (by kernel_rfl); have h7 : xv 7 = _ := H 7 (by decide) (by kernel_rfl); have h8 : xv 8 = _ := H 8 (by decide) (by kernel_rfl); have h9 : xv 9 = _ := H 9 (by decide) (by kernel_rfl); have h10 : xv 10 = _ := H 10 (by decide) (by kernel_rfl); have h11 : xv 11 = _ := H 11 (by decide) (by kernel_rfl); have h12 : xv 12 = _ := H 12 (by decide) (by kernel_rfl); have h13 : xv 13 = _ := H 13 (by decide) (by kernel_rfl); have h14 : xv 14 = _ := H 14 (by decide) (by kernel_rfl); have h15 : xv 15 = _ := H 15 (by decide) (by kernel_rfl); have h16 : xv 16 = _ := H 16 (by decide) (by kernel_rfl); have h17 : xv 17 = _ := H 17 (by decide) (by kernel_rfl); have h18 : xv 18 = _ := H 18 (by decide) (by kernel_rfl); have h19 : xv 19 = _ := H 19 (by decide) (by kernel_rfl); have h20 : xv 20 = _ := H 20 (by decide) (by kernel_rfl); have h21 : xv 21 = _ := H 21 (by decide) (by kernel_rfl); have h22 : xv 22 = _ := H 22 (by decide) (by kernel_rfl); have h23 : xv 23 = _ := H 23 (by decide) (by kernel_rfl); have h24 : xv 24 = _ := H 24 (by decide) (by kernel_rfl); have h25 : xv 25 = _ := H 25 (by decide) (by kernel_rfl); have h26 : xv 26 = _ := H 26 (by decide) (by kernel_rfl); have h27 : xv 27 = _ := H 27 (by decide) (by kernel_rfl); have h28 : xv 28 = _ := H 28 (by decide) (by kernel_rfl); have h29 : xv 29 = _ := H 29 (by decide) (by kernel_rfl); have h30 : xv 30 = _ := H 30 (by decide) (by kernel_rfl); have h31 : xv 31 = _ := H 31 (by decide) (by kernel_rfl)
  simp only [planEff3, q1, q2, q3, q5, q6, q7, q4, List.drop_succ_cons, List.drop_zero, h0, h1, h2, h3, h4, h5, h6, h7, h8, h9, h10, h11, h12, h13, h14, h15, h16, h17, h18, h19, h20, h21, h22, h23, h24, h25, h26, h27, h28, h29, h30, h31]
  clear H hF hN hS hU h0 h1 h2 h3 h4 h5 h6 h7 h8 h9 h10 h11 h12 h13 h14 h15 h16 h17 h18 h19 h20 h21 h22 h23 h24 h25 h26 h27 h28 h29 h30 h31
  have SA := Lib.hid hH
  have SB := Lib.hid (S1.out.then hH)
  clear hH
  obtain ⟨f0, f3, f6, f7⟩ := FF.out _ SB.out
  have m0 := MF.out _ SB.out
  obtain ⟨c0_a, c1_a, c2_a, c3_a, c4_a, z_a⟩ := FR.out _ SB.out a ok_a
  obtain ⟨c0_b, c1_b, c2_b, c3_b, c4_b, z_b⟩ := FR.out _ SB.out b ok_b
  obtain ⟨b0, b1, b2, b3, b4, b5, b6, b7, b8, b9⟩ := FB.out _ SA.out
  go_wp2_with fail
  refine (ST.out _ SB.out).mono ?_
  rintro e w3 ⟨rfl, s3, hh⟩
  obtain ⟨own1, ch, P3⟩ := (PP.out.still SB.out).heapNext (c' := c + 1) (by omega) s3 hh (fun b hb => .inl hb) (by have := PP.out.lens; simp only [setAt, List.length_modify]; omega)
  have CH := Lib.hid ((Chg.calm own SB.out).trans ch)
  have HW3 := Lib.hid P3.whole
  clear s3 hh ch P3
  go_wp2_with fail
  refine (right_ok _).mono ?_
  rintro e w4 ⟨rfl, rfl⟩
  go_wp2_with fail
  go_end0
  exact ⟨rfl, c + 1, Nat.le_refl _, own1, CH.out.g gx, HW3.out, HF.out.keep CH.out⟩
set_option maxHeartbeats 4000000 in
set_option maxRecDepth 100000 in
theorem eff_12no (hW : MWAt w0 w pw own fnv tops st c) (hF : MFr w own pf pw gx vn vp vk vs vc vr vl regs slots) (hl : w0.heap.size ≤ gx) {v : Value} {i : FIns} (hi : InsAt w0 v i) (ho : i.op = 12) (ok_a : ok1 regs i.a) (ok_b : ok1 regs i.b) {kinds : List Int} (hk : IntsAt .i64 w0 vk kinds) (hkl : regs.length = kinds.length) (hs : i.size = 1 ∨ i.size = 4 ∨ i.size = 8) (hx : i64B (rgV regs i.a).ptr.block ∧ i64B (rgV regs i.a).ptr.off ∧ i64B (rgV regs i.a).ptr.high) (he : (errP st (rgV regs i.a).ptr i.size != 0) = true) (hc : c ≤ 2000000000) :
    Calls Try.prog 68 #[.pointer (some ⟨pf, 0, none⟩), v] w (fun e w' => Fell w0 w pw own fnv tops gx 5 0 (errP st (rgV regs i.a).ptr i.size) st c e w') := by
  obtain ⟨va, vo, rfl, iargs, iouts⟩ := hi
  obtain ⟨op, dst, a, b, n, size, name, args, outs, tt⟩ := i
  simp only at *
  subst ho
  obtain ⟨rcap, rfl⟩ := regs_slice hF (by unfold ok1 at ok_a; omega)
  have HW := Lib.hid hW
  have HF := Lib.hid hF
  have HL := Lib.hid hl
  have FF := Lib.hid (frame_facts hF)
  have FR := Lib.hid (reg_facts hF)
  unfold ok1 at ok_a ok_b
  obtain ⟨ph, bt, bf, vin, vout, P⟩ := HW.out
  have PP := Lib.hid P
  have MF := Lib.hid (show ∀ y, Step (fun _ => False) w y → y.cell? ⟨pw, 0, none⟩ = some (.pointer (some ⟨ph, 0, none⟩)) from fun y hy => cell_known (hy.keeps P.struct) rfl)
  unfold i64B at hx
  obtain ⟨⟨hx0, hx1⟩, ⟨hx2, hx3⟩, ⟨hx4, hx5⟩⟩ := hx
  obtain ⟨z, hzz⟩ : ∃ z, asV (kinds.getD b.toNat 0) (rgV regs b) size = z := ⟨_, rfl⟩
  have AS := Lib.hid (show ∀ y, Step (fun _ => False) w y → Calls Try.prog 66 #[.pointer (some ⟨pf, 0, none⟩), .int .i64 b, .agg #[.int .u64 (rgV regs b).num, .int .i64 (rgV regs b).ptr.block, .int .i64 (rgV regs b).ptr.off, .int .i64 (rgV regs b).ptr.low, .int .i64 (rgV regs b).ptr.high], .int .i64 size] y fun e w' => e = .returned (.agg #[.int .u64 z.num, .int .i64 z.ptr.block, .int .i64 z.ptr.off, .int .i64 z.ptr.low, .int .i64 z.ptr.high]) ∧ Step (fun _ => False) y w' from fun y hy => by
    have h := as_any (HF.out.still hy) (hk.step (P.still hy).step fun b h => h) (r := b) (by omega) (rgV regs b) hs
    rw [hzz] at h
    exact h)
  obtain ⟨er, her⟩ : ∃ er, errP st (rgV regs a).ptr size = er := ⟨_, rfl⟩
  rw [her] at he ⊢
  have ST := Lib.hid (show ∀ y, Step (fun _ => False) w y → Calls Try.prog 91 #[.pointer (some ⟨ph, 0, none⟩), .agg #[.int .i64 (rgV regs a).ptr.block, .int .i64 (rgV regs a).ptr.off, .int .i64 (rgV regs a).ptr.low, .int .i64 (rgV regs a).ptr.high], .int .i64 size, .agg #[.int .u64 z.num, .int .i64 z.ptr.block, .int .i64 z.ptr.off, .int .i64 z.ptr.low, .int .i64 z.ptr.high]] y fun e w' => e = .returned (.int .i64 er) ∧ Step (fun _ => False) y w' from fun y hy => by
    have h := store_any ph (rgV regs a).ptr.block (rgV regs a).ptr.off (rgV regs a).ptr.low (rgV regs a).ptr.high size z st.blks st.at_ c _ y (P.still hy).heap P.lens.1 (by omega) hx0 hx1 hx2 hx3 hx4 hx5
    unfold errP at her
    have hne : ¬ er = 0 := by simpa using he
    simp only [her, if_neg hne] at h
    exact h)
  clear P hzz her hk
  clear hW hF hl
  obtain ⟨f0, f3, f6, f7⟩ := FF.out _ (Step.refl _ _)
  have hpf := block_lt f6
  simp only at hpf
  have kb := heap_alloc_new w (.cells #[.int .i64 12, .int .i64 dst, .int .i64 a, .int .i64 b, .int .u64 n, .int .i64 size, .string name, va, vo, .int .i64 tt] 42 (0, 0))
  have s1 := Step.alloc (fun _ => False) w (.cells #[.int .i64 12, .int .i64 dst, .int .i64 a, .int .i64 b, .int .u64 n, .int .i64 size, .string name, va, vo, .int .i64 tt] 42 (0, 0))
  have HT := Lib.hid (show gx < w.heap.size ∧ own w.heap.size = 0 from ⟨HF.out.free.2.2.2, HW.out.fresh0⟩)
  have KB := Lib.hid kb
  have S1 := Lib.hid s1
  clear kb s1
  go_enter Try.func68, Try.ntmps68
  go_upto_region 1 with fail
  clear f0 f3 f6 f7 hpf
  generalize w.alloc (.cells #[.int .i64 12, .int .i64 dst, .int .i64 a, .int .i64 b, .int .u64 n, .int .i64 size, .string name, va, vo, .int .i64 tt] 42 (0, 0)) = w1 at KB S1 ⊢
  generalize w.heap.size = tb at KB HT ⊢
  have FB := Lib.hid (box_facts KB.out)
  obtain ⟨b0, b1, b2, b3, b4, b5, b6, b7, b8, b9⟩ := FB.out _ (Step.refl _ _)
  go_upto_region 3 with fail
  clear b0 b1 b2 b3 b4 b5 b6 b7 b8 b9
  refine wp_region_each 32 planEff3 (fun _ _ => False) (Step (fun _ => False) w1) (fun _ => True) [Is ?v3_3_0, Is ?v3_3_1, Is ?v3_3_2, Is ?v3_3_3, Is ?v3_3_4, Is ?v3_3_5, Is ?v3_3_6, Is ?v3_3_7, Is ?v3_3_8, Is ?v3_3_9, Is ?v3_3_10, Is ?v3_3_11, Is ?v3_3_12, Is ?v3_3_13, Is ?v3_3_14, Is ?v3_3_15, Is ?v3_3_16, Is ?v3_3_17, Is ?v3_3_18, Is ?v3_3_19, Is ?v3_3_20, Is ?v3_3_21, Is ?v3_3_22, Is ?v3_3_23, Is ?v3_3_24, Is ?v3_3_25, Is ?v3_3_26, Is ?v3_3_27, Is ?v3_3_28, Is ?v3_3_29, Is ?v3_3_30, Is ?v3_3_31] [] (by kernel_rfl) (by kernel_rfl) (fun _ _ h => h.elim) ((Step.refl _ _).drew) (trivial) ?stab3_3 ?stabD3_3 ?obl3_3 ?fin3_3
  case stab3_3 => exact fun w w' h => ⟨fun k => k.trans h (fun _ x => x.elim), fun _ => trivial, ⟨fun _ k => k, fun _ k => k, fun _ k => k, fun _ k => k, fun _ k => k, fun _ k => k, fun _ k => k, fun _ k => k, fun _ k => k, fun _ k => k, fun _ k => k, fun _ k => k, fun _ k => k, fun _ k => k, fun _ k => k, fun _ k => k, fun _ k => k, fun _ k => k, fun _ k => k, fun _ k => k, fun _ k => k, fun _ k => k, fun _ k => k, fun _ k => k, fun _ k => k, fun _ k => k, fun _ k => k, fun _ k => k, fun _ k => k, fun _ k => k, fun _ k => k, fun _ k => k, trivial⟩, trivial⟩
  case stabD3_3 => exact fun _ _ h => h.elim
  case obl3_3 =>
    refine ⟨?o3_3_0, ?o3_3_1, ?o3_3_2, ?o3_3_3, ?o3_3_4, ?o3_3_5, ?o3_3_6, ?o3_3_7, ?o3_3_8, ?o3_3_9, ?o3_3_10, ?o3_3_11, ?o3_3_12, ?o3_3_13, ?o3_3_14, ?o3_3_15, ?o3_3_16, ?o3_3_17, ?o3_3_18, ?o3_3_19, ?o3_3_20, ?o3_3_21, ?o3_3_22, ?o3_3_23, ?o3_3_24, ?o3_3_25, ?o3_3_26, ?o3_3_27, ?o3_3_28, ?o3_3_29, ?o3_3_30, ?o3_3_31, trivial⟩
    all_goals intro xv wq hH hS H hU aq ha Q' hQ
    case o3_3_0 => cases rd0 ha; clear H hU hS; go_wp2_with fail; (try refine hQ _ _ ?_); refine ⟨Step.refl _ _, ?_, trivial, nofun⟩; exact (rfl : _ = _)
    case o3_3_1 | o3_3_2 => have ha := rd1 ha H (by kernel_rfl) rfl; simp only [q3, q5, q6, q7] at ha; subst ha; clear H hU hS; go_wp2_with fail; (try refine hQ _ _ ?_); refine ⟨Step.refl _ _, ?_, trivial, nofun⟩; exact (rfl : _ = _)
    case o3_3_3 => obtain ⟨f0, f3, f6, f7⟩ := FF.out _ (S1.out.then hH); have m0 := MF.out _ (S1.out.then hH); obtain ⟨c0_a, c1_a, c2_a, c3_a, c4_a, z_a⟩ := FR.out _ (S1.out.then hH) a ok_a; obtain ⟨c0_b, c1_b, c2_b, c3_b, c4_b, z_b⟩ := FR.out _ (S1.out.then hH) b ok_b; obtain ⟨b0, b1, b2, b3, b4, b5, b6, b7, b8, b9⟩ := FB.out _ hH; have ha := rd1 ha H (by kernel_rfl) rfl; simp only [q3, q5, q6, q7] at ha; subst ha; clear H hU hS; go_wp2_with fail; (try refine hQ _ _ ?_); refine ⟨Step.refl _ _, ?_, trivial, nofun⟩; exact (rfl : _ = _)
    case o3_3_4 | o3_3_5 => have ha := rd1 ha H (by kernel_rfl) rfl; simp only [q3, q5, q6, q7] at ha; subst ha; clear H hU hS; go_wp2_with fail; (try refine hQ _ _ ?_); refine ⟨Step.refl _ _, ?_, trivial, nofun⟩; exact (rfl : _ = _)
    case o3_3_6 => obtain ⟨f0, f3, f6, f7⟩ := FF.out _ (S1.out.then hH); have m0 := MF.out _ (S1.out.then hH); obtain ⟨c0_a, c1_a, c2_a, c3_a, c4_a, z_a⟩ := FR.out _ (S1.out.then hH) a ok_a; obtain ⟨c0_b, c1_b, c2_b, c3_b, c4_b, z_b⟩ := FR.out _ (S1.out.then hH) b ok_b; obtain ⟨b0, b1, b2, b3, b4, b5, b6, b7, b8, b9⟩ := FB.out _ hH; have ha := rd1 ha H (by kernel_rfl) rfl; simp only [q3, q5, q6, q7] at ha; subst ha; clear H hU hS; go_wp2_with fail; (try refine hQ _ _ ?_); refine ⟨Step.refl _ _, ?_, trivial, nofun⟩; exact (rfl : _ = _)
    case o3_3_7 => cases rd0 ha; clear H hU hS; go_wp2_with fail; (try refine hQ _ _ ?_); refine ⟨Step.refl _ _, ?_, trivial, nofun⟩; exact (rfl : _ = _)
    case o3_3_8 | o3_3_9 => have ha := rd1 ha H (by kernel_rfl) rfl; simp only [q3, q5, q6, q7] at ha; subst ha; clear H hU hS; go_wp2_with fail; (try refine hQ _ _ ?_); refine ⟨Step.refl _ _, ?_, trivial, nofun⟩; exact (rfl : _ = _)
    case o3_3_10 => obtain ⟨f0, f3, f6, f7⟩ := FF.out _ (S1.out.then hH); have m0 := MF.out _ (S1.out.then hH); obtain ⟨c0_a, c1_a, c2_a, c3_a, c4_a, z_a⟩ := FR.out _ (S1.out.then hH) a ok_a; obtain ⟨c0_b, c1_b, c2_b, c3_b, c4_b, z_b⟩ := FR.out _ (S1.out.then hH) b ok_b; obtain ⟨b0, b1, b2, b3, b4, b5, b6, b7, b8, b9⟩ := FB.out _ hH; have ha := rd1 ha H (by kernel_rfl) rfl; simp only [q3, q5, q6, q7] at ha; subst ha; clear H hU hS; go_wp2_with fail; (try refine hQ _ _ ?_); refine ⟨Step.refl _ _, ?_, trivial, nofun⟩; exact (rfl : _ = _)
    case o3_3_11 => cases rd0 ha; clear H hU hS; go_wp2_with fail; (try refine hQ _ _ ?_); refine ⟨Step.refl _ _, ?_, trivial, nofun⟩; exact (rfl : _ = _)
    case o3_3_12 => obtain ⟨f0, f3, f6, f7⟩ := FF.out _ (S1.out.then hH); have m0 := MF.out _ (S1.out.then hH); obtain ⟨c0_a, c1_a, c2_a, c3_a, c4_a, z_a⟩ := FR.out _ (S1.out.then hH) a ok_a; obtain ⟨c0_b, c1_b, c2_b, c3_b, c4_b, z_b⟩ := FR.out _ (S1.out.then hH) b ok_b; obtain ⟨b0, b1, b2, b3, b4, b5, b6, b7, b8, b9⟩ := FB.out _ hH; have ha := rd1 ha H (by kernel_rfl) rfl; simp only [q3, q5, q6, q7] at ha; subst ha; clear H hU hS; go_wp2_with fail; (try refine hQ _ _ ?_); refine ⟨Step.refl _ _, ?_, trivial, nofun⟩; exact (rfl : _ = _)
    case o3_3_13 => obtain ⟨f0, f3, f6, f7⟩ := FF.out _ (S1.out.then hH); have m0 := MF.out _ (S1.out.then hH); obtain ⟨c0_a, c1_a, c2_a, c3_a, c4_a, z_a⟩ := FR.out _ (S1.out.then hH) a ok_a; obtain ⟨c0_b, c1_b, c2_b, c3_b, c4_b, z_b⟩ := FR.out _ (S1.out.then hH) b ok_b; obtain ⟨b0, b1, b2, b3, b4, b5, b6, b7, b8, b9⟩ := FB.out _ hH; have ha := rd2 ha H (by kernel_rfl) (by kernel_rfl) rfl rfl; simp only [q3, q5, q6, q7] at ha; subst ha; clear H hU hS; go_wp2_with fail; (try refine hQ _ _ ?_); refine ⟨Step.refl _ _, ?_, trivial, nofun⟩; exact (rfl : _ = _)
    case o3_3_14 => have ha := rd1 ha H (by kernel_rfl) rfl; simp only [q3, q5, q6, q7] at ha; subst ha; clear H hU hS; go_wp2_with fail; (try refine hQ _ _ ?_); refine ⟨Step.refl _ _, ?_, trivial, nofun⟩; exact (rfl : _ = _)
    case o3_3_15 => obtain ⟨f0, f3, f6, f7⟩ := FF.out _ (S1.out.then hH); have m0 := MF.out _ (S1.out.then hH); obtain ⟨c0_a, c1_a, c2_a, c3_a, c4_a, z_a⟩ := FR.out _ (S1.out.then hH) a ok_a; obtain ⟨c0_b, c1_b, c2_b, c3_b, c4_b, z_b⟩ := FR.out _ (S1.out.then hH) b ok_b; obtain ⟨b0, b1, b2, b3, b4, b5, b6, b7, b8, b9⟩ := FB.out _ hH; have ha := rd1 ha H (by kernel_rfl) rfl; simp only [q3, q5, q6, q7] at ha; subst ha; clear H hU hS; go_wp2_with fail; (try refine hQ _ _ ?_); refine ⟨Step.refl _ _, ?_, trivial, nofun⟩; exact (rfl : _ = _)
    case o3_3_16 => cases rd0 ha; clear H hU hS; go_wp2_with fail; (try refine hQ _ _ ?_); refine ⟨Step.refl _ _, ?_, trivial, nofun⟩; exact (rfl : _ = _)
    case o3_3_17 => obtain ⟨f0, f3, f6, f7⟩ := FF.out _ (S1.out.then hH); have m0 := MF.out _ (S1.out.then hH); obtain ⟨c0_a, c1_a, c2_a, c3_a, c4_a, z_a⟩ := FR.out _ (S1.out.then hH) a ok_a; obtain ⟨c0_b, c1_b, c2_b, c3_b, c4_b, z_b⟩ := FR.out _ (S1.out.then hH) b ok_b; obtain ⟨b0, b1, b2, b3, b4, b5, b6, b7, b8, b9⟩ := FB.out _ hH; have ha := rd1 ha H (by kernel_rfl) rfl; simp only [q3, q5, q6, q7] at ha; subst ha; clear H hU hS; go_wp2_with fail; (try refine hQ _ _ ?_); refine ⟨Step.refl _ _, ?_, trivial, nofun⟩; exact (rfl : _ = _)
    case o3_3_18 | o3_3_19 => cases rd0 ha; clear H hU hS; go_wp2_with fail; (try refine hQ _ _ ?_); refine ⟨Step.refl _ _, ?_, trivial, nofun⟩; exact (rfl : _ = _)
    case o3_3_20 => obtain ⟨f0, f3, f6, f7⟩ := FF.out _ (S1.out.then hH); have m0 := MF.out _ (S1.out.then hH); obtain ⟨c0_a, c1_a, c2_a, c3_a, c4_a, z_a⟩ := FR.out _ (S1.out.then hH) a ok_a; obtain ⟨c0_b, c1_b, c2_b, c3_b, c4_b, z_b⟩ := FR.out _ (S1.out.then hH) b ok_b; obtain ⟨b0, b1, b2, b3, b4, b5, b6, b7, b8, b9⟩ := FB.out _ hH; have ha := rd1 ha H (by kernel_rfl) rfl; simp only [q3, q5, q6, q7] at ha; subst ha; clear H hU hS; go_wp2_with fail; (try refine hQ _ _ ?_); refine ⟨Step.refl _ _, ?_, trivial, nofun⟩; exact (rfl : _ = _)
    case o3_3_21 => cases rd0 ha; clear H hU hS; go_wp2_with fail; (try refine hQ _ _ ?_); refine ⟨Step.refl _ _, ?_, trivial, nofun⟩; exact (rfl : _ = _)
    case o3_3_22 | o3_3_23 => have ha := rd1 ha H (by kernel_rfl) rfl; simp only [q3, q5, q6, q7] at ha; subst ha; clear H hU hS; go_wp2_with fail; (try refine hQ _ _ ?_); refine ⟨Step.refl _ _, ?_, trivial, nofun⟩; exact (rfl : _ = _)
    case o3_3_24 => obtain ⟨f0, f3, f6, f7⟩ := FF.out _ (S1.out.then hH); have m0 := MF.out _ (S1.out.then hH); obtain ⟨c0_a, c1_a, c2_a, c3_a, c4_a, z_a⟩ := FR.out _ (S1.out.then hH) a ok_a; obtain ⟨c0_b, c1_b, c2_b, c3_b, c4_b, z_b⟩ := FR.out _ (S1.out.then hH) b ok_b; obtain ⟨b0, b1, b2, b3, b4, b5, b6, b7, b8, b9⟩ := FB.out _ hH; have ha := rd1 ha H (by kernel_rfl) rfl; simp only [q3, q5, q6, q7] at ha; subst ha; clear H hU hS; go_wp2_with fail; (try refine hQ _ _ ?_); refine ⟨Step.refl _ _, ?_, trivial, nofun⟩; exact (rfl : _ = _)
    case o3_3_25 => cases rd0 ha; clear H hU hS; go_wp2_with fail; (try refine hQ _ _ ?_); refine ⟨Step.refl _ _, ?_, trivial, nofun⟩; exact (rfl : _ = _)
    case o3_3_26 => obtain ⟨f0, f3, f6, f7⟩ := FF.out _ (S1.out.then hH); have m0 := MF.out _ (S1.out.then hH); obtain ⟨c0_a, c1_a, c2_a, c3_a, c4_a, z_a⟩ := FR.out _ (S1.out.then hH) a ok_a; obtain ⟨c0_b, c1_b, c2_b, c3_b, c4_b, z_b⟩ := FR.out _ (S1.out.then hH) b ok_b; obtain ⟨b0, b1, b2, b3, b4, b5, b6, b7, b8, b9⟩ := FB.out _ hH; have ha := rd1 ha H (by kernel_rfl) rfl; simp only [q3, q5, q6, q7] at ha; subst ha; clear H hU hS; go_wp2_with fail; (try refine hQ _ _ ?_); refine ⟨Step.refl _ _, ?_, trivial, nofun⟩; exact (rfl : _ = _)
    case o3_3_27 => obtain ⟨f0, f3, f6, f7⟩ := FF.out _ (S1.out.then hH); have m0 := MF.out _ (S1.out.then hH); obtain ⟨c0_a, c1_a, c2_a, c3_a, c4_a, z_a⟩ := FR.out _ (S1.out.then hH) a ok_a; obtain ⟨c0_b, c1_b, c2_b, c3_b, c4_b, z_b⟩ := FR.out _ (S1.out.then hH) b ok_b; obtain ⟨b0, b1, b2, b3, b4, b5, b6, b7, b8, b9⟩ := FB.out _ hH; have ha := rd2 ha H (by kernel_rfl) (by kernel_rfl) rfl rfl; simp only [q3, q5, q6, q7] at ha; subst ha; clear H hU hS; go_wp2_with fail; (try refine hQ _ _ ?_); refine ⟨Step.refl _ _, ?_, trivial, nofun⟩; exact (rfl : _ = _)
    case o3_3_28 => obtain ⟨f0, f3, f6, f7⟩ := FF.out _ (S1.out.then hH); have m0 := MF.out _ (S1.out.then hH); obtain ⟨c0_a, c1_a, c2_a, c3_a, c4_a, z_a⟩ := FR.out _ (S1.out.then hH) a ok_a; obtain ⟨c0_b, c1_b, c2_b, c3_b, c4_b, z_b⟩ := FR.out _ (S1.out.then hH) b ok_b; obtain ⟨b0, b1, b2, b3, b4, b5, b6, b7, b8, b9⟩ := FB.out _ hH; have ha := rd1 ha H (by kernel_rfl) rfl; simp only [q3, q5, q6, q7] at ha; subst ha; clear H hU hS; go_wp2_with fail; (try refine hQ _ _ ?_); refine ⟨Step.refl _ _, ?_, trivial, nofun⟩; exact (rfl : _ = _)
    case o3_3_29 => cases rd0 ha; clear H hU hS; go_wp2_with fail; (try refine hQ _ _ ?_); refine ⟨Step.refl _ _, ?_, trivial, nofun⟩; exact (rfl : _ = _)
    case o3_3_30 => obtain ⟨f0, f3, f6, f7⟩ := FF.out _ (S1.out.then hH); have m0 := MF.out _ (S1.out.then hH); obtain ⟨c0_a, c1_a, c2_a, c3_a, c4_a, z_a⟩ := FR.out _ (S1.out.then hH) a ok_a; obtain ⟨c0_b, c1_b, c2_b, c3_b, c4_b, z_b⟩ := FR.out _ (S1.out.then hH) b ok_b; obtain ⟨b0, b1, b2, b3, b4, b5, b6, b7, b8, b9⟩ := FB.out _ hH; have ha := rd1 ha H (by kernel_rfl) rfl; simp only [q3, q5, q6, q7] at ha; subst ha; clear H hU hS; go_wp2_with fail; (try refine hQ _ _ ?_); refine ⟨Step.refl _ _, ?_, trivial, nofun⟩; exact (rfl : _ = _)
    case o3_3_31 => obtain ⟨f0, f3, f6, f7⟩ := FF.out _ (S1.out.then hH); have m0 := MF.out _ (S1.out.then hH); obtain ⟨c0_a, c1_a, c2_a, c3_a, c4_a, z_a⟩ := FR.out _ (S1.out.then hH) a ok_a; obtain ⟨c0_b, c1_b, c2_b, c3_b, c4_b, z_b⟩ := FR.out _ (S1.out.then hH) b ok_b; obtain ⟨b0, b1, b2, b3, b4, b5, b6, b7, b8, b9⟩ := FB.out _ hH; have h18 : xv 18 = _ := H 18 (by kernel_rfl); have h20 : xv 20 = _ := H 20 (by kernel_rfl); have h28 : xv 28 = _ := H 28 (by kernel_rfl); have h30 : xv 30 = _ := H 30 (by kernel_rfl); change aq = puts _ xv [(18, some 26), (20, some 28), (28, some 36), (30, some 38)] at ha; simp only [q1, q2, q3, q5, q6, q7, h18, h20, h28, h30] at ha; subst ha; clear H h18 h20 h28 h30; clear hU hS; go_wp2_with fail; refine (AS.out _ (S1.out.then hH)).mono ?_; rintro e w4 ⟨rfl, s4⟩; go_wp2_with fail; (try refine hQ _ _ ?_); refine ⟨s4, ?_, trivial, nofun⟩; exact (rfl : _ = _)
  intro xv w2 hH hS H hU hsz hF hN
  have h0 : xv 0 = _ := H 0 (by decide) (by kernel_rfl); have h1 : xv 1 = _ := H 1 (by decide) (by kernel_rfl); have h2 : xv 2 = _ := H 2 (by decide) (by kernel_rfl); have h3 : xv 3 = _ := H 3 (by decide) (by kernel_rfl); have h4 : xv 4 = _ := H 4 (by decide) (by kernel_rfl); have h5 : xv 5 = _ := H 5 (by decide) (by kernel_rfl); have h6 : xv 6 = _ := H 6 (by decide) (by kernel_rfl); have h7 : xv 7 = _ := H 7 (by decide) (by kernel_rfl); have h8 : xv 8 = _ := H 8 (by decide) (by kernel_rfl); have h9 : xv 9 = _ := H 9 (by decide) (by kernel_rfl); have h10 : xv 10 = _ := H 10 (by decide) (by kernel_rfl); have h11 : xv 11 = _ := H 11 (by decide) (by kernel_rfl); have h12 : xv 12 = _ := H 12 (by decide) (by kernel_rfl); have h13 : xv 13 = _ := H 13 (by decide) (by kernel_rfl); have h14 : xv 14 = _ := H 14 (by decide) (by kernel_rfl); have h15 : xv 15 = _ := H 15 (by decide) (by kernel_rfl); have h16 : xv 16 = _ := H 16 (by decide) (by kernel_rfl); have h17 : xv 17 = _ := H 17 (by decide) (by kernel_rfl); have h18 : xv 18 = _ := H 18 (by decide) (by kernel_rfl); have h19 : xv 19 = _ := H 19 (by decide) (by kernel_rfl); have h20 : xv 20 = _ := H 20 (by decide) (by kernel_rfl); have h21 : xv 21 = _ := H 21 (by decide) (by kernel_rfl); have h22 : xv 22 = _ := H 22 (by decide) (by kernel_rfl); have h23 : xv 23 = _ := H 23 (by decide) (by kernel_rfl); have h24 : xv 24 = _ := H 24 (by decide) (by kernel_rfl); have h25 : xv 25 = _ := H 25 (by decide) (by kernel_rfl); have h26 : xv 26 = _ := H 26 (by decide) (by kernel_rfl); have h27 : xv 27 = _ := H 27 (by decide) (by kernel_rfl); have h28 : xv 28 = _ := H 28 (by decide) (by kernel_rfl); have h29 : xv 29 = _ := H 29 (by decide) (by kernel_rfl); have h30 : xv 30 = _ := H 30 (by decide) (by kernel_rfl); have h31 : xv 31 = _ := H 31 (by decide) (by kernel_rfl)
  simp only [planEff3, q1, q2, q3, q5, q6, q7, q4, List.drop_succ_cons, List.drop_zero, h0, h1, h2, h3, h4, h5, h6, h7, h8, h9, h10, h11, h12, h13, h14, h15, h16, h17, h18, h19, h20, h21, h22, h23, h24, h25, h26, h27, h28, h29, h30, h31]
  clear H hF hN hS hU h0 h1 h2 h3 h4 h5 h6 h7 h8 h9 h10 h11 h12 h13 h14 h15 h16 h17 h18 h19 h20 h21 h22 h23 h24 h25 h26 h27 h28 h29 h30 h31
  have SA := Lib.hid hH
  have SB := Lib.hid (S1.out.then hH)
  clear hH
  obtain ⟨f0, f3, f6, f7⟩ := FF.out _ SB.out
  have m0 := MF.out _ SB.out
  obtain ⟨c0_a, c1_a, c2_a, c3_a, c4_a, z_a⟩ := FR.out _ SB.out a ok_a
  obtain ⟨c0_b, c1_b, c2_b, c3_b, c4_b, z_b⟩ := FR.out _ SB.out b ok_b
  obtain ⟨b0, b1, b2, b3, b4, b5, b6, b7, b8, b9⟩ := FB.out _ SA.out
  go_wp2_with fail
  refine (ST.out _ SB.out).mono ?_
  rintro e w3 ⟨rfl, s3⟩
  have S3 := Lib.hid (SB.out.then s3)
  clear s3
  go_wp2_with fail
  refine (right_no he _).mono ?_
  rintro e w4 ⟨rfl, rfl⟩
  exact ⟨rfl, rfl, own, (Chg.calm own S3.out).g gx, HW.out.still S3.out⟩
end
end Go.Proofs.Ytojfgdoniajmeaa
