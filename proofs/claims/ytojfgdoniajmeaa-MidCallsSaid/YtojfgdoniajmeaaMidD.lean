/- Package mid: MIs, MLoad, MGet; what effect does, as do does it. -/
import Derived.Test.YtojfgdoniajmeaaMidC
namespace Go.Proofs.Ytojfgdoniajmeaa
set_option linter.unusedVariables false
set_option linter.unusedSimpArgs false
open Go.RowKit

section
variable {w0 w w' w1 w2 : World} {pf pw gx : Nat} {own own' own'' : Nat → Nat} {vn vp vk vs vc vr vl : Value} {regs : List HV} {slots : List HP} {fnv : List UInt8 → Option Value} {tops : List UInt8 → Option HP} {st : MSt} {c : Nat}
def planDo14 : Plan where
  T := [[], [0], [0, 1], [0, 1, 2], [], [4], [0, 1, 2, 3, 4, 5], [0, 1, 2, 3, 4, 5, 6], [0, 1, 2, 3, 4, 5, 6, 7], [0, 1, 2, 3, 4, 5, 6, 7, 8], [0, 1, 2, 3, 4, 5, 6, 7, 8, 9]]
  rd := [[], [(0, some 78)], [(1, some 79)], [(2, some 80)], [], [(4, some 82)]]
  all := [(5, some 83), (4, some 82), (3, some 81), (2, some 80), (1, some 79), (0, some 78)]
  calm := [true, true, true, true, true, true]
  hard := []
  fresh := [false, false, false, false, false, false]

def planDd28 : Plan where
  T := [[], [0], [0, 1], [0, 1, 2], [], [4], [], [0, 1, 2, 3, 4, 5, 6], [0, 1, 2, 3, 4, 5, 6, 7]]
  rd := [[], [(0, some 168)], [(1, some 169)], [(2, some 170)], [], [(4, some 172)], []]
  all := [(6, some 174), (5, some 173), (4, some 172), (3, some 171), (2, some 170), (1, some 169), (0, some 168)]
  calm := [true, true, true, true, true, true, true]
  hard := []
  fresh := [false, false, false, false, false, false, false]

def planDo18 : Plan where
  T := [[], [0], [0, 1], [0, 1, 2], [0, 1, 2, 3], [0, 1, 2, 3, 4], [0, 1, 2, 3, 4, 5], [], [7], [7, 8], [7, 8, 9], [], [11], [7, 8, 9, 10, 11, 12], [7, 8, 9, 10, 11, 12, 13], [7, 8, 9, 10, 11, 12, 13, 14], [], [16], [0, 1, 2, 3, 4, 5, 6, 7, 8, 9, 10, 11, 12, 13, 14, 15, 16, 17], [0, 1, 2, 3, 4, 5, 6, 7, 8, 9, 10, 11, 12, 13, 14, 15, 16, 17, 18], [0, 1, 2, 3, 4, 5, 6, 7, 8, 9, 10, 11, 12, 13, 14, 15, 16, 17, 18, 19], [0, 1, 2, 3, 4, 5, 6, 7, 8, 9, 10, 11, 12, 13, 14, 15, 16, 17, 18, 19], [0, 1, 2, 3, 4, 5, 6, 7, 8, 9, 10, 11, 12, 13, 14, 15, 16, 17, 18, 19, 20], [0, 1, 2, 3, 4, 5, 6, 7, 8, 9, 10, 11, 12, 13, 14, 15, 16, 17, 18, 19, 20, 21, 22]]
  rd := [[], [(0, some 93)], [(1, some 94)], [(2, some 95)], [(3, some 96)], [(4, some 97)], [(5, some 98)], [], [(7, some 100)], [(8, some 101)], [(9, some 102)], [], [(11, some 104)], [(10, some 103), (12, some 105)], [(13, some 106)], [(14, some 107)], [], [(16, some 109)], [(6, some 99), (15, some 108), (17, some 110)], [(18, some 111)], [(19, some 92)], [(19, some 92)], [(20, some 112)]]
  all := [(22, none), (21, some 113), (20, some 112), (19, some 92), (18, some 111), (17, some 110), (16, some 109), (15, some 108), (14, some 107), (13, some 106), (12, some 105), (11, some 104), (10, some 103), (9, some 102), (8, some 101), (7, some 100), (6, some 99), (5, some 98), (4, some 97), (3, some 96), (2, some 95), (1, some 94), (0, some 93)]
  calm := [true, true, true, true, true, true, true, true, true, true, true, true, true, true, true, true, true, true, true, true, true, true, false]
  hard := [true, true, true, true, true, true, true, true, true, true, true, true, true, true, true, true, true, true, true, true, true, true, true]
  fresh := [false, false, false, false, false, false, false, false, false, false, false, false, false, false, false, false, false, false, false, false, false, false, false]

set_option maxHeartbeats 4000000 in
set_option maxRecDepth 100000 in
theorem do_10y (hW : MWAt w0 w pw own fnv tops st c) (hF : MFr w own pf pw gx vn vp vk vs vc vr vl regs slots) (hl : w0.heap.size ≤ gx) {v : Value} {i : FIns} (hi : InsAt w0 v i) (ho : i.op = 10) (ok_dst : ok1 regs i.dst) (ok_a : ok1 regs i.a) (hz : ((rgV regs i.a).ptr.block == 0) = true) :
    Calls Try.prog 45 #[.pointer (some ⟨pf, 0, none⟩), v] w (fun e w' => e = .returned (.tuple #[]) ∧ Went w0 w pw own fnv tops pf gx vn vp vk vs vc vr vl slots st c (regs.set i.dst.toNat (numV 1)) w') := by
  have NO := Lib.hid (fun y => ptr_none hi (.pointer (some ⟨pf, 0, none⟩)) y (by rw [ho]; rfl) (by rw [ho]; rfl) (by rw [ho]; rfl) (by rw [ho]; rfl) (by rw [ho]; rfl) (by rw [ho]; rfl))
  obtain ⟨va, vo, rfl, iargs, iouts⟩ := hi
  obtain ⟨op, dst, a, b, n, size, name, args, outs, tt⟩ := i
  simp only at *
  subst ho
  obtain ⟨rcap, rfl⟩ := regs_slice hF (by unfold ok1 at ok_dst; omega)
  have HW := Lib.hid hW
  have HF := Lib.hid hF
  have HL := Lib.hid hl
  have FF := Lib.hid (frame_facts hF)
  have FR := Lib.hid (reg_facts hF)
  unfold ok1 at ok_dst ok_a
  clear hW hF hl
  obtain ⟨f0, f3, f6, f7⟩ := FF.out _ (Step.refl _ _)
  have hpf := block_lt f6
  simp only at hpf
  have kb := heap_alloc_new w (.cells #[.int .i64 10, .int .i64 dst, .int .i64 a, .int .i64 b, .int .u64 n, .int .i64 size, .string name, va, vo, .int .i64 tt] 42 (0, 0))
  have s1 := Step.alloc (fun _ => False) w (.cells #[.int .i64 10, .int .i64 dst, .int .i64 a, .int .i64 b, .int .u64 n, .int .i64 size, .string name, va, vo, .int .i64 tt] 42 (0, 0))
  have HT := Lib.hid (show gx < w.heap.size ∧ own w.heap.size = 0 from ⟨HF.out.free.2.2.2, HW.out.fresh0⟩)
  have KB := Lib.hid kb
  have S1 := Lib.hid s1
  clear kb s1
  go_enter Try.func45, Try.ntmps45
  go_upto_region 1 with fail
  clear f0 f3 f6 f7 hpf
  generalize w.alloc (.cells #[.int .i64 10, .int .i64 dst, .int .i64 a, .int .i64 b, .int .u64 n, .int .i64 size, .string name, va, vo, .int .i64 tt] 42 (0, 0)) = w1 at KB S1 ⊢
  generalize htb : w.heap.size = tb at KB HT ⊢
  have HTB := Lib.hid htb
  clear htb
  obtain ⟨b0, b1, b2, b3, b4, b5, b6, b7, b8, b9⟩ := box_facts KB.out _ (Step.refl _ _)
  go_wp2_with fail
  refine (NO.out _).mono ?_
  rintro e w2 ⟨rfl, s2⟩
  have KB2 := s2.keeps KB.out
  have S2 := S1.out.then s2
  have kv := heap_alloc_new w2 (.cells #[.int .u64 0, .int .i64 0, .int .i64 0, .int .i64 0, .int .i64 0] 98 (0, 0))
  have s3 := Step.alloc (fun _ => False) w2 (.cells #[.int .u64 0, .int .i64 0, .int .i64 0, .int .i64 0, .int .i64 0] 98 (0, 0))
  have hz := s2.size
  have hb := lt_obj KB.out
  replace KB := Lib.hid (s3.keeps KB2)
  replace HT := Lib.hid (show gx < tb ∧ own tb = 0 ∧ w.heap.size ≤ w2.heap.size ∧ tb ≠ w2.heap.size from ⟨HT.out.1, HT.out.2, S2.size, by omega⟩)
  replace S1 := Lib.hid (S2.then s3)
  have KV := Lib.hid kv
  clear KB2 S2 kv s2 s3 hz hb b0 b1 b2 b3 b4 b5 b6 b7 b8 b9 NO
  go_upto_region 3 with fail
  generalize w2.alloc (.cells #[.int .u64 0, .int .i64 0, .int .i64 0, .int .i64 0, .int .i64 0] 98 (0, 0)) = w1 at KB KV S1 ⊢
  generalize w2.heap.size = tv at KV HT ⊢
  have FB := Lib.hid (box_facts KB.out)
  obtain ⟨b0, b1, b2, b3, b4, b5, b6, b7, b8, b9⟩ := FB.out _ (Step.refl _ _)
  go_upto_region 14 with fail
  clear b0 b1 b2 b3 b4 b5 b6 b7 b8 b9
  refine wp_region_each 6 planDo14 (fun _ _ => False) (Step (fun _ => False) w1) (fun _ => True) [Is ?v14_1_0, Is ?v14_1_1, Is ?v14_1_2, Is ?v14_1_3, Is ?v14_1_4, Is ?v14_1_5] [] (by kernel_rfl) (by kernel_rfl) (fun _ _ h => h.elim) ((Step.refl _ _).drew) (trivial) ?stab14_1 ?stabD14_1 ?obl14_1 ?fin14_1
  case stab14_1 => exact fun w w' h => ⟨fun k => k.trans h (fun _ x => x.elim), fun _ => trivial, ⟨fun _ k => k, fun _ k => k, fun _ k => k, fun _ k => k, fun _ k => k, fun _ k => k, trivial⟩, trivial⟩
  case stabD14_1 => exact fun _ _ h => h.elim
  case obl14_1 =>
    refine ⟨?o14_1_0, ?o14_1_1, ?o14_1_2, ?o14_1_3, ?o14_1_4, ?o14_1_5, trivial⟩
    all_goals intro xv wq hH hS H hU aq ha Q' hQ
    case o14_1_0 => cases rd0 ha; clear H hU hS; go_wp2_with fail; (try refine hQ _ _ ?_); refine ⟨Step.refl _ _, ?_, trivial, nofun⟩; exact (rfl : _ = _)
    case o14_1_1 | o14_1_2 => have ha := rd1 ha H (by kernel_rfl) rfl; simp only [q3, q5, q6, q7] at ha; subst ha; clear H hU hS; go_wp2_with fail; (try refine hQ _ _ ?_); refine ⟨Step.refl _ _, ?_, trivial, nofun⟩; exact (rfl : _ = _)
    case o14_1_3 => obtain ⟨f0, f3, f6, f7⟩ := FF.out _ (S1.out.then hH); obtain ⟨c0_a, c1_a, c2_a, c3_a, c4_a, z_a⟩ := FR.out _ (S1.out.then hH) a ok_a; obtain ⟨b0, b1, b2, b3, b4, b5, b6, b7, b8, b9⟩ := FB.out _ hH; obtain ⟨v0, v1, v2, v3, v4, y0, y1, y2, y3, y4⟩ := cells_known5 (hH.keeps KV.out); have ha := rd1 ha H (by kernel_rfl) rfl; simp only [q3, q5, q6, q7] at ha; subst ha; clear H hU hS; go_wp2_with fail; (try refine hQ _ _ ?_); refine ⟨Step.refl _ _, ?_, trivial, nofun⟩; exact (rfl : _ = _)
    case o14_1_4 => cases rd0 ha; clear H hU hS; go_wp2_with fail; (try refine hQ _ _ ?_); refine ⟨Step.refl _ _, ?_, trivial, nofun⟩; exact (rfl : _ = _)
    case o14_1_5 => obtain ⟨f0, f3, f6, f7⟩ := FF.out _ (S1.out.then hH); obtain ⟨c0_a, c1_a, c2_a, c3_a, c4_a, z_a⟩ := FR.out _ (S1.out.then hH) a ok_a; obtain ⟨b0, b1, b2, b3, b4, b5, b6, b7, b8, b9⟩ := FB.out _ hH; obtain ⟨v0, v1, v2, v3, v4, y0, y1, y2, y3, y4⟩ := cells_known5 (hH.keeps KV.out); have ha := rd1 ha H (by kernel_rfl) rfl; simp only [q3, q5, q6, q7] at ha; subst ha; clear H hU hS; go_wp2_with fail; (try refine hQ _ _ ?_); refine ⟨Step.refl _ _, ?_, trivial, nofun⟩; exact (rfl : _ = _)
  intro xv w2 hH hS H hU hsz hF hN
  have h0 : xv 0 = _ := H 0 (by decide) (by kernel_rfl); have h1 : xv 1 = _ := H 1 (by decide) (by kernel_rfl); have h2 : xv 2 = _ := H 2 (by decide) (by kernel_rfl); have h3 : xv 3 = _ := H 3 (by decide) (by kernel_rfl); have h4 : xv 4 = _ := H 4 (by decide) (by kernel_rfl); have h5 : xv 5 = _ := H 5 (by decide) (by kernel_rfl)
  simp only [planDo14, q1, q2, q3, q5, q6, q7, q4, List.drop_succ_cons, List.drop_zero, h0, h1, h2, h3, h4, h5]
  clear H hF hN hS hU h0 h1 h2 h3 h4 h5
  have SA := Lib.hid hH
  have SB := Lib.hid (S1.out.then hH)
  clear hH
  obtain ⟨f0, f3, f6, f7⟩ := FF.out _ SB.out
  obtain ⟨c0_a, c1_a, c2_a, c3_a, c4_a, z_a⟩ := FR.out _ SB.out a ok_a
  obtain ⟨b0, b1, b2, b3, b4, b5, b6, b7, b8, b9⟩ := FB.out _ SA.out
  obtain ⟨v0, v1, v2, v3, v4, y0, y1, y2, y3, y4⟩ := cells_known5 (SA.out.keeps KV.out)
  obtain ⟨w3, hw3, s3, kb3, kv3⟩ := putN (wb := w) (1) SB.out (.inr HT.out.2.2.1) HT.out.2.2.2 (SA.out.keeps KB.out) (SA.out.keeps KV.out)
  have HW3 := Lib.hid hw3
  have S3 := Lib.hid s3
  have KB3 := Lib.hid kb3
  have KV3 := Lib.hid kv3
  clear hw3 s3 kb3 kv3
  go_upto_region 27 with fail
  rw [← HW3.out]
  clear HW3 KB KV FB SA SB
  clear f0 f3 f6 f7 c0_a c1_a c2_a c3_a c4_a z_a b0 b1 b2 b3 b4 b5 b6 b7 b8 b9 v0 v1 v2 v3 v4 y0 y1 y2 y3 y4
  have FB := Lib.hid (box_facts KB3.out)
  obtain ⟨b0, b1, b2, b3, b4, b5, b6, b7, b8, b9⟩ := FB.out _ (Step.refl _ _)
  have hd0 : decide (0 ≤ dst) = true := decide_eq_true ok_dst.1
  go_upto_region 28 with fail
  clear b0 b1 b2 b3 b4 b5 b6 b7 b8 b9
  refine wp_region_each 7 planDd28 (fun _ _ => False) (Step (fun _ => False) w3) (fun _ => True) [Is ?v28_2_0, Is ?v28_2_1, Is ?v28_2_2, Is ?v28_2_3, Is ?v28_2_4, Is ?v28_2_5, Is ?v28_2_6] [] (by kernel_rfl) (by kernel_rfl) (fun _ _ h => h.elim) ((Step.refl _ _).drew) (trivial) ?stab28_2 ?stabD28_2 ?obl28_2 ?fin28_2
  case stab28_2 => exact fun w w' h => ⟨fun k => k.trans h (fun _ x => x.elim), fun _ => trivial, ⟨fun _ k => k, fun _ k => k, fun _ k => k, fun _ k => k, fun _ k => k, fun _ k => k, fun _ k => k, trivial⟩, trivial⟩
  case stabD28_2 => exact fun _ _ h => h.elim
  case obl28_2 =>
    refine ⟨?o28_2_0, ?o28_2_1, ?o28_2_2, ?o28_2_3, ?o28_2_4, ?o28_2_5, ?o28_2_6, trivial⟩
    all_goals intro xv wq hH hS H hU aq ha Q' hQ
    case o28_2_0 => cases rd0 ha; clear H hU hS; go_wp2_with fail; (try refine hQ _ _ ?_); refine ⟨Step.refl _ _, ?_, trivial, nofun⟩; exact (rfl : _ = _)
    case o28_2_1 | o28_2_2 => have ha := rd1 ha H (by kernel_rfl) rfl; simp only [q3, q5, q6, q7] at ha; subst ha; clear H hU hS; go_wp2_with fail; (try refine hQ _ _ ?_); refine ⟨Step.refl _ _, ?_, trivial, nofun⟩; exact (rfl : _ = _)
    case o28_2_3 => obtain ⟨f0, f3, f6, f7⟩ := FF.out _ (S3.out.then hH); obtain ⟨b0, b1, b2, b3, b4, b5, b6, b7, b8, b9⟩ := FB.out _ hH; obtain ⟨v0, v1, v2, v3, v4, y0, y1, y2, y3, y4⟩ := cells_known5 (hH.keeps KV3.out); have ha := rd1 ha H (by kernel_rfl) rfl; simp only [q3, q5, q6, q7] at ha; subst ha; clear H hU hS; go_wp2_with fail; (try refine hQ _ _ ?_); refine ⟨Step.refl _ _, ?_, trivial, nofun⟩; exact (rfl : _ = _)
    case o28_2_4 => cases rd0 ha; clear H hU hS; go_wp2_with fail; (try refine hQ _ _ ?_); refine ⟨Step.refl _ _, ?_, trivial, nofun⟩; exact (rfl : _ = _)
    case o28_2_5 => obtain ⟨f0, f3, f6, f7⟩ := FF.out _ (S3.out.then hH); obtain ⟨b0, b1, b2, b3, b4, b5, b6, b7, b8, b9⟩ := FB.out _ hH; obtain ⟨v0, v1, v2, v3, v4, y0, y1, y2, y3, y4⟩ := cells_known5 (hH.keeps KV3.out); have ha := rd1 ha H (by kernel_rfl) rfl; simp only [q3, q5, q6, q7] at ha; subst ha; clear H hU hS; go_wp2_with fail; (try refine hQ _ _ ?_); refine ⟨Step.refl _ _, ?_, trivial, nofun⟩; exact (rfl : _ = _)
    case o28_2_6 => obtain ⟨f0, f3, f6, f7⟩ := FF.out _ (S3.out.then hH); obtain ⟨b0, b1, b2, b3, b4, b5, b6, b7, b8, b9⟩ := FB.out _ hH; obtain ⟨v0, v1, v2, v3, v4, y0, y1, y2, y3, y4⟩ := cells_known5 (hH.keeps KV3.out); cases rd0 ha; clear H hU hS; go_wp2_with fail; (try refine hQ _ _ ?_); refine ⟨Step.refl _ _, ?_, trivial, nofun⟩; exact (rfl : _ = _)
  intro xv w9 hH hS H hU hsz hF hN
  have h0 : xv 0 = _ := H 0 (by decide) (by kernel_rfl); have h1 : xv 1 = _ := H 1 (by decide) (by kernel_rfl); have h2 : xv 2 = _ := H 2 (by decide) (by kernel_rfl); have h3 : xv 3 = _ := H 3 (by decide) (by kernel_rfl); have h4 : xv 4 = _ := H 4 (by decide) (by kernel_rfl); have h5 : xv 5 = _ := H 5 (by decide) (by kernel_rfl); have h6 : xv 6 = _ := H 6 (by decide) (by kernel_rfl)
  simp only [planDd28, q1, q2, q3, q5, q6, q7, q4, List.drop_succ_cons, List.drop_zero, h0, h1, h2, h3, h4, h5, h6]
  clear H hF hN hS hU h0 h1 h2 h3 h4 h5 h6
  have S9 := Lib.hid (S3.out.then hH)
  obtain ⟨f0, f3, f6, f7⟩ := FF.out _ S9.out
  obtain ⟨c0_dst, c1_dst, c2_dst, c3_dst, c4_dst, z_dst⟩ := FR.out _ S9.out dst ok_dst
  clear hH
  go_wp2_with fail
  go_end0
  exact ⟨rfl, went_set (HW.out.still S9.out) (HF.out.still S9.out) ((Chg.calm own S9.out).g gx) HL.out rfl (by omega) (numV 1)⟩
set_option maxHeartbeats 4000000 in
set_option maxRecDepth 100000 in
theorem do_10n (hW : MWAt w0 w pw own fnv tops st c) (hF : MFr w own pf pw gx vn vp vk vs vc vr vl regs slots) (hl : w0.heap.size ≤ gx) {v : Value} {i : FIns} (hi : InsAt w0 v i) (ho : i.op = 10) (ok_dst : ok1 regs i.dst) (ok_a : ok1 regs i.a) (hz : ((rgV regs i.a).ptr.block == 0) = false) :
    Calls Try.prog 45 #[.pointer (some ⟨pf, 0, none⟩), v] w (fun e w' => e = .returned (.tuple #[]) ∧ Went w0 w pw own fnv tops pf gx vn vp vk vs vc vr vl slots st c (regs.set i.dst.toNat (numV 0)) w') := by
  have NO := Lib.hid (fun y => ptr_none hi (.pointer (some ⟨pf, 0, none⟩)) y (by rw [ho]; rfl) (by rw [ho]; rfl) (by rw [ho]; rfl) (by rw [ho]; rfl) (by rw [ho]; rfl) (by rw [ho]; rfl))
  obtain ⟨va, vo, rfl, iargs, iouts⟩ := hi
  obtain ⟨op, dst, a, b, n, size, name, args, outs, tt⟩ := i
  simp only at *
  subst ho
  obtain ⟨rcap, rfl⟩ := regs_slice hF (by unfold ok1 at ok_dst; omega)
  have HW := Lib.hid hW
  have HF := Lib.hid hF
  have HL := Lib.hid hl
  have FF := Lib.hid (frame_facts hF)
  have FR := Lib.hid (reg_facts hF)
  unfold ok1 at ok_dst ok_a
  clear hW hF hl
  obtain ⟨f0, f3, f6, f7⟩ := FF.out _ (Step.refl _ _)
  have hpf := block_lt f6
  simp only at hpf
  have kb := heap_alloc_new w (.cells #[.int .i64 10, .int .i64 dst, .int .i64 a, .int .i64 b, .int .u64 n, .int .i64 size, .string name, va, vo, .int .i64 tt] 42 (0, 0))
  have s1 := Step.alloc (fun _ => False) w (.cells #[.int .i64 10, .int .i64 dst, .int .i64 a, .int .i64 b, .int .u64 n, .int .i64 size, .string name, va, vo, .int .i64 tt] 42 (0, 0))
  have HT := Lib.hid (show gx < w.heap.size ∧ own w.heap.size = 0 from ⟨HF.out.free.2.2.2, HW.out.fresh0⟩)
  have KB := Lib.hid kb
  have S1 := Lib.hid s1
  clear kb s1
  go_enter Try.func45, Try.ntmps45
  go_upto_region 1 with fail
  clear f0 f3 f6 f7 hpf
  generalize w.alloc (.cells #[.int .i64 10, .int .i64 dst, .int .i64 a, .int .i64 b, .int .u64 n, .int .i64 size, .string name, va, vo, .int .i64 tt] 42 (0, 0)) = w1 at KB S1 ⊢
  generalize htb : w.heap.size = tb at KB HT ⊢
  have HTB := Lib.hid htb
  clear htb
  obtain ⟨b0, b1, b2, b3, b4, b5, b6, b7, b8, b9⟩ := box_facts KB.out _ (Step.refl _ _)
  go_wp2_with fail
  refine (NO.out _).mono ?_
  rintro e w2 ⟨rfl, s2⟩
  have KB2 := s2.keeps KB.out
  have S2 := S1.out.then s2
  have kv := heap_alloc_new w2 (.cells #[.int .u64 0, .int .i64 0, .int .i64 0, .int .i64 0, .int .i64 0] 98 (0, 0))
  have s3 := Step.alloc (fun _ => False) w2 (.cells #[.int .u64 0, .int .i64 0, .int .i64 0, .int .i64 0, .int .i64 0] 98 (0, 0))
  have hz := s2.size
  have hb := lt_obj KB.out
  replace KB := Lib.hid (s3.keeps KB2)
  replace HT := Lib.hid (show gx < tb ∧ own tb = 0 ∧ w.heap.size ≤ w2.heap.size ∧ tb ≠ w2.heap.size from ⟨HT.out.1, HT.out.2, S2.size, by omega⟩)
  replace S1 := Lib.hid (S2.then s3)
  have KV := Lib.hid kv
  clear KB2 S2 kv s2 s3 hz hb b0 b1 b2 b3 b4 b5 b6 b7 b8 b9 NO
  go_upto_region 3 with fail
  generalize w2.alloc (.cells #[.int .u64 0, .int .i64 0, .int .i64 0, .int .i64 0, .int .i64 0] 98 (0, 0)) = w1 at KB KV S1 ⊢
  generalize w2.heap.size = tv at KV HT ⊢
  have FB := Lib.hid (box_facts KB.out)
  obtain ⟨b0, b1, b2, b3, b4, b5, b6, b7, b8, b9⟩ := FB.out _ (Step.refl _ _)
  go_upto_region 14 with fail
  clear b0 b1 b2 b3 b4 b5 b6 b7 b8 b9
  refine wp_region_each 6 planDo14 (fun _ _ => False) (Step (fun _ => False) w1) (fun _ => True) [Is ?v14_3_0, Is ?v14_3_1, Is ?v14_3_2, Is ?v14_3_3, Is ?v14_3_4, Is ?v14_3_5] [] (by kernel_rfl) (by kernel_rfl) (fun _ _ h => h.elim) ((Step.refl _ _).drew) (trivial) ?stab14_3 ?stabD14_3 ?obl14_3 ?fin14_3
  case stab14_3 => exact fun w w' h => ⟨fun k => k.trans h (fun _ x => x.elim), fun _ => trivial, ⟨fun _ k => k, fun _ k => k, fun _ k => k, fun _ k => k, fun _ k => k, fun _ k => k, trivial⟩, trivial⟩
  case stabD14_3 => exact fun _ _ h => h.elim
  case obl14_3 =>
    refine ⟨?o14_3_0, ?o14_3_1, ?o14_3_2, ?o14_3_3, ?o14_3_4, ?o14_3_5, trivial⟩
    all_goals intro xv wq hH hS H hU aq ha Q' hQ
    case o14_3_0 => cases rd0 ha; clear H hU hS; go_wp2_with fail; (try refine hQ _ _ ?_); refine ⟨Step.refl _ _, ?_, trivial, nofun⟩; exact (rfl : _ = _)
    case o14_3_1 | o14_3_2 => have ha := rd1 ha H (by kernel_rfl) rfl; simp only [q3, q5, q6, q7] at ha; subst ha; clear H hU hS; go_wp2_with fail; (try refine hQ _ _ ?_); refine ⟨Step.refl _ _, ?_, trivial, nofun⟩; exact (rfl : _ = _)
    case o14_3_3 => obtain ⟨f0, f3, f6, f7⟩ := FF.out _ (S1.out.then hH); obtain ⟨c0_a, c1_a, c2_a, c3_a, c4_a, z_a⟩ := FR.out _ (S1.out.then hH) a ok_a; obtain ⟨b0, b1, b2, b3, b4, b5, b6, b7, b8, b9⟩ := FB.out _ hH; obtain ⟨v0, v1, v2, v3, v4, y0, y1, y2, y3, y4⟩ := cells_known5 (hH.keeps KV.out); have ha := rd1 ha H (by kernel_rfl) rfl; simp only [q3, q5, q6, q7] at ha; subst ha; clear H hU hS; go_wp2_with fail; (try refine hQ _ _ ?_); refine ⟨Step.refl _ _, ?_, trivial, nofun⟩; exact (rfl : _ = _)
    case o14_3_4 => cases rd0 ha; clear H hU hS; go_wp2_with fail; (try refine hQ _ _ ?_); refine ⟨Step.refl _ _, ?_, trivial, nofun⟩; exact (rfl : _ = _)
    case o14_3_5 => obtain ⟨f0, f3, f6, f7⟩ := FF.out _ (S1.out.then hH); obtain ⟨c0_a, c1_a, c2_a, c3_a, c4_a, z_a⟩ := FR.out _ (S1.out.then hH) a ok_a; obtain ⟨b0, b1, b2, b3, b4, b5, b6, b7, b8, b9⟩ := FB.out _ hH; obtain ⟨v0, v1, v2, v3, v4, y0, y1, y2, y3, y4⟩ := cells_known5 (hH.keeps KV.out); have ha := rd1 ha H (by kernel_rfl) rfl; simp only [q3, q5, q6, q7] at ha; subst ha; clear H hU hS; go_wp2_with fail; (try refine hQ _ _ ?_); refine ⟨Step.refl _ _, ?_, trivial, nofun⟩; exact (rfl : _ = _)
  intro xv w2 hH hS H hU hsz hF hN
  have h0 : xv 0 = _ := H 0 (by decide) (by kernel_rfl); have h1 : xv 1 = _ := H 1 (by decide) (by kernel_rfl); have h2 : xv 2 = _ := H 2 (by decide) (by kernel_rfl); have h3 : xv 3 = _ := H 3 (by decide) (by kernel_rfl); have h4 : xv 4 = _ := H 4 (by decide) (by kernel_rfl); have h5 : xv 5 = _ := H 5 (by decide) (by kernel_rfl)
  simp only [planDo14, q1, q2, q3, q5, q6, q7, q4, List.drop_succ_cons, List.drop_zero, h0, h1, h2, h3, h4, h5]
  clear H hF hN hS hU h0 h1 h2 h3 h4 h5
  have SA := Lib.hid hH
  have SB := Lib.hid (S1.out.then hH)
  clear hH
  obtain ⟨f0, f3, f6, f7⟩ := FF.out _ SB.out
  obtain ⟨c0_a, c1_a, c2_a, c3_a, c4_a, z_a⟩ := FR.out _ SB.out a ok_a
  obtain ⟨b0, b1, b2, b3, b4, b5, b6, b7, b8, b9⟩ := FB.out _ SA.out
  obtain ⟨v0, v1, v2, v3, v4, y0, y1, y2, y3, y4⟩ := cells_known5 (SA.out.keeps KV.out)
  have S3 := Lib.hid SB.out
  have KB3 := Lib.hid (SA.out.keeps KB.out)
  have KV3 := Lib.hid (SA.out.keeps KV.out)
  go_upto_region 27 with fail
  clear KB KV FB SA SB
  clear f0 f3 f6 f7 c0_a c1_a c2_a c3_a c4_a z_a b0 b1 b2 b3 b4 b5 b6 b7 b8 b9 v0 v1 v2 v3 v4 y0 y1 y2 y3 y4
  have FB := Lib.hid (box_facts KB3.out)
  obtain ⟨b0, b1, b2, b3, b4, b5, b6, b7, b8, b9⟩ := FB.out _ (Step.refl _ _)
  have hd0 : decide (0 ≤ dst) = true := decide_eq_true ok_dst.1
  go_upto_region 28 with fail
  clear b0 b1 b2 b3 b4 b5 b6 b7 b8 b9
  refine wp_region_each 7 planDd28 (fun _ _ => False) (Step (fun _ => False) w2) (fun _ => True) [Is ?v28_4_0, Is ?v28_4_1, Is ?v28_4_2, Is ?v28_4_3, Is ?v28_4_4, Is ?v28_4_5, Is ?v28_4_6] [] (by kernel_rfl) (by kernel_rfl) (fun _ _ h => h.elim) ((Step.refl _ _).drew) (trivial) ?stab28_4 ?stabD28_4 ?obl28_4 ?fin28_4
  case stab28_4 => exact fun w w' h => ⟨fun k => k.trans h (fun _ x => x.elim), fun _ => trivial, ⟨fun _ k => k, fun _ k => k, fun _ k => k, fun _ k => k, fun _ k => k, fun _ k => k, fun _ k => k, trivial⟩, trivial⟩
  case stabD28_4 => exact fun _ _ h => h.elim
  case obl28_4 =>
    refine ⟨?o28_4_0, ?o28_4_1, ?o28_4_2, ?o28_4_3, ?o28_4_4, ?o28_4_5, ?o28_4_6, trivial⟩
    all_goals intro xv wq hH hS H hU aq ha Q' hQ
    case o28_4_0 => cases rd0 ha; clear H hU hS; go_wp2_with fail; (try refine hQ _ _ ?_); refine ⟨Step.refl _ _, ?_, trivial, nofun⟩; exact (rfl : _ = _)
    case o28_4_1 | o28_4_2 => have ha := rd1 ha H (by kernel_rfl) rfl; simp only [q3, q5, q6, q7] at ha; subst ha; clear H hU hS; go_wp2_with fail; (try refine hQ _ _ ?_); refine ⟨Step.refl _ _, ?_, trivial, nofun⟩; exact (rfl : _ = _)
    case o28_4_3 => obtain ⟨f0, f3, f6, f7⟩ := FF.out _ (S3.out.then hH); obtain ⟨b0, b1, b2, b3, b4, b5, b6, b7, b8, b9⟩ := FB.out _ hH; obtain ⟨v0, v1, v2, v3, v4, y0, y1, y2, y3, y4⟩ := cells_known5 (hH.keeps KV3.out); have ha := rd1 ha H (by kernel_rfl) rfl; simp only [q3, q5, q6, q7] at ha; subst ha; clear H hU hS; go_wp2_with fail; (try refine hQ _ _ ?_); refine ⟨Step.refl _ _, ?_, trivial, nofun⟩; exact (rfl : _ = _)
    case o28_4_4 => cases rd0 ha; clear H hU hS; go_wp2_with fail; (try refine hQ _ _ ?_); refine ⟨Step.refl _ _, ?_, trivial, nofun⟩; exact (rfl : _ = _)
    case o28_4_5 => obtain ⟨f0, f3, f6, f7⟩ := FF.out _ (S3.out.then hH); obtain ⟨b0, b1, b2, b3, b4, b5, b6, b7, b8, b9⟩ := FB.out _ hH; obtain ⟨v0, v1, v2, v3, v4, y0, y1, y2, y3, y4⟩ := cells_known5 (hH.keeps KV3.out); have ha := rd1 ha H (by kernel_rfl) rfl; simp only [q3, q5, q6, q7] at ha; subst ha; clear H hU hS; go_wp2_with fail; (try refine hQ _ _ ?_); refine ⟨Step.refl _ _, ?_, trivial, nofun⟩; exact (rfl : _ = _)
    case o28_4_6 => obtain ⟨f0, f3, f6, f7⟩ := FF.out _ (S3.out.then hH); obtain ⟨b0, b1, b2, b3, b4, b5, b6, b7, b8, b9⟩ := FB.out _ hH; obtain ⟨v0, v1, v2, v3, v4, y0, y1, y2, y3, y4⟩ := cells_known5 (hH.keeps KV3.out); cases rd0 ha; clear H hU hS; go_wp2_with fail; (try refine hQ _ _ ?_); refine ⟨Step.refl _ _, ?_, trivial, nofun⟩; exact (rfl : _ = _)
  intro xv w9 hH hS H hU hsz hF hN
  have h0 : xv 0 = _ := H 0 (by decide) (by kernel_rfl); have h1 : xv 1 = _ := H 1 (by decide) (by kernel_rfl); have h2 : xv 2 = _ := H 2 (by decide) (by kernel_rfl); have h3 : xv 3 = _ := H 3 (by decide) (by kernel_rfl); have h4 : xv 4 = _ := H 4 (by decide) (by kernel_rfl); have h5 : xv 5 = _ := H 5 (by decide) (by kernel_rfl); have h6 : xv 6 = _ := H 6 (by decide) (by kernel_rfl)
  simp only [planDd28, q1, q2, q3, q5, q6, q7, q4, List.drop_succ_cons, List.drop_zero, h0, h1, h2, h3, h4, h5, h6]
  clear H hF hN hS hU h0 h1 h2 h3 h4 h5 h6
  have S9 := Lib.hid (S3.out.then hH)
  obtain ⟨f0, f3, f6, f7⟩ := FF.out _ S9.out
  obtain ⟨c0_dst, c1_dst, c2_dst, c3_dst, c4_dst, z_dst⟩ := FR.out _ S9.out dst ok_dst
  clear hH
  go_wp2_with fail
  go_end0
  exact ⟨rfl, went_set (HW.out.still S9.out) (HF.out.still S9.out) ((Chg.calm own S9.out).g gx) HL.out rfl (by omega) (numV 0)⟩
set_option maxHeartbeats 4000000 in
set_option maxRecDepth 100000 in
theorem do_11ok (hW : MWAt w0 w pw own fnv tops st c) (hF : MFr w own pf pw gx vn vp vk vs vc vr vl regs slots) (hl : w0.heap.size ≤ gx) {v : Value} {i : FIns} (hi : InsAt w0 v i) (ho : i.op = 11) (ok_dst : ok1 regs i.dst) (ok_a : ok1 regs i.a) {kinds : List Int} (hk : IntsAt .i64 w0 vk kinds) (hkl : regs.length = kinds.length) (hs : i.size = 1 ∨ i.size = 4 ∨ i.size = 8) (hx : i64B (rgV regs i.a).ptr.block ∧ i64B (rgV regs i.a).ptr.off ∧ i64B (rgV regs i.a).ptr.high) (he : errP st (rgV regs i.a).ptr i.size = 0) :
    Calls Try.prog 45 #[.pointer (some ⟨pf, 0, none⟩), v] w (fun e w' => e = .returned (.tuple #[]) ∧ Went w0 w pw own fnv tops pf gx vn vp vk vs vc vr vl slots st c (regs.set i.dst.toNat (asV (kinds.getD i.dst.toNat 0) (getOf st.at_ (rgV regs i.a).ptr.block (rgV regs i.a).ptr.off) i.size)) w') := by
  have NO := Lib.hid (fun y => ptr_none hi (.pointer (some ⟨pf, 0, none⟩)) y (by rw [ho]; rfl) (by rw [ho]; rfl) (by rw [ho]; rfl) (by rw [ho]; rfl) (by rw [ho]; rfl) (by rw [ho]; rfl))
  obtain ⟨va, vo, rfl, iargs, iouts⟩ := hi
  obtain ⟨op, dst, a, b, n, size, name, args, outs, tt⟩ := i
  simp only at *
  subst ho
  obtain ⟨rcap, rfl⟩ := regs_slice hF (by unfold ok1 at ok_dst; omega)
  have HW := Lib.hid hW
  have HF := Lib.hid hF
  have HL := Lib.hid hl
  have FF := Lib.hid (frame_facts hF)
  have FR := Lib.hid (reg_facts hF)
  unfold ok1 at ok_dst ok_a
  obtain ⟨ph, bt, bf, vin, vout, P⟩ := HW.out
  have PP := Lib.hid P
  have MF := Lib.hid (show ∀ y, Step (fun _ => False) w y → y.cell? ⟨pw, 0, none⟩ = some (.pointer (some ⟨ph, 0, none⟩)) from fun y hy => cell_known (hy.keeps P.struct) rfl)
  have HKK := Lib.hid hk
  have hlen := hkl
  unfold i64B at hx
  obtain ⟨⟨hx0, hx1⟩, ⟨hx2, hx3⟩, ⟨hx4, hx5⟩⟩ := hx
  obtain ⟨x, hxx⟩ : ∃ x, getOf st.at_ (rgV regs a).ptr.block (rgV regs a).ptr.off = x := ⟨_, rfl⟩
  rw [hxx]
  have LD := Lib.hid (show ∀ y, Step (fun _ => False) w y → Calls Try.prog 64 #[.pointer (some ⟨ph, 0, none⟩), .agg #[.int .i64 (rgV regs a).ptr.block, .int .i64 (rgV regs a).ptr.off, .int .i64 (rgV regs a).ptr.low, .int .i64 (rgV regs a).ptr.high], .int .i64 size] y fun e w' => e = .returned (.tuple #[.agg #[.int .u64 x.num, .int .i64 x.ptr.block, .int .i64 x.ptr.off, .int .i64 x.ptr.low, .int .i64 x.ptr.high], .int .i64 0]) ∧ Step (fun _ => False) y w' from fun y hy => by
    have h := load_any ph (rgV regs a).ptr.block (rgV regs a).ptr.off (rgV regs a).ptr.low (rgV regs a).ptr.high size st.blks st.at_ c _ y (P.still hy).heap P.lens.1 hx0 hx1 hx2 hx3 hx4 hx5
    unfold errP at he
    rw [he, if_pos rfl, hxx] at h
    exact h)
  have AS := Lib.hid (show ∀ y, Step (fun _ => False) w y → Calls Try.prog 66 #[.pointer (some ⟨pf, 0, none⟩), .int .i64 dst, .agg #[.int .u64 x.num, .int .i64 x.ptr.block, .int .i64 x.ptr.off, .int .i64 x.ptr.low, .int .i64 x.ptr.high], .int .i64 size] y fun e w' => e = .returned (.agg #[.int .u64 (asV (kinds.getD dst.toNat 0) x size).num, .int .i64 (asV (kinds.getD dst.toNat 0) x size).ptr.block, .int .i64 (asV (kinds.getD dst.toNat 0) x size).ptr.off, .int .i64 (asV (kinds.getD dst.toNat 0) x size).ptr.low, .int .i64 (asV (kinds.getD dst.toNat 0) x size).ptr.high]) ∧ Step (fun _ => False) y w' from fun y hy => as_any (HF.out.still hy) (hk.step (P.still hy).step fun b h => h) (by omega) x hs)
  obtain ⟨z, hzz⟩ : ∃ z, asV (kinds.getD dst.toNat 0) x size = z := ⟨_, rfl⟩
  rw [hzz] at AS ⊢
  clear P hxx hzz he hk
  clear hW hF hl
  obtain ⟨f0, f3, f6, f7⟩ := FF.out _ (Step.refl _ _)
  have hpf := block_lt f6
  simp only at hpf
  have kb := heap_alloc_new w (.cells #[.int .i64 11, .int .i64 dst, .int .i64 a, .int .i64 b, .int .u64 n, .int .i64 size, .string name, va, vo, .int .i64 tt] 42 (0, 0))
  have s1 := Step.alloc (fun _ => False) w (.cells #[.int .i64 11, .int .i64 dst, .int .i64 a, .int .i64 b, .int .u64 n, .int .i64 size, .string name, va, vo, .int .i64 tt] 42 (0, 0))
  have HT := Lib.hid (show gx < w.heap.size ∧ own w.heap.size = 0 from ⟨HF.out.free.2.2.2, HW.out.fresh0⟩)
  have KB := Lib.hid kb
  have S1 := Lib.hid s1
  clear kb s1
  go_enter Try.func45, Try.ntmps45
  go_upto_region 1 with fail
  clear f0 f3 f6 f7 hpf
  generalize w.alloc (.cells #[.int .i64 11, .int .i64 dst, .int .i64 a, .int .i64 b, .int .u64 n, .int .i64 size, .string name, va, vo, .int .i64 tt] 42 (0, 0)) = w1 at KB S1 ⊢
  generalize htb : w.heap.size = tb at KB HT ⊢
  have HTB := Lib.hid htb
  clear htb
  obtain ⟨b0, b1, b2, b3, b4, b5, b6, b7, b8, b9⟩ := box_facts KB.out _ (Step.refl _ _)
  go_wp2_with fail
  refine (NO.out _).mono ?_
  rintro e w2 ⟨rfl, s2⟩
  have KB2 := s2.keeps KB.out
  have S2 := S1.out.then s2
  have kv := heap_alloc_new w2 (.cells #[.int .u64 0, .int .i64 0, .int .i64 0, .int .i64 0, .int .i64 0] 98 (0, 0))
  have s3 := Step.alloc (fun _ => False) w2 (.cells #[.int .u64 0, .int .i64 0, .int .i64 0, .int .i64 0, .int .i64 0] 98 (0, 0))
  have hz := s2.size
  have hb := lt_obj KB.out
  replace KB := Lib.hid (s3.keeps KB2)
  replace HT := Lib.hid (show gx < tb ∧ own tb = 0 ∧ w.heap.size ≤ w2.heap.size ∧ tb ≠ w2.heap.size from ⟨HT.out.1, HT.out.2, S2.size, by omega⟩)
  replace S1 := Lib.hid (S2.then s3)
  have KV := Lib.hid kv
  clear KB2 S2 kv s2 s3 hz hb b0 b1 b2 b3 b4 b5 b6 b7 b8 b9 NO
  go_upto_region 3 with fail
  generalize w2.alloc (.cells #[.int .u64 0, .int .i64 0, .int .i64 0, .int .i64 0, .int .i64 0] 98 (0, 0)) = w1 at KB KV S1 ⊢
  generalize w2.heap.size = tv at KV HT ⊢
  have FB := Lib.hid (box_facts KB.out)
  obtain ⟨b0, b1, b2, b3, b4, b5, b6, b7, b8, b9⟩ := FB.out _ (Step.refl _ _)
  go_upto_region 18 with fail
  clear b0 b1 b2 b3 b4 b5 b6 b7 b8 b9
  refine wp_region_each 23 planDo18 (fun a b => Step (fun x => x = tv) a b) (Step (fun x => x = tv) w1) (fun x => Step (fun _ => False) w1 x) [Is ?v18_5_0, Is ?v18_5_1, Is ?v18_5_2, Is ?v18_5_3, Is ?v18_5_4, Is ?v18_5_5, Is ?v18_5_6, Is ?v18_5_7, Is ?v18_5_8, Is ?v18_5_9, Is ?v18_5_10, Is ?v18_5_11, Is ?v18_5_12, Is ?v18_5_13, Is ?v18_5_14, Is ?v18_5_15, Is ?v18_5_16, Is ?v18_5_17, Is ?v18_5_18, Is ?v18_5_19, Is ?v18_5_20, Is ?v18_5_21, fun _ _ => True] [fun _ _ => True, fun _ _ => True, fun _ _ => True, fun _ _ => True, fun _ _ => True, fun _ _ => True, fun _ _ => True, fun _ _ => True, fun _ _ => True, fun _ _ => True, fun _ _ => True, fun _ _ => True, fun _ _ => True, fun _ _ => True, fun _ _ => True, fun _ _ => True, fun _ _ => True, fun _ _ => True, fun _ _ => True, fun _ _ => True, fun _ _ => True, fun _ _ => True, fun _ yy => yy.heap[tb]? = some (.cells #[.int .i64 11, .int .i64 dst, .int .i64 a, .int .i64 b, .int .u64 n, .int .i64 size, .string name, va, vo, .int .i64 tt] 42 (0, 0)) ∧ yy.heap[tv]? = some (.cells #[.int .u64 x.num, .int .i64 x.ptr.block, .int .i64 x.ptr.off, .int .i64 x.ptr.low, .int .i64 x.ptr.high] 98 (0, 0)) ∧ Step (fun _ => False) w yy] (by kernel_rfl) (by kernel_rfl) (fun _ _ h => h.size) ((Step.refl _ _).drew) ((Step.refl _ _).drew) ?stab18_5 ?stabD18_5 ?obl18_5 ?fin18_5
  case stab18_5 => exact fun w w' h => ⟨fun k => k.trans h (fun _ x => x.elim), fun k => k.trans h (fun _ x => x.elim), ⟨fun _ k => k, fun _ k => k, fun _ k => k, fun _ k => k, fun _ k => k, fun _ k => k, fun _ k => k, fun _ k => k, fun _ k => k, fun _ k => k, fun _ k => k, fun _ k => k, fun _ k => k, fun _ k => k, fun _ k => k, fun _ k => k, fun _ k => k, fun _ k => k, fun _ k => k, fun _ k => k, fun _ k => k, fun _ k => k, fun _ k => k, trivial⟩, ⟨fun _ k => k, fun _ k => k, fun _ k => k, fun _ k => k, fun _ k => k, fun _ k => k, fun _ k => k, fun _ k => k, fun _ k => k, fun _ k => k, fun _ k => k, fun _ k => k, fun _ k => k, fun _ k => k, fun _ k => k, fun _ k => k, fun _ k => k, fun _ k => k, fun _ k => k, fun _ k => k, fun _ k => k, fun _ k => k, fun _ k => ⟨h.keeps k.1, h.keeps k.2.1, k.2.2.then h⟩, trivial⟩⟩
  case stabD18_5 => exact fun w w' h => ⟨fun k => k.trans h (fun _ x => .inl x), fun _ _ k => k, fun _ _ k => k, fun _ _ k => k, fun _ _ k => k, fun _ _ k => k, fun _ _ k => k, fun _ _ k => k, fun _ _ k => k, fun _ _ k => k, fun _ _ k => k, fun _ _ k => k, fun _ _ k => k, fun _ _ k => k, fun _ _ k => k, fun _ _ k => k, fun _ _ k => k, fun _ _ k => k, fun _ _ k => k, fun _ _ k => k, fun _ _ k => k, fun _ _ k => k, fun _ _ k => k, fun _ _ k => k, trivial⟩
  case obl18_5 =>
    refine ⟨?o18_5_0, ?o18_5_1, ?o18_5_2, ?o18_5_3, ?o18_5_4, ?o18_5_5, ?o18_5_6, ?o18_5_7, ?o18_5_8, ?o18_5_9, ?o18_5_10, ?o18_5_11, ?o18_5_12, ?o18_5_13, ?o18_5_14, ?o18_5_15, ?o18_5_16, ?o18_5_17, ?o18_5_18, ?o18_5_19, ?o18_5_20, ?o18_5_21, ?o18_5_22, trivial⟩
    all_goals intro xv wq hH hS H hU aq ha Q' hQ
    case o18_5_0 => cases rd0 ha; clear H hU hS; go_wp2_with fail; (try refine hQ _ _ ?_); refine ⟨Step.refl _ _, ?_, trivial, nofun⟩; exact (rfl : _ = _)
    case o18_5_1 | o18_5_2 => have ha := rd1 ha H (by kernel_rfl) rfl; simp only [q3, q5, q6, q7] at ha; subst ha; clear H hU hS; go_wp2_with fail; (try refine hQ _ _ ?_); refine ⟨Step.refl _ _, ?_, trivial, nofun⟩; exact (rfl : _ = _)
    case o18_5_3 => (try (have hH := hS (by decide); obtain ⟨f0, f3, f6, f7⟩ := FF.out _ (S1.out.then hH); have m0 := MF.out _ (S1.out.then hH); obtain ⟨c0_a, c1_a, c2_a, c3_a, c4_a, z_a⟩ := FR.out _ (S1.out.then hH) a ok_a; obtain ⟨b0, b1, b2, b3, b4, b5, b6, b7, b8, b9⟩ := FB.out _ hH; obtain ⟨v0, v1, v2, v3, v4, y0, y1, y2, y3, y4⟩ := cells_known5 (hH.keeps KV.out))); have ha := rd1 ha H (by kernel_rfl) rfl; simp only [q3, q5, q6, q7] at ha; subst ha; clear H hU hS; go_wp2_with fail; (try refine hQ _ _ ?_); refine ⟨Step.refl _ _, ?_, trivial, nofun⟩; exact (rfl : _ = _)
    case o18_5_4 | o18_5_5 => have ha := rd1 ha H (by kernel_rfl) rfl; simp only [q3, q5, q6, q7] at ha; subst ha; clear H hU hS; go_wp2_with fail; (try refine hQ _ _ ?_); refine ⟨Step.refl _ _, ?_, trivial, nofun⟩; exact (rfl : _ = _)
    case o18_5_6 => (try (have hH := hS (by decide); obtain ⟨f0, f3, f6, f7⟩ := FF.out _ (S1.out.then hH); have m0 := MF.out _ (S1.out.then hH); obtain ⟨c0_a, c1_a, c2_a, c3_a, c4_a, z_a⟩ := FR.out _ (S1.out.then hH) a ok_a; obtain ⟨b0, b1, b2, b3, b4, b5, b6, b7, b8, b9⟩ := FB.out _ hH; obtain ⟨v0, v1, v2, v3, v4, y0, y1, y2, y3, y4⟩ := cells_known5 (hH.keeps KV.out))); have ha := rd1 ha H (by kernel_rfl) rfl; simp only [q3, q5, q6, q7] at ha; subst ha; clear H hU hS; go_wp2_with fail; (try refine hQ _ _ ?_); refine ⟨Step.refl _ _, ?_, trivial, nofun⟩; exact (rfl : _ = _)
    case o18_5_7 => cases rd0 ha; clear H hU hS; go_wp2_with fail; (try refine hQ _ _ ?_); refine ⟨Step.refl _ _, ?_, trivial, nofun⟩; exact (rfl : _ = _)
    case o18_5_8 | o18_5_9 => have ha := rd1 ha H (by kernel_rfl) rfl; simp only [q3, q5, q6, q7] at ha; subst ha; clear H hU hS; go_wp2_with fail; (try refine hQ _ _ ?_); refine ⟨Step.refl _ _, ?_, trivial, nofun⟩; exact (rfl : _ = _)
    case o18_5_10 => (try (have hH := hS (by decide); obtain ⟨f0, f3, f6, f7⟩ := FF.out _ (S1.out.then hH); have m0 := MF.out _ (S1.out.then hH); obtain ⟨c0_a, c1_a, c2_a, c3_a, c4_a, z_a⟩ := FR.out _ (S1.out.then hH) a ok_a; obtain ⟨b0, b1, b2, b3, b4, b5, b6, b7, b8, b9⟩ := FB.out _ hH; obtain ⟨v0, v1, v2, v3, v4, y0, y1, y2, y3, y4⟩ := cells_known5 (hH.keeps KV.out))); have ha := rd1 ha H (by kernel_rfl) rfl; simp only [q3, q5, q6, q7] at ha; subst ha; clear H hU hS; go_wp2_with fail; (try refine hQ _ _ ?_); refine ⟨Step.refl _ _, ?_, trivial, nofun⟩; exact (rfl : _ = _)
    case o18_5_11 => cases rd0 ha; clear H hU hS; go_wp2_with fail; (try refine hQ _ _ ?_); refine ⟨Step.refl _ _, ?_, trivial, nofun⟩; exact (rfl : _ = _)
    case o18_5_12 => (try (have hH := hS (by decide); obtain ⟨f0, f3, f6, f7⟩ := FF.out _ (S1.out.then hH); have m0 := MF.out _ (S1.out.then hH); obtain ⟨c0_a, c1_a, c2_a, c3_a, c4_a, z_a⟩ := FR.out _ (S1.out.then hH) a ok_a; obtain ⟨b0, b1, b2, b3, b4, b5, b6, b7, b8, b9⟩ := FB.out _ hH; obtain ⟨v0, v1, v2, v3, v4, y0, y1, y2, y3, y4⟩ := cells_known5 (hH.keeps KV.out))); have ha := rd1 ha H (by kernel_rfl) rfl; simp only [q3, q5, q6, q7] at ha; subst ha; clear H hU hS; go_wp2_with fail; (try refine hQ _ _ ?_); refine ⟨Step.refl _ _, ?_, trivial, nofun⟩; exact (rfl : _ = _)
    case o18_5_13 => (try (have hH := hS (by decide); obtain ⟨f0, f3, f6, f7⟩ := FF.out _ (S1.out.then hH); have m0 := MF.out _ (S1.out.then hH); obtain ⟨c0_a, c1_a, c2_a, c3_a, c4_a, z_a⟩ := FR.out _ (S1.out.then hH) a ok_a; obtain ⟨b0, b1, b2, b3, b4, b5, b6, b7, b8, b9⟩ := FB.out _ hH; obtain ⟨v0, v1, v2, v3, v4, y0, y1, y2, y3, y4⟩ := cells_known5 (hH.keeps KV.out))); have ha := rd2 ha H (by kernel_rfl) (by kernel_rfl) rfl rfl; simp only [q3, q5, q6, q7] at ha; subst ha; clear H hU hS; go_wp2_with fail; (try refine hQ _ _ ?_); refine ⟨Step.refl _ _, ?_, trivial, nofun⟩; exact (rfl : _ = _)
    case o18_5_14 => have ha := rd1 ha H (by kernel_rfl) rfl; simp only [q3, q5, q6, q7] at ha; subst ha; clear H hU hS; go_wp2_with fail; (try refine hQ _ _ ?_); refine ⟨Step.refl _ _, ?_, trivial, nofun⟩; exact (rfl : _ = _)
    case o18_5_15 => (try (have hH := hS (by decide); obtain ⟨f0, f3, f6, f7⟩ := FF.out _ (S1.out.then hH); have m0 := MF.out _ (S1.out.then hH); obtain ⟨c0_a, c1_a, c2_a, c3_a, c4_a, z_a⟩ := FR.out _ (S1.out.then hH) a ok_a; obtain ⟨b0, b1, b2, b3, b4, b5, b6, b7, b8, b9⟩ := FB.out _ hH; obtain ⟨v0, v1, v2, v3, v4, y0, y1, y2, y3, y4⟩ := cells_known5 (hH.keeps KV.out))); have ha := rd1 ha H (by kernel_rfl) rfl; simp only [q3, q5, q6, q7] at ha; subst ha; clear H hU hS; go_wp2_with fail; (try refine hQ _ _ ?_); refine ⟨Step.refl _ _, ?_, trivial, nofun⟩; exact (rfl : _ = _)
    case o18_5_16 => cases rd0 ha; clear H hU hS; go_wp2_with fail; (try refine hQ _ _ ?_); refine ⟨Step.refl _ _, ?_, trivial, nofun⟩; exact (rfl : _ = _)
    case o18_5_17 => (try (have hH := hS (by decide); obtain ⟨f0, f3, f6, f7⟩ := FF.out _ (S1.out.then hH); have m0 := MF.out _ (S1.out.then hH); obtain ⟨c0_a, c1_a, c2_a, c3_a, c4_a, z_a⟩ := FR.out _ (S1.out.then hH) a ok_a; obtain ⟨b0, b1, b2, b3, b4, b5, b6, b7, b8, b9⟩ := FB.out _ hH; obtain ⟨v0, v1, v2, v3, v4, y0, y1, y2, y3, y4⟩ := cells_known5 (hH.keeps KV.out))); have ha := rd1 ha H (by kernel_rfl) rfl; simp only [q3, q5, q6, q7] at ha; subst ha; clear H hU hS; go_wp2_with fail; (try refine hQ _ _ ?_); refine ⟨Step.refl _ _, ?_, trivial, nofun⟩; exact (rfl : _ = _)
    case o18_5_18 => (try (have hH := hS (by decide); obtain ⟨f0, f3, f6, f7⟩ := FF.out _ (S1.out.then hH); have m0 := MF.out _ (S1.out.then hH); obtain ⟨c0_a, c1_a, c2_a, c3_a, c4_a, z_a⟩ := FR.out _ (S1.out.then hH) a ok_a; obtain ⟨b0, b1, b2, b3, b4, b5, b6, b7, b8, b9⟩ := FB.out _ hH; obtain ⟨v0, v1, v2, v3, v4, y0, y1, y2, y3, y4⟩ := cells_known5 (hH.keeps KV.out))); have h6 : xv 6 = _ := H 6 (by kernel_rfl); have h15 : xv 15 = _ := H 15 (by kernel_rfl); have h17 : xv 17 = _ := H 17 (by kernel_rfl); change aq = puts _ xv [(6, some 99), (15, some 108), (17, some 110)] at ha; simp only [q1, q2, q3, q5, q6, q7, h6, h15, h17] at ha; subst ha; clear H h6 h15 h17; clear hU hS; go_wp2_with fail; refine (LD.out _ (S1.out.then hH)).mono ?_; rintro e w4 ⟨rfl, s4⟩; go_wp2_with fail; (try refine hQ _ _ ?_); refine ⟨s4, ?_, trivial, nofun⟩; exact (rfl : _ = _)
    case o18_5_19 | o18_5_20 | o18_5_21 => have ha := rd1 ha H (by kernel_rfl) rfl; simp only [q3, q5, q6, q7] at ha; subst ha; clear H hU hS; go_wp2_with fail; (try refine hQ _ _ ?_); refine ⟨Step.refl _ _, ?_, trivial, nofun⟩; exact (rfl : _ = _)
    case o18_5_22 =>
      (try (have hH := hS (by decide); obtain ⟨f0, f3, f6, f7⟩ := FF.out _ (S1.out.then hH); have m0 := MF.out _ (S1.out.then hH); obtain ⟨c0_a, c1_a, c2_a, c3_a, c4_a, z_a⟩ := FR.out _ (S1.out.then hH) a ok_a; obtain ⟨b0, b1, b2, b3, b4, b5, b6, b7, b8, b9⟩ := FB.out _ hH; obtain ⟨v0, v1, v2, v3, v4, y0, y1, y2, y3, y4⟩ := cells_known5 (hH.keeps KV.out))); have h20 : xv 20 = _ := H 20 (by kernel_rfl); change aq = puts _ xv [(20, some 112)] at ha; simp only [q1, q2, q3, q5, q6, q7, h20] at ha; subst ha; clear H h20
      have S3 := Lib.hid (hS (by kernel_rfl))
      clear hU hS hH
      go_wp2_with fail
      (try refine hQ (.bool true) _ ?_)
      refine ⟨set5_step (F := fun x => x = tv) (Step.refl _ _) (.inl rfl) _ _ _ _ _, trivial, ?_, nofun⟩
      obtain ⟨w3, hw3, s3, kb3, kv3⟩ := putV (wb := w) (x) (S1.out.then S3.out) (.inr HT.out.2.2.1) HT.out.2.2.2 (S3.out.keeps KB.out) (S3.out.keeps KV.out)
      rw [hw3] at s3 kb3 kv3
      exact ⟨kb3, kv3, s3⟩
  intro xv w3 hH hS H hU hsz hF hN
  have h0 : xv 0 = _ := H 0 (by decide) (by kernel_rfl); have h1 : xv 1 = _ := H 1 (by decide) (by kernel_rfl); have h2 : xv 2 = _ := H 2 (by decide) (by kernel_rfl); have h3 : xv 3 = _ := H 3 (by decide) (by kernel_rfl); have h4 : xv 4 = _ := H 4 (by decide) (by kernel_rfl); have h5 : xv 5 = _ := H 5 (by decide) (by kernel_rfl); have h6 : xv 6 = _ := H 6 (by decide) (by kernel_rfl); have h7 : xv 7 = _ := H 7 (by decide) (by kernel_rfl); have h8 : xv 8 = _ := H 8 (by decide) (by kernel_rfl); have h9 : xv 9 = _ := H 9 (by decide) (by kernel_rfl); have h10 : xv 10 = _ := H 10 (by decide) (by kernel_rfl); have h11 : xv 11 = _ := H 11 (by decide) (by kernel_rfl); have h12 : xv 12 = _ := H 12 (by decide) (by kernel_rfl); have h13 : xv 13 = _ := H 13 (by decide) (by kernel_rfl); have h14 : xv 14 = _ := H 14 (by decide) (by kernel_rfl); have h15 : xv 15 = _ := H 15 (by decide) (by kernel_rfl); have h16 : xv 16 = _ := H 16 (by decide) (by kernel_rfl); have h17 : xv 17 = _ := H 17 (by decide) (by kernel_rfl); have h18 : xv 18 = _ := H 18 (by decide) (by kernel_rfl); have h19 : xv 19 = _ := H 19 (by decide) (by kernel_rfl); have h20 : xv 20 = _ := H 20 (by decide) (by kernel_rfl); have h21 : xv 21 = _ := H 21 (by decide) (by kernel_rfl)
  simp only [planDo18, q1, q2, q3, q5, q6, q7, q4, List.drop_succ_cons, List.drop_zero, h0, h1, h2, h3, h4, h5, h6, h7, h8, h9, h10, h11, h12, h13, h14, h15, h16, h17, h18, h19, h20, h21]
  have hL := hU 22 (by decide) (by kernel_rfl)
  clear H hF hN hS hU h0 h1 h2 h3 h4 h5 h6 h7 h8 h9 h10 h11 h12 h13 h14 h15 h16 h17 h18 h19 h20 h21
  obtain ⟨kb3, kv3, s3⟩ : w3.heap[tb]? = some (.cells #[.int .i64 11, .int .i64 dst, .int .i64 a, .int .i64 b, .int .u64 n, .int .i64 size, .string name, va, vo, .int .i64 tt] 42 (0, 0)) ∧ w3.heap[tv]? = some (.cells #[.int .u64 x.num, .int .i64 x.ptr.block, .int .i64 x.ptr.off, .int .i64 x.ptr.low, .int .i64 x.ptr.high] 98 (0, 0)) ∧ Step (fun _ => False) w w3 := hL
  have KB3 := Lib.hid kb3
  have KV3 := Lib.hid kv3
  have S3 := Lib.hid s3
  clear kb3 kv3 s3 hH
  clear KB KV FB
  go_wp2_with fail
  refine (right_ok _).mono ?_
  rintro e w6 ⟨rfl, rfl⟩
  obtain ⟨b0, b1, b2, b3, b4, b5, b6, b7, b8, b9⟩ := box_facts KB3.out _ (Step.refl _ _)
  obtain ⟨v0, v1, v2, v3, v4, y0, y1, y2, y3, y4⟩ := cells_known5 KV3.out
  go_wp2_with fail
  refine (AS.out _ S3.out).mono ?_
  rintro e w7 ⟨rfl, s7⟩
  obtain ⟨w8, hw8, s8, kb8, kv8⟩ := putV (wb := w) z (S3.out.then s7) (.inr HT.out.2.2.1) HT.out.2.2.2 (s7.keeps KB3.out) (s7.keeps KV3.out)
  have HW8 := Lib.hid hw8
  have S8 := Lib.hid s8
  have KB8 := Lib.hid kb8
  have KV8 := Lib.hid kv8
  clear b0 b1 b2 b3 b4 b5 b6 b7 b8 b9 v0 v1 v2 v3 v4 y0 y1 y2 y3 y4
  obtain ⟨v0, v1, v2, v3, v4, y0, y1, y2, y3, y4⟩ := cells_known5 (s7.keeps KV3.out)
  clear hw8 s8 kb8 kv8 s7 KB3 KV3 S3
  go_upto_region 27 with fail
  rw [← HW8.out]
  clear HW8 v0 v1 v2 v3 v4 y0 y1 y2 y3 y4
  have FB := Lib.hid (box_facts KB8.out)
  obtain ⟨b0, b1, b2, b3, b4, b5, b6, b7, b8, b9⟩ := FB.out _ (Step.refl _ _)
  have hd0 : decide (0 ≤ dst) = true := decide_eq_true ok_dst.1
  go_upto_region 28 with fail
  clear b0 b1 b2 b3 b4 b5 b6 b7 b8 b9
  refine wp_region_each 7 planDd28 (fun _ _ => False) (Step (fun _ => False) w8) (fun _ => True) [Is ?v28_6_0, Is ?v28_6_1, Is ?v28_6_2, Is ?v28_6_3, Is ?v28_6_4, Is ?v28_6_5, Is ?v28_6_6] [] (by kernel_rfl) (by kernel_rfl) (fun _ _ h => h.elim) ((Step.refl _ _).drew) (trivial) ?stab28_6 ?stabD28_6 ?obl28_6 ?fin28_6
  case stab28_6 => exact fun w w' h => ⟨fun k => k.trans h (fun _ x => x.elim), fun _ => trivial, ⟨fun _ k => k, fun _ k => k, fun _ k => k, fun _ k => k, fun _ k => k, fun _ k => k, fun _ k => k, trivial⟩, trivial⟩
  case stabD28_6 => exact fun _ _ h => h.elim
  case obl28_6 =>
    refine ⟨?o28_6_0, ?o28_6_1, ?o28_6_2, ?o28_6_3, ?o28_6_4, ?o28_6_5, ?o28_6_6, trivial⟩
    all_goals intro xv wq hH hS H hU aq ha Q' hQ
    case o28_6_0 => cases rd0 ha; clear H hU hS; go_wp2_with fail; (try refine hQ _ _ ?_); refine ⟨Step.refl _ _, ?_, trivial, nofun⟩; exact (rfl : _ = _)
    case o28_6_1 | o28_6_2 => have ha := rd1 ha H (by kernel_rfl) rfl; simp only [q3, q5, q6, q7] at ha; subst ha; clear H hU hS; go_wp2_with fail; (try refine hQ _ _ ?_); refine ⟨Step.refl _ _, ?_, trivial, nofun⟩; exact (rfl : _ = _)
    case o28_6_3 => obtain ⟨f0, f3, f6, f7⟩ := FF.out _ (S8.out.then hH); obtain ⟨b0, b1, b2, b3, b4, b5, b6, b7, b8, b9⟩ := FB.out _ hH; obtain ⟨v0, v1, v2, v3, v4, y0, y1, y2, y3, y4⟩ := cells_known5 (hH.keeps KV8.out); have ha := rd1 ha H (by kernel_rfl) rfl; simp only [q3, q5, q6, q7] at ha; subst ha; clear H hU hS; go_wp2_with fail; (try refine hQ _ _ ?_); refine ⟨Step.refl _ _, ?_, trivial, nofun⟩; exact (rfl : _ = _)
    case o28_6_4 => cases rd0 ha; clear H hU hS; go_wp2_with fail; (try refine hQ _ _ ?_); refine ⟨Step.refl _ _, ?_, trivial, nofun⟩; exact (rfl : _ = _)
    case o28_6_5 => obtain ⟨f0, f3, f6, f7⟩ := FF.out _ (S8.out.then hH); obtain ⟨b0, b1, b2, b3, b4, b5, b6, b7, b8, b9⟩ := FB.out _ hH; obtain ⟨v0, v1, v2, v3, v4, y0, y1, y2, y3, y4⟩ := cells_known5 (hH.keeps KV8.out); have ha := rd1 ha H (by kernel_rfl) rfl; simp only [q3, q5, q6, q7] at ha; subst ha; clear H hU hS; go_wp2_with fail; (try refine hQ _ _ ?_); refine ⟨Step.refl _ _, ?_, trivial, nofun⟩; exact (rfl : _ = _)
    case o28_6_6 => obtain ⟨f0, f3, f6, f7⟩ := FF.out _ (S8.out.then hH); obtain ⟨b0, b1, b2, b3, b4, b5, b6, b7, b8, b9⟩ := FB.out _ hH; obtain ⟨v0, v1, v2, v3, v4, y0, y1, y2, y3, y4⟩ := cells_known5 (hH.keeps KV8.out); cases rd0 ha; clear H hU hS; go_wp2_with fail; (try refine hQ _ _ ?_); refine ⟨Step.refl _ _, ?_, trivial, nofun⟩; exact (rfl : _ = _)
  intro xv w9 hH hS H hU hsz hF hN
  have h0 : xv 0 = _ := H 0 (by decide) (by kernel_rfl); have h1 : xv 1 = _ := H 1 (by decide) (by kernel_rfl); have h2 : xv 2 = _ := H 2 (by decide) (by kernel_rfl); have h3 : xv 3 = _ := H 3 (by decide) (by kernel_rfl); have h4 : xv 4 = _ := H 4 (by decide) (by kernel_rfl); have h5 : xv 5 = _ := H 5 (by decide) (by kernel_rfl); have h6 : xv 6 = _ := H 6 (by decide) (by kernel_rfl)
  simp only [planDd28, q1, q2, q3, q5, q6, q7, q4, List.drop_succ_cons, List.drop_zero, h0, h1, h2, h3, h4, h5, h6]
  clear H hF hN hS hU h0 h1 h2 h3 h4 h5 h6
  have S9 := Lib.hid (S8.out.then hH)
  obtain ⟨f0, f3, f6, f7⟩ := FF.out _ S9.out
  obtain ⟨c0_dst, c1_dst, c2_dst, c3_dst, c4_dst, z_dst⟩ := FR.out _ S9.out dst ok_dst
  clear hH
  go_wp2_with fail
  go_end0
  exact ⟨rfl, went_set (HW.out.still S9.out) (HF.out.still S9.out) ((Chg.calm own S9.out).g gx) HL.out rfl (by omega) (z)⟩
set_option maxHeartbeats 4000000 in
set_option maxRecDepth 100000 in
theorem do_11no (hW : MWAt w0 w pw own fnv tops st c) (hF : MFr w own pf pw gx vn vp vk vs vc vr vl regs slots) (hl : w0.heap.size ≤ gx) {v : Value} {i : FIns} (hi : InsAt w0 v i) (ho : i.op = 11) (ok_a : ok1 regs i.a) {kinds : List Int} (hk : IntsAt .i64 w0 vk kinds) (hkl : regs.length = kinds.length) (hs : i.size = 1 ∨ i.size = 4 ∨ i.size = 8) (hx : i64B (rgV regs i.a).ptr.block ∧ i64B (rgV regs i.a).ptr.off ∧ i64B (rgV regs i.a).ptr.high) (he : (errP st (rgV regs i.a).ptr i.size != 0) = true) :
    Calls Try.prog 45 #[.pointer (some ⟨pf, 0, none⟩), v] w (fun e w' => Fell w0 w pw own fnv tops gx 5 0 (errP st (rgV regs i.a).ptr i.size) st c e w') := by
  have NO := Lib.hid (fun y => ptr_none hi (.pointer (some ⟨pf, 0, none⟩)) y (by rw [ho]; rfl) (by rw [ho]; rfl) (by rw [ho]; rfl) (by rw [ho]; rfl) (by rw [ho]; rfl) (by rw [ho]; rfl))
  obtain ⟨va, vo, rfl, iargs, iouts⟩ := hi
  obtain ⟨op, dst, a, b, n, size, name, args, outs, tt⟩ := i
  simp only at *
  subst ho
  obtain ⟨rcap, rfl⟩ := regs_slice hF (by unfold ok1 at ok_a; omega)
  have HW := Lib.hid hW
  have HF := Lib.hid hF
  have HL := Lib.hid hl
  have FF := Lib.hid (frame_facts hF)
  have FR := Lib.hid (reg_facts hF)
  unfold ok1 at ok_a
  obtain ⟨ph, bt, bf, vin, vout, P⟩ := HW.out
  have PP := Lib.hid P
  have MF := Lib.hid (show ∀ y, Step (fun _ => False) w y → y.cell? ⟨pw, 0, none⟩ = some (.pointer (some ⟨ph, 0, none⟩)) from fun y hy => cell_known (hy.keeps P.struct) rfl)
  have HKK := Lib.hid hk
  have hlen := hkl
  unfold i64B at hx
  obtain ⟨⟨hx0, hx1⟩, ⟨hx2, hx3⟩, ⟨hx4, hx5⟩⟩ := hx
  obtain ⟨er, her⟩ : ∃ er, errP st (rgV regs a).ptr size = er := ⟨_, rfl⟩
  rw [her] at he ⊢
  have LD := Lib.hid (show ∀ y, Step (fun _ => False) w y → Calls Try.prog 64 #[.pointer (some ⟨ph, 0, none⟩), .agg #[.int .i64 (rgV regs a).ptr.block, .int .i64 (rgV regs a).ptr.off, .int .i64 (rgV regs a).ptr.low, .int .i64 (rgV regs a).ptr.high], .int .i64 size] y fun e w' => e = .returned (.tuple #[.agg #[.int .u64 0, .int .i64 0, .int .i64 0, .int .i64 0, .int .i64 0], .int .i64 er]) ∧ Step (fun _ => False) y w' from fun y hy => by
    have h := load_any ph (rgV regs a).ptr.block (rgV regs a).ptr.off (rgV regs a).ptr.low (rgV regs a).ptr.high size st.blks st.at_ c _ y (P.still hy).heap P.lens.1 hx0 hx1 hx2 hx3 hx4 hx5
    unfold errP at her
    rw [her, if_neg (by simpa using he)] at h
    exact h)
  clear P her hk
  clear hW hF hl
  obtain ⟨f0, f3, f6, f7⟩ := FF.out _ (Step.refl _ _)
  have hpf := block_lt f6
  simp only at hpf
  have kb := heap_alloc_new w (.cells #[.int .i64 11, .int .i64 dst, .int .i64 a, .int .i64 b, .int .u64 n, .int .i64 size, .string name, va, vo, .int .i64 tt] 42 (0, 0))
  have s1 := Step.alloc (fun _ => False) w (.cells #[.int .i64 11, .int .i64 dst, .int .i64 a, .int .i64 b, .int .u64 n, .int .i64 size, .string name, va, vo, .int .i64 tt] 42 (0, 0))
  have HT := Lib.hid (show gx < w.heap.size ∧ own w.heap.size = 0 from ⟨HF.out.free.2.2.2, HW.out.fresh0⟩)
  have KB := Lib.hid kb
  have S1 := Lib.hid s1
  clear kb s1
  go_enter Try.func45, Try.ntmps45
  go_upto_region 1 with fail
  clear f0 f3 f6 f7 hpf
  generalize w.alloc (.cells #[.int .i64 11, .int .i64 dst, .int .i64 a, .int .i64 b, .int .u64 n, .int .i64 size, .string name, va, vo, .int .i64 tt] 42 (0, 0)) = w1 at KB S1 ⊢
  generalize htb : w.heap.size = tb at KB HT ⊢
  have HTB := Lib.hid htb
  clear htb
  obtain ⟨b0, b1, b2, b3, b4, b5, b6, b7, b8, b9⟩ := box_facts KB.out _ (Step.refl _ _)
  go_wp2_with fail
  refine (NO.out _).mono ?_
  rintro e w2 ⟨rfl, s2⟩
  have KB2 := s2.keeps KB.out
  have S2 := S1.out.then s2
  have kv := heap_alloc_new w2 (.cells #[.int .u64 0, .int .i64 0, .int .i64 0, .int .i64 0, .int .i64 0] 98 (0, 0))
  have s3 := Step.alloc (fun _ => False) w2 (.cells #[.int .u64 0, .int .i64 0, .int .i64 0, .int .i64 0, .int .i64 0] 98 (0, 0))
  have hz := s2.size
  have hb := lt_obj KB.out
  replace KB := Lib.hid (s3.keeps KB2)
  replace HT := Lib.hid (show gx < tb ∧ own tb = 0 ∧ w.heap.size ≤ w2.heap.size ∧ tb ≠ w2.heap.size from ⟨HT.out.1, HT.out.2, S2.size, by omega⟩)
  replace S1 := Lib.hid (S2.then s3)
  have KV := Lib.hid kv
  clear KB2 S2 kv s2 s3 hz hb b0 b1 b2 b3 b4 b5 b6 b7 b8 b9 NO
  go_upto_region 3 with fail
  generalize w2.alloc (.cells #[.int .u64 0, .int .i64 0, .int .i64 0, .int .i64 0, .int .i64 0] 98 (0, 0)) = w1 at KB KV S1 ⊢
  generalize w2.heap.size = tv at KV HT ⊢
  have FB := Lib.hid (box_facts KB.out)
  obtain ⟨b0, b1, b2, b3, b4, b5, b6, b7, b8, b9⟩ := FB.out _ (Step.refl _ _)
  go_upto_region 18 with fail
  clear b0 b1 b2 b3 b4 b5 b6 b7 b8 b9
  refine wp_region_each 23 planDo18 (fun a b => Step (fun x => x = tv) a b) (Step (fun x => x = tv) w1) (fun x => Step (fun _ => False) w1 x) [Is ?v18_7_0, Is ?v18_7_1, Is ?v18_7_2, Is ?v18_7_3, Is ?v18_7_4, Is ?v18_7_5, Is ?v18_7_6, Is ?v18_7_7, Is ?v18_7_8, Is ?v18_7_9, Is ?v18_7_10, Is ?v18_7_11, Is ?v18_7_12, Is ?v18_7_13, Is ?v18_7_14, Is ?v18_7_15, Is ?v18_7_16, Is ?v18_7_17, Is ?v18_7_18, Is ?v18_7_19, Is ?v18_7_20, Is ?v18_7_21, fun _ _ => True] [fun _ _ => True, fun _ _ => True, fun _ _ => True, fun _ _ => True, fun _ _ => True, fun _ _ => True, fun _ _ => True, fun _ _ => True, fun _ _ => True, fun _ _ => True, fun _ _ => True, fun _ _ => True, fun _ _ => True, fun _ _ => True, fun _ _ => True, fun _ _ => True, fun _ _ => True, fun _ _ => True, fun _ _ => True, fun _ _ => True, fun _ _ => True, fun _ _ => True, fun _ yy => yy.heap[tb]? = some (.cells #[.int .i64 11, .int .i64 dst, .int .i64 a, .int .i64 b, .int .u64 n, .int .i64 size, .string name, va, vo, .int .i64 tt] 42 (0, 0)) ∧ yy.heap[tv]? = some (.cells #[.int .u64 0, .int .i64 0, .int .i64 0, .int .i64 0, .int .i64 0] 98 (0, 0)) ∧ Step (fun _ => False) w yy] (by kernel_rfl) (by kernel_rfl) (fun _ _ h => h.size) ((Step.refl _ _).drew) ((Step.refl _ _).drew) ?stab18_7 ?stabD18_7 ?obl18_7 ?fin18_7
  case stab18_7 => exact fun w w' h => ⟨fun k => k.trans h (fun _ x => x.elim), fun k => k.trans h (fun _ x => x.elim), ⟨fun _ k => k, fun _ k => k, fun _ k => k, fun _ k => k, fun _ k => k, fun _ k => k, fun _ k => k, fun _ k => k, fun _ k => k, fun _ k => k, fun _ k => k, fun _ k => k, fun _ k => k, fun _ k => k, fun _ k => k, fun _ k => k, fun _ k => k, fun _ k => k, fun _ k => k, fun _ k => k, fun _ k => k, fun _ k => k, fun _ k => k, trivial⟩, ⟨fun _ k => k, fun _ k => k, fun _ k => k, fun _ k => k, fun _ k => k, fun _ k => k, fun _ k => k, fun _ k => k, fun _ k => k, fun _ k => k, fun _ k => k, fun _ k => k, fun _ k => k, fun _ k => k, fun _ k => k, fun _ k => k, fun _ k => k, fun _ k => k, fun _ k => k, fun _ k => k, fun _ k => k, fun _ k => k, fun _ k => ⟨h.keeps k.1, h.keeps k.2.1, k.2.2.then h⟩, trivial⟩⟩
  case stabD18_7 => exact fun w w' h => ⟨fun k => k.trans h (fun _ x => .inl x), fun _ _ k => k, fun _ _ k => k, fun _ _ k => k, fun _ _ k => k, fun _ _ k => k, fun _ _ k => k, fun _ _ k => k, fun _ _ k => k, fun _ _ k => k, fun _ _ k => k, fun _ _ k => k, fun _ _ k => k, fun _ _ k => k, fun _ _ k => k, fun _ _ k => k, fun _ _ k => k, fun _ _ k => k, fun _ _ k => k, fun _ _ k => k, fun _ _ k => k, fun _ _ k => k, fun _ _ k => k, fun _ _ k => k, trivial⟩
  case obl18_7 =>
    refine ⟨?o18_7_0, ?o18_7_1, ?o18_7_2, ?o18_7_3, ?o18_7_4, ?o18_7_5, ?o18_7_6, ?o18_7_7, ?o18_7_8, ?o18_7_9, ?o18_7_10, ?o18_7_11, ?o18_7_12, ?o18_7_13, ?o18_7_14, ?o18_7_15, ?o18_7_16, ?o18_7_17, ?o18_7_18, ?o18_7_19, ?o18_7_20, ?o18_7_21, ?o18_7_22, trivial⟩
    all_goals intro xv wq hH hS H hU aq ha Q' hQ
    case o18_7_0 => cases rd0 ha; clear H hU hS; go_wp2_with fail; (try refine hQ _ _ ?_); refine ⟨Step.refl _ _, ?_, trivial, nofun⟩; exact (rfl : _ = _)
    case o18_7_1 | o18_7_2 => have ha := rd1 ha H (by kernel_rfl) rfl; simp only [q3, q5, q6, q7] at ha; subst ha; clear H hU hS; go_wp2_with fail; (try refine hQ _ _ ?_); refine ⟨Step.refl _ _, ?_, trivial, nofun⟩; exact (rfl : _ = _)
    case o18_7_3 => (try (have hH := hS (by decide); obtain ⟨f0, f3, f6, f7⟩ := FF.out _ (S1.out.then hH); have m0 := MF.out _ (S1.out.then hH); obtain ⟨c0_a, c1_a, c2_a, c3_a, c4_a, z_a⟩ := FR.out _ (S1.out.then hH) a ok_a; obtain ⟨b0, b1, b2, b3, b4, b5, b6, b7, b8, b9⟩ := FB.out _ hH; obtain ⟨v0, v1, v2, v3, v4, y0, y1, y2, y3, y4⟩ := cells_known5 (hH.keeps KV.out))); have ha := rd1 ha H (by kernel_rfl) rfl; simp only [q3, q5, q6, q7] at ha; subst ha; clear H hU hS; go_wp2_with fail; (try refine hQ _ _ ?_); refine ⟨Step.refl _ _, ?_, trivial, nofun⟩; exact (rfl : _ = _)
    case o18_7_4 | o18_7_5 => have ha := rd1 ha H (by kernel_rfl) rfl; simp only [q3, q5, q6, q7] at ha; subst ha; clear H hU hS; go_wp2_with fail; (try refine hQ _ _ ?_); refine ⟨Step.refl _ _, ?_, trivial, nofun⟩; exact (rfl : _ = _)
    case o18_7_6 => (try (have hH := hS (by decide); obtain ⟨f0, f3, f6, f7⟩ := FF.out _ (S1.out.then hH); have m0 := MF.out _ (S1.out.then hH); obtain ⟨c0_a, c1_a, c2_a, c3_a, c4_a, z_a⟩ := FR.out _ (S1.out.then hH) a ok_a; obtain ⟨b0, b1, b2, b3, b4, b5, b6, b7, b8, b9⟩ := FB.out _ hH; obtain ⟨v0, v1, v2, v3, v4, y0, y1, y2, y3, y4⟩ := cells_known5 (hH.keeps KV.out))); have ha := rd1 ha H (by kernel_rfl) rfl; simp only [q3, q5, q6, q7] at ha; subst ha; clear H hU hS; go_wp2_with fail; (try refine hQ _ _ ?_); refine ⟨Step.refl _ _, ?_, trivial, nofun⟩; exact (rfl : _ = _)
    case o18_7_7 => cases rd0 ha; clear H hU hS; go_wp2_with fail; (try refine hQ _ _ ?_); refine ⟨Step.refl _ _, ?_, trivial, nofun⟩; exact (rfl : _ = _)
    case o18_7_8 | o18_7_9 => have ha := rd1 ha H (by kernel_rfl) rfl; simp only [q3, q5, q6, q7] at ha; subst ha; clear H hU hS; go_wp2_with fail; (try refine hQ _ _ ?_); refine ⟨Step.refl _ _, ?_, trivial, nofun⟩; exact (rfl : _ = _)
    case o18_7_10 => (try (have hH := hS (by decide); obtain ⟨f0, f3, f6, f7⟩ := FF.out _ (S1.out.then hH); have m0 := MF.out _ (S1.out.then hH); obtain ⟨c0_a, c1_a, c2_a, c3_a, c4_a, z_a⟩ := FR.out _ (S1.out.then hH) a ok_a; obtain ⟨b0, b1, b2, b3, b4, b5, b6, b7, b8, b9⟩ := FB.out _ hH; obtain ⟨v0, v1, v2, v3, v4, y0, y1, y2, y3, y4⟩ := cells_known5 (hH.keeps KV.out))); have ha := rd1 ha H (by kernel_rfl) rfl; simp only [q3, q5, q6, q7] at ha; subst ha; clear H hU hS; go_wp2_with fail; (try refine hQ _ _ ?_); refine ⟨Step.refl _ _, ?_, trivial, nofun⟩; exact (rfl : _ = _)
    case o18_7_11 => cases rd0 ha; clear H hU hS; go_wp2_with fail; (try refine hQ _ _ ?_); refine ⟨Step.refl _ _, ?_, trivial, nofun⟩; exact (rfl : _ = _)
    case o18_7_12 => (try (have hH := hS (by decide); obtain ⟨f0, f3, f6, f7⟩ := FF.out _ (S1.out.then hH); have m0 := MF.out _ (S1.out.then hH); obtain ⟨c0_a, c1_a, c2_a, c3_a, c4_a, z_a⟩ := FR.out _ (S1.out.then hH) a ok_a; obtain ⟨b0, b1, b2, b3, b4, b5, b6, b7, b8, b9⟩ := FB.out _ hH; obtain ⟨v0, v1, v2, v3, v4, y0, y1, y2, y3, y4⟩ := cells_known5 (hH.keeps KV.out))); have ha := rd1 ha H (by kernel_rfl) rfl; simp only [q3, q5, q6, q7] at ha; subst ha; clear H hU hS; go_wp2_with fail; (try refine hQ _ _ ?_); refine ⟨Step.refl _ _, ?_, trivial, nofun⟩; exact (rfl : _ = _)
    case o18_7_13 => (try (have hH := hS (by decide); obtain ⟨f0, f3, f6, f7⟩ := FF.out _ (S1.out.then hH); have m0 := MF.out _ (S1.out.then hH); obtain ⟨c0_a, c1_a, c2_a, c3_a, c4_a, z_a⟩ := FR.out _ (S1.out.then hH) a ok_a; obtain ⟨b0, b1, b2, b3, b4, b5, b6, b7, b8, b9⟩ := FB.out _ hH; obtain ⟨v0, v1, v2, v3, v4, y0, y1, y2, y3, y4⟩ := cells_known5 (hH.keeps KV.out))); have ha := rd2 ha H (by kernel_rfl) (by kernel_rfl) rfl rfl; simp only [q3, q5, q6, q7] at ha; subst ha; clear H hU hS; go_wp2_with fail; (try refine hQ _ _ ?_); refine ⟨Step.refl _ _, ?_, trivial, nofun⟩; exact (rfl : _ = _)
    case o18_7_14 => have ha := rd1 ha H (by kernel_rfl) rfl; simp only [q3, q5, q6, q7] at ha; subst ha; clear H hU hS; go_wp2_with fail; (try refine hQ _ _ ?_); refine ⟨Step.refl _ _, ?_, trivial, nofun⟩; exact (rfl : _ = _)
    case o18_7_15 => (try (have hH := hS (by decide); obtain ⟨f0, f3, f6, f7⟩ := FF.out _ (S1.out.then hH); have m0 := MF.out _ (S1.out.then hH); obtain ⟨c0_a, c1_a, c2_a, c3_a, c4_a, z_a⟩ := FR.out _ (S1.out.then hH) a ok_a; obtain ⟨b0, b1, b2, b3, b4, b5, b6, b7, b8, b9⟩ := FB.out _ hH; obtain ⟨v0, v1, v2, v3, v4, y0, y1, y2, y3, y4⟩ := cells_known5 (hH.keeps KV.out))); have ha := rd1 ha H (by kernel_rfl) rfl; simp only [q3, q5, q6, q7] at ha; subst ha; clear H hU hS; go_wp2_with fail; (try refine hQ _ _ ?_); refine ⟨Step.refl _ _, ?_, trivial, nofun⟩; exact (rfl : _ = _)
    case o18_7_16 => cases rd0 ha; clear H hU hS; go_wp2_with fail; (try refine hQ _ _ ?_); refine ⟨Step.refl _ _, ?_, trivial, nofun⟩; exact (rfl : _ = _)
    case o18_7_17 => (try (have hH := hS (by decide); obtain ⟨f0, f3, f6, f7⟩ := FF.out _ (S1.out.then hH); have m0 := MF.out _ (S1.out.then hH); obtain ⟨c0_a, c1_a, c2_a, c3_a, c4_a, z_a⟩ := FR.out _ (S1.out.then hH) a ok_a; obtain ⟨b0, b1, b2, b3, b4, b5, b6, b7, b8, b9⟩ := FB.out _ hH; obtain ⟨v0, v1, v2, v3, v4, y0, y1, y2, y3, y4⟩ := cells_known5 (hH.keeps KV.out))); have ha := rd1 ha H (by kernel_rfl) rfl; simp only [q3, q5, q6, q7] at ha; subst ha; clear H hU hS; go_wp2_with fail; (try refine hQ _ _ ?_); refine ⟨Step.refl _ _, ?_, trivial, nofun⟩; exact (rfl : _ = _)
    case o18_7_18 => (try (have hH := hS (by decide); obtain ⟨f0, f3, f6, f7⟩ := FF.out _ (S1.out.then hH); have m0 := MF.out _ (S1.out.then hH); obtain ⟨c0_a, c1_a, c2_a, c3_a, c4_a, z_a⟩ := FR.out _ (S1.out.then hH) a ok_a; obtain ⟨b0, b1, b2, b3, b4, b5, b6, b7, b8, b9⟩ := FB.out _ hH; obtain ⟨v0, v1, v2, v3, v4, y0, y1, y2, y3, y4⟩ := cells_known5 (hH.keeps KV.out))); have h6 : xv 6 = _ := H 6 (by kernel_rfl); have h15 : xv 15 = _ := H 15 (by kernel_rfl); have h17 : xv 17 = _ := H 17 (by kernel_rfl); change aq = puts _ xv [(6, some 99), (15, some 108), (17, some 110)] at ha; simp only [q1, q2, q3, q5, q6, q7, h6, h15, h17] at ha; subst ha; clear H h6 h15 h17; clear hU hS; go_wp2_with fail; refine (LD.out _ (S1.out.then hH)).mono ?_; rintro e w4 ⟨rfl, s4⟩; go_wp2_with fail; (try refine hQ _ _ ?_); refine ⟨s4, ?_, trivial, nofun⟩; exact (rfl : _ = _)
    case o18_7_19 | o18_7_20 | o18_7_21 => have ha := rd1 ha H (by kernel_rfl) rfl; simp only [q3, q5, q6, q7] at ha; subst ha; clear H hU hS; go_wp2_with fail; (try refine hQ _ _ ?_); refine ⟨Step.refl _ _, ?_, trivial, nofun⟩; exact (rfl : _ = _)
    case o18_7_22 =>
      (try (have hH := hS (by decide); obtain ⟨f0, f3, f6, f7⟩ := FF.out _ (S1.out.then hH); have m0 := MF.out _ (S1.out.then hH); obtain ⟨c0_a, c1_a, c2_a, c3_a, c4_a, z_a⟩ := FR.out _ (S1.out.then hH) a ok_a; obtain ⟨b0, b1, b2, b3, b4, b5, b6, b7, b8, b9⟩ := FB.out _ hH; obtain ⟨v0, v1, v2, v3, v4, y0, y1, y2, y3, y4⟩ := cells_known5 (hH.keeps KV.out))); have h20 : xv 20 = _ := H 20 (by kernel_rfl); change aq = puts _ xv [(20, some 112)] at ha; simp only [q1, q2, q3, q5, q6, q7, h20] at ha; subst ha; clear H h20
      have S3 := Lib.hid (hS (by kernel_rfl))
      clear hU hS hH
      go_wp2_with fail
      (try refine hQ (.bool true) _ ?_)
      refine ⟨set5_step (F := fun x => x = tv) (Step.refl _ _) (.inl rfl) _ _ _ _ _, trivial, ?_, nofun⟩
      obtain ⟨w3, hw3, s3, kb3, kv3⟩ := putV (wb := w) (HV.zero) (S1.out.then S3.out) (.inr HT.out.2.2.1) HT.out.2.2.2 (S3.out.keeps KB.out) (S3.out.keeps KV.out)
      rw [hw3] at s3 kb3 kv3
      exact ⟨kb3, kv3, s3⟩
  intro xv w3 hH hS H hU hsz hF hN
  have h0 : xv 0 = _ := H 0 (by decide) (by kernel_rfl); have h1 : xv 1 = _ := H 1 (by decide) (by kernel_rfl); have h2 : xv 2 = _ := H 2 (by decide) (by kernel_rfl); have h3 : xv 3 = _ := H 3 (by decide) (by kernel_rfl); have h4 : xv 4 = _ := H 4 (by decide) (by kernel_rfl); have h5 : xv 5 = _ := H 5 (by decide) (by kernel_rfl); have h6 : xv 6 = _ := H 6 (by decide) (by kernel_rfl); have h7 : xv 7 = _ := H 7 (by decide) (by kernel_rfl); have h8 : xv 8 = _ := H 8 (by decide) (by kernel_rfl); have h9 : xv 9 = _ := H 9 (by decide) (by kernel_rfl); have h10 : xv 10 = _ := H 10 (by decide) (by kernel_rfl); have h11 : xv 11 = _ := H 11 (by decide) (by kernel_rfl); have h12 : xv 12 = _ := H 12 (by decide) (by kernel_rfl); have h13 : xv 13 = _ := H 13 (by decide) (by kernel_rfl); have h14 : xv 14 = _ := H 14 (by decide) (by kernel_rfl); have h15 : xv 15 = _ := H 15 (by decide) (by kernel_rfl); have h16 : xv 16 = _ := H 16 (by decide) (by kernel_rfl); have h17 : xv 17 = _ := H 17 (by decide) (by kernel_rfl); have h18 : xv 18 = _ := H 18 (by decide) (by kernel_rfl); have h19 : xv 19 = _ := H 19 (by decide) (by kernel_rfl); have h20 : xv 20 = _ := H 20 (by decide) (by kernel_rfl); have h21 : xv 21 = _ := H 21 (by decide) (by kernel_rfl)
  simp only [planDo18, q1, q2, q3, q5, q6, q7, q4, List.drop_succ_cons, List.drop_zero, h0, h1, h2, h3, h4, h5, h6, h7, h8, h9, h10, h11, h12, h13, h14, h15, h16, h17, h18, h19, h20, h21]
  have hL := hU 22 (by decide) (by kernel_rfl)
  clear H hF hN hS hU h0 h1 h2 h3 h4 h5 h6 h7 h8 h9 h10 h11 h12 h13 h14 h15 h16 h17 h18 h19 h20 h21
  obtain ⟨kb3, kv3, s3⟩ : w3.heap[tb]? = some (.cells #[.int .i64 11, .int .i64 dst, .int .i64 a, .int .i64 b, .int .u64 n, .int .i64 size, .string name, va, vo, .int .i64 tt] 42 (0, 0)) ∧ w3.heap[tv]? = some (.cells #[.int .u64 0, .int .i64 0, .int .i64 0, .int .i64 0, .int .i64 0] 98 (0, 0)) ∧ Step (fun _ => False) w w3 := hL
  have KB3 := Lib.hid kb3
  have KV3 := Lib.hid kv3
  have S3 := Lib.hid s3
  clear kb3 kv3 s3 hH
  clear KB KV FB
  go_wp2_with fail
  refine (right_no he _).mono ?_
  rintro e w6 ⟨rfl, rfl⟩
  exact ⟨rfl, rfl, own, (Chg.calm own S3.out).g gx, HW.out.still S3.out⟩
end
end Go.Proofs.Ytojfgdoniajmeaa
