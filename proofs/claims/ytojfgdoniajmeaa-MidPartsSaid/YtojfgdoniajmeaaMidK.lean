/- Package mid: a call, as an instruction. -/
import Derived.Test.YtojfgdoniajmeaaMidJ
namespace Go.Proofs.Ytojfgdoniajmeaa
set_option linter.unusedVariables false
set_option linter.unusedSimpArgs false
open Go.RowKit

section
variable {w0 w w' w1 w2 : World} {pf pw gx : Nat} {own own' own'' : Nat → Nat} {vn vp vk vs vc vr vl : Value} {regs : List HV} {slots : List HP} {fnv : List UInt8 → Option Value} {tops : List UInt8 → Option HP} {st : MSt} {c : Nat}
def planDo28k : Plan where
  T := [[], [0], [0, 1], [0, 1, 2], [], [4], [], [0, 1, 2, 3, 4, 5, 6], [0, 1, 2, 3, 4, 5, 6, 7]]
  rd := [[], [(0, some 168)], [(1, some 169)], [(2, some 170)], [], [(4, some 172)], []]
  all := [(6, some 174), (5, some 173), (4, some 172), (3, some 171), (2, some 170), (1, some 169), (0, some 168)]
  calm := [true, true, true, true, true, true, true]
  hard := []
  fresh := [false, false, false, false, false, false, false]

set_option maxHeartbeats 4000000 in
set_option maxRecDepth 100000 in
theorem do_16r (hW : MWAt w0 w pw own fnv tops st c) (hF : MFr w own pf pw gx vn vp vk vs vc vr vl regs slots) (hl : w0.heap.size ≤ gx) {v : Value} {i : FIns} (hi : InsAt w0 v i) (ho : i.op = 16) (ok_dst : ok1 regs i.dst) {st' : MSt} {xr : HV} (hAP : ∀ y, Step (fun _ => False) w y → Calls Try.prog 67 #[.pointer (some ⟨pf, 0, none⟩), v] y (CallPost w0 y pw own fnv tops (.ret st' xr))) :
    Calls Try.prog 45 #[.pointer (some ⟨pf, 0, none⟩), v] w (fun e w' => e = .returned (.tuple #[]) ∧ ∃ c' : Nat, (c' : Int) ≤ 4000 + 2000 * st'.steps ∧ Went w0 w pw own fnv tops pf gx vn vp vk vs vc vr vl slots st' c' (regs.set i.dst.toNat xr) w') := by
  have NO := Lib.hid (fun y => ptr_none hi (.pointer (some ⟨pf, 0, none⟩)) y (by rw [ho]; rfl) (by rw [ho]; rfl) (by rw [ho]; rfl) (by rw [ho]; rfl) (by rw [ho]; rfl) (by rw [ho]; rfl))
  obtain ⟨va, vo, rfl, iargs, iouts⟩ := hi
  obtain ⟨op, dst, a, b, n, size, name, args, outs, tt⟩ := i
  simp only at *
  subst ho
  obtain ⟨rcap, rfl⟩ := regs_slice hF (by unfold ok1 at ok_dst; omega)
  have HW := Lib.hid hW
  have HF := Lib.hid hF
  have HL := Lib.hid hl
  have FF := Lib.hid (frame_facts hF)
  have FR := Lib.hid (reg_facts hF)
  unfold ok1 at ok_dst
  have AP := Lib.hid hAP
  clear hAP
  clear hW hF hl
  obtain ⟨f0, f3, f6, f7⟩ := FF.out _ (Step.refl _ _)
  have hpf := block_lt f6
  simp only at hpf
  have kb := heap_alloc_new w (.cells #[.int .i64 16, .int .i64 dst, .int .i64 a, .int .i64 b, .int .u64 n, .int .i64 size, .string name, va, vo, .int .i64 tt] 42 (0, 0))
  have s1 := Step.alloc (fun _ => False) w (.cells #[.int .i64 16, .int .i64 dst, .int .i64 a, .int .i64 b, .int .u64 n, .int .i64 size, .string name, va, vo, .int .i64 tt] 42 (0, 0))
  have HT := Lib.hid (show gx < w.heap.size ∧ own w.heap.size = 0 from ⟨HF.out.free.2.2.2, HW.out.fresh0⟩)
  have KB := Lib.hid kb
  have S1 := Lib.hid s1
  clear kb s1
  go_enter Try.func45, Try.ntmps45
  go_upto_region 1 with fail
  clear f0 f3 f6 f7 hpf
  generalize w.alloc (.cells #[.int .i64 16, .int .i64 dst, .int .i64 a, .int .i64 b, .int .u64 n, .int .i64 size, .string name, va, vo, .int .i64 tt] 42 (0, 0)) = w1 at KB S1 ⊢
  generalize htb : w.heap.size = tb at KB HT ⊢
  have HTB := Lib.hid htb
  clear htb
  obtain ⟨b0, b1, b2, b3, b4, b5, b6, b7, b8, b9⟩ := box_facts KB.out _ (Step.refl _ _)
  go_wp2_with fail
  refine (NO.out _).mono ?_
  rintro e w2 ⟨rfl, s2⟩
  have KB2 := s2.keeps KB.out
  have S2 := S1.out.then s2
  have kv := heap_alloc_new w2 (.cells #[.int .u64 0, .int .i64 0, .int .i64 0, .int .i64 0, .int .i64 0] 98 (0, 0))
  have s3 := Step.alloc (fun _ => False) w2 (.cells #[.int .u64 0, .int .i64 0, .int .i64 0, .int .i64 0, .int .i64 0] 98 (0, 0))
  have hz := s2.size
  have hb := lt_obj KB.out
  replace KB := Lib.hid (s3.keeps KB2)
  replace HT := Lib.hid (show gx < tb ∧ own tb = 0 ∧ w.heap.size ≤ w2.heap.size ∧ tb ≠ w2.heap.size from ⟨HT.out.1, HT.out.2, S2.size, by omega⟩)
  replace S1 := Lib.hid (S2.then s3)
  have KV := Lib.hid kv
  clear KB2 S2 kv s2 s3 hz hb b0 b1 b2 b3 b4 b5 b6 b7 b8 b9 NO
  go_upto_region 3 with fail
  generalize w2.alloc (.cells #[.int .u64 0, .int .i64 0, .int .i64 0, .int .i64 0, .int .i64 0] 98 (0, 0)) = w1 at KB KV S1 ⊢
  generalize w2.heap.size = tv at KV HT ⊢
  have FB := Lib.hid (box_facts KB.out)
  obtain ⟨b0, b1, b2, b3, b4, b5, b6, b7, b8, b9⟩ := FB.out _ (Step.refl _ _)
  go_upto_region 22 with fail
  clear b0 b1 b2 b3 b4 b5 b6 b7 b8 b9
  have SA := Lib.hid (Step.refl (fun _ => False) w1)
  have SB := Lib.hid S1.out
  obtain ⟨w2, hw2⟩ : ∃ w2, w1 = w2 := ⟨_, rfl⟩
  rw [hw2] at SA SB ⊢
  replace SA := Lib.hid (show Step (fun _ => False) w1 w2 from by rw [hw2]; exact Step.refl _ _)
  clear hw2
  obtain ⟨b0, b1, b2, b3, b4, b5, b6, b7, b8, b9⟩ := FB.out _ SA.out
  go_wp2_with fail
  refine (AP.out _ SB.out).mono ?_
  rintro e w5 ⟨rfl, own1, c1, ch, at1, hc1⟩
  clear b0 b1 b2 b3 b4 b5 b6 b7 b8 b9
  obtain ⟨xn, ⟨xb, xo, xl, xh⟩⟩ := xr
  simp only [HV.val]
  have otv : own tv = 0 := by
    by_cases e : own tv = 0
    · exact e
    · have h1 := (HW.out.low _ e).2
      have h2 := HT.out.2.2.1
      omega
  have kb5 := ch.keeps (SA.out.keeps KB.out) HT.out.2.1
  have kv5 := ch.keeps (SA.out.keeps KV.out) otv
  have h0 := ch.stays0 (SA.out.keeps KV.out) otv
  have CH := Lib.hid ((Chg.calm own SB.out).trans ch)
  have HLE := Lib.hid (show w0.heap.size ≤ tv from Nat.le_trans HW.out.since.size HT.out.2.2.1)
  obtain ⟨w3, hw3, s3, kb3, kv3⟩ := putV (wb := w) (HV.mk xn ⟨xb, xo, xl, xh⟩) CH.out.step (.inr HT.out.2.2.1) HT.out.2.2.2 kb5 kv5
  have CH3 := Lib.hid (show Chg own own1 w w3 from ⟨s3, CH.out.same⟩)
  have HWn := Lib.hid (show MWAt w0 w3 pw own1 fnv tops st' c1 from by rw [hw3]; exact at1.setV h0 HLE.out 0 ⟨xn, ⟨xb, xo, xl, xh⟩⟩)
  have HFn := Lib.hid (HF.out.keep CH3.out)
  replace FF := Lib.hid (frame_facts HFn.out)
  replace FR := Lib.hid (reg_facts HFn.out)
  have HW3 := Lib.hid hw3
  have KB3 := Lib.hid kb3
  have KV3 := Lib.hid kv3
  have S3 := Lib.hid (Step.refl (fun _ => False) w3)
  have HC1 := Lib.hid hc1
  obtain ⟨v0, v1, v2, v3, v4, y0, y1, y2, y3, y4⟩ := cells_known5 kv5
  clear hw3 s3 kb3 kv3 ch at1 hc1 h0 kb5 kv5 otv HW HF CH AP HLE
  go_upto_region 27 with fail
  rw [← HW3.out]
  clear HW3 KB KV FB SA SB
  clear v0 v1 v2 v3 v4 y0 y1 y2 y3 y4
  have FB := Lib.hid (box_facts KB3.out)
  obtain ⟨b0, b1, b2, b3, b4, b5, b6, b7, b8, b9⟩ := FB.out _ (Step.refl _ _)
  have hd0 : decide (0 ≤ dst) = true := decide_eq_true ok_dst.1
  go_upto_region 28 with fail
  clear b0 b1 b2 b3 b4 b5 b6 b7 b8 b9
  refine wp_region_each 7 planDo28k (fun _ _ => False) (Step (fun _ => False) w3) (fun _ => True) [Is ?v28_1_0, Is ?v28_1_1, Is ?v28_1_2, Is ?v28_1_3, Is ?v28_1_4, Is ?v28_1_5, Is ?v28_1_6] [] (by kernel_rfl) (by kernel_rfl) (fun _ _ h => h.elim) ((Step.refl _ _).drew) (trivial) ?stab28_1 ?stabD28_1 ?obl28_1 ?fin28_1
  case stab28_1 => exact fun w w' h => ⟨fun k => k.trans h (fun _ x => x.elim), fun _ => trivial, ⟨fun _ k => k, fun _ k => k, fun _ k => k, fun _ k => k, fun _ k => k, fun _ k => k, fun _ k => k, trivial⟩, trivial⟩
  case stabD28_1 => exact fun _ _ h => h.elim
  case obl28_1 =>
    refine ⟨?o28_1_0, ?o28_1_1, ?o28_1_2, ?o28_1_3, ?o28_1_4, ?o28_1_5, ?o28_1_6, trivial⟩
    all_goals intro xv wq hH hS H hU aq ha Q' hQ
    case o28_1_0 => cases rd0 ha; clear H hU hS; go_wp2_with fail; (try refine hQ _ _ ?_); refine ⟨Step.refl _ _, ?_, trivial, nofun⟩; exact (rfl : _ = _)
    case o28_1_1 | o28_1_2 => have ha := rd1 ha H (by kernel_rfl) rfl; simp only [q3, q5, q6, q7] at ha; subst ha; clear H hU hS; go_wp2_with fail; (try refine hQ _ _ ?_); refine ⟨Step.refl _ _, ?_, trivial, nofun⟩; exact (rfl : _ = _)
    case o28_1_3 => obtain ⟨f0, f3, f6, f7⟩ := FF.out _ (S3.out.then hH); obtain ⟨b0, b1, b2, b3, b4, b5, b6, b7, b8, b9⟩ := FB.out _ hH; obtain ⟨v0, v1, v2, v3, v4, y0, y1, y2, y3, y4⟩ := cells_known5 (hH.keeps KV3.out); have ha := rd1 ha H (by kernel_rfl) rfl; simp only [q3, q5, q6, q7] at ha; subst ha; clear H hU hS; go_wp2_with fail; (try refine hQ _ _ ?_); refine ⟨Step.refl _ _, ?_, trivial, nofun⟩; exact (rfl : _ = _)
    case o28_1_4 => cases rd0 ha; clear H hU hS; go_wp2_with fail; (try refine hQ _ _ ?_); refine ⟨Step.refl _ _, ?_, trivial, nofun⟩; exact (rfl : _ = _)
    case o28_1_5 => obtain ⟨f0, f3, f6, f7⟩ := FF.out _ (S3.out.then hH); obtain ⟨b0, b1, b2, b3, b4, b5, b6, b7, b8, b9⟩ := FB.out _ hH; obtain ⟨v0, v1, v2, v3, v4, y0, y1, y2, y3, y4⟩ := cells_known5 (hH.keeps KV3.out); have ha := rd1 ha H (by kernel_rfl) rfl; simp only [q3, q5, q6, q7] at ha; subst ha; clear H hU hS; go_wp2_with fail; (try refine hQ _ _ ?_); refine ⟨Step.refl _ _, ?_, trivial, nofun⟩; exact (rfl : _ = _)
    case o28_1_6 => obtain ⟨f0, f3, f6, f7⟩ := FF.out _ (S3.out.then hH); obtain ⟨b0, b1, b2, b3, b4, b5, b6, b7, b8, b9⟩ := FB.out _ hH; obtain ⟨v0, v1, v2, v3, v4, y0, y1, y2, y3, y4⟩ := cells_known5 (hH.keeps KV3.out); cases rd0 ha; clear H hU hS; go_wp2_with fail; (try refine hQ _ _ ?_); refine ⟨Step.refl _ _, ?_, trivial, nofun⟩; exact (rfl : _ = _)
  intro xv w9 hH hS H hU hsz hF hN
  have h0 : xv 0 = _ := H 0 (by decide) (by kernel_rfl); have h1 : xv 1 = _ := H 1 (by decide) (by kernel_rfl); have h2 : xv 2 = _ := H 2 (by decide) (by kernel_rfl); have h3 : xv 3 = _ := H 3 (by decide) (by kernel_rfl); have h4 : xv 4 = _ := H 4 (by decide) (by kernel_rfl); have h5 : xv 5 = _ := H 5 (by decide) (by kernel_rfl); have h6 : xv 6 = _ := H 6 (by decide) (by kernel_rfl)
  simp only [planDo28k, q1, q2, q3, q5, q6, q7, q4, List.drop_succ_cons, List.drop_zero, h0, h1, h2, h3, h4, h5, h6]
  clear H hF hN hS hU h0 h1 h2 h3 h4 h5 h6
  have S9 := Lib.hid (S3.out.then hH)
  obtain ⟨f0, f3, f6, f7⟩ := FF.out _ S9.out
  obtain ⟨c0_dst, c1_dst, c2_dst, c3_dst, c4_dst, z_dst⟩ := FR.out _ S9.out dst ok_dst
  clear hH
  go_wp2_with fail
  go_end0
  exact ⟨rfl, c1, HC1.out, went_set (HWn.out.still S9.out) (HFn.out.still S9.out) ((CH3.out.trans (Chg.calm own1 S9.out)).g gx) HL.out rfl (by omega) (HV.mk xn ⟨xb, xo, xl, xh⟩)⟩
set_option maxHeartbeats 4000000 in
set_option maxRecDepth 100000 in
theorem do_16n (hW : MWAt w0 w pw own fnv tops st c) (hF : MFr w own pf pw gx vn vp vk vs vc vr vl regs slots) (hl : w0.heap.size ≤ gx) {v : Value} {i : FIns} (hi : InsAt w0 v i) (ho : i.op = 16)  (hneg : i.dst < 0) {st' : MSt} {xr : HV} (hAP : ∀ y, Step (fun _ => False) w y → Calls Try.prog 67 #[.pointer (some ⟨pf, 0, none⟩), v] y (CallPost w0 y pw own fnv tops (.ret st' xr))) :
    Calls Try.prog 45 #[.pointer (some ⟨pf, 0, none⟩), v] w (fun e w' => e = .returned (.tuple #[]) ∧ ∃ c' : Nat, (c' : Int) ≤ 4000 + 2000 * st'.steps ∧ Went w0 w pw own fnv tops pf gx vn vp vk vs vc vr vl slots st' c' (regs) w') := by
  have NO := Lib.hid (fun y => ptr_none hi (.pointer (some ⟨pf, 0, none⟩)) y (by rw [ho]; rfl) (by rw [ho]; rfl) (by rw [ho]; rfl) (by rw [ho]; rfl) (by rw [ho]; rfl) (by rw [ho]; rfl))
  obtain ⟨va, vo, rfl, iargs, iouts⟩ := hi
  obtain ⟨op, dst, a, b, n, size, name, args, outs, tt⟩ := i
  simp only at *
  subst ho
  have HW := Lib.hid hW
  have HF := Lib.hid hF
  have HL := Lib.hid hl
  have FF := Lib.hid (frame_facts hF)
  have FR := Lib.hid (reg_facts hF)
  have AP := Lib.hid hAP
  clear hAP
  clear hW hF hl
  obtain ⟨f0, f3, f6, f7⟩ := FF.out _ (Step.refl _ _)
  have hpf := block_lt f6
  simp only at hpf
  have kb := heap_alloc_new w (.cells #[.int .i64 16, .int .i64 dst, .int .i64 a, .int .i64 b, .int .u64 n, .int .i64 size, .string name, va, vo, .int .i64 tt] 42 (0, 0))
  have s1 := Step.alloc (fun _ => False) w (.cells #[.int .i64 16, .int .i64 dst, .int .i64 a, .int .i64 b, .int .u64 n, .int .i64 size, .string name, va, vo, .int .i64 tt] 42 (0, 0))
  have HT := Lib.hid (show gx < w.heap.size ∧ own w.heap.size = 0 from ⟨HF.out.free.2.2.2, HW.out.fresh0⟩)
  have KB := Lib.hid kb
  have S1 := Lib.hid s1
  clear kb s1
  go_enter Try.func45, Try.ntmps45
  go_upto_region 1 with fail
  clear f0 f3 f6 f7 hpf
  generalize w.alloc (.cells #[.int .i64 16, .int .i64 dst, .int .i64 a, .int .i64 b, .int .u64 n, .int .i64 size, .string name, va, vo, .int .i64 tt] 42 (0, 0)) = w1 at KB S1 ⊢
  generalize htb : w.heap.size = tb at KB HT ⊢
  have HTB := Lib.hid htb
  clear htb
  obtain ⟨b0, b1, b2, b3, b4, b5, b6, b7, b8, b9⟩ := box_facts KB.out _ (Step.refl _ _)
  go_wp2_with fail
  refine (NO.out _).mono ?_
  rintro e w2 ⟨rfl, s2⟩
  have KB2 := s2.keeps KB.out
  have S2 := S1.out.then s2
  have kv := heap_alloc_new w2 (.cells #[.int .u64 0, .int .i64 0, .int .i64 0, .int .i64 0, .int .i64 0] 98 (0, 0))
  have s3 := Step.alloc (fun _ => False) w2 (.cells #[.int .u64 0, .int .i64 0, .int .i64 0, .int .i64 0, .int .i64 0] 98 (0, 0))
  have hz := s2.size
  have hb := lt_obj KB.out
  replace KB := Lib.hid (s3.keeps KB2)
  replace HT := Lib.hid (show gx < tb ∧ own tb = 0 ∧ w.heap.size ≤ w2.heap.size ∧ tb ≠ w2.heap.size from ⟨HT.out.1, HT.out.2, S2.size, by omega⟩)
  replace S1 := Lib.hid (S2.then s3)
  have KV := Lib.hid kv
  clear KB2 S2 kv s2 s3 hz hb b0 b1 b2 b3 b4 b5 b6 b7 b8 b9 NO
  go_upto_region 3 with fail
  generalize w2.alloc (.cells #[.int .u64 0, .int .i64 0, .int .i64 0, .int .i64 0, .int .i64 0] 98 (0, 0)) = w1 at KB KV S1 ⊢
  generalize w2.heap.size = tv at KV HT ⊢
  have FB := Lib.hid (box_facts KB.out)
  obtain ⟨b0, b1, b2, b3, b4, b5, b6, b7, b8, b9⟩ := FB.out _ (Step.refl _ _)
  go_upto_region 22 with fail
  clear b0 b1 b2 b3 b4 b5 b6 b7 b8 b9
  have SA := Lib.hid (Step.refl (fun _ => False) w1)
  have SB := Lib.hid S1.out
  obtain ⟨w2, hw2⟩ : ∃ w2, w1 = w2 := ⟨_, rfl⟩
  rw [hw2] at SA SB ⊢
  replace SA := Lib.hid (show Step (fun _ => False) w1 w2 from by rw [hw2]; exact Step.refl _ _)
  clear hw2
  obtain ⟨b0, b1, b2, b3, b4, b5, b6, b7, b8, b9⟩ := FB.out _ SA.out
  go_wp2_with fail
  refine (AP.out _ SB.out).mono ?_
  rintro e w5 ⟨rfl, own1, c1, ch, at1, hc1⟩
  clear b0 b1 b2 b3 b4 b5 b6 b7 b8 b9
  obtain ⟨xn, ⟨xb, xo, xl, xh⟩⟩ := xr
  simp only [HV.val]
  have otv : own tv = 0 := by
    by_cases e : own tv = 0
    · exact e
    · have h1 := (HW.out.low _ e).2
      have h2 := HT.out.2.2.1
      omega
  have kb5 := ch.keeps (SA.out.keeps KB.out) HT.out.2.1
  have kv5 := ch.keeps (SA.out.keeps KV.out) otv
  have h0 := ch.stays0 (SA.out.keeps KV.out) otv
  have CH := Lib.hid ((Chg.calm own SB.out).trans ch)
  have HLE := Lib.hid (show w0.heap.size ≤ tv from Nat.le_trans HW.out.since.size HT.out.2.2.1)
  obtain ⟨w3, hw3, s3, kb3, kv3⟩ := putV (wb := w) (HV.mk xn ⟨xb, xo, xl, xh⟩) CH.out.step (.inr HT.out.2.2.1) HT.out.2.2.2 kb5 kv5
  have CH3 := Lib.hid (show Chg own own1 w w3 from ⟨s3, CH.out.same⟩)
  have HWn := Lib.hid (show MWAt w0 w3 pw own1 fnv tops st' c1 from by rw [hw3]; exact at1.setV h0 HLE.out 0 ⟨xn, ⟨xb, xo, xl, xh⟩⟩)
  have HFn := Lib.hid (HF.out.keep CH3.out)
  replace FF := Lib.hid (frame_facts HFn.out)
  replace FR := Lib.hid (reg_facts HFn.out)
  have HW3 := Lib.hid hw3
  have KB3 := Lib.hid kb3
  have KV3 := Lib.hid kv3
  have S3 := Lib.hid (Step.refl (fun _ => False) w3)
  have HC1 := Lib.hid hc1
  obtain ⟨v0, v1, v2, v3, v4, y0, y1, y2, y3, y4⟩ := cells_known5 kv5
  clear hw3 s3 kb3 kv3 ch at1 hc1 h0 kb5 kv5 otv HW HF CH AP HLE
  go_upto_region 27 with fail
  rw [← HW3.out]
  clear HW3 KB KV FB SA SB v0 v1 v2 v3 v4 y0 y1 y2 y3 y4
  have FB := Lib.hid (box_facts KB3.out)
  obtain ⟨b0, b1, b2, b3, b4, b5, b6, b7, b8, b9⟩ := FB.out _ (Step.refl _ _)
  have hd0 : decide (0 ≤ dst) = false := decide_eq_false (by omega)
  go_wp2_with fail
  go_end0
  exact ⟨rfl, c1, HC1.out, own1, CH3.out.g gx, HWn.out, HFn.out⟩
set_option maxHeartbeats 4000000 in
set_option maxRecDepth 100000 in
theorem do_16s (hW : MWAt w0 w pw own fnv tops st c) (hF : MFr w own pf pw gx vn vp vk vs vc vr vl regs slots) (hl : w0.heap.size ≤ gx) {v : Value} {i : FIns} (hi : InsAt w0 v i) (ho : i.op = 16)  {st' : MSt} {s code why : Int} (hAP : ∀ y, Step (fun _ => False) w y → Calls Try.prog 67 #[.pointer (some ⟨pf, 0, none⟩), v] y (CallPost w0 y pw own fnv tops (.stop st' s code why))) :
    Calls Try.prog 45 #[.pointer (some ⟨pf, 0, none⟩), v] w (fun e w' => ∃ c' : Nat, Fell w0 w pw own fnv tops gx s code why st' c' e w') := by
  have NO := Lib.hid (fun y => ptr_none hi (.pointer (some ⟨pf, 0, none⟩)) y (by rw [ho]; rfl) (by rw [ho]; rfl) (by rw [ho]; rfl) (by rw [ho]; rfl) (by rw [ho]; rfl) (by rw [ho]; rfl))
  obtain ⟨va, vo, rfl, iargs, iouts⟩ := hi
  obtain ⟨op, dst, a, b, n, size, name, args, outs, tt⟩ := i
  simp only at *
  subst ho
  have HW := Lib.hid hW
  have HF := Lib.hid hF
  have HL := Lib.hid hl
  have FF := Lib.hid (frame_facts hF)
  have FR := Lib.hid (reg_facts hF)
  have AP := Lib.hid hAP
  clear hAP
  clear hW hF hl
  obtain ⟨f0, f3, f6, f7⟩ := FF.out _ (Step.refl _ _)
  have hpf := block_lt f6
  simp only at hpf
  have kb := heap_alloc_new w (.cells #[.int .i64 16, .int .i64 dst, .int .i64 a, .int .i64 b, .int .u64 n, .int .i64 size, .string name, va, vo, .int .i64 tt] 42 (0, 0))
  have s1 := Step.alloc (fun _ => False) w (.cells #[.int .i64 16, .int .i64 dst, .int .i64 a, .int .i64 b, .int .u64 n, .int .i64 size, .string name, va, vo, .int .i64 tt] 42 (0, 0))
  have HT := Lib.hid (show gx < w.heap.size ∧ own w.heap.size = 0 from ⟨HF.out.free.2.2.2, HW.out.fresh0⟩)
  have KB := Lib.hid kb
  have S1 := Lib.hid s1
  clear kb s1
  go_enter Try.func45, Try.ntmps45
  go_upto_region 1 with fail
  clear f0 f3 f6 f7 hpf
  generalize w.alloc (.cells #[.int .i64 16, .int .i64 dst, .int .i64 a, .int .i64 b, .int .u64 n, .int .i64 size, .string name, va, vo, .int .i64 tt] 42 (0, 0)) = w1 at KB S1 ⊢
  generalize htb : w.heap.size = tb at KB HT ⊢
  have HTB := Lib.hid htb
  clear htb
  obtain ⟨b0, b1, b2, b3, b4, b5, b6, b7, b8, b9⟩ := box_facts KB.out _ (Step.refl _ _)
  go_wp2_with fail
  refine (NO.out _).mono ?_
  rintro e w2 ⟨rfl, s2⟩
  have KB2 := s2.keeps KB.out
  have S2 := S1.out.then s2
  have kv := heap_alloc_new w2 (.cells #[.int .u64 0, .int .i64 0, .int .i64 0, .int .i64 0, .int .i64 0] 98 (0, 0))
  have s3 := Step.alloc (fun _ => False) w2 (.cells #[.int .u64 0, .int .i64 0, .int .i64 0, .int .i64 0, .int .i64 0] 98 (0, 0))
  have hz := s2.size
  have hb := lt_obj KB.out
  replace KB := Lib.hid (s3.keeps KB2)
  replace HT := Lib.hid (show gx < tb ∧ own tb = 0 ∧ w.heap.size ≤ w2.heap.size ∧ tb ≠ w2.heap.size from ⟨HT.out.1, HT.out.2, S2.size, by omega⟩)
  replace S1 := Lib.hid (S2.then s3)
  have KV := Lib.hid kv
  clear KB2 S2 kv s2 s3 hz hb b0 b1 b2 b3 b4 b5 b6 b7 b8 b9 NO
  go_upto_region 3 with fail
  generalize w2.alloc (.cells #[.int .u64 0, .int .i64 0, .int .i64 0, .int .i64 0, .int .i64 0] 98 (0, 0)) = w1 at KB KV S1 ⊢
  generalize w2.heap.size = tv at KV HT ⊢
  have FB := Lib.hid (box_facts KB.out)
  obtain ⟨b0, b1, b2, b3, b4, b5, b6, b7, b8, b9⟩ := FB.out _ (Step.refl _ _)
  go_upto_region 22 with fail
  clear b0 b1 b2 b3 b4 b5 b6 b7 b8 b9
  have SA := Lib.hid (Step.refl (fun _ => False) w1)
  have SB := Lib.hid S1.out
  obtain ⟨w2, hw2⟩ : ∃ w2, w1 = w2 := ⟨_, rfl⟩
  rw [hw2] at SA SB ⊢
  replace SA := Lib.hid (show Step (fun _ => False) w1 w2 from by rw [hw2]; exact Step.refl _ _)
  clear hw2
  obtain ⟨b0, b1, b2, b3, b4, b5, b6, b7, b8, b9⟩ := FB.out _ SA.out
  go_wp2_with fail
  refine (AP.out _ SB.out).mono ?_
  rintro e w5 ⟨rfl, own1, c1, ch, at1⟩
  have CH := Lib.hid ch
  have AT := Lib.hid at1
  clear ch at1 b0 b1 b2 b3 b4 b5 b6 b7 b8 b9
  go_wp2_with fail
  exact ⟨rfl, c1, rfl, own1, ((Chg.calm own SB.out).trans CH.out).g gx, AT.out⟩
end
end Go.Proofs.Ytojfgdoniajmeaa
