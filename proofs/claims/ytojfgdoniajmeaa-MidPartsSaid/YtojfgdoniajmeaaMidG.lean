/- Package mid: MGet. -/
import Derived.Test.YtojfgdoniajmeaaMidF
namespace Go.Proofs.Ytojfgdoniajmeaa
set_option linter.unusedVariables false
set_option linter.unusedSimpArgs false
open Go.RowKit

section
variable {w0 w w' w1 w2 : World} {pf pw gx : Nat} {own own' own'' : Nat → Nat} {vn vp vk vs vc vr vl : Value} {regs : List HV} {slots : List HP} {fnv : List UInt8 → Option Value} {tops : List UInt8 → Option HP} {st : MSt} {c : Nat}
/-- a slice that is what is left of the input -/
def IsTail (w0 : World) (zs : List Int) (y : Value) (_ : World) : Prop := ∃ p cap, y = .slice p zs.length cap ∧ IntsAt .u8 w0 (.slice p zs.length cap) zs
theorem IsTail.stable {zs : List Int} {y : Value} (_ : Step (fun _ => False) w w') (k : IsTail w0 zs y w) : IsTail w0 zs y w' := k
theorem MParts.inputNext {ph bt bf : Nat} {vi vo vi' : Value} {zs : List Int} (P : MParts w0 w pw own fnv tops st c ph bt bf vi vo) (hi : IntsAt .u8 w0 vi' zs) : MParts w0 (w.setCell ⟨pw, 3, none⟩ vi') pw own fnv tops { st with input := zs } c ph bt bf vi' vo ∧ Chg own own w (w.setCell ⟨pw, 3, none⟩ vi') := by
  have t1 := P.tag.1
  have s : Step (fun b => own b ≠ 0) w (w.setCell ⟨pw, 3, none⟩ vi') := Step.setCell _ _ _ _ (by show own pw ≠ 0; omega)
  refine ⟨P.next 0 (Nat.le_refl c) s (fun _ _ => rfl) (fun b hb => Nat.lt_of_lt_of_le (P.low b hb).2 s.size) (fun b h0 h1 _ => set_other _ _ fun e => h1 (by rw [e]; exact t1)) ⟨by decide, by decide⟩ (by rw [set_known P.struct]; rfl) ⟨rfl, rfl⟩ ⟨rfl, rfl⟩ hi, s, fun _ _ => rfl⟩
theorem MParts.cell_old {ph bt bf : Nat} {vi vo : Value} (P : MParts w0 w pw own fnv tops st c ph bt bf vi vo) {a : Addr} (hb : a.block < w0.heap.size) : w.cell? a = w0.cell? a := cell_of (P.step.block _ hb (fun x => by omega))
def planDg28 : Plan where
  T := [[], [0], [0, 1], [0, 1, 2], [], [4], [], [0, 1, 2, 3, 4, 5, 6], [0, 1, 2, 3, 4, 5, 6, 7]]
  rd := [[], [(0, some 168)], [(1, some 169)], [(2, some 170)], [], [(4, some 172)], []]
  all := [(6, some 174), (5, some 173), (4, some 172), (3, some 171), (2, some 170), (1, some 169), (0, some 168)]
  calm := [true, true, true, true, true, true, true]
  hard := []
  fresh := [false, false, false, false, false, false, false]

def planGet : Plan where
  T := [[], [0], [0, 1], [0, 1, 2], [], [4], [4, 5], [4, 5, 6], [4, 5, 6, 7], [4, 5, 6, 7, 8], [4, 5, 6, 7, 8, 9], [4, 5, 6, 7, 8, 9, 10], [4, 5, 6, 7, 8, 9, 10, 11], [4, 5, 6, 7, 8, 9, 10, 11, 12], [], [14], [14, 15], [14, 15, 16], [14, 15, 16, 17], [14, 15, 16, 17, 18], [14, 15, 16, 17, 18, 19], [14, 15, 16, 17, 18, 19, 20], [4, 5, 6, 7, 8, 9, 10, 11, 12, 13], [4, 5, 6, 7, 8, 9, 10, 11, 12, 13, 22], [0, 1, 2, 3, 4, 5, 6, 7, 8, 9, 10, 11, 12, 13, 14, 15, 16, 17, 18, 19, 20, 21, 22, 23], [0, 1, 2, 3, 4, 5, 6, 7, 8, 9, 10, 11, 12, 13, 14, 15, 16, 17, 18, 19, 20, 21, 22, 23, 24], [0, 1, 2, 3, 4, 5, 6, 7, 8, 9, 10, 11, 12, 13, 14, 15, 16, 17, 18, 19, 20, 21, 22, 23, 24, 25]]
  rd := [[], [(0, some 140)], [(1, some 141)], [(2, some 142)], [], [(4, some 144)], [(5, some 145)], [(6, some 146)], [(7, some 147)], [(8, some 148)], [(9, some 149)], [(10, some 150)], [(11, some 151)], [(12, some 152)], [], [(14, some 154)], [(15, some 155)], [(16, some 156)], [(17, some 157)], [(18, some 158)], [(19, some 159)], [(20, some 160)], [], [(13, some 153), (22, some 162)]]
  all := [(23, none), (22, some 162), (21, some 161), (20, some 160), (19, some 159), (18, some 158), (17, some 157), (16, some 156), (15, some 155), (14, some 154), (13, some 153), (12, some 152), (11, some 151), (10, some 150), (9, some 149), (8, some 148), (7, some 147), (6, some 146), (5, some 145), (4, some 144), (3, some 143), (2, some 142), (1, some 141), (0, some 140)]
  calm := [true, true, true, true, true, true, true, true, true, true, true, true, true, true, true, true, true, true, true, true, true, true, true, false]
  hard := [true, true, true, true, true, true, true, true, true, true, true, true, true, true, true, true, true, true, true, true, true, true, true, true]
  fresh := [false, false, false, false, false, false, false, false, false, false, false, false, false, false, false, false, false, false, false, false, false, false, false, false]

set_option maxHeartbeats 4000000 in
set_option maxRecDepth 100000 in
theorem do_21e (hW : MWAt w0 w pw own fnv tops st c) (hF : MFr w own pf pw gx vn vp vk vs vc vr vl regs slots) (hl : w0.heap.size ≤ gx) {v : Value} {i : FIns} (hi : InsAt w0 v i) (ho : i.op = 21) (ok_dst : ok1 regs i.dst) (he : st.input = []) :
    Calls Try.prog 45 #[.pointer (some ⟨pf, 0, none⟩), v] w (fun e w' => e = .returned (.tuple #[]) ∧ Went w0 w pw own fnv tops pf gx vn vp vk vs vc vr vl slots st c (regs.set i.dst.toNat (numV 18446744073709551615)) w') := by
  have NO := Lib.hid (fun y => ptr_none hi (.pointer (some ⟨pf, 0, none⟩)) y (by rw [ho]; rfl) (by rw [ho]; rfl) (by rw [ho]; rfl) (by rw [ho]; rfl) (by rw [ho]; rfl) (by rw [ho]; rfl))
  obtain ⟨va, vo, rfl, iargs, iouts⟩ := hi
  obtain ⟨op, dst, a, b, n, size, name, args, outs, tt⟩ := i
  simp only at *
  subst ho
  obtain ⟨rcap, rfl⟩ := regs_slice hF (by unfold ok1 at ok_dst; omega)
  have HW := Lib.hid hW
  have HF := Lib.hid hF
  have HL := Lib.hid hl
  have FF := Lib.hid (frame_facts hF)
  have FR := Lib.hid (reg_facts hF)
  unfold ok1 at ok_dst
  obtain ⟨ph, bt, bf, vin, vout, P⟩ := HW.out
  have PP := Lib.hid P
  have PI := P.input
  rw [he] at PI
  obtain ⟨⟨pi, icap, ei, _, _, _⟩, _⟩ := PI
  subst ei
  have MF := Lib.hid (show ∀ y, Step (fun _ => False) w y → y.cell? ⟨pw, 3, none⟩ = some (.slice pi 0 icap) from fun y hy => cell_known (hy.keeps P.struct) rfl)
  clear P he
  clear hW hF hl
  obtain ⟨f0, f3, f6, f7⟩ := FF.out _ (Step.refl _ _)
  have hpf := block_lt f6
  simp only at hpf
  have kb := heap_alloc_new w (.cells #[.int .i64 21, .int .i64 dst, .int .i64 a, .int .i64 b, .int .u64 n, .int .i64 size, .string name, va, vo, .int .i64 tt] 42 (0, 0))
  have s1 := Step.alloc (fun _ => False) w (.cells #[.int .i64 21, .int .i64 dst, .int .i64 a, .int .i64 b, .int .u64 n, .int .i64 size, .string name, va, vo, .int .i64 tt] 42 (0, 0))
  have HT := Lib.hid (show gx < w.heap.size ∧ own w.heap.size = 0 from ⟨HF.out.free.2.2.2, HW.out.fresh0⟩)
  have KB := Lib.hid kb
  have S1 := Lib.hid s1
  clear kb s1
  go_enter Try.func45, Try.ntmps45
  go_upto_region 1 with fail
  clear f0 f3 f6 f7 hpf
  generalize w.alloc (.cells #[.int .i64 21, .int .i64 dst, .int .i64 a, .int .i64 b, .int .u64 n, .int .i64 size, .string name, va, vo, .int .i64 tt] 42 (0, 0)) = w1 at KB S1 ⊢
  generalize htb : w.heap.size = tb at KB HT ⊢
  have HTB := Lib.hid htb
  clear htb
  obtain ⟨b0, b1, b2, b3, b4, b5, b6, b7, b8, b9⟩ := box_facts KB.out _ (Step.refl _ _)
  go_wp2_with fail
  refine (NO.out _).mono ?_
  rintro e w2 ⟨rfl, s2⟩
  have KB2 := s2.keeps KB.out
  have S2 := S1.out.then s2
  have kv := heap_alloc_new w2 (.cells #[.int .u64 0, .int .i64 0, .int .i64 0, .int .i64 0, .int .i64 0] 98 (0, 0))
  have s3 := Step.alloc (fun _ => False) w2 (.cells #[.int .u64 0, .int .i64 0, .int .i64 0, .int .i64 0, .int .i64 0] 98 (0, 0))
  have hz := s2.size
  have hb := lt_obj KB.out
  replace KB := Lib.hid (s3.keeps KB2)
  replace HT := Lib.hid (show gx < tb ∧ own tb = 0 ∧ w.heap.size ≤ w2.heap.size ∧ tb ≠ w2.heap.size from ⟨HT.out.1, HT.out.2, S2.size, by omega⟩)
  replace S1 := Lib.hid (S2.then s3)
  have KV := Lib.hid kv
  clear KB2 S2 kv s2 s3 hz hb b0 b1 b2 b3 b4 b5 b6 b7 b8 b9 NO
  go_upto_region 3 with fail
  generalize w2.alloc (.cells #[.int .u64 0, .int .i64 0, .int .i64 0, .int .i64 0, .int .i64 0] 98 (0, 0)) = w1 at KB KV S1 ⊢
  generalize w2.heap.size = tv at KV HT ⊢
  have FB := Lib.hid (box_facts KB.out)
  obtain ⟨b0, b1, b2, b3, b4, b5, b6, b7, b8, b9⟩ := FB.out _ (Step.refl _ _)
  go_upto_region 24 with fail
  clear b0 b1 b2 b3 b4 b5 b6 b7 b8 b9
  have SA := Lib.hid (Step.refl (fun _ => False) w1)
  have SB := Lib.hid S1.out
  obtain ⟨w2, hw2⟩ : ∃ w2, w1 = w2 := ⟨_, rfl⟩
  rw [hw2] at SA SB ⊢
  replace SA := Lib.hid (show Step (fun _ => False) w1 w2 from by rw [hw2]; exact Step.refl _ _)
  clear hw2
  obtain ⟨f0, f3, f6, f7⟩ := FF.out _ SB.out
  obtain ⟨b0, b1, b2, b3, b4, b5, b6, b7, b8, b9⟩ := FB.out _ SA.out
  obtain ⟨v0, v1, v2, v3, v4, y0, y1, y2, y3, y4⟩ := cells_known5 (SA.out.keeps KV.out)
  obtain ⟨w3, hw3, s3, kb3, kv3⟩ := putN (wb := w) (18446744073709551615) SB.out (.inr HT.out.2.2.1) HT.out.2.2.2 (SA.out.keeps KB.out) (SA.out.keeps KV.out)
  have HW3 := Lib.hid hw3
  have S3 := Lib.hid s3
  have KB3 := Lib.hid kb3
  have KV3 := Lib.hid kv3
  clear hw3 s3 kb3 kv3
  go_upto_region 25 with fail
  rw [← HW3.out]
  clear HW3 KB KV FB SA SB f0 f3 f6 f7 b0 b1 b2 b3 b4 b5 b6 b7 b8 b9 v0 v1 v2 v3 v4 y0 y1 y2 y3 y4
  obtain ⟨f0, f3, f6, f7⟩ := FF.out _ S3.out
  have m3 := MF.out _ S3.out
  go_upto_region 27 with fail
  clear f0 f3 f6 f7 m3
  have FB := Lib.hid (box_facts KB3.out)
  obtain ⟨b0, b1, b2, b3, b4, b5, b6, b7, b8, b9⟩ := FB.out _ (Step.refl _ _)
  have hd0 : decide (0 ≤ dst) = true := decide_eq_true ok_dst.1
  go_upto_region 28 with fail
  clear b0 b1 b2 b3 b4 b5 b6 b7 b8 b9
  refine wp_region_each 7 planDg28 (fun _ _ => False) (Step (fun _ => False) w3) (fun _ => True) [Is ?v28_1_0, Is ?v28_1_1, Is ?v28_1_2, Is ?v28_1_3, Is ?v28_1_4, Is ?v28_1_5, Is ?v28_1_6] [] (by kernel_rfl) (by kernel_rfl) (fun _ _ h => h.elim) ((Step.refl _ _).drew) (trivial) ?stab28_1 ?stabD28_1 ?obl28_1 ?fin28_1
  case stab28_1 => exact fun w w' h => ⟨fun k => k.trans h (fun _ x => x.elim), fun _ => trivial, ⟨fun _ k => k, fun _ k => k, fun _ k => k, fun _ k => k, fun _ k => k, fun _ k => k, fun _ k => k, trivial⟩, trivial⟩
  case stabD28_1 => exact fun _ _ h => h.elim
  case obl28_1 =>
    refine ⟨?o28_1_0, ?o28_1_1, ?o28_1_2, ?o28_1_3, ?o28_1_4, ?o28_1_5, ?o28_1_6, trivial⟩
    all_goals intro xv wq hH hS H hU aq ha Q' hQ
    case o28_1_0 => cases rd0 ha; clear H hU hS; go_wp2_with fail; (try refine hQ _ _ ?_); refine ⟨Step.refl _ _, ?_, trivial, nofun⟩; exact (rfl : _ = _)
    case o28_1_1 | o28_1_2 => have ha := rd1 ha H (by kernel_rfl) rfl; simp only [q3, q5, q6, q7] at ha; subst ha; clear H hU hS; go_wp2_with fail; (try refine hQ _ _ ?_); refine ⟨Step.refl _ _, ?_, trivial, nofun⟩; exact (rfl : _ = _)
    case o28_1_3 => obtain ⟨f0, f3, f6, f7⟩ := FF.out _ (S3.out.then hH); obtain ⟨b0, b1, b2, b3, b4, b5, b6, b7, b8, b9⟩ := FB.out _ hH; obtain ⟨v0, v1, v2, v3, v4, y0, y1, y2, y3, y4⟩ := cells_known5 (hH.keeps KV3.out); have ha := rd1 ha H (by kernel_rfl) rfl; simp only [q3, q5, q6, q7] at ha; subst ha; clear H hU hS; go_wp2_with fail; (try refine hQ _ _ ?_); refine ⟨Step.refl _ _, ?_, trivial, nofun⟩; exact (rfl : _ = _)
    case o28_1_4 => cases rd0 ha; clear H hU hS; go_wp2_with fail; (try refine hQ _ _ ?_); refine ⟨Step.refl _ _, ?_, trivial, nofun⟩; exact (rfl : _ = _)
    case o28_1_5 => obtain ⟨f0, f3, f6, f7⟩ := FF.out _ (S3.out.then hH); obtain ⟨b0, b1, b2, b3, b4, b5, b6, b7, b8, b9⟩ := FB.out _ hH; obtain ⟨v0, v1, v2, v3, v4, y0, y1, y2, y3, y4⟩ := cells_known5 (hH.keeps KV3.out); have ha := rd1 ha H (by kernel_rfl) rfl; simp only [q3, q5, q6, q7] at ha; subst ha; clear H hU hS; go_wp2_with fail; (try refine hQ _ _ ?_); refine ⟨Step.refl _ _, ?_, trivial, nofun⟩; exact (rfl : _ = _)
    case o28_1_6 => obtain ⟨f0, f3, f6, f7⟩ := FF.out _ (S3.out.then hH); obtain ⟨b0, b1, b2, b3, b4, b5, b6, b7, b8, b9⟩ := FB.out _ hH; obtain ⟨v0, v1, v2, v3, v4, y0, y1, y2, y3, y4⟩ := cells_known5 (hH.keeps KV3.out); cases rd0 ha; clear H hU hS; go_wp2_with fail; (try refine hQ _ _ ?_); refine ⟨Step.refl _ _, ?_, trivial, nofun⟩; exact (rfl : _ = _)
  intro xv w9 hH hS H hU hsz hF hN
  have h0 : xv 0 = _ := H 0 (by decide) (by kernel_rfl); have h1 : xv 1 = _ := H 1 (by decide) (by kernel_rfl); have h2 : xv 2 = _ := H 2 (by decide) (by kernel_rfl); have h3 : xv 3 = _ := H 3 (by decide) (by kernel_rfl); have h4 : xv 4 = _ := H 4 (by decide) (by kernel_rfl); have h5 : xv 5 = _ := H 5 (by decide) (by kernel_rfl); have h6 : xv 6 = _ := H 6 (by decide) (by kernel_rfl)
  simp only [planDg28, q1, q2, q3, q5, q6, q7, q4, List.drop_succ_cons, List.drop_zero, h0, h1, h2, h3, h4, h5, h6]
  clear H hF hN hS hU h0 h1 h2 h3 h4 h5 h6
  have S9 := Lib.hid (S3.out.then hH)
  obtain ⟨f0, f3, f6, f7⟩ := FF.out _ S9.out
  obtain ⟨c0_dst, c1_dst, c2_dst, c3_dst, c4_dst, z_dst⟩ := FR.out _ S9.out dst ok_dst
  clear hH
  go_wp2_with fail
  go_end0
  exact ⟨rfl, went_set (HW.out.still S9.out) (HF.out.still S9.out) ((Chg.calm own S9.out).g gx) HL.out rfl (by omega) (numV 18446744073709551615)⟩
set_option maxHeartbeats 4000000 in
set_option maxRecDepth 100000 in
theorem do_21s (hW : MWAt w0 w pw own fnv tops st c) (hF : MFr w own pf pw gx vn vp vk vs vc vr vl regs slots) (hl : w0.heap.size ≤ gx) {v : Value} {i : FIns} (hi : InsAt w0 v i) (ho : i.op = 21) (ok_dst : ok1 regs i.dst) {ib : Int} {ir : List Int} (he : st.input = ib :: ir) :
    Calls Try.prog 45 #[.pointer (some ⟨pf, 0, none⟩), v] w (fun e w' => e = .returned (.tuple #[]) ∧ Went w0 w pw own fnv tops pf gx vn vp vk vs vc vr vl slots { st with input := ir } c (regs.set i.dst.toNat (numV ib)) w') := by
  have NO := Lib.hid (fun y => ptr_none hi (.pointer (some ⟨pf, 0, none⟩)) y (by rw [ho]; rfl) (by rw [ho]; rfl) (by rw [ho]; rfl) (by rw [ho]; rfl) (by rw [ho]; rfl) (by rw [ho]; rfl))
  obtain ⟨va, vo, rfl, iargs, iouts⟩ := hi
  obtain ⟨op, dst, a, b, n, size, name, args, outs, tt⟩ := i
  simp only at *
  subst ho
  obtain ⟨rcap, rfl⟩ := regs_slice hF (by unfold ok1 at ok_dst; omega)
  have HW := Lib.hid hW
  have HF := Lib.hid hF
  have HL := Lib.hid hl
  have FF := Lib.hid (frame_facts hF)
  have FR := Lib.hid (reg_facts hF)
  unfold ok1 at ok_dst
  obtain ⟨ph, bt, bf, vin, vout, P⟩ := HW.out
  have PP := Lib.hid P
  have PI := P.input
  rw [he] at PI
  obtain ⟨⟨pi, icap, ei, hi1, hi2, hic⟩, hiw⟩ := PI
  obtain ⟨ia, epi, hia⟩ := hic 0 (by simp)
  subst epi
  subst ei
  have hb0 : 0 ≤ ib ∧ ib ≤ 255 := wfu8 (hiw ib (by simp))
  have hb64 : 0 ≤ ib ∧ ib < 18446744073709551616 := by omega
  have ia0 : w0.cell? ia = some (.int .u8 ib) := by simpa [Addr.add] using hia
  simp only [List.length_cons] at *
  have hn : IntsAt .u8 w0 (.slice (some (if icap = 1 then ia else ia.add 1)) ir.length (icap - 1)) ir := by
    refine ⟨⟨_, _, rfl, by omega, by omega, fun k hk => ⟨_, rfl, ?_⟩⟩, fun z hz => hiw z (by simp [hz])⟩
    rw [if_neg (by omega)]
    obtain ⟨a', e', h'⟩ := hic (k + 1) (by omega)
    cases e'
    rw [show ia.add (k + 1) = (ia.add 1).add k by rw [Go.Deep.add_add, Nat.add_comm]] at h'
    simpa using h'
  have HT1 := Lib.hid (show icap = 1 → IntsAt .u8 w0 (.slice (some ia) ir.length 0) ir from fun e => by rw [if_pos e, e] at hn; exact hn)
  have HT2 := Lib.hid (show ¬ icap = 1 → IntsAt .u8 w0 (.slice (some ⟨ia.block, ia.off + 1, none⟩) ir.length (icap - 1)) ir from fun e => by
    rw [if_neg e, add_next ia 0] at hn; simpa [Addr.add] using hn)
  have hll : ir.length ≤ 9223372036854775806 := by simp only [maxLen] at hi2; omega
  have MF := Lib.hid (show ∀ y, Step (fun _ => False) w y → y.cell? ⟨pw, 3, none⟩ = some (.slice (some ia) (ir.length + 1) icap) ∧ y.cell? ia = some (.int .u8 ib) from fun y hy => ⟨cell_known (hy.keeps P.struct) rfl, by rw [(P.still hy).cell_old (block_lt ia0)]; exact ia0⟩)
  have IC := Lib.hid hi2
  have IR := Lib.hid he
  clear P he hn hi2 hic hia hiw ia0
  clear hW hF hl
  obtain ⟨f0, f3, f6, f7⟩ := FF.out _ (Step.refl _ _)
  have hpf := block_lt f6
  simp only at hpf
  have kb := heap_alloc_new w (.cells #[.int .i64 21, .int .i64 dst, .int .i64 a, .int .i64 b, .int .u64 n, .int .i64 size, .string name, va, vo, .int .i64 tt] 42 (0, 0))
  have s1 := Step.alloc (fun _ => False) w (.cells #[.int .i64 21, .int .i64 dst, .int .i64 a, .int .i64 b, .int .u64 n, .int .i64 size, .string name, va, vo, .int .i64 tt] 42 (0, 0))
  have HT := Lib.hid (show gx < w.heap.size ∧ own w.heap.size = 0 from ⟨HF.out.free.2.2.2, HW.out.fresh0⟩)
  have KB := Lib.hid kb
  have S1 := Lib.hid s1
  clear kb s1
  go_enter Try.func45, Try.ntmps45
  go_upto_region 1 with fail
  clear f0 f3 f6 f7 hpf
  generalize w.alloc (.cells #[.int .i64 21, .int .i64 dst, .int .i64 a, .int .i64 b, .int .u64 n, .int .i64 size, .string name, va, vo, .int .i64 tt] 42 (0, 0)) = w1 at KB S1 ⊢
  generalize htb : w.heap.size = tb at KB HT ⊢
  have HTB := Lib.hid htb
  clear htb
  obtain ⟨b0, b1, b2, b3, b4, b5, b6, b7, b8, b9⟩ := box_facts KB.out _ (Step.refl _ _)
  go_wp2_with fail
  refine (NO.out _).mono ?_
  rintro e w2 ⟨rfl, s2⟩
  have KB2 := s2.keeps KB.out
  have S2 := S1.out.then s2
  have kv := heap_alloc_new w2 (.cells #[.int .u64 0, .int .i64 0, .int .i64 0, .int .i64 0, .int .i64 0] 98 (0, 0))
  have s3 := Step.alloc (fun _ => False) w2 (.cells #[.int .u64 0, .int .i64 0, .int .i64 0, .int .i64 0, .int .i64 0] 98 (0, 0))
  have hz := s2.size
  have hb := lt_obj KB.out
  replace KB := Lib.hid (s3.keeps KB2)
  replace HT := Lib.hid (show gx < tb ∧ own tb = 0 ∧ w.heap.size ≤ w2.heap.size ∧ tb ≠ w2.heap.size from ⟨HT.out.1, HT.out.2, S2.size, by omega⟩)
  replace S1 := Lib.hid (S2.then s3)
  have KV := Lib.hid kv
  clear KB2 S2 kv s2 s3 hz hb b0 b1 b2 b3 b4 b5 b6 b7 b8 b9 NO
  go_upto_region 3 with fail
  generalize w2.alloc (.cells #[.int .u64 0, .int .i64 0, .int .i64 0, .int .i64 0, .int .i64 0] 98 (0, 0)) = w1 at KB KV S1 ⊢
  generalize w2.heap.size = tv at KV HT ⊢
  have FB := Lib.hid (box_facts KB.out)
  obtain ⟨b0, b1, b2, b3, b4, b5, b6, b7, b8, b9⟩ := FB.out _ (Step.refl _ _)
  go_upto_region 24 with fail
  clear b0 b1 b2 b3 b4 b5 b6 b7 b8 b9
  have SA := Lib.hid (Step.refl (fun _ => False) w1)
  have SB := Lib.hid S1.out
  obtain ⟨w2, hw2⟩ : ∃ w2, w1 = w2 := ⟨_, rfl⟩
  rw [hw2] at SA SB ⊢
  replace SA := Lib.hid (show Step (fun _ => False) w1 w2 from by rw [hw2]; exact Step.refl _ _)
  clear hw2
  obtain ⟨f0, f3, f6, f7⟩ := FF.out _ SB.out
  obtain ⟨b0, b1, b2, b3, b4, b5, b6, b7, b8, b9⟩ := FB.out _ SA.out
  obtain ⟨v0, v1, v2, v3, v4, y0, y1, y2, y3, y4⟩ := cells_known5 (SA.out.keeps KV.out)
  obtain ⟨w3, hw3, s3, kb3, kv3⟩ := putN (wb := w) (18446744073709551615) SB.out (.inr HT.out.2.2.1) HT.out.2.2.2 (SA.out.keeps KB.out) (SA.out.keeps KV.out)
  have HW3 := Lib.hid hw3
  have S3 := Lib.hid s3
  have KB3 := Lib.hid kb3
  have KV3 := Lib.hid kv3
  clear hw3 s3 kb3 kv3
  go_upto_region 25 with fail
  rw [← HW3.out]
  clear HW3 KB KV FB SA SB f0 f3 f6 f7 b0 b1 b2 b3 b4 b5 b6 b7 b8 b9 v0 v1 v2 v3 v4 y0 y1 y2 y3 y4
  obtain ⟨f0, f3, f6, f7⟩ := FF.out _ S3.out
  obtain ⟨m3, ic3⟩ := MF.out _ S3.out
  have S1' := Lib.hid S3.out
  have FB := Lib.hid (box_facts KB3.out)
  have FZ := Lib.hid (show ∀ y, Step (fun x => x = tv) w3 y → y.cell? ⟨pf, 0, none⟩ = some (.pointer (some ⟨pw, 0, none⟩)) ∧ y.cell? ⟨pw, 3, none⟩ = some (.slice (some ia) (ir.length + 1) icap) from fun y hy => ⟨(hy.cell (p := ⟨pf, 0, none⟩) (block_lt f0) (by
    have h1 := lt_known HF.out.struct
    have h2 := HT.out.2.2.1
    show ¬ pf = tv
    omega)).trans f0, (hy.cell (p := ⟨pw, 3, none⟩) (block_lt m3) (by
    have h1 := lt_known PP.out.struct
    have h2 := HT.out.2.2.1
    show ¬ pw = tv
    omega)).trans m3⟩)
  go_upto_region 26 with fail
  clear f0 f3 f6 f7 m3 ic3
  refine wp_region_each 24 planGet (fun a b => Step (fun x => x = tv) a b) (Step (fun x => x = tv) w3) (fun x => Step (fun _ => False) w3 x) [Is ?v26_2_0, Is ?v26_2_1, Is ?v26_2_2, Is ?v26_2_3, Is ?v26_2_4, Is ?v26_2_5, Is ?v26_2_6, Is ?v26_2_7, Is ?v26_2_8, Is ?v26_2_9, Is ?v26_2_10, Is ?v26_2_11, Is ?v26_2_12, Is ?v26_2_13, Is ?v26_2_14, Is ?v26_2_15, Is ?v26_2_16, Is ?v26_2_17, Is ?v26_2_18, Is ?v26_2_19, Is ?v26_2_20, IsTail w0 ir, Is ?v26_2_22, fun _ _ => True] [fun _ _ => True, fun _ _ => True, fun _ _ => True, fun _ _ => True, fun _ _ => True, fun _ _ => True, fun _ _ => True, fun _ _ => True, fun _ _ => True, fun _ _ => True, fun _ _ => True, fun _ _ => True, fun _ _ => True, fun _ _ => True, fun _ _ => True, fun _ _ => True, fun _ _ => True, fun _ _ => True, fun _ _ => True, fun _ _ => True, fun _ _ => True, fun _ _ => True, fun _ _ => True, fun _ yy => yy.heap[tb]? = some (.cells #[.int .i64 21, .int .i64 dst, .int .i64 a, .int .i64 b, .int .u64 n, .int .i64 size, .string name, va, vo, .int .i64 tt] 42 (0, 0)) ∧ yy.heap[tv]? = some (.cells #[.int .u64 ib, .int .i64 0, .int .i64 0, .int .i64 0, .int .i64 0] 98 (0, 0)) ∧ Step (fun _ => False) w yy] (by kernel_rfl) (by kernel_rfl) (fun _ _ h => h.size) ((Step.refl _ _).drew) ((Step.refl _ _).drew) ?stab26_2 ?stabD26_2 ?obl26_2 ?fin26_2
  case stab26_2 => exact fun w w' h => ⟨fun k => k.trans h (fun _ x => x.elim), fun k => k.trans h (fun _ x => x.elim), ⟨fun _ k => k, fun _ k => k, fun _ k => k, fun _ k => k, fun _ k => k, fun _ k => k, fun _ k => k, fun _ k => k, fun _ k => k, fun _ k => k, fun _ k => k, fun _ k => k, fun _ k => k, fun _ k => k, fun _ k => k, fun _ k => k, fun _ k => k, fun _ k => k, fun _ k => k, fun _ k => k, fun _ k => k, fun _ k => IsTail.stable h k, fun _ k => k, fun _ k => k, trivial⟩, ⟨fun _ k => k, fun _ k => k, fun _ k => k, fun _ k => k, fun _ k => k, fun _ k => k, fun _ k => k, fun _ k => k, fun _ k => k, fun _ k => k, fun _ k => k, fun _ k => k, fun _ k => k, fun _ k => k, fun _ k => k, fun _ k => k, fun _ k => k, fun _ k => k, fun _ k => k, fun _ k => k, fun _ k => k, fun _ k => k, fun _ k => k, fun _ k => ⟨h.keeps k.1, h.keeps k.2.1, k.2.2.then h⟩, trivial⟩⟩
  case stabD26_2 => exact fun w w' h => ⟨fun k => k.trans h (fun _ x => .inl x), fun _ _ k => k, fun _ _ k => k, fun _ _ k => k, fun _ _ k => k, fun _ _ k => k, fun _ _ k => k, fun _ _ k => k, fun _ _ k => k, fun _ _ k => k, fun _ _ k => k, fun _ _ k => k, fun _ _ k => k, fun _ _ k => k, fun _ _ k => k, fun _ _ k => k, fun _ _ k => k, fun _ _ k => k, fun _ _ k => k, fun _ _ k => k, fun _ _ k => k, fun _ _ k => k, fun _ _ k => k, fun _ _ k => k, fun _ _ k => k, trivial⟩
  case obl26_2 =>
    refine ⟨?o26_2_0, ?o26_2_1, ?o26_2_2, ?o26_2_3, ?o26_2_4, ?o26_2_5, ?o26_2_6, ?o26_2_7, ?o26_2_8, ?o26_2_9, ?o26_2_10, ?o26_2_11, ?o26_2_12, ?o26_2_13, ?o26_2_14, ?o26_2_15, ?o26_2_16, ?o26_2_17, ?o26_2_18, ?o26_2_19, ?o26_2_20, ?o26_2_21, ?o26_2_22, ?o26_2_23, trivial⟩
    all_goals intro xv wq hH hS H hU aq ha Q' hQ
    case o26_2_0 => cases rd0 ha; clear H hU hS; go_wp2_with fail; (try refine hQ _ _ ?_); refine ⟨Step.refl _ _, ?_, trivial, nofun⟩; exact (rfl : _ = _)
    case o26_2_1 | o26_2_2 => have ha := rd1 ha H (by kernel_rfl) rfl; simp only [q3, q5, q6, q7] at ha; subst ha; clear H hU hS; go_wp2_with fail; (try refine hQ _ _ ?_); refine ⟨Step.refl _ _, ?_, trivial, nofun⟩; exact (rfl : _ = _)
    case o26_2_3 => obtain ⟨zf, zi⟩ := FZ.out _ hH; (try (have hH := hS (by decide); obtain ⟨f0, f3, f6, f7⟩ := FF.out _ (S3.out.then hH); obtain ⟨m3, ci⟩ := MF.out _ (S3.out.then hH); obtain ⟨b0, b1, b2, b3, b4, b5, b6, b7, b8, b9⟩ := FB.out _ hH; obtain ⟨v0, v1, v2, v3, v4, y0, y1, y2, y3, y4⟩ := cells_known5 (hH.keeps KV3.out))); have ha := rd1 ha H (by kernel_rfl) rfl; simp only [q3, q5, q6, q7] at ha; subst ha; clear H hU hS; go_wp2_with fail; (try refine hQ _ _ ?_); refine ⟨Step.refl _ _, ?_, trivial, nofun⟩; exact (rfl : _ = _)
    case o26_2_4 => cases rd0 ha; clear H hU hS; go_wp2_with fail; (try refine hQ _ _ ?_); refine ⟨Step.refl _ _, ?_, trivial, nofun⟩; exact (rfl : _ = _)
    case o26_2_5 | o26_2_6 => have ha := rd1 ha H (by kernel_rfl) rfl; simp only [q3, q5, q6, q7] at ha; subst ha; clear H hU hS; go_wp2_with fail; (try refine hQ _ _ ?_); refine ⟨Step.refl _ _, ?_, trivial, nofun⟩; exact (rfl : _ = _)
    case o26_2_7 => obtain ⟨zf, zi⟩ := FZ.out _ hH; (try (have hH := hS (by decide); obtain ⟨f0, f3, f6, f7⟩ := FF.out _ (S3.out.then hH); obtain ⟨m3, ci⟩ := MF.out _ (S3.out.then hH); obtain ⟨b0, b1, b2, b3, b4, b5, b6, b7, b8, b9⟩ := FB.out _ hH; obtain ⟨v0, v1, v2, v3, v4, y0, y1, y2, y3, y4⟩ := cells_known5 (hH.keeps KV3.out))); have ha := rd1 ha H (by kernel_rfl) rfl; simp only [q3, q5, q6, q7] at ha; subst ha; clear H hU hS; go_wp2_with fail; (try refine hQ _ _ ?_); refine ⟨Step.refl _ _, ?_, trivial, nofun⟩; exact (rfl : _ = _)
    case o26_2_8 | o26_2_9 => have ha := rd1 ha H (by kernel_rfl) rfl; simp only [q3, q5, q6, q7] at ha; subst ha; clear H hU hS; go_wp2_with fail; (try refine hQ _ _ ?_); refine ⟨Step.refl _ _, ?_, trivial, nofun⟩; exact (rfl : _ = _)
    case o26_2_10 | o26_2_11 | o26_2_12 | o26_2_13 => obtain ⟨zf, zi⟩ := FZ.out _ hH; (try (have hH := hS (by decide); obtain ⟨f0, f3, f6, f7⟩ := FF.out _ (S3.out.then hH); obtain ⟨m3, ci⟩ := MF.out _ (S3.out.then hH); obtain ⟨b0, b1, b2, b3, b4, b5, b6, b7, b8, b9⟩ := FB.out _ hH; obtain ⟨v0, v1, v2, v3, v4, y0, y1, y2, y3, y4⟩ := cells_known5 (hH.keeps KV3.out))); have ha := rd1 ha H (by kernel_rfl) rfl; simp only [q3, q5, q6, q7] at ha; subst ha; clear H hU hS; go_wp2_with fail; (try refine hQ _ _ ?_); refine ⟨Step.refl _ _, ?_, trivial, nofun⟩; exact (rfl : _ = _)
    case o26_2_14 => cases rd0 ha; clear H hU hS; go_wp2_with fail; (try refine hQ _ _ ?_); refine ⟨Step.refl _ _, ?_, trivial, nofun⟩; exact (rfl : _ = _)
    case o26_2_15 | o26_2_16 => have ha := rd1 ha H (by kernel_rfl) rfl; simp only [q3, q5, q6, q7] at ha; subst ha; clear H hU hS; go_wp2_with fail; (try refine hQ _ _ ?_); refine ⟨Step.refl _ _, ?_, trivial, nofun⟩; exact (rfl : _ = _)
    case o26_2_17 => obtain ⟨zf, zi⟩ := FZ.out _ hH; (try (have hH := hS (by decide); obtain ⟨f0, f3, f6, f7⟩ := FF.out _ (S3.out.then hH); obtain ⟨m3, ci⟩ := MF.out _ (S3.out.then hH); obtain ⟨b0, b1, b2, b3, b4, b5, b6, b7, b8, b9⟩ := FB.out _ hH; obtain ⟨v0, v1, v2, v3, v4, y0, y1, y2, y3, y4⟩ := cells_known5 (hH.keeps KV3.out))); have ha := rd1 ha H (by kernel_rfl) rfl; simp only [q3, q5, q6, q7] at ha; subst ha; clear H hU hS; go_wp2_with fail; (try refine hQ _ _ ?_); refine ⟨Step.refl _ _, ?_, trivial, nofun⟩; exact (rfl : _ = _)
    case o26_2_18 | o26_2_19 => have ha := rd1 ha H (by kernel_rfl) rfl; simp only [q3, q5, q6, q7] at ha; subst ha; clear H hU hS; go_wp2_with fail; (try refine hQ _ _ ?_); refine ⟨Step.refl _ _, ?_, trivial, nofun⟩; exact (rfl : _ = _)
    case o26_2_20 => obtain ⟨zf, zi⟩ := FZ.out _ hH; (try (have hH := hS (by decide); obtain ⟨f0, f3, f6, f7⟩ := FF.out _ (S3.out.then hH); obtain ⟨m3, ci⟩ := MF.out _ (S3.out.then hH); obtain ⟨b0, b1, b2, b3, b4, b5, b6, b7, b8, b9⟩ := FB.out _ hH; obtain ⟨v0, v1, v2, v3, v4, y0, y1, y2, y3, y4⟩ := cells_known5 (hH.keeps KV3.out))); have ha := rd1 ha H (by kernel_rfl) rfl; simp only [q3, q5, q6, q7] at ha; subst ha; clear H hU hS; go_wp2_with fail; (try refine hQ _ _ ?_); refine ⟨Step.refl _ _, ?_, trivial, nofun⟩; exact (rfl : _ = _)
    case o26_2_21 => obtain ⟨zf, zi⟩ := FZ.out _ hH; (try (have hH := hS (by decide); obtain ⟨f0, f3, f6, f7⟩ := FF.out _ (S3.out.then hH); obtain ⟨m3, ci⟩ := MF.out _ (S3.out.then hH); obtain ⟨b0, b1, b2, b3, b4, b5, b6, b7, b8, b9⟩ := FB.out _ hH; obtain ⟨v0, v1, v2, v3, v4, y0, y1, y2, y3, y4⟩ := cells_known5 (hH.keeps KV3.out))); have h20 : xv 20 = _ := H 20 (by kernel_rfl); change aq = puts _ xv [(20, some 160)] at ha; simp only [q1, q2, q3, q5, q6, q7, h20] at ha; subst ha; clear H h20; clear hU hS; go_wp2_with fail; all_goals (try refine hQ _ _ ?_); all_goals refine ⟨Step.refl _ _, ?_, trivial, nofun⟩; all_goals (first | exact ⟨_, _, rfl, HT1.out (by assumption)⟩ | exact ⟨_, _, rfl, HT2.out (by assumption)⟩)
    case o26_2_22 => cases rd0 ha; clear H hU hS; go_wp2_with fail; (try refine hQ _ _ ?_); refine ⟨Step.refl _ _, ?_, trivial, nofun⟩; exact (rfl : _ = _)
    case o26_2_23 =>
      obtain ⟨zf, zi⟩ := FZ.out _ hH; (try (have hH := hS (by decide); obtain ⟨f0, f3, f6, f7⟩ := FF.out _ (S3.out.then hH); obtain ⟨m3, ci⟩ := MF.out _ (S3.out.then hH); obtain ⟨b0, b1, b2, b3, b4, b5, b6, b7, b8, b9⟩ := FB.out _ hH; obtain ⟨v0, v1, v2, v3, v4, y0, y1, y2, y3, y4⟩ := cells_known5 (hH.keeps KV3.out))); have h13 : xv 13 = _ := H 13 (by kernel_rfl); have h22 : xv 22 = _ := H 22 (by kernel_rfl); change aq = puts _ xv [(13, some 153), (22, some 162)] at ha; simp only [q1, q2, q3, q5, q6, q7, h13, h22] at ha; subst ha; clear H h13 h22
      have S4 := Lib.hid (hS (by kernel_rfl))
      clear hU hS hH
      go_wp2_with fail
      (try refine hQ (.bool true) _ ?_)
      refine ⟨Step.setCell _ _ _ _ rfl, trivial, ?_, nofun⟩
      obtain ⟨w5, hw5, s5, kb5, kv5⟩ := putN (wb := w) ib (S3.out.then S4.out) (.inr HT.out.2.2.1) HT.out.2.2.2 (S4.out.keeps KB3.out) (S4.out.keeps KV3.out)
      rw [hw5] at s5 kb5 kv5
      exact ⟨kb5, kv5, s5⟩
  intro xv w4 hH hS H hU hsz hF hN
  have h0 : xv 0 = _ := H 0 (by decide) (by kernel_rfl); have h1 : xv 1 = _ := H 1 (by decide) (by kernel_rfl); have h2 : xv 2 = _ := H 2 (by decide) (by kernel_rfl); have h3 : xv 3 = _ := H 3 (by decide) (by kernel_rfl); have h4 : xv 4 = _ := H 4 (by decide) (by kernel_rfl); have h5 : xv 5 = _ := H 5 (by decide) (by kernel_rfl); have h6 : xv 6 = _ := H 6 (by decide) (by kernel_rfl); have h7 : xv 7 = _ := H 7 (by decide) (by kernel_rfl); have h8 : xv 8 = _ := H 8 (by decide) (by kernel_rfl); have h9 : xv 9 = _ := H 9 (by decide) (by kernel_rfl); have h10 : xv 10 = _ := H 10 (by decide) (by kernel_rfl); have h11 : xv 11 = _ := H 11 (by decide) (by kernel_rfl); have h12 : xv 12 = _ := H 12 (by decide) (by kernel_rfl); have h13 : xv 13 = _ := H 13 (by decide) (by kernel_rfl); have h14 : xv 14 = _ := H 14 (by decide) (by kernel_rfl); have h15 : xv 15 = _ := H 15 (by decide) (by kernel_rfl); have h16 : xv 16 = _ := H 16 (by decide) (by kernel_rfl); have h17 : xv 17 = _ := H 17 (by decide) (by kernel_rfl); have h18 : xv 18 = _ := H 18 (by decide) (by kernel_rfl); have h19 : xv 19 = _ := H 19 (by decide) (by kernel_rfl); have h20 : xv 20 = _ := H 20 (by decide) (by kernel_rfl); obtain ⟨p21, cap21, h21, i21⟩ : (IsTail w0 ir) (xv 21) w4 := H 21 (by decide) (by kernel_rfl); have h22 : xv 22 = _ := H 22 (by decide) (by kernel_rfl)
  simp only [planGet, q1, q2, q3, q5, q6, q7, q4, List.drop_succ_cons, List.drop_zero, h0, h1, h2, h3, h4, h5, h6, h7, h8, h9, h10, h11, h12, h13, h14, h15, h16, h17, h18, h19, h20, h21, h22]
  have hL := hU 23 (by decide) (by kernel_rfl)
  clear H hF hN hS hU h0 h1 h2 h3 h4 h5 h6 h7 h8 h9 h10 h11 h12 h13 h14 h15 h16 h17 h18 h19 h20 h21 h22
  obtain ⟨kb4, kv4, s4⟩ : w4.heap[tb]? = some (.cells #[.int .i64 21, .int .i64 dst, .int .i64 a, .int .i64 b, .int .u64 n, .int .i64 size, .string name, va, vo, .int .i64 tt] 42 (0, 0)) ∧ w4.heap[tv]? = some (.cells #[.int .u64 ib, .int .i64 0, .int .i64 0, .int .i64 0, .int .i64 0] 98 (0, 0)) ∧ Step (fun _ => False) w w4 := hL
  have P4 := PP.out.still s4
  have z4 := free_known P4.struct 3
  have m4 := cell_known P4.struct (i := 3) rfl
  obtain ⟨P5, ch5⟩ := P4.inputNext i21
  have npw : own pw ≠ 0 := by have := P4.tag.1; omega
  have hpwl := lt_known PP.out.struct
  have htb : own tb = 0 := HT.out.2.1
  have htv : own tv = 0 := by
    by_cases e : own tv = 0
    · exact e
    · have h1 := (HW.out.low _ e).2
      have h2 := HT.out.2.2.1
      omega
  have KB5 := Lib.hid (ch5.keeps kb4 htb)
  have KV5 := Lib.hid (ch5.keeps kv4 htv)
  have HW5 := Lib.hid P5.whole
  have CH5 := Lib.hid ((Chg.calm own s4).trans ch5)
  have HF5 := Lib.hid (HF.out.keep CH5.out)
  clear hH kb4 kv4 s4 P4 P5 ch5 i21 npw hpwl htb htv KB3 KV3 FB
  go_upto_region 27 with fail
  generalize w4.setCell ⟨pw, 3, none⟩ (.slice p21 ir.length cap21) = w5 at *
  clear z4 m4
  have FB := Lib.hid (box_facts KB5.out)
  have FF5 := Lib.hid (frame_facts HF5.out)
  have FR5 := Lib.hid (reg_facts HF5.out)
  obtain ⟨b0, b1, b2, b3, b4, b5, b6, b7, b8, b9⟩ := FB.out _ (Step.refl _ _)
  have hd0 : decide (0 ≤ dst) = true := decide_eq_true ok_dst.1
  go_upto_region 28 with fail
  clear b0 b1 b2 b3 b4 b5 b6 b7 b8 b9
  refine wp_region_each 7 planDg28 (fun _ _ => False) (Step (fun _ => False) w5) (fun _ => True) [Is ?v28_3_0, Is ?v28_3_1, Is ?v28_3_2, Is ?v28_3_3, Is ?v28_3_4, Is ?v28_3_5, Is ?v28_3_6] [] (by kernel_rfl) (by kernel_rfl) (fun _ _ h => h.elim) ((Step.refl _ _).drew) (trivial) ?stab28_3 ?stabD28_3 ?obl28_3 ?fin28_3
  case stab28_3 => exact fun w w' h => ⟨fun k => k.trans h (fun _ x => x.elim), fun _ => trivial, ⟨fun _ k => k, fun _ k => k, fun _ k => k, fun _ k => k, fun _ k => k, fun _ k => k, fun _ k => k, trivial⟩, trivial⟩
  case stabD28_3 => exact fun _ _ h => h.elim
  case obl28_3 =>
    refine ⟨?o28_3_0, ?o28_3_1, ?o28_3_2, ?o28_3_3, ?o28_3_4, ?o28_3_5, ?o28_3_6, trivial⟩
    all_goals intro xv wq hH hS H hU aq ha Q' hQ
    case o28_3_0 => cases rd0 ha; clear H hU hS; go_wp2_with fail; (try refine hQ _ _ ?_); refine ⟨Step.refl _ _, ?_, trivial, nofun⟩; exact (rfl : _ = _)
    case o28_3_1 | o28_3_2 => have ha := rd1 ha H (by kernel_rfl) rfl; simp only [q3, q5, q6, q7] at ha; subst ha; clear H hU hS; go_wp2_with fail; (try refine hQ _ _ ?_); refine ⟨Step.refl _ _, ?_, trivial, nofun⟩; exact (rfl : _ = _)
    case o28_3_3 => obtain ⟨f0, f3, f6, f7⟩ := FF5.out _ hH; obtain ⟨b0, b1, b2, b3, b4, b5, b6, b7, b8, b9⟩ := FB.out _ hH; obtain ⟨v0, v1, v2, v3, v4, y0, y1, y2, y3, y4⟩ := cells_known5 (hH.keeps KV5.out); have ha := rd1 ha H (by kernel_rfl) rfl; simp only [q3, q5, q6, q7] at ha; subst ha; clear H hU hS; go_wp2_with fail; (try refine hQ _ _ ?_); refine ⟨Step.refl _ _, ?_, trivial, nofun⟩; exact (rfl : _ = _)
    case o28_3_4 => cases rd0 ha; clear H hU hS; go_wp2_with fail; (try refine hQ _ _ ?_); refine ⟨Step.refl _ _, ?_, trivial, nofun⟩; exact (rfl : _ = _)
    case o28_3_5 => obtain ⟨f0, f3, f6, f7⟩ := FF5.out _ hH; obtain ⟨b0, b1, b2, b3, b4, b5, b6, b7, b8, b9⟩ := FB.out _ hH; obtain ⟨v0, v1, v2, v3, v4, y0, y1, y2, y3, y4⟩ := cells_known5 (hH.keeps KV5.out); have ha := rd1 ha H (by kernel_rfl) rfl; simp only [q3, q5, q6, q7] at ha; subst ha; clear H hU hS; go_wp2_with fail; (try refine hQ _ _ ?_); refine ⟨Step.refl _ _, ?_, trivial, nofun⟩; exact (rfl : _ = _)
    case o28_3_6 => obtain ⟨f0, f3, f6, f7⟩ := FF5.out _ hH; obtain ⟨b0, b1, b2, b3, b4, b5, b6, b7, b8, b9⟩ := FB.out _ hH; obtain ⟨v0, v1, v2, v3, v4, y0, y1, y2, y3, y4⟩ := cells_known5 (hH.keeps KV5.out); cases rd0 ha; clear H hU hS; go_wp2_with fail; (try refine hQ _ _ ?_); refine ⟨Step.refl _ _, ?_, trivial, nofun⟩; exact (rfl : _ = _)
  intro xv w9 hH hS H hU hsz hF hN
  have h0 : xv 0 = _ := H 0 (by decide) (by kernel_rfl); have h1 : xv 1 = _ := H 1 (by decide) (by kernel_rfl); have h2 : xv 2 = _ := H 2 (by decide) (by kernel_rfl); have h3 : xv 3 = _ := H 3 (by decide) (by kernel_rfl); have h4 : xv 4 = _ := H 4 (by decide) (by kernel_rfl); have h5 : xv 5 = _ := H 5 (by decide) (by kernel_rfl); have h6 : xv 6 = _ := H 6 (by decide) (by kernel_rfl)
  simp only [planDg28, q1, q2, q3, q5, q6, q7, q4, List.drop_succ_cons, List.drop_zero, h0, h1, h2, h3, h4, h5, h6]
  clear H hF hN hS hU h0 h1 h2 h3 h4 h5 h6
  have S9 := Lib.hid hH
  obtain ⟨f0, f3, f6, f7⟩ := FF5.out _ S9.out
  obtain ⟨c0_dst, c1_dst, c2_dst, c3_dst, c4_dst, z_dst⟩ := FR5.out _ S9.out dst ok_dst
  clear hH
  go_wp2_with fail
  go_end0
  exact ⟨rfl, went_set (HW5.out.still S9.out) (HF5.out.still S9.out) ((CH5.out.trans (Chg.calm own S9.out)).g gx) HL.out rfl (by omega) (numV ib)⟩
end
end Go.Proofs.Ytojfgdoniajmeaa
