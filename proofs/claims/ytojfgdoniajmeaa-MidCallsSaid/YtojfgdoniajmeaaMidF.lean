/- Package mid: MClear, MFree, MPut, MGet. -/
import Derived.Test.YtojfgdoniajmeaaMidE
namespace Go.Proofs.Ytojfgdoniajmeaa
set_option linter.unusedVariables false
set_option linter.unusedSimpArgs false
open Go.RowKit

theorem u8_info : (Try.prog.info? 5).map (fun i => (i.zero, i.size, i.bytes)) = some (some (.int .u8 0), 1, 1) := by kernel_rfl
/-- after a row got one more: what stands there -/
def Grew (w : World) (own : Nat → Nat) (o : Nat) (T : TypeId) (xs : List Value) (y : Value) (w' : World) : Prop :=
  ∃ g cap, y = .slice (some ⟨g, 0, none⟩) xs.length cap ∧ RowAt w' (fun b => own b = o ∨ w.heap.size ≤ b) T 1 (.slice (some ⟨g, 0, none⟩) xs.length cap) xs.length xs ∧ Step (fun b => own b = o) w w'
theorem Grew.stable {w : World} {own : Nat → Nat} {o : Nat} {T : TypeId} {xs : List Value} {y : Value} {w' w'' : World} (h : Step (fun _ => False) w' w'') (k : Grew w own o T xs y w') : Grew w own o T xs y w'' := by
  obtain ⟨g, cap, rfl, k1, k2⟩ := k
  exact ⟨g, cap, rfl, k1.same fun b _ hb => h.block b hb fun x => x, k2.trans h fun _ x => x.elim⟩
/-- a slice of its own, just made -/
def IsRow (W : World) (o : Obj) (n : Nat) (y : Value) (w : World) : Prop := ∃ b, y = .slice (some ⟨b, 0, none⟩) n n ∧ W.heap.size ≤ b ∧ w.heap[b]? = some o
theorem IsRow.stable {W : World} {o : Obj} {n : Nat} {y : Value} {w w' : World} (h : Step (fun _ => False) w w') (k : IsRow W o n y w) : IsRow W o n y w' := by
  obtain ⟨b, e, l, k⟩ := k
  exact ⟨b, e, l, (h.block b (lt_obj k) (fun x => x)).trans k⟩
/-- the cells of a block, as those of a slice that begins it -/
theorem row_add {w : World} {b : Nat} {c : Array Value} {T : TypeId} (h : w.heap[b]? = some (.cells c T (0, 0))) : ∀ (j : Nat) (u : Value), c.toList[j]? = some u → w.cell? ((⟨b, 0, none⟩ : Addr).add j) = some u := by
  intro j u hj
  have hadd : (⟨b, 0, none⟩ : Addr).add j = ⟨b, j, none⟩ := by unfold Addr.add; split <;> simp_all
  rw [hadd]
  exact cell_known h (by simpa using hj)
section
variable {w0 w w' w1 w2 : World} {pf pw gx : Nat} {own own' own'' : Nat → Nat} {vn vp vk vs vc vr vl : Value} {regs : List HV} {slots : List HP} {fnv : List UInt8 → Option Value} {tops : List UInt8 → Option HP} {st : MSt} {c : Nat}
def planEff5 : Plan where
  T := [[], [0], [0, 1], [0, 1, 2], [0, 1, 2, 3], [0, 1, 2, 3, 4], [0, 1, 2, 3, 4, 5], [], [7], [7, 8], [7, 8, 9], [], [11], [7, 8, 9, 10, 11, 12], [7, 8, 9, 10, 11, 12, 13], [7, 8, 9, 10, 11, 12, 13, 14], [0, 1, 2, 3, 4, 5, 6, 7, 8, 9, 10, 11, 12, 13, 14, 15]]
  rd := [[], [(0, some 44)], [(1, some 45)], [(2, some 46)], [(3, some 47)], [(4, some 48)], [(5, some 49)], [], [(7, some 51)], [(8, some 52)], [(9, some 53)], [], [(11, some 55)], [(10, some 54), (12, some 56)], [(13, some 57)], [(14, some 58)]]
  all := [(15, some 59), (14, some 58), (13, some 57), (12, some 56), (11, some 55), (10, some 54), (9, some 53), (8, some 52), (7, some 51), (6, some 50), (5, some 49), (4, some 48), (3, some 47), (2, some 46), (1, some 45), (0, some 44)]
  calm := [true, true, true, true, true, true, true, true, true, true, true, true, true, true, true, true]
  hard := []
  fresh := [false, false, false, false, false, false, false, false, false, false, false, false, false, false, false, false]

def planEff7 : Plan where
  T := [[], [0], [0, 1], [0, 1, 2], [0, 1, 2, 3], [0, 1, 2, 3, 4], [0, 1, 2, 3, 4, 5], [], [7], [7, 8], [7, 8, 9], [], [11], [7, 8, 9, 10, 11, 12], [7, 8, 9, 10, 11, 12, 13], [7, 8, 9, 10, 11, 12, 13, 14], [0, 1, 2, 3, 4, 5, 6, 7, 8, 9, 10, 11, 12, 13, 14, 15], [0, 1, 2, 3, 4, 5, 6, 7, 8, 9, 10, 11, 12, 13, 14, 15, 16]]
  rd := [[], [(0, some 63)], [(1, some 64)], [(2, some 65)], [(3, some 66)], [(4, some 67)], [(5, some 68)], [], [(7, some 70)], [(8, some 71)], [(9, some 72)], [], [(11, some 74)], [(10, some 73), (12, some 75)], [(13, some 76)], [(14, some 77)]]
  all := [(15, some 78), (14, some 77), (13, some 76), (12, some 75), (11, some 74), (10, some 73), (9, some 72), (8, some 71), (7, some 70), (6, some 69), (5, some 68), (4, some 67), (3, some 66), (2, some 65), (1, some 64), (0, some 63)]
  calm := [true, true, true, true, true, true, true, true, true, true, true, true, true, true, true, true]
  hard := []
  fresh := [false, false, false, false, false, false, false, false, false, false, false, false, false, false, false, false]

def planPut : Plan where
  T := [[], [0], [0, 1], [0, 1, 2], [], [4], [4, 5], [4, 5, 6], [4, 5, 6, 7], [4, 5, 6, 7, 8], [4, 5, 6, 7, 8, 9], [], [11], [11, 12], [11, 12, 13], [], [15], [11, 12, 13, 14, 15, 16], [11, 12, 13, 14, 15, 16, 17], [11, 12, 13, 14, 15, 16, 17, 18], [11, 12, 13, 14, 15, 16, 17, 18, 19], [11, 12, 13, 14, 15, 16, 17, 18, 19, 20], [4, 5, 6, 7, 8, 9, 10, 11, 12, 13, 14, 15, 16, 17, 18, 19, 20, 21], [0, 1, 2, 3, 4, 5, 6, 7, 8, 9, 10, 11, 12, 13, 14, 15, 16, 17, 18, 19, 20, 21, 22], [0, 1, 2, 3, 4, 5, 6, 7, 8, 9, 10, 11, 12, 13, 14, 15, 16, 17, 18, 19, 20, 21, 22, 23], [0, 1, 2, 3, 4, 5, 6, 7, 8, 9, 10, 11, 12, 13, 14, 15, 16, 17, 18, 19, 20, 21, 22, 23, 24]]
  rd := [[], [(0, some 83)], [(1, some 84)], [(2, some 85)], [], [(4, some 87)], [(5, some 88)], [(6, some 89)], [(7, some 90)], [(8, some 91)], [(9, some 92)], [], [(11, some 94)], [(12, some 95)], [(13, some 96)], [], [(15, some 98)], [(14, some 97), (16, some 99)], [(17, some 100)], [(18, some 101)], [(19, some 102)], [(20, some 103)], [(10, some 93), (21, some 104)]]
  all := [(22, some 105), (21, some 104), (20, some 103), (19, some 102), (18, some 101), (17, some 100), (16, some 99), (15, some 98), (14, some 97), (13, some 96), (12, some 95), (11, some 94), (10, some 93), (9, some 92), (8, some 91), (7, some 90), (6, some 89), (5, some 88), (4, some 87), (3, some 86), (2, some 85), (1, some 84), (0, some 83)]
  calm := [true, true, true, true, true, true, true, true, true, true, true, true, true, true, true, true, true, true, true, true, true, true, false]
  hard := [true, true, true, true, true, true, true, true, true, true, true, true, true, true, true, true, true, true, true, true, true, false, true]
  fresh := [false, false, false, false, false, false, false, false, false, false, false, false, false, false, false, false, false, false, false, false, false, true, false]

set_option maxHeartbeats 4000000 in
set_option maxRecDepth 100000 in
theorem eff_13 (hW : MWAt w0 w pw own fnv tops st c) (hF : MFr w own pf pw gx vn vp vk vs vc vr vl regs slots) (hl : w0.heap.size ≤ gx) {v : Value} {i : FIns} (hi : InsAt w0 v i) (ho : i.op = 13)  (on : 0 ≤ i.n ∧ i.n < slots.length) (hsl : slots.length ≤ 1000000) (hb : i64B (slots.getD i.n.toNat HP.zero).block) :
    Calls Try.prog 68 #[.pointer (some ⟨pf, 0, none⟩), v] w (fun e w' => e = .returned (.tuple #[]) ∧ ∃ c' : Nat, c' ≤ c ∧ Went w0 w pw own fnv tops pf gx vn vp vk vs vc vr vl slots (clearM st (slots.getD i.n.toNat HP.zero).block) c' regs w') := by
  obtain ⟨va, vo, rfl, iargs, iouts⟩ := hi
  obtain ⟨op, dst, a, b, n, size, name, args, outs, tt⟩ := i
  simp only at *
  subst ho
  have HW := Lib.hid hW
  have HF := Lib.hid hF
  have HL := Lib.hid hl
  have FF := Lib.hid (frame_facts hF)
  have FR := Lib.hid (reg_facts hF)
  obtain ⟨ph, bt, bf, vin, vout, P⟩ := HW.out
  have PP := Lib.hid P
  have MF := Lib.hid (show ∀ y, Step (fun _ => False) w y → y.cell? ⟨pw, 0, none⟩ = some (.pointer (some ⟨ph, 0, none⟩)) from fun y hy => cell_known (hy.keeps P.struct) rfl)
  obtain ⟨sg, scap, rfl, fs⟩ := slot_facts HF.out (by omega)
  obtain ⟨p, hp⟩ : ∃ p, slots.getD n.toNat HP.zero = p := ⟨_, rfl⟩
  rw [hp] at hb ⊢
  have FS := Lib.hid (show ∀ y, Step (fun _ => False) w y → y.cell? ⟨sg, n.toNat * 4, none⟩ = some (.int .i64 p.block) ∧ y.cell? ⟨sg, n.toNat * 4 + 1, none⟩ = some (.int .i64 p.off) ∧ y.cell? ⟨sg, n.toNat * 4 + 2, none⟩ = some (.int .i64 p.low) ∧ y.cell? ⟨sg, n.toNat * 4 + 3, none⟩ = some (.int .i64 p.high) from fun y hy => by rw [← hp]; exact fs y hy n on)
  unfold i64B at hb
  have CL := Lib.hid (show ∀ y, Step (fun _ => False) w y → Calls Try.prog 60 #[.pointer (some ⟨ph, 0, none⟩), .int .i64 p.block] y fun e w' => ∃ r : Int, e = .returned (.int .i64 r) ∧ (goneOf st.blks p.block = 0 ∧ Step (fun b => own b = 4) y w' ∧ HeapAt w' ph (setAt st.blks p.block fun y => { y with used := false }) (struck st.at_ p.block) c (fun b => own b = 4) ∨ goneOf st.blks p.block ≠ 0 ∧ Step (fun _ => False) y w') from fun y hy => (clear_any ph p.block st.blks st.at_ c _ y (P.still hy).heap P.lens.1 hb.1 hb.2).mono fun e w' ⟨h1, h2⟩ => ⟨_, h1, by
      by_cases e0 : goneOf st.blks p.block = 0
      · rw [if_pos e0] at h2; exact .inl ⟨e0, h2⟩
      · rw [if_neg e0] at h2; exact .inr ⟨e0, h2⟩⟩)
  clear P fs hp hb
  clear hW hF hl
  obtain ⟨f0, f3, f6, f7⟩ := FF.out _ (Step.refl _ _)
  have hpf := block_lt f6
  simp only at hpf
  have kb := heap_alloc_new w (.cells #[.int .i64 13, .int .i64 dst, .int .i64 a, .int .i64 b, .int .u64 n, .int .i64 size, .string name, va, vo, .int .i64 tt] 42 (0, 0))
  have s1 := Step.alloc (fun _ => False) w (.cells #[.int .i64 13, .int .i64 dst, .int .i64 a, .int .i64 b, .int .u64 n, .int .i64 size, .string name, va, vo, .int .i64 tt] 42 (0, 0))
  have HT := Lib.hid (show gx < w.heap.size ∧ own w.heap.size = 0 from ⟨HF.out.free.2.2.2, HW.out.fresh0⟩)
  have KB := Lib.hid kb
  have S1 := Lib.hid s1
  clear kb s1
  go_enter Try.func68, Try.ntmps68
  go_upto_region 1 with fail
  clear f0 f3 f6 f7 hpf
  generalize w.alloc (.cells #[.int .i64 13, .int .i64 dst, .int .i64 a, .int .i64 b, .int .u64 n, .int .i64 size, .string name, va, vo, .int .i64 tt] 42 (0, 0)) = w1 at KB S1 ⊢
  generalize w.heap.size = tb at KB HT ⊢
  have FB := Lib.hid (box_facts KB.out)
  obtain ⟨b0, b1, b2, b3, b4, b5, b6, b7, b8, b9⟩ := FB.out _ (Step.refl _ _)
  go_upto_region 5 with fail
  clear b0 b1 b2 b3 b4 b5 b6 b7 b8 b9
  refine wp_region_each 16 planEff5 (fun _ _ => False) (Step (fun _ => False) w1) (fun _ => True) [Is ?v5_1_0, Is ?v5_1_1, Is ?v5_1_2, Is ?v5_1_3, Is ?v5_1_4, Is ?v5_1_5, Is ?v5_1_6, Is ?v5_1_7, Is ?v5_1_8, Is ?v5_1_9, Is ?v5_1_10, Is ?v5_1_11, Is ?v5_1_12, Is ?v5_1_13, Is ?v5_1_14, Is ?v5_1_15] [] (by kernel_rfl) (by kernel_rfl) (fun _ _ h => h.elim) ((Step.refl _ _).drew) (trivial) ?stab5_1 ?stabD5_1 ?obl5_1 ?fin5_1
  case stab5_1 => exact fun w w' h => ⟨fun k => k.trans h (fun _ x => x.elim), fun _ => trivial, ⟨fun _ k => k, fun _ k => k, fun _ k => k, fun _ k => k, fun _ k => k, fun _ k => k, fun _ k => k, fun _ k => k, fun _ k => k, fun _ k => k, fun _ k => k, fun _ k => k, fun _ k => k, fun _ k => k, fun _ k => k, fun _ k => k, trivial⟩, trivial⟩
  case stabD5_1 => exact fun _ _ h => h.elim
  case obl5_1 =>
    refine ⟨?o5_1_0, ?o5_1_1, ?o5_1_2, ?o5_1_3, ?o5_1_4, ?o5_1_5, ?o5_1_6, ?o5_1_7, ?o5_1_8, ?o5_1_9, ?o5_1_10, ?o5_1_11, ?o5_1_12, ?o5_1_13, ?o5_1_14, ?o5_1_15, trivial⟩
    all_goals intro xv wq hH hS H hU aq ha Q' hQ
    case o5_1_0 => cases rd0 ha; clear H hU hS; go_wp2_with fail; (try refine hQ _ _ ?_); refine ⟨Step.refl _ _, ?_, trivial, nofun⟩; exact (rfl : _ = _)
    case o5_1_1 | o5_1_2 => have ha := rd1 ha H (by kernel_rfl) rfl; simp only [q3, q5, q6, q7] at ha; subst ha; clear H hU hS; go_wp2_with fail; (try refine hQ _ _ ?_); refine ⟨Step.refl _ _, ?_, trivial, nofun⟩; exact (rfl : _ = _)
    case o5_1_3 => obtain ⟨f0, f3, f6, f7⟩ := FF.out _ (S1.out.then hH); have m0 := MF.out _ (S1.out.then hH); obtain ⟨b0, b1, b2, b3, b4, b5, b6, b7, b8, b9⟩ := FB.out _ hH; obtain ⟨s0, s1, s2, s3⟩ := FS.out _ (S1.out.then hH); have ha := rd1 ha H (by kernel_rfl) rfl; simp only [q3, q5, q6, q7] at ha; subst ha; clear H hU hS; go_wp2_with fail; (try refine hQ _ _ ?_); refine ⟨Step.refl _ _, ?_, trivial, nofun⟩; exact (rfl : _ = _)
    case o5_1_4 | o5_1_5 => have ha := rd1 ha H (by kernel_rfl) rfl; simp only [q3, q5, q6, q7] at ha; subst ha; clear H hU hS; go_wp2_with fail; (try refine hQ _ _ ?_); refine ⟨Step.refl _ _, ?_, trivial, nofun⟩; exact (rfl : _ = _)
    case o5_1_6 => obtain ⟨f0, f3, f6, f7⟩ := FF.out _ (S1.out.then hH); have m0 := MF.out _ (S1.out.then hH); obtain ⟨b0, b1, b2, b3, b4, b5, b6, b7, b8, b9⟩ := FB.out _ hH; obtain ⟨s0, s1, s2, s3⟩ := FS.out _ (S1.out.then hH); have ha := rd1 ha H (by kernel_rfl) rfl; simp only [q3, q5, q6, q7] at ha; subst ha; clear H hU hS; go_wp2_with fail; (try refine hQ _ _ ?_); refine ⟨Step.refl _ _, ?_, trivial, nofun⟩; exact (rfl : _ = _)
    case o5_1_7 => cases rd0 ha; clear H hU hS; go_wp2_with fail; (try refine hQ _ _ ?_); refine ⟨Step.refl _ _, ?_, trivial, nofun⟩; exact (rfl : _ = _)
    case o5_1_8 | o5_1_9 => have ha := rd1 ha H (by kernel_rfl) rfl; simp only [q3, q5, q6, q7] at ha; subst ha; clear H hU hS; go_wp2_with fail; (try refine hQ _ _ ?_); refine ⟨Step.refl _ _, ?_, trivial, nofun⟩; exact (rfl : _ = _)
    case o5_1_10 => obtain ⟨f0, f3, f6, f7⟩ := FF.out _ (S1.out.then hH); have m0 := MF.out _ (S1.out.then hH); obtain ⟨b0, b1, b2, b3, b4, b5, b6, b7, b8, b9⟩ := FB.out _ hH; obtain ⟨s0, s1, s2, s3⟩ := FS.out _ (S1.out.then hH); have ha := rd1 ha H (by kernel_rfl) rfl; simp only [q3, q5, q6, q7] at ha; subst ha; clear H hU hS; go_wp2_with fail; (try refine hQ _ _ ?_); refine ⟨Step.refl _ _, ?_, trivial, nofun⟩; exact (rfl : _ = _)
    case o5_1_11 => cases rd0 ha; clear H hU hS; go_wp2_with fail; (try refine hQ _ _ ?_); refine ⟨Step.refl _ _, ?_, trivial, nofun⟩; exact (rfl : _ = _)
    case o5_1_12 => obtain ⟨f0, f3, f6, f7⟩ := FF.out _ (S1.out.then hH); have m0 := MF.out _ (S1.out.then hH); obtain ⟨b0, b1, b2, b3, b4, b5, b6, b7, b8, b9⟩ := FB.out _ hH; obtain ⟨s0, s1, s2, s3⟩ := FS.out _ (S1.out.then hH); have ha := rd1 ha H (by kernel_rfl) rfl; simp only [q3, q5, q6, q7] at ha; subst ha; clear H hU hS; go_wp2_with fail; (try refine hQ _ _ ?_); refine ⟨Step.refl _ _, ?_, trivial, nofun⟩; exact (rfl : _ = _)
    case o5_1_13 => obtain ⟨f0, f3, f6, f7⟩ := FF.out _ (S1.out.then hH); have m0 := MF.out _ (S1.out.then hH); obtain ⟨b0, b1, b2, b3, b4, b5, b6, b7, b8, b9⟩ := FB.out _ hH; obtain ⟨s0, s1, s2, s3⟩ := FS.out _ (S1.out.then hH); have ha := rd2 ha H (by kernel_rfl) (by kernel_rfl) rfl rfl; simp only [q3, q5, q6, q7] at ha; subst ha; clear H hU hS; go_wp2_with fail; (try refine hQ _ _ ?_); refine ⟨Step.refl _ _, ?_, trivial, nofun⟩; exact (rfl : _ = _)
    case o5_1_14 => have ha := rd1 ha H (by kernel_rfl) rfl; simp only [q3, q5, q6, q7] at ha; subst ha; clear H hU hS; go_wp2_with fail; (try refine hQ _ _ ?_); refine ⟨Step.refl _ _, ?_, trivial, nofun⟩; exact (rfl : _ = _)
    case o5_1_15 => obtain ⟨f0, f3, f6, f7⟩ := FF.out _ (S1.out.then hH); have m0 := MF.out _ (S1.out.then hH); obtain ⟨b0, b1, b2, b3, b4, b5, b6, b7, b8, b9⟩ := FB.out _ hH; obtain ⟨s0, s1, s2, s3⟩ := FS.out _ (S1.out.then hH); have ha := rd1 ha H (by kernel_rfl) rfl; simp only [q3, q5, q6, q7] at ha; subst ha; clear H hU hS; go_wp2_with fail; (try refine hQ _ _ ?_); refine ⟨Step.refl _ _, ?_, trivial, nofun⟩; exact (rfl : _ = _)
  intro xv w2 hH hS H hU hsz hF hN
  have h0 : xv 0 = _ := H 0 (by decide) (by kernel_rfl); have h1 : xv 1 = _ := H 1 (by decide) (by kernel_rfl); have h2 : xv 2 = _ := H 2 (by decide) (by kernel_rfl); have h3 : xv 3 = _ := H 3 (by decide) (by kernel_rfl); have h4 : xv 4 = _ := H 4 (by decide) (by kernel_rfl); have h5 : xv 5 = _ := H 5 (by decide) (by kernel_rfl); have h6 : xv 6 = _ := H 6 (by decide) (by kernel_rfl); have h7 : xv 7 = _ := H 7 (by decide) (by kernel_rfl); have h8 : xv 8 = _ := H 8 (by decide) (by kernel_rfl); have h9 : xv 9 = _ := H 9 (by decide) (by kernel_rfl); have h10 : xv 10 = _ := H 10 (by decide) (by kernel_rfl); have h11 : xv 11 = _ := H 11 (by decide) (by kernel_rfl); have h12 : xv 12 = _ := H 12 (by decide) (by kernel_rfl); have h13 : xv 13 = _ := H 13 (by decide) (by kernel_rfl); have h14 : xv 14 = _ := H 14 (by decide) (by kernel_rfl); have h15 : xv 15 = _ := H 15 (by decide) (by kernel_rfl)
  simp only [planEff5, q1, q2, q3, q5, q6, q7, q4, List.drop_succ_cons, List.drop_zero, h0, h1, h2, h3, h4, h5, h6, h7, h8, h9, h10, h11, h12, h13, h14, h15]
  clear H hF hN hS hU h0 h1 h2 h3 h4 h5 h6 h7 h8 h9 h10 h11 h12 h13 h14 h15
  have SA := Lib.hid hH
  have SB := Lib.hid (S1.out.then hH)
  clear hH
  obtain ⟨f0, f3, f6, f7⟩ := FF.out _ SB.out
  have m0 := MF.out _ SB.out
  obtain ⟨b0, b1, b2, b3, b4, b5, b6, b7, b8, b9⟩ := FB.out _ SA.out
  obtain ⟨s0, s1, s2, s3⟩ := FS.out _ SB.out
  go_wp2_with fail
  refine (CL.out _ SB.out).mono ?_
  rintro e w3 ⟨r, rfl, hr⟩
  have HR := Lib.hid hr
  clear hr
  go_wp2_with fail
  go_end0
  rcases HR.out with ⟨e0, s3, hh⟩ | ⟨e0, s3⟩
  · obtain ⟨own1, ch, P3⟩ := (PP.out.still SB.out).heapNext (Nat.le_refl c) s3 hh (fun b hb => .inl hb) (by have := PP.out.lens; simp only [setAt, List.length_modify]; omega)
    have CH := (Chg.calm own SB.out).trans ch
    refine ⟨rfl, c, Nat.le_refl _, own1, CH.g gx, ?_, HF.out.keep CH⟩
    unfold clearM
    rw [if_pos e0]
    exact P3.whole
  · have S3 := SB.out.then s3
    refine ⟨rfl, c, Nat.le_refl _, own, (Chg.calm own S3).g gx, ?_, HF.out.still S3⟩
    unfold clearM
    rw [if_neg e0]
    exact HW.out.still S3
set_option maxHeartbeats 4000000 in
set_option maxRecDepth 100000 in
theorem eff_15ok (hW : MWAt w0 w pw own fnv tops st c) (hF : MFr w own pf pw gx vn vp vk vs vc vr vl regs slots) (hl : w0.heap.size ≤ gx) {v : Value} {i : FIns} (hi : InsAt w0 v i) (ho : i.op = 15) (ok_a : ok1 regs i.a) (hx : i64B (rgV regs i.a).ptr.block ∧ i64B (rgV regs i.a).ptr.off ∧ i64B (rgV regs i.a).ptr.high) (he : freeOf st.blks (rgV regs i.a).ptr.block (rgV regs i.a).ptr.off (rgV regs i.a).ptr.low (rgV regs i.a).ptr.high = 0) :
    Calls Try.prog 68 #[.pointer (some ⟨pf, 0, none⟩), v] w (fun e w' => e = .returned (.tuple #[]) ∧ ∃ c' : Nat, c' ≤ c ∧ Went w0 w pw own fnv tops pf gx vn vp vk vs vc vr vl slots (gone st (rgV regs i.a).ptr.block) c' regs w') := by
  obtain ⟨va, vo, rfl, iargs, iouts⟩ := hi
  obtain ⟨op, dst, a, b, n, size, name, args, outs, tt⟩ := i
  simp only at *
  subst ho
  obtain ⟨rcap, rfl⟩ := regs_slice hF (by unfold ok1 at ok_a; omega)
  have HW := Lib.hid hW
  have HF := Lib.hid hF
  have HL := Lib.hid hl
  have FF := Lib.hid (frame_facts hF)
  have FR := Lib.hid (reg_facts hF)
  unfold ok1 at ok_a
  obtain ⟨ph, bt, bf, vin, vout, P⟩ := HW.out
  have PP := Lib.hid P
  have MF := Lib.hid (show ∀ y, Step (fun _ => False) w y → y.cell? ⟨pw, 0, none⟩ = some (.pointer (some ⟨ph, 0, none⟩)) from fun y hy => cell_known (hy.keeps P.struct) rfl)
  unfold i64B at hx
  obtain ⟨⟨hx0, hx1⟩, ⟨hx2, hx3⟩, ⟨hx4, hx5⟩⟩ := hx
  have ST := Lib.hid (show ∀ y, Step (fun _ => False) w y → Calls Try.prog 92 #[.pointer (some ⟨ph, 0, none⟩), .agg #[.int .i64 (rgV regs a).ptr.block, .int .i64 (rgV regs a).ptr.off, .int .i64 (rgV regs a).ptr.low, .int .i64 (rgV regs a).ptr.high]] y fun e w' => e = .returned (.int .i64 0) ∧ Step (fun b => own b = 4) y w' ∧ HeapAt w' ph (setAt st.blks (rgV regs a).ptr.block fun y => { y with live := false, used := false }) (struck st.at_ (rgV regs a).ptr.block) c (fun b => own b = 4) from fun y hy => by
    have h := free_any ph (rgV regs a).ptr.block (rgV regs a).ptr.off (rgV regs a).ptr.low (rgV regs a).ptr.high st.blks st.at_ c _ y (P.still hy).heap P.lens.1 hx0 hx1
    simp only [he, if_true] at h
    exact h)
  clear P he
  clear hW hF hl
  obtain ⟨f0, f3, f6, f7⟩ := FF.out _ (Step.refl _ _)
  have hpf := block_lt f6
  simp only at hpf
  have kb := heap_alloc_new w (.cells #[.int .i64 15, .int .i64 dst, .int .i64 a, .int .i64 b, .int .u64 n, .int .i64 size, .string name, va, vo, .int .i64 tt] 42 (0, 0))
  have s1 := Step.alloc (fun _ => False) w (.cells #[.int .i64 15, .int .i64 dst, .int .i64 a, .int .i64 b, .int .u64 n, .int .i64 size, .string name, va, vo, .int .i64 tt] 42 (0, 0))
  have HT := Lib.hid (show gx < w.heap.size ∧ own w.heap.size = 0 from ⟨HF.out.free.2.2.2, HW.out.fresh0⟩)
  have KB := Lib.hid kb
  have S1 := Lib.hid s1
  clear kb s1
  go_enter Try.func68, Try.ntmps68
  go_upto_region 1 with fail
  clear f0 f3 f6 f7 hpf
  generalize w.alloc (.cells #[.int .i64 15, .int .i64 dst, .int .i64 a, .int .i64 b, .int .u64 n, .int .i64 size, .string name, va, vo, .int .i64 tt] 42 (0, 0)) = w1 at KB S1 ⊢
  generalize w.heap.size = tb at KB HT ⊢
  have FB := Lib.hid (box_facts KB.out)
  obtain ⟨b0, b1, b2, b3, b4, b5, b6, b7, b8, b9⟩ := FB.out _ (Step.refl _ _)
  go_upto_region 7 with fail
  clear b0 b1 b2 b3 b4 b5 b6 b7 b8 b9
  refine wp_region_each 16 planEff7 (fun _ _ => False) (Step (fun _ => False) w1) (fun _ => True) [Is ?v7_2_0, Is ?v7_2_1, Is ?v7_2_2, Is ?v7_2_3, Is ?v7_2_4, Is ?v7_2_5, Is ?v7_2_6, Is ?v7_2_7, Is ?v7_2_8, Is ?v7_2_9, Is ?v7_2_10, Is ?v7_2_11, Is ?v7_2_12, Is ?v7_2_13, Is ?v7_2_14, Is ?v7_2_15] [] (by kernel_rfl) (by kernel_rfl) (fun _ _ h => h.elim) ((Step.refl _ _).drew) (trivial) ?stab7_2 ?stabD7_2 ?obl7_2 ?fin7_2
  case stab7_2 => exact fun w w' h => ⟨fun k => k.trans h (fun _ x => x.elim), fun _ => trivial, ⟨fun _ k => k, fun _ k => k, fun _ k => k, fun _ k => k, fun _ k => k, fun _ k => k, fun _ k => k, fun _ k => k, fun _ k => k, fun _ k => k, fun _ k => k, fun _ k => k, fun _ k => k, fun _ k => k, fun _ k => k, fun _ k => k, trivial⟩, trivial⟩
  case stabD7_2 => exact fun _ _ h => h.elim
  case obl7_2 =>
    refine ⟨?o7_2_0, ?o7_2_1, ?o7_2_2, ?o7_2_3, ?o7_2_4, ?o7_2_5, ?o7_2_6, ?o7_2_7, ?o7_2_8, ?o7_2_9, ?o7_2_10, ?o7_2_11, ?o7_2_12, ?o7_2_13, ?o7_2_14, ?o7_2_15, trivial⟩
    all_goals intro xv wq hH hS H hU aq ha Q' hQ
    case o7_2_0 => cases rd0 ha; clear H hU hS; go_wp2_with fail; (try refine hQ _ _ ?_); refine ⟨Step.refl _ _, ?_, trivial, nofun⟩; exact (rfl : _ = _)
    case o7_2_1 | o7_2_2 => have ha := rd1 ha H (by kernel_rfl) rfl; simp only [q3, q5, q6, q7] at ha; subst ha; clear H hU hS; go_wp2_with fail; (try refine hQ _ _ ?_); refine ⟨Step.refl _ _, ?_, trivial, nofun⟩; exact (rfl : _ = _)
    case o7_2_3 => obtain ⟨f0, f3, f6, f7⟩ := FF.out _ (S1.out.then hH); have m0 := MF.out _ (S1.out.then hH); obtain ⟨c0_a, c1_a, c2_a, c3_a, c4_a, z_a⟩ := FR.out _ (S1.out.then hH) a ok_a; obtain ⟨b0, b1, b2, b3, b4, b5, b6, b7, b8, b9⟩ := FB.out _ hH; have ha := rd1 ha H (by kernel_rfl) rfl; simp only [q3, q5, q6, q7] at ha; subst ha; clear H hU hS; go_wp2_with fail; (try refine hQ _ _ ?_); refine ⟨Step.refl _ _, ?_, trivial, nofun⟩; exact (rfl : _ = _)
    case o7_2_4 | o7_2_5 => have ha := rd1 ha H (by kernel_rfl) rfl; simp only [q3, q5, q6, q7] at ha; subst ha; clear H hU hS; go_wp2_with fail; (try refine hQ _ _ ?_); refine ⟨Step.refl _ _, ?_, trivial, nofun⟩; exact (rfl : _ = _)
    case o7_2_6 => obtain ⟨f0, f3, f6, f7⟩ := FF.out _ (S1.out.then hH); have m0 := MF.out _ (S1.out.then hH); obtain ⟨c0_a, c1_a, c2_a, c3_a, c4_a, z_a⟩ := FR.out _ (S1.out.then hH) a ok_a; obtain ⟨b0, b1, b2, b3, b4, b5, b6, b7, b8, b9⟩ := FB.out _ hH; have ha := rd1 ha H (by kernel_rfl) rfl; simp only [q3, q5, q6, q7] at ha; subst ha; clear H hU hS; go_wp2_with fail; (try refine hQ _ _ ?_); refine ⟨Step.refl _ _, ?_, trivial, nofun⟩; exact (rfl : _ = _)
    case o7_2_7 => cases rd0 ha; clear H hU hS; go_wp2_with fail; (try refine hQ _ _ ?_); refine ⟨Step.refl _ _, ?_, trivial, nofun⟩; exact (rfl : _ = _)
    case o7_2_8 | o7_2_9 => have ha := rd1 ha H (by kernel_rfl) rfl; simp only [q3, q5, q6, q7] at ha; subst ha; clear H hU hS; go_wp2_with fail; (try refine hQ _ _ ?_); refine ⟨Step.refl _ _, ?_, trivial, nofun⟩; exact (rfl : _ = _)
    case o7_2_10 => obtain ⟨f0, f3, f6, f7⟩ := FF.out _ (S1.out.then hH); have m0 := MF.out _ (S1.out.then hH); obtain ⟨c0_a, c1_a, c2_a, c3_a, c4_a, z_a⟩ := FR.out _ (S1.out.then hH) a ok_a; obtain ⟨b0, b1, b2, b3, b4, b5, b6, b7, b8, b9⟩ := FB.out _ hH; have ha := rd1 ha H (by kernel_rfl) rfl; simp only [q3, q5, q6, q7] at ha; subst ha; clear H hU hS; go_wp2_with fail; (try refine hQ _ _ ?_); refine ⟨Step.refl _ _, ?_, trivial, nofun⟩; exact (rfl : _ = _)
    case o7_2_11 => cases rd0 ha; clear H hU hS; go_wp2_with fail; (try refine hQ _ _ ?_); refine ⟨Step.refl _ _, ?_, trivial, nofun⟩; exact (rfl : _ = _)
    case o7_2_12 => obtain ⟨f0, f3, f6, f7⟩ := FF.out _ (S1.out.then hH); have m0 := MF.out _ (S1.out.then hH); obtain ⟨c0_a, c1_a, c2_a, c3_a, c4_a, z_a⟩ := FR.out _ (S1.out.then hH) a ok_a; obtain ⟨b0, b1, b2, b3, b4, b5, b6, b7, b8, b9⟩ := FB.out _ hH; have ha := rd1 ha H (by kernel_rfl) rfl; simp only [q3, q5, q6, q7] at ha; subst ha; clear H hU hS; go_wp2_with fail; (try refine hQ _ _ ?_); refine ⟨Step.refl _ _, ?_, trivial, nofun⟩; exact (rfl : _ = _)
    case o7_2_13 => obtain ⟨f0, f3, f6, f7⟩ := FF.out _ (S1.out.then hH); have m0 := MF.out _ (S1.out.then hH); obtain ⟨c0_a, c1_a, c2_a, c3_a, c4_a, z_a⟩ := FR.out _ (S1.out.then hH) a ok_a; obtain ⟨b0, b1, b2, b3, b4, b5, b6, b7, b8, b9⟩ := FB.out _ hH; have ha := rd2 ha H (by kernel_rfl) (by kernel_rfl) rfl rfl; simp only [q3, q5, q6, q7] at ha; subst ha; clear H hU hS; go_wp2_with fail; (try refine hQ _ _ ?_); refine ⟨Step.refl _ _, ?_, trivial, nofun⟩; exact (rfl : _ = _)
    case o7_2_14 => have ha := rd1 ha H (by kernel_rfl) rfl; simp only [q3, q5, q6, q7] at ha; subst ha; clear H hU hS; go_wp2_with fail; (try refine hQ _ _ ?_); refine ⟨Step.refl _ _, ?_, trivial, nofun⟩; exact (rfl : _ = _)
    case o7_2_15 => obtain ⟨f0, f3, f6, f7⟩ := FF.out _ (S1.out.then hH); have m0 := MF.out _ (S1.out.then hH); obtain ⟨c0_a, c1_a, c2_a, c3_a, c4_a, z_a⟩ := FR.out _ (S1.out.then hH) a ok_a; obtain ⟨b0, b1, b2, b3, b4, b5, b6, b7, b8, b9⟩ := FB.out _ hH; have ha := rd1 ha H (by kernel_rfl) rfl; simp only [q3, q5, q6, q7] at ha; subst ha; clear H hU hS; go_wp2_with fail; (try refine hQ _ _ ?_); refine ⟨Step.refl _ _, ?_, trivial, nofun⟩; exact (rfl : _ = _)
  intro xv w2 hH hS H hU hsz hF hN
  have h0 : xv 0 = _ := H 0 (by decide) (by kernel_rfl); have h1 : xv 1 = _ := H 1 (by decide) (by kernel_rfl); have h2 : xv 2 = _ := H 2 (by decide) (by kernel_rfl); have h3 : xv 3 = _ := H 3 (by decide) (by kernel_rfl); have h4 : xv 4 = _ := H 4 (by decide) (by kernel_rfl); have h5 : xv 5 = _ := H 5 (by decide) (by kernel_rfl); have h6 : xv 6 = _ := H 6 (by decide) (by kernel_rfl); have h7 : xv 7 = _ := H 7 (by decide) (by kernel_rfl); have h8 : xv 8 = _ := H 8 (by decide) (by kernel_rfl); have h9 : xv 9 = _ := H 9 (by decide) (by kernel_rfl); have h10 : xv 10 = _ := H 10 (by decide) (by kernel_rfl); have h11 : xv 11 = _ := H 11 (by decide) (by kernel_rfl); have h12 : xv 12 = _ := H 12 (by decide) (by kernel_rfl); have h13 : xv 13 = _ := H 13 (by decide) (by kernel_rfl); have h14 : xv 14 = _ := H 14 (by decide) (by kernel_rfl); have h15 : xv 15 = _ := H 15 (by decide) (by kernel_rfl)
  simp only [planEff7, q1, q2, q3, q5, q6, q7, q4, List.drop_succ_cons, List.drop_zero, h0, h1, h2, h3, h4, h5, h6, h7, h8, h9, h10, h11, h12, h13, h14, h15]
  clear H hF hN hS hU h0 h1 h2 h3 h4 h5 h6 h7 h8 h9 h10 h11 h12 h13 h14 h15
  have SA := Lib.hid hH
  have SB := Lib.hid (S1.out.then hH)
  clear hH
  obtain ⟨f0, f3, f6, f7⟩ := FF.out _ SB.out
  have m0 := MF.out _ SB.out
  obtain ⟨c0_a, c1_a, c2_a, c3_a, c4_a, z_a⟩ := FR.out _ SB.out a ok_a
  obtain ⟨b0, b1, b2, b3, b4, b5, b6, b7, b8, b9⟩ := FB.out _ SA.out
  go_wp2_with fail
  refine (ST.out _ SB.out).mono ?_
  rintro e w3 ⟨rfl, s3, hh⟩
  obtain ⟨own1, ch, P3⟩ := (PP.out.still SB.out).heapNext (Nat.le_refl c) s3 hh (fun b hb => .inl hb) (by have := PP.out.lens; simp only [setAt, List.length_modify]; omega)
  have CH := Lib.hid ((Chg.calm own SB.out).trans ch)
  have HW3 := Lib.hid P3.whole
  clear s3 hh ch P3
  go_wp2_with fail
  refine (right_ok _).mono ?_
  rintro e w4 ⟨rfl, rfl⟩
  go_wp2_with fail
  go_end0
  exact ⟨rfl, c, Nat.le_refl _, own1, CH.out.g gx, HW3.out, HF.out.keep CH.out⟩
set_option maxHeartbeats 4000000 in
set_option maxRecDepth 100000 in
theorem eff_15no (hW : MWAt w0 w pw own fnv tops st c) (hF : MFr w own pf pw gx vn vp vk vs vc vr vl regs slots) (hl : w0.heap.size ≤ gx) {v : Value} {i : FIns} (hi : InsAt w0 v i) (ho : i.op = 15) (ok_a : ok1 regs i.a) (hx : i64B (rgV regs i.a).ptr.block ∧ i64B (rgV regs i.a).ptr.off ∧ i64B (rgV regs i.a).ptr.high) (he : (freeOf st.blks (rgV regs i.a).ptr.block (rgV regs i.a).ptr.off (rgV regs i.a).ptr.low (rgV regs i.a).ptr.high != 0) = true) :
    Calls Try.prog 68 #[.pointer (some ⟨pf, 0, none⟩), v] w (fun e w' => Fell w0 w pw own fnv tops gx 5 0 (freeOf st.blks (rgV regs i.a).ptr.block (rgV regs i.a).ptr.off (rgV regs i.a).ptr.low (rgV regs i.a).ptr.high) st c e w') := by
  obtain ⟨va, vo, rfl, iargs, iouts⟩ := hi
  obtain ⟨op, dst, a, b, n, size, name, args, outs, tt⟩ := i
  simp only at *
  subst ho
  obtain ⟨rcap, rfl⟩ := regs_slice hF (by unfold ok1 at ok_a; omega)
  have HW := Lib.hid hW
  have HF := Lib.hid hF
  have HL := Lib.hid hl
  have FF := Lib.hid (frame_facts hF)
  have FR := Lib.hid (reg_facts hF)
  unfold ok1 at ok_a
  obtain ⟨ph, bt, bf, vin, vout, P⟩ := HW.out
  have PP := Lib.hid P
  have MF := Lib.hid (show ∀ y, Step (fun _ => False) w y → y.cell? ⟨pw, 0, none⟩ = some (.pointer (some ⟨ph, 0, none⟩)) from fun y hy => cell_known (hy.keeps P.struct) rfl)
  unfold i64B at hx
  obtain ⟨⟨hx0, hx1⟩, ⟨hx2, hx3⟩, ⟨hx4, hx5⟩⟩ := hx
  obtain ⟨er, her⟩ : ∃ er, freeOf st.blks (rgV regs a).ptr.block (rgV regs a).ptr.off (rgV regs a).ptr.low (rgV regs a).ptr.high = er := ⟨_, rfl⟩
  rw [her] at he ⊢
  have ST := Lib.hid (show ∀ y, Step (fun _ => False) w y → Calls Try.prog 92 #[.pointer (some ⟨ph, 0, none⟩), .agg #[.int .i64 (rgV regs a).ptr.block, .int .i64 (rgV regs a).ptr.off, .int .i64 (rgV regs a).ptr.low, .int .i64 (rgV regs a).ptr.high]] y fun e w' => e = .returned (.int .i64 er) ∧ Step (fun _ => False) y w' from fun y hy => by
    have h := free_any ph (rgV regs a).ptr.block (rgV regs a).ptr.off (rgV regs a).ptr.low (rgV regs a).ptr.high st.blks st.at_ c _ y (P.still hy).heap P.lens.1 hx0 hx1
    have hne : ¬ er = 0 := by simpa using he
    simp only [her, if_neg hne] at h
    exact h)
  clear P her
  clear hW hF hl
  obtain ⟨f0, f3, f6, f7⟩ := FF.out _ (Step.refl _ _)
  have hpf := block_lt f6
  simp only at hpf
  have kb := heap_alloc_new w (.cells #[.int .i64 15, .int .i64 dst, .int .i64 a, .int .i64 b, .int .u64 n, .int .i64 size, .string name, va, vo, .int .i64 tt] 42 (0, 0))
  have s1 := Step.alloc (fun _ => False) w (.cells #[.int .i64 15, .int .i64 dst, .int .i64 a, .int .i64 b, .int .u64 n, .int .i64 size, .string name, va, vo, .int .i64 tt] 42 (0, 0))
  have HT := Lib.hid (show gx < w.heap.size ∧ own w.heap.size = 0 from ⟨HF.out.free.2.2.2, HW.out.fresh0⟩)
  have KB := Lib.hid kb
  have S1 := Lib.hid s1
  clear kb s1
  go_enter Try.func68, Try.ntmps68
  go_upto_region 1 with fail
  clear f0 f3 f6 f7 hpf
  generalize w.alloc (.cells #[.int .i64 15, .int .i64 dst, .int .i64 a, .int .i64 b, .int .u64 n, .int .i64 size, .string name, va, vo, .int .i64 tt] 42 (0, 0)) = w1 at KB S1 ⊢
  generalize w.heap.size = tb at KB HT ⊢
  have FB := Lib.hid (box_facts KB.out)
  obtain ⟨b0, b1, b2, b3, b4, b5, b6, b7, b8, b9⟩ := FB.out _ (Step.refl _ _)
  go_upto_region 7 with fail
  clear b0 b1 b2 b3 b4 b5 b6 b7 b8 b9
  refine wp_region_each 16 planEff7 (fun _ _ => False) (Step (fun _ => False) w1) (fun _ => True) [Is ?v7_3_0, Is ?v7_3_1, Is ?v7_3_2, Is ?v7_3_3, Is ?v7_3_4, Is ?v7_3_5, Is ?v7_3_6, Is ?v7_3_7, Is ?v7_3_8, Is ?v7_3_9, Is ?v7_3_10, Is ?v7_3_11, Is ?v7_3_12, Is ?v7_3_13, Is ?v7_3_14, Is ?v7_3_15] [] (by kernel_rfl) (by kernel_rfl) (fun _ _ h => h.elim) ((Step.refl _ _).drew) (trivial) ?stab7_3 ?stabD7_3 ?obl7_3 ?fin7_3
  case stab7_3 => exact fun w w' h => ⟨fun k => k.trans h (fun _ x => x.elim), fun _ => trivial, ⟨fun _ k => k, fun _ k => k, fun _ k => k, fun _ k => k, fun _ k => k, fun _ k => k, fun _ k => k, fun _ k => k, fun _ k => k, fun _ k => k, fun _ k => k, fun _ k => k, fun _ k => k, fun _ k => k, fun _ k => k, fun _ k => k, trivial⟩, trivial⟩
  case stabD7_3 => exact fun _ _ h => h.elim
  case obl7_3 =>
    refine ⟨?o7_3_0, ?o7_3_1, ?o7_3_2, ?o7_3_3, ?o7_3_4, ?o7_3_5, ?o7_3_6, ?o7_3_7, ?o7_3_8, ?o7_3_9, ?o7_3_10, ?o7_3_11, ?o7_3_12, ?o7_3_13, ?o7_3_14, ?o7_3_15, trivial⟩
    all_goals intro xv wq hH hS H hU aq ha Q' hQ
    case o7_3_0 => cases rd0 ha; clear H hU hS; go_wp2_with fail; (try refine hQ _ _ ?_); refine ⟨Step.refl _ _, ?_, trivial, nofun⟩; exact (rfl : _ = _)
    case o7_3_1 | o7_3_2 => have ha := rd1 ha H (by kernel_rfl) rfl; simp only [q3, q5, q6, q7] at ha; subst ha; clear H hU hS; go_wp2_with fail; (try refine hQ _ _ ?_); refine ⟨Step.refl _ _, ?_, trivial, nofun⟩; exact (rfl : _ = _)
    case o7_3_3 => obtain ⟨f0, f3, f6, f7⟩ := FF.out _ (S1.out.then hH); have m0 := MF.out _ (S1.out.then hH); obtain ⟨c0_a, c1_a, c2_a, c3_a, c4_a, z_a⟩ := FR.out _ (S1.out.then hH) a ok_a; obtain ⟨b0, b1, b2, b3, b4, b5, b6, b7, b8, b9⟩ := FB.out _ hH; have ha := rd1 ha H (by kernel_rfl) rfl; simp only [q3, q5, q6, q7] at ha; subst ha; clear H hU hS; go_wp2_with fail; (try refine hQ _ _ ?_); refine ⟨Step.refl _ _, ?_, trivial, nofun⟩; exact (rfl : _ = _)
    case o7_3_4 | o7_3_5 => have ha := rd1 ha H (by kernel_rfl) rfl; simp only [q3, q5, q6, q7] at ha; subst ha; clear H hU hS; go_wp2_with fail; (try refine hQ _ _ ?_); refine ⟨Step.refl _ _, ?_, trivial, nofun⟩; exact (rfl : _ = _)
    case o7_3_6 => obtain ⟨f0, f3, f6, f7⟩ := FF.out _ (S1.out.then hH); have m0 := MF.out _ (S1.out.then hH); obtain ⟨c0_a, c1_a, c2_a, c3_a, c4_a, z_a⟩ := FR.out _ (S1.out.then hH) a ok_a; obtain ⟨b0, b1, b2, b3, b4, b5, b6, b7, b8, b9⟩ := FB.out _ hH; have ha := rd1 ha H (by kernel_rfl) rfl; simp only [q3, q5, q6, q7] at ha; subst ha; clear H hU hS; go_wp2_with fail; (try refine hQ _ _ ?_); refine ⟨Step.refl _ _, ?_, trivial, nofun⟩; exact (rfl : _ = _)
    case o7_3_7 => cases rd0 ha; clear H hU hS; go_wp2_with fail; (try refine hQ _ _ ?_); refine ⟨Step.refl _ _, ?_, trivial, nofun⟩; exact (rfl : _ = _)
    case o7_3_8 | o7_3_9 => have ha := rd1 ha H (by kernel_rfl) rfl; simp only [q3, q5, q6, q7] at ha; subst ha; clear H hU hS; go_wp2_with fail; (try refine hQ _ _ ?_); refine ⟨Step.refl _ _, ?_, trivial, nofun⟩; exact (rfl : _ = _)
    case o7_3_10 => obtain ⟨f0, f3, f6, f7⟩ := FF.out _ (S1.out.then hH); have m0 := MF.out _ (S1.out.then hH); obtain ⟨c0_a, c1_a, c2_a, c3_a, c4_a, z_a⟩ := FR.out _ (S1.out.then hH) a ok_a; obtain ⟨b0, b1, b2, b3, b4, b5, b6, b7, b8, b9⟩ := FB.out _ hH; have ha := rd1 ha H (by kernel_rfl) rfl; simp only [q3, q5, q6, q7] at ha; subst ha; clear H hU hS; go_wp2_with fail; (try refine hQ _ _ ?_); refine ⟨Step.refl _ _, ?_, trivial, nofun⟩; exact (rfl : _ = _)
    case o7_3_11 => cases rd0 ha; clear H hU hS; go_wp2_with fail; (try refine hQ _ _ ?_); refine ⟨Step.refl _ _, ?_, trivial, nofun⟩; exact (rfl : _ = _)
    case o7_3_12 => obtain ⟨f0, f3, f6, f7⟩ := FF.out _ (S1.out.then hH); have m0 := MF.out _ (S1.out.then hH); obtain ⟨c0_a, c1_a, c2_a, c3_a, c4_a, z_a⟩ := FR.out _ (S1.out.then hH) a ok_a; obtain ⟨b0, b1, b2, b3, b4, b5, b6, b7, b8, b9⟩ := FB.out _ hH; have ha := rd1 ha H (by kernel_rfl) rfl; simp only [q3, q5, q6, q7] at ha; subst ha; clear H hU hS; go_wp2_with fail; (try refine hQ _ _ ?_); refine ⟨Step.refl _ _, ?_, trivial, nofun⟩; exact (rfl : _ = _)
    case o7_3_13 => obtain ⟨f0, f3, f6, f7⟩ := FF.out _ (S1.out.then hH); have m0 := MF.out _ (S1.out.then hH); obtain ⟨c0_a, c1_a, c2_a, c3_a, c4_a, z_a⟩ := FR.out _ (S1.out.then hH) a ok_a; obtain ⟨b0, b1, b2, b3, b4, b5, b6, b7, b8, b9⟩ := FB.out _ hH; have ha := rd2 ha H (by kernel_rfl) (by kernel_rfl) rfl rfl; simp only [q3, q5, q6, q7] at ha; subst ha; clear H hU hS; go_wp2_with fail; (try refine hQ _ _ ?_); refine ⟨Step.refl _ _, ?_, trivial, nofun⟩; exact (rfl : _ = _)
    case o7_3_14 => have ha := rd1 ha H (by kernel_rfl) rfl; simp only [q3, q5, q6, q7] at ha; subst ha; clear H hU hS; go_wp2_with fail; (try refine hQ _ _ ?_); refine ⟨Step.refl _ _, ?_, trivial, nofun⟩; exact (rfl : _ = _)
    case o7_3_15 => obtain ⟨f0, f3, f6, f7⟩ := FF.out _ (S1.out.then hH); have m0 := MF.out _ (S1.out.then hH); obtain ⟨c0_a, c1_a, c2_a, c3_a, c4_a, z_a⟩ := FR.out _ (S1.out.then hH) a ok_a; obtain ⟨b0, b1, b2, b3, b4, b5, b6, b7, b8, b9⟩ := FB.out _ hH; have ha := rd1 ha H (by kernel_rfl) rfl; simp only [q3, q5, q6, q7] at ha; subst ha; clear H hU hS; go_wp2_with fail; (try refine hQ _ _ ?_); refine ⟨Step.refl _ _, ?_, trivial, nofun⟩; exact (rfl : _ = _)
  intro xv w2 hH hS H hU hsz hF hN
  have h0 : xv 0 = _ := H 0 (by decide) (by kernel_rfl); have h1 : xv 1 = _ := H 1 (by decide) (by kernel_rfl); have h2 : xv 2 = _ := H 2 (by decide) (by kernel_rfl); have h3 : xv 3 = _ := H 3 (by decide) (by kernel_rfl); have h4 : xv 4 = _ := H 4 (by decide) (by kernel_rfl); have h5 : xv 5 = _ := H 5 (by decide) (by kernel_rfl); have h6 : xv 6 = _ := H 6 (by decide) (by kernel_rfl); have h7 : xv 7 = _ := H 7 (by decide) (by kernel_rfl); have h8 : xv 8 = _ := H 8 (by decide) (by kernel_rfl); have h9 : xv 9 = _ := H 9 (by decide) (by kernel_rfl); have h10 : xv 10 = _ := H 10 (by decide) (by kernel_rfl); have h11 : xv 11 = _ := H 11 (by decide) (by kernel_rfl); have h12 : xv 12 = _ := H 12 (by decide) (by kernel_rfl); have h13 : xv 13 = _ := H 13 (by decide) (by kernel_rfl); have h14 : xv 14 = _ := H 14 (by decide) (by kernel_rfl); have h15 : xv 15 = _ := H 15 (by decide) (by kernel_rfl)
  simp only [planEff7, q1, q2, q3, q5, q6, q7, q4, List.drop_succ_cons, List.drop_zero, h0, h1, h2, h3, h4, h5, h6, h7, h8, h9, h10, h11, h12, h13, h14, h15]
  clear H hF hN hS hU h0 h1 h2 h3 h4 h5 h6 h7 h8 h9 h10 h11 h12 h13 h14 h15
  have SA := Lib.hid hH
  have SB := Lib.hid (S1.out.then hH)
  clear hH
  obtain ⟨f0, f3, f6, f7⟩ := FF.out _ SB.out
  have m0 := MF.out _ SB.out
  obtain ⟨c0_a, c1_a, c2_a, c3_a, c4_a, z_a⟩ := FR.out _ SB.out a ok_a
  obtain ⟨b0, b1, b2, b3, b4, b5, b6, b7, b8, b9⟩ := FB.out _ SA.out
  go_wp2_with fail
  refine (ST.out _ SB.out).mono ?_
  rintro e w3 ⟨rfl, s3⟩
  have S3 := Lib.hid (SB.out.then s3)
  clear s3
  go_wp2_with fail
  refine (right_no he _).mono ?_
  rintro e w4 ⟨rfl, rfl⟩
  exact ⟨rfl, rfl, own, (Chg.calm own S3.out).g gx, HW.out.still S3.out⟩
set_option maxHeartbeats 4000000 in
set_option maxRecDepth 100000 in
theorem eff_20 (hW : MWAt w0 w pw own fnv tops st c) (hF : MFr w own pf pw gx vn vp vk vs vc vr vl regs slots) (hl : w0.heap.size ≤ gx) {v : Value} {i : FIns} (hi : InsAt w0 v i) (ho : i.op = 20) (ok_a : ok1 regs i.a) (h64 : is64 (rgV regs i.a).num) (hc : c ≤ 1000000000) :
    Calls Try.prog 68 #[.pointer (some ⟨pf, 0, none⟩), v] w (fun e w' => e = .returned (.tuple #[]) ∧ ∃ c' : Nat, c' ≤ c + 1 ∧ Went w0 w pw own fnv tops pf gx vn vp vk vs vc vr vl slots ({ st with out := st.out ++ [(rgV regs i.a).num % 256] }) c' regs w') := by
  obtain ⟨va, vo, rfl, iargs, iouts⟩ := hi
  obtain ⟨op, dst, a, b, n, size, name, args, outs, tt⟩ := i
  simp only at *
  subst ho
  obtain ⟨rcap, rfl⟩ := regs_slice hF (by unfold ok1 at ok_a; omega)
  have HW := Lib.hid hW
  have HF := Lib.hid hF
  have HL := Lib.hid hl
  have FF := Lib.hid (frame_facts hF)
  have FR := Lib.hid (reg_facts hF)
  unfold ok1 at ok_a
  unfold is64 at h64
  clear hW hF hl
  obtain ⟨f0, f3, f6, f7⟩ := FF.out _ (Step.refl _ _)
  have hpf := block_lt f6
  simp only at hpf
  have kb := heap_alloc_new w (.cells #[.int .i64 20, .int .i64 dst, .int .i64 a, .int .i64 b, .int .u64 n, .int .i64 size, .string name, va, vo, .int .i64 tt] 42 (0, 0))
  have s1 := Step.alloc (fun _ => False) w (.cells #[.int .i64 20, .int .i64 dst, .int .i64 a, .int .i64 b, .int .u64 n, .int .i64 size, .string name, va, vo, .int .i64 tt] 42 (0, 0))
  have HT := Lib.hid (show gx < w.heap.size ∧ own w.heap.size = 0 from ⟨HF.out.free.2.2.2, HW.out.fresh0⟩)
  have KB := Lib.hid kb
  have S1 := Lib.hid s1
  clear kb s1
  go_enter Try.func68, Try.ntmps68
  go_upto_region 1 with fail
  clear f0 f3 f6 f7 hpf
  generalize w.alloc (.cells #[.int .i64 20, .int .i64 dst, .int .i64 a, .int .i64 b, .int .u64 n, .int .i64 size, .string name, va, vo, .int .i64 tt] 42 (0, 0)) = w1 at KB S1 ⊢
  generalize w.heap.size = tb at KB HT ⊢
  have FB := Lib.hid (box_facts KB.out)
  obtain ⟨b0, b1, b2, b3, b4, b5, b6, b7, b8, b9⟩ := FB.out _ (Step.refl _ _)
  go_upto_region 9 with fail
  clear b0 b1 b2 b3 b4 b5 b6 b7 b8 b9
  have ew : IntKind.u8.wrap (rgV regs a).num = (rgV regs a).num % 256 := IntKind.wrap_u8 _
  obtain ⟨i0, hi, hz0, hz1, hz2⟩ := info_parts u8_info
  have HW1 := Lib.hid (HW.out.still S1.out)
  have HF1 := Lib.hid (HF.out.still S1.out)
  obtain ⟨ph, bt, bf, ui, uo, P⟩ := HW1.out
  obtain ⟨ao, ocap, eo⟩ := P.out.slice
  subst eo
  have MF := Lib.hid (show ∀ y, Step (fun _ => False) w1 y → y.cell? ⟨pw, 4, none⟩ = some (.slice ao st.out.length ocap) from fun y hy => cell_known (hy.keeps P.struct) rfl)
  have FZ := Lib.hid (show ∀ y, Step (fun b => own b = 8) w1 y → y.cell? ⟨pf, 0, none⟩ = some (.pointer (some ⟨pw, 0, none⟩)) from fun y hy => cell_known ((hy.block pf (lt_known HF1.out.struct) fun e => by have := HF1.out.free.1; omega).trans HF1.out.struct) rfl)
  have PP := Lib.hid P
  have HR := Lib.hid P.out
  clear P
  refine wp_region_each 23 planPut (fun a b => Step (fun x => own x = 8) a b) (Step (fun x => own x = 8) w1) (fun x => RowAt x (fun b => own b = 8) 5 1 (.slice ao st.out.length ocap) st.out.length (st.out.map (Value.int .u8)) ∧ Step (fun _ => False) w1 x) [Is ?v9_4_0, Is ?v9_4_1, Is ?v9_4_2, Is ?v9_4_3, Is ?v9_4_4, Is ?v9_4_5, Is ?v9_4_6, Is ?v9_4_7, Is ?v9_4_8, Is ?v9_4_9, Is ?v9_4_10, Is ?v9_4_11, Is ?v9_4_12, Is ?v9_4_13, Is ?v9_4_14, Is ?v9_4_15, Is ?v9_4_16, Is ?v9_4_17, Is ?v9_4_18, Is ?v9_4_19, Is ?v9_4_20, IsRow w1 (.cells #[.int .u8 ((rgV regs a).num % 256)] 5 (0, 0)) 1, fun _ _ => True] [fun _ _ => True, fun _ _ => True, fun _ _ => True, fun _ _ => True, fun _ _ => True, fun _ _ => True, fun _ _ => True, fun _ _ => True, fun _ _ => True, fun _ _ => True, fun _ _ => True, fun _ _ => True, fun _ _ => True, fun _ _ => True, fun _ _ => True, fun _ _ => True, fun _ _ => True, fun _ _ => True, fun _ _ => True, fun _ _ => True, fun _ _ => True, fun _ _ => True, Grew w1 own 8 5 ((st.out ++ [(rgV regs a).num % 256]).map (Value.int .u8))] (by kernel_rfl) (by kernel_rfl) (fun _ _ h => h.size) ((Step.refl _ _).drew) (⟨HR.out.same fun _ _ _ => rfl, (Step.refl _ _).drew⟩) ?stab9_4 ?stabD9_4 ?obl9_4 ?fin9_4
  case stab9_4 => exact fun w w' h => ⟨fun k => k.trans h (fun _ x => x.elim), fun k => ⟨k.1.same fun b _ hb => h.block b hb fun x => x, k.2.trans h fun _ x => x.elim⟩, ⟨fun _ k => k, fun _ k => k, fun _ k => k, fun _ k => k, fun _ k => k, fun _ k => k, fun _ k => k, fun _ k => k, fun _ k => k, fun _ k => k, fun _ k => k, fun _ k => k, fun _ k => k, fun _ k => k, fun _ k => k, fun _ k => k, fun _ k => k, fun _ k => k, fun _ k => k, fun _ k => k, fun _ k => k, fun _ k => IsRow.stable h k, fun _ k => k, trivial⟩, ⟨fun _ k => k, fun _ k => k, fun _ k => k, fun _ k => k, fun _ k => k, fun _ k => k, fun _ k => k, fun _ k => k, fun _ k => k, fun _ k => k, fun _ k => k, fun _ k => k, fun _ k => k, fun _ k => k, fun _ k => k, fun _ k => k, fun _ k => k, fun _ k => k, fun _ k => k, fun _ k => k, fun _ k => k, fun _ k => k, fun _ k => k.stable h, trivial⟩⟩
  case stabD9_4 => exact fun w w' h => ⟨fun k => k.trans h (fun _ x => .inl x), fun _ _ k => k, fun _ _ k => k, fun _ _ k => k, fun _ _ k => k, fun _ _ k => k, fun _ _ k => k, fun _ _ k => k, fun _ _ k => k, fun _ _ k => k, fun _ _ k => k, fun _ _ k => k, fun _ _ k => k, fun _ _ k => k, fun _ _ k => k, fun _ _ k => k, fun _ _ k => k, fun _ _ k => k, fun _ _ k => k, fun _ _ k => k, fun _ _ k => k, fun _ _ k => k, nofun, fun _ _ k => k, trivial⟩
  case obl9_4 =>
    refine ⟨?o9_4_0, ?o9_4_1, ?o9_4_2, ?o9_4_3, ?o9_4_4, ?o9_4_5, ?o9_4_6, ?o9_4_7, ?o9_4_8, ?o9_4_9, ?o9_4_10, ?o9_4_11, ?o9_4_12, ?o9_4_13, ?o9_4_14, ?o9_4_15, ?o9_4_16, ?o9_4_17, ?o9_4_18, ?o9_4_19, ?o9_4_20, ?o9_4_21, ?o9_4_22, trivial⟩
    all_goals intro xv wq hH hS H hU aq ha Q' hQ
    case o9_4_0 => cases rd0 ha; clear H hU hS; go_wp2_with fail; (try refine hQ _ _ ?_); refine ⟨Step.refl _ _, ?_, trivial, nofun⟩; exact (rfl : _ = _)
    case o9_4_1 | o9_4_2 => have ha := rd1 ha H (by kernel_rfl) rfl; simp only [q3, q5, q6, q7] at ha; subst ha; clear H hU hS; go_wp2_with fail; (try refine hQ _ _ ?_); refine ⟨Step.refl _ _, ?_, trivial, nofun⟩; exact (rfl : _ = _)
    case o9_4_3 => have zf := FZ.out _ hH; (try (have hHs := hH; have hH := (hS (by decide)).2; obtain ⟨f0, f3, f6, f7⟩ := FF.out _ (S1.out.then hH); have m4 := MF.out _ hH; obtain ⟨c0_a, c1_a, c2_a, c3_a, c4_a, z_a⟩ := FR.out _ (S1.out.then hH) a ok_a; obtain ⟨b0, b1, b2, b3, b4, b5, b6, b7, b8, b9⟩ := FB.out _ hH; clear hH; have hH := hHs; clear hHs)); have ha := rd1 ha H (by kernel_rfl) rfl; simp only [q3, q5, q6, q7] at ha; subst ha; clear H hU hS; go_wp2_with fail; (try refine hQ _ _ ?_); refine ⟨Step.refl _ _, ?_, trivial, nofun⟩; exact (rfl : _ = _)
    case o9_4_4 => cases rd0 ha; clear H hU hS; go_wp2_with fail; (try refine hQ _ _ ?_); refine ⟨Step.refl _ _, ?_, trivial, nofun⟩; exact (rfl : _ = _)
    case o9_4_5 | o9_4_6 => have ha := rd1 ha H (by kernel_rfl) rfl; simp only [q3, q5, q6, q7] at ha; subst ha; clear H hU hS; go_wp2_with fail; (try refine hQ _ _ ?_); refine ⟨Step.refl _ _, ?_, trivial, nofun⟩; exact (rfl : _ = _)
    case o9_4_7 => have zf := FZ.out _ hH; (try (have hHs := hH; have hH := (hS (by decide)).2; obtain ⟨f0, f3, f6, f7⟩ := FF.out _ (S1.out.then hH); have m4 := MF.out _ hH; obtain ⟨c0_a, c1_a, c2_a, c3_a, c4_a, z_a⟩ := FR.out _ (S1.out.then hH) a ok_a; obtain ⟨b0, b1, b2, b3, b4, b5, b6, b7, b8, b9⟩ := FB.out _ hH; clear hH; have hH := hHs; clear hHs)); have ha := rd1 ha H (by kernel_rfl) rfl; simp only [q3, q5, q6, q7] at ha; subst ha; clear H hU hS; go_wp2_with fail; (try refine hQ _ _ ?_); refine ⟨Step.refl _ _, ?_, trivial, nofun⟩; exact (rfl : _ = _)
    case o9_4_8 | o9_4_9 => have ha := rd1 ha H (by kernel_rfl) rfl; simp only [q3, q5, q6, q7] at ha; subst ha; clear H hU hS; go_wp2_with fail; (try refine hQ _ _ ?_); refine ⟨Step.refl _ _, ?_, trivial, nofun⟩; exact (rfl : _ = _)
    case o9_4_10 => have zf := FZ.out _ hH; (try (have hHs := hH; have hH := (hS (by decide)).2; obtain ⟨f0, f3, f6, f7⟩ := FF.out _ (S1.out.then hH); have m4 := MF.out _ hH; obtain ⟨c0_a, c1_a, c2_a, c3_a, c4_a, z_a⟩ := FR.out _ (S1.out.then hH) a ok_a; obtain ⟨b0, b1, b2, b3, b4, b5, b6, b7, b8, b9⟩ := FB.out _ hH; clear hH; have hH := hHs; clear hHs)); have ha := rd1 ha H (by kernel_rfl) rfl; simp only [q3, q5, q6, q7] at ha; subst ha; clear H hU hS; go_wp2_with fail; (try refine hQ _ _ ?_); refine ⟨Step.refl _ _, ?_, trivial, nofun⟩; exact (rfl : _ = _)
    case o9_4_11 => cases rd0 ha; clear H hU hS; go_wp2_with fail; (try refine hQ _ _ ?_); refine ⟨Step.refl _ _, ?_, trivial, nofun⟩; exact (rfl : _ = _)
    case o9_4_12 | o9_4_13 => have ha := rd1 ha H (by kernel_rfl) rfl; simp only [q3, q5, q6, q7] at ha; subst ha; clear H hU hS; go_wp2_with fail; (try refine hQ _ _ ?_); refine ⟨Step.refl _ _, ?_, trivial, nofun⟩; exact (rfl : _ = _)
    case o9_4_14 => have zf := FZ.out _ hH; (try (have hHs := hH; have hH := (hS (by decide)).2; obtain ⟨f0, f3, f6, f7⟩ := FF.out _ (S1.out.then hH); have m4 := MF.out _ hH; obtain ⟨c0_a, c1_a, c2_a, c3_a, c4_a, z_a⟩ := FR.out _ (S1.out.then hH) a ok_a; obtain ⟨b0, b1, b2, b3, b4, b5, b6, b7, b8, b9⟩ := FB.out _ hH; clear hH; have hH := hHs; clear hHs)); have ha := rd1 ha H (by kernel_rfl) rfl; simp only [q3, q5, q6, q7] at ha; subst ha; clear H hU hS; go_wp2_with fail; (try refine hQ _ _ ?_); refine ⟨Step.refl _ _, ?_, trivial, nofun⟩; exact (rfl : _ = _)
    case o9_4_15 => cases rd0 ha; clear H hU hS; go_wp2_with fail; (try refine hQ _ _ ?_); refine ⟨Step.refl _ _, ?_, trivial, nofun⟩; exact (rfl : _ = _)
    case o9_4_16 => have zf := FZ.out _ hH; (try (have hHs := hH; have hH := (hS (by decide)).2; obtain ⟨f0, f3, f6, f7⟩ := FF.out _ (S1.out.then hH); have m4 := MF.out _ hH; obtain ⟨c0_a, c1_a, c2_a, c3_a, c4_a, z_a⟩ := FR.out _ (S1.out.then hH) a ok_a; obtain ⟨b0, b1, b2, b3, b4, b5, b6, b7, b8, b9⟩ := FB.out _ hH; clear hH; have hH := hHs; clear hHs)); have ha := rd1 ha H (by kernel_rfl) rfl; simp only [q3, q5, q6, q7] at ha; subst ha; clear H hU hS; go_wp2_with fail; (try refine hQ _ _ ?_); refine ⟨Step.refl _ _, ?_, trivial, nofun⟩; exact (rfl : _ = _)
    case o9_4_17 => have zf := FZ.out _ hH; (try (have hHs := hH; have hH := (hS (by decide)).2; obtain ⟨f0, f3, f6, f7⟩ := FF.out _ (S1.out.then hH); have m4 := MF.out _ hH; obtain ⟨c0_a, c1_a, c2_a, c3_a, c4_a, z_a⟩ := FR.out _ (S1.out.then hH) a ok_a; obtain ⟨b0, b1, b2, b3, b4, b5, b6, b7, b8, b9⟩ := FB.out _ hH; clear hH; have hH := hHs; clear hHs)); have ha := rd2 ha H (by kernel_rfl) (by kernel_rfl) rfl rfl; simp only [q3, q5, q6, q7] at ha; subst ha; clear H hU hS; go_wp2_with fail; (try refine hQ _ _ ?_); refine ⟨Step.refl _ _, ?_, trivial, nofun⟩; exact (rfl : _ = _)
    case o9_4_18 => have ha := rd1 ha H (by kernel_rfl) rfl; simp only [q3, q5, q6, q7] at ha; subst ha; clear H hU hS; go_wp2_with fail; (try refine hQ _ _ ?_); refine ⟨Step.refl _ _, ?_, trivial, nofun⟩; exact (rfl : _ = _)
    case o9_4_19 | o9_4_20 => have zf := FZ.out _ hH; (try (have hHs := hH; have hH := (hS (by decide)).2; obtain ⟨f0, f3, f6, f7⟩ := FF.out _ (S1.out.then hH); have m4 := MF.out _ hH; obtain ⟨c0_a, c1_a, c2_a, c3_a, c4_a, z_a⟩ := FR.out _ (S1.out.then hH) a ok_a; obtain ⟨b0, b1, b2, b3, b4, b5, b6, b7, b8, b9⟩ := FB.out _ hH; clear hH; have hH := hHs; clear hHs)); have ha := rd1 ha H (by kernel_rfl) rfl; simp only [q3, q5, q6, q7] at ha; subst ha; clear H hU hS; go_wp2_with fail; (try refine hQ _ _ ?_); refine ⟨Step.refl _ _, ?_, trivial, nofun⟩; exact (rfl : _ = _)
    case o9_4_21 => have zf := FZ.out _ hH; (try (have hHs := hH; have hH := (hS (by decide)).2; obtain ⟨f0, f3, f6, f7⟩ := FF.out _ (S1.out.then hH); have m4 := MF.out _ hH; obtain ⟨c0_a, c1_a, c2_a, c3_a, c4_a, z_a⟩ := FR.out _ (S1.out.then hH) a ok_a; obtain ⟨b0, b1, b2, b3, b4, b5, b6, b7, b8, b9⟩ := FB.out _ hH; clear hH; have hH := hHs; clear hHs)); have h20 : xv 20 = _ := H 20 (by kernel_rfl); change aq = puts _ xv [(20, some 103)] at ha; simp only [q1, q2, q3, q5, q6, q7, h20] at ha; subst ha; clear H h20; clear hU hS; go_wp2_with fail; (try refine hQ _ _ ?_); refine ⟨Step.alloc _ _ _, ?_, trivial, fun _ => ⟨_, rfl, Nat.le_refl _, by simp⟩⟩; exact ⟨_, rfl, hH.size, heap_alloc_new _ _⟩
    case o9_4_22 =>
      have zf := FZ.out _ hH; (try (have hHs := hH; have hH := (hS (by decide)).2; obtain ⟨f0, f3, f6, f7⟩ := FF.out _ (S1.out.then hH); have m4 := MF.out _ hH; obtain ⟨c0_a, c1_a, c2_a, c3_a, c4_a, z_a⟩ := FR.out _ (S1.out.then hH) a ok_a; obtain ⟨b0, b1, b2, b3, b4, b5, b6, b7, b8, b9⟩ := FB.out _ hH; clear hH; have hH := hHs; clear hHs)); have h10 : xv 10 = _ := H 10 (by kernel_rfl); obtain ⟨b17, h21, l17, k17⟩ : IsRow w1 (.cells #[.int .u8 ((rgV regs a).num % 256)] 5 (0, 0)) 1 _ _ := H 21 (by kernel_rfl); change aq = puts _ xv [(10, some 93), (21, some 104)] at ha; simp only [q1, q2, q3, q5, q6, q7, h10, h21] at ha; have HX21 := Lib.hid h21; subst ha; clear H h10 h21
      have L := (hS (by kernel_rfl)).1
      clear hU hS
      refine wpList_append_row rfl (.tmp 93) (.tmp 104) 28 rfl (fun b => own b = 8) 5 i0 _ 1 1 Try.underlying28 hi hz0 hz1 hz2 rfl _ _ _ rfl L ⟨b17, 0, none⟩ 1 1 [.int .u8 ((rgV regs a).num % 256)] rfl (by omega) rfl ?c1 ?c2 ?c3 ?c4 ?_
      case c1 => intro j u hj; exact row_add k17 j u hj
      case c2 => intro u hu; simp at hu; subst hu; rfl
      case c3 => have := PP.out.lens.2; simp only [maxLen]; omega
      case c4 => have := PP.out.lens.2; omega
      intro g cap w2 r2 s2 z2
      go_wp2_with fail
      (try refine hQ _ _ ?_)
      refine ⟨s2, trivial, ⟨g, cap, ?_, ?_, ?_⟩, nofun⟩
      · rw [show planPut.refOf 22 = 22 from rfl, if_pos rfl]; simp
      · have el : ((st.out ++ [(rgV regs a).num % 256]).map (Value.int .u8)).length = st.out.length + 1 := by simp
        rw [el, List.map_append]
        refine r2.mono fun b hb => ?_
        have := hH.size
        rcases hb with hb | hb
        · exact .inl hb
        · exact .inr (by omega)
      · exact hH.trans s2 fun _ x => .inl x
  intro xv w2 hH hS H hU hsz hF hN
  have h0 : xv 0 = _ := H 0 (by decide) (by kernel_rfl); have h1 : xv 1 = _ := H 1 (by decide) (by kernel_rfl); have h2 : xv 2 = _ := H 2 (by decide) (by kernel_rfl); have h3 : xv 3 = _ := H 3 (by decide) (by kernel_rfl); have h4 : xv 4 = _ := H 4 (by decide) (by kernel_rfl); have h5 : xv 5 = _ := H 5 (by decide) (by kernel_rfl); have h6 : xv 6 = _ := H 6 (by decide) (by kernel_rfl); have h7 : xv 7 = _ := H 7 (by decide) (by kernel_rfl); have h8 : xv 8 = _ := H 8 (by decide) (by kernel_rfl); have h9 : xv 9 = _ := H 9 (by decide) (by kernel_rfl); have h10 : xv 10 = _ := H 10 (by decide) (by kernel_rfl); have h11 : xv 11 = _ := H 11 (by decide) (by kernel_rfl); have h12 : xv 12 = _ := H 12 (by decide) (by kernel_rfl); have h13 : xv 13 = _ := H 13 (by decide) (by kernel_rfl); have h14 : xv 14 = _ := H 14 (by decide) (by kernel_rfl); have h15 : xv 15 = _ := H 15 (by decide) (by kernel_rfl); have h16 : xv 16 = _ := H 16 (by decide) (by kernel_rfl); have h17 : xv 17 = _ := H 17 (by decide) (by kernel_rfl); have h18 : xv 18 = _ := H 18 (by decide) (by kernel_rfl); have h19 : xv 19 = _ := H 19 (by decide) (by kernel_rfl); have h20 : xv 20 = _ := H 20 (by decide) (by kernel_rfl); obtain ⟨g10, cap10, h22, r10, s10⟩ : (Grew w1 own 8 5 ((st.out ++ [(rgV regs a).num % 256]).map (Value.int .u8))) (xv 22) _ := hU 22 (by decide) (by kernel_rfl)
  simp only [planPut, q1, q2, q3, q5, q6, q7, q4, List.drop_succ_cons, List.drop_zero, h0, h1, h2, h3, h4, h5, h6, h7, h8, h9, h10, h11, h12, h13, h14, h15, h16, h17, h18, h19, h20, h22]
  have hL := hU 22 (by decide) (by kernel_rfl)
  clear H hF hN hS hU h0 h1 h2 h3 h4 h5 h6 h7 h8 h9 h10 h11 h12 h13 h14 h15 h16 h17 h18 h19 h20 h22
  have k2 : w2.heap[pw]? = _ := (hH.block pw (lt_known PP.out.struct) (fun e => by have := PP.out.tag.1; omega)).trans PP.out.struct
  have f10 := free_known k2 4
  have c10 := cell_known k2 (i := 4) rfl
  have H2 := Lib.hid hH
  have R10 := Lib.hid r10
  have K2 := Lib.hid k2
  clear hH r10 s10 k2
  go_wp2_with fail
  go_end0
  have P := PP.out
  have H := H2.out
  have hz := H.size
  obtain ⟨g0, cap0, cur0, e0, hg0, hrow, _⟩ := R10.out.some (by simp)
  cases e0
  have hg : g10 < w2.heap.size := lt_known hrow
  have tp := P.tag.1
  have hgp : g10 ≠ pw := fun e => by
    subst e
    have := lt_known P.struct
    rcases hg0 with hg0 | hg0 <;> omega
  have hs : Step (fun b => own b ≠ 0) w1 (w2.setCell ⟨pw, 4, none⟩ (.slice (some ⟨g10, 0, none⟩) (st.out.length + 1) cap10)) :=
    (H.mono fun b _ hb => by rw [hb]; decide).set (.inl (by simp [tp])) _
  have same : ∀ b, b < w1.heap.size → (if b = g10 then 8 else own b) = own b := fun b hb => by
    by_cases e : b = g10
    · subst e
      rw [if_pos rfl]
      rcases hg0 with hg0 | hg0 <;> omega
    · rw [if_neg e]
  have CG : Chg own (fun b => if b = g10 then 8 else own b) w1 (w2.setCell ⟨pw, 4, none⟩ (.slice (some ⟨g10, 0, none⟩) (st.out.length + 1) cap10)) := ⟨hs, same⟩
  refine ⟨rfl, c + 1, Nat.le_refl _, fun b => if b = g10 then 8 else own b, ((Chg.calm own S1.out).g gx).trans (CG.g gx), ⟨ph, bt, bf, ui, .slice (some ⟨g10, 0, none⟩) (st.out.length + 1) cap10, P.next 8 (vo' := .slice (some ⟨g10, 0, none⟩) (st.out.length + 1) cap10) (Nat.le_succ c) hs same ?_ ?_ (by decide) ?_ (by simp) ?_ P.input⟩, HF1.out.keep CG⟩
  · intro b hb
    have e : (w2.setCell ⟨pw, 4, none⟩ (.slice (some ⟨g10, 0, none⟩) (st.out.length + 1) cap10)).heap.size = w2.heap.size := by simp
    rw [e]
    by_cases hbg : b = g10
    · rw [hbg]; exact hg
    · simp only [if_neg hbg] at hb
      have := (P.low b hb).2
      omega
  · intro b h0 h1 h6
    have hb := (P.low b h0).2
    have hp : b ≠ pw := fun e => by subst e; exact h1 tp
    rw [set_other _ _ hp, H.block b (by omega) h6]
  · rw [set_known K2.out]; simp
  · rw [if_pos rfl]
    have hlen := P.lens.2
    refine ⟨?_, by simp; omega⟩
    have r := R10.out
    have el : ((st.out ++ [(rgV regs a).num % 256]).map (Value.int .u8)).length = (st.out ++ [(rgV regs a).num % 256]).length := by simp
    rw [el] at r
    have el2 : (st.out ++ [(rgV regs a).num % 256]).length = st.out.length + 1 := by simp
    rw [el2] at r ⊢
    obtain ⟨r1, ⟨_, r2⟩ | ⟨g1, c1, cu1, e1, _, q1, q2⟩⟩ := r
    · omega
    · cases e1
      exact ⟨r1, .inr ⟨g10, cap10, cu1, rfl, by simp, (set_other _ _ hgp).trans q1, q2⟩⟩
end
end Go.Proofs.Ytojfgdoniajmeaa
