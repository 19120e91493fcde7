/- Package fat: instructions that read and put out bytes, and the one that ends the run. -/
import Derived.Test.YtpmbakhnamlooaaFatK
namespace Go.Proofs.Ytpmbakhnamlooaa
set_option linter.unusedVariables false
set_option linter.unusedSimpArgs false
open Go.RowKit

section
variable {w0 w w' w1 w2 : World} {pf pw gx : Nat} {own own' own'' : Nat → Nat} {vn vp vk vs vc vr vl : Value} {regs slots : List Int} {lock key : Int} {fnv : List UInt8 → Option Value} {tops : List UInt8 → Option Int} {st : FSt} {c : Nat}

theorem u8_info : (Try.prog.info? 5).map (fun i => (i.zero, i.size, i.bytes)) = some (some (.int .u8 0), 1, 1) := by kernel_rfl
/-- the machine's struct, as a walk reads it -/
theorem mach_facts {bf bt bm bs bb : Nat} {ul ui uo : Value} (P : FParts w0 w pw own fnv tops st c bf bt bm bs bb ul ui uo) : ∀ y, Step (fun _ => False) w y → y.cell? ⟨pw, 9, none⟩ = some ui ∧ y.cell? ⟨pw, 10, none⟩ = some uo := fun _ hy =>
  have k := hy.keeps P.struct
  ⟨cell_known k rfl, cell_known k rfl⟩
/-- a slice that is what is left of the input -/
def IsTail (w0 : World) (zs : List Int) (y : Value) (_ : World) : Prop := ∃ p cap, y = .slice p zs.length cap ∧ IntsAt .u8 w0 (.slice p zs.length cap) zs
theorem IsTail.stable {zs : List Int} {y : Value} (_ : Step (fun _ => False) w w') (k : IsTail w0 zs y w) : IsTail w0 zs y w' := k
theorem FParts.setReg {bf bt bm bs bb : Nat} {ul ui uo : Value} (P : FParts w0 w pw own fnv tops st c bf bt bm bs bb ul ui uo) (hg : own gx = 0) (hl : w0.heap.size ≤ gx) (i : Nat) (x : Value) : FParts w0 (w.setCell ⟨gx, i, none⟩ x) pw own fnv tops st c bf bt bm bs bb ul ui uo := by
  obtain ⟨t1, t2, t3, t4, t5, t7⟩ := P.tag
  have k : ∀ b, own b ≠ 0 → (w.setCell ⟨gx, i, none⟩ x).heap[b]? = w.heap[b]? := fun b hb => set_other _ _ fun e => by rw [e] at hb; exact hb hg
  have hz : (w.setCell ⟨gx, i, none⟩ x).heap.size = w.heap.size := by simp
  exact ⟨(k pw (by omega)).trans P.struct, P.tag, P.fns.same (k _ (by omega)), P.tops.same (k _ (by omega)), P.mem.same (k _ (by omega)), P.shadow.same (k _ (by omega)), P.blocks.same (k _ (by omega)),
    P.locks.same fun b hb _ => k b (by omega), P.out.same fun b hb _ => k b (by omega), P.input, fun b hb => by rw [hz]; exact P.low b hb, P.step.set (.inl hl) _, P.lens⟩
def planPut : Plan where
  T := [[], [0], [0, 1], [0, 1, 2], [], [4], [4, 5], [4, 5, 6], [4, 5, 6, 7], [4, 5, 6, 7, 8], [4, 5, 6, 7, 8, 9], [], [], [12], [11, 12, 13], [11, 12, 13, 14], [11, 12, 13, 14, 15], [11, 12, 13, 14, 15, 16], [4, 5, 6, 7, 8, 9, 10, 11, 12, 13, 14, 15, 16, 17], [0, 1, 2, 3, 4, 5, 6, 7, 8, 9, 10, 11, 12, 13, 14, 15, 16, 17, 18], [0, 1, 2, 3, 4, 5, 6, 7, 8, 9, 10, 11, 12, 13, 14, 15, 16, 17, 18, 19], [0, 1, 2, 3, 4, 5, 6, 7, 8, 9, 10, 11, 12, 13, 14, 15, 16, 17, 18, 19, 20]]
  rd := [[], [(0, some 119)], [(1, some 120)], [(2, some 121)], [], [(4, some 123)], [(5, some 124)], [(6, some 125)], [(7, some 126)], [(8, some 127)], [(9, some 128)], [], [], [(12, some 131)], [(11, some 130), (13, some 132)], [(14, some 133)], [(15, some 134)], [(16, some 135)], [(10, some 129), (17, some 136)]]
  all := [(18, some 137), (17, some 136), (16, some 135), (15, some 134), (14, some 133), (13, some 132), (12, some 131), (11, some 130), (10, some 129), (9, some 128), (8, some 127), (7, some 126), (6, some 125), (5, some 124), (4, some 123), (3, some 122), (2, some 121), (1, some 120), (0, some 119)]
  calm := [true, true, true, true, true, true, true, true, true, true, true, true, true, true, true, true, true, true, false]
  hard := [true, true, true, true, true, true, true, true, true, true, true, true, true, true, true, true, true, false, true]
  fresh := [false, false, false, false, false, false, false, false, false, false, false, false, false, false, false, false, false, true, false]

def planGet : Plan where
  T := [[], [], [1], [], [3], [3, 4], [3, 4, 5], [], [7], [7, 8], [7, 8, 9], [7, 8, 9, 10], [7, 8, 9, 10, 11], [7, 8, 9, 10, 11, 12], [7, 8, 9, 10, 11, 12, 13], [7, 8, 9, 10, 11, 12, 13, 14], [7, 8, 9, 10, 11, 12, 13, 14, 15], [], [17], [17, 18], [17, 18, 19], [17, 18, 19, 20], [17, 18, 19, 20, 21], [17, 18, 19, 20, 21, 22], [17, 18, 19, 20, 21, 22, 23], [0, 1, 2, 3, 4, 5, 6, 7, 8, 9, 10, 11, 12, 13, 14, 15, 16, 17, 18, 19, 20, 21, 22, 23], [0, 1, 2, 3, 4, 5, 6, 7, 8, 9, 10, 11, 12, 13, 14, 15, 16, 17, 18, 19, 20, 21, 22, 23, 25], [0, 1, 2, 3, 4, 5, 6, 7, 8, 9, 10, 11, 12, 13, 14, 15, 16, 17, 18, 19, 20, 21, 22, 23, 24, 25, 26], [0, 1, 2, 3, 4, 5, 6, 7, 8, 9, 10, 11, 12, 13, 14, 15, 16, 17, 18, 19, 20, 21, 22, 23, 24, 25, 26, 27], [0, 1, 2, 3, 4, 5, 6, 7, 8, 9, 10, 11, 12, 13, 14, 15, 16, 17, 18, 19, 20, 21, 22, 23, 24, 25, 26, 27, 28]]
  rd := [[], [], [(1, some 90)], [], [(3, some 92)], [(4, some 93)], [(5, some 94)], [], [(7, some 96)], [(8, some 97)], [(9, some 98)], [(10, some 99)], [(11, some 100)], [(12, some 101)], [(13, some 102)], [(14, some 103)], [(15, some 104)], [], [(17, some 106)], [(18, some 107)], [(19, some 108)], [(20, some 109)], [(21, some 110)], [(22, some 111)], [(23, some 112)], [(0, some 89), (2, some 91)], [(16, some 105), (25, some 114)]]
  all := [(26, none), (25, some 114), (24, some 113), (23, some 112), (22, some 111), (21, some 110), (20, some 109), (19, some 108), (18, some 107), (17, some 106), (16, some 105), (15, some 104), (14, some 103), (13, some 102), (12, some 101), (11, some 100), (10, some 99), (9, some 98), (8, some 97), (7, some 96), (6, some 95), (5, some 94), (4, some 93), (3, some 92), (2, some 91), (1, some 90), (0, some 89)]
  calm := [true, true, true, true, true, true, true, true, true, true, true, true, true, true, true, true, true, true, true, true, true, true, true, true, true, true, false]
  hard := [true, true, true, true, true, true, true, true, true, true, true, true, true, true, true, true, true, true, true, true, true, true, true, true, true, true, true]
  fresh := [false, false, false, false, false, false, false, false, false, false, false, false, false, false, false, false, false, false, false, false, false, false, false, false, false, false, false]

set_option maxHeartbeats 4000000 in
set_option maxRecDepth 100000 in
theorem do_22 (hW : FWAt w0 w pw own fnv tops st c) (hF : FrAt w own pf pw gx vn vp vk vs vc vr vl regs slots lock key) (hl : w0.heap.size ≤ gx) {v : Value} {i : FIns} (hi : InsAt w0 v i) (ho : i.op = 22)  (ok_a : ok1 regs i.a) (h64 : regs64 regs) :
    Calls Try.prog 61 #[.pointer (some ⟨pf, 0, none⟩), v] w fun e w' => e = .panicked [{ v := stopV 1 (rg regs i.a % 256), recovered := false }] ∧ Step (fun _ => False) w w' := by
  obtain ⟨va, vo, rfl, iargs, iouts⟩ := hi
  obtain ⟨op, dst, a, b, n, size, name, args, outs, to⟩ := i
  simp only at *
  subst ho
  obtain ⟨rcap, rfl⟩ := regs_slice hF (by unfold ok1 at ok_a; omega)
  have HW := Lib.hid hW
  have HF := Lib.hid hF
  have HL := Lib.hid hl
  have FF := Lib.hid (frame_facts hF)
  have FR := Lib.hid (reg_facts hF)
  have ra := rg_64 h64 a
  unfold is64 at ra
  unfold ok1 at ok_a
  clear hW hF hl
  obtain ⟨f0, f4, f6, f7, f8, f9⟩ := FF.out _ (Step.refl _ _)
  have hpf := block_lt f6
  simp only at hpf
  go_enter Try.func61, Try.ntmps61
  go_upto_region 19 with fail
  have kb := heap_alloc_new w (.cells #[.int .i64 22, .int .i64 dst, .int .i64 a, .int .i64 b, .int .u64 n, .int .i64 size, .string name, va, vo, .int .i64 to] 47 (0, 0))
  have S1 := Lib.hid (Step.alloc (fun _ => False) w (.cells #[.int .i64 22, .int .i64 dst, .int .i64 a, .int .i64 b, .int .u64 n, .int .i64 size, .string name, va, vo, .int .i64 to] 47 (0, 0)))
  clear f0 f4 f6 f7 f8 f9 hpf
  have HT := Lib.hid (show gx < w.heap.size ∧ own w.heap.size = 0 from ⟨HF.out.free.2.2.2, HW.out.fresh0⟩)
  generalize w.alloc (.cells #[.int .i64 22, .int .i64 dst, .int .i64 a, .int .i64 b, .int .u64 n, .int .i64 size, .string name, va, vo, .int .i64 to] 47 (0, 0)) = w1 at kb S1 ⊢
  generalize w.heap.size = tb at kb HT ⊢
  have KB := Lib.hid kb
  have FB := Lib.hid (box_facts kb)
  clear kb
  have hH := Step.refl (fun _ => False) w1
  obtain ⟨f0, f4, f6, f7, f8, f9⟩ := FF.out _ (S1.out.then hH)
  obtain ⟨c_a, z_a⟩ := FR.out _ (S1.out.then hH) a ok_a
  obtain ⟨b0, b1, b2, b3, b4, b5, b6, b7, b8, b9⟩ := FB.out _ hH
  have ew : IntKind.u8.wrap (rg regs a) = rg regs a % 256 := IntKind.wrap_u8 _
  clear hH
  go_wp2_with fail
  exact ⟨rfl, rfl, S1.out⟩
set_option maxHeartbeats 4000000 in
set_option maxRecDepth 100000 in
theorem do_20 (hW : FWAt w0 w pw own fnv tops st c) (hF : FrAt w own pf pw gx vn vp vk vs vc vr vl regs slots lock key) (hl : w0.heap.size ≤ gx) {v : Value} {i : FIns} (hi : InsAt w0 v i) (ho : i.op = 20)  (ok_a : ok1 regs i.a) (h64 : regs64 regs) (hc : c ≤ 1000000000) :
    Calls Try.prog 61 #[.pointer (some ⟨pf, 0, none⟩), v] w (Went w0 w pw own fnv tops pf gx vn vp vk vs vc vr vl slots lock key { st with out := st.out ++ [rg regs i.a % 256] } (c + 1) (regs)) := by
  obtain ⟨va, vo, rfl, iargs, iouts⟩ := hi
  obtain ⟨op, dst, a, b, n, size, name, args, outs, to⟩ := i
  simp only at *
  subst ho
  obtain ⟨rcap, rfl⟩ := regs_slice hF (by unfold ok1 at ok_a; omega)
  have HW := Lib.hid hW
  have HF := Lib.hid hF
  have HL := Lib.hid hl
  have FF := Lib.hid (frame_facts hF)
  have FR := Lib.hid (reg_facts hF)
  have ra := rg_64 h64 a
  unfold is64 at ra
  unfold ok1 at ok_a
  clear hW hF hl
  obtain ⟨f0, f4, f6, f7, f8, f9⟩ := FF.out _ (Step.refl _ _)
  have hpf := block_lt f6
  simp only at hpf
  go_enter Try.func61, Try.ntmps61
  go_upto_region 17 with fail
  have kb := heap_alloc_new w (.cells #[.int .i64 20, .int .i64 dst, .int .i64 a, .int .i64 b, .int .u64 n, .int .i64 size, .string name, va, vo, .int .i64 to] 47 (0, 0))
  have S1 := Lib.hid (Step.alloc (fun _ => False) w (.cells #[.int .i64 20, .int .i64 dst, .int .i64 a, .int .i64 b, .int .u64 n, .int .i64 size, .string name, va, vo, .int .i64 to] 47 (0, 0)))
  clear f0 f4 f6 f7 f8 f9 hpf
  have HT := Lib.hid (show gx < w.heap.size ∧ own w.heap.size = 0 from ⟨HF.out.free.2.2.2, HW.out.fresh0⟩)
  generalize w.alloc (.cells #[.int .i64 20, .int .i64 dst, .int .i64 a, .int .i64 b, .int .u64 n, .int .i64 size, .string name, va, vo, .int .i64 to] 47 (0, 0)) = w1 at kb S1 ⊢
  generalize w.heap.size = tb at kb HT ⊢
  have KB := Lib.hid kb
  have FB := Lib.hid (box_facts kb)
  clear kb
  have ew : IntKind.u8.wrap (rg regs a) = rg regs a % 256 := IntKind.wrap_u8 _
  obtain ⟨i0, hi, hz0, hz1, hz2⟩ := info_parts u8_info
  have HW1 := Lib.hid (HW.out.still S1.out)
  have HF1 := Lib.hid (HF.out.still S1.out)
  obtain ⟨bf, bt, bm, bs, bb, ul, ui, uo, P⟩ := HW1.out
  obtain ⟨ao, ocap, eo⟩ := P.out.slice
  subst eo
  have MF := Lib.hid (mach_facts P)
  have FZ := Lib.hid (show ∀ y, Step (fun b => own b = 8) w1 y → y.cell? ⟨pf, 0, none⟩ = some (.pointer (some ⟨pw, 0, none⟩)) from fun y hy => cell_known ((hy.block pf (lt_known HF1.out.struct) fun e => by have := HF1.out.free.1; omega).trans HF1.out.struct) rfl)
  have PP := Lib.hid P
  have HR := Lib.hid P.out
  clear P
  refine wp_region_each 19 planPut (fun a b => Step (fun x => own x = 8) a b) (Step (fun x => own x = 8) w1) (fun x => RowAt x (fun b => own b = 8) 5 1 (.slice ao st.out.length ocap) st.out.length (st.out.map (Value.int .u8)) ∧ Step (fun _ => False) w1 x) [Is ?v17_1_0, Is ?v17_1_1, Is ?v17_1_2, Is ?v17_1_3, Is ?v17_1_4, Is ?v17_1_5, Is ?v17_1_6, Is ?v17_1_7, Is ?v17_1_8, Is ?v17_1_9, Is ?v17_1_10, Is ?v17_1_11, Is ?v17_1_12, Is ?v17_1_13, Is ?v17_1_14, Is ?v17_1_15, Is ?v17_1_16, IsRow w1 (.cells #[.int .u8 (rg regs a % 256)] 5 (0, 0)) 1, fun _ _ => True] [fun _ _ => True, fun _ _ => True, fun _ _ => True, fun _ _ => True, fun _ _ => True, fun _ _ => True, fun _ _ => True, fun _ _ => True, fun _ _ => True, fun _ _ => True, fun _ _ => True, fun _ _ => True, fun _ _ => True, fun _ _ => True, fun _ _ => True, fun _ _ => True, fun _ _ => True, fun _ _ => True, Grew w1 own 8 5 ((st.out ++ [rg regs a % 256]).map (Value.int .u8))] (by kernel_rfl) (by kernel_rfl) (fun _ _ h => h.size) ((Step.refl _ _).drew) (⟨HR.out.same fun _ _ _ => rfl, (Step.refl _ _).drew⟩) ?stab17_1 ?stabD17_1 ?obl17_1 ?fin17_1
  case stab17_1 => exact fun w w' h => ⟨fun k => k.trans h (fun _ x => x.elim), fun k => ⟨k.1.same fun b _ hb => h.block b hb fun x => x, k.2.trans h fun _ x => x.elim⟩, ⟨fun _ k => k, fun _ k => k, fun _ k => k, fun _ k => k, fun _ k => k, fun _ k => k, fun _ k => k, fun _ k => k, fun _ k => k, fun _ k => k, fun _ k => k, fun _ k => k, fun _ k => k, fun _ k => k, fun _ k => k, fun _ k => k, fun _ k => k, fun _ k => IsRow.stable h k, fun _ k => k, trivial⟩, ⟨fun _ k => k, fun _ k => k, fun _ k => k, fun _ k => k, fun _ k => k, fun _ k => k, fun _ k => k, fun _ k => k, fun _ k => k, fun _ k => k, fun _ k => k, fun _ k => k, fun _ k => k, fun _ k => k, fun _ k => k, fun _ k => k, fun _ k => k, fun _ k => k, fun _ k => k.stable h, trivial⟩⟩
  case stabD17_1 => exact fun w w' h => ⟨fun k => k.trans h (fun _ x => .inl x), fun _ _ k => k, fun _ _ k => k, fun _ _ k => k, fun _ _ k => k, fun _ _ k => k, fun _ _ k => k, fun _ _ k => k, fun _ _ k => k, fun _ _ k => k, fun _ _ k => k, fun _ _ k => k, fun _ _ k => k, fun _ _ k => k, fun _ _ k => k, fun _ _ k => k, fun _ _ k => k, fun _ _ k => k, nofun, fun _ _ k => k, trivial⟩
  case obl17_1 =>
    refine ⟨?o17_1_0, ?o17_1_1, ?o17_1_2, ?o17_1_3, ?o17_1_4, ?o17_1_5, ?o17_1_6, ?o17_1_7, ?o17_1_8, ?o17_1_9, ?o17_1_10, ?o17_1_11, ?o17_1_12, ?o17_1_13, ?o17_1_14, ?o17_1_15, ?o17_1_16, ?o17_1_17, ?o17_1_18, trivial⟩
    all_goals intro xv wq hH hS H hU aq ha Q' hQ
    case o17_1_0 => cases rd0 ha; clear H hU hS; go_wp2_with fail; (try refine hQ _ _ ?_); refine ⟨Step.refl _ _, ?_, trivial, nofun⟩; exact (rfl : _ = _)
    case o17_1_1 | o17_1_2 => have ha := rd1 ha H (by kernel_rfl) rfl; simp only [q3, q5, q6, q7] at ha; subst ha; clear H hU hS; go_wp2_with fail; (try refine hQ _ _ ?_); refine ⟨Step.refl _ _, ?_, trivial, nofun⟩; exact (rfl : _ = _)
    case o17_1_3 => have zf := FZ.out _ hH; (try (have hHs := hH; have hH := (hS (by decide)).2; obtain ⟨f0, f4, f6, f7, f8, f9⟩ := FF.out _ (S1.out.then hH); obtain ⟨c_a, z_a⟩ := FR.out _ (S1.out.then hH) a ok_a; obtain ⟨b0, b1, b2, b3, b4, b5, b6, b7, b8, b9⟩ := FB.out _ hH; obtain ⟨m9, m10⟩ := MF.out _ hH; clear hH; have hH := hHs; clear hHs)); have ha := rd1 ha H (by kernel_rfl) rfl; simp only [q3, q5, q6, q7] at ha; subst ha; clear H hU hS; go_wp2_with fail; (try refine hQ _ _ ?_); refine ⟨Step.refl _ _, ?_, trivial, nofun⟩; exact (rfl : _ = _)
    case o17_1_4 => cases rd0 ha; clear H hU hS; go_wp2_with fail; (try refine hQ _ _ ?_); refine ⟨Step.refl _ _, ?_, trivial, nofun⟩; exact (rfl : _ = _)
    case o17_1_5 | o17_1_6 => have ha := rd1 ha H (by kernel_rfl) rfl; simp only [q3, q5, q6, q7] at ha; subst ha; clear H hU hS; go_wp2_with fail; (try refine hQ _ _ ?_); refine ⟨Step.refl _ _, ?_, trivial, nofun⟩; exact (rfl : _ = _)
    case o17_1_7 => have zf := FZ.out _ hH; (try (have hHs := hH; have hH := (hS (by decide)).2; obtain ⟨f0, f4, f6, f7, f8, f9⟩ := FF.out _ (S1.out.then hH); obtain ⟨c_a, z_a⟩ := FR.out _ (S1.out.then hH) a ok_a; obtain ⟨b0, b1, b2, b3, b4, b5, b6, b7, b8, b9⟩ := FB.out _ hH; obtain ⟨m9, m10⟩ := MF.out _ hH; clear hH; have hH := hHs; clear hHs)); have ha := rd1 ha H (by kernel_rfl) rfl; simp only [q3, q5, q6, q7] at ha; subst ha; clear H hU hS; go_wp2_with fail; (try refine hQ _ _ ?_); refine ⟨Step.refl _ _, ?_, trivial, nofun⟩; exact (rfl : _ = _)
    case o17_1_8 | o17_1_9 => have ha := rd1 ha H (by kernel_rfl) rfl; simp only [q3, q5, q6, q7] at ha; subst ha; clear H hU hS; go_wp2_with fail; (try refine hQ _ _ ?_); refine ⟨Step.refl _ _, ?_, trivial, nofun⟩; exact (rfl : _ = _)
    case o17_1_10 => have zf := FZ.out _ hH; (try (have hHs := hH; have hH := (hS (by decide)).2; obtain ⟨f0, f4, f6, f7, f8, f9⟩ := FF.out _ (S1.out.then hH); obtain ⟨c_a, z_a⟩ := FR.out _ (S1.out.then hH) a ok_a; obtain ⟨b0, b1, b2, b3, b4, b5, b6, b7, b8, b9⟩ := FB.out _ hH; obtain ⟨m9, m10⟩ := MF.out _ hH; clear hH; have hH := hHs; clear hHs)); have ha := rd1 ha H (by kernel_rfl) rfl; simp only [q3, q5, q6, q7] at ha; subst ha; clear H hU hS; go_wp2_with fail; (try refine hQ _ _ ?_); refine ⟨Step.refl _ _, ?_, trivial, nofun⟩; exact (rfl : _ = _)
    case o17_1_11 | o17_1_12 => cases rd0 ha; clear H hU hS; go_wp2_with fail; (try refine hQ _ _ ?_); refine ⟨Step.refl _ _, ?_, trivial, nofun⟩; exact (rfl : _ = _)
    case o17_1_13 => have zf := FZ.out _ hH; (try (have hHs := hH; have hH := (hS (by decide)).2; obtain ⟨f0, f4, f6, f7, f8, f9⟩ := FF.out _ (S1.out.then hH); obtain ⟨c_a, z_a⟩ := FR.out _ (S1.out.then hH) a ok_a; obtain ⟨b0, b1, b2, b3, b4, b5, b6, b7, b8, b9⟩ := FB.out _ hH; obtain ⟨m9, m10⟩ := MF.out _ hH; clear hH; have hH := hHs; clear hHs)); have ha := rd1 ha H (by kernel_rfl) rfl; simp only [q3, q5, q6, q7] at ha; subst ha; clear H hU hS; go_wp2_with fail; (try refine hQ _ _ ?_); refine ⟨Step.refl _ _, ?_, trivial, nofun⟩; exact (rfl : _ = _)
    case o17_1_14 => have zf := FZ.out _ hH; (try (have hHs := hH; have hH := (hS (by decide)).2; obtain ⟨f0, f4, f6, f7, f8, f9⟩ := FF.out _ (S1.out.then hH); obtain ⟨c_a, z_a⟩ := FR.out _ (S1.out.then hH) a ok_a; obtain ⟨b0, b1, b2, b3, b4, b5, b6, b7, b8, b9⟩ := FB.out _ hH; obtain ⟨m9, m10⟩ := MF.out _ hH; clear hH; have hH := hHs; clear hHs)); have ha := rd2 ha H (by kernel_rfl) (by kernel_rfl) rfl rfl; simp only [q3, q5, q6, q7] at ha; subst ha; clear H hU hS; go_wp2_with fail; (try refine hQ _ _ ?_); refine ⟨Step.refl _ _, ?_, trivial, nofun⟩; exact (rfl : _ = _)
    case o17_1_15 | o17_1_16 => have zf := FZ.out _ hH; (try (have hHs := hH; have hH := (hS (by decide)).2; obtain ⟨f0, f4, f6, f7, f8, f9⟩ := FF.out _ (S1.out.then hH); obtain ⟨c_a, z_a⟩ := FR.out _ (S1.out.then hH) a ok_a; obtain ⟨b0, b1, b2, b3, b4, b5, b6, b7, b8, b9⟩ := FB.out _ hH; obtain ⟨m9, m10⟩ := MF.out _ hH; clear hH; have hH := hHs; clear hHs)); have ha := rd1 ha H (by kernel_rfl) rfl; simp only [q3, q5, q6, q7] at ha; subst ha; clear H hU hS; go_wp2_with fail; (try refine hQ _ _ ?_); refine ⟨Step.refl _ _, ?_, trivial, nofun⟩; exact (rfl : _ = _)
    case o17_1_17 => have zf := FZ.out _ hH; (try (have hHs := hH; have hH := (hS (by decide)).2; obtain ⟨f0, f4, f6, f7, f8, f9⟩ := FF.out _ (S1.out.then hH); obtain ⟨c_a, z_a⟩ := FR.out _ (S1.out.then hH) a ok_a; obtain ⟨b0, b1, b2, b3, b4, b5, b6, b7, b8, b9⟩ := FB.out _ hH; obtain ⟨m9, m10⟩ := MF.out _ hH; clear hH; have hH := hHs; clear hHs)); have h16 : xv 16 = _ := H 16 (by kernel_rfl); change aq = puts _ xv [(16, some 135)] at ha; simp only [q1, q2, q3, q5, q6, q7, h16] at ha; subst ha; clear H h16; clear hU hS; go_wp2_with fail; (try refine hQ _ _ ?_); refine ⟨Step.alloc _ _ _, ?_, trivial, fun _ => ⟨_, rfl, Nat.le_refl _, by simp⟩⟩; exact ⟨_, rfl, hH.size, heap_alloc_new _ _⟩
    case o17_1_18 =>
      have zf := FZ.out _ hH; (try (have hHs := hH; have hH := (hS (by decide)).2; obtain ⟨f0, f4, f6, f7, f8, f9⟩ := FF.out _ (S1.out.then hH); obtain ⟨c_a, z_a⟩ := FR.out _ (S1.out.then hH) a ok_a; obtain ⟨b0, b1, b2, b3, b4, b5, b6, b7, b8, b9⟩ := FB.out _ hH; obtain ⟨m9, m10⟩ := MF.out _ hH; clear hH; have hH := hHs; clear hHs)); have h10 : xv 10 = _ := H 10 (by kernel_rfl); obtain ⟨b17, h17, l17, k17⟩ : IsRow w1 (.cells #[.int .u8 (rg regs a % 256)] 5 (0, 0)) 1 _ _ := H 17 (by kernel_rfl); change aq = puts _ xv [(10, some 129), (17, some 136)] at ha; simp only [q1, q2, q3, q5, q6, q7, h10, h17] at ha; have HX17 := Lib.hid h17; subst ha; clear H h10 h17
      have L := (hS (by kernel_rfl)).1
      clear hU hS
      refine wpList_append_row rfl (.tmp 129) (.tmp 136) 28 rfl (fun b => own b = 8) 5 i0 _ 1 1 Try.underlying28 hi hz0 hz1 hz2 rfl _ _ _ rfl L ⟨b17, 0, none⟩ 1 1 [.int .u8 (rg regs a % 256)] rfl (by omega) rfl ?c1 ?c2 ?c3 ?c4 ?_
      case c1 => intro j u hj; exact row_add k17 j u hj
      case c2 => intro u hu; simp at hu; subst hu; rfl
      case c3 => have := PP.out.lens.2; simp only [maxLen]; omega
      case c4 => have := PP.out.lens.2; omega
      intro g cap w2 r2 s2 z2
      go_wp2_with fail
      (try refine hQ _ _ ?_)
      refine ⟨s2, trivial, ⟨g, cap, ?_, ?_, ?_⟩, nofun⟩
      · rw [show planPut.refOf 18 = 18 from rfl, if_pos rfl]; simp
      · have el : ((st.out ++ [rg regs a % 256]).map (Value.int .u8)).length = st.out.length + 1 := by simp
        rw [el, List.map_append]
        refine r2.mono fun b hb => ?_
        have := hH.size
        rcases hb with hb | hb
        · exact .inl hb
        · exact .inr (by omega)
      · exact hH.trans s2 fun _ x => .inl x
  intro xv w2 hH hS H hU hsz hF hN
  have h0 : xv 0 = _ := H 0 (by decide) (by kernel_rfl); have h1 : xv 1 = _ := H 1 (by decide) (by kernel_rfl); have h2 : xv 2 = _ := H 2 (by decide) (by kernel_rfl); have h3 : xv 3 = _ := H 3 (by decide) (by kernel_rfl); have h4 : xv 4 = _ := H 4 (by decide) (by kernel_rfl); have h5 : xv 5 = _ := H 5 (by decide) (by kernel_rfl); have h6 : xv 6 = _ := H 6 (by decide) (by kernel_rfl); have h7 : xv 7 = _ := H 7 (by decide) (by kernel_rfl); have h8 : xv 8 = _ := H 8 (by decide) (by kernel_rfl); have h9 : xv 9 = _ := H 9 (by decide) (by kernel_rfl); have h10 : xv 10 = _ := H 10 (by decide) (by kernel_rfl); have h11 : xv 11 = _ := H 11 (by decide) (by kernel_rfl); have h12 : xv 12 = _ := H 12 (by decide) (by kernel_rfl); have h13 : xv 13 = _ := H 13 (by decide) (by kernel_rfl); have h14 : xv 14 = _ := H 14 (by decide) (by kernel_rfl); have h15 : xv 15 = _ := H 15 (by decide) (by kernel_rfl); have h16 : xv 16 = _ := H 16 (by decide) (by kernel_rfl); obtain ⟨g10, cap10, h18, r10, s10⟩ : (Grew w1 own 8 5 ((st.out ++ [rg regs a % 256]).map (Value.int .u8))) (xv 18) _ := hU 18 (by decide) (by kernel_rfl)
  simp only [planPut, q1, q2, q3, q5, q6, q7, q4, List.drop_succ_cons, List.drop_zero, h0, h1, h2, h3, h4, h5, h6, h7, h8, h9, h10, h11, h12, h13, h14, h15, h16, h18]
  have hL := hU 18 (by decide) (by kernel_rfl)
  clear H hF hN hS hU h0 h1 h2 h3 h4 h5 h6 h7 h8 h9 h10 h11 h12 h13 h14 h15 h16 h18
  have k2 : w2.heap[pw]? = _ := (hH.block pw (lt_known PP.out.struct) (fun e => by have := PP.out.tag.1; omega)).trans PP.out.struct
  have f10 := free_known k2 10
  have c10 := cell_known k2 (i := 10) rfl
  have H2 := Lib.hid hH
  have R10 := Lib.hid r10
  have K2 := Lib.hid k2
  clear hH r10 s10 k2
  go_wp2_with fail
  go_end0
  have P := PP.out
  have H := H2.out
  have hz := H.size
  obtain ⟨g0, cap0, cur0, e0, hg0, hrow, _⟩ := R10.out.some (by simp)
  cases e0
  have hg : g10 < w2.heap.size := lt_known hrow
  have tp := P.tag.1
  have hgp : g10 ≠ pw := fun e => by
    subst e
    have := lt_known P.struct
    rcases hg0 with hg0 | hg0 <;> omega
  have hs : Step (fun b => own b ≠ 0) w1 (w2.setCell ⟨pw, 10, none⟩ (.slice (some ⟨g10, 0, none⟩) (st.out.length + 1) cap10)) :=
    (H.mono fun b _ hb => by rw [hb]; decide).set (.inl (by simp [tp])) _
  have same : ∀ b, b < w1.heap.size → (if b = g10 then 8 else own b) = own b := fun b hb => by
    by_cases e : b = g10
    · subst e
      rw [if_pos rfl]
      rcases hg0 with hg0 | hg0 <;> omega
    · rw [if_neg e]
  have CG : Chg own (fun b => if b = g10 then 8 else own b) w1 (w2.setCell ⟨pw, 10, none⟩ (.slice (some ⟨g10, 0, none⟩) (st.out.length + 1) cap10)) := ⟨hs, same⟩
  refine ⟨rfl, fun b => if b = g10 then 8 else own b, ((Chg.calm own S1.out).g gx).trans (CG.g gx), ⟨bf, bt, bm, bs, bb, ul, ui, .slice (some ⟨g10, 0, none⟩) (st.out.length + 1) cap10, P.next 8 (vo' := .slice (some ⟨g10, 0, none⟩) (st.out.length + 1) cap10) (Nat.le_succ c) hs same ?_ ?_ (by decide) ?_ (by simp) (by simp) (by simp) (by simp) ?_ P.input⟩, HF1.out.keep CG⟩
  · intro b hb
    have e : (w2.setCell ⟨pw, 10, none⟩ (.slice (some ⟨g10, 0, none⟩) (st.out.length + 1) cap10)).heap.size = w2.heap.size := by simp
    rw [e]
    by_cases hbg : b = g10
    · rw [hbg]; exact hg
    · simp only [if_neg hbg] at hb
      have := (P.low b hb).2
      omega
  · intro b h0 h1 h6
    have hb := (P.low b h0).2
    have hp : b ≠ pw := fun e => by subst e; exact h1 tp
    rw [set_other _ _ hp, H.block b (by omega) h6]
  · rw [set_known K2.out]; simp
  · rw [if_pos rfl]
    have hlen := P.lens.2
    refine ⟨?_, by simp; omega⟩
    have r := R10.out
    have el : ((st.out ++ [rg regs a % 256]).map (Value.int .u8)).length = (st.out ++ [rg regs a % 256]).length := by simp
    rw [el] at r
    have el2 : (st.out ++ [rg regs a % 256]).length = st.out.length + 1 := by simp
    rw [el2] at r ⊢
    obtain ⟨r1, ⟨_, r2⟩ | ⟨g1, c1, cu1, e1, _, q1, q2⟩⟩ := r
    · omega
    · cases e1
      exact ⟨r1, .inr ⟨g10, cap10, cu1, rfl, by simp, (set_other _ _ hgp).trans q1, q2⟩⟩
set_option maxHeartbeats 4000000 in
set_option maxRecDepth 100000 in
theorem do_21e (hW : FWAt w0 w pw own fnv tops st c) (hF : FrAt w own pf pw gx vn vp vk vs vc vr vl regs slots lock key) (hl : w0.heap.size ≤ gx) {v : Value} {i : FIns} (hi : InsAt w0 v i) (ho : i.op = 21) (ok_dst : ok1 regs i.dst) (he : st.input = []) :
    Calls Try.prog 61 #[.pointer (some ⟨pf, 0, none⟩), v] w (Went w0 w pw own fnv tops pf gx vn vp vk vs vc vr vl slots lock key st c (regs.set i.dst.toNat 18446744073709551615)) := by
  obtain ⟨va, vo, rfl, iargs, iouts⟩ := hi
  obtain ⟨op, dst, a, b, n, size, name, args, outs, to⟩ := i
  simp only at *
  subst ho
  obtain ⟨rcap, rfl⟩ := regs_slice hF (by unfold ok1 at ok_dst; omega)
  have HW := Lib.hid hW
  have HF := Lib.hid hF
  have HL := Lib.hid hl
  have FF := Lib.hid (frame_facts hF)
  have FR := Lib.hid (reg_facts hF)
  unfold ok1 at ok_dst
  clear hW hF hl
  obtain ⟨f0, f4, f6, f7, f8, f9⟩ := FF.out _ (Step.refl _ _)
  have hpf := block_lt f6
  simp only at hpf
  go_enter Try.func61, Try.ntmps61
  go_upto_region 13 with fail
  have kb := heap_alloc_new w (.cells #[.int .i64 21, .int .i64 dst, .int .i64 a, .int .i64 b, .int .u64 n, .int .i64 size, .string name, va, vo, .int .i64 to] 47 (0, 0))
  have S1 := Lib.hid (Step.alloc (fun _ => False) w (.cells #[.int .i64 21, .int .i64 dst, .int .i64 a, .int .i64 b, .int .u64 n, .int .i64 size, .string name, va, vo, .int .i64 to] 47 (0, 0)))
  clear f0 f4 f6 f7 f8 f9 hpf
  have HT := Lib.hid (show gx < w.heap.size ∧ own w.heap.size = 0 from ⟨HF.out.free.2.2.2, HW.out.fresh0⟩)
  generalize w.alloc (.cells #[.int .i64 21, .int .i64 dst, .int .i64 a, .int .i64 b, .int .u64 n, .int .i64 size, .string name, va, vo, .int .i64 to] 47 (0, 0)) = w1 at kb S1 ⊢
  generalize w.heap.size = tb at kb HT ⊢
  have KB := Lib.hid kb
  have FB := Lib.hid (box_facts kb)
  clear kb
  obtain ⟨bf, bt, bm, bs, bb, ul, ui, uo, P⟩ := (HW.out.still S1.out)
  obtain ⟨⟨pi, icap, ei, _, _, _⟩, _⟩ := P.input
  rw [he] at ei
  subst ei
  have hne : gx ≠ pf := fun e => HF.out.free.2.2.1 e.symm
  have hnp : gx ≠ pw := fun e => by have h1 := HF.out.free.2.1; have h2 := P.tag.1; rw [e] at h1; omega
  have hH := Step.refl (fun _ => False) w1
  obtain ⟨f0, f4, f6, f7, f8, f9⟩ := FF.out _ (S1.out.then hH)
  obtain ⟨c_dst, z_dst⟩ := FR.out _ (S1.out.then hH) dst ok_dst
  obtain ⟨b0, b1, b2, b3, b4, b5, b6, b7, b8, b9⟩ := FB.out _ hH
  obtain ⟨m9, m10⟩ := mach_facts P _ (Step.refl _ _)
  clear hH P
  go_wp2_with fail
  go_end0
  exact went_set (HW.out.still S1.out) (HF.out.still S1.out) S1.out HL.out (by omega) _
set_option maxHeartbeats 4000000 in
set_option maxRecDepth 100000 in
theorem do_21s (hW : FWAt w0 w pw own fnv tops st c) (hF : FrAt w own pf pw gx vn vp vk vs vc vr vl regs slots lock key) (hl : w0.heap.size ≤ gx) {v : Value} {i : FIns} (hi : InsAt w0 v i) (ho : i.op = 21) (ok_dst : ok1 regs i.dst) {ib : Int} {ir : List Int} (he : st.input = ib :: ir) :
    Calls Try.prog 61 #[.pointer (some ⟨pf, 0, none⟩), v] w (Went w0 w pw own fnv tops pf gx vn vp vk vs vc vr vl slots lock key { st with input := ir } c (regs.set i.dst.toNat ib)) := by
  obtain ⟨va, vo, rfl, iargs, iouts⟩ := hi
  obtain ⟨op, dst, a, b, n, size, name, args, outs, to⟩ := i
  simp only at *
  subst ho
  obtain ⟨rcap, rfl⟩ := regs_slice hF (by unfold ok1 at ok_dst; omega)
  have HW := Lib.hid hW
  have HF := Lib.hid hF
  have HL := Lib.hid hl
  have FF := Lib.hid (frame_facts hF)
  have FR := Lib.hid (reg_facts hF)
  unfold ok1 at ok_dst
  clear hW hF hl
  obtain ⟨f0, f4, f6, f7, f8, f9⟩ := FF.out _ (Step.refl _ _)
  have hpf := block_lt f6
  simp only at hpf
  go_enter Try.func61, Try.ntmps61
  go_upto_region 13 with fail
  have kb := heap_alloc_new w (.cells #[.int .i64 21, .int .i64 dst, .int .i64 a, .int .i64 b, .int .u64 n, .int .i64 size, .string name, va, vo, .int .i64 to] 47 (0, 0))
  have S1 := Lib.hid (Step.alloc (fun _ => False) w (.cells #[.int .i64 21, .int .i64 dst, .int .i64 a, .int .i64 b, .int .u64 n, .int .i64 size, .string name, va, vo, .int .i64 to] 47 (0, 0)))
  clear f0 f4 f6 f7 f8 f9 hpf
  have HT := Lib.hid (show gx < w.heap.size ∧ own w.heap.size = 0 from ⟨HF.out.free.2.2.2, HW.out.fresh0⟩)
  generalize w.alloc (.cells #[.int .i64 21, .int .i64 dst, .int .i64 a, .int .i64 b, .int .u64 n, .int .i64 size, .string name, va, vo, .int .i64 to] 47 (0, 0)) = w1 at kb S1 ⊢
  generalize w.heap.size = tb at kb HT ⊢
  have KB := Lib.hid kb
  have FB := Lib.hid (box_facts kb)
  clear kb
  have HW1 := HW.out.still S1.out
  have HF1 := HF.out.still S1.out
  obtain ⟨bf, bt, bm, bs, bb, ul, ui, uo, P⟩ := HW1
  have PI := P.input
  rw [he] at PI
  obtain ⟨⟨pi, icap, ei, hi1, hi2, hic⟩, hiw⟩ := PI
  obtain ⟨ia, epi, hia⟩ := hic 0 (by simp)
  subst epi
  subst ei
  have hb0 : 0 ≤ ib ∧ ib ≤ 255 := wfu8 (hiw ib (by simp))
  have hb64 : 0 ≤ ib ∧ ib < 18446744073709551616 := by omega
  have ia0 : w0.cell? ia = some (.int .u8 ib) := by simpa [Addr.add] using hia
  simp only [List.length_cons] at *
  have hn : IntsAt .u8 w0 (.slice (some (if icap = 1 then ia else ia.add 1)) ir.length (icap - 1)) ir := by
    refine ⟨⟨_, _, rfl, by omega, by omega, fun k hk => ⟨_, rfl, ?_⟩⟩, fun z hz => hiw z (by simp [hz])⟩
    rw [if_neg (by omega)]
    obtain ⟨a', e', h'⟩ := hic (k + 1) (by omega)
    cases e'
    rw [show ia.add (k + 1) = (ia.add 1).add k by rw [Go.Deep.add_add, Nat.add_comm]] at h'
    simpa using h'
  have HT1 := Lib.hid (show icap = 1 → IntsAt .u8 w0 (.slice (some ia) ir.length 0) ir from fun e => by rw [if_pos e, e] at hn; exact hn)
  have HT2 := Lib.hid (show ¬ icap = 1 → IntsAt .u8 w0 (.slice (some ⟨ia.block, ia.off + 1, none⟩) ir.length (icap - 1)) ir from fun e => by
    rw [if_neg e, add_next ia 0] at hn; simpa [Addr.add] using hn)
  clear hn
  have hH := Step.refl (fun _ => False) w1
  obtain ⟨f0, f4, f6, f7, f8, f9⟩ := FF.out _ (S1.out.then hH)
  obtain ⟨c_dst, z_dst⟩ := FR.out _ (S1.out.then hH) dst ok_dst
  obtain ⟨b0, b1, b2, b3, b4, b5, b6, b7, b8, b9⟩ := FB.out _ hH
  have zp := P.cells.2 9
  have sz := P.cells.1.2.2.2.2.2.2.2.2.2.1
  have hne : gx ≠ pf := fun e => HF.out.free.2.2.1 e.symm
  have hnp : gx ≠ pw := fun e => by have h1 := HF.out.free.2.1; have h2 := P.tag.1; rw [e] at h1; omega
  have hll : ir.length ≤ 9223372036854775806 := by simp only [maxLen] at hi2; omega
  have IB := Lib.hid (block_lt ia0)
  have IA := Lib.hid ia0
  have IC := Lib.hid hi2
  clear hH hic hia hi2 ia0
  go_upto_region 15 with fail
  obtain ⟨P2, ch2⟩ : FParts w0 (w1.setCell ⟨gx, dst.toNat, none⟩ (.int .u64 18446744073709551615)) pw own fnv tops st c bf bt bm bs bb ul (.slice (some ia) (ir.length + 1) icap) uo ∧ ChgG gx own own w1 (w1.setCell ⟨gx, dst.toNat, none⟩ (.int .u64 18446744073709551615)) := by
    refine ⟨?_, Step.setCell _ _ _ _ (.inr rfl), fun _ _ => rfl⟩
    exact P.setReg HF1.free.2.1 HL.out _ _
  have F2 := HF1.set dst.toNat 18446744073709551615 (by omega)
  have k2 := (set_other (w := w1) ⟨gx, dst.toNat, none⟩ (.int .u64 18446744073709551615) (fun e => by have e : tb = gx := e; have := HT.out.1; omega)).trans KB.out
  have KB2 := Lib.hid (box_facts k2)
  have HP2 := Lib.hid P2
  have HF2 := Lib.hid F2
  have CH2 := Lib.hid ch2
  clear P P2 F2 HF1 k2 ch2 f0 f4 f6 f7 f8 f9 c_dst z_dst b0 b1 b2 b3 b4 b5 b6 b7 b8 b9 zp sz
  have FI := Lib.hid (show ∀ y, Step (fun _ => False) (w1.setCell ⟨gx, dst.toNat, none⟩ (.int .u64 18446744073709551615)) y → y.cell? ia = some (.int .u8 ib) from fun y hy => by
    rw [(HP2.out.whole.still hy).cell_old IB.out]; exact IA.out)
  have FM := Lib.hid (mach_facts HP2.out)
  have FF2 := Lib.hid (frame_facts HF2.out)
  have FR2 := Lib.hid (reg_facts HF2.out)
  have hl2 : (regs.set dst.toNat 18446744073709551615).length = regs.length := by simp
  have OK2 := Lib.hid (show 0 ≤ dst ∧ dst < ((regs.set dst.toNat 18446744073709551615).length : Nat) from by rw [hl2]; exact ok_dst)
  have Z2 := Lib.hid (show ∀ y, Step (fun _ => False) (w1.setCell ⟨gx, dst.toNat, none⟩ (.int .u64 18446744073709551615)) y → y.frozen? ⟨pw, 9, none⟩ = false from fun y hy => free_known (hy.keeps HP2.out.struct) 9)
  have hdl : dst < regs.length := ok_dst.2
  clear hl2
  generalize w1.setCell ⟨gx, dst.toNat, none⟩ (.int .u64 18446744073709551615) = w2 at *
  refine wp_region_each 27 planGet (fun a b => Step (fun x => x = gx) a b) (Step (fun x => x = gx) w2) (fun x => Step (fun _ => False) w2 x) [Is ?v15_2_0, Is ?v15_2_1, Is ?v15_2_2, Is ?v15_2_3, Is ?v15_2_4, Is ?v15_2_5, Is ?v15_2_6, Is ?v15_2_7, Is ?v15_2_8, Is ?v15_2_9, Is ?v15_2_10, Is ?v15_2_11, Is ?v15_2_12, Is ?v15_2_13, Is ?v15_2_14, Is ?v15_2_15, Is ?v15_2_16, Is ?v15_2_17, Is ?v15_2_18, Is ?v15_2_19, Is ?v15_2_20, Is ?v15_2_21, Is ?v15_2_22, Is ?v15_2_23, IsTail w0 ir, Is ?v15_2_25, fun _ _ => True] [fun _ _ => True, fun _ _ => True, fun _ _ => True, fun _ _ => True, fun _ _ => True, fun _ _ => True, fun _ _ => True, fun _ _ => True, fun _ _ => True, fun _ _ => True, fun _ _ => True, fun _ _ => True, fun _ _ => True, fun _ _ => True, fun _ _ => True, fun _ _ => True, fun _ _ => True, fun _ _ => True, fun _ _ => True, fun _ _ => True, fun _ _ => True, fun _ _ => True, fun _ _ => True, fun _ _ => True, fun _ _ => True, fun _ _ => True, fun _ x => FParts w0 x pw own fnv tops st c bf bt bm bs bb ul (.slice (some ia) (ir.length + 1) icap) uo ∧ FrAt x own pf pw gx vn vp vk vs vc (.slice (some ⟨gx, 0, none⟩) regs.length rcap) vl ((regs.set dst.toNat 18446744073709551615).set dst.toNat ib) slots lock key ∧ Step (fun b => b = gx) w2 x] (by kernel_rfl) (by kernel_rfl) (fun _ _ h => h.size) ((Step.refl _ _).drew) ((Step.refl _ _).drew) ?stab15_2 ?stabD15_2 ?obl15_2 ?fin15_2
  case stab15_2 => exact fun w w' h => ⟨fun k => k.trans h (fun _ x => x.elim), fun k => k.trans h (fun _ x => x.elim), ⟨fun _ k => k, fun _ k => k, fun _ k => k, fun _ k => k, fun _ k => k, fun _ k => k, fun _ k => k, fun _ k => k, fun _ k => k, fun _ k => k, fun _ k => k, fun _ k => k, fun _ k => k, fun _ k => k, fun _ k => k, fun _ k => k, fun _ k => k, fun _ k => k, fun _ k => k, fun _ k => k, fun _ k => k, fun _ k => k, fun _ k => k, fun _ k => k, fun _ k => IsTail.stable h k, fun _ k => k, fun _ k => k, trivial⟩, ⟨fun _ k => k, fun _ k => k, fun _ k => k, fun _ k => k, fun _ k => k, fun _ k => k, fun _ k => k, fun _ k => k, fun _ k => k, fun _ k => k, fun _ k => k, fun _ k => k, fun _ k => k, fun _ k => k, fun _ k => k, fun _ k => k, fun _ k => k, fun _ k => k, fun _ k => k, fun _ k => k, fun _ k => k, fun _ k => k, fun _ k => k, fun _ k => k, fun _ k => k, fun _ k => k, fun _ k => ⟨k.1.still h, k.2.1.still h, k.2.2.trans h fun _ x => x.elim⟩, trivial⟩⟩
  case stabD15_2 => exact fun w w' h => ⟨fun k => k.trans h (fun _ x => .inl x), fun _ _ k => k, fun _ _ k => k, fun _ _ k => k, fun _ _ k => k, fun _ _ k => k, fun _ _ k => k, fun _ _ k => k, fun _ _ k => k, fun _ _ k => k, fun _ _ k => k, fun _ _ k => k, fun _ _ k => k, fun _ _ k => k, fun _ _ k => k, fun _ _ k => k, fun _ _ k => k, fun _ _ k => k, fun _ _ k => k, fun _ _ k => k, fun _ _ k => k, fun _ _ k => k, fun _ _ k => k, fun _ _ k => k, fun _ _ k => k, fun _ _ k => k, fun _ _ k => k, fun _ _ k => k, trivial⟩
  case obl15_2 =>
    refine ⟨?o15_2_0, ?o15_2_1, ?o15_2_2, ?o15_2_3, ?o15_2_4, ?o15_2_5, ?o15_2_6, ?o15_2_7, ?o15_2_8, ?o15_2_9, ?o15_2_10, ?o15_2_11, ?o15_2_12, ?o15_2_13, ?o15_2_14, ?o15_2_15, ?o15_2_16, ?o15_2_17, ?o15_2_18, ?o15_2_19, ?o15_2_20, ?o15_2_21, ?o15_2_22, ?o15_2_23, ?o15_2_24, ?o15_2_25, ?o15_2_26, trivial⟩
    all_goals intro xv wq hH hS H hU aq ha Q' hQ
    case o15_2_0 | o15_2_1 => cases rd0 ha; clear H hU hS; go_wp2_with fail; (try refine hQ _ _ ?_); refine ⟨Step.refl _ _, ?_, trivial, nofun⟩; exact (rfl : _ = _)
    case o15_2_2 => (try (have hH := hS (by decide); obtain ⟨f0, f4, f6, f7, f8, f9⟩ := FF2.out _ hH; obtain ⟨c_dst, z_dst⟩ := FR2.out _ hH dst OK2.out; obtain ⟨b0, b1, b2, b3, b4, b5, b6, b7, b8, b9⟩ := KB2.out _ hH; obtain ⟨m9, m10⟩ := FM.out _ hH; have ci := FI.out _ hH)); have ha := rd1 ha H (by kernel_rfl) rfl; simp only [q3, q5, q6, q7] at ha; subst ha; clear H hU hS; go_wp2_with fail; (try refine hQ _ _ ?_); refine ⟨Step.refl _ _, ?_, trivial, nofun⟩; exact (rfl : _ = _)
    case o15_2_3 => cases rd0 ha; clear H hU hS; go_wp2_with fail; (try refine hQ _ _ ?_); refine ⟨Step.refl _ _, ?_, trivial, nofun⟩; exact (rfl : _ = _)
    case o15_2_4 | o15_2_5 => have ha := rd1 ha H (by kernel_rfl) rfl; simp only [q3, q5, q6, q7] at ha; subst ha; clear H hU hS; go_wp2_with fail; (try refine hQ _ _ ?_); refine ⟨Step.refl _ _, ?_, trivial, nofun⟩; exact (rfl : _ = _)
    case o15_2_6 => (try (have hH := hS (by decide); obtain ⟨f0, f4, f6, f7, f8, f9⟩ := FF2.out _ hH; obtain ⟨c_dst, z_dst⟩ := FR2.out _ hH dst OK2.out; obtain ⟨b0, b1, b2, b3, b4, b5, b6, b7, b8, b9⟩ := KB2.out _ hH; obtain ⟨m9, m10⟩ := FM.out _ hH; have ci := FI.out _ hH)); have ha := rd1 ha H (by kernel_rfl) rfl; simp only [q3, q5, q6, q7] at ha; subst ha; clear H hU hS; go_wp2_with fail; (try refine hQ _ _ ?_); refine ⟨Step.refl _ _, ?_, trivial, nofun⟩; exact (rfl : _ = _)
    case o15_2_7 => cases rd0 ha; clear H hU hS; go_wp2_with fail; (try refine hQ _ _ ?_); refine ⟨Step.refl _ _, ?_, trivial, nofun⟩; exact (rfl : _ = _)
    case o15_2_8 | o15_2_9 => have ha := rd1 ha H (by kernel_rfl) rfl; simp only [q3, q5, q6, q7] at ha; subst ha; clear H hU hS; go_wp2_with fail; (try refine hQ _ _ ?_); refine ⟨Step.refl _ _, ?_, trivial, nofun⟩; exact (rfl : _ = _)
    case o15_2_10 => (try (have hH := hS (by decide); obtain ⟨f0, f4, f6, f7, f8, f9⟩ := FF2.out _ hH; obtain ⟨c_dst, z_dst⟩ := FR2.out _ hH dst OK2.out; obtain ⟨b0, b1, b2, b3, b4, b5, b6, b7, b8, b9⟩ := KB2.out _ hH; obtain ⟨m9, m10⟩ := FM.out _ hH; have ci := FI.out _ hH)); have ha := rd1 ha H (by kernel_rfl) rfl; simp only [q3, q5, q6, q7] at ha; subst ha; clear H hU hS; go_wp2_with fail; (try refine hQ _ _ ?_); refine ⟨Step.refl _ _, ?_, trivial, nofun⟩; exact (rfl : _ = _)
    case o15_2_11 | o15_2_12 => have ha := rd1 ha H (by kernel_rfl) rfl; simp only [q3, q5, q6, q7] at ha; subst ha; clear H hU hS; go_wp2_with fail; (try refine hQ _ _ ?_); refine ⟨Step.refl _ _, ?_, trivial, nofun⟩; exact (rfl : _ = _)
    case o15_2_13 | o15_2_14 | o15_2_15 | o15_2_16 => (try (have hH := hS (by decide); obtain ⟨f0, f4, f6, f7, f8, f9⟩ := FF2.out _ hH; obtain ⟨c_dst, z_dst⟩ := FR2.out _ hH dst OK2.out; obtain ⟨b0, b1, b2, b3, b4, b5, b6, b7, b8, b9⟩ := KB2.out _ hH; obtain ⟨m9, m10⟩ := FM.out _ hH; have ci := FI.out _ hH)); have ha := rd1 ha H (by kernel_rfl) rfl; simp only [q3, q5, q6, q7] at ha; subst ha; clear H hU hS; go_wp2_with fail; (try refine hQ _ _ ?_); refine ⟨Step.refl _ _, ?_, trivial, nofun⟩; exact (rfl : _ = _)
    case o15_2_17 => cases rd0 ha; clear H hU hS; go_wp2_with fail; (try refine hQ _ _ ?_); refine ⟨Step.refl _ _, ?_, trivial, nofun⟩; exact (rfl : _ = _)
    case o15_2_18 | o15_2_19 => have ha := rd1 ha H (by kernel_rfl) rfl; simp only [q3, q5, q6, q7] at ha; subst ha; clear H hU hS; go_wp2_with fail; (try refine hQ _ _ ?_); refine ⟨Step.refl _ _, ?_, trivial, nofun⟩; exact (rfl : _ = _)
    case o15_2_20 => (try (have hH := hS (by decide); obtain ⟨f0, f4, f6, f7, f8, f9⟩ := FF2.out _ hH; obtain ⟨c_dst, z_dst⟩ := FR2.out _ hH dst OK2.out; obtain ⟨b0, b1, b2, b3, b4, b5, b6, b7, b8, b9⟩ := KB2.out _ hH; obtain ⟨m9, m10⟩ := FM.out _ hH; have ci := FI.out _ hH)); have ha := rd1 ha H (by kernel_rfl) rfl; simp only [q3, q5, q6, q7] at ha; subst ha; clear H hU hS; go_wp2_with fail; (try refine hQ _ _ ?_); refine ⟨Step.refl _ _, ?_, trivial, nofun⟩; exact (rfl : _ = _)
    case o15_2_21 | o15_2_22 => have ha := rd1 ha H (by kernel_rfl) rfl; simp only [q3, q5, q6, q7] at ha; subst ha; clear H hU hS; go_wp2_with fail; (try refine hQ _ _ ?_); refine ⟨Step.refl _ _, ?_, trivial, nofun⟩; exact (rfl : _ = _)
    case o15_2_23 => (try (have hH := hS (by decide); obtain ⟨f0, f4, f6, f7, f8, f9⟩ := FF2.out _ hH; obtain ⟨c_dst, z_dst⟩ := FR2.out _ hH dst OK2.out; obtain ⟨b0, b1, b2, b3, b4, b5, b6, b7, b8, b9⟩ := KB2.out _ hH; obtain ⟨m9, m10⟩ := FM.out _ hH; have ci := FI.out _ hH)); have ha := rd1 ha H (by kernel_rfl) rfl; simp only [q3, q5, q6, q7] at ha; subst ha; clear H hU hS; go_wp2_with fail; (try refine hQ _ _ ?_); refine ⟨Step.refl _ _, ?_, trivial, nofun⟩; exact (rfl : _ = _)
    case o15_2_24 => (try (have hH := hS (by decide); obtain ⟨f0, f4, f6, f7, f8, f9⟩ := FF2.out _ hH; obtain ⟨c_dst, z_dst⟩ := FR2.out _ hH dst OK2.out; obtain ⟨b0, b1, b2, b3, b4, b5, b6, b7, b8, b9⟩ := KB2.out _ hH; obtain ⟨m9, m10⟩ := FM.out _ hH; have ci := FI.out _ hH)); have h23 : xv 23 = _ := H 23 (by kernel_rfl); change aq = puts _ xv [(23, some 112)] at ha; simp only [q1, q2, q3, q5, q6, q7, h23] at ha; subst ha; clear H h23; clear hU hS; go_wp2_with fail; all_goals (try refine hQ _ _ ?_); all_goals refine ⟨Step.refl _ _, ?_, trivial, nofun⟩; all_goals (first | exact ⟨_, _, rfl, HT1.out (by assumption)⟩ | exact ⟨_, _, rfl, HT2.out (by assumption)⟩)
    case o15_2_25 => (try (have hH := hS (by decide); obtain ⟨f0, f4, f6, f7, f8, f9⟩ := FF2.out _ hH; obtain ⟨c_dst, z_dst⟩ := FR2.out _ hH dst OK2.out; obtain ⟨b0, b1, b2, b3, b4, b5, b6, b7, b8, b9⟩ := KB2.out _ hH; obtain ⟨m9, m10⟩ := FM.out _ hH; have ci := FI.out _ hH)); have ha := rd2 ha H (by kernel_rfl) (by kernel_rfl) rfl rfl; simp only [q3, q5, q6, q7] at ha; subst ha; clear H hU hS; go_wp2_with fail; (try refine hQ _ _ ?_); refine ⟨Step.refl _ _, ?_, trivial, nofun⟩; exact (rfl : _ = _)
    case o15_2_26 =>
      (try (have hH := hS (by decide); obtain ⟨f0, f4, f6, f7, f8, f9⟩ := FF2.out _ hH; obtain ⟨c_dst, z_dst⟩ := FR2.out _ hH dst OK2.out; obtain ⟨b0, b1, b2, b3, b4, b5, b6, b7, b8, b9⟩ := KB2.out _ hH; obtain ⟨m9, m10⟩ := FM.out _ hH; have ci := FI.out _ hH)); have h16 : xv 16 = _ := H 16 (by kernel_rfl); have h25 : xv 25 = _ := H 25 (by kernel_rfl); change aq = puts _ xv [(16, some 105), (25, some 114)] at ha; simp only [q1, q2, q3, q5, q6, q7, h16, h25] at ha; subst ha; clear H h16 h25
      have S2 := Lib.hid (hS (by kernel_rfl))
      clear hU hS hH
      go_wp2_with fail
      (try refine hQ (.bool true) _ ?_)
      refine ⟨Step.setCell _ _ _ _ rfl, trivial, ?_, nofun⟩
      exact ⟨(HP2.out.still S2.out).setReg HF2.out.free.2.1 HL.out _ _, (HF2.out.still S2.out).set _ _ (by have := OK2.out; omega), Step.set (F := fun b => b = gx) (S2.out.mono fun _ _ x => x.elim) (.inl rfl) _⟩
  intro xv w3 hH hS H hU hsz hF hN
  have h0 : xv 0 = _ := H 0 (by decide) (by kernel_rfl); have h1 : xv 1 = _ := H 1 (by decide) (by kernel_rfl); have h2 : xv 2 = _ := H 2 (by decide) (by kernel_rfl); have h3 : xv 3 = _ := H 3 (by decide) (by kernel_rfl); have h4 : xv 4 = _ := H 4 (by decide) (by kernel_rfl); have h5 : xv 5 = _ := H 5 (by decide) (by kernel_rfl); have h6 : xv 6 = _ := H 6 (by decide) (by kernel_rfl); have h7 : xv 7 = _ := H 7 (by decide) (by kernel_rfl); have h8 : xv 8 = _ := H 8 (by decide) (by kernel_rfl); have h9 : xv 9 = _ := H 9 (by decide) (by kernel_rfl); have h10 : xv 10 = _ := H 10 (by decide) (by kernel_rfl); have h11 : xv 11 = _ := H 11 (by decide) (by kernel_rfl); have h12 : xv 12 = _ := H 12 (by decide) (by kernel_rfl); have h13 : xv 13 = _ := H 13 (by decide) (by kernel_rfl); have h14 : xv 14 = _ := H 14 (by decide) (by kernel_rfl); have h15 : xv 15 = _ := H 15 (by decide) (by kernel_rfl); have h16 : xv 16 = _ := H 16 (by decide) (by kernel_rfl); have h17 : xv 17 = _ := H 17 (by decide) (by kernel_rfl); have h18 : xv 18 = _ := H 18 (by decide) (by kernel_rfl); have h19 : xv 19 = _ := H 19 (by decide) (by kernel_rfl); have h20 : xv 20 = _ := H 20 (by decide) (by kernel_rfl); have h21 : xv 21 = _ := H 21 (by decide) (by kernel_rfl); have h22 : xv 22 = _ := H 22 (by decide) (by kernel_rfl); have h23 : xv 23 = _ := H 23 (by decide) (by kernel_rfl); obtain ⟨p24, cap24, h24, i24⟩ : (IsTail w0 ir) (xv 24) w3 := H 24 (by decide) (by kernel_rfl); have h25 : xv 25 = _ := H 25 (by decide) (by kernel_rfl)
  simp only [planGet, q1, q2, q3, q5, q6, q7, q4, List.drop_succ_cons, List.drop_zero, h0, h1, h2, h3, h4, h5, h6, h7, h8, h9, h10, h11, h12, h13, h14, h15, h16, h17, h18, h19, h20, h21, h22, h23, h24, h25]
  have hL := hU 26 (by decide) (by kernel_rfl)
  clear H hF hN hS hU h0 h1 h2 h3 h4 h5 h6 h7 h8 h9 h10 h11 h12 h13 h14 h15 h16 h17 h18 h19 h20 h21 h22 h23 h24 h25
  obtain ⟨P3, F3, s3⟩ := hL
  have z9 := P3.cells.2 9
  have m9 := P3.cells.1.2.2.2.2.2.2.2.2.2.1
  have HP3 := Lib.hid P3
  have HF3 := Lib.hid F3
  have S3 := Lib.hid s3
  have HT24 := Lib.hid i24
  clear hH P3 F3 s3 i24
  go_wp2_with fail
  go_end0
  obtain ⟨P4, ch4⟩ := HP3.out.scalar 9 (.slice p24 ir.length cap24) (st' := { st with input := ir }) rfl rfl rfl rfl rfl rfl HT24.out
  have F4 := HF3.out.keep ch4
  rw [List.set_set] at F4
  exact ⟨rfl, own, ((((Chg.calm own S1.out).g gx).trans CH2.out).trans ⟨S3.out.mono fun _ _ x => .inr x, fun _ _ => rfl⟩).trans (ch4.g gx), ⟨_, _, _, _, _, _, _, _, P4⟩, F4⟩
end
end Go.Proofs.Ytpmbakhnamlooaa
