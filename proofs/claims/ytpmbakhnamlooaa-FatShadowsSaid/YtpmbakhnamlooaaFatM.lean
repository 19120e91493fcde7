/- Package fat: instructions of memory: checks, loads and stores. -/
import Derived.Test.YtpmbakhnamlooaaFatL
namespace Go.Proofs.Ytpmbakhnamlooaa
set_option linter.unusedVariables false
set_option linter.unusedSimpArgs false
open Go.RowKit

section
variable {w0 w w' w1 w2 : World} {pf pw gx : Nat} {own own' own'' : Nat → Nat} {vn vp vk vs vc vr vl : Value} {regs slots : List Int} {lock key : Int} {fnv : List UInt8 → Option Value} {tops : List UInt8 → Option Int} {st : FSt} {c : Nat}

/-- how an instruction ends that stops the run -/
def Fell (w0 w : World) (pw : Nat) (own : Nat → Nat) (fnv : List UInt8 → Option Value) (tops : List UInt8 → Option Int) (gx : Nat) (s code : Int) (st : FSt) (c : Nat) (e : Ending) (w' : World) : Prop :=
  e = .panicked [{ v := stopV s code, recovered := false }] ∧ ∃ own', ChgG gx own own' w w' ∧ FWAt w0 w' pw own' fnv tops st c
theorem FWAt.since (h : FWAt w0 w pw own fnv tops st c) : Step (fun b => w0.heap.size ≤ b) w0 w := by
  obtain ⟨_, _, _, _, _, _, _, _, P⟩ := h
  exact P.step
/-- what registers have, in a slice just made -/
def IsVals (W : World) (xs : List Int) (y : Value) (w : World) : Prop := ∃ a cap, y = .slice a xs.length cap ∧ RowAt w (fun b => W.heap.size ≤ b) 38 1 (.slice a xs.length cap) xs.length (xs.map (Value.int .u64))
theorem IsVals.stable {W : World} {xs : List Int} {y : Value} (h : Step (fun _ => False) w w') (k : IsVals W xs y w) : IsVals W xs y w' := by
  obtain ⟨a, cap, e, k⟩ := k
  exact ⟨a, cap, e, k.same fun b _ hb => h.block b hb fun x => x⟩
theorem IsVals.of {W : World} {xs : List Int} {vo : Value} (hs : W.heap.size ≤ w.heap.size) (h : RowAt w' (fun b => w.heap.size ≤ b) 38 1 vo xs.length (xs.map (Value.int .u64))) : IsVals W xs vo w' := by
  obtain ⟨a, cap, rfl⟩ := h.slice
  exact ⟨a, cap, rfl, h.mono fun b hb => by omega⟩
theorem pick_64 (h : regs64 regs) (l : List Int) : ∀ x ∈ pick regs l, is64 x := by
  intro x hx
  obtain ⟨r, _, rfl⟩ := List.mem_map.1 hx
  exact rg_64 h r
theorem check_yes (hW : FWAt w0 w pw own fnv tops st c) (hF : FrAt w own pf pw gx vn vp vk vs vc vr vl regs slots lock key) (hc : c ≤ 1000000000)
    {F : Nat → Prop} {vv : Value} {xs : List Int} {size : Int} (hl : xs.length = 5) (hv : RowAt w F 38 1 vv xs.length (xs.map (Value.int .u64))) (hx : ∀ x ∈ xs, is64 x) (hb : checkF st.locks xs size = true) :
    Calls Try.prog 86 #[.pointer (some ⟨pf, 0, none⟩), vv, .int .u64 size] w fun e w' => e = .returned (.tuple #[]) ∧ Step (fun _ => False) w w' :=
  (check_any hW hF hc hl hv hx).mono fun _ _ ⟨h1, h2⟩ => ⟨by rw [if_pos hb] at h1; exact h1, h2⟩
theorem check_not (hW : FWAt w0 w pw own fnv tops st c) (hF : FrAt w own pf pw gx vn vp vk vs vc vr vl regs slots lock key) (hc : c ≤ 1000000000)
    {F : Nat → Prop} {vv : Value} {xs : List Int} {size : Int} (hl : xs.length = 5) (hv : RowAt w F 38 1 vv xs.length (xs.map (Value.int .u64))) (hx : ∀ x ∈ xs, is64 x) (hb : checkF st.locks xs size = false) :
    Calls Try.prog 86 #[.pointer (some ⟨pf, 0, none⟩), vv, .int .u64 size] w fun e w' => e = .panicked [{ v := stopV 2 0, recovered := false }] ∧ Step (fun _ => False) w w' :=
  (check_any hW hF hc hl hv hx).mono fun _ _ ⟨h1, h2⟩ => ⟨by rw [if_neg (by rw [hb]; decide)] at h1; exact h1, h2⟩
theorem pick_length (regs l : List Int) : (pick regs l).length = l.length := by simp [pick]

def planCheck34 : Plan where
  T := [[], [], [], [2], [1, 2, 3], [], [5], [5, 6], [0, 1, 2, 3, 4, 5, 6, 7]]
  rd := [[], [], [], [(2, some 28)], [(1, some 27), (3, some 29)], [], [(5, some 31)], [(6, some 32)]]
  all := [(7, some 33), (6, some 32), (5, some 31), (4, some 30), (3, some 29), (2, some 28), (1, some 27), (0, some 26)]
  calm := [true, true, true, true, true, true, true, true]
  hard := []
  fresh := [false, false, false, false, false, false, false, false]

def planLoad35 : Plan where
  T := [[], [], [1], [], [3], [3, 4], [3, 4, 5], [], [], [8], [7, 8, 9], [7, 8, 9, 10], [], [12], [3, 4, 5, 6, 7, 8, 9, 10, 11, 12, 13], [0, 1, 2, 3, 4, 5, 6, 7, 8, 9, 10, 11, 12, 13, 14], [0, 1, 2, 3, 4, 5, 6, 7, 8, 9, 10, 11, 12, 13, 14, 15]]
  rd := [[], [], [(1, some 38)], [], [(3, some 40)], [(4, some 41)], [(5, some 42)], [], [], [(8, some 45)], [(7, some 44), (9, some 46)], [(10, some 47)], [], [(12, some 49)], [(6, some 43), (11, some 48), (13, some 50)]]
  all := [(14, some 51), (13, some 50), (12, some 49), (11, some 48), (10, some 47), (9, some 46), (8, some 45), (7, some 44), (6, some 43), (5, some 42), (4, some 41), (3, some 40), (2, some 39), (1, some 38), (0, some 37)]
  calm := [true, true, true, true, true, true, true, true, true, true, true, true, true, true, true]
  hard := []
  fresh := [false, false, false, false, false, false, false, false, false, false, false, false, false, false, false]

def planLoad35n : Plan where
  T := [[], [], [1], [], [3], [3, 4], [3, 4, 5], [], [], [8], [7, 8, 9], [7, 8, 9, 10], [], [12], [3, 4, 5, 6, 7, 8, 9, 10, 11, 12, 13], [0, 1, 2, 3, 4, 5, 6, 7, 8, 9, 10, 11, 12, 13, 14], [0, 1, 2, 3, 4, 5, 6, 7, 8, 9, 10, 11, 12, 13, 14, 15]]
  rd := [[], [], [(1, some 38)], [], [(3, some 40)], [(4, some 41)], [(5, some 42)], [], [], [(8, some 45)], [(7, some 44), (9, some 46)], [(10, some 47)], [], [(12, some 49)], [(6, some 43), (11, some 48), (13, some 50)]]
  all := [(14, some 51), (13, some 50), (12, some 49), (11, some 48), (10, some 47), (9, some 46), (8, some 45), (7, some 44), (6, some 43), (5, some 42), (4, some 41), (3, some 40), (2, some 39), (1, some 38), (0, some 37)]
  calm := [true, true, true, true, true, true, true, true, true, true, true, true, true, true, true]
  hard := []
  fresh := [false, false, false, false, false, false, false, false, false, false, false, false, false, false, false]

def planStore36 : Plan where
  T := [[], [0], [0, 1], [0, 1, 2], [], [], [5], [4, 5, 6], [4, 5, 6, 7], [], [9], [], [], [12], [11, 12, 13], [11, 12, 13, 14], [0, 1, 2, 3, 4, 5, 6, 7, 8, 9, 10, 11, 12, 13, 14, 15]]
  rd := [[], [(0, some 55)], [(1, some 56)], [(2, some 57)], [], [], [(5, some 60)], [(4, some 59), (6, some 61)], [(7, some 62)], [], [(9, some 64)], [], [], [(12, some 67)], [(11, some 66), (13, some 68)], [(14, some 69)]]
  all := [(15, some 70), (14, some 69), (13, some 68), (12, some 67), (11, some 66), (10, some 65), (9, some 64), (8, some 63), (7, some 62), (6, some 61), (5, some 60), (4, some 59), (3, some 58), (2, some 57), (1, some 56), (0, some 55)]
  calm := [true, true, true, true, true, true, true, true, true, true, true, true, true, true, true, true]
  hard := []
  fresh := [false, false, false, false, false, false, false, false, false, false, false, false, false, false, false, false]

set_option maxHeartbeats 4000000 in
set_option maxRecDepth 100000 in
theorem mem_34ok (hW : FWAt w0 w pw own fnv tops st c) (hF : FrAt w own pf pw gx vn vp vk vs vc vr vl regs slots lock key) (hl : w0.heap.size ≤ gx) {v : Value} {i : FIns} (hi : InsAt w0 v i) (ho : i.op = 34) (hc : c ≤ 100000000) (h64 : regs64 regs) (hl5 : i.args.length = 5) (hr : ∀ r ∈ i.args, ok1 regs r) (hs : 0 ≤ i.size ∧ i.size ≤ 4194304) (hk : 0 ≤ st.checks ∧ st.checks ≤ 1000000000) (hb : checkF st.locks (pick regs i.args) i.size = true) :
    Calls Try.prog 72 #[.pointer (some ⟨pf, 0, none⟩), v] w (Went w0 w pw own fnv tops pf gx vn vp vk vs vc vr vl slots lock key { st with checks := st.checks + 1 } c (regs)) := by
  obtain ⟨va, vo, rfl, iargs, iouts⟩ := hi
  obtain ⟨op, dst, a, b, n, size, name, args, outs, to⟩ := i
  simp only at *
  subst ho
  have HW := Lib.hid hW
  have HF := Lib.hid hF
  have HL := Lib.hid hl
  have FF := Lib.hid (frame_facts hF)
  have FR := Lib.hid (reg_facts hF)
  clear hW hF hl
  obtain ⟨f0, f4, f6, f7, f8, f9⟩ := FF.out _ (Step.refl _ _)
  have hpf := block_lt f6
  simp only at hpf
  go_enter Try.func72, Try.ntmps72
  go_upto_region 4 with fail
  have kb := heap_alloc_new w (.cells #[.int .i64 34, .int .i64 dst, .int .i64 a, .int .i64 b, .int .u64 n, .int .i64 size, .string name, va, vo, .int .i64 to] 47 (0, 0))
  have S1 := Lib.hid (Step.alloc (fun _ => False) w (.cells #[.int .i64 34, .int .i64 dst, .int .i64 a, .int .i64 b, .int .u64 n, .int .i64 size, .string name, va, vo, .int .i64 to] 47 (0, 0)))
  clear f0 f4 f6 f7 f8 f9 hpf
  have HT := Lib.hid (show gx < w.heap.size ∧ own w.heap.size = 0 from ⟨HF.out.free.2.2.2, HW.out.fresh0⟩)
  generalize w.alloc (.cells #[.int .i64 34, .int .i64 dst, .int .i64 a, .int .i64 b, .int .u64 n, .int .i64 size, .string name, va, vo, .int .i64 to] 47 (0, 0)) = w1 at kb S1 ⊢
  generalize w.heap.size = tb at kb HT ⊢
  have KB := Lib.hid kb
  have FB := Lib.hid (box_facts kb)
  clear kb
  have HR := Lib.hid hr
  have H5 := Lib.hid hl5
  have HB := Lib.hid hb
  have H64 := Lib.hid h64
  have HI := Lib.hid iargs
  clear hr hl5 hb h64 iargs iouts
  have HF1 := Lib.hid (HF.out.still S1.out)
  obtain ⟨bf, bt, bm, bs, bb, ul, ui, uo, P⟩ := (HW.out.still S1.out)
  have z13 := P.cells.2 13
  have c13 := P.cells.1.2.2.2.2.2.2.2.2.2.2.2.2.2
  have hH := Step.refl (fun _ => False) w1
  obtain ⟨f0, f4, f6, f7, f8, f9⟩ := FF.out _ (S1.out.then hH)
  obtain ⟨b0, b1, b2, b3, b4, b5, b6, b7, b8, b9⟩ := FB.out _ hH
  have hne : tb ≠ pw := fun e => by have := HT.out.2; have := P.tag.1; rw [e] at *; omega
  clear hH
  go_upto_region 5 with fail
  obtain ⟨P2, ch2⟩ := P.scalar 13 (.int .i64 (st.checks + 1)) (st' := { st with checks := st.checks + 1 }) (ui' := ui) rfl rfl rfl rfl rfl rfl P.input
  have F2 := HF1.out.keep ch2
  have k2 := (set_other (w := w1) ⟨pw, 13, none⟩ (.int .i64 (st.checks + 1)) hne).trans KB.out
  have CH2 := Lib.hid ch2
  have HP2 := Lib.hid P2
  have HF2 := Lib.hid F2
  have KB2 := Lib.hid (box_facts k2)
  have FF2 := Lib.hid (frame_facts F2)
  clear P P2 F2 k2 ch2 f0 f4 f6 f7 f8 f9 b0 b1 b2 b3 b4 b5 b6 b7 b8 b9 z13 c13 hne
  generalize w1.setCell ⟨pw, 13, none⟩ (.int .i64 (st.checks + 1)) = w2 at *
  have VAL := Lib.hid (show ∀ y, Step (fun _ => False) w2 y → _ from fun y hy => values_any (HF2.out.still hy) (HI.out.step (HP2.out.whole.still hy).since fun b h => h) HR.out (by have := H5.out; omega))
  have CK := Lib.hid (show ∀ y, Step (fun _ => False) w2 y → ∀ F vv, RowAt y F 38 1 vv (pick regs args).length ((pick regs args).map (Value.int .u64)) → _ from fun y hy F vv hv => check_yes (size := size) (HP2.out.whole.still hy) (HF2.out.still hy) (by omega) (by rw [pick_length]; exact H5.out) hv (pick_64 H64.out _) HB.out)
  refine wp_region_each 8 planCheck34 (fun _ _ => False) (Step (fun _ => False) w2) (fun _ => True) [Is ?v5_1_0, Is ?v5_1_1, Is ?v5_1_2, Is ?v5_1_3, IsVals w2 (pick regs args), Is ?v5_1_5, Is ?v5_1_6, Is ?v5_1_7] [] (by kernel_rfl) (by kernel_rfl) (fun _ _ h => h.elim) ((Step.refl _ _).drew) (trivial) ?stab5_1 ?stabD5_1 ?obl5_1 ?fin5_1
  case stab5_1 => exact fun w w' h => ⟨fun k => k.trans h (fun _ x => x.elim), fun _ => trivial, ⟨fun _ k => k, fun _ k => k, fun _ k => k, fun _ k => k, fun _ k => IsVals.stable h k, fun _ k => k, fun _ k => k, fun _ k => k, trivial⟩, trivial⟩
  case stabD5_1 => exact fun _ _ h => h.elim
  case obl5_1 =>
    refine ⟨?o5_1_0, ?o5_1_1, ?o5_1_2, ?o5_1_3, ?o5_1_4, ?o5_1_5, ?o5_1_6, ?o5_1_7, trivial⟩
    all_goals intro xv wq hH hS H hU aq ha Q' hQ
    case o5_1_0 | o5_1_1 | o5_1_2 => cases rd0 ha; clear H hU hS; go_wp2_with fail; (try refine hQ _ _ ?_); refine ⟨Step.refl _ _, ?_, trivial, nofun⟩; exact (rfl : _ = _)
    case o5_1_3 => obtain ⟨f0, f4, f6, f7, f8, f9⟩ := FF2.out _ hH; obtain ⟨b0, b1, b2, b3, b4, b5, b6, b7, b8, b9⟩ := KB2.out _ hH; have ha := rd1 ha H (by kernel_rfl) rfl; simp only [q3, q5, q6, q7] at ha; subst ha; clear H hU hS; go_wp2_with fail; (try refine hQ _ _ ?_); refine ⟨Step.refl _ _, ?_, trivial, nofun⟩; exact (rfl : _ = _)
    case o5_1_4 => obtain ⟨f0, f4, f6, f7, f8, f9⟩ := FF2.out _ hH; obtain ⟨b0, b1, b2, b3, b4, b5, b6, b7, b8, b9⟩ := KB2.out _ hH; have h1 : xv 1 = _ := H 1 (by kernel_rfl); have h3 : xv 3 = _ := H 3 (by kernel_rfl); change aq = puts _ xv [(1, some 27), (3, some 29)] at ha; simp only [q1, q2, q3, q5, q6, q7, h1, h3] at ha; subst ha; clear H h1 h3; clear hU hS; go_wp2_with fail; refine (VAL.out _ hH).mono ?_; rintro e w4 ⟨vo4, rfl, r4, s4⟩; go_wp2_with fail; all_goals (try refine hQ _ _ ?_); all_goals refine ⟨s4, ?_, trivial, nofun⟩; all_goals exact IsVals.of hH.size (by rw [pick_length]; exact r4)
    case o5_1_5 => cases rd0 ha; clear H hU hS; go_wp2_with fail; (try refine hQ _ _ ?_); refine ⟨Step.refl _ _, ?_, trivial, nofun⟩; exact (rfl : _ = _)
    case o5_1_6 | o5_1_7 => obtain ⟨f0, f4, f6, f7, f8, f9⟩ := FF2.out _ hH; obtain ⟨b0, b1, b2, b3, b4, b5, b6, b7, b8, b9⟩ := KB2.out _ hH; have ha := rd1 ha H (by kernel_rfl) rfl; simp only [q3, q5, q6, q7] at ha; subst ha; clear H hU hS; go_wp2_with fail; (try refine hQ _ _ ?_); refine ⟨Step.refl _ _, ?_, trivial, nofun⟩; exact (rfl : _ = _)
  intro xv w3 hH hS H hU hsz hF hN
  have h0 : xv 0 = _ := H 0 (by decide) (by kernel_rfl); have h1 : xv 1 = _ := H 1 (by decide) (by kernel_rfl); have h2 : xv 2 = _ := H 2 (by decide) (by kernel_rfl); have h3 : xv 3 = _ := H 3 (by decide) (by kernel_rfl); obtain ⟨a4, cap4, h4, r4⟩ : (IsVals w2 (pick regs args)) (xv 4) w3 := H 4 (by decide) (by kernel_rfl); have h5 : xv 5 = _ := H 5 (by decide) (by kernel_rfl); have h6 : xv 6 = _ := H 6 (by decide) (by kernel_rfl); have h7 : xv 7 = _ := H 7 (by decide) (by kernel_rfl)
  simp only [planCheck34, q1, q2, q3, q5, q6, q7, q4, List.drop_succ_cons, List.drop_zero, h0, h1, h2, h3, h4, h5, h6, h7]
  clear H hF hN hS hU h0 h1 h2 h3 h4 h5 h6 h7
  have S3 := Lib.hid hH
  have R4 := Lib.hid r4
  clear hH r4
  go_wp2_with fail
  refine (CK.out _ S3.out _ _ R4.out).mono ?_
  rintro e w4 ⟨rfl, s4⟩
  have S4 := Lib.hid (S3.out.then s4)
  clear s4
  go_wp2_with fail
  go_end0
  exact ⟨rfl, own, (((Chg.calm own S1.out).trans CH2.out).trans (Chg.calm own S4.out)).g gx, HP2.out.whole.still S4.out, HF2.out.still S4.out⟩
set_option maxHeartbeats 4000000 in
set_option maxRecDepth 100000 in
theorem mem_34no (hW : FWAt w0 w pw own fnv tops st c) (hF : FrAt w own pf pw gx vn vp vk vs vc vr vl regs slots lock key) (hl : w0.heap.size ≤ gx) {v : Value} {i : FIns} (hi : InsAt w0 v i) (ho : i.op = 34) (hc : c ≤ 100000000) (h64 : regs64 regs) (hl5 : i.args.length = 5) (hr : ∀ r ∈ i.args, ok1 regs r) (hs : 0 ≤ i.size ∧ i.size ≤ 4194304) (hk : 0 ≤ st.checks ∧ st.checks ≤ 1000000000) (hb : checkF st.locks (pick regs i.args) i.size = false) :
    Calls Try.prog 72 #[.pointer (some ⟨pf, 0, none⟩), v] w (Fell w0 w pw own fnv tops gx 2 0 { st with checks := st.checks + 1 } c) := by
  obtain ⟨va, vo, rfl, iargs, iouts⟩ := hi
  obtain ⟨op, dst, a, b, n, size, name, args, outs, to⟩ := i
  simp only at *
  subst ho
  have HW := Lib.hid hW
  have HF := Lib.hid hF
  have HL := Lib.hid hl
  have FF := Lib.hid (frame_facts hF)
  have FR := Lib.hid (reg_facts hF)
  clear hW hF hl
  obtain ⟨f0, f4, f6, f7, f8, f9⟩ := FF.out _ (Step.refl _ _)
  have hpf := block_lt f6
  simp only at hpf
  go_enter Try.func72, Try.ntmps72
  go_upto_region 4 with fail
  have kb := heap_alloc_new w (.cells #[.int .i64 34, .int .i64 dst, .int .i64 a, .int .i64 b, .int .u64 n, .int .i64 size, .string name, va, vo, .int .i64 to] 47 (0, 0))
  have S1 := Lib.hid (Step.alloc (fun _ => False) w (.cells #[.int .i64 34, .int .i64 dst, .int .i64 a, .int .i64 b, .int .u64 n, .int .i64 size, .string name, va, vo, .int .i64 to] 47 (0, 0)))
  clear f0 f4 f6 f7 f8 f9 hpf
  have HT := Lib.hid (show gx < w.heap.size ∧ own w.heap.size = 0 from ⟨HF.out.free.2.2.2, HW.out.fresh0⟩)
  generalize w.alloc (.cells #[.int .i64 34, .int .i64 dst, .int .i64 a, .int .i64 b, .int .u64 n, .int .i64 size, .string name, va, vo, .int .i64 to] 47 (0, 0)) = w1 at kb S1 ⊢
  generalize w.heap.size = tb at kb HT ⊢
  have KB := Lib.hid kb
  have FB := Lib.hid (box_facts kb)
  clear kb
  have HR := Lib.hid hr
  have H5 := Lib.hid hl5
  have HB := Lib.hid hb
  have H64 := Lib.hid h64
  have HI := Lib.hid iargs
  clear hr hl5 hb h64 iargs iouts
  have HF1 := Lib.hid (HF.out.still S1.out)
  obtain ⟨bf, bt, bm, bs, bb, ul, ui, uo, P⟩ := (HW.out.still S1.out)
  have z13 := P.cells.2 13
  have c13 := P.cells.1.2.2.2.2.2.2.2.2.2.2.2.2.2
  have hH := Step.refl (fun _ => False) w1
  obtain ⟨f0, f4, f6, f7, f8, f9⟩ := FF.out _ (S1.out.then hH)
  obtain ⟨b0, b1, b2, b3, b4, b5, b6, b7, b8, b9⟩ := FB.out _ hH
  have hne : tb ≠ pw := fun e => by have := HT.out.2; have := P.tag.1; rw [e] at *; omega
  clear hH
  go_upto_region 5 with fail
  obtain ⟨P2, ch2⟩ := P.scalar 13 (.int .i64 (st.checks + 1)) (st' := { st with checks := st.checks + 1 }) (ui' := ui) rfl rfl rfl rfl rfl rfl P.input
  have F2 := HF1.out.keep ch2
  have k2 := (set_other (w := w1) ⟨pw, 13, none⟩ (.int .i64 (st.checks + 1)) hne).trans KB.out
  have CH2 := Lib.hid ch2
  have HP2 := Lib.hid P2
  have HF2 := Lib.hid F2
  have KB2 := Lib.hid (box_facts k2)
  have FF2 := Lib.hid (frame_facts F2)
  clear P P2 F2 k2 ch2 f0 f4 f6 f7 f8 f9 b0 b1 b2 b3 b4 b5 b6 b7 b8 b9 z13 c13 hne
  generalize w1.setCell ⟨pw, 13, none⟩ (.int .i64 (st.checks + 1)) = w2 at *
  have VAL := Lib.hid (show ∀ y, Step (fun _ => False) w2 y → _ from fun y hy => values_any (HF2.out.still hy) (HI.out.step (HP2.out.whole.still hy).since fun b h => h) HR.out (by have := H5.out; omega))
  have CK := Lib.hid (show ∀ y, Step (fun _ => False) w2 y → ∀ F vv, RowAt y F 38 1 vv (pick regs args).length ((pick regs args).map (Value.int .u64)) → _ from fun y hy F vv hv => check_not (size := size) (HP2.out.whole.still hy) (HF2.out.still hy) (by omega) (by rw [pick_length]; exact H5.out) hv (pick_64 H64.out _) HB.out)
  refine wp_region_each 8 planCheck34 (fun _ _ => False) (Step (fun _ => False) w2) (fun _ => True) [Is ?v5_2_0, Is ?v5_2_1, Is ?v5_2_2, Is ?v5_2_3, IsVals w2 (pick regs args), Is ?v5_2_5, Is ?v5_2_6, Is ?v5_2_7] [] (by kernel_rfl) (by kernel_rfl) (fun _ _ h => h.elim) ((Step.refl _ _).drew) (trivial) ?stab5_2 ?stabD5_2 ?obl5_2 ?fin5_2
  case stab5_2 => exact fun w w' h => ⟨fun k => k.trans h (fun _ x => x.elim), fun _ => trivial, ⟨fun _ k => k, fun _ k => k, fun _ k => k, fun _ k => k, fun _ k => IsVals.stable h k, fun _ k => k, fun _ k => k, fun _ k => k, trivial⟩, trivial⟩
  case stabD5_2 => exact fun _ _ h => h.elim
  case obl5_2 =>
    refine ⟨?o5_2_0, ?o5_2_1, ?o5_2_2, ?o5_2_3, ?o5_2_4, ?o5_2_5, ?o5_2_6, ?o5_2_7, trivial⟩
    all_goals intro xv wq hH hS H hU aq ha Q' hQ
    case o5_2_0 | o5_2_1 | o5_2_2 => cases rd0 ha; clear H hU hS; go_wp2_with fail; (try refine hQ _ _ ?_); refine ⟨Step.refl _ _, ?_, trivial, nofun⟩; exact (rfl : _ = _)
    case o5_2_3 => obtain ⟨f0, f4, f6, f7, f8, f9⟩ := FF2.out _ hH; obtain ⟨b0, b1, b2, b3, b4, b5, b6, b7, b8, b9⟩ := KB2.out _ hH; have ha := rd1 ha H (by kernel_rfl) rfl; simp only [q3, q5, q6, q7] at ha; subst ha; clear H hU hS; go_wp2_with fail; (try refine hQ _ _ ?_); refine ⟨Step.refl _ _, ?_, trivial, nofun⟩; exact (rfl : _ = _)
    case o5_2_4 => obtain ⟨f0, f4, f6, f7, f8, f9⟩ := FF2.out _ hH; obtain ⟨b0, b1, b2, b3, b4, b5, b6, b7, b8, b9⟩ := KB2.out _ hH; have h1 : xv 1 = _ := H 1 (by kernel_rfl); have h3 : xv 3 = _ := H 3 (by kernel_rfl); change aq = puts _ xv [(1, some 27), (3, some 29)] at ha; simp only [q1, q2, q3, q5, q6, q7, h1, h3] at ha; subst ha; clear H h1 h3; clear hU hS; go_wp2_with fail; refine (VAL.out _ hH).mono ?_; rintro e w4 ⟨vo4, rfl, r4, s4⟩; go_wp2_with fail; all_goals (try refine hQ _ _ ?_); all_goals refine ⟨s4, ?_, trivial, nofun⟩; all_goals exact IsVals.of hH.size (by rw [pick_length]; exact r4)
    case o5_2_5 => cases rd0 ha; clear H hU hS; go_wp2_with fail; (try refine hQ _ _ ?_); refine ⟨Step.refl _ _, ?_, trivial, nofun⟩; exact (rfl : _ = _)
    case o5_2_6 | o5_2_7 => obtain ⟨f0, f4, f6, f7, f8, f9⟩ := FF2.out _ hH; obtain ⟨b0, b1, b2, b3, b4, b5, b6, b7, b8, b9⟩ := KB2.out _ hH; have ha := rd1 ha H (by kernel_rfl) rfl; simp only [q3, q5, q6, q7] at ha; subst ha; clear H hU hS; go_wp2_with fail; (try refine hQ _ _ ?_); refine ⟨Step.refl _ _, ?_, trivial, nofun⟩; exact (rfl : _ = _)
  intro xv w3 hH hS H hU hsz hF hN
  have h0 : xv 0 = _ := H 0 (by decide) (by kernel_rfl); have h1 : xv 1 = _ := H 1 (by decide) (by kernel_rfl); have h2 : xv 2 = _ := H 2 (by decide) (by kernel_rfl); have h3 : xv 3 = _ := H 3 (by decide) (by kernel_rfl); obtain ⟨a4, cap4, h4, r4⟩ : (IsVals w2 (pick regs args)) (xv 4) w3 := H 4 (by decide) (by kernel_rfl); have h5 : xv 5 = _ := H 5 (by decide) (by kernel_rfl); have h6 : xv 6 = _ := H 6 (by decide) (by kernel_rfl); have h7 : xv 7 = _ := H 7 (by decide) (by kernel_rfl)
  simp only [planCheck34, q1, q2, q3, q5, q6, q7, q4, List.drop_succ_cons, List.drop_zero, h0, h1, h2, h3, h4, h5, h6, h7]
  clear H hF hN hS hU h0 h1 h2 h3 h4 h5 h6 h7
  have S3 := Lib.hid hH
  have R4 := Lib.hid r4
  clear hH r4
  go_wp2_with fail
  refine (CK.out _ S3.out _ _ R4.out).mono ?_
  rintro e w4 ⟨rfl, s4⟩
  refine ⟨rfl, rfl, own, (((Chg.calm own S1.out).trans CH2.out).trans (Chg.calm own (S3.out.then s4))).g gx, HP2.out.whole.still (S3.out.then s4)⟩
set_option maxHeartbeats 4000000 in
set_option maxRecDepth 100000 in
theorem mem_35ok (hW : FWAt w0 w pw own fnv tops st c) (hF : FrAt w own pf pw gx vn vp vk vs vc vr vl regs slots lock key) (hl : w0.heap.size ≤ gx) {v : Value} {i : FIns} (hi : InsAt w0 v i) (ho : i.op = 35) (ok_dst : ok1 regs i.dst) (ok_a : ok1 regs i.a) (h64 : regs64 regs) (hs : i.size = 1 ∨ i.size = 4 ∨ i.size = 8) (hm : ∀ x b, st.mem x = some b → 0 ≤ b ∧ b ≤ 255) (hb : placeF (rg regs i.a) i.size = true) :
    Calls Try.prog 72 #[.pointer (some ⟨pf, 0, none⟩), v] w (Went w0 w pw own fnv tops pf gx vn vp vk vs vc vr vl slots lock key st c (regs.set i.dst.toNat (loadF st.mem (rg regs i.a) i.size))) := by
  obtain ⟨va, vo, rfl, iargs, iouts⟩ := hi
  obtain ⟨op, dst, a, b, n, size, name, args, outs, to⟩ := i
  simp only at *
  subst ho
  obtain ⟨rcap, rfl⟩ := regs_slice hF (by unfold ok1 at ok_dst; omega)
  have HW := Lib.hid hW
  have HF := Lib.hid hF
  have HL := Lib.hid hl
  have FF := Lib.hid (frame_facts hF)
  have FR := Lib.hid (reg_facts hF)
  unfold ok1 at ok_dst ok_a
  clear hW hF hl
  obtain ⟨f0, f4, f6, f7, f8, f9⟩ := FF.out _ (Step.refl _ _)
  have hpf := block_lt f6
  simp only at hpf
  go_enter Try.func72, Try.ntmps72
  go_upto_region 7 with fail
  have kb := heap_alloc_new w (.cells #[.int .i64 35, .int .i64 dst, .int .i64 a, .int .i64 b, .int .u64 n, .int .i64 size, .string name, va, vo, .int .i64 to] 47 (0, 0))
  have S1 := Lib.hid (Step.alloc (fun _ => False) w (.cells #[.int .i64 35, .int .i64 dst, .int .i64 a, .int .i64 b, .int .u64 n, .int .i64 size, .string name, va, vo, .int .i64 to] 47 (0, 0)))
  clear f0 f4 f6 f7 f8 f9 hpf
  have HT := Lib.hid (show gx < w.heap.size ∧ own w.heap.size = 0 from ⟨HF.out.free.2.2.2, HW.out.fresh0⟩)
  generalize w.alloc (.cells #[.int .i64 35, .int .i64 dst, .int .i64 a, .int .i64 b, .int .u64 n, .int .i64 size, .string name, va, vo, .int .i64 to] 47 (0, 0)) = w1 at kb S1 ⊢
  generalize w.heap.size = tb at kb HT ⊢
  have KB := Lib.hid kb
  have FB := Lib.hid (box_facts kb)
  clear kb
  have HW1 := Lib.hid (HW.out.still S1.out)
  have LD := Lib.hid (show ∀ y, Step (fun _ => False) w1 y → _ from fun y hy => load_ok (HW1.out.still hy) (rg regs a) size hs hb hm)
  have HS := Lib.hid hs
  clear hs hb hm h64
  refine wp_region_each 15 planLoad35 (fun _ _ => False) (Step (fun _ => False) w1) (fun _ => True) [Is ?v7_3_0, Is ?v7_3_1, Is ?v7_3_2, Is ?v7_3_3, Is ?v7_3_4, Is ?v7_3_5, Is ?v7_3_6, Is ?v7_3_7, Is ?v7_3_8, Is ?v7_3_9, Is ?v7_3_10, Is ?v7_3_11, Is ?v7_3_12, Is ?v7_3_13, Is ?v7_3_14] [] (by kernel_rfl) (by kernel_rfl) (fun _ _ h => h.elim) ((Step.refl _ _).drew) (trivial) ?stab7_3 ?stabD7_3 ?obl7_3 ?fin7_3
  case stab7_3 => exact fun w w' h => ⟨fun k => k.trans h (fun _ x => x.elim), fun _ => trivial, ⟨fun _ k => k, fun _ k => k, fun _ k => k, fun _ k => k, fun _ k => k, fun _ k => k, fun _ k => k, fun _ k => k, fun _ k => k, fun _ k => k, fun _ k => k, fun _ k => k, fun _ k => k, fun _ k => k, fun _ k => k, trivial⟩, trivial⟩
  case stabD7_3 => exact fun _ _ h => h.elim
  case obl7_3 =>
    refine ⟨?o7_3_0, ?o7_3_1, ?o7_3_2, ?o7_3_3, ?o7_3_4, ?o7_3_5, ?o7_3_6, ?o7_3_7, ?o7_3_8, ?o7_3_9, ?o7_3_10, ?o7_3_11, ?o7_3_12, ?o7_3_13, ?o7_3_14, trivial⟩
    all_goals intro xv wq hH hS H hU aq ha Q' hQ
    case o7_3_0 | o7_3_1 => cases rd0 ha; clear H hU hS; go_wp2_with fail; (try refine hQ _ _ ?_); refine ⟨Step.refl _ _, ?_, trivial, nofun⟩; exact (rfl : _ = _)
    case o7_3_2 => obtain ⟨f0, f4, f6, f7, f8, f9⟩ := FF.out _ (S1.out.then hH); obtain ⟨c_dst, z_dst⟩ := FR.out _ (S1.out.then hH) dst ok_dst; obtain ⟨c_a, z_a⟩ := FR.out _ (S1.out.then hH) a ok_a; obtain ⟨b0, b1, b2, b3, b4, b5, b6, b7, b8, b9⟩ := FB.out _ hH; have ha := rd1 ha H (by kernel_rfl) rfl; simp only [q3, q5, q6, q7] at ha; subst ha; clear H hU hS; go_wp2_with fail; (try refine hQ _ _ ?_); refine ⟨Step.refl _ _, ?_, trivial, nofun⟩; exact (rfl : _ = _)
    case o7_3_3 => cases rd0 ha; clear H hU hS; go_wp2_with fail; (try refine hQ _ _ ?_); refine ⟨Step.refl _ _, ?_, trivial, nofun⟩; exact (rfl : _ = _)
    case o7_3_4 | o7_3_5 => have ha := rd1 ha H (by kernel_rfl) rfl; simp only [q3, q5, q6, q7] at ha; subst ha; clear H hU hS; go_wp2_with fail; (try refine hQ _ _ ?_); refine ⟨Step.refl _ _, ?_, trivial, nofun⟩; exact (rfl : _ = _)
    case o7_3_6 => obtain ⟨f0, f4, f6, f7, f8, f9⟩ := FF.out _ (S1.out.then hH); obtain ⟨c_dst, z_dst⟩ := FR.out _ (S1.out.then hH) dst ok_dst; obtain ⟨c_a, z_a⟩ := FR.out _ (S1.out.then hH) a ok_a; obtain ⟨b0, b1, b2, b3, b4, b5, b6, b7, b8, b9⟩ := FB.out _ hH; have ha := rd1 ha H (by kernel_rfl) rfl; simp only [q3, q5, q6, q7] at ha; subst ha; clear H hU hS; go_wp2_with fail; (try refine hQ _ _ ?_); refine ⟨Step.refl _ _, ?_, trivial, nofun⟩; exact (rfl : _ = _)
    case o7_3_7 | o7_3_8 => cases rd0 ha; clear H hU hS; go_wp2_with fail; (try refine hQ _ _ ?_); refine ⟨Step.refl _ _, ?_, trivial, nofun⟩; exact (rfl : _ = _)
    case o7_3_9 => obtain ⟨f0, f4, f6, f7, f8, f9⟩ := FF.out _ (S1.out.then hH); obtain ⟨c_dst, z_dst⟩ := FR.out _ (S1.out.then hH) dst ok_dst; obtain ⟨c_a, z_a⟩ := FR.out _ (S1.out.then hH) a ok_a; obtain ⟨b0, b1, b2, b3, b4, b5, b6, b7, b8, b9⟩ := FB.out _ hH; have ha := rd1 ha H (by kernel_rfl) rfl; simp only [q3, q5, q6, q7] at ha; subst ha; clear H hU hS; go_wp2_with fail; (try refine hQ _ _ ?_); refine ⟨Step.refl _ _, ?_, trivial, nofun⟩; exact (rfl : _ = _)
    case o7_3_10 => obtain ⟨f0, f4, f6, f7, f8, f9⟩ := FF.out _ (S1.out.then hH); obtain ⟨c_dst, z_dst⟩ := FR.out _ (S1.out.then hH) dst ok_dst; obtain ⟨c_a, z_a⟩ := FR.out _ (S1.out.then hH) a ok_a; obtain ⟨b0, b1, b2, b3, b4, b5, b6, b7, b8, b9⟩ := FB.out _ hH; have ha := rd2 ha H (by kernel_rfl) (by kernel_rfl) rfl rfl; simp only [q3, q5, q6, q7] at ha; subst ha; clear H hU hS; go_wp2_with fail; (try refine hQ _ _ ?_); refine ⟨Step.refl _ _, ?_, trivial, nofun⟩; exact (rfl : _ = _)
    case o7_3_11 => obtain ⟨f0, f4, f6, f7, f8, f9⟩ := FF.out _ (S1.out.then hH); obtain ⟨c_dst, z_dst⟩ := FR.out _ (S1.out.then hH) dst ok_dst; obtain ⟨c_a, z_a⟩ := FR.out _ (S1.out.then hH) a ok_a; obtain ⟨b0, b1, b2, b3, b4, b5, b6, b7, b8, b9⟩ := FB.out _ hH; have ha := rd1 ha H (by kernel_rfl) rfl; simp only [q3, q5, q6, q7] at ha; subst ha; clear H hU hS; go_wp2_with fail; (try refine hQ _ _ ?_); refine ⟨Step.refl _ _, ?_, trivial, nofun⟩; exact (rfl : _ = _)
    case o7_3_12 => cases rd0 ha; clear H hU hS; go_wp2_with fail; (try refine hQ _ _ ?_); refine ⟨Step.refl _ _, ?_, trivial, nofun⟩; exact (rfl : _ = _)
    case o7_3_13 => obtain ⟨f0, f4, f6, f7, f8, f9⟩ := FF.out _ (S1.out.then hH); obtain ⟨c_dst, z_dst⟩ := FR.out _ (S1.out.then hH) dst ok_dst; obtain ⟨c_a, z_a⟩ := FR.out _ (S1.out.then hH) a ok_a; obtain ⟨b0, b1, b2, b3, b4, b5, b6, b7, b8, b9⟩ := FB.out _ hH; have ha := rd1 ha H (by kernel_rfl) rfl; simp only [q3, q5, q6, q7] at ha; subst ha; clear H hU hS; go_wp2_with fail; (try refine hQ _ _ ?_); refine ⟨Step.refl _ _, ?_, trivial, nofun⟩; exact (rfl : _ = _)
    case o7_3_14 => obtain ⟨f0, f4, f6, f7, f8, f9⟩ := FF.out _ (S1.out.then hH); obtain ⟨c_dst, z_dst⟩ := FR.out _ (S1.out.then hH) dst ok_dst; obtain ⟨c_a, z_a⟩ := FR.out _ (S1.out.then hH) a ok_a; obtain ⟨b0, b1, b2, b3, b4, b5, b6, b7, b8, b9⟩ := FB.out _ hH; have h6 : xv 6 = _ := H 6 (by kernel_rfl); have h11 : xv 11 = _ := H 11 (by kernel_rfl); have h13 : xv 13 = _ := H 13 (by kernel_rfl); change aq = puts _ xv [(6, some 43), (11, some 48), (13, some 50)] at ha; simp only [q1, q2, q3, q5, q6, q7, h6, h11, h13] at ha; subst ha; clear H h6 h11 h13; clear hU hS; go_wp2_with fail; refine (LD.out _ hH).mono ?_; rintro e w4 ⟨rfl, s4⟩; go_wp2_with fail; (try refine hQ _ _ ?_); refine ⟨(by subst s4; exact Step.refl _ _), ?_, trivial, nofun⟩; exact (rfl : _ = _)
  intro xv w2 hH hS H hU hsz hF hN
  have h0 : xv 0 = _ := H 0 (by decide) (by kernel_rfl); have h1 : xv 1 = _ := H 1 (by decide) (by kernel_rfl); have h2 : xv 2 = _ := H 2 (by decide) (by kernel_rfl); have h3 : xv 3 = _ := H 3 (by decide) (by kernel_rfl); have h4 : xv 4 = _ := H 4 (by decide) (by kernel_rfl); have h5 : xv 5 = _ := H 5 (by decide) (by kernel_rfl); have h6 : xv 6 = _ := H 6 (by decide) (by kernel_rfl); have h7 : xv 7 = _ := H 7 (by decide) (by kernel_rfl); have h8 : xv 8 = _ := H 8 (by decide) (by kernel_rfl); have h9 : xv 9 = _ := H 9 (by decide) (by kernel_rfl); have h10 : xv 10 = _ := H 10 (by decide) (by kernel_rfl); have h11 : xv 11 = _ := H 11 (by decide) (by kernel_rfl); have h12 : xv 12 = _ := H 12 (by decide) (by kernel_rfl); have h13 : xv 13 = _ := H 13 (by decide) (by kernel_rfl); have h14 : xv 14 = _ := H 14 (by decide) (by kernel_rfl)
  simp only [planLoad35, q1, q2, q3, q5, q6, q7, q4, List.drop_succ_cons, List.drop_zero, h0, h1, h2, h3, h4, h5, h6, h7, h8, h9, h10, h11, h12, h13, h14]
  clear H hF hN hS hU h0 h1 h2 h3 h4 h5 h6 h7 h8 h9 h10 h11 h12 h13 h14
  obtain ⟨f0, f4, f6, f7, f8, f9⟩ := FF.out _ (S1.out.then hH)
  obtain ⟨c_dst, z_dst⟩ := FR.out _ (S1.out.then hH) dst ok_dst
  obtain ⟨c_a, z_a⟩ := FR.out _ (S1.out.then hH) a ok_a
  obtain ⟨b0, b1, b2, b3, b4, b5, b6, b7, b8, b9⟩ := FB.out _ hH
  have HH := Lib.hid hH
  clear hH
  go_wp2_with fail
  go_end0
  exact went_set (HW.out.still (S1.out.then HH.out)) (HF.out.still (S1.out.then HH.out)) (S1.out.then HH.out) HL.out (by omega) _
set_option maxHeartbeats 4000000 in
set_option maxRecDepth 100000 in
theorem mem_35no (hW : FWAt w0 w pw own fnv tops st c) (hF : FrAt w own pf pw gx vn vp vk vs vc vr vl regs slots lock key) (hl : w0.heap.size ≤ gx) {v : Value} {i : FIns} (hi : InsAt w0 v i) (ho : i.op = 35) (ok_dst : ok1 regs i.dst) (ok_a : ok1 regs i.a) (h64 : regs64 regs) (hs : i.size = 1 ∨ i.size = 4 ∨ i.size = 8) (hm : ∀ x b, st.mem x = some b → 0 ≤ b ∧ b ≤ 255) (hb : placeF (rg regs i.a) i.size = false) :
    Calls Try.prog 72 #[.pointer (some ⟨pf, 0, none⟩), v] w (Fell w0 w pw own fnv tops gx 4 0 st c) := by
  obtain ⟨va, vo, rfl, iargs, iouts⟩ := hi
  obtain ⟨op, dst, a, b, n, size, name, args, outs, to⟩ := i
  simp only at *
  subst ho
  obtain ⟨rcap, rfl⟩ := regs_slice hF (by unfold ok1 at ok_dst; omega)
  have HW := Lib.hid hW
  have HF := Lib.hid hF
  have HL := Lib.hid hl
  have FF := Lib.hid (frame_facts hF)
  have FR := Lib.hid (reg_facts hF)
  unfold ok1 at ok_dst ok_a
  clear hW hF hl
  obtain ⟨f0, f4, f6, f7, f8, f9⟩ := FF.out _ (Step.refl _ _)
  have hpf := block_lt f6
  simp only at hpf
  go_enter Try.func72, Try.ntmps72
  go_upto_region 7 with fail
  have kb := heap_alloc_new w (.cells #[.int .i64 35, .int .i64 dst, .int .i64 a, .int .i64 b, .int .u64 n, .int .i64 size, .string name, va, vo, .int .i64 to] 47 (0, 0))
  have S1 := Lib.hid (Step.alloc (fun _ => False) w (.cells #[.int .i64 35, .int .i64 dst, .int .i64 a, .int .i64 b, .int .u64 n, .int .i64 size, .string name, va, vo, .int .i64 to] 47 (0, 0)))
  clear f0 f4 f6 f7 f8 f9 hpf
  have HT := Lib.hid (show gx < w.heap.size ∧ own w.heap.size = 0 from ⟨HF.out.free.2.2.2, HW.out.fresh0⟩)
  generalize w.alloc (.cells #[.int .i64 35, .int .i64 dst, .int .i64 a, .int .i64 b, .int .u64 n, .int .i64 size, .string name, va, vo, .int .i64 to] 47 (0, 0)) = w1 at kb S1 ⊢
  generalize w.heap.size = tb at kb HT ⊢
  have KB := Lib.hid kb
  have FB := Lib.hid (box_facts kb)
  clear kb
  have HW1 := Lib.hid (HW.out.still S1.out)
  have LD := Lib.hid (show ∀ y, Step (fun _ => False) w1 y → _ from fun y hy => load_no (pw := pw) (rg regs a) size hs (rg_64 h64 a).1 hb y)
  have HS := Lib.hid hs
  clear hs hb hm h64
  refine wp_region_eachX 15 planLoad35n (fun _ _ => False) (Step (fun _ => False) w1) (fun _ => True) [Is ?v7_4_0, Is ?v7_4_1, Is ?v7_4_2, Is ?v7_4_3, Is ?v7_4_4, Is ?v7_4_5, Is ?v7_4_6, Is ?v7_4_7, Is ?v7_4_8, Is ?v7_4_9, Is ?v7_4_10, Is ?v7_4_11, Is ?v7_4_12, Is ?v7_4_13, fun _ _ => False] [] (by kernel_rfl) (by kernel_rfl) (fun _ _ h => h.elim) ((Step.refl _ _).drew) (trivial) ?stab7_4 ?stabD7_4 (X := fun ch w' => ch = [{ v := stopV 4 0, recovered := false }] ∧ Step (fun _ => False) w1 w') ?hx7_4 ?obl7_4 ?fin7_4
  case hx7_4 => (rintro ch a' w' hd ⟨rfl, s⟩; exact ⟨hd, rfl, own, (Chg.calm own (S1.out.then s)).g gx, HW.out.still (S1.out.then s)⟩)
  case stab7_4 => exact fun w w' h => ⟨fun k => k.trans h (fun _ x => x.elim), fun _ => trivial, ⟨fun _ k => k, fun _ k => k, fun _ k => k, fun _ k => k, fun _ k => k, fun _ k => k, fun _ k => k, fun _ k => k, fun _ k => k, fun _ k => k, fun _ k => k, fun _ k => k, fun _ k => k, fun _ k => k, fun _ k => k, trivial⟩, trivial⟩
  case stabD7_4 => exact fun _ _ h => h.elim
  case obl7_4 =>
    refine ⟨?o7_4_0, ?o7_4_1, ?o7_4_2, ?o7_4_3, ?o7_4_4, ?o7_4_5, ?o7_4_6, ?o7_4_7, ?o7_4_8, ?o7_4_9, ?o7_4_10, ?o7_4_11, ?o7_4_12, ?o7_4_13, ?o7_4_14, trivial⟩
    all_goals intro xv wq hH hS H hU aq ha Q' hX hQ
    case o7_4_0 | o7_4_1 => cases rd0 ha; clear H hU hS; go_wp2_with fail; (try refine hQ _ _ ?_); refine ⟨Step.refl _ _, ?_, trivial, nofun⟩; exact (rfl : _ = _)
    case o7_4_2 => obtain ⟨f0, f4, f6, f7, f8, f9⟩ := FF.out _ (S1.out.then hH); obtain ⟨c_dst, z_dst⟩ := FR.out _ (S1.out.then hH) dst ok_dst; obtain ⟨c_a, z_a⟩ := FR.out _ (S1.out.then hH) a ok_a; obtain ⟨b0, b1, b2, b3, b4, b5, b6, b7, b8, b9⟩ := FB.out _ hH; have ha := rd1 ha H (by kernel_rfl) rfl; simp only [q3, q5, q6, q7] at ha; subst ha; clear H hU hS; go_wp2_with fail; (try refine hQ _ _ ?_); refine ⟨Step.refl _ _, ?_, trivial, nofun⟩; exact (rfl : _ = _)
    case o7_4_3 => cases rd0 ha; clear H hU hS; go_wp2_with fail; (try refine hQ _ _ ?_); refine ⟨Step.refl _ _, ?_, trivial, nofun⟩; exact (rfl : _ = _)
    case o7_4_4 | o7_4_5 => have ha := rd1 ha H (by kernel_rfl) rfl; simp only [q3, q5, q6, q7] at ha; subst ha; clear H hU hS; go_wp2_with fail; (try refine hQ _ _ ?_); refine ⟨Step.refl _ _, ?_, trivial, nofun⟩; exact (rfl : _ = _)
    case o7_4_6 => obtain ⟨f0, f4, f6, f7, f8, f9⟩ := FF.out _ (S1.out.then hH); obtain ⟨c_dst, z_dst⟩ := FR.out _ (S1.out.then hH) dst ok_dst; obtain ⟨c_a, z_a⟩ := FR.out _ (S1.out.then hH) a ok_a; obtain ⟨b0, b1, b2, b3, b4, b5, b6, b7, b8, b9⟩ := FB.out _ hH; have ha := rd1 ha H (by kernel_rfl) rfl; simp only [q3, q5, q6, q7] at ha; subst ha; clear H hU hS; go_wp2_with fail; (try refine hQ _ _ ?_); refine ⟨Step.refl _ _, ?_, trivial, nofun⟩; exact (rfl : _ = _)
    case o7_4_7 | o7_4_8 => cases rd0 ha; clear H hU hS; go_wp2_with fail; (try refine hQ _ _ ?_); refine ⟨Step.refl _ _, ?_, trivial, nofun⟩; exact (rfl : _ = _)
    case o7_4_9 => obtain ⟨f0, f4, f6, f7, f8, f9⟩ := FF.out _ (S1.out.then hH); obtain ⟨c_dst, z_dst⟩ := FR.out _ (S1.out.then hH) dst ok_dst; obtain ⟨c_a, z_a⟩ := FR.out _ (S1.out.then hH) a ok_a; obtain ⟨b0, b1, b2, b3, b4, b5, b6, b7, b8, b9⟩ := FB.out _ hH; have ha := rd1 ha H (by kernel_rfl) rfl; simp only [q3, q5, q6, q7] at ha; subst ha; clear H hU hS; go_wp2_with fail; (try refine hQ _ _ ?_); refine ⟨Step.refl _ _, ?_, trivial, nofun⟩; exact (rfl : _ = _)
    case o7_4_10 => obtain ⟨f0, f4, f6, f7, f8, f9⟩ := FF.out _ (S1.out.then hH); obtain ⟨c_dst, z_dst⟩ := FR.out _ (S1.out.then hH) dst ok_dst; obtain ⟨c_a, z_a⟩ := FR.out _ (S1.out.then hH) a ok_a; obtain ⟨b0, b1, b2, b3, b4, b5, b6, b7, b8, b9⟩ := FB.out _ hH; have ha := rd2 ha H (by kernel_rfl) (by kernel_rfl) rfl rfl; simp only [q3, q5, q6, q7] at ha; subst ha; clear H hU hS; go_wp2_with fail; (try refine hQ _ _ ?_); refine ⟨Step.refl _ _, ?_, trivial, nofun⟩; exact (rfl : _ = _)
    case o7_4_11 => obtain ⟨f0, f4, f6, f7, f8, f9⟩ := FF.out _ (S1.out.then hH); obtain ⟨c_dst, z_dst⟩ := FR.out _ (S1.out.then hH) dst ok_dst; obtain ⟨c_a, z_a⟩ := FR.out _ (S1.out.then hH) a ok_a; obtain ⟨b0, b1, b2, b3, b4, b5, b6, b7, b8, b9⟩ := FB.out _ hH; have ha := rd1 ha H (by kernel_rfl) rfl; simp only [q3, q5, q6, q7] at ha; subst ha; clear H hU hS; go_wp2_with fail; (try refine hQ _ _ ?_); refine ⟨Step.refl _ _, ?_, trivial, nofun⟩; exact (rfl : _ = _)
    case o7_4_12 => cases rd0 ha; clear H hU hS; go_wp2_with fail; (try refine hQ _ _ ?_); refine ⟨Step.refl _ _, ?_, trivial, nofun⟩; exact (rfl : _ = _)
    case o7_4_13 => obtain ⟨f0, f4, f6, f7, f8, f9⟩ := FF.out _ (S1.out.then hH); obtain ⟨c_dst, z_dst⟩ := FR.out _ (S1.out.then hH) dst ok_dst; obtain ⟨c_a, z_a⟩ := FR.out _ (S1.out.then hH) a ok_a; obtain ⟨b0, b1, b2, b3, b4, b5, b6, b7, b8, b9⟩ := FB.out _ hH; have ha := rd1 ha H (by kernel_rfl) rfl; simp only [q3, q5, q6, q7] at ha; subst ha; clear H hU hS; go_wp2_with fail; (try refine hQ _ _ ?_); refine ⟨Step.refl _ _, ?_, trivial, nofun⟩; exact (rfl : _ = _)
    case o7_4_14 =>
      obtain ⟨f0, f4, f6, f7, f8, f9⟩ := FF.out _ (S1.out.then hH); obtain ⟨c_dst, z_dst⟩ := FR.out _ (S1.out.then hH) dst ok_dst; obtain ⟨c_a, z_a⟩ := FR.out _ (S1.out.then hH) a ok_a; obtain ⟨b0, b1, b2, b3, b4, b5, b6, b7, b8, b9⟩ := FB.out _ hH; have h6 : xv 6 = _ := H 6 (by kernel_rfl); have h11 : xv 11 = _ := H 11 (by kernel_rfl); have h13 : xv 13 = _ := H 13 (by kernel_rfl); change aq = puts _ xv [(6, some 43), (11, some 48), (13, some 50)] at ha; simp only [q1, q2, q3, q5, q6, q7, h6, h11, h13] at ha; subst ha; clear H h6 h11 h13
      clear hU hS
      go_wp2_with fail
      refine (LD.out _ hH).mono ?_
      rintro e w4 ⟨rfl, rfl⟩
      exact hX _ _ ⟨rfl, hH⟩
  intro xv w2 hH hS H hU hsz hF hN
  exact (H 14 (by decide) (by kernel_rfl) : False).elim
set_option maxHeartbeats 4000000 in
set_option maxRecDepth 100000 in
theorem mem_36ok (hW : FWAt w0 w pw own fnv tops st c) (hF : FrAt w own pf pw gx vn vp vk vs vc vr vl regs slots lock key) (hl : w0.heap.size ≤ gx) {v : Value} {i : FIns} (hi : InsAt w0 v i) (ho : i.op = 36) (ok_a : ok1 regs i.a) (ok_b : ok1 regs i.b) (hc : c ≤ 100000000) (h64 : regs64 regs) (hs : i.size = 1 ∨ i.size = 4 ∨ i.size = 8) (hb : placeF (rg regs i.a) i.size = true) :
    Calls Try.prog 72 #[.pointer (some ⟨pf, 0, none⟩), v] w (Went w0 w pw own fnv tops pf gx vn vp vk vs vc vr vl slots lock key { st with mem := storeAcc st.mem (rg regs i.a) (rg regs i.b) i.size.toNat } (c + 8) (regs)) := by
  obtain ⟨va, vo, rfl, iargs, iouts⟩ := hi
  obtain ⟨op, dst, a, b, n, size, name, args, outs, to⟩ := i
  simp only at *
  subst ho
  obtain ⟨rcap, rfl⟩ := regs_slice hF (by unfold ok1 at ok_a; omega)
  have HW := Lib.hid hW
  have HF := Lib.hid hF
  have HL := Lib.hid hl
  have FF := Lib.hid (frame_facts hF)
  have FR := Lib.hid (reg_facts hF)
  unfold ok1 at ok_a ok_b
  clear hW hF hl
  obtain ⟨f0, f4, f6, f7, f8, f9⟩ := FF.out _ (Step.refl _ _)
  have hpf := block_lt f6
  simp only at hpf
  go_enter Try.func72, Try.ntmps72
  go_upto_region 9 with fail
  have kb := heap_alloc_new w (.cells #[.int .i64 36, .int .i64 dst, .int .i64 a, .int .i64 b, .int .u64 n, .int .i64 size, .string name, va, vo, .int .i64 to] 47 (0, 0))
  have S1 := Lib.hid (Step.alloc (fun _ => False) w (.cells #[.int .i64 36, .int .i64 dst, .int .i64 a, .int .i64 b, .int .u64 n, .int .i64 size, .string name, va, vo, .int .i64 to] 47 (0, 0)))
  clear f0 f4 f6 f7 f8 f9 hpf
  have HT := Lib.hid (show gx < w.heap.size ∧ own w.heap.size = 0 from ⟨HF.out.free.2.2.2, HW.out.fresh0⟩)
  generalize w.alloc (.cells #[.int .i64 36, .int .i64 dst, .int .i64 a, .int .i64 b, .int .u64 n, .int .i64 size, .string name, va, vo, .int .i64 to] 47 (0, 0)) = w1 at kb S1 ⊢
  generalize w.heap.size = tb at kb HT ⊢
  have KB := Lib.hid kb
  have FB := Lib.hid (box_facts kb)
  clear kb
  have HW1 := Lib.hid (HW.out.still S1.out)
  have ST := Lib.hid (show ∀ y, Step (fun _ => False) w1 y → _ from fun y hy => store_ok (HW1.out.still hy) (by omega) (rg regs a) size (rg regs b) hs hb)
  clear hs hb h64
  refine wp_region_each 16 planStore36 (fun _ _ => False) (Step (fun _ => False) w1) (fun _ => True) [Is ?v9_5_0, Is ?v9_5_1, Is ?v9_5_2, Is ?v9_5_3, Is ?v9_5_4, Is ?v9_5_5, Is ?v9_5_6, Is ?v9_5_7, Is ?v9_5_8, Is ?v9_5_9, Is ?v9_5_10, Is ?v9_5_11, Is ?v9_5_12, Is ?v9_5_13, Is ?v9_5_14, Is ?v9_5_15] [] (by kernel_rfl) (by kernel_rfl) (fun _ _ h => h.elim) ((Step.refl _ _).drew) (trivial) ?stab9_5 ?stabD9_5 ?obl9_5 ?fin9_5
  case stab9_5 => exact fun w w' h => ⟨fun k => k.trans h (fun _ x => x.elim), fun _ => trivial, ⟨fun _ k => k, fun _ k => k, fun _ k => k, fun _ k => k, fun _ k => k, fun _ k => k, fun _ k => k, fun _ k => k, fun _ k => k, fun _ k => k, fun _ k => k, fun _ k => k, fun _ k => k, fun _ k => k, fun _ k => k, fun _ k => k, trivial⟩, trivial⟩
  case stabD9_5 => exact fun _ _ h => h.elim
  case obl9_5 =>
    refine ⟨?o9_5_0, ?o9_5_1, ?o9_5_2, ?o9_5_3, ?o9_5_4, ?o9_5_5, ?o9_5_6, ?o9_5_7, ?o9_5_8, ?o9_5_9, ?o9_5_10, ?o9_5_11, ?o9_5_12, ?o9_5_13, ?o9_5_14, ?o9_5_15, trivial⟩
    all_goals intro xv wq hH hS H hU aq ha Q' hQ
    case o9_5_0 => cases rd0 ha; clear H hU hS; go_wp2_with fail; (try refine hQ _ _ ?_); refine ⟨Step.refl _ _, ?_, trivial, nofun⟩; exact (rfl : _ = _)
    case o9_5_1 | o9_5_2 => have ha := rd1 ha H (by kernel_rfl) rfl; simp only [q3, q5, q6, q7] at ha; subst ha; clear H hU hS; go_wp2_with fail; (try refine hQ _ _ ?_); refine ⟨Step.refl _ _, ?_, trivial, nofun⟩; exact (rfl : _ = _)
    case o9_5_3 => obtain ⟨f0, f4, f6, f7, f8, f9⟩ := FF.out _ (S1.out.then hH); obtain ⟨c_a, z_a⟩ := FR.out _ (S1.out.then hH) a ok_a; obtain ⟨c_b, z_b⟩ := FR.out _ (S1.out.then hH) b ok_b; obtain ⟨b0, b1, b2, b3, b4, b5, b6, b7, b8, b9⟩ := FB.out _ hH; have ha := rd1 ha H (by kernel_rfl) rfl; simp only [q3, q5, q6, q7] at ha; subst ha; clear H hU hS; go_wp2_with fail; (try refine hQ _ _ ?_); refine ⟨Step.refl _ _, ?_, trivial, nofun⟩; exact (rfl : _ = _)
    case o9_5_4 | o9_5_5 => cases rd0 ha; clear H hU hS; go_wp2_with fail; (try refine hQ _ _ ?_); refine ⟨Step.refl _ _, ?_, trivial, nofun⟩; exact (rfl : _ = _)
    case o9_5_6 => obtain ⟨f0, f4, f6, f7, f8, f9⟩ := FF.out _ (S1.out.then hH); obtain ⟨c_a, z_a⟩ := FR.out _ (S1.out.then hH) a ok_a; obtain ⟨c_b, z_b⟩ := FR.out _ (S1.out.then hH) b ok_b; obtain ⟨b0, b1, b2, b3, b4, b5, b6, b7, b8, b9⟩ := FB.out _ hH; have ha := rd1 ha H (by kernel_rfl) rfl; simp only [q3, q5, q6, q7] at ha; subst ha; clear H hU hS; go_wp2_with fail; (try refine hQ _ _ ?_); refine ⟨Step.refl _ _, ?_, trivial, nofun⟩; exact (rfl : _ = _)
    case o9_5_7 => obtain ⟨f0, f4, f6, f7, f8, f9⟩ := FF.out _ (S1.out.then hH); obtain ⟨c_a, z_a⟩ := FR.out _ (S1.out.then hH) a ok_a; obtain ⟨c_b, z_b⟩ := FR.out _ (S1.out.then hH) b ok_b; obtain ⟨b0, b1, b2, b3, b4, b5, b6, b7, b8, b9⟩ := FB.out _ hH; have ha := rd2 ha H (by kernel_rfl) (by kernel_rfl) rfl rfl; simp only [q3, q5, q6, q7] at ha; subst ha; clear H hU hS; go_wp2_with fail; (try refine hQ _ _ ?_); refine ⟨Step.refl _ _, ?_, trivial, nofun⟩; exact (rfl : _ = _)
    case o9_5_8 => obtain ⟨f0, f4, f6, f7, f8, f9⟩ := FF.out _ (S1.out.then hH); obtain ⟨c_a, z_a⟩ := FR.out _ (S1.out.then hH) a ok_a; obtain ⟨c_b, z_b⟩ := FR.out _ (S1.out.then hH) b ok_b; obtain ⟨b0, b1, b2, b3, b4, b5, b6, b7, b8, b9⟩ := FB.out _ hH; have ha := rd1 ha H (by kernel_rfl) rfl; simp only [q3, q5, q6, q7] at ha; subst ha; clear H hU hS; go_wp2_with fail; (try refine hQ _ _ ?_); refine ⟨Step.refl _ _, ?_, trivial, nofun⟩; exact (rfl : _ = _)
    case o9_5_9 => cases rd0 ha; clear H hU hS; go_wp2_with fail; (try refine hQ _ _ ?_); refine ⟨Step.refl _ _, ?_, trivial, nofun⟩; exact (rfl : _ = _)
    case o9_5_10 => obtain ⟨f0, f4, f6, f7, f8, f9⟩ := FF.out _ (S1.out.then hH); obtain ⟨c_a, z_a⟩ := FR.out _ (S1.out.then hH) a ok_a; obtain ⟨c_b, z_b⟩ := FR.out _ (S1.out.then hH) b ok_b; obtain ⟨b0, b1, b2, b3, b4, b5, b6, b7, b8, b9⟩ := FB.out _ hH; have ha := rd1 ha H (by kernel_rfl) rfl; simp only [q3, q5, q6, q7] at ha; subst ha; clear H hU hS; go_wp2_with fail; (try refine hQ _ _ ?_); refine ⟨Step.refl _ _, ?_, trivial, nofun⟩; exact (rfl : _ = _)
    case o9_5_11 | o9_5_12 => cases rd0 ha; clear H hU hS; go_wp2_with fail; (try refine hQ _ _ ?_); refine ⟨Step.refl _ _, ?_, trivial, nofun⟩; exact (rfl : _ = _)
    case o9_5_13 => obtain ⟨f0, f4, f6, f7, f8, f9⟩ := FF.out _ (S1.out.then hH); obtain ⟨c_a, z_a⟩ := FR.out _ (S1.out.then hH) a ok_a; obtain ⟨c_b, z_b⟩ := FR.out _ (S1.out.then hH) b ok_b; obtain ⟨b0, b1, b2, b3, b4, b5, b6, b7, b8, b9⟩ := FB.out _ hH; have ha := rd1 ha H (by kernel_rfl) rfl; simp only [q3, q5, q6, q7] at ha; subst ha; clear H hU hS; go_wp2_with fail; (try refine hQ _ _ ?_); refine ⟨Step.refl _ _, ?_, trivial, nofun⟩; exact (rfl : _ = _)
    case o9_5_14 => obtain ⟨f0, f4, f6, f7, f8, f9⟩ := FF.out _ (S1.out.then hH); obtain ⟨c_a, z_a⟩ := FR.out _ (S1.out.then hH) a ok_a; obtain ⟨c_b, z_b⟩ := FR.out _ (S1.out.then hH) b ok_b; obtain ⟨b0, b1, b2, b3, b4, b5, b6, b7, b8, b9⟩ := FB.out _ hH; have ha := rd2 ha H (by kernel_rfl) (by kernel_rfl) rfl rfl; simp only [q3, q5, q6, q7] at ha; subst ha; clear H hU hS; go_wp2_with fail; (try refine hQ _ _ ?_); refine ⟨Step.refl _ _, ?_, trivial, nofun⟩; exact (rfl : _ = _)
    case o9_5_15 => obtain ⟨f0, f4, f6, f7, f8, f9⟩ := FF.out _ (S1.out.then hH); obtain ⟨c_a, z_a⟩ := FR.out _ (S1.out.then hH) a ok_a; obtain ⟨c_b, z_b⟩ := FR.out _ (S1.out.then hH) b ok_b; obtain ⟨b0, b1, b2, b3, b4, b5, b6, b7, b8, b9⟩ := FB.out _ hH; have ha := rd1 ha H (by kernel_rfl) rfl; simp only [q3, q5, q6, q7] at ha; subst ha; clear H hU hS; go_wp2_with fail; (try refine hQ _ _ ?_); refine ⟨Step.refl _ _, ?_, trivial, nofun⟩; exact (rfl : _ = _)
  intro xv w2 hH hS H hU hsz hF hN
  have h0 : xv 0 = _ := H 0 (by decide) (by kernel_rfl); have h1 : xv 1 = _ := H 1 (by decide) (by kernel_rfl); have h2 : xv 2 = _ := H 2 (by decide) (by kernel_rfl); have h3 : xv 3 = _ := H 3 (by decide) (by kernel_rfl); have h4 : xv 4 = _ := H 4 (by decide) (by kernel_rfl); have h5 : xv 5 = _ := H 5 (by decide) (by kernel_rfl); have h6 : xv 6 = _ := H 6 (by decide) (by kernel_rfl); have h7 : xv 7 = _ := H 7 (by decide) (by kernel_rfl); have h8 : xv 8 = _ := H 8 (by decide) (by kernel_rfl); have h9 : xv 9 = _ := H 9 (by decide) (by kernel_rfl); have h10 : xv 10 = _ := H 10 (by decide) (by kernel_rfl); have h11 : xv 11 = _ := H 11 (by decide) (by kernel_rfl); have h12 : xv 12 = _ := H 12 (by decide) (by kernel_rfl); have h13 : xv 13 = _ := H 13 (by decide) (by kernel_rfl); have h14 : xv 14 = _ := H 14 (by decide) (by kernel_rfl); have h15 : xv 15 = _ := H 15 (by decide) (by kernel_rfl)
  simp only [planStore36, q1, q2, q3, q5, q6, q7, q4, List.drop_succ_cons, List.drop_zero, h0, h1, h2, h3, h4, h5, h6, h7, h8, h9, h10, h11, h12, h13, h14, h15]
  clear H hF hN hS hU h0 h1 h2 h3 h4 h5 h6 h7 h8 h9 h10 h11 h12 h13 h14 h15
  have HH := Lib.hid hH
  clear hH
  go_wp2_with fail
  refine (ST.out _ HH.out).mono ?_
  rintro e w4 ⟨rfl, ch4, at4⟩
  have CH4 := Lib.hid ch4
  have AT4 := Lib.hid at4
  clear ch4 at4
  go_wp2_with fail
  go_end0
  exact ⟨rfl, own, ((Chg.calm own (S1.out.then HH.out)).trans CH4.out).g gx, AT4.out, (HF.out.still (S1.out.then HH.out)).keep CH4.out⟩
set_option maxHeartbeats 4000000 in
set_option maxRecDepth 100000 in
theorem mem_36no (hW : FWAt w0 w pw own fnv tops st c) (hF : FrAt w own pf pw gx vn vp vk vs vc vr vl regs slots lock key) (hl : w0.heap.size ≤ gx) {v : Value} {i : FIns} (hi : InsAt w0 v i) (ho : i.op = 36) (ok_a : ok1 regs i.a) (ok_b : ok1 regs i.b) (hc : c ≤ 100000000) (h64 : regs64 regs) (hs : i.size = 1 ∨ i.size = 4 ∨ i.size = 8) (hb : placeF (rg regs i.a) i.size = false) :
    Calls Try.prog 72 #[.pointer (some ⟨pf, 0, none⟩), v] w (Fell w0 w pw own fnv tops gx 4 0 st c) := by
  obtain ⟨va, vo, rfl, iargs, iouts⟩ := hi
  obtain ⟨op, dst, a, b, n, size, name, args, outs, to⟩ := i
  simp only at *
  subst ho
  obtain ⟨rcap, rfl⟩ := regs_slice hF (by unfold ok1 at ok_a; omega)
  have HW := Lib.hid hW
  have HF := Lib.hid hF
  have HL := Lib.hid hl
  have FF := Lib.hid (frame_facts hF)
  have FR := Lib.hid (reg_facts hF)
  unfold ok1 at ok_a ok_b
  clear hW hF hl
  obtain ⟨f0, f4, f6, f7, f8, f9⟩ := FF.out _ (Step.refl _ _)
  have hpf := block_lt f6
  simp only at hpf
  go_enter Try.func72, Try.ntmps72
  go_upto_region 9 with fail
  have kb := heap_alloc_new w (.cells #[.int .i64 36, .int .i64 dst, .int .i64 a, .int .i64 b, .int .u64 n, .int .i64 size, .string name, va, vo, .int .i64 to] 47 (0, 0))
  have S1 := Lib.hid (Step.alloc (fun _ => False) w (.cells #[.int .i64 36, .int .i64 dst, .int .i64 a, .int .i64 b, .int .u64 n, .int .i64 size, .string name, va, vo, .int .i64 to] 47 (0, 0)))
  clear f0 f4 f6 f7 f8 f9 hpf
  have HT := Lib.hid (show gx < w.heap.size ∧ own w.heap.size = 0 from ⟨HF.out.free.2.2.2, HW.out.fresh0⟩)
  generalize w.alloc (.cells #[.int .i64 36, .int .i64 dst, .int .i64 a, .int .i64 b, .int .u64 n, .int .i64 size, .string name, va, vo, .int .i64 to] 47 (0, 0)) = w1 at kb S1 ⊢
  generalize w.heap.size = tb at kb HT ⊢
  have KB := Lib.hid kb
  have FB := Lib.hid (box_facts kb)
  clear kb
  have HW1 := Lib.hid (HW.out.still S1.out)
  have ST := Lib.hid (show ∀ y, Step (fun _ => False) w1 y → _ from fun y hy => store_no (pw := pw) (rg regs a) size (rg regs b) hs (rg_64 h64 a).1 hb y)
  clear hs hb h64
  refine wp_region_each 16 planStore36 (fun _ _ => False) (Step (fun _ => False) w1) (fun _ => True) [Is ?v9_6_0, Is ?v9_6_1, Is ?v9_6_2, Is ?v9_6_3, Is ?v9_6_4, Is ?v9_6_5, Is ?v9_6_6, Is ?v9_6_7, Is ?v9_6_8, Is ?v9_6_9, Is ?v9_6_10, Is ?v9_6_11, Is ?v9_6_12, Is ?v9_6_13, Is ?v9_6_14, Is ?v9_6_15] [] (by kernel_rfl) (by kernel_rfl) (fun _ _ h => h.elim) ((Step.refl _ _).drew) (trivial) ?stab9_6 ?stabD9_6 ?obl9_6 ?fin9_6
  case stab9_6 => exact fun w w' h => ⟨fun k => k.trans h (fun _ x => x.elim), fun _ => trivial, ⟨fun _ k => k, fun _ k => k, fun _ k => k, fun _ k => k, fun _ k => k, fun _ k => k, fun _ k => k, fun _ k => k, fun _ k => k, fun _ k => k, fun _ k => k, fun _ k => k, fun _ k => k, fun _ k => k, fun _ k => k, fun _ k => k, trivial⟩, trivial⟩
  case stabD9_6 => exact fun _ _ h => h.elim
  case obl9_6 =>
    refine ⟨?o9_6_0, ?o9_6_1, ?o9_6_2, ?o9_6_3, ?o9_6_4, ?o9_6_5, ?o9_6_6, ?o9_6_7, ?o9_6_8, ?o9_6_9, ?o9_6_10, ?o9_6_11, ?o9_6_12, ?o9_6_13, ?o9_6_14, ?o9_6_15, trivial⟩
    all_goals intro xv wq hH hS H hU aq ha Q' hQ
    case o9_6_0 => cases rd0 ha; clear H hU hS; go_wp2_with fail; (try refine hQ _ _ ?_); refine ⟨Step.refl _ _, ?_, trivial, nofun⟩; exact (rfl : _ = _)
    case o9_6_1 | o9_6_2 => have ha := rd1 ha H (by kernel_rfl) rfl; simp only [q3, q5, q6, q7] at ha; subst ha; clear H hU hS; go_wp2_with fail; (try refine hQ _ _ ?_); refine ⟨Step.refl _ _, ?_, trivial, nofun⟩; exact (rfl : _ = _)
    case o9_6_3 => obtain ⟨f0, f4, f6, f7, f8, f9⟩ := FF.out _ (S1.out.then hH); obtain ⟨c_a, z_a⟩ := FR.out _ (S1.out.then hH) a ok_a; obtain ⟨c_b, z_b⟩ := FR.out _ (S1.out.then hH) b ok_b; obtain ⟨b0, b1, b2, b3, b4, b5, b6, b7, b8, b9⟩ := FB.out _ hH; have ha := rd1 ha H (by kernel_rfl) rfl; simp only [q3, q5, q6, q7] at ha; subst ha; clear H hU hS; go_wp2_with fail; (try refine hQ _ _ ?_); refine ⟨Step.refl _ _, ?_, trivial, nofun⟩; exact (rfl : _ = _)
    case o9_6_4 | o9_6_5 => cases rd0 ha; clear H hU hS; go_wp2_with fail; (try refine hQ _ _ ?_); refine ⟨Step.refl _ _, ?_, trivial, nofun⟩; exact (rfl : _ = _)
    case o9_6_6 => obtain ⟨f0, f4, f6, f7, f8, f9⟩ := FF.out _ (S1.out.then hH); obtain ⟨c_a, z_a⟩ := FR.out _ (S1.out.then hH) a ok_a; obtain ⟨c_b, z_b⟩ := FR.out _ (S1.out.then hH) b ok_b; obtain ⟨b0, b1, b2, b3, b4, b5, b6, b7, b8, b9⟩ := FB.out _ hH; have ha := rd1 ha H (by kernel_rfl) rfl; simp only [q3, q5, q6, q7] at ha; subst ha; clear H hU hS; go_wp2_with fail; (try refine hQ _ _ ?_); refine ⟨Step.refl _ _, ?_, trivial, nofun⟩; exact (rfl : _ = _)
    case o9_6_7 => obtain ⟨f0, f4, f6, f7, f8, f9⟩ := FF.out _ (S1.out.then hH); obtain ⟨c_a, z_a⟩ := FR.out _ (S1.out.then hH) a ok_a; obtain ⟨c_b, z_b⟩ := FR.out _ (S1.out.then hH) b ok_b; obtain ⟨b0, b1, b2, b3, b4, b5, b6, b7, b8, b9⟩ := FB.out _ hH; have ha := rd2 ha H (by kernel_rfl) (by kernel_rfl) rfl rfl; simp only [q3, q5, q6, q7] at ha; subst ha; clear H hU hS; go_wp2_with fail; (try refine hQ _ _ ?_); refine ⟨Step.refl _ _, ?_, trivial, nofun⟩; exact (rfl : _ = _)
    case o9_6_8 => obtain ⟨f0, f4, f6, f7, f8, f9⟩ := FF.out _ (S1.out.then hH); obtain ⟨c_a, z_a⟩ := FR.out _ (S1.out.then hH) a ok_a; obtain ⟨c_b, z_b⟩ := FR.out _ (S1.out.then hH) b ok_b; obtain ⟨b0, b1, b2, b3, b4, b5, b6, b7, b8, b9⟩ := FB.out _ hH; have ha := rd1 ha H (by kernel_rfl) rfl; simp only [q3, q5, q6, q7] at ha; subst ha; clear H hU hS; go_wp2_with fail; (try refine hQ _ _ ?_); refine ⟨Step.refl _ _, ?_, trivial, nofun⟩; exact (rfl : _ = _)
    case o9_6_9 => cases rd0 ha; clear H hU hS; go_wp2_with fail; (try refine hQ _ _ ?_); refine ⟨Step.refl _ _, ?_, trivial, nofun⟩; exact (rfl : _ = _)
    case o9_6_10 => obtain ⟨f0, f4, f6, f7, f8, f9⟩ := FF.out _ (S1.out.then hH); obtain ⟨c_a, z_a⟩ := FR.out _ (S1.out.then hH) a ok_a; obtain ⟨c_b, z_b⟩ := FR.out _ (S1.out.then hH) b ok_b; obtain ⟨b0, b1, b2, b3, b4, b5, b6, b7, b8, b9⟩ := FB.out _ hH; have ha := rd1 ha H (by kernel_rfl) rfl; simp only [q3, q5, q6, q7] at ha; subst ha; clear H hU hS; go_wp2_with fail; (try refine hQ _ _ ?_); refine ⟨Step.refl _ _, ?_, trivial, nofun⟩; exact (rfl : _ = _)
    case o9_6_11 | o9_6_12 => cases rd0 ha; clear H hU hS; go_wp2_with fail; (try refine hQ _ _ ?_); refine ⟨Step.refl _ _, ?_, trivial, nofun⟩; exact (rfl : _ = _)
    case o9_6_13 => obtain ⟨f0, f4, f6, f7, f8, f9⟩ := FF.out _ (S1.out.then hH); obtain ⟨c_a, z_a⟩ := FR.out _ (S1.out.then hH) a ok_a; obtain ⟨c_b, z_b⟩ := FR.out _ (S1.out.then hH) b ok_b; obtain ⟨b0, b1, b2, b3, b4, b5, b6, b7, b8, b9⟩ := FB.out _ hH; have ha := rd1 ha H (by kernel_rfl) rfl; simp only [q3, q5, q6, q7] at ha; subst ha; clear H hU hS; go_wp2_with fail; (try refine hQ _ _ ?_); refine ⟨Step.refl _ _, ?_, trivial, nofun⟩; exact (rfl : _ = _)
    case o9_6_14 => obtain ⟨f0, f4, f6, f7, f8, f9⟩ := FF.out _ (S1.out.then hH); obtain ⟨c_a, z_a⟩ := FR.out _ (S1.out.then hH) a ok_a; obtain ⟨c_b, z_b⟩ := FR.out _ (S1.out.then hH) b ok_b; obtain ⟨b0, b1, b2, b3, b4, b5, b6, b7, b8, b9⟩ := FB.out _ hH; have ha := rd2 ha H (by kernel_rfl) (by kernel_rfl) rfl rfl; simp only [q3, q5, q6, q7] at ha; subst ha; clear H hU hS; go_wp2_with fail; (try refine hQ _ _ ?_); refine ⟨Step.refl _ _, ?_, trivial, nofun⟩; exact (rfl : _ = _)
    case o9_6_15 => obtain ⟨f0, f4, f6, f7, f8, f9⟩ := FF.out _ (S1.out.then hH); obtain ⟨c_a, z_a⟩ := FR.out _ (S1.out.then hH) a ok_a; obtain ⟨c_b, z_b⟩ := FR.out _ (S1.out.then hH) b ok_b; obtain ⟨b0, b1, b2, b3, b4, b5, b6, b7, b8, b9⟩ := FB.out _ hH; have ha := rd1 ha H (by kernel_rfl) rfl; simp only [q3, q5, q6, q7] at ha; subst ha; clear H hU hS; go_wp2_with fail; (try refine hQ _ _ ?_); refine ⟨Step.refl _ _, ?_, trivial, nofun⟩; exact (rfl : _ = _)
  intro xv w2 hH hS H hU hsz hF hN
  have h0 : xv 0 = _ := H 0 (by decide) (by kernel_rfl); have h1 : xv 1 = _ := H 1 (by decide) (by kernel_rfl); have h2 : xv 2 = _ := H 2 (by decide) (by kernel_rfl); have h3 : xv 3 = _ := H 3 (by decide) (by kernel_rfl); have h4 : xv 4 = _ := H 4 (by decide) (by kernel_rfl); have h5 : xv 5 = _ := H 5 (by decide) (by kernel_rfl); have h6 : xv 6 = _ := H 6 (by decide) (by kernel_rfl); have h7 : xv 7 = _ := H 7 (by decide) (by kernel_rfl); have h8 : xv 8 = _ := H 8 (by decide) (by kernel_rfl); have h9 : xv 9 = _ := H 9 (by decide) (by kernel_rfl); have h10 : xv 10 = _ := H 10 (by decide) (by kernel_rfl); have h11 : xv 11 = _ := H 11 (by decide) (by kernel_rfl); have h12 : xv 12 = _ := H 12 (by decide) (by kernel_rfl); have h13 : xv 13 = _ := H 13 (by decide) (by kernel_rfl); have h14 : xv 14 = _ := H 14 (by decide) (by kernel_rfl); have h15 : xv 15 = _ := H 15 (by decide) (by kernel_rfl)
  simp only [planStore36, q1, q2, q3, q5, q6, q7, q4, List.drop_succ_cons, List.drop_zero, h0, h1, h2, h3, h4, h5, h6, h7, h8, h9, h10, h11, h12, h13, h14, h15]
  clear H hF hN hS hU h0 h1 h2 h3 h4 h5 h6 h7 h8 h9 h10 h11 h12 h13 h14 h15
  have HH := Lib.hid hH
  clear hH
  go_wp2_with fail
  refine (ST.out _ HH.out).mono ?_
  rintro e w4 ⟨rfl, rfl⟩
  exact ⟨rfl, rfl, own, (Chg.calm own (S1.out.then HH.out)).g gx, HW.out.still (S1.out.then HH.out)⟩
end
end Go.Proofs.Ytpmbakhnamlooaa
