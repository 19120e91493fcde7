/- Package fat: instructions of the shadow, and of new blocks. -/
import Derived.Test.YtpmbakhnamlooaaFatM
namespace Go.Proofs.Ytpmbakhnamlooaa
set_option linter.unusedVariables false
set_option linter.unusedSimpArgs false
open Go.RowKit

section
variable {w0 w w' w1 w2 : World} {pf pw gx : Nat} {own own' own'' : Nat → Nat} {vn vp vk vs vc vr vl : Value} {regs slots : List Int} {lock key : Int} {fnv : List UInt8 → Option Value} {tops : List UInt8 → Option Int} {st : FSt} {c : Nat}

theorem zero_four (w : World) : (zeroValue 151).run Try.prog w = .ok (fourV (0, 0, 0, 0)) w := by kernel_rfl
theorem fourV_get (o : Option (Int × Int × Int × Int)) : (o.map fourV).getD (fourV (0, 0, 0, 0)) = fourV (o.getD (0, 0, 0, 0)) := by cases o <;> rfl
def fourL (s : Int × Int × Int × Int) : List Int := [s.1, s.2.1, s.2.2.1, s.2.2.2]
def listF (l : List Int) : Int × Int × Int × Int := (l.getD 0 0, l.getD 1 0, l.getD 2 0, l.getD 3 0)
theorem shadow_facts (hW : FWAt w0 w pw own fnv tops st c) {a : Int} (ha : is64 a) : ∃ bs, ∀ y, Step (fun _ => False) w y → y.cell? ⟨pw, 3, none⟩ = some (.map (some bs)) ∧ (Instr.lookup 68 (.map (some bs)) (.int .u64 a) false).run Try.prog y = .ok (fourV ((st.shadow a).getD (0, 0, 0, 0))) y := by
  obtain ⟨bf, bt, bm, bs, bb, vl, vi, vo, P⟩ := hW
  refine ⟨bs, fun y hy => ⟨cell_known (hy.keeps P.struct) rfl, ?_⟩⟩
  have := (P.still hy).shadow.lookup (t := 68) (e := 151) Try.underlying38 Try.underlying68 (zero_four y) (u64_wf ha)
  rw [fourV_get] at this
  exact this
theorem ints_old {k : IntKind} {v : Value} {l : List Int} (h : IntsAt k w0 v l) (hg : w0.heap.size ≤ gx) : ∀ i, i < l.length → ∀ a cap, v = .slice (some a) l.length cap → a.block ≠ gx := by
  intro i hi a cap e
  obtain ⟨⟨p, c', e', _, _, hc⟩, _⟩ := h
  obtain ⟨b, hb, hcell⟩ := hc i hi
  rw [e'] at e
  subst hb
  cases e
  have hlt := block_lt hcell
  have : (a.add i).block = a.block := by unfold Addr.add; split <;> rfl
  omega
theorem nums_four {b T : Nat} {s0 s1 s2 s3 : Int} (k : w.heap[b]? = some (.cells #[.int .u64 s0, .int .u64 s1, .int .u64 s2, .int .u64 s3] T (0, 0))) (hne : b ≠ gx) : NumsAt w gx (.slice (some ⟨b, 0, none⟩) 4 4) (fourL (s0, s1, s2, s3)) := by
  refine ⟨_, 4, rfl, by simp [fourL, maxLen], fun i hi => ⟨_, rfl, hne, ?_⟩⟩
  have hi : i < 4 := hi
  rcases (by omega : i = 0 ∨ i = 1 ∨ i = 2 ∨ i = 3) with rfl | rfl | rfl | rfl
  · exact row_add k 0 _ rfl
  · exact row_add k 1 _ rfl
  · exact row_add k 2 _ rfl
  · exact row_add k 3 _ rfl
theorem FWAt.offReg (h : FWAt w0 w pw own fnv tops st c) (hg : own gx = 0) (hl : w0.heap.size ≤ gx) (s : Step (fun b => b = gx) w w') : FWAt w0 w' pw own fnv tops st c :=
  h.off (fun b _ hlt e => by
    by_cases hb : b = gx
    · rw [hb]; exact hl
    · exact absurd (s.block b hlt hb) e) (s.mono fun b _ e => by rw [e]; exact hg)
/-- blocks of one's own may change: what was there stays -/
theorem Chg.over (_ : FWAt w0 w pw own fnv tops st c) (s : Step (fun b => w.heap.size ≤ b) w w') : Chg own own w w' := ⟨s.mono fun x hx g => absurd g (by omega), fun _ _ => rfl⟩
theorem listF_fourL {l : List Int} (h : l.length = 4) : fourL (listF l) = l := by
  obtain ⟨a, b, c, d, rfl⟩ := four_of l h
  rfl

theorem array_at (g cap : Nat) (w : World) : (Instr.arrayAt 151 (.slice (some ⟨g, 0, none⟩) 4 cap)).run Try.prog w = .ok (.pointer (some ⟨g, 0, none⟩)) w := by kernel_rfl
/-- a slice of four numbers -/
def IsRow4 (v0 v1 v2 v3 : Int) (y : Value) (w : World) : Prop := ∃ b cap, y = .slice (some ⟨b, 0, none⟩) 4 cap ∧ w.cell? ⟨b, 0, none⟩ = some (.int .u64 v0) ∧ w.cell? ⟨b, 1, none⟩ = some (.int .u64 v1) ∧ w.cell? ⟨b, 2, none⟩ = some (.int .u64 v2) ∧ w.cell? ⟨b, 3, none⟩ = some (.int .u64 v3)
theorem IsRow4.stable {v0 v1 v2 v3 : Int} {y : Value} (h : Step (fun _ => False) w w') (k : IsRow4 v0 v1 v2 v3 y w) : IsRow4 v0 v1 v2 v3 y w' := by
  obtain ⟨b, cap, e, k0, k1, k2, k3⟩ := k
  exact ⟨b, cap, e, (h.cell (block_lt k0) fun x => x).trans k0, (h.cell (block_lt k1) fun x => x).trans k1, (h.cell (block_lt k2) fun x => x).trans k2, (h.cell (block_lt k3) fun x => x).trans k3⟩
theorem IsRow4.of {F : Nat → Prop} {v0 v1 v2 v3 : Int} {vo : Value} (h : RowAt w F 38 1 vo 4 ([v0, v1, v2, v3].map (Value.int .u64))) : IsRow4 v0 v1 v2 v3 vo w := by
  obtain ⟨g, cap, cur, rfl, _, hg, _, _, _, htk⟩ := h.some (by omega)
  exact ⟨g, cap, rfl, row_cell hg htk rfl, row_cell hg htk rfl, row_cell hg htk rfl, row_cell hg htk rfl⟩
/-- a pointer to an array of four numbers -/
def IsFour (v0 v1 v2 v3 : Int) (y : Value) (w : World) : Prop := ∃ b, y = .pointer (some ⟨b, 0, none⟩) ∧ w.cell? ⟨b, 0, none⟩ = some (.int .u64 v0) ∧ w.cell? ⟨b, 1, none⟩ = some (.int .u64 v1) ∧ w.cell? ⟨b, 2, none⟩ = some (.int .u64 v2) ∧ w.cell? ⟨b, 3, none⟩ = some (.int .u64 v3)
theorem IsFour.stable {v0 v1 v2 v3 : Int} {y : Value} (h : Step (fun _ => False) w w') (k : IsFour v0 v1 v2 v3 y w) : IsFour v0 v1 v2 v3 y w' := by
  obtain ⟨b, e, k0, k1, k2, k3⟩ := k
  exact ⟨b, e, (h.cell (block_lt k0) fun x => x).trans k0, (h.cell (block_lt k1) fun x => x).trans k1, (h.cell (block_lt k2) fun x => x).trans k2, (h.cell (block_lt k3) fun x => x).trans k3⟩
def planRead11 : Plan where
  T := [[], [0], [0, 1], [0, 1, 2], [0, 1, 2, 3], [0, 1, 2, 3, 4], [0, 1, 2, 3, 4, 5], [], [], [8], [7, 8, 9], [7, 8, 9, 10], [0, 1, 2, 3, 4, 5, 6, 7, 8, 9, 10, 11], [], [0, 1, 2, 3, 4, 5, 6, 7, 8, 9, 10, 11, 12, 13]]
  rd := [[], [(0, some 74)], [(1, some 75)], [(2, some 76)], [(3, some 77)], [(4, some 78)], [(5, some 79)], [], [], [(8, some 82)], [(7, some 81), (9, some 83)], [(10, some 84)], [(6, some 80), (11, some 85)], []]
  all := [(13, some 5), (12, some 86), (11, some 85), (10, some 84), (9, some 83), (8, some 82), (7, some 81), (6, some 80), (5, some 79), (4, some 78), (3, some 77), (2, some 76), (1, some 75), (0, some 74)]
  calm := [true, true, true, true, true, true, true, true, true, true, true, true, true, true]
  hard := []
  fresh := [false, false, false, false, false, false, false, false, false, false, false, false, false, true]

def planRead12 : Plan where
  T := [[], [], [1], [], [0, 1, 2, 3]]
  rd := [[], [], [(1, some 88)], []]
  all := [(3, some 90), (2, some 89), (1, some 88), (0, some 87)]
  calm := [true, true, true, true]
  hard := []
  fresh := [false, false, false, false]

def planWrite38 : Plan where
  T := [[], [0], [0, 1], [0, 1, 2], [0, 1, 2, 3], [0, 1, 2, 3, 4], [0, 1, 2, 3, 4, 5], [], [], [8], [7, 8, 9], [7, 8, 9, 10], [], [], [13], [12, 13, 14], [12, 13, 14, 15], [12, 13, 14, 15, 16], [0, 1, 2, 3, 4, 5, 6, 7, 8, 9, 10, 11, 12, 13, 14, 15, 16, 17]]
  rd := [[], [(0, some 94)], [(1, some 95)], [(2, some 96)], [(3, some 97)], [(4, some 98)], [(5, some 99)], [], [], [(8, some 102)], [(7, some 101), (9, some 103)], [(10, some 104)], [], [], [(13, some 107)], [(12, some 106), (14, some 108)], [(15, some 109)], [(16, some 110)]]
  all := [(17, some 111), (16, some 110), (15, some 109), (14, some 108), (13, some 107), (12, some 106), (11, some 105), (10, some 104), (9, some 103), (8, some 102), (7, some 101), (6, some 100), (5, some 99), (4, some 98), (3, some 97), (2, some 96), (1, some 95), (0, some 94)]
  calm := [true, true, true, true, true, true, true, true, true, true, true, true, true, true, true, true, true, true]
  hard := []
  fresh := [false, false, false, false, false, false, false, false, false, false, false, false, false, false, false, false, false, false]

set_option maxHeartbeats 4000000 in
set_option maxRecDepth 100000 in
theorem mem_37 (hW : FWAt w0 w pw own fnv tops st c) (hF : FrAt w own pf pw gx vn vp vk vs vc vr vl regs slots lock key) (hl : w0.heap.size ≤ gx) {v : Value} {i : FIns} (hi : InsAt w0 v i) (ho : i.op = 37) (ok_a : ok1 regs i.a) (h64 : regs64 regs) (hl4 : i.outs.length = 4) (hr : ∀ r ∈ i.outs, ok1 regs r) :
    Calls Try.prog 72 #[.pointer (some ⟨pf, 0, none⟩), v] w (Went w0 w pw own fnv tops pf gx vn vp vk vs vc vr vl slots lock key st c (writeAcc regs i.outs (fourL ((st.shadow (rg regs i.a)).getD (0, 0, 0, 0))) i.outs.length)) := by
  obtain ⟨va, vo, rfl, iargs, iouts⟩ := hi
  obtain ⟨op, dst, a, b, n, size, name, args, outs, to⟩ := i
  simp only at *
  subst ho
  obtain ⟨rcap, rfl⟩ := regs_slice hF (by unfold ok1 at ok_a; omega)
  have HW := Lib.hid hW
  have HF := Lib.hid hF
  have HL := Lib.hid hl
  have FF := Lib.hid (frame_facts hF)
  have FR := Lib.hid (reg_facts hF)
  unfold ok1 at ok_a
  clear hW hF hl
  obtain ⟨f0, f4, f6, f7, f8, f9⟩ := FF.out _ (Step.refl _ _)
  have hpf := block_lt f6
  simp only at hpf
  go_enter Try.func72, Try.ntmps72
  go_upto_region 11 with fail
  have kb := heap_alloc_new w (.cells #[.int .i64 37, .int .i64 dst, .int .i64 a, .int .i64 b, .int .u64 n, .int .i64 size, .string name, va, vo, .int .i64 to] 47 (0, 0))
  have S1 := Lib.hid (Step.alloc (fun _ => False) w (.cells #[.int .i64 37, .int .i64 dst, .int .i64 a, .int .i64 b, .int .u64 n, .int .i64 size, .string name, va, vo, .int .i64 to] 47 (0, 0)))
  clear f0 f4 f6 f7 f8 f9 hpf
  have HT := Lib.hid (show gx < w.heap.size ∧ own w.heap.size = 0 from ⟨HF.out.free.2.2.2, HW.out.fresh0⟩)
  generalize w.alloc (.cells #[.int .i64 37, .int .i64 dst, .int .i64 a, .int .i64 b, .int .u64 n, .int .i64 size, .string name, va, vo, .int .i64 to] 47 (0, 0)) = w1 at kb S1 ⊢
  generalize w.heap.size = tb at kb HT ⊢
  have KB := Lib.hid kb
  have FB := Lib.hid (box_facts kb)
  clear kb
  have HW1 := Lib.hid (HW.out.still S1.out)
  have HF1 := Lib.hid (HF.out.still S1.out)
  obtain ⟨bs, sf⟩ := shadow_facts HW1.out (rg_64 h64 a)
  obtain ⟨s0, s1, s2, s3, es⟩ : ∃ s0 s1 s2 s3, (st.shadow (rg regs a)).getD (0, 0, 0, 0) = (s0, s1, s2, s3) := ⟨_, _, _, _, rfl⟩
  rw [es] at sf
  have ES := Lib.hid es
  simp only [fourV] at sf
  have SF := Lib.hid sf
  clear es
  have HR := Lib.hid hr
  have H4 := Lib.hid hl4
  have HO := Lib.hid iouts
  clear sf hr hl4 h64 iargs iouts
  refine wp_region_each 14 planRead11 (fun _ _ => False) (Step (fun _ => False) w1) (fun _ => True) [Is ?v11_1_0, Is ?v11_1_1, Is ?v11_1_2, Is ?v11_1_3, Is ?v11_1_4, Is ?v11_1_5, Is ?v11_1_6, Is ?v11_1_7, Is ?v11_1_8, Is ?v11_1_9, Is ?v11_1_10, Is ?v11_1_11, Is ?v11_1_12, IsNew w1 (.cells #[.int .u64 0, .int .u64 0, .int .u64 0, .int .u64 0] 151 (0, 0))] [] (by kernel_rfl) (by kernel_rfl) (fun _ _ h => h.elim) ((Step.refl _ _).drew) (trivial) ?stab11_1 ?stabD11_1 ?obl11_1 ?fin11_1
  case stab11_1 => exact fun w w' h => ⟨fun k => k.trans h (fun _ x => x.elim), fun _ => trivial, ⟨fun _ k => k, fun _ k => k, fun _ k => k, fun _ k => k, fun _ k => k, fun _ k => k, fun _ k => k, fun _ k => k, fun _ k => k, fun _ k => k, fun _ k => k, fun _ k => k, fun _ k => k, fun _ k => IsNew.stable h k, trivial⟩, trivial⟩
  case stabD11_1 => exact fun _ _ h => h.elim
  case obl11_1 =>
    refine ⟨?o11_1_0, ?o11_1_1, ?o11_1_2, ?o11_1_3, ?o11_1_4, ?o11_1_5, ?o11_1_6, ?o11_1_7, ?o11_1_8, ?o11_1_9, ?o11_1_10, ?o11_1_11, ?o11_1_12, ?o11_1_13, trivial⟩
    all_goals intro xv wq hH hS H hU aq ha Q' hQ
    case o11_1_0 => cases rd0 ha; clear H hU hS; go_wp2_with fail; (try refine hQ _ _ ?_); refine ⟨Step.refl _ _, ?_, trivial, nofun⟩; exact (rfl : _ = _)
    case o11_1_1 | o11_1_2 => have ha := rd1 ha H (by kernel_rfl) rfl; simp only [q3, q5, q6, q7] at ha; subst ha; clear H hU hS; go_wp2_with fail; (try refine hQ _ _ ?_); refine ⟨Step.refl _ _, ?_, trivial, nofun⟩; exact (rfl : _ = _)
    case o11_1_3 => obtain ⟨f0, f4, f6, f7, f8, f9⟩ := FF.out _ (S1.out.then hH); obtain ⟨c_a, z_a⟩ := FR.out _ (S1.out.then hH) a ok_a; obtain ⟨b0, b1, b2, b3, b4, b5, b6, b7, b8, b9⟩ := FB.out _ hH; obtain ⟨m3, lk⟩ := SF.out _ hH; have ha := rd1 ha H (by kernel_rfl) rfl; simp only [q3, q5, q6, q7] at ha; subst ha; clear H hU hS; go_wp2_with fail; (try refine hQ _ _ ?_); refine ⟨Step.refl _ _, ?_, trivial, nofun⟩; exact (rfl : _ = _)
    case o11_1_4 | o11_1_5 => have ha := rd1 ha H (by kernel_rfl) rfl; simp only [q3, q5, q6, q7] at ha; subst ha; clear H hU hS; go_wp2_with fail; (try refine hQ _ _ ?_); refine ⟨Step.refl _ _, ?_, trivial, nofun⟩; exact (rfl : _ = _)
    case o11_1_6 => obtain ⟨f0, f4, f6, f7, f8, f9⟩ := FF.out _ (S1.out.then hH); obtain ⟨c_a, z_a⟩ := FR.out _ (S1.out.then hH) a ok_a; obtain ⟨b0, b1, b2, b3, b4, b5, b6, b7, b8, b9⟩ := FB.out _ hH; obtain ⟨m3, lk⟩ := SF.out _ hH; have ha := rd1 ha H (by kernel_rfl) rfl; simp only [q3, q5, q6, q7] at ha; subst ha; clear H hU hS; go_wp2_with fail; (try refine hQ _ _ ?_); refine ⟨Step.refl _ _, ?_, trivial, nofun⟩; exact (rfl : _ = _)
    case o11_1_7 | o11_1_8 => cases rd0 ha; clear H hU hS; go_wp2_with fail; (try refine hQ _ _ ?_); refine ⟨Step.refl _ _, ?_, trivial, nofun⟩; exact (rfl : _ = _)
    case o11_1_9 => obtain ⟨f0, f4, f6, f7, f8, f9⟩ := FF.out _ (S1.out.then hH); obtain ⟨c_a, z_a⟩ := FR.out _ (S1.out.then hH) a ok_a; obtain ⟨b0, b1, b2, b3, b4, b5, b6, b7, b8, b9⟩ := FB.out _ hH; obtain ⟨m3, lk⟩ := SF.out _ hH; have ha := rd1 ha H (by kernel_rfl) rfl; simp only [q3, q5, q6, q7] at ha; subst ha; clear H hU hS; go_wp2_with fail; (try refine hQ _ _ ?_); refine ⟨Step.refl _ _, ?_, trivial, nofun⟩; exact (rfl : _ = _)
    case o11_1_10 => obtain ⟨f0, f4, f6, f7, f8, f9⟩ := FF.out _ (S1.out.then hH); obtain ⟨c_a, z_a⟩ := FR.out _ (S1.out.then hH) a ok_a; obtain ⟨b0, b1, b2, b3, b4, b5, b6, b7, b8, b9⟩ := FB.out _ hH; obtain ⟨m3, lk⟩ := SF.out _ hH; have ha := rd2 ha H (by kernel_rfl) (by kernel_rfl) rfl rfl; simp only [q3, q5, q6, q7] at ha; subst ha; clear H hU hS; go_wp2_with fail; (try refine hQ _ _ ?_); refine ⟨Step.refl _ _, ?_, trivial, nofun⟩; exact (rfl : _ = _)
    case o11_1_11 => obtain ⟨f0, f4, f6, f7, f8, f9⟩ := FF.out _ (S1.out.then hH); obtain ⟨c_a, z_a⟩ := FR.out _ (S1.out.then hH) a ok_a; obtain ⟨b0, b1, b2, b3, b4, b5, b6, b7, b8, b9⟩ := FB.out _ hH; obtain ⟨m3, lk⟩ := SF.out _ hH; have ha := rd1 ha H (by kernel_rfl) rfl; simp only [q3, q5, q6, q7] at ha; subst ha; clear H hU hS; go_wp2_with fail; (try refine hQ _ _ ?_); refine ⟨Step.refl _ _, ?_, trivial, nofun⟩; exact (rfl : _ = _)
    case o11_1_12 => obtain ⟨f0, f4, f6, f7, f8, f9⟩ := FF.out _ (S1.out.then hH); obtain ⟨c_a, z_a⟩ := FR.out _ (S1.out.then hH) a ok_a; obtain ⟨b0, b1, b2, b3, b4, b5, b6, b7, b8, b9⟩ := FB.out _ hH; obtain ⟨m3, lk⟩ := SF.out _ hH; have ha := rd2 ha H (by kernel_rfl) (by kernel_rfl) rfl rfl; simp only [q3, q5, q6, q7] at ha; subst ha; clear H hU hS; go_wp2_with fail; (try refine hQ _ _ ?_); refine ⟨Step.refl _ _, ?_, trivial, nofun⟩; exact (rfl : _ = _)
    case o11_1_13 => obtain ⟨f0, f4, f6, f7, f8, f9⟩ := FF.out _ (S1.out.then hH); obtain ⟨c_a, z_a⟩ := FR.out _ (S1.out.then hH) a ok_a; obtain ⟨b0, b1, b2, b3, b4, b5, b6, b7, b8, b9⟩ := FB.out _ hH; obtain ⟨m3, lk⟩ := SF.out _ hH; change aq = puts _ xv [] at ha; simp only [q1] at ha; subst ha; clear H ; clear hU hS; go_wp2_with fail; (try refine hQ _ _ ?_); refine ⟨Step.alloc _ _ _, ?_, trivial, fun _ => ⟨_, rfl, Nat.le_refl _, by simp⟩⟩; exact ⟨_, rfl, hH.size, heap_alloc_new _ _⟩
  intro xv w2 hH hS H hU hsz hF hN
  have h0 : xv 0 = _ := H 0 (by decide) (by kernel_rfl); have h1 : xv 1 = _ := H 1 (by decide) (by kernel_rfl); have h2 : xv 2 = _ := H 2 (by decide) (by kernel_rfl); have h3 : xv 3 = _ := H 3 (by decide) (by kernel_rfl); have h4 : xv 4 = _ := H 4 (by decide) (by kernel_rfl); have h5 : xv 5 = _ := H 5 (by decide) (by kernel_rfl); have h6 : xv 6 = _ := H 6 (by decide) (by kernel_rfl); have h7 : xv 7 = _ := H 7 (by decide) (by kernel_rfl); have h8 : xv 8 = _ := H 8 (by decide) (by kernel_rfl); have h9 : xv 9 = _ := H 9 (by decide) (by kernel_rfl); have h10 : xv 10 = _ := H 10 (by decide) (by kernel_rfl); have h11 : xv 11 = _ := H 11 (by decide) (by kernel_rfl); have h12 : xv 12 = _ := H 12 (by decide) (by kernel_rfl); obtain ⟨b13, h13, l13, k13⟩ : (IsNew w1 (.cells #[.int .u64 0, .int .u64 0, .int .u64 0, .int .u64 0] 151 (0, 0))) (xv 13) w2 := H 13 (by decide) (by kernel_rfl)
  simp only [planRead11, q1, q2, q3, q5, q6, q7, q4, List.drop_succ_cons, List.drop_zero, h0, h1, h2, h3, h4, h5, h6, h7, h8, h9, h10, h11, h12, h13]
  clear H hF hN hS hU h0 h1 h2 h3 h4 h5 h6 h7 h8 h9 h10 h11 h12 h13
  obtain ⟨x0, x1, x2, x3, z0, z1, z2, z3⟩ := cells_known4 k13
  have k3 := set4_known k13 (.int .u64 s0) (.int .u64 s1) (.int .u64 s2) (.int .u64 s3)
  have st3 := set4_step (F := fun b => w1.heap.size ≤ b) (hH.mono fun _ _ x => x.elim) (.inl l13) (.int .u64 s0) (.int .u64 s1) (.int .u64 s2) (.int .u64 s3)
  have K3 := Lib.hid k3
  have S3 := Lib.hid st3
  clear k13 k3 st3 hH
  go_upto_region 12 with fail
  clear x0 x1 x2 x3 z0 z1 z2 z3
  generalize (((w2.setCell ⟨b13, 0, none⟩ (.int .u64 s0)).setCell ⟨b13, 1, none⟩ (.int .u64 s1)).setCell ⟨b13, 2, none⟩ (.int .u64 s2)).setCell ⟨b13, 3, none⟩ (.int .u64 s3) = w3 at K3 S3 ⊢
  have CH3 := Lib.hid (Chg.over HW1.out S3.out)
  have HW3 := Lib.hid (HW1.out.over S3.out)
  have HF3 := Lib.hid (HF1.out.keep CH3.out)
  have FF3 := Lib.hid (frame_facts HF3.out)
  have KB3 := Lib.hid (box_facts ((S3.out.block tb (lt_known KB.out) (Nat.not_le.2 (lt_known KB.out))).trans KB.out))
  have HNE := Lib.hid (show b13 ≠ gx from fun e => by have h1 := HF1.out.free.2.2.2; omega)
  refine wp_region_each 4 planRead12 (fun _ _ => False) (Step (fun _ => False) w3) (fun _ => True) [Is ?v12_2_0, Is ?v12_2_1, Is ?v12_2_2, Is ?v12_2_3] [] (by kernel_rfl) (by kernel_rfl) (fun _ _ h => h.elim) ((Step.refl _ _).drew) (trivial) ?stab12_2 ?stabD12_2 ?obl12_2 ?fin12_2
  case stab12_2 => exact fun w w' h => ⟨fun k => k.trans h (fun _ x => x.elim), fun _ => trivial, ⟨fun _ k => k, fun _ k => k, fun _ k => k, fun _ k => k, trivial⟩, trivial⟩
  case stabD12_2 => exact fun _ _ h => h.elim
  case obl12_2 =>
    refine ⟨?o12_2_0, ?o12_2_1, ?o12_2_2, ?o12_2_3, trivial⟩
    all_goals intro xv wq hH hS H hU aq ha Q' hQ
    case o12_2_0 | o12_2_1 => cases rd0 ha; clear H hU hS; go_wp2_with fail; (try refine hQ _ _ ?_); refine ⟨Step.refl _ _, ?_, trivial, nofun⟩; exact (rfl : _ = _)
    case o12_2_2 => obtain ⟨f0, f4, f6, f7, f8, f9⟩ := FF3.out _ hH; obtain ⟨b0, b1, b2, b3, b4, b5, b6, b7, b8, b9⟩ := KB3.out _ hH; have ha := rd1 ha H (by kernel_rfl) rfl; simp only [q3, q5, q6, q7] at ha; subst ha; clear H hU hS; go_wp2_with fail; (try refine hQ _ _ ?_); refine ⟨Step.refl _ _, ?_, trivial, nofun⟩; exact (rfl : _ = _)
    case o12_2_3 => obtain ⟨f0, f4, f6, f7, f8, f9⟩ := FF3.out _ hH; obtain ⟨b0, b1, b2, b3, b4, b5, b6, b7, b8, b9⟩ := KB3.out _ hH; cases rd0 ha; clear H hU hS; go_wp2_with fail; (try refine hQ _ _ ?_); refine ⟨Step.refl _ _, ?_, trivial, nofun⟩; exact (rfl : _ = _)
  intro xv w4 hH hS H hU hsz hF hN
  have h0 : xv 0 = _ := H 0 (by decide) (by kernel_rfl); have h1 : xv 1 = _ := H 1 (by decide) (by kernel_rfl); have h2 : xv 2 = _ := H 2 (by decide) (by kernel_rfl); have h3 : xv 3 = _ := H 3 (by decide) (by kernel_rfl)
  simp only [planRead12, q1, q2, q3, q5, q6, q7, q4, List.drop_succ_cons, List.drop_zero, h0, h1, h2, h3]
  clear H hF hN hS hU h0 h1 h2 h3
  have WR := Lib.hid (write_any (HF3.out.still hH) (HO.out.step (HW3.out.still hH).since fun b h => h) (ints_old HO.out HL.out) HR.out (nums_four (hH.keeps K3.out) HNE.out) (by have := H4.out; simp only [fourL, List.length_cons, List.length_nil]; omega) (by have := H4.out; omega))
  have HH := Lib.hid hH
  clear hH
  go_wp2_with fail
  refine WR.out.mono ?_
  rintro e w5 ⟨rfl, fr5, s5⟩
  have FR5 := Lib.hid fr5
  have S5 := Lib.hid s5
  clear fr5 s5
  go_wp2_with fail
  go_end0
  refine ⟨rfl, own, ((((Chg.calm own S1.out).trans CH3.out).trans (Chg.calm own HH.out)).g gx).trans ⟨S5.out.mono fun _ _ x => .inr x, fun _ _ => rfl⟩, (HW3.out.still HH.out).offReg HF1.out.free.2.1 HL.out S5.out, by rw [ES.out]; exact FR5.out⟩
set_option maxHeartbeats 4000000 in
set_option maxRecDepth 100000 in
theorem mem_38 (hW : FWAt w0 w pw own fnv tops st c) (hF : FrAt w own pf pw gx vn vp vk vs vc vr vl regs slots lock key) (hl : w0.heap.size ≤ gx) {v : Value} {i : FIns} (hi : InsAt w0 v i) (ho : i.op = 38) (ok_a : ok1 regs i.a) (hc : c ≤ 100000000) (h64 : regs64 regs) (hl4 : i.args.length = 4) (hr : ∀ r ∈ i.args, ok1 regs r) :
    Calls Try.prog 72 #[.pointer (some ⟨pf, 0, none⟩), v] w (Went w0 w pw own fnv tops pf gx vn vp vk vs vc vr vl slots lock key { st with shadow := fun x => if x = rg regs i.a then some (listF (pick regs i.args)) else st.shadow x } (c + 1) (regs)) := by
  obtain ⟨va, vo, rfl, iargs, iouts⟩ := hi
  obtain ⟨op, dst, a, b, n, size, name, args, outs, to⟩ := i
  simp only at *
  subst ho
  obtain ⟨rcap, rfl⟩ := regs_slice hF (by unfold ok1 at ok_a; omega)
  have HW := Lib.hid hW
  have HF := Lib.hid hF
  have HL := Lib.hid hl
  have FF := Lib.hid (frame_facts hF)
  have FR := Lib.hid (reg_facts hF)
  unfold ok1 at ok_a
  clear hW hF hl
  obtain ⟨f0, f4, f6, f7, f8, f9⟩ := FF.out _ (Step.refl _ _)
  have hpf := block_lt f6
  simp only at hpf
  go_enter Try.func72, Try.ntmps72
  go_upto_region 14 with fail
  have kb := heap_alloc_new w (.cells #[.int .i64 38, .int .i64 dst, .int .i64 a, .int .i64 b, .int .u64 n, .int .i64 size, .string name, va, vo, .int .i64 to] 47 (0, 0))
  have S1 := Lib.hid (Step.alloc (fun _ => False) w (.cells #[.int .i64 38, .int .i64 dst, .int .i64 a, .int .i64 b, .int .u64 n, .int .i64 size, .string name, va, vo, .int .i64 to] 47 (0, 0)))
  clear f0 f4 f6 f7 f8 f9 hpf
  have HT := Lib.hid (show gx < w.heap.size ∧ own w.heap.size = 0 from ⟨HF.out.free.2.2.2, HW.out.fresh0⟩)
  generalize w.alloc (.cells #[.int .i64 38, .int .i64 dst, .int .i64 a, .int .i64 b, .int .u64 n, .int .i64 size, .string name, va, vo, .int .i64 to] 47 (0, 0)) = w1 at kb S1 ⊢
  generalize w.heap.size = tb at kb HT ⊢
  have KB := Lib.hid kb
  have FB := Lib.hid (box_facts kb)
  clear kb
  have HW1 := Lib.hid (HW.out.still S1.out)
  have HF1 := Lib.hid (HF.out.still S1.out)
  obtain ⟨bf, bt, bm, bs, bb, ul, ui, uo, P⟩ := HW1.out
  have SF := Lib.hid (show ∀ y, Step (fun _ => False) w1 y → y.cell? ⟨pw, 3, none⟩ = some (.map (some bs)) from fun y hy => cell_known (hy.keeps P.struct) rfl)
  have HP := Lib.hid P
  have HI := Lib.hid iargs
  have VAL := Lib.hid (show ∀ y, Step (fun _ => False) w1 y → _ from fun y hy => values_any (HF1.out.still hy) (HI.out.step (HW1.out.still hy).since fun b h => h) hr (by omega))
  have A64 := Lib.hid (rg_64 h64 a)
  have PL := Lib.hid ((pick_length regs args).trans hl4)
  obtain ⟨v0, v1, v2, v3, hpk⟩ := four_of _ PL.out
  rw [hpk] at VAL
  rw [hl4] at VAL
  have PK := Lib.hid hpk
  clear hpk P hr hl4 h64 iargs iouts
  refine wp_region_each 18 planWrite38 (fun _ _ => False) (Step (fun _ => False) w1) (fun _ => True) [Is ?v14_3_0, Is ?v14_3_1, Is ?v14_3_2, Is ?v14_3_3, Is ?v14_3_4, Is ?v14_3_5, Is ?v14_3_6, Is ?v14_3_7, Is ?v14_3_8, Is ?v14_3_9, Is ?v14_3_10, Is ?v14_3_11, Is ?v14_3_12, Is ?v14_3_13, Is ?v14_3_14, IsRow4 v0 v1 v2 v3, IsFour v0 v1 v2 v3, Is ?v14_3_17] [] (by kernel_rfl) (by kernel_rfl) (fun _ _ h => h.elim) ((Step.refl _ _).drew) (trivial) ?stab14_3 ?stabD14_3 ?obl14_3 ?fin14_3
  case stab14_3 => exact fun w w' h => ⟨fun k => k.trans h (fun _ x => x.elim), fun _ => trivial, ⟨fun _ k => k, fun _ k => k, fun _ k => k, fun _ k => k, fun _ k => k, fun _ k => k, fun _ k => k, fun _ k => k, fun _ k => k, fun _ k => k, fun _ k => k, fun _ k => k, fun _ k => k, fun _ k => k, fun _ k => k, fun _ k => IsRow4.stable h k, fun _ k => IsFour.stable h k, fun _ k => k, trivial⟩, trivial⟩
  case stabD14_3 => exact fun _ _ h => h.elim
  case obl14_3 =>
    refine ⟨?o14_3_0, ?o14_3_1, ?o14_3_2, ?o14_3_3, ?o14_3_4, ?o14_3_5, ?o14_3_6, ?o14_3_7, ?o14_3_8, ?o14_3_9, ?o14_3_10, ?o14_3_11, ?o14_3_12, ?o14_3_13, ?o14_3_14, ?o14_3_15, ?o14_3_16, ?o14_3_17, trivial⟩
    all_goals intro xv wq hH hS H hU aq ha Q' hQ
    case o14_3_0 => cases rd0 ha; clear H hU hS; go_wp2_with fail; (try refine hQ _ _ ?_); refine ⟨Step.refl _ _, ?_, trivial, nofun⟩; exact (rfl : _ = _)
    case o14_3_1 | o14_3_2 => have ha := rd1 ha H (by kernel_rfl) rfl; simp only [q3, q5, q6, q7] at ha; subst ha; clear H hU hS; go_wp2_with fail; (try refine hQ _ _ ?_); refine ⟨Step.refl _ _, ?_, trivial, nofun⟩; exact (rfl : _ = _)
    case o14_3_3 => obtain ⟨f0, f4, f6, f7, f8, f9⟩ := FF.out _ (S1.out.then hH); obtain ⟨c_a, z_a⟩ := FR.out _ (S1.out.then hH) a ok_a; obtain ⟨b0, b1, b2, b3, b4, b5, b6, b7, b8, b9⟩ := FB.out _ hH; have m3 := SF.out _ hH; have ha := rd1 ha H (by kernel_rfl) rfl; simp only [q3, q5, q6, q7] at ha; subst ha; clear H hU hS; go_wp2_with fail; (try refine hQ _ _ ?_); refine ⟨Step.refl _ _, ?_, trivial, nofun⟩; exact (rfl : _ = _)
    case o14_3_4 | o14_3_5 => have ha := rd1 ha H (by kernel_rfl) rfl; simp only [q3, q5, q6, q7] at ha; subst ha; clear H hU hS; go_wp2_with fail; (try refine hQ _ _ ?_); refine ⟨Step.refl _ _, ?_, trivial, nofun⟩; exact (rfl : _ = _)
    case o14_3_6 => obtain ⟨f0, f4, f6, f7, f8, f9⟩ := FF.out _ (S1.out.then hH); obtain ⟨c_a, z_a⟩ := FR.out _ (S1.out.then hH) a ok_a; obtain ⟨b0, b1, b2, b3, b4, b5, b6, b7, b8, b9⟩ := FB.out _ hH; have m3 := SF.out _ hH; have ha := rd1 ha H (by kernel_rfl) rfl; simp only [q3, q5, q6, q7] at ha; subst ha; clear H hU hS; go_wp2_with fail; (try refine hQ _ _ ?_); refine ⟨Step.refl _ _, ?_, trivial, nofun⟩; exact (rfl : _ = _)
    case o14_3_7 | o14_3_8 => cases rd0 ha; clear H hU hS; go_wp2_with fail; (try refine hQ _ _ ?_); refine ⟨Step.refl _ _, ?_, trivial, nofun⟩; exact (rfl : _ = _)
    case o14_3_9 => obtain ⟨f0, f4, f6, f7, f8, f9⟩ := FF.out _ (S1.out.then hH); obtain ⟨c_a, z_a⟩ := FR.out _ (S1.out.then hH) a ok_a; obtain ⟨b0, b1, b2, b3, b4, b5, b6, b7, b8, b9⟩ := FB.out _ hH; have m3 := SF.out _ hH; have ha := rd1 ha H (by kernel_rfl) rfl; simp only [q3, q5, q6, q7] at ha; subst ha; clear H hU hS; go_wp2_with fail; (try refine hQ _ _ ?_); refine ⟨Step.refl _ _, ?_, trivial, nofun⟩; exact (rfl : _ = _)
    case o14_3_10 => obtain ⟨f0, f4, f6, f7, f8, f9⟩ := FF.out _ (S1.out.then hH); obtain ⟨c_a, z_a⟩ := FR.out _ (S1.out.then hH) a ok_a; obtain ⟨b0, b1, b2, b3, b4, b5, b6, b7, b8, b9⟩ := FB.out _ hH; have m3 := SF.out _ hH; have ha := rd2 ha H (by kernel_rfl) (by kernel_rfl) rfl rfl; simp only [q3, q5, q6, q7] at ha; subst ha; clear H hU hS; go_wp2_with fail; (try refine hQ _ _ ?_); refine ⟨Step.refl _ _, ?_, trivial, nofun⟩; exact (rfl : _ = _)
    case o14_3_11 => obtain ⟨f0, f4, f6, f7, f8, f9⟩ := FF.out _ (S1.out.then hH); obtain ⟨c_a, z_a⟩ := FR.out _ (S1.out.then hH) a ok_a; obtain ⟨b0, b1, b2, b3, b4, b5, b6, b7, b8, b9⟩ := FB.out _ hH; have m3 := SF.out _ hH; have ha := rd1 ha H (by kernel_rfl) rfl; simp only [q3, q5, q6, q7] at ha; subst ha; clear H hU hS; go_wp2_with fail; (try refine hQ _ _ ?_); refine ⟨Step.refl _ _, ?_, trivial, nofun⟩; exact (rfl : _ = _)
    case o14_3_12 | o14_3_13 => cases rd0 ha; clear H hU hS; go_wp2_with fail; (try refine hQ _ _ ?_); refine ⟨Step.refl _ _, ?_, trivial, nofun⟩; exact (rfl : _ = _)
    case o14_3_14 => obtain ⟨f0, f4, f6, f7, f8, f9⟩ := FF.out _ (S1.out.then hH); obtain ⟨c_a, z_a⟩ := FR.out _ (S1.out.then hH) a ok_a; obtain ⟨b0, b1, b2, b3, b4, b5, b6, b7, b8, b9⟩ := FB.out _ hH; have m3 := SF.out _ hH; have ha := rd1 ha H (by kernel_rfl) rfl; simp only [q3, q5, q6, q7] at ha; subst ha; clear H hU hS; go_wp2_with fail; (try refine hQ _ _ ?_); refine ⟨Step.refl _ _, ?_, trivial, nofun⟩; exact (rfl : _ = _)
    case o14_3_15 => obtain ⟨f0, f4, f6, f7, f8, f9⟩ := FF.out _ (S1.out.then hH); obtain ⟨c_a, z_a⟩ := FR.out _ (S1.out.then hH) a ok_a; obtain ⟨b0, b1, b2, b3, b4, b5, b6, b7, b8, b9⟩ := FB.out _ hH; have m3 := SF.out _ hH; have h12 : xv 12 = _ := H 12 (by kernel_rfl); have h14 : xv 14 = _ := H 14 (by kernel_rfl); change aq = puts _ xv [(12, some 106), (14, some 108)] at ha; simp only [q1, q2, q3, q5, q6, q7, h12, h14] at ha; subst ha; clear H h12 h14; clear hU hS; go_wp2_with fail; refine (VAL.out _ hH).mono ?_; rintro e w4 ⟨vo15, rfl, r15, s4⟩; go_wp2_with fail; all_goals (try refine hQ _ _ ?_); all_goals refine ⟨s4, ?_, trivial, nofun⟩; all_goals exact IsRow4.of r15
    case o14_3_16 => obtain ⟨f0, f4, f6, f7, f8, f9⟩ := FF.out _ (S1.out.then hH); obtain ⟨c_a, z_a⟩ := FR.out _ (S1.out.then hH) a ok_a; obtain ⟨b0, b1, b2, b3, b4, b5, b6, b7, b8, b9⟩ := FB.out _ hH; have m3 := SF.out _ hH; obtain ⟨g15, cap15, h15, ya0, ya1, ya2, ya3⟩ : IsRow4 v0 v1 v2 v3 _ _ := H 15 (by kernel_rfl); change aq = puts _ xv [(15, some 109)] at ha; simp only [q1, q2, q3, q5, q6, q7, h15] at ha; subst ha; clear H h15; clear hU hS; have ar := array_at g15 cap15 wq; go_wp2_with fail; all_goals (try refine hQ _ _ ?_); all_goals refine ⟨Step.refl _ _, ?_, trivial, nofun⟩; all_goals exact ⟨_, rfl, ya0, ya1, ya2, ya3⟩
    case o14_3_17 => obtain ⟨f0, f4, f6, f7, f8, f9⟩ := FF.out _ (S1.out.then hH); obtain ⟨c_a, z_a⟩ := FR.out _ (S1.out.then hH) a ok_a; obtain ⟨b0, b1, b2, b3, b4, b5, b6, b7, b8, b9⟩ := FB.out _ hH; have m3 := SF.out _ hH; obtain ⟨b16, h16, ya0, ya1, ya2, ya3⟩ : IsFour v0 v1 v2 v3 _ _ := H 16 (by kernel_rfl); change aq = puts _ xv [(16, some 110)] at ha; simp only [q1, q2, q3, q5, q6, q7, h16] at ha; subst ha; clear H h16; clear hU hS; go_wp2_with fail; (try refine hQ _ _ ?_); refine ⟨Step.refl _ _, ?_, trivial, nofun⟩; exact (rfl : _ = _)
  intro xv w2 hH hS H hU hsz hF hN
  have h0 : xv 0 = _ := H 0 (by decide) (by kernel_rfl); have h1 : xv 1 = _ := H 1 (by decide) (by kernel_rfl); have h2 : xv 2 = _ := H 2 (by decide) (by kernel_rfl); have h3 : xv 3 = _ := H 3 (by decide) (by kernel_rfl); have h4 : xv 4 = _ := H 4 (by decide) (by kernel_rfl); have h5 : xv 5 = _ := H 5 (by decide) (by kernel_rfl); have h6 : xv 6 = _ := H 6 (by decide) (by kernel_rfl); have h7 : xv 7 = _ := H 7 (by decide) (by kernel_rfl); have h8 : xv 8 = _ := H 8 (by decide) (by kernel_rfl); have h9 : xv 9 = _ := H 9 (by decide) (by kernel_rfl); have h10 : xv 10 = _ := H 10 (by decide) (by kernel_rfl); have h11 : xv 11 = _ := H 11 (by decide) (by kernel_rfl); have h12 : xv 12 = _ := H 12 (by decide) (by kernel_rfl); have h13 : xv 13 = _ := H 13 (by decide) (by kernel_rfl); have h14 : xv 14 = _ := H 14 (by decide) (by kernel_rfl); obtain ⟨g15, cap15, h15, ya0, ya1, ya2, ya3⟩ : (IsRow4 v0 v1 v2 v3) (xv 15) w2 := H 15 (by decide) (by kernel_rfl); obtain ⟨b16, h16, ya0, ya1, ya2, ya3⟩ : (IsFour v0 v1 v2 v3) (xv 16) w2 := H 16 (by decide) (by kernel_rfl); have h17 : xv 17 = _ := H 17 (by decide) (by kernel_rfl)
  simp only [planWrite38, q1, q2, q3, q5, q6, q7, q4, List.drop_succ_cons, List.drop_zero, h0, h1, h2, h3, h4, h5, h6, h7, h8, h9, h10, h11, h12, h13, h14, h15, h16, h17]
  clear H hF hN hS hU h0 h1 h2 h3 h4 h5 h6 h7 h8 h9 h10 h11 h12 h13 h14 h15 h16 h17
  have m3 := SF.out _ hH
  have P := HP.out
  have hmax : c < maxLen := by simp only [maxLen]; omega
  obtain ⟨w5, run, im, gr, sz⟩ := (P.shadow.same (hH.block _ P.shadow.lt fun x => x)).update (a := rg regs a) (t := 68) (e := 151) Try.underlying38 Try.underlying68 hmax (u64_wf A64.out) (fourV (v0, v1, v2, v3))
  simp only [fourV] at run
  have IM := Lib.hid im
  have GR := Lib.hid gr
  have SZ := Lib.hid sz
  have HH := Lib.hid hH
  clear im gr sz hH P
  go_wp2_with fail
  go_end0
  have P := HP.out
  obtain ⟨t1, t2, t3, t4, t5, t7⟩ := P.tag
  have s5 : Step (fun b => b = bs) w1 w5 := (HH.out.mono fun _ _ x => x.elim).trans (Step.of_grown GR.out) fun _ x => .inl x
  have s6 : Step (fun b => own b ≠ 0) w1 w5 := s5.mono fun b _ e => by rw [e, t5]; decide
  have z5 := s5.size
  have CG : Chg own own w1 w5 := ⟨s6, fun _ _ => rfl⟩
  refine ⟨rfl, own, ((Chg.calm own S1.out).trans CG).g gx, ⟨bf, bt, bm, bs, bb, ul, ui, uo, ?_⟩, HF1.out.keep CG⟩
  refine P.next 5 (c' := c + 1) (vl' := ul) (vi' := ui) (vo' := uo) (by omega) s6 (fun _ _ => rfl) (fun b hb => Nat.lt_of_lt_of_le (P.low b hb).2 z5) (fun b h0 h1 h2 => s5.block b (P.low b h0).2 fun e => h2 (by rw [e, t5])) (by decide) ?_ (by simp) ?_ (by simp) (by simp) (by simp) P.input
  · exact (s5.block _ (lt_known P.struct) fun e => by rw [e] at t1; omega).trans P.struct
  · rw [if_pos rfl]
    exact IM.out.congr fun y => by
      rw [PK.out]
      show _ = ((if y = rg regs a then some (v0, v1, v2, v3) else st.shadow y).map fourV)
      split <;> rfl
end
end Go.Proofs.Ytpmbakhnamlooaa
