/- Package fat: instructions that make and free blocks, and clear slots. -/
import Derived.Test.YtpmbakhnamlooaaFatN
namespace Go.Proofs.Ytpmbakhnamlooaa
set_option linter.unusedVariables false
set_option linter.unusedSimpArgs false
open Go.RowKit

section
variable {w0 w w' w1 w2 : World} {pf pw gx : Nat} {own own' own'' : Nat → Nat} {vn vp vk vs vc vr vl : Value} {regs slots : List Int} {lock key : Int} {fnv : List UInt8 → Option Value} {tops : List UInt8 → Option Int} {st : FSt} {c : Nat}

theorem box_facts_of {F : Nat → Prop} {tb T : Nat} {v0 v1 v2 v3 v4 v5 v6 v7 v8 v9 : Value} (h : w.heap[tb]? = some (.cells #[v0, v1, v2, v3, v4, v5, v6, v7, v8, v9] T (0, 0))) (hn : ¬ F tb) : ∀ y, Step F w y → y.cell? ⟨tb, 0, none⟩ = some v0 ∧ y.cell? ⟨tb, 1, none⟩ = some v1 ∧ y.cell? ⟨tb, 2, none⟩ = some v2 ∧ y.cell? ⟨tb, 3, none⟩ = some v3 ∧ y.cell? ⟨tb, 4, none⟩ = some v4 ∧ y.cell? ⟨tb, 5, none⟩ = some v5 ∧ y.cell? ⟨tb, 6, none⟩ = some v6 ∧ y.cell? ⟨tb, 7, none⟩ = some v7 ∧ y.cell? ⟨tb, 8, none⟩ = some v8 ∧ y.cell? ⟨tb, 9, none⟩ = some v9 := fun _ hy =>
  have k := (hy.block tb (lt_known h) hn).trans h
  ⟨cell_known k rfl, cell_known k rfl, cell_known k rfl, cell_known k rfl, cell_known k rfl, cell_known k rfl, cell_known k rfl, cell_known k rfl, cell_known k rfl, cell_known k rfl⟩
/-- the machine behind a call of its own that made a row of numbers -/
def AfterRow (w0 ws : World) (own : Nat → Nat) (pw : Nat) (fnv : List UInt8 → Option Value) (tops : List UInt8 → Option Int) (st : FSt) (c : Nat) (xs : List Int) (y : Value) (w : World) : Prop :=
  ∃ a cap, y = .slice a xs.length cap ∧ ∃ own', Chg own own' ws w ∧ FWAt w0 w pw own' fnv tops st c ∧ RowAt w (fun b => ws.heap.size ≤ b ∧ own' b = 0) 38 1 (.slice a xs.length cap) xs.length (xs.map (Value.int .u64))
theorem AfterRow.stable {ws : World} {xs : List Int} {y : Value} (h : Step (fun _ => False) w w') (k : AfterRow w0 ws own pw fnv tops st c xs y w) : AfterRow w0 ws own pw fnv tops st c xs y w' := by
  obtain ⟨a, cap, e, own', k1, k2, k3⟩ := k
  exact ⟨a, cap, e, own', k1.trans (Chg.calm own' h), k2.still h, k3.same fun b _ hb => h.block b hb fun x => x⟩
theorem release_yes (hW : FWAt w0 w pw own fnv tops st c) (hF : FrAt w own pf pw gx vn vp vk vs vc vr vl regs slots lock key) (hc : c ≤ 1000000000)
    {F : Nat → Prop} {vv : Value} {xs : List Int} (hl : xs.length = 5) (hv : RowAt w F 38 1 vv xs.length (xs.map (Value.int .u64))) (hx : ∀ x ∈ xs, is64 x) (h0 : ∀ b, F b → own b = 0) (hb : freeF st.locks st.blocks xs = true) :
    Calls Try.prog 91 #[.pointer (some ⟨pf, 0, none⟩), vv] w fun e w' => e = .returned (.tuple #[]) ∧ Chg own own w w' ∧ FWAt w0 w' pw own fnv tops { st with blocks := fun x => if x = xs.getD 1 0 then none else st.blocks x, locks := st.locks.set (xs.getD 4 0).toNat 0 } c :=
  (release_any hW hF hc hl hv hx h0).mono fun _ _ h => by rw [if_pos hb] at h; exact h
theorem release_not (hW : FWAt w0 w pw own fnv tops st c) (hF : FrAt w own pf pw gx vn vp vk vs vc vr vl regs slots lock key) (hc : c ≤ 1000000000)
    {F : Nat → Prop} {vv : Value} {xs : List Int} (hl : xs.length = 5) (hv : RowAt w F 38 1 vv xs.length (xs.map (Value.int .u64))) (hx : ∀ x ∈ xs, is64 x) (h0 : ∀ b, F b → own b = 0) (hb : freeF st.locks st.blocks xs = false) :
    Calls Try.prog 91 #[.pointer (some ⟨pf, 0, none⟩), vv] w fun e w' => e = .panicked [{ v := stopV 2 0, recovered := false }] ∧ Step (fun b => w.heap.size ≤ b) w w' :=
  (release_any hW hF hc hl hv hx h0).mono fun _ _ h => by rw [if_neg (by rw [hb]; decide)] at h; exact h

/-- what is cleared from an address on is gone -/
def clr {α : Type} (m : Int → Option α) (a k : Int) : Int → Option α := fun x => if a ≤ x ∧ x < a + k then none else m x
theorem clr_zero {α : Type} (m : Int → Option α) (a : Int) : clr m a 0 = m := by
  funext x; unfold clr; rw [if_neg (by omega)]
theorem clr_succ {α : Type} (m : Int → Option α) (a k : Int) (hk : 0 ≤ k) (x : Int) : (if x = a + k then none else clr m a k x) = clr m a (k + 1) x := by
  unfold clr
  by_cases h : x = a + k
  · rw [if_pos h, if_pos (by omega)]
  · rw [if_neg h]
    by_cases g : a ≤ x ∧ x < a + k
    · rw [if_pos g, if_pos (by omega)]
    · rw [if_neg g, if_neg (by omega)]
def planMall40 : Plan where
  T := [[], [], [1], [], [], [], [5], [4, 5, 6], [4, 5, 6, 7], [3, 4, 5, 6, 7, 8], [0, 1, 2, 3, 4, 5, 6, 7, 8, 9]]
  rd := [[], [], [(1, some 157)], [], [], [], [(5, some 161)], [(4, some 160), (6, some 162)], [(7, some 163)], [(3, some 159), (8, some 164)]]
  all := [(9, some 165), (8, some 164), (7, some 163), (6, some 162), (5, some 161), (4, some 160), (3, some 159), (2, some 158), (1, some 157), (0, some 156)]
  calm := [true, true, true, true, true, true, true, true, true, false]
  hard := [true, true, true, true, true, true, true, true, true, true]
  fresh := [false, false, false, false, false, false, false, false, false, false]

def planMall40n : Plan where
  T := [[], [], [1], [], [], [], [5], [4, 5, 6], [4, 5, 6, 7], [3, 4, 5, 6, 7, 8], [0, 1, 2, 3, 4, 5, 6, 7, 8, 9]]
  rd := [[], [], [(1, some 157)], [], [], [], [(5, some 161)], [(4, some 160), (6, some 162)], [(7, some 163)], [(3, some 159), (8, some 164)]]
  all := [(9, some 165), (8, some 164), (7, some 163), (6, some 162), (5, some 161), (4, some 160), (3, some 159), (2, some 158), (1, some 157), (0, some 156)]
  calm := [true, true, true, true, true, true, true, true, true, true]
  hard := []
  fresh := [false, false, false, false, false, false, false, false, false, false]

def planClr16 : Plan where
  T := [[], [0], [0, 1], [0, 1, 2], [0, 1, 2, 3], [], [5], [0, 1, 2, 3, 4, 5, 6], [0, 1, 2, 3, 4, 5, 6, 7], []]
  rd := [[], [(0, some 114)], [(1, some 115)], [(2, some 116)], [(3, some 117)], [], [(5, some 119)], [(4, some 118), (6, some 120)], [(7, some 121)], []]
  all := [(9, some 123), (8, some 122), (7, some 121), (6, some 120), (5, some 119), (4, some 118), (3, some 117), (2, some 116), (1, some 115), (0, some 114)]
  calm := [true, true, true, true, true, true, true, true, true, true]
  hard := []
  fresh := [false, false, false, false, false, false, false, false, false, false]

def planClr19 : Plan where
  T := [[], [0], [0, 1], [0, 1, 2], [], [4], [0, 1, 2, 3, 4, 5], [0, 1, 2, 3, 4, 5, 6], [], [0, 1, 2, 3, 4, 5, 6, 7, 8], [0, 1, 2, 3, 4, 5, 6, 7, 8, 9], [0, 1, 2, 3, 4, 5, 6, 7, 8, 9, 10]]
  rd := [[], [(0, some 126)], [(1, some 127)], [(2, some 128)], [], [(4, some 130)], [(3, some 129), (5, some 131)], [(6, some 132)], []]
  all := [(8, some 134), (7, some 133), (6, some 132), (5, some 131), (4, some 130), (3, some 129), (2, some 128), (1, some 127), (0, some 126)]
  calm := [true, true, true, true, true, true, true, true, true]
  hard := []
  fresh := [false, false, false, false, false, false, false, false, false]

set_option maxHeartbeats 4000000 in
set_option maxRecDepth 100000 in
theorem mem_40ok (hW : FWAt w0 w pw own fnv tops st c) (hF : FrAt w own pf pw gx vn vp vk vs vc vr vl regs slots lock key) (hl : w0.heap.size ≤ gx) {v : Value} {i : FIns} (hi : InsAt w0 v i) (ho : i.op = 40) (ok_a : ok1 regs i.a) (hc : c ≤ 10000000) (h64 : regs64 regs) (hl5 : i.outs.length = 5) (hr : ∀ r ∈ i.outs, ok1 regs r) (hk : 0 ≤ st.keys ∧ st.keys ≤ 100000000) (hf : 0 ≤ st.free ∧ st.free ≤ 4000000) (hb : roomF st (rg regs i.a) = true) :
    Calls Try.prog 72 #[.pointer (some ⟨pf, 0, none⟩), v] w (Went w0 w pw own fnv tops pf gx vn vp vk vs vc vr vl slots lock key (mallocF st (rg regs i.a)) (c + 2) (writeAcc regs i.outs (mallocV st (rg regs i.a)) i.outs.length)) := by
  obtain ⟨va, vo, rfl, iargs, iouts⟩ := hi
  obtain ⟨op, dst, a, b, n, size, name, args, outs, to⟩ := i
  simp only at *
  subst ho
  obtain ⟨rcap, rfl⟩ := regs_slice hF (by unfold ok1 at ok_a; omega)
  have HW := Lib.hid hW
  have HF := Lib.hid hF
  have HL := Lib.hid hl
  have FF := Lib.hid (frame_facts hF)
  have FR := Lib.hid (reg_facts hF)
  unfold ok1 at ok_a
  clear hW hF hl
  obtain ⟨f0, f4, f6, f7, f8, f9⟩ := FF.out _ (Step.refl _ _)
  have hpf := block_lt f6
  simp only at hpf
  go_enter Try.func72, Try.ntmps72
  go_upto_region 24 with fail
  have kb := heap_alloc_new w (.cells #[.int .i64 40, .int .i64 dst, .int .i64 a, .int .i64 b, .int .u64 n, .int .i64 size, .string name, va, vo, .int .i64 to] 47 (0, 0))
  have S1 := Lib.hid (Step.alloc (fun _ => False) w (.cells #[.int .i64 40, .int .i64 dst, .int .i64 a, .int .i64 b, .int .u64 n, .int .i64 size, .string name, va, vo, .int .i64 to] 47 (0, 0)))
  clear f0 f4 f6 f7 f8 f9 hpf
  have HT := Lib.hid (show gx < w.heap.size ∧ own w.heap.size = 0 from ⟨HF.out.free.2.2.2, HW.out.fresh0⟩)
  generalize w.alloc (.cells #[.int .i64 40, .int .i64 dst, .int .i64 a, .int .i64 b, .int .u64 n, .int .i64 size, .string name, va, vo, .int .i64 to] 47 (0, 0)) = w1 at kb S1 ⊢
  generalize w.heap.size = tb at kb HT ⊢
  have KB := Lib.hid kb
  have FB := Lib.hid (box_facts kb)
  clear kb
  have HW1 := Lib.hid (HW.out.still S1.out)
  have HF1 := Lib.hid (HF.out.still S1.out)
  have FBO := Lib.hid (box_facts_of (F := fun b => own b ≠ 0) KB.out (fun h => h HT.out.2))
  have HR := Lib.hid hr
  have H5 := Lib.hid hl5
  have HO := Lib.hid iouts
  have MA := Lib.hid (show ∀ y, Step (fun _ => False) w1 y → _ from fun y hy => malloc_ok (HW1.out.still hy) (HF1.out.still hy) (rg regs a) (by omega) hk hf hb)
  clear hr hl5 h64 iargs iouts hb hk hf
  refine wp_region_each 10 planMall40 (fun a b => Step (fun x => own x ≠ 0 ∨ w1.heap.size ≤ x) a b) (Step (fun x => own x ≠ 0) w1) (fun x => Step (fun _ => False) w1 x) [Is ?v24_1_0, Is ?v24_1_1, Is ?v24_1_2, Is ?v24_1_3, Is ?v24_1_4, Is ?v24_1_5, Is ?v24_1_6, Is ?v24_1_7, Is ?v24_1_8, fun _ _ => True] [fun _ _ => True, fun _ _ => True, fun _ _ => True, fun _ _ => True, fun _ _ => True, fun _ _ => True, fun _ _ => True, fun _ _ => True, fun _ _ => True, AfterRow w0 w1 own pw fnv tops (mallocF st (rg regs a)) (c + 2) (mallocV st (rg regs a))] (by kernel_rfl) (by kernel_rfl) (fun _ _ h => h.size) ((Step.refl _ _).drew) ((Step.refl _ _).drew) ?stab24_1 ?stabD24_1 ?obl24_1 ?fin24_1
  case stab24_1 => exact fun w w' h => ⟨fun k => k.trans h (fun _ x => x.elim), fun k => k.trans h (fun _ x => x.elim), ⟨fun _ k => k, fun _ k => k, fun _ k => k, fun _ k => k, fun _ k => k, fun _ k => k, fun _ k => k, fun _ k => k, fun _ k => k, fun _ k => k, trivial⟩, ⟨fun _ k => k, fun _ k => k, fun _ k => k, fun _ k => k, fun _ k => k, fun _ k => k, fun _ k => k, fun _ k => k, fun _ k => k, fun _ k => k.stable h, trivial⟩⟩
  case stabD24_1 => exact fun w w' h => ⟨fun k => k.trans h (fun _ x => x), fun _ _ k => k, fun _ _ k => k, fun _ _ k => k, fun _ _ k => k, fun _ _ k => k, fun _ _ k => k, fun _ _ k => k, fun _ _ k => k, fun _ _ k => k, fun _ _ k => k, trivial⟩
  case obl24_1 =>
    refine ⟨?o24_1_0, ?o24_1_1, ?o24_1_2, ?o24_1_3, ?o24_1_4, ?o24_1_5, ?o24_1_6, ?o24_1_7, ?o24_1_8, ?o24_1_9, trivial⟩
    all_goals intro xv wq hH hS H hU aq ha Q' hQ
    case o24_1_0 | o24_1_1 => cases rd0 ha; clear H hU hS; go_wp2_with fail; (try refine hQ _ _ ?_); refine ⟨Step.refl _ _, ?_, trivial, nofun⟩; exact (rfl : _ = _)
    case o24_1_2 => (try (have hHs := hH; have hH := hS (by decide); obtain ⟨f0, f4, f6, f7, f8, f9⟩ := FF.out _ (S1.out.then hH); obtain ⟨c_a, z_a⟩ := FR.out _ (S1.out.then hH) a ok_a; obtain ⟨b0, b1, b2, b3, b4, b5, b6, b7, b8, b9⟩ := FB.out _ hH; clear hH; have hH := hHs; clear hHs; clear b0 b1 b2 b3 b4 b5 b6 b7 b8 b9)); obtain ⟨b0, b1, b2, b3, b4, b5, b6, b7, b8, b9⟩ := FBO.out _ hH; have ha := rd1 ha H (by kernel_rfl) rfl; simp only [q3, q5, q6, q7] at ha; subst ha; clear H hU hS; go_wp2_with fail; (try refine hQ _ _ ?_); refine ⟨Step.refl _ _, ?_, trivial, nofun⟩; exact (rfl : _ = _)
    case o24_1_3 | o24_1_4 | o24_1_5 => cases rd0 ha; clear H hU hS; go_wp2_with fail; (try refine hQ _ _ ?_); refine ⟨Step.refl _ _, ?_, trivial, nofun⟩; exact (rfl : _ = _)
    case o24_1_6 => (try (have hHs := hH; have hH := hS (by decide); obtain ⟨f0, f4, f6, f7, f8, f9⟩ := FF.out _ (S1.out.then hH); obtain ⟨c_a, z_a⟩ := FR.out _ (S1.out.then hH) a ok_a; obtain ⟨b0, b1, b2, b3, b4, b5, b6, b7, b8, b9⟩ := FB.out _ hH; clear hH; have hH := hHs; clear hHs; clear b0 b1 b2 b3 b4 b5 b6 b7 b8 b9)); obtain ⟨b0, b1, b2, b3, b4, b5, b6, b7, b8, b9⟩ := FBO.out _ hH; have ha := rd1 ha H (by kernel_rfl) rfl; simp only [q3, q5, q6, q7] at ha; subst ha; clear H hU hS; go_wp2_with fail; (try refine hQ _ _ ?_); refine ⟨Step.refl _ _, ?_, trivial, nofun⟩; exact (rfl : _ = _)
    case o24_1_7 => (try (have hHs := hH; have hH := hS (by decide); obtain ⟨f0, f4, f6, f7, f8, f9⟩ := FF.out _ (S1.out.then hH); obtain ⟨c_a, z_a⟩ := FR.out _ (S1.out.then hH) a ok_a; obtain ⟨b0, b1, b2, b3, b4, b5, b6, b7, b8, b9⟩ := FB.out _ hH; clear hH; have hH := hHs; clear hHs; clear b0 b1 b2 b3 b4 b5 b6 b7 b8 b9)); obtain ⟨b0, b1, b2, b3, b4, b5, b6, b7, b8, b9⟩ := FBO.out _ hH; have ha := rd2 ha H (by kernel_rfl) (by kernel_rfl) rfl rfl; simp only [q3, q5, q6, q7] at ha; subst ha; clear H hU hS; go_wp2_with fail; (try refine hQ _ _ ?_); refine ⟨Step.refl _ _, ?_, trivial, nofun⟩; exact (rfl : _ = _)
    case o24_1_8 => (try (have hHs := hH; have hH := hS (by decide); obtain ⟨f0, f4, f6, f7, f8, f9⟩ := FF.out _ (S1.out.then hH); obtain ⟨c_a, z_a⟩ := FR.out _ (S1.out.then hH) a ok_a; obtain ⟨b0, b1, b2, b3, b4, b5, b6, b7, b8, b9⟩ := FB.out _ hH; clear hH; have hH := hHs; clear hHs; clear b0 b1 b2 b3 b4 b5 b6 b7 b8 b9)); obtain ⟨b0, b1, b2, b3, b4, b5, b6, b7, b8, b9⟩ := FBO.out _ hH; have ha := rd1 ha H (by kernel_rfl) rfl; simp only [q3, q5, q6, q7] at ha; subst ha; clear H hU hS; go_wp2_with fail; (try refine hQ _ _ ?_); refine ⟨Step.refl _ _, ?_, trivial, nofun⟩; exact (rfl : _ = _)
    case o24_1_9 =>
      (try (have hHs := hH; have hH := hS (by decide); obtain ⟨f0, f4, f6, f7, f8, f9⟩ := FF.out _ (S1.out.then hH); obtain ⟨c_a, z_a⟩ := FR.out _ (S1.out.then hH) a ok_a; obtain ⟨b0, b1, b2, b3, b4, b5, b6, b7, b8, b9⟩ := FB.out _ hH; clear hH; have hH := hHs; clear hHs; clear b0 b1 b2 b3 b4 b5 b6 b7 b8 b9)); obtain ⟨b0, b1, b2, b3, b4, b5, b6, b7, b8, b9⟩ := FBO.out _ hH; have h3 : xv 3 = _ := H 3 (by kernel_rfl); have h8 : xv 8 = _ := H 8 (by kernel_rfl); change aq = puts _ xv [(3, some 159), (8, some 164)] at ha; simp only [q1, q2, q3, q5, q6, q7, h3, h8] at ha; subst ha; clear H h3 h8
      have L := hS (by kernel_rfl)
      clear hU hS
      go_wp2_with fail
      refine (MA.out _ L).mono ?_
      rintro e w4 ⟨vo4, rfl, own1, hch, hat, hrow⟩
      go_wp2_with fail
      (try refine hQ _ _ ?_)
      obtain ⟨ra, rcap4, er⟩ := hrow.slice
      have hz := L.size
      refine ⟨hch.step.mono fun _ _ x => .inl x, trivial, ?_, nofun⟩
      exact ⟨ra, rcap4, er, own1, (Chg.calm own L).trans hch, hat, by
        subst er
        exact hrow.mono fun b hb => ⟨by omega, hb.2⟩⟩
  intro xv w2 hH hS H hU hsz hF hN
  have h0 : xv 0 = _ := H 0 (by decide) (by kernel_rfl); have h1 : xv 1 = _ := H 1 (by decide) (by kernel_rfl); have h2 : xv 2 = _ := H 2 (by decide) (by kernel_rfl); have h3 : xv 3 = _ := H 3 (by decide) (by kernel_rfl); have h4 : xv 4 = _ := H 4 (by decide) (by kernel_rfl); have h5 : xv 5 = _ := H 5 (by decide) (by kernel_rfl); have h6 : xv 6 = _ := H 6 (by decide) (by kernel_rfl); have h7 : xv 7 = _ := H 7 (by decide) (by kernel_rfl); have h8 : xv 8 = _ := H 8 (by decide) (by kernel_rfl); obtain ⟨a9, cap9, h9, own1, ch1, at1, r9⟩ : (AfterRow w0 w1 own pw fnv tops (mallocF st (rg regs a)) (c + 2) (mallocV st (rg regs a))) (xv 9) _ := hU 9 (by decide) (by kernel_rfl)
  simp only [planMall40, q1, q2, q3, q5, q6, q7, q4, List.drop_succ_cons, List.drop_zero, h0, h1, h2, h3, h4, h5, h6, h7, h8, h9]
  have hL := hU 9 (by decide) (by kernel_rfl)
  clear H hF hN hS hU h0 h1 h2 h3 h4 h5 h6 h7 h8 h9
  have HH := Lib.hid ch1
  have F2 := HF1.out.keep ch1
  have NG := Lib.hid (show NumsAt w2 gx (.slice a9 (mallocV st (rg regs a)).length cap9) (mallocV st (rg regs a)) from NumsAt.of_row r9 fun b hb e => by have := HF1.out.free.2.2.2; omega)
  have WR := Lib.hid (write_any F2 (HO.out.step at1.since fun b h => h) (ints_old HO.out HL.out) HR.out NG.out (by have := H5.out; simp only [mallocV, List.length_cons, List.length_nil]; omega) (by have := H5.out; omega))
  have AT1 := Lib.hid at1
  have G0 := Lib.hid F2.free.2.1
  clear hH ch1 at1 r9 F2
  go_wp2_with fail
  refine WR.out.mono ?_
  rintro e w5 ⟨rfl, fr5, s5⟩
  have FR5 := Lib.hid fr5
  have S5 := Lib.hid s5
  clear fr5 s5
  go_wp2_with fail
  go_end0
  exact ⟨rfl, own1, (((Chg.calm own S1.out).trans HH.out).g gx).trans ⟨S5.out.mono fun _ _ x => .inr x, fun _ _ => rfl⟩, AT1.out.offReg G0.out HL.out S5.out, FR5.out⟩
set_option maxHeartbeats 4000000 in
set_option maxRecDepth 100000 in
theorem mem_40no (hW : FWAt w0 w pw own fnv tops st c) (hF : FrAt w own pf pw gx vn vp vk vs vc vr vl regs slots lock key) (hl : w0.heap.size ≤ gx) {v : Value} {i : FIns} (hi : InsAt w0 v i) (ho : i.op = 40) (ok_a : ok1 regs i.a) (hc : c ≤ 10000000) (h64 : regs64 regs) (hl5 : i.outs.length = 5) (hr : ∀ r ∈ i.outs, ok1 regs r) (hk : 0 ≤ st.keys ∧ st.keys ≤ 100000000) (hf : 0 ≤ st.free ∧ st.free ≤ 4000000) (hb : roomF st (rg regs i.a) = false) :
    Calls Try.prog 72 #[.pointer (some ⟨pf, 0, none⟩), v] w (Fell w0 w pw own fnv tops gx 3 0 st c) := by
  obtain ⟨va, vo, rfl, iargs, iouts⟩ := hi
  obtain ⟨op, dst, a, b, n, size, name, args, outs, to⟩ := i
  simp only at *
  subst ho
  obtain ⟨rcap, rfl⟩ := regs_slice hF (by unfold ok1 at ok_a; omega)
  have HW := Lib.hid hW
  have HF := Lib.hid hF
  have HL := Lib.hid hl
  have FF := Lib.hid (frame_facts hF)
  have FR := Lib.hid (reg_facts hF)
  unfold ok1 at ok_a
  clear hW hF hl
  obtain ⟨f0, f4, f6, f7, f8, f9⟩ := FF.out _ (Step.refl _ _)
  have hpf := block_lt f6
  simp only at hpf
  go_enter Try.func72, Try.ntmps72
  go_upto_region 24 with fail
  have kb := heap_alloc_new w (.cells #[.int .i64 40, .int .i64 dst, .int .i64 a, .int .i64 b, .int .u64 n, .int .i64 size, .string name, va, vo, .int .i64 to] 47 (0, 0))
  have S1 := Lib.hid (Step.alloc (fun _ => False) w (.cells #[.int .i64 40, .int .i64 dst, .int .i64 a, .int .i64 b, .int .u64 n, .int .i64 size, .string name, va, vo, .int .i64 to] 47 (0, 0)))
  clear f0 f4 f6 f7 f8 f9 hpf
  have HT := Lib.hid (show gx < w.heap.size ∧ own w.heap.size = 0 from ⟨HF.out.free.2.2.2, HW.out.fresh0⟩)
  generalize w.alloc (.cells #[.int .i64 40, .int .i64 dst, .int .i64 a, .int .i64 b, .int .u64 n, .int .i64 size, .string name, va, vo, .int .i64 to] 47 (0, 0)) = w1 at kb S1 ⊢
  generalize w.heap.size = tb at kb HT ⊢
  have KB := Lib.hid kb
  have FB := Lib.hid (box_facts kb)
  clear kb
  have HW1 := Lib.hid (HW.out.still S1.out)
  have HF1 := Lib.hid (HF.out.still S1.out)
  have FBO := Lib.hid (box_facts_of (F := fun b => own b ≠ 0) KB.out (fun h => h HT.out.2))
  have HR := Lib.hid hr
  have H5 := Lib.hid hl5
  have HO := Lib.hid iouts
  have MA := Lib.hid (show ∀ y, Step (fun _ => False) w1 y → _ from fun y hy => (by
    obtain ⟨_, _, _, _, _, _, _, _, P⟩ := HW1.out.still hy
    exact malloc_no P (HF1.out.still hy) (rg regs a) (rg_64 h64 a) hf hb : Calls Try.prog 90 #[.pointer (some ⟨pf, 0, none⟩), .int .u64 (rg regs a)] y fun e w' => e = .panicked [{ v := stopV 3 0, recovered := false }] ∧ y = w'))
  clear hr hl5 h64 iargs iouts hb hk hf
  refine wp_region_eachX 10 planMall40n (fun _ _ => False) (Step (fun _ => False) w1) (fun _ => True) [Is ?v24_2_0, Is ?v24_2_1, Is ?v24_2_2, Is ?v24_2_3, Is ?v24_2_4, Is ?v24_2_5, Is ?v24_2_6, Is ?v24_2_7, Is ?v24_2_8, fun _ _ => False] [] (by kernel_rfl) (by kernel_rfl) (fun _ _ h => h.elim) ((Step.refl _ _).drew) (trivial) ?stab24_2 ?stabD24_2 (X := fun ch w' => ch = [{ v := stopV 3 0, recovered := false }] ∧ Step (fun _ => False) w1 w') ?hx24_2 ?obl24_2 ?fin24_2
  case hx24_2 => (rintro ch a' w' hd ⟨rfl, s⟩; exact ⟨hd, rfl, own, (Chg.calm own (S1.out.then s)).g gx, HW.out.still (S1.out.then s)⟩)
  case stab24_2 => exact fun w w' h => ⟨fun k => k.trans h (fun _ x => x.elim), fun _ => trivial, ⟨fun _ k => k, fun _ k => k, fun _ k => k, fun _ k => k, fun _ k => k, fun _ k => k, fun _ k => k, fun _ k => k, fun _ k => k, fun _ k => k, trivial⟩, trivial⟩
  case stabD24_2 => exact fun _ _ h => h.elim
  case obl24_2 =>
    refine ⟨?o24_2_0, ?o24_2_1, ?o24_2_2, ?o24_2_3, ?o24_2_4, ?o24_2_5, ?o24_2_6, ?o24_2_7, ?o24_2_8, ?o24_2_9, trivial⟩
    all_goals intro xv wq hH hS H hU aq ha Q' hX hQ
    case o24_2_0 | o24_2_1 => cases rd0 ha; clear H hU hS; go_wp2_with fail; (try refine hQ _ _ ?_); refine ⟨Step.refl _ _, ?_, trivial, nofun⟩; exact (rfl : _ = _)
    case o24_2_2 => obtain ⟨f0, f4, f6, f7, f8, f9⟩ := FF.out _ (S1.out.then hH); obtain ⟨c_a, z_a⟩ := FR.out _ (S1.out.then hH) a ok_a; obtain ⟨b0, b1, b2, b3, b4, b5, b6, b7, b8, b9⟩ := FB.out _ hH; have ha := rd1 ha H (by kernel_rfl) rfl; simp only [q3, q5, q6, q7] at ha; subst ha; clear H hU hS; go_wp2_with fail; (try refine hQ _ _ ?_); refine ⟨Step.refl _ _, ?_, trivial, nofun⟩; exact (rfl : _ = _)
    case o24_2_3 | o24_2_4 | o24_2_5 => cases rd0 ha; clear H hU hS; go_wp2_with fail; (try refine hQ _ _ ?_); refine ⟨Step.refl _ _, ?_, trivial, nofun⟩; exact (rfl : _ = _)
    case o24_2_6 => obtain ⟨f0, f4, f6, f7, f8, f9⟩ := FF.out _ (S1.out.then hH); obtain ⟨c_a, z_a⟩ := FR.out _ (S1.out.then hH) a ok_a; obtain ⟨b0, b1, b2, b3, b4, b5, b6, b7, b8, b9⟩ := FB.out _ hH; have ha := rd1 ha H (by kernel_rfl) rfl; simp only [q3, q5, q6, q7] at ha; subst ha; clear H hU hS; go_wp2_with fail; (try refine hQ _ _ ?_); refine ⟨Step.refl _ _, ?_, trivial, nofun⟩; exact (rfl : _ = _)
    case o24_2_7 => obtain ⟨f0, f4, f6, f7, f8, f9⟩ := FF.out _ (S1.out.then hH); obtain ⟨c_a, z_a⟩ := FR.out _ (S1.out.then hH) a ok_a; obtain ⟨b0, b1, b2, b3, b4, b5, b6, b7, b8, b9⟩ := FB.out _ hH; have ha := rd2 ha H (by kernel_rfl) (by kernel_rfl) rfl rfl; simp only [q3, q5, q6, q7] at ha; subst ha; clear H hU hS; go_wp2_with fail; (try refine hQ _ _ ?_); refine ⟨Step.refl _ _, ?_, trivial, nofun⟩; exact (rfl : _ = _)
    case o24_2_8 => obtain ⟨f0, f4, f6, f7, f8, f9⟩ := FF.out _ (S1.out.then hH); obtain ⟨c_a, z_a⟩ := FR.out _ (S1.out.then hH) a ok_a; obtain ⟨b0, b1, b2, b3, b4, b5, b6, b7, b8, b9⟩ := FB.out _ hH; have ha := rd1 ha H (by kernel_rfl) rfl; simp only [q3, q5, q6, q7] at ha; subst ha; clear H hU hS; go_wp2_with fail; (try refine hQ _ _ ?_); refine ⟨Step.refl _ _, ?_, trivial, nofun⟩; exact (rfl : _ = _)
    case o24_2_9 =>
      obtain ⟨f0, f4, f6, f7, f8, f9⟩ := FF.out _ (S1.out.then hH); obtain ⟨c_a, z_a⟩ := FR.out _ (S1.out.then hH) a ok_a; obtain ⟨b0, b1, b2, b3, b4, b5, b6, b7, b8, b9⟩ := FB.out _ hH; have h3 : xv 3 = _ := H 3 (by kernel_rfl); have h8 : xv 8 = _ := H 8 (by kernel_rfl); change aq = puts _ xv [(3, some 159), (8, some 164)] at ha; simp only [q1, q2, q3, q5, q6, q7, h3, h8] at ha; subst ha; clear H h3 h8
      clear hU hS
      go_wp2_with fail
      refine (MA.out _ hH).mono ?_
      rintro e w4 ⟨rfl, rfl⟩
      exact hX _ _ ⟨rfl, hH⟩
  intro xv w2 hH hS H hU hsz hF hN
  exact (H 9 (by decide) (by kernel_rfl) : False).elim
set_option maxHeartbeats 4000000 in
set_option maxRecDepth 100000 in
theorem mem_41ok (hW : FWAt w0 w pw own fnv tops st c) (hF : FrAt w own pf pw gx vn vp vk vs vc vr vl regs slots lock key) (hl : w0.heap.size ≤ gx) {v : Value} {i : FIns} (hi : InsAt w0 v i) (ho : i.op = 41) (hc : c ≤ 10000000) (h64 : regs64 regs) (hl5 : i.args.length = 5) (hr : ∀ r ∈ i.args, ok1 regs r) (hb : freeF st.locks st.blocks (pick regs i.args) = true) :
    Calls Try.prog 72 #[.pointer (some ⟨pf, 0, none⟩), v] w (Went w0 w pw own fnv tops pf gx vn vp vk vs vc vr vl slots lock key { st with blocks := fun x => if x = (pick regs i.args).getD 1 0 then none else st.blocks x, locks := st.locks.set ((pick regs i.args).getD 4 0).toNat 0 } c (regs)) := by
  obtain ⟨va, vo, rfl, iargs, iouts⟩ := hi
  obtain ⟨op, dst, a, b, n, size, name, args, outs, to⟩ := i
  simp only at *
  subst ho
  have HW := Lib.hid hW
  have HF := Lib.hid hF
  have HL := Lib.hid hl
  have FF := Lib.hid (frame_facts hF)
  have FR := Lib.hid (reg_facts hF)
  clear hW hF hl
  obtain ⟨f0, f4, f6, f7, f8, f9⟩ := FF.out _ (Step.refl _ _)
  have hpf := block_lt f6
  simp only at hpf
  go_enter Try.func72, Try.ntmps72
  go_upto_region 26 with fail
  have kb := heap_alloc_new w (.cells #[.int .i64 41, .int .i64 dst, .int .i64 a, .int .i64 b, .int .u64 n, .int .i64 size, .string name, va, vo, .int .i64 to] 47 (0, 0))
  have S1 := Lib.hid (Step.alloc (fun _ => False) w (.cells #[.int .i64 41, .int .i64 dst, .int .i64 a, .int .i64 b, .int .u64 n, .int .i64 size, .string name, va, vo, .int .i64 to] 47 (0, 0)))
  clear f0 f4 f6 f7 f8 f9 hpf
  have HT := Lib.hid (show gx < w.heap.size ∧ own w.heap.size = 0 from ⟨HF.out.free.2.2.2, HW.out.fresh0⟩)
  generalize w.alloc (.cells #[.int .i64 41, .int .i64 dst, .int .i64 a, .int .i64 b, .int .u64 n, .int .i64 size, .string name, va, vo, .int .i64 to] 47 (0, 0)) = w1 at kb S1 ⊢
  generalize w.heap.size = tb at kb HT ⊢
  have KB := Lib.hid kb
  have FB := Lib.hid (box_facts kb)
  clear kb
  have HW1 := Lib.hid (HW.out.still S1.out)
  have HF1 := Lib.hid (HF.out.still S1.out)
  have VAL := Lib.hid (values_any HF1.out (iargs.step HW1.out.since fun b h => h) hr (by omega))
  have RL := Lib.hid (show ∀ y vv, Step (fun _ => False) w1 y → RowAt y (fun b => w1.heap.size ≤ b) 38 1 vv (pick regs args).length ((pick regs args).map (Value.int .u64)) → _ from fun y vv hy hv => release_yes (HW1.out.still hy) (HF1.out.still hy) (by omega) (by rw [pick_length]; exact hl5) hv (pick_64 h64 _) (fun b hb => by
    by_cases e : own b = 0
    · exact e
    · have := (HW1.out.low b e).2; omega) hb)
  clear hr hl5 h64 iargs iouts hb
  have hH := Step.refl (fun _ => False) w1
  obtain ⟨f0, f4, f6, f7, f8, f9⟩ := FF.out _ (S1.out.then hH)
  obtain ⟨b0, b1, b2, b3, b4, b5, b6, b7, b8, b9⟩ := FB.out _ hH
  clear hH
  go_wp2_with fail
  refine VAL.out.mono ?_
  rintro e w2 ⟨vo, rfl, hrow, s2⟩
  obtain ⟨va2, vcap2, rfl⟩ := hrow.slice
  have RR := Lib.hid (RL.out w2 (.slice va2 args.length vcap2) s2 (by rw [pick_length]; exact hrow))
  have SS := Lib.hid s2
  clear hrow s2 f0 f4 f6 f7 f8 f9 b0 b1 b2 b3 b4 b5 b6 b7 b8 b9
  go_wp2_with fail
  refine RR.out.mono ?_
  rintro e w4 ⟨rfl, ch4, at4⟩
  have CH4 := Lib.hid ch4
  have AT4 := Lib.hid at4
  clear ch4 at4
  go_wp2_with fail
  go_end0
  exact ⟨rfl, own, ((Chg.calm own (S1.out.then SS.out)).trans CH4.out).g gx, AT4.out, (HF1.out.still SS.out).keep CH4.out⟩
set_option maxHeartbeats 4000000 in
set_option maxRecDepth 100000 in
theorem mem_41no (hW : FWAt w0 w pw own fnv tops st c) (hF : FrAt w own pf pw gx vn vp vk vs vc vr vl regs slots lock key) (hl : w0.heap.size ≤ gx) {v : Value} {i : FIns} (hi : InsAt w0 v i) (ho : i.op = 41) (hc : c ≤ 10000000) (h64 : regs64 regs) (hl5 : i.args.length = 5) (hr : ∀ r ∈ i.args, ok1 regs r) (hb : freeF st.locks st.blocks (pick regs i.args) = false) :
    Calls Try.prog 72 #[.pointer (some ⟨pf, 0, none⟩), v] w (Fell w0 w pw own fnv tops gx 2 0 st c) := by
  obtain ⟨va, vo, rfl, iargs, iouts⟩ := hi
  obtain ⟨op, dst, a, b, n, size, name, args, outs, to⟩ := i
  simp only at *
  subst ho
  have HW := Lib.hid hW
  have HF := Lib.hid hF
  have HL := Lib.hid hl
  have FF := Lib.hid (frame_facts hF)
  have FR := Lib.hid (reg_facts hF)
  clear hW hF hl
  obtain ⟨f0, f4, f6, f7, f8, f9⟩ := FF.out _ (Step.refl _ _)
  have hpf := block_lt f6
  simp only at hpf
  go_enter Try.func72, Try.ntmps72
  go_upto_region 26 with fail
  have kb := heap_alloc_new w (.cells #[.int .i64 41, .int .i64 dst, .int .i64 a, .int .i64 b, .int .u64 n, .int .i64 size, .string name, va, vo, .int .i64 to] 47 (0, 0))
  have S1 := Lib.hid (Step.alloc (fun _ => False) w (.cells #[.int .i64 41, .int .i64 dst, .int .i64 a, .int .i64 b, .int .u64 n, .int .i64 size, .string name, va, vo, .int .i64 to] 47 (0, 0)))
  clear f0 f4 f6 f7 f8 f9 hpf
  have HT := Lib.hid (show gx < w.heap.size ∧ own w.heap.size = 0 from ⟨HF.out.free.2.2.2, HW.out.fresh0⟩)
  generalize w.alloc (.cells #[.int .i64 41, .int .i64 dst, .int .i64 a, .int .i64 b, .int .u64 n, .int .i64 size, .string name, va, vo, .int .i64 to] 47 (0, 0)) = w1 at kb S1 ⊢
  generalize w.heap.size = tb at kb HT ⊢
  have KB := Lib.hid kb
  have FB := Lib.hid (box_facts kb)
  clear kb
  have HW1 := Lib.hid (HW.out.still S1.out)
  have HF1 := Lib.hid (HF.out.still S1.out)
  have VAL := Lib.hid (values_any HF1.out (iargs.step HW1.out.since fun b h => h) hr (by omega))
  have RL := Lib.hid (show ∀ y vv, Step (fun _ => False) w1 y → RowAt y (fun b => w1.heap.size ≤ b) 38 1 vv (pick regs args).length ((pick regs args).map (Value.int .u64)) → _ from fun y vv hy hv => release_not (HW1.out.still hy) (HF1.out.still hy) (by omega) (by rw [pick_length]; exact hl5) hv (pick_64 h64 _) (fun b hb => by
    by_cases e : own b = 0
    · exact e
    · have := (HW1.out.low b e).2; omega) hb)
  clear hr hl5 h64 iargs iouts hb
  have hH := Step.refl (fun _ => False) w1
  obtain ⟨f0, f4, f6, f7, f8, f9⟩ := FF.out _ (S1.out.then hH)
  obtain ⟨b0, b1, b2, b3, b4, b5, b6, b7, b8, b9⟩ := FB.out _ hH
  clear hH
  go_wp2_with fail
  refine VAL.out.mono ?_
  rintro e w2 ⟨vo, rfl, hrow, s2⟩
  obtain ⟨va2, vcap2, rfl⟩ := hrow.slice
  have RR := Lib.hid (RL.out w2 (.slice va2 args.length vcap2) s2 (by rw [pick_length]; exact hrow))
  have SS := Lib.hid s2
  clear hrow s2 f0 f4 f6 f7 f8 f9 b0 b1 b2 b3 b4 b5 b6 b7 b8 b9
  go_wp2_with fail
  refine RR.out.mono ?_
  rintro e w4 ⟨rfl, s4⟩
  exact ⟨rfl, rfl, own, ((Chg.calm own (S1.out.then SS.out)).trans (Chg.over (HW1.out.still SS.out) s4)).g gx, (HW1.out.still SS.out).over s4⟩
set_option maxHeartbeats 4000000 in
set_option maxRecDepth 100000 in
theorem mem_39 (hW : FWAt w0 w pw own fnv tops st c) (hF : FrAt w own pf pw gx vn vp vk vs vc vr vl regs slots lock key) (hl : w0.heap.size ≤ gx) {v : Value} {i : FIns} (hi : InsAt w0 v i) (ho : i.op = 39) {fsl : List Int} (hfs : IntsAt .i64 w0 vs fsl) (hn : 0 ≤ i.n ∧ i.n < fsl.length) (hns : i.n < slots.length) (hc : c ≤ 10000000) (hsl : 0 ≤ rg slots i.n ∧ rg slots i.n ≤ 10000000) (hfl : 0 ≤ rg fsl i.n ∧ rg fsl i.n ≤ 10000000) :
    Calls Try.prog 72 #[.pointer (some ⟨pf, 0, none⟩), v] w (Went w0 w pw own fnv tops pf gx vn vp vk vs vc vr vl slots lock key { st with mem := clr st.mem (rg slots i.n) (rg fsl i.n), shadow := clr st.shadow (rg slots i.n) (rg fsl i.n) } c (regs)) := by
  obtain ⟨va, vo, rfl, iargs, iouts⟩ := hi
  obtain ⟨op, dst, a, b, n, size, name, args, outs, to⟩ := i
  simp only at *
  subst ho
  have HW := Lib.hid hW
  have HF := Lib.hid hF
  have HL := Lib.hid hl
  have FF := Lib.hid (frame_facts hF)
  have FR := Lib.hid (reg_facts hF)
  clear hW hF hl
  obtain ⟨f0, f4, f6, f7, f8, f9⟩ := FF.out _ (Step.refl _ _)
  have hpf := block_lt f6
  simp only at hpf
  go_enter Try.func72, Try.ntmps72
  go_upto_region 16 with fail
  have kb := heap_alloc_new w (.cells #[.int .i64 39, .int .i64 dst, .int .i64 a, .int .i64 b, .int .u64 n, .int .i64 size, .string name, va, vo, .int .i64 to] 47 (0, 0))
  have S1 := Lib.hid (Step.alloc (fun _ => False) w (.cells #[.int .i64 39, .int .i64 dst, .int .i64 a, .int .i64 b, .int .u64 n, .int .i64 size, .string name, va, vo, .int .i64 to] 47 (0, 0)))
  clear f0 f4 f6 f7 f8 f9 hpf
  have HT := Lib.hid (show gx < w.heap.size ∧ own w.heap.size = 0 from ⟨HF.out.free.2.2.2, HW.out.fresh0⟩)
  generalize w.alloc (.cells #[.int .i64 39, .int .i64 dst, .int .i64 a, .int .i64 b, .int .u64 n, .int .i64 size, .string name, va, vo, .int .i64 to] 47 (0, 0)) = w1 at kb S1 ⊢
  generalize w.heap.size = tb at kb HT ⊢
  have KB := Lib.hid kb
  have FB := Lib.hid (box_facts kb)
  clear kb
  have HW1 := Lib.hid (HW.out.still S1.out)
  have HF1 := Lib.hid (HF.out.still S1.out)
  obtain ⟨sg, scap, scur, esl, hsg, hsrow, _, _, _, shtk⟩ := HF1.out.slots.some (by omega)
  subst esl
  obtain ⟨⟨vp0, vcap, rfl, hv1, hv2, hvc⟩, _⟩ := hfs
  obtain ⟨va0, rfl, hva⟩ := hvc n.toNat (by omega)
  have VB := Lib.hid (block_lt hva)
  have FV := Lib.hid (show ∀ y, Step (fun _ => False) w1 y → y.cell? (va0.add n.toNat) = some (.int .i64 (rg fsl n)) from fun y hy => by
    rw [(HW1.out.still hy).cell_old VB.out]; exact hva)
  have CS := Lib.hid (show scur[n.toNat]? = some (.int .i64 (rg slots n)) from by
    have h1 : (scur.toList.take (slots.length * 1))[n.toNat]? = some (.int .i64 (rg slots n)) := by
      rw [shtk]
      unfold rg
      rw [List.getElem?_map, List.getD_eq_getElem?_getD, List.getElem?_eq_getElem (show n.toNat < slots.length by omega)]; rfl
    rw [List.getElem?_take, if_pos (by omega)] at h1
    simpa using h1)
  have SR := Lib.hid hsrow
  have SO := Lib.hid hsg
  have HN := Lib.hid hns
  have HFN := Lib.hid hn
  have HV1 := Lib.hid hv1
  clear hvc hva iargs iouts hv2 hsrow shtk hsg hv1
  generalize rg slots n = from_ at *
  generalize rg fsl n = len at *
  have FS := Lib.hid (show ∀ y, Step (fun b => own b ≠ 0) w1 y → y.cell? ⟨sg, n.toNat, none⟩ = some (.int .i64 from_) ∧ y.cell? ⟨pf, 0, none⟩ = some (.pointer (some ⟨pw, 0, none⟩)) ∧ y.cell? ⟨pf, 7, none⟩ = some (.slice (some ⟨sg, 0, none⟩) slots.length scap) ∧ y.cell? ⟨tb, 4, none⟩ = some (.int .u64 n) from fun y hy => by
    have k1 := (hy.block sg (lt_known SR.out) fun h => h SO.out.1).trans SR.out
    have k2 := (hy.block pf (lt_known HF1.out.struct) fun h => h HF1.out.free.1).trans HF1.out.struct
    have k3 := (hy.block tb (lt_known KB.out) fun h => h HT.out.2).trans KB.out
    exact ⟨cell_known k1 CS.out, cell_known k2 rfl, cell_known k2 rfl, cell_known k3 rfl⟩)
  refine wp_region_each 10 planClr16 (fun _ _ => False) (Step (fun _ => False) w1) (fun _ => True) [Is ?v16_3_0, Is ?v16_3_1, Is ?v16_3_2, Is ?v16_3_3, Is ?v16_3_4, Is ?v16_3_5, Is ?v16_3_6, Is ?v16_3_7, Is ?v16_3_8, Is ?v16_3_9] [] (by kernel_rfl) (by kernel_rfl) (fun _ _ h => h.elim) ((Step.refl _ _).drew) (trivial) ?stab16_3 ?stabD16_3 ?obl16_3 ?fin16_3
  case stab16_3 => exact fun w w' h => ⟨fun k => k.trans h (fun _ x => x.elim), fun _ => trivial, ⟨fun _ k => k, fun _ k => k, fun _ k => k, fun _ k => k, fun _ k => k, fun _ k => k, fun _ k => k, fun _ k => k, fun _ k => k, fun _ k => k, trivial⟩, trivial⟩
  case stabD16_3 => exact fun _ _ h => h.elim
  case obl16_3 =>
    refine ⟨?o16_3_0, ?o16_3_1, ?o16_3_2, ?o16_3_3, ?o16_3_4, ?o16_3_5, ?o16_3_6, ?o16_3_7, ?o16_3_8, ?o16_3_9, trivial⟩
    all_goals intro xv wq hH hS H hU aq ha Q' hQ
    case o16_3_0 => cases rd0 ha; clear H hU hS; go_wp2_with fail; (try refine hQ _ _ ?_); refine ⟨Step.refl _ _, ?_, trivial, nofun⟩; exact (rfl : _ = _)
    case o16_3_1 | o16_3_2 | o16_3_3 => have ha := rd1 ha H (by kernel_rfl) rfl; simp only [q3, q5, q6, q7] at ha; subst ha; clear H hU hS; go_wp2_with fail; (try refine hQ _ _ ?_); refine ⟨Step.refl _ _, ?_, trivial, nofun⟩; exact (rfl : _ = _)
    case o16_3_4 => obtain ⟨f0, f4, f6, f7, f8, f9⟩ := FF.out _ (S1.out.then hH); obtain ⟨b0, b1, b2, b3, b4, b5, b6, b7, b8, b9⟩ := FB.out _ hH; have cv := FV.out _ hH; have ha := rd1 ha H (by kernel_rfl) rfl; simp only [q3, q5, q6, q7] at ha; subst ha; clear H hU hS; go_wp2_with fail; (try refine hQ _ _ ?_); refine ⟨Step.refl _ _, ?_, trivial, nofun⟩; exact (rfl : _ = _)
    case o16_3_5 => cases rd0 ha; clear H hU hS; go_wp2_with fail; (try refine hQ _ _ ?_); refine ⟨Step.refl _ _, ?_, trivial, nofun⟩; exact (rfl : _ = _)
    case o16_3_6 => obtain ⟨f0, f4, f6, f7, f8, f9⟩ := FF.out _ (S1.out.then hH); obtain ⟨b0, b1, b2, b3, b4, b5, b6, b7, b8, b9⟩ := FB.out _ hH; have cv := FV.out _ hH; have ha := rd1 ha H (by kernel_rfl) rfl; simp only [q3, q5, q6, q7] at ha; subst ha; clear H hU hS; go_wp2_with fail; (try refine hQ _ _ ?_); refine ⟨Step.refl _ _, ?_, trivial, nofun⟩; exact (rfl : _ = _)
    case o16_3_7 => obtain ⟨f0, f4, f6, f7, f8, f9⟩ := FF.out _ (S1.out.then hH); obtain ⟨b0, b1, b2, b3, b4, b5, b6, b7, b8, b9⟩ := FB.out _ hH; have cv := FV.out _ hH; have ha := rd2 ha H (by kernel_rfl) (by kernel_rfl) rfl rfl; simp only [q3, q5, q6, q7] at ha; subst ha; clear H hU hS; go_wp2_with fail; (try refine hQ _ _ ?_); refine ⟨Step.refl _ _, ?_, trivial, nofun⟩; exact (rfl : _ = _)
    case o16_3_8 => obtain ⟨f0, f4, f6, f7, f8, f9⟩ := FF.out _ (S1.out.then hH); obtain ⟨b0, b1, b2, b3, b4, b5, b6, b7, b8, b9⟩ := FB.out _ hH; have cv := FV.out _ hH; have ha := rd1 ha H (by kernel_rfl) rfl; simp only [q3, q5, q6, q7] at ha; subst ha; clear H hU hS; go_wp2_with fail; (try refine hQ _ _ ?_); refine ⟨Step.refl _ _, ?_, trivial, nofun⟩; exact (rfl : _ = _)
    case o16_3_9 => cases rd0 ha; clear H hU hS; go_wp2_with fail; (try refine hQ _ _ ?_); refine ⟨Step.refl _ _, ?_, trivial, nofun⟩; exact (rfl : _ = _)
  intro xv w2 hH hS H hU hsz hF hN
  have h0 : xv 0 = _ := H 0 (by decide) (by kernel_rfl); have h1 : xv 1 = _ := H 1 (by decide) (by kernel_rfl); have h2 : xv 2 = _ := H 2 (by decide) (by kernel_rfl); have h3 : xv 3 = _ := H 3 (by decide) (by kernel_rfl); have h4 : xv 4 = _ := H 4 (by decide) (by kernel_rfl); have h5 : xv 5 = _ := H 5 (by decide) (by kernel_rfl); have h6 : xv 6 = _ := H 6 (by decide) (by kernel_rfl); have h7 : xv 7 = _ := H 7 (by decide) (by kernel_rfl); have h8 : xv 8 = _ := H 8 (by decide) (by kernel_rfl); have h9 : xv 9 = _ := H 9 (by decide) (by kernel_rfl)
  simp only [planClr16, q1, q2, q3, q5, q6, q7, q4, List.drop_succ_cons, List.drop_zero, h0, h1, h2, h3, h4, h5, h6, h7, h8, h9]
  clear H hF hN hS hU h0 h1 h2 h3 h4 h5 h6 h7 h8 h9
  have H2 := Lib.hid hH
  clear hH
  go_wp2_with fail
  go_loopw [6, 7, 123] (fun _ _ i wr => ∃ k : Nat, (k : Int) ≤ len ∧ i = .int .i64 k ∧ Chg own own w1 wr ∧ FWAt w0 wr pw own fnv tops { st with mem := clr st.mem from_ k, shadow := clr st.shadow from_ k } c) (fun _ _ i _ => (len - intOf i).toNat)
  case atStart =>
    refine ⟨0, by omega, rfl, Chg.calm own H2.out, ?_⟩
    rw [show ((0 : Nat) : Int) = 0 from rfl, clr_zero, clr_zero]
    exact HW1.out.still H2.out
  case round =>
    obtain ⟨k, hk, rfl, hch, hat⟩ := hrel
    have HC := Lib.hid hch
    have HA := Lib.hid hat
    clear hch hat
    by_cases hlt : (k : Int) < len
    · have hd : decide ((k : Int) < len) = true := decide_eq_true hlt
      have ew : IntKind.u64.wrap (from_ + k) = from_ + k := by rw [IntKind.wrap_u64]; omega
      obtain ⟨bf, bt, bm, bs, bb, ul, ui, uo, P⟩ := HA.out
      have HP := Lib.hid P
      clear P
      go_upto_region 19 with fail
      refine wp_region_each 9 planClr19 (fun _ _ => False) (Step (fun _ => False) wr) (fun _ => True) [Is ?v19_4_0, Is ?v19_4_1, Is ?v19_4_2, Is ?v19_4_3, Is ?v19_4_4, Is ?v19_4_5, Is ?v19_4_6, Is ?v19_4_7, Is ?v19_4_8] [] (by kernel_rfl) (by kernel_rfl) (fun _ _ h => h.elim) ((Step.refl _ _).drew) (trivial) ?stab19_4 ?stabD19_4 ?obl19_4 ?fin19_4
      case stab19_4 => exact fun w w' h => ⟨fun k => k.trans h (fun _ x => x.elim), fun _ => trivial, ⟨fun _ k => k, fun _ k => k, fun _ k => k, fun _ k => k, fun _ k => k, fun _ k => k, fun _ k => k, fun _ k => k, fun _ k => k, trivial⟩, trivial⟩
      case stabD19_4 => exact fun _ _ h => h.elim
      case obl19_4 =>
        refine ⟨?o19_4_0, ?o19_4_1, ?o19_4_2, ?o19_4_3, ?o19_4_4, ?o19_4_5, ?o19_4_6, ?o19_4_7, ?o19_4_8, trivial⟩
        all_goals intro xv wq hH hS H hU aq ha Q' hQ
        case o19_4_0 => cases rd0 ha; clear H hU hS; go_wp2_with fail; (try refine hQ _ _ ?_); refine ⟨Step.refl _ _, ?_, trivial, nofun⟩; exact (rfl : _ = _)
        case o19_4_1 | o19_4_2 => have ha := rd1 ha H (by kernel_rfl) rfl; simp only [q3, q5, q6, q7] at ha; subst ha; clear H hU hS; go_wp2_with fail; (try refine hQ _ _ ?_); refine ⟨Step.refl _ _, ?_, trivial, nofun⟩; exact (rfl : _ = _)
        case o19_4_3 => obtain ⟨cs, f0, f7, b4⟩ := FS.out _ (HC.out.step.then hH); have ha := rd1 ha H (by kernel_rfl) rfl; simp only [q3, q5, q6, q7] at ha; subst ha; clear H hU hS; go_wp2_with fail; (try refine hQ _ _ ?_); refine ⟨Step.refl _ _, ?_, trivial, nofun⟩; exact (rfl : _ = _)
        case o19_4_4 => cases rd0 ha; clear H hU hS; go_wp2_with fail; (try refine hQ _ _ ?_); refine ⟨Step.refl _ _, ?_, trivial, nofun⟩; exact (rfl : _ = _)
        case o19_4_5 => obtain ⟨cs, f0, f7, b4⟩ := FS.out _ (HC.out.step.then hH); have ha := rd1 ha H (by kernel_rfl) rfl; simp only [q3, q5, q6, q7] at ha; subst ha; clear H hU hS; go_wp2_with fail; (try refine hQ _ _ ?_); refine ⟨Step.refl _ _, ?_, trivial, nofun⟩; exact (rfl : _ = _)
        case o19_4_6 => obtain ⟨cs, f0, f7, b4⟩ := FS.out _ (HC.out.step.then hH); have ha := rd2 ha H (by kernel_rfl) (by kernel_rfl) rfl rfl; simp only [q3, q5, q6, q7] at ha; subst ha; clear H hU hS; go_wp2_with fail; (try refine hQ _ _ ?_); refine ⟨Step.refl _ _, ?_, trivial, nofun⟩; exact (rfl : _ = _)
        case o19_4_7 => obtain ⟨cs, f0, f7, b4⟩ := FS.out _ (HC.out.step.then hH); have ha := rd1 ha H (by kernel_rfl) rfl; simp only [q3, q5, q6, q7] at ha; subst ha; clear H hU hS; go_wp2_with fail; (try refine hQ _ _ ?_); refine ⟨Step.refl _ _, ?_, trivial, nofun⟩; exact (rfl : _ = _)
        case o19_4_8 => cases rd0 ha; clear H hU hS; go_wp2_with fail; (try refine hQ _ _ ?_); refine ⟨Step.refl _ _, ?_, trivial, nofun⟩; exact (rfl : _ = _)
      intro xv w4 hH hS H hU hsz hF hN
      have h0 : xv 0 = _ := H 0 (by decide) (by kernel_rfl); have h1 : xv 1 = _ := H 1 (by decide) (by kernel_rfl); have h2 : xv 2 = _ := H 2 (by decide) (by kernel_rfl); have h3 : xv 3 = _ := H 3 (by decide) (by kernel_rfl); have h4 : xv 4 = _ := H 4 (by decide) (by kernel_rfl); have h5 : xv 5 = _ := H 5 (by decide) (by kernel_rfl); have h6 : xv 6 = _ := H 6 (by decide) (by kernel_rfl); have h7 : xv 7 = _ := H 7 (by decide) (by kernel_rfl); have h8 : xv 8 = _ := H 8 (by decide) (by kernel_rfl)
      simp only [planClr19, q1, q2, q3, q5, q6, q7, q4, List.drop_succ_cons, List.drop_zero, h0, h1, h2, h3, h4, h5, h6, h7, h8]
      clear H hF hN hS hU h0 h1 h2 h3 h4 h5 h6 h7 h8
      have P4 := HP.out.still hH
      have m2 := cell_known P4.struct (i := 2) rfl
      obtain ⟨cs, f0, f7, b4⟩ := FS.out _ (HC.out.step.then hH)
      obtain ⟨w5, run5, im5, gr5, sz5⟩ := P4.mem.delete (a := from_ + k) (t := 67) (e := 5) (ty := 0) Try.underlying38 Try.underlying67 (by simp [Lit.wf, IntKind.min, IntKind.max, IntKind.bits, IntKind.signed]; omega)
      obtain ⟨t1, t2, t3, t4, t5, t7⟩ := P4.tag
      have s5 : Step (fun b => b = bm) w4 w5 := Step.of_grown gr5
      have s6 : Step (fun b => own b ≠ 0) w4 w5 := s5.mono fun b _ e => by rw [e, t4]; decide
      have P5 : FParts w0 w5 pw own fnv tops { st with mem := clr st.mem from_ ((k + 1 : Nat) : Int), shadow := clr st.shadow from_ k } c bf bt bm bs bb ul ui uo := by
        refine P4.next 4 (Nat.le_refl c) s6 (fun _ _ => rfl) (fun b hb => Nat.lt_of_lt_of_le (P4.low b hb).2 s5.size) (fun b h0 h1 h2 => s5.block b (P4.low b h0).2 fun e => h2 (by rw [e, t4])) (by decide) ?_ ?_ (by simp) (by simp) (by simp) (by simp) P4.input
        · exact (s5.block _ (lt_known P4.struct) fun e => by rw [e] at t1; omega).trans P4.struct
        · rw [if_pos rfl]
          exact im5.congr fun y => by
            show _ = ((clr st.mem from_ ((k + 1 : Nat) : Int)) y).map (Value.int .u8)
            rw [show ((k + 1 : Nat) : Int) = (k : Int) + 1 by omega, ← clr_succ _ _ _ (by omega)]
            split <;> rfl
      have m3 := cell_known P5.struct (i := 3) rfl
      obtain ⟨w6, run6, im6, gr6, sz6⟩ := P5.shadow.delete (a := from_ + k) (t := 68) (e := 151) (ty := 0) Try.underlying38 Try.underlying68 (by simp [Lit.wf, IntKind.min, IntKind.max, IntKind.bits, IntKind.signed]; omega)
      have s7 : Step (fun b => b = bs) w5 w6 := Step.of_grown gr6
      have s8 : Step (fun b => own b ≠ 0) w5 w6 := s7.mono fun b _ e => by rw [e, t5]; decide
      have P6 : FParts w0 w6 pw own fnv tops { st with mem := clr st.mem from_ ((k + 1 : Nat) : Int), shadow := clr st.shadow from_ ((k + 1 : Nat) : Int) } c bf bt bm bs bb ul ui uo := by
        refine P5.next 5 (Nat.le_refl c) s8 (fun _ _ => rfl) (fun b hb => Nat.lt_of_lt_of_le (P5.low b hb).2 s7.size) (fun b h0 h1 h2 => s7.block b (P5.low b h0).2 fun e => h2 (by rw [e, t5])) (by decide) ?_ (by simp) ?_ (by simp) (by simp) (by simp) P5.input
        · exact (s7.block _ (lt_known P5.struct) fun e => by rw [e] at t1; omega).trans P5.struct
        · rw [if_pos rfl]
          exact im6.congr fun y => by
            show _ = ((clr st.shadow from_ ((k + 1 : Nat) : Int)) y).map fourV
            rw [show ((k + 1 : Nat) : Int) = (k : Int) + 1 by omega, ← clr_succ _ _ _ (by omega)]
            split <;> rfl
      have f0' : w5.cell? ⟨pf, 0, none⟩ = some (.pointer (some ⟨pw, 0, none⟩)) := (FS.out w5 ((HC.out.step.then hH).trans s6 fun _ x => .inl x)).2.1
      have CH6 := Lib.hid ((HC.out.trans (Chg.calm own hH)).trans (⟨s6.trans s8 fun _ x => .inl x, fun _ _ => rfl⟩ : Chg own own w4 w6))
      have AT6 := Lib.hid P6.whole
      clear hH P4 im5 gr5 sz5 s5 s6 P5 im6 gr6 sz6 s7 s8 P6 t1 t2 t3 t4 t5 t7
      go_wp2_with fail
      go_roundw
      case rel => exact ⟨k + 1, by omega, by go_num, CH6.out, AT6.out⟩
      case measure => simp [intOf]; omega
    · have hd : decide ((k : Int) < len) = false := decide_eq_false hlt
      obtain rfl : (k : Int) = len := by omega
      go_wp2_with fail
      go_end0
      exact ⟨rfl, own, ((Chg.calm own S1.out).trans HC.out).g gx, HA.out, HF1.out.keep HC.out⟩
end
end Go.Proofs.Ytpmbakhnamlooaa
