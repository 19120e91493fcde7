/- Package mid: as, and the instructions that make a pointer. -/
import Derived.Test.YtojfgdoniajmeaaMidA
namespace Go.Proofs.Ytojfgdoniajmeaa
set_option linter.unusedVariables false
set_option linter.unusedSimpArgs false
open Go.RowKit

section
variable {w0 w w' w1 w2 : World} {pf pw gx : Nat} {own own' own'' : Nat → Nat} {vn vp vk vs vc vr vl : Value} {regs : List HV} {slots : List HP} {fnv : List UInt8 → Option Value} {tops : List UInt8 → Option HP} {st : MSt} {c : Nat}
theorem signed_any (a : Int) (w : World) : Calls Try.prog 85 #[.int .u64 a] w fun e w' => e = .returned (.int .i64 (wrap64 a)) ∧ w = w' := by
  go_enter Try.func85, Try.ntmps85
  go_wp2_with fail
  go_ret
  exact ⟨rfl, rfl⟩
set_option maxHeartbeats 1000000 in
set_option maxRecDepth 100000 in
theorem as_any (hF : MFr w own pf pw gx vn vp vk vs vc vr vl regs slots) {kinds : List Int} (hk : IntsAt .i64 w vk kinds) {r : Int} (hr : 0 ≤ r ∧ r < kinds.length) (x : HV) {size : Int} (hs : size = 1 ∨ size = 4 ∨ size = 8) :
    Calls Try.prog 66 #[.pointer (some ⟨pf, 0, none⟩), .int .i64 r, x.val, .int .i64 size] w fun e w' => e = .returned (asV (kinds.getD r.toNat 0) x size).val ∧ Step (fun _ => False) w w' := by
  obtain ⟨⟨pk, ck, rfl, hk1, hk2, hk3⟩, _⟩ := hk
  obtain ⟨hr0, hr1⟩ := hr
  obtain ⟨a, rfl, hc⟩ := hk3 r.toNat (by omega)
  obtain ⟨f0, f3, f6, f7⟩ := frame_facts hF _ (Step.refl _ _)
  have hpf := block_lt f3
  have hab := block_lt hc
  simp only at hpf
  have hkl : kinds.length ≤ 9223372036854775807 := by simp only [maxLen] at hk2; omega
  have NA := Lib.hid (fun a => narrow_in a (8 * size) true (by omega) (by omega))
  obtain ⟨num, pb, po, pl, ph⟩ := x
  unfold HV.val asV
  simp only
  clear hk3 hk1 hk2 hF
  generalize kinds.getD r.toNat 0 = k at *
  have s1 := Step.alloc (fun _ => False) w (.cells #[.int .u64 num, .int .i64 pb, .int .i64 po, .int .i64 pl, .int .i64 ph] 98 (0, 0))
  have s2 := s1.then (Step.alloc (fun _ => False) (w.alloc (.cells #[.int .u64 num, .int .i64 pb, .int .i64 po, .int .i64 pl, .int .i64 ph] 98 (0, 0))) (.cells #[.int .u64 0, .int .i64 0, .int .i64 0, .int .i64 0, .int .i64 0] 98 (0, 0)))
  have S2 := Lib.hid s2
  clear s1 s2
  cases hk2 : (k == 2) with
  | true =>
    have e2 : k = 2 := by simpa using hk2
    rw [if_pos e2]
    clear e2
    go_enter Try.func66, Try.ntmps66
    go_wp2_with fail
    exact bodyPost_ret (v := (ptrV ⟨pb, po, pl, ph⟩).val) (by simp [results, Try.results66, go_sem, HV.val, ptrV]) rfl ⟨rfl, ((Step.refl _ w).al _).al _⟩
  | false =>
    have e2 : k ≠ 2 := by simpa using hk2
    rw [if_neg e2]
    clear e2
    go_enter Try.func66, Try.ntmps66
    go_wp2_with fail
    refine (NA.out _ _).mono ?_
    rintro e w' ⟨rfl, rfl⟩
    go_wp2_with fail
    exact bodyPost_ret (v := (numV (nar num (8 * size) true)).val) (by simp [results, Try.results66, go_sem, HV.val, numV, HP.zero]) rfl ⟨rfl, ((Step.refl _ w).al _).al _⟩
def planPtr18 : Plan where
  T := [[], [0], [0, 1], [0, 1, 2], [], [4], [], [6], [0, 1, 2, 3, 4, 5, 6, 7], [0, 1, 2, 3, 4, 5, 6, 7, 8]]
  rd := [[], [(0, some 104)], [(1, some 105)], [(2, some 106)], [], [(4, some 108)], [], [(6, some 110)]]
  all := [(7, some 111), (6, some 110), (5, some 109), (4, some 108), (3, some 107), (2, some 106), (1, some 105), (0, some 104)]
  calm := [true, true, true, true, true, true, true, true]
  hard := []
  fresh := [false, false, false, false, false, false, false, false]

def planPtr6 : Plan where
  T := [[], [0], [0, 1], [0, 1, 2], [0, 1, 2, 3], [0, 1, 2, 3, 4], [0, 1, 2, 3, 4, 5], [], [7], [0, 1, 2, 3, 4, 5, 6, 7, 8], [0, 1, 2, 3, 4, 5, 6, 7, 8, 9]]
  rd := [[], [(0, some 13)], [(1, some 14)], [(2, some 15)], [(3, some 16)], [(4, some 17)], [(5, some 18)], [], [(7, some 20)]]
  all := [(8, some 21), (7, some 20), (6, some 19), (5, some 18), (4, some 17), (3, some 16), (2, some 15), (1, some 14), (0, some 13)]
  calm := [true, true, true, true, true, true, true, true, true]
  hard := []
  fresh := [false, false, false, false, false, false, false, false, false]

def planPtr8 : Plan where
  T := [[], [0], [0, 1], [0, 1, 2], [], [4], [0, 1, 2, 3, 4, 5], [0, 1, 2, 3, 4, 5, 6], [0, 1, 2, 3, 4, 5, 6, 7]]
  rd := [[], [(0, some 25)], [(1, some 26)], [(2, some 27)], [], [(4, some 29)]]
  all := [(5, some 30), (4, some 29), (3, some 28), (2, some 27), (1, some 26), (0, some 25)]
  calm := [true, true, true, true, true, true]
  hard := []
  fresh := [false, false, false, false, false, false]

def planPtr10 : Plan where
  T := [[], [0], [0, 1], [0, 1, 2], [], [4], [0, 1, 2, 3, 4, 5], [0, 1, 2, 3, 4, 5, 6], [0, 1, 2, 3, 4, 5, 6, 7], [], [9], [9, 10], [9, 10, 11], [], [13], [9, 10, 11, 12, 13, 14], [9, 10, 11, 12, 13, 14, 15], [9, 10, 11, 12, 13, 14, 15, 16], [9, 10, 11, 12, 13, 14, 15, 16, 17], [0, 1, 2, 3, 4, 5, 6, 7, 8, 9, 10, 11, 12, 13, 14, 15, 16, 17, 18], [0, 1, 2, 3, 4, 5, 6, 7, 8, 9, 10, 11, 12, 13, 14, 15, 16, 17, 18, 19]]
  rd := [[], [(0, some 35)], [(1, some 36)], [(2, some 37)], [], [(4, some 39)], [(3, some 38), (5, some 40)], [(6, some 41)], [(7, some 42)], [], [(9, some 44)], [(10, some 45)], [(11, some 46)], [], [(13, some 48)], [(12, some 47), (14, some 49)], [(15, some 50)], [(16, some 51)], [(17, some 52)]]
  all := [(18, some 53), (17, some 52), (16, some 51), (15, some 50), (14, some 49), (13, some 48), (12, some 47), (11, some 46), (10, some 45), (9, some 44), (8, some 43), (7, some 42), (6, some 41), (5, some 40), (4, some 39), (3, some 38), (2, some 37), (1, some 36), (0, some 35)]
  calm := [true, true, true, true, true, true, true, true, true, true, true, true, true, true, true, true, true, true, true]
  hard := []
  fresh := [false, false, false, false, false, false, false, false, false, false, false, false, false, false, false, false, false, false, false]

def planPtr12 : Plan where
  T := [[], [0], [0, 1], [0, 1, 2], [], [4], [0, 1, 2, 3, 4, 5], [0, 1, 2, 3, 4, 5, 6], [0, 1, 2, 3, 4, 5, 6, 7], [], [9], [9, 10], [], [12], [0, 1, 2, 3, 4, 5, 6, 7, 8, 9, 10, 11, 12, 13], [0, 1, 2, 3, 4, 5, 6, 7, 8, 9, 10, 11, 12, 13, 14]]
  rd := [[], [(0, some 57)], [(1, some 58)], [(2, some 59)], [], [(4, some 61)], [(3, some 60), (5, some 62)], [(6, some 63)], [(7, some 64)], [], [(9, some 66)], [(10, some 67)], [], [(12, some 69)]]
  all := [(13, some 70), (12, some 69), (11, some 68), (10, some 67), (9, some 66), (8, some 65), (7, some 64), (6, some 63), (5, some 62), (4, some 61), (3, some 60), (2, some 59), (1, some 58), (0, some 57)]
  calm := [true, true, true, true, true, true, true, true, true, true, true, true, true, true]
  hard := []
  fresh := [false, false, false, false, false, false, false, false, false, false, false, false, false, false]

def planPtr14 : Plan where
  T := [[], [0], [0, 1], [0, 1, 2], [], [4], [0, 1, 2, 3, 4, 5], [0, 1, 2, 3, 4, 5, 6], [0, 1, 2, 3, 4, 5, 6, 7], [0, 1, 2, 3, 4, 5, 6, 7, 8], [0, 1, 2, 3, 4, 5, 6, 7, 8, 9]]
  rd := [[], [(0, some 74)], [(1, some 75)], [(2, some 76)], [], [(4, some 78)]]
  all := [(5, some 79), (4, some 78), (3, some 77), (2, some 76), (1, some 75), (0, some 74)]
  calm := [true, true, true, true, true, true]
  hard := []
  fresh := [false, false, false, false, false, false]

theorem box_facts {tb T : Nat} {v0 v1 v2 v3 v4 v5 v6 v7 v8 v9 : Value} (h : w.heap[tb]? = some (.cells #[v0, v1, v2, v3, v4, v5, v6, v7, v8, v9] T (0, 0))) : ∀ y, Step (fun _ => False) w y → y.cell? ⟨tb, 0, none⟩ = some v0 ∧ y.cell? ⟨tb, 1, none⟩ = some v1 ∧ y.cell? ⟨tb, 2, none⟩ = some v2 ∧ y.cell? ⟨tb, 3, none⟩ = some v3 ∧ y.cell? ⟨tb, 4, none⟩ = some v4 ∧ y.cell? ⟨tb, 5, none⟩ = some v5 ∧ y.cell? ⟨tb, 6, none⟩ = some v6 ∧ y.cell? ⟨tb, 7, none⟩ = some v7 ∧ y.cell? ⟨tb, 8, none⟩ = some v8 ∧ y.cell? ⟨tb, 9, none⟩ = some v9 := fun _ hy =>
  have k := hy.keeps h
  ⟨cell_known k rfl, cell_known k rfl, cell_known k rfl, cell_known k rfl, cell_known k rfl, cell_known k rfl, cell_known k rfl, cell_known k rfl, cell_known k rfl, cell_known k rfl⟩
theorem pset_known {b : Nat} {T : TypeId} {u0 u1 u2 u3 : Value} (h : w.heap[b]? = some (.cells #[u0, u1, u2, u3] T (0, 0))) (v0 v1 v2 v3 : Value) : ((((w.setCell ⟨b, 0, none⟩ v0).setCell ⟨b, 1, none⟩ v1).setCell ⟨b, 2, none⟩ v2).setCell ⟨b, 3, none⟩ v3).heap[b]? = some (.cells #[v0, v1, v2, v3] T (0, 0)) := by
  have h0 : (w.setCell ⟨b, 0, none⟩ v0).heap[b]? = some (.cells #[v0, u1, u2, u3] T (0, 0)) := by rw [set_known h]; rfl
  have h1 : ((w.setCell ⟨b, 0, none⟩ v0).setCell ⟨b, 1, none⟩ v1).heap[b]? = some (.cells #[v0, v1, u2, u3] T (0, 0)) := by rw [set_known h0]; rfl
  have h2 : (((w.setCell ⟨b, 0, none⟩ v0).setCell ⟨b, 1, none⟩ v1).setCell ⟨b, 2, none⟩ v2).heap[b]? = some (.cells #[v0, v1, v2, u3] T (0, 0)) := by rw [set_known h1]; rfl
  have h3 : ((((w.setCell ⟨b, 0, none⟩ v0).setCell ⟨b, 1, none⟩ v1).setCell ⟨b, 2, none⟩ v2).setCell ⟨b, 3, none⟩ v3).heap[b]? = some (.cells #[v0, v1, v2, v3] T (0, 0)) := by rw [set_known h2]; rfl
  exact h3
theorem pset_step {F : Nat → Prop} {a : World} {b : Nat} (s : Step F a w) (hb : F b ∨ a.heap.size ≤ b) (v0 v1 v2 v3 : Value) : Step F a ((((w.setCell ⟨b, 0, none⟩ v0).setCell ⟨b, 1, none⟩ v1).setCell ⟨b, 2, none⟩ v2).setCell ⟨b, 3, none⟩ v3) :=
  (((s.set (p := ⟨b, 0, none⟩) hb v0).set (p := ⟨b, 1, none⟩) hb v1).set (p := ⟨b, 2, none⟩) hb v2).set (p := ⟨b, 3, none⟩) hb v3
/-- a pointer is put into the variable p -/
theorem put4 {F : Nat → Prop} {tb : Nat} {I : Obj} {T : TypeId} {u0 u1 u2 u3 : Value} {wb : World} (p : HP) (s : Step F wb w) (hge : F (tb + 1) ∨ wb.heap.size ≤ tb + 1) (hb : w.heap[tb]? = some I) (hp : w.heap[tb + 1]? = some (.cells #[u0, u1, u2, u3] T (0, 0))) :
    ∃ w3, w3 = (((w.setCell ⟨tb + 1, 0, none⟩ (.int .i64 p.block)).setCell ⟨tb + 1, 1, none⟩ (.int .i64 p.off)).setCell ⟨tb + 1, 2, none⟩ (.int .i64 p.low)).setCell ⟨tb + 1, 3, none⟩ (.int .i64 p.high) ∧ Step F wb w3 ∧ w3.heap[tb]? = some I ∧ w3.heap[tb + 1]? = some (.cells p.cells T (0, 0)) :=
  ⟨_, rfl, pset_step s hge _ _ _ _, ((pset_step (Step.refl (fun b => b = tb + 1) w) (.inl rfl) _ _ _ _).block _ (lt_obj hb) (by omega)).trans hb, pset_known hp _ _ _ _⟩
theorem zero_ptr (w : World) : (zeroValue 94).run Try.prog w = .ok (.agg #[.int .i64 0, .int .i64 0, .int .i64 0, .int .i64 0]) w := by kernel_rfl
theorem ptr_get (o : Option HP) : (o.map HP.val).getD (.agg #[.int .i64 0, .int .i64 0, .int .i64 0, .int .i64 0]) = .agg #[.int .i64 (o.getD HP.zero).block, .int .i64 (o.getD HP.zero).off, .int .i64 (o.getD HP.zero).low, .int .i64 (o.getD HP.zero).high] := by cases o <;> rfl
theorem top_facts (hW : MWAt w0 w pw own fnv tops st c) {nm : ByteArray} (hn : nm.size ≤ maxLen) {p : HP} (hp : (tops nm.data.toList).getD HP.zero = p) : ∃ bt, ∀ y, Step (fun _ => False) w y → y.cell? ⟨pw, 1, none⟩ = some (.map (some bt)) ∧ (Instr.lookup 68 (.map (some bt)) (.string nm) false).run Try.prog y = .ok (.agg #[.int .i64 p.block, .int .i64 p.off, .int .i64 p.low, .int .i64 p.high]) y := by
  obtain ⟨ph, bt, bf, vi, vo, P⟩ := hW
  refine ⟨bt, fun y hy => ⟨cell_known (hy.keeps P.struct) rfl, ?_⟩⟩
  have := (P.still hy).tops.lookup (t := 68) (e := 94) Try.underlying9 Try.underlying68 (zero_ptr y) hn
  rw [ptr_get, hp] at this
  exact this
theorem move_to (p : HP) (n : Int) (w : World) : Calls Try.prog 84 #[.agg #[.int .i64 p.block, .int .i64 p.off, .int .i64 p.low, .int .i64 p.high], .int .i64 n] w fun e w' => e = .returned (.agg #[.int .i64 (moveP p n).block, .int .i64 (moveP p n).off, .int .i64 (moveP p n).low, .int .i64 (moveP p n).high]) ∧ Step (fun _ => False) w w' := move_any _ _ _ _ _ w
theorem part_to (p : HP) (n m : Int) (w : World) : Calls Try.prog 86 #[.agg #[.int .i64 p.block, .int .i64 p.off, .int .i64 p.low, .int .i64 p.high], .int .i64 n, .int .i64 m] w fun e w' => e = .returned (.agg #[.int .i64 (partP p n m).block, .int .i64 (partP p n m).off, .int .i64 (partP p n m).low, .int .i64 (partP p n m).high]) ∧ Step (fun _ => False) w w' := by
  have h := part_any p.block p.off p.low p.high n m w
  unfold partP
  by_cases e : p.block = 0
  · rw [if_pos e]; rw [if_pos e] at h; exact h
  · rw [if_neg e]; rw [if_neg e] at h; exact h
set_option maxHeartbeats 4000000 in
set_option maxRecDepth 100000 in
theorem ptr_5 (hW : MWAt w0 w pw own fnv tops st c) (hF : MFr w own pf pw gx vn vp vk vs vc vr vl regs slots) (hl : w0.heap.size ≤ gx) {v : Value} {i : FIns} (hi : InsAt w0 v i) (ho : i.op = 5) (ok_dst : ok1 regs i.dst) :
    Calls Try.prog 61 #[.pointer (some ⟨pf, 0, none⟩), v] w (fun e w' => e = .returned (.bool true) ∧ Went w0 w pw own fnv tops pf gx vn vp vk vs vc vr vl slots st c (regs.set i.dst.toNat (ptrV HP.zero)) w') := by
  obtain ⟨va, vo, rfl, iargs, iouts⟩ := hi
  obtain ⟨op, dst, a, b, n, size, name, args, outs, tt⟩ := i
  simp only at *
  subst ho
  obtain ⟨rcap, rfl⟩ := regs_slice hF (by unfold ok1 at ok_dst; omega)
  have HW := Lib.hid hW
  have HF := Lib.hid hF
  have HL := Lib.hid hl
  have FF := Lib.hid (frame_facts hF)
  have FR := Lib.hid (reg_facts hF)
  unfold ok1 at ok_dst
  clear hW hF hl
  obtain ⟨f0, f3, f6, f7⟩ := FF.out _ (Step.refl _ _)
  have hpf := block_lt f6
  simp only at hpf
  have kb := heap_alloc_new w (.cells #[.int .i64 5, .int .i64 dst, .int .i64 a, .int .i64 b, .int .u64 n, .int .i64 size, .string name, va, vo, .int .i64 tt] 42 (0, 0))
  have s1 := Step.alloc (fun _ => False) w (.cells #[.int .i64 5, .int .i64 dst, .int .i64 a, .int .i64 b, .int .u64 n, .int .i64 size, .string name, va, vo, .int .i64 tt] 42 (0, 0))
  have kp := heap_alloc_new (w.alloc (.cells #[.int .i64 5, .int .i64 dst, .int .i64 a, .int .i64 b, .int .u64 n, .int .i64 size, .string name, va, vo, .int .i64 tt] 42 (0, 0))) (.cells #[.int .i64 0, .int .i64 0, .int .i64 0, .int .i64 0] 94 (0, 0))
  have s2 := Step.alloc (fun _ => False) (w.alloc (.cells #[.int .i64 5, .int .i64 dst, .int .i64 a, .int .i64 b, .int .u64 n, .int .i64 size, .string name, va, vo, .int .i64 tt] 42 (0, 0))) (.cells #[.int .i64 0, .int .i64 0, .int .i64 0, .int .i64 0] 94 (0, 0))
  rw [show (w.alloc (.cells #[.int .i64 5, .int .i64 dst, .int .i64 a, .int .i64 b, .int .u64 n, .int .i64 size, .string name, va, vo, .int .i64 tt] 42 (0, 0))).heap.size = w.heap.size + 1 by simp] at kp
  have KB := Lib.hid (s2.keeps kb)
  have KP := Lib.hid kp
  have S1 := Lib.hid (s1.then s2)
  have HT := Lib.hid (show gx < w.heap.size ∧ own w.heap.size = 0 ∧ w.heap.size ≤ w.heap.size from ⟨HF.out.free.2.2.2, HW.out.fresh0, Nat.le_refl _⟩)
  clear kb kp s1 s2
  go_enter Try.func61, Try.ntmps61
  go_upto_region 18 with fail
  clear f0 f3 f6 f7 hpf
  generalize (w.alloc (.cells #[.int .i64 5, .int .i64 dst, .int .i64 a, .int .i64 b, .int .u64 n, .int .i64 size, .string name, va, vo, .int .i64 tt] 42 (0, 0))).alloc (.cells #[.int .i64 0, .int .i64 0, .int .i64 0, .int .i64 0] 94 (0, 0)) = w1 at KB KP S1 ⊢
  generalize htb : w.heap.size = tb at KB KP HT ⊢
  replace HT := Lib.hid (show gx < tb ∧ own tb = 0 ∧ w.heap.size ≤ tb from ⟨HT.out.1, HT.out.2.1, Nat.le_of_eq htb⟩)
  clear htb
  have FB := Lib.hid (box_facts KB.out)
  refine wp_region_each 8 planPtr18 (fun _ _ => False) (Step (fun _ => False) w1) (fun _ => True) [Is ?v18_1_0, Is ?v18_1_1, Is ?v18_1_2, Is ?v18_1_3, Is ?v18_1_4, Is ?v18_1_5, Is ?v18_1_6, Is ?v18_1_7] [] (by kernel_rfl) (by kernel_rfl) (fun _ _ h => h.elim) ((Step.refl _ _).drew) (trivial) ?stab18_1 ?stabD18_1 ?obl18_1 ?fin18_1
  case stab18_1 => exact fun w w' h => ⟨fun k => k.trans h (fun _ x => x.elim), fun _ => trivial, ⟨fun _ k => k, fun _ k => k, fun _ k => k, fun _ k => k, fun _ k => k, fun _ k => k, fun _ k => k, fun _ k => k, trivial⟩, trivial⟩
  case stabD18_1 => exact fun _ _ h => h.elim
  case obl18_1 =>
    refine ⟨?o18_1_0, ?o18_1_1, ?o18_1_2, ?o18_1_3, ?o18_1_4, ?o18_1_5, ?o18_1_6, ?o18_1_7, trivial⟩
    all_goals intro xv wq hH hS H hU aq ha Q' hQ
    case o18_1_0 => cases rd0 ha; clear H hU hS; go_wp2_with fail; (try refine hQ _ _ ?_); refine ⟨Step.refl _ _, ?_, trivial, nofun⟩; exact (rfl : _ = _)
    case o18_1_1 | o18_1_2 => have ha := rd1 ha H (by kernel_rfl) rfl; simp only [q3, q5, q6, q7] at ha; subst ha; clear H hU hS; go_wp2_with fail; (try refine hQ _ _ ?_); refine ⟨Step.refl _ _, ?_, trivial, nofun⟩; exact (rfl : _ = _)
    case o18_1_3 => obtain ⟨f0, f3, f6, f7⟩ := FF.out _ (S1.out.then hH); obtain ⟨c0_dst, c1_dst, c2_dst, c3_dst, c4_dst, z_dst⟩ := FR.out _ (S1.out.then hH) dst ok_dst; obtain ⟨b0, b1, b2, b3, b4, b5, b6, b7, b8, b9⟩ := FB.out _ hH; obtain ⟨p0, p1, p2, p3, _⟩ := cells_known4 (hH.keeps KP.out); have ha := rd1 ha H (by kernel_rfl) rfl; simp only [q3, q5, q6, q7] at ha; subst ha; clear H hU hS; go_wp2_with fail; (try refine hQ _ _ ?_); refine ⟨Step.refl _ _, ?_, trivial, nofun⟩; exact (rfl : _ = _)
    case o18_1_4 => cases rd0 ha; clear H hU hS; go_wp2_with fail; (try refine hQ _ _ ?_); refine ⟨Step.refl _ _, ?_, trivial, nofun⟩; exact (rfl : _ = _)
    case o18_1_5 => obtain ⟨f0, f3, f6, f7⟩ := FF.out _ (S1.out.then hH); obtain ⟨c0_dst, c1_dst, c2_dst, c3_dst, c4_dst, z_dst⟩ := FR.out _ (S1.out.then hH) dst ok_dst; obtain ⟨b0, b1, b2, b3, b4, b5, b6, b7, b8, b9⟩ := FB.out _ hH; obtain ⟨p0, p1, p2, p3, _⟩ := cells_known4 (hH.keeps KP.out); have ha := rd1 ha H (by kernel_rfl) rfl; simp only [q3, q5, q6, q7] at ha; subst ha; clear H hU hS; go_wp2_with fail; (try refine hQ _ _ ?_); refine ⟨Step.refl _ _, ?_, trivial, nofun⟩; exact (rfl : _ = _)
    case o18_1_6 => obtain ⟨f0, f3, f6, f7⟩ := FF.out _ (S1.out.then hH); obtain ⟨c0_dst, c1_dst, c2_dst, c3_dst, c4_dst, z_dst⟩ := FR.out _ (S1.out.then hH) dst ok_dst; obtain ⟨b0, b1, b2, b3, b4, b5, b6, b7, b8, b9⟩ := FB.out _ hH; obtain ⟨p0, p1, p2, p3, _⟩ := cells_known4 (hH.keeps KP.out); cases rd0 ha; clear H hU hS; go_wp2_with fail; (try refine hQ _ _ ?_); refine ⟨Step.refl _ _, ?_, trivial, nofun⟩; exact (rfl : _ = _)
    case o18_1_7 => have ha := rd1 ha H (by kernel_rfl) rfl; simp only [q3, q5, q6, q7] at ha; subst ha; clear H hU hS; go_wp2_with fail; (try refine hQ _ _ ?_); refine ⟨Step.refl _ _, ?_, trivial, nofun⟩; exact (rfl : _ = _)
  intro xv w9 hH hS H hU hsz hF hN
  have h0 : xv 0 = _ := H 0 (by decide) (by kernel_rfl); have h1 : xv 1 = _ := H 1 (by decide) (by kernel_rfl); have h2 : xv 2 = _ := H 2 (by decide) (by kernel_rfl); have h3 : xv 3 = _ := H 3 (by decide) (by kernel_rfl); have h4 : xv 4 = _ := H 4 (by decide) (by kernel_rfl); have h5 : xv 5 = _ := H 5 (by decide) (by kernel_rfl); have h6 : xv 6 = _ := H 6 (by decide) (by kernel_rfl); have h7 : xv 7 = _ := H 7 (by decide) (by kernel_rfl)
  simp only [planPtr18, q1, q2, q3, q5, q6, q7, q4, List.drop_succ_cons, List.drop_zero, h0, h1, h2, h3, h4, h5, h6, h7]
  clear H hF hN hS hU h0 h1 h2 h3 h4 h5 h6 h7
  have S3 := Lib.hid (S1.out.then hH)
  obtain ⟨f0, f3, f6, f7⟩ := FF.out _ S3.out
  obtain ⟨c0_dst, c1_dst, c2_dst, c3_dst, c4_dst, z_dst⟩ := FR.out _ S3.out dst ok_dst
  clear hH
  go_wp2_with fail
  go_ret
  exact ⟨rfl, went_set (HW.out.still S3.out) (HF.out.still S3.out) ((Chg.calm own S3.out).g gx) HL.out rfl (by omega) (ptrV HP.zero)⟩
set_option maxHeartbeats 4000000 in
set_option maxRecDepth 100000 in
theorem ptr_6 (hW : MWAt w0 w pw own fnv tops st c) (hF : MFr w own pf pw gx vn vp vk vs vc vr vl regs slots) (hl : w0.heap.size ≤ gx) {v : Value} {i : FIns} (hi : InsAt w0 v i) (ho : i.op = 6) (ok_dst : ok1 regs i.dst) (hn : i.name.size ≤ maxLen) :
    Calls Try.prog 61 #[.pointer (some ⟨pf, 0, none⟩), v] w (fun e w' => e = .returned (.bool true) ∧ Went w0 w pw own fnv tops pf gx vn vp vk vs vc vr vl slots st c (regs.set i.dst.toNat (ptrV ((tops i.name.data.toList).getD HP.zero))) w') := by
  obtain ⟨va, vo, rfl, iargs, iouts⟩ := hi
  obtain ⟨op, dst, a, b, n, size, name, args, outs, tt⟩ := i
  simp only at *
  subst ho
  obtain ⟨rcap, rfl⟩ := regs_slice hF (by unfold ok1 at ok_dst; omega)
  have HW := Lib.hid hW
  have HF := Lib.hid hF
  have HL := Lib.hid hl
  have FF := Lib.hid (frame_facts hF)
  have FR := Lib.hid (reg_facts hF)
  unfold ok1 at ok_dst
  obtain ⟨p, hp⟩ : ∃ p, (tops name.data.toList).getD HP.zero = p := ⟨_, rfl⟩
  rw [hp]
  obtain ⟨bt, ft⟩ := top_facts HW.out hn hp
  have FT := Lib.hid ft
  clear ft hp
  clear hW hF hl
  obtain ⟨f0, f3, f6, f7⟩ := FF.out _ (Step.refl _ _)
  have hpf := block_lt f6
  simp only at hpf
  have kb := heap_alloc_new w (.cells #[.int .i64 6, .int .i64 dst, .int .i64 a, .int .i64 b, .int .u64 n, .int .i64 size, .string name, va, vo, .int .i64 tt] 42 (0, 0))
  have s1 := Step.alloc (fun _ => False) w (.cells #[.int .i64 6, .int .i64 dst, .int .i64 a, .int .i64 b, .int .u64 n, .int .i64 size, .string name, va, vo, .int .i64 tt] 42 (0, 0))
  have kp := heap_alloc_new (w.alloc (.cells #[.int .i64 6, .int .i64 dst, .int .i64 a, .int .i64 b, .int .u64 n, .int .i64 size, .string name, va, vo, .int .i64 tt] 42 (0, 0))) (.cells #[.int .i64 0, .int .i64 0, .int .i64 0, .int .i64 0] 94 (0, 0))
  have s2 := Step.alloc (fun _ => False) (w.alloc (.cells #[.int .i64 6, .int .i64 dst, .int .i64 a, .int .i64 b, .int .u64 n, .int .i64 size, .string name, va, vo, .int .i64 tt] 42 (0, 0))) (.cells #[.int .i64 0, .int .i64 0, .int .i64 0, .int .i64 0] 94 (0, 0))
  rw [show (w.alloc (.cells #[.int .i64 6, .int .i64 dst, .int .i64 a, .int .i64 b, .int .u64 n, .int .i64 size, .string name, va, vo, .int .i64 tt] 42 (0, 0))).heap.size = w.heap.size + 1 by simp] at kp
  have KB := Lib.hid (s2.keeps kb)
  have KP := Lib.hid kp
  have S1 := Lib.hid (s1.then s2)
  have HT := Lib.hid (show gx < w.heap.size ∧ own w.heap.size = 0 ∧ w.heap.size ≤ w.heap.size from ⟨HF.out.free.2.2.2, HW.out.fresh0, Nat.le_refl _⟩)
  clear kb kp s1 s2
  go_enter Try.func61, Try.ntmps61
  go_upto_region 6 with fail
  clear f0 f3 f6 f7 hpf
  generalize (w.alloc (.cells #[.int .i64 6, .int .i64 dst, .int .i64 a, .int .i64 b, .int .u64 n, .int .i64 size, .string name, va, vo, .int .i64 tt] 42 (0, 0))).alloc (.cells #[.int .i64 0, .int .i64 0, .int .i64 0, .int .i64 0] 94 (0, 0)) = w1 at KB KP S1 ⊢
  generalize htb : w.heap.size = tb at KB KP HT ⊢
  replace HT := Lib.hid (show gx < tb ∧ own tb = 0 ∧ w.heap.size ≤ tb from ⟨HT.out.1, HT.out.2.1, Nat.le_of_eq htb⟩)
  clear htb
  have FB := Lib.hid (box_facts KB.out)
  refine wp_region_each 9 planPtr6 (fun _ _ => False) (Step (fun _ => False) w1) (fun _ => True) [Is ?v6_2_0, Is ?v6_2_1, Is ?v6_2_2, Is ?v6_2_3, Is ?v6_2_4, Is ?v6_2_5, Is ?v6_2_6, Is ?v6_2_7, Is ?v6_2_8] [] (by kernel_rfl) (by kernel_rfl) (fun _ _ h => h.elim) ((Step.refl _ _).drew) (trivial) ?stab6_2 ?stabD6_2 ?obl6_2 ?fin6_2
  case stab6_2 => exact fun w w' h => ⟨fun k => k.trans h (fun _ x => x.elim), fun _ => trivial, ⟨fun _ k => k, fun _ k => k, fun _ k => k, fun _ k => k, fun _ k => k, fun _ k => k, fun _ k => k, fun _ k => k, fun _ k => k, trivial⟩, trivial⟩
  case stabD6_2 => exact fun _ _ h => h.elim
  case obl6_2 =>
    refine ⟨?o6_2_0, ?o6_2_1, ?o6_2_2, ?o6_2_3, ?o6_2_4, ?o6_2_5, ?o6_2_6, ?o6_2_7, ?o6_2_8, trivial⟩
    all_goals intro xv wq hH hS H hU aq ha Q' hQ
    case o6_2_0 => cases rd0 ha; clear H hU hS; go_wp2_with fail; (try refine hQ _ _ ?_); refine ⟨Step.refl _ _, ?_, trivial, nofun⟩; exact (rfl : _ = _)
    case o6_2_1 | o6_2_2 => have ha := rd1 ha H (by kernel_rfl) rfl; simp only [q3, q5, q6, q7] at ha; subst ha; clear H hU hS; go_wp2_with fail; (try refine hQ _ _ ?_); refine ⟨Step.refl _ _, ?_, trivial, nofun⟩; exact (rfl : _ = _)
    case o6_2_3 => obtain ⟨f0, f3, f6, f7⟩ := FF.out _ (S1.out.then hH); obtain ⟨b0, b1, b2, b3, b4, b5, b6, b7, b8, b9⟩ := FB.out _ hH; obtain ⟨mt, lt⟩ := FT.out _ (S1.out.then hH); have ha := rd1 ha H (by kernel_rfl) rfl; simp only [q3, q5, q6, q7] at ha; subst ha; clear H hU hS; go_wp2_with fail; (try refine hQ _ _ ?_); refine ⟨Step.refl _ _, ?_, trivial, nofun⟩; exact (rfl : _ = _)
    case o6_2_4 | o6_2_5 => have ha := rd1 ha H (by kernel_rfl) rfl; simp only [q3, q5, q6, q7] at ha; subst ha; clear H hU hS; go_wp2_with fail; (try refine hQ _ _ ?_); refine ⟨Step.refl _ _, ?_, trivial, nofun⟩; exact (rfl : _ = _)
    case o6_2_6 => obtain ⟨f0, f3, f6, f7⟩ := FF.out _ (S1.out.then hH); obtain ⟨b0, b1, b2, b3, b4, b5, b6, b7, b8, b9⟩ := FB.out _ hH; obtain ⟨mt, lt⟩ := FT.out _ (S1.out.then hH); have ha := rd1 ha H (by kernel_rfl) rfl; simp only [q3, q5, q6, q7] at ha; subst ha; clear H hU hS; go_wp2_with fail; (try refine hQ _ _ ?_); refine ⟨Step.refl _ _, ?_, trivial, nofun⟩; exact (rfl : _ = _)
    case o6_2_7 => cases rd0 ha; clear H hU hS; go_wp2_with fail; (try refine hQ _ _ ?_); refine ⟨Step.refl _ _, ?_, trivial, nofun⟩; exact (rfl : _ = _)
    case o6_2_8 => obtain ⟨f0, f3, f6, f7⟩ := FF.out _ (S1.out.then hH); obtain ⟨b0, b1, b2, b3, b4, b5, b6, b7, b8, b9⟩ := FB.out _ hH; obtain ⟨mt, lt⟩ := FT.out _ (S1.out.then hH); have ha := rd1 ha H (by kernel_rfl) rfl; simp only [q3, q5, q6, q7] at ha; subst ha; clear H hU hS; go_wp2_with fail; (try refine hQ _ _ ?_); refine ⟨Step.refl _ _, ?_, trivial, nofun⟩; exact (rfl : _ = _)
  intro xv w2 hH hS H hU hsz hF hN
  have h0 : xv 0 = _ := H 0 (by decide) (by kernel_rfl); have h1 : xv 1 = _ := H 1 (by decide) (by kernel_rfl); have h2 : xv 2 = _ := H 2 (by decide) (by kernel_rfl); have h3 : xv 3 = _ := H 3 (by decide) (by kernel_rfl); have h4 : xv 4 = _ := H 4 (by decide) (by kernel_rfl); have h5 : xv 5 = _ := H 5 (by decide) (by kernel_rfl); have h6 : xv 6 = _ := H 6 (by decide) (by kernel_rfl); have h7 : xv 7 = _ := H 7 (by decide) (by kernel_rfl); have h8 : xv 8 = _ := H 8 (by decide) (by kernel_rfl)
  simp only [planPtr6, q1, q2, q3, q5, q6, q7, q4, List.drop_succ_cons, List.drop_zero, h0, h1, h2, h3, h4, h5, h6, h7, h8]
  clear H hF hN hS hU h0 h1 h2 h3 h4 h5 h6 h7 h8
  have SA := Lib.hid hH
  have SB := Lib.hid (S1.out.then hH)
  obtain ⟨mt, lt⟩ := FT.out _ SB.out
  clear hH
  obtain ⟨w3, hw3, s3, kb3, kp3⟩ := put4 (wb := w) (p) SB.out (.inr (by have := HT.out.2.2; omega)) (SA.out.keeps KB.out) (SA.out.keeps KP.out)
  have HW3 := Lib.hid hw3
  have S3 := Lib.hid s3
  have KB3 := Lib.hid kb3
  have KP3 := Lib.hid kp3
  obtain ⟨p0, p1, p2, p3, _⟩ := cells_known4 (SA.out.keeps KP.out)
  clear hw3 s3 kb3 kp3
  go_upto_region 18 with fail
  rw [← HW3.out]
  clear HW3 KB KP FB SA SB p0 p1 p2 p3
  have FB := Lib.hid (box_facts KB3.out)
  refine wp_region_each 8 planPtr18 (fun _ _ => False) (Step (fun _ => False) w3) (fun _ => True) [Is ?v18_3_0, Is ?v18_3_1, Is ?v18_3_2, Is ?v18_3_3, Is ?v18_3_4, Is ?v18_3_5, Is ?v18_3_6, Is ?v18_3_7] [] (by kernel_rfl) (by kernel_rfl) (fun _ _ h => h.elim) ((Step.refl _ _).drew) (trivial) ?stab18_3 ?stabD18_3 ?obl18_3 ?fin18_3
  case stab18_3 => exact fun w w' h => ⟨fun k => k.trans h (fun _ x => x.elim), fun _ => trivial, ⟨fun _ k => k, fun _ k => k, fun _ k => k, fun _ k => k, fun _ k => k, fun _ k => k, fun _ k => k, fun _ k => k, trivial⟩, trivial⟩
  case stabD18_3 => exact fun _ _ h => h.elim
  case obl18_3 =>
    refine ⟨?o18_3_0, ?o18_3_1, ?o18_3_2, ?o18_3_3, ?o18_3_4, ?o18_3_5, ?o18_3_6, ?o18_3_7, trivial⟩
    all_goals intro xv wq hH hS H hU aq ha Q' hQ
    case o18_3_0 => cases rd0 ha; clear H hU hS; go_wp2_with fail; (try refine hQ _ _ ?_); refine ⟨Step.refl _ _, ?_, trivial, nofun⟩; exact (rfl : _ = _)
    case o18_3_1 | o18_3_2 => have ha := rd1 ha H (by kernel_rfl) rfl; simp only [q3, q5, q6, q7] at ha; subst ha; clear H hU hS; go_wp2_with fail; (try refine hQ _ _ ?_); refine ⟨Step.refl _ _, ?_, trivial, nofun⟩; exact (rfl : _ = _)
    case o18_3_3 => obtain ⟨f0, f3, f6, f7⟩ := FF.out _ (S3.out.then hH); obtain ⟨b0, b1, b2, b3, b4, b5, b6, b7, b8, b9⟩ := FB.out _ hH; obtain ⟨p0, p1, p2, p3, _⟩ := cells_known4 (hH.keeps KP3.out); have ha := rd1 ha H (by kernel_rfl) rfl; simp only [q3, q5, q6, q7] at ha; subst ha; clear H hU hS; go_wp2_with fail; (try refine hQ _ _ ?_); refine ⟨Step.refl _ _, ?_, trivial, nofun⟩; exact (rfl : _ = _)
    case o18_3_4 => cases rd0 ha; clear H hU hS; go_wp2_with fail; (try refine hQ _ _ ?_); refine ⟨Step.refl _ _, ?_, trivial, nofun⟩; exact (rfl : _ = _)
    case o18_3_5 => obtain ⟨f0, f3, f6, f7⟩ := FF.out _ (S3.out.then hH); obtain ⟨b0, b1, b2, b3, b4, b5, b6, b7, b8, b9⟩ := FB.out _ hH; obtain ⟨p0, p1, p2, p3, _⟩ := cells_known4 (hH.keeps KP3.out); have ha := rd1 ha H (by kernel_rfl) rfl; simp only [q3, q5, q6, q7] at ha; subst ha; clear H hU hS; go_wp2_with fail; (try refine hQ _ _ ?_); refine ⟨Step.refl _ _, ?_, trivial, nofun⟩; exact (rfl : _ = _)
    case o18_3_6 => obtain ⟨f0, f3, f6, f7⟩ := FF.out _ (S3.out.then hH); obtain ⟨b0, b1, b2, b3, b4, b5, b6, b7, b8, b9⟩ := FB.out _ hH; obtain ⟨p0, p1, p2, p3, _⟩ := cells_known4 (hH.keeps KP3.out); cases rd0 ha; clear H hU hS; go_wp2_with fail; (try refine hQ _ _ ?_); refine ⟨Step.refl _ _, ?_, trivial, nofun⟩; exact (rfl : _ = _)
    case o18_3_7 => have ha := rd1 ha H (by kernel_rfl) rfl; simp only [q3, q5, q6, q7] at ha; subst ha; clear H hU hS; go_wp2_with fail; (try refine hQ _ _ ?_); refine ⟨Step.refl _ _, ?_, trivial, nofun⟩; exact (rfl : _ = _)
  intro xv w9 hH hS H hU hsz hF hN
  have h0 : xv 0 = _ := H 0 (by decide) (by kernel_rfl); have h1 : xv 1 = _ := H 1 (by decide) (by kernel_rfl); have h2 : xv 2 = _ := H 2 (by decide) (by kernel_rfl); have h3 : xv 3 = _ := H 3 (by decide) (by kernel_rfl); have h4 : xv 4 = _ := H 4 (by decide) (by kernel_rfl); have h5 : xv 5 = _ := H 5 (by decide) (by kernel_rfl); have h6 : xv 6 = _ := H 6 (by decide) (by kernel_rfl); have h7 : xv 7 = _ := H 7 (by decide) (by kernel_rfl)
  simp only [planPtr18, q1, q2, q3, q5, q6, q7, q4, List.drop_succ_cons, List.drop_zero, h0, h1, h2, h3, h4, h5, h6, h7]
  clear H hF hN hS hU h0 h1 h2 h3 h4 h5 h6 h7
  have S9 := Lib.hid (S3.out.then hH)
  obtain ⟨f0, f3, f6, f7⟩ := FF.out _ S9.out
  obtain ⟨c0_dst, c1_dst, c2_dst, c3_dst, c4_dst, z_dst⟩ := FR.out _ S9.out dst ok_dst
  clear hH
  go_wp2_with fail
  go_ret
  exact ⟨rfl, went_set (HW.out.still S9.out) (HF.out.still S9.out) ((Chg.calm own S9.out).g gx) HL.out rfl (by omega) (ptrV (p))⟩
set_option maxHeartbeats 4000000 in
set_option maxRecDepth 100000 in
theorem ptr_7 (hW : MWAt w0 w pw own fnv tops st c) (hF : MFr w own pf pw gx vn vp vk vs vc vr vl regs slots) (hl : w0.heap.size ≤ gx) {v : Value} {i : FIns} (hi : InsAt w0 v i) (ho : i.op = 7) (ok_dst : ok1 regs i.dst) (on : 0 ≤ i.n ∧ i.n < slots.length) (hsl : slots.length ≤ 1000000) :
    Calls Try.prog 61 #[.pointer (some ⟨pf, 0, none⟩), v] w (fun e w' => e = .returned (.bool true) ∧ Went w0 w pw own fnv tops pf gx vn vp vk vs vc vr vl slots st c (regs.set i.dst.toNat (ptrV (slots.getD i.n.toNat HP.zero))) w') := by
  obtain ⟨va, vo, rfl, iargs, iouts⟩ := hi
  obtain ⟨op, dst, a, b, n, size, name, args, outs, tt⟩ := i
  simp only at *
  subst ho
  obtain ⟨rcap, rfl⟩ := regs_slice hF (by unfold ok1 at ok_dst; omega)
  have HW := Lib.hid hW
  have HF := Lib.hid hF
  have HL := Lib.hid hl
  have FF := Lib.hid (frame_facts hF)
  have FR := Lib.hid (reg_facts hF)
  unfold ok1 at ok_dst
  obtain ⟨sg, scap, rfl, fs⟩ := slot_facts hF (by omega)
  obtain ⟨p, hp⟩ : ∃ p, slots.getD n.toNat HP.zero = p := ⟨_, rfl⟩
  rw [hp]
  have FS := Lib.hid (show ∀ y, Step (fun _ => False) w y → y.cell? ⟨sg, n.toNat * 4, none⟩ = some (.int .i64 p.block) ∧ y.cell? ⟨sg, n.toNat * 4 + 1, none⟩ = some (.int .i64 p.off) ∧ y.cell? ⟨sg, n.toNat * 4 + 2, none⟩ = some (.int .i64 p.low) ∧ y.cell? ⟨sg, n.toNat * 4 + 3, none⟩ = some (.int .i64 p.high) from fun y hy => by rw [← hp]; exact fs y hy n on)
  clear fs hp
  clear hW hF hl
  obtain ⟨f0, f3, f6, f7⟩ := FF.out _ (Step.refl _ _)
  have hpf := block_lt f6
  simp only at hpf
  have kb := heap_alloc_new w (.cells #[.int .i64 7, .int .i64 dst, .int .i64 a, .int .i64 b, .int .u64 n, .int .i64 size, .string name, va, vo, .int .i64 tt] 42 (0, 0))
  have s1 := Step.alloc (fun _ => False) w (.cells #[.int .i64 7, .int .i64 dst, .int .i64 a, .int .i64 b, .int .u64 n, .int .i64 size, .string name, va, vo, .int .i64 tt] 42 (0, 0))
  have kp := heap_alloc_new (w.alloc (.cells #[.int .i64 7, .int .i64 dst, .int .i64 a, .int .i64 b, .int .u64 n, .int .i64 size, .string name, va, vo, .int .i64 tt] 42 (0, 0))) (.cells #[.int .i64 0, .int .i64 0, .int .i64 0, .int .i64 0] 94 (0, 0))
  have s2 := Step.alloc (fun _ => False) (w.alloc (.cells #[.int .i64 7, .int .i64 dst, .int .i64 a, .int .i64 b, .int .u64 n, .int .i64 size, .string name, va, vo, .int .i64 tt] 42 (0, 0))) (.cells #[.int .i64 0, .int .i64 0, .int .i64 0, .int .i64 0] 94 (0, 0))
  rw [show (w.alloc (.cells #[.int .i64 7, .int .i64 dst, .int .i64 a, .int .i64 b, .int .u64 n, .int .i64 size, .string name, va, vo, .int .i64 tt] 42 (0, 0))).heap.size = w.heap.size + 1 by simp] at kp
  have KB := Lib.hid (s2.keeps kb)
  have KP := Lib.hid kp
  have S1 := Lib.hid (s1.then s2)
  have HT := Lib.hid (show gx < w.heap.size ∧ own w.heap.size = 0 ∧ w.heap.size ≤ w.heap.size from ⟨HF.out.free.2.2.2, HW.out.fresh0, Nat.le_refl _⟩)
  clear kb kp s1 s2
  go_enter Try.func61, Try.ntmps61
  go_upto_region 8 with fail
  clear f0 f3 f6 f7 hpf
  generalize (w.alloc (.cells #[.int .i64 7, .int .i64 dst, .int .i64 a, .int .i64 b, .int .u64 n, .int .i64 size, .string name, va, vo, .int .i64 tt] 42 (0, 0))).alloc (.cells #[.int .i64 0, .int .i64 0, .int .i64 0, .int .i64 0] 94 (0, 0)) = w1 at KB KP S1 ⊢
  generalize htb : w.heap.size = tb at KB KP HT ⊢
  replace HT := Lib.hid (show gx < tb ∧ own tb = 0 ∧ w.heap.size ≤ tb from ⟨HT.out.1, HT.out.2.1, Nat.le_of_eq htb⟩)
  clear htb
  have FB := Lib.hid (box_facts KB.out)
  refine wp_region_each 6 planPtr8 (fun _ _ => False) (Step (fun _ => False) w1) (fun _ => True) [Is ?v8_4_0, Is ?v8_4_1, Is ?v8_4_2, Is ?v8_4_3, Is ?v8_4_4, Is ?v8_4_5] [] (by kernel_rfl) (by kernel_rfl) (fun _ _ h => h.elim) ((Step.refl _ _).drew) (trivial) ?stab8_4 ?stabD8_4 ?obl8_4 ?fin8_4
  case stab8_4 => exact fun w w' h => ⟨fun k => k.trans h (fun _ x => x.elim), fun _ => trivial, ⟨fun _ k => k, fun _ k => k, fun _ k => k, fun _ k => k, fun _ k => k, fun _ k => k, trivial⟩, trivial⟩
  case stabD8_4 => exact fun _ _ h => h.elim
  case obl8_4 =>
    refine ⟨?o8_4_0, ?o8_4_1, ?o8_4_2, ?o8_4_3, ?o8_4_4, ?o8_4_5, trivial⟩
    all_goals intro xv wq hH hS H hU aq ha Q' hQ
    case o8_4_0 => cases rd0 ha; clear H hU hS; go_wp2_with fail; (try refine hQ _ _ ?_); refine ⟨Step.refl _ _, ?_, trivial, nofun⟩; exact (rfl : _ = _)
    case o8_4_1 | o8_4_2 => have ha := rd1 ha H (by kernel_rfl) rfl; simp only [q3, q5, q6, q7] at ha; subst ha; clear H hU hS; go_wp2_with fail; (try refine hQ _ _ ?_); refine ⟨Step.refl _ _, ?_, trivial, nofun⟩; exact (rfl : _ = _)
    case o8_4_3 => obtain ⟨f0, f3, f6, f7⟩ := FF.out _ (S1.out.then hH); obtain ⟨b0, b1, b2, b3, b4, b5, b6, b7, b8, b9⟩ := FB.out _ hH; obtain ⟨s0, s1, s2, s3⟩ := FS.out _ (S1.out.then hH); have ha := rd1 ha H (by kernel_rfl) rfl; simp only [q3, q5, q6, q7] at ha; subst ha; clear H hU hS; go_wp2_with fail; (try refine hQ _ _ ?_); refine ⟨Step.refl _ _, ?_, trivial, nofun⟩; exact (rfl : _ = _)
    case o8_4_4 => cases rd0 ha; clear H hU hS; go_wp2_with fail; (try refine hQ _ _ ?_); refine ⟨Step.refl _ _, ?_, trivial, nofun⟩; exact (rfl : _ = _)
    case o8_4_5 => obtain ⟨f0, f3, f6, f7⟩ := FF.out _ (S1.out.then hH); obtain ⟨b0, b1, b2, b3, b4, b5, b6, b7, b8, b9⟩ := FB.out _ hH; obtain ⟨s0, s1, s2, s3⟩ := FS.out _ (S1.out.then hH); have ha := rd1 ha H (by kernel_rfl) rfl; simp only [q3, q5, q6, q7] at ha; subst ha; clear H hU hS; go_wp2_with fail; (try refine hQ _ _ ?_); refine ⟨Step.refl _ _, ?_, trivial, nofun⟩; exact (rfl : _ = _)
  intro xv w2 hH hS H hU hsz hF hN
  have h0 : xv 0 = _ := H 0 (by decide) (by kernel_rfl); have h1 : xv 1 = _ := H 1 (by decide) (by kernel_rfl); have h2 : xv 2 = _ := H 2 (by decide) (by kernel_rfl); have h3 : xv 3 = _ := H 3 (by decide) (by kernel_rfl); have h4 : xv 4 = _ := H 4 (by decide) (by kernel_rfl); have h5 : xv 5 = _ := H 5 (by decide) (by kernel_rfl)
  simp only [planPtr8, q1, q2, q3, q5, q6, q7, q4, List.drop_succ_cons, List.drop_zero, h0, h1, h2, h3, h4, h5]
  clear H hF hN hS hU h0 h1 h2 h3 h4 h5
  have SA := Lib.hid hH
  have SB := Lib.hid (S1.out.then hH)
  obtain ⟨f0, f3, f6, f7⟩ := FF.out _ SB.out
  obtain ⟨s0, s1, s2, s3⟩ := FS.out _ SB.out
  clear hH
  obtain ⟨w3, hw3, s3, kb3, kp3⟩ := put4 (wb := w) (p) SB.out (.inr (by have := HT.out.2.2; omega)) (SA.out.keeps KB.out) (SA.out.keeps KP.out)
  have HW3 := Lib.hid hw3
  have S3 := Lib.hid s3
  have KB3 := Lib.hid kb3
  have KP3 := Lib.hid kp3
  obtain ⟨p0, p1, p2, p3, _⟩ := cells_known4 (SA.out.keeps KP.out)
  clear hw3 s3 kb3 kp3
  go_upto_region 18 with fail
  rw [← HW3.out]
  clear HW3 KB KP FB SA SB p0 p1 p2 p3
  have FB := Lib.hid (box_facts KB3.out)
  refine wp_region_each 8 planPtr18 (fun _ _ => False) (Step (fun _ => False) w3) (fun _ => True) [Is ?v18_5_0, Is ?v18_5_1, Is ?v18_5_2, Is ?v18_5_3, Is ?v18_5_4, Is ?v18_5_5, Is ?v18_5_6, Is ?v18_5_7] [] (by kernel_rfl) (by kernel_rfl) (fun _ _ h => h.elim) ((Step.refl _ _).drew) (trivial) ?stab18_5 ?stabD18_5 ?obl18_5 ?fin18_5
  case stab18_5 => exact fun w w' h => ⟨fun k => k.trans h (fun _ x => x.elim), fun _ => trivial, ⟨fun _ k => k, fun _ k => k, fun _ k => k, fun _ k => k, fun _ k => k, fun _ k => k, fun _ k => k, fun _ k => k, trivial⟩, trivial⟩
  case stabD18_5 => exact fun _ _ h => h.elim
  case obl18_5 =>
    refine ⟨?o18_5_0, ?o18_5_1, ?o18_5_2, ?o18_5_3, ?o18_5_4, ?o18_5_5, ?o18_5_6, ?o18_5_7, trivial⟩
    all_goals intro xv wq hH hS H hU aq ha Q' hQ
    case o18_5_0 => cases rd0 ha; clear H hU hS; go_wp2_with fail; (try refine hQ _ _ ?_); refine ⟨Step.refl _ _, ?_, trivial, nofun⟩; exact (rfl : _ = _)
    case o18_5_1 | o18_5_2 => have ha := rd1 ha H (by kernel_rfl) rfl; simp only [q3, q5, q6, q7] at ha; subst ha; clear H hU hS; go_wp2_with fail; (try refine hQ _ _ ?_); refine ⟨Step.refl _ _, ?_, trivial, nofun⟩; exact (rfl : _ = _)
    case o18_5_3 => obtain ⟨f0, f3, f6, f7⟩ := FF.out _ (S3.out.then hH); obtain ⟨b0, b1, b2, b3, b4, b5, b6, b7, b8, b9⟩ := FB.out _ hH; obtain ⟨p0, p1, p2, p3, _⟩ := cells_known4 (hH.keeps KP3.out); have ha := rd1 ha H (by kernel_rfl) rfl; simp only [q3, q5, q6, q7] at ha; subst ha; clear H hU hS; go_wp2_with fail; (try refine hQ _ _ ?_); refine ⟨Step.refl _ _, ?_, trivial, nofun⟩; exact (rfl : _ = _)
    case o18_5_4 => cases rd0 ha; clear H hU hS; go_wp2_with fail; (try refine hQ _ _ ?_); refine ⟨Step.refl _ _, ?_, trivial, nofun⟩; exact (rfl : _ = _)
    case o18_5_5 => obtain ⟨f0, f3, f6, f7⟩ := FF.out _ (S3.out.then hH); obtain ⟨b0, b1, b2, b3, b4, b5, b6, b7, b8, b9⟩ := FB.out _ hH; obtain ⟨p0, p1, p2, p3, _⟩ := cells_known4 (hH.keeps KP3.out); have ha := rd1 ha H (by kernel_rfl) rfl; simp only [q3, q5, q6, q7] at ha; subst ha; clear H hU hS; go_wp2_with fail; (try refine hQ _ _ ?_); refine ⟨Step.refl _ _, ?_, trivial, nofun⟩; exact (rfl : _ = _)
    case o18_5_6 => obtain ⟨f0, f3, f6, f7⟩ := FF.out _ (S3.out.then hH); obtain ⟨b0, b1, b2, b3, b4, b5, b6, b7, b8, b9⟩ := FB.out _ hH; obtain ⟨p0, p1, p2, p3, _⟩ := cells_known4 (hH.keeps KP3.out); cases rd0 ha; clear H hU hS; go_wp2_with fail; (try refine hQ _ _ ?_); refine ⟨Step.refl _ _, ?_, trivial, nofun⟩; exact (rfl : _ = _)
    case o18_5_7 => have ha := rd1 ha H (by kernel_rfl) rfl; simp only [q3, q5, q6, q7] at ha; subst ha; clear H hU hS; go_wp2_with fail; (try refine hQ _ _ ?_); refine ⟨Step.refl _ _, ?_, trivial, nofun⟩; exact (rfl : _ = _)
  intro xv w9 hH hS H hU hsz hF hN
  have h0 : xv 0 = _ := H 0 (by decide) (by kernel_rfl); have h1 : xv 1 = _ := H 1 (by decide) (by kernel_rfl); have h2 : xv 2 = _ := H 2 (by decide) (by kernel_rfl); have h3 : xv 3 = _ := H 3 (by decide) (by kernel_rfl); have h4 : xv 4 = _ := H 4 (by decide) (by kernel_rfl); have h5 : xv 5 = _ := H 5 (by decide) (by kernel_rfl); have h6 : xv 6 = _ := H 6 (by decide) (by kernel_rfl); have h7 : xv 7 = _ := H 7 (by decide) (by kernel_rfl)
  simp only [planPtr18, q1, q2, q3, q5, q6, q7, q4, List.drop_succ_cons, List.drop_zero, h0, h1, h2, h3, h4, h5, h6, h7]
  clear H hF hN hS hU h0 h1 h2 h3 h4 h5 h6 h7
  have S9 := Lib.hid (S3.out.then hH)
  obtain ⟨f0, f3, f6, f7⟩ := FF.out _ S9.out
  obtain ⟨c0_dst, c1_dst, c2_dst, c3_dst, c4_dst, z_dst⟩ := FR.out _ S9.out dst ok_dst
  clear hH
  go_wp2_with fail
  go_ret
  exact ⟨rfl, went_set (HW.out.still S9.out) (HF.out.still S9.out) ((Chg.calm own S9.out).g gx) HL.out rfl (by omega) (ptrV (p))⟩
set_option maxHeartbeats 4000000 in
set_option maxRecDepth 100000 in
theorem ptr_8 (hW : MWAt w0 w pw own fnv tops st c) (hF : MFr w own pf pw gx vn vp vk vs vc vr vl regs slots) (hl : w0.heap.size ≤ gx) {v : Value} {i : FIns} (hi : InsAt w0 v i) (ho : i.op = 8) (ok_dst : ok1 regs i.dst) (ok_a : ok1 regs i.a) (ok_b : ok1 regs i.b) :
    Calls Try.prog 61 #[.pointer (some ⟨pf, 0, none⟩), v] w (fun e w' => e = .returned (.bool true) ∧ Went w0 w pw own fnv tops pf gx vn vp vk vs vc vr vl slots st c (regs.set i.dst.toNat (ptrV (moveP (rgV regs i.a).ptr (wrap64 (rgV regs i.b).num)))) w') := by
  obtain ⟨va, vo, rfl, iargs, iouts⟩ := hi
  obtain ⟨op, dst, a, b, n, size, name, args, outs, tt⟩ := i
  simp only at *
  subst ho
  obtain ⟨rcap, rfl⟩ := regs_slice hF (by unfold ok1 at ok_dst; omega)
  have HW := Lib.hid hW
  have HF := Lib.hid hF
  have HL := Lib.hid hl
  have FF := Lib.hid (frame_facts hF)
  have FR := Lib.hid (reg_facts hF)
  unfold ok1 at ok_dst ok_a ok_b
  clear hW hF hl
  obtain ⟨f0, f3, f6, f7⟩ := FF.out _ (Step.refl _ _)
  have hpf := block_lt f6
  simp only at hpf
  have kb := heap_alloc_new w (.cells #[.int .i64 8, .int .i64 dst, .int .i64 a, .int .i64 b, .int .u64 n, .int .i64 size, .string name, va, vo, .int .i64 tt] 42 (0, 0))
  have s1 := Step.alloc (fun _ => False) w (.cells #[.int .i64 8, .int .i64 dst, .int .i64 a, .int .i64 b, .int .u64 n, .int .i64 size, .string name, va, vo, .int .i64 tt] 42 (0, 0))
  have kp := heap_alloc_new (w.alloc (.cells #[.int .i64 8, .int .i64 dst, .int .i64 a, .int .i64 b, .int .u64 n, .int .i64 size, .string name, va, vo, .int .i64 tt] 42 (0, 0))) (.cells #[.int .i64 0, .int .i64 0, .int .i64 0, .int .i64 0] 94 (0, 0))
  have s2 := Step.alloc (fun _ => False) (w.alloc (.cells #[.int .i64 8, .int .i64 dst, .int .i64 a, .int .i64 b, .int .u64 n, .int .i64 size, .string name, va, vo, .int .i64 tt] 42 (0, 0))) (.cells #[.int .i64 0, .int .i64 0, .int .i64 0, .int .i64 0] 94 (0, 0))
  rw [show (w.alloc (.cells #[.int .i64 8, .int .i64 dst, .int .i64 a, .int .i64 b, .int .u64 n, .int .i64 size, .string name, va, vo, .int .i64 tt] 42 (0, 0))).heap.size = w.heap.size + 1 by simp] at kp
  have KB := Lib.hid (s2.keeps kb)
  have KP := Lib.hid kp
  have S1 := Lib.hid (s1.then s2)
  have HT := Lib.hid (show gx < w.heap.size ∧ own w.heap.size = 0 ∧ w.heap.size ≤ w.heap.size from ⟨HF.out.free.2.2.2, HW.out.fresh0, Nat.le_refl _⟩)
  clear kb kp s1 s2
  go_enter Try.func61, Try.ntmps61
  go_upto_region 10 with fail
  clear f0 f3 f6 f7 hpf
  generalize (w.alloc (.cells #[.int .i64 8, .int .i64 dst, .int .i64 a, .int .i64 b, .int .u64 n, .int .i64 size, .string name, va, vo, .int .i64 tt] 42 (0, 0))).alloc (.cells #[.int .i64 0, .int .i64 0, .int .i64 0, .int .i64 0] 94 (0, 0)) = w1 at KB KP S1 ⊢
  generalize htb : w.heap.size = tb at KB KP HT ⊢
  replace HT := Lib.hid (show gx < tb ∧ own tb = 0 ∧ w.heap.size ≤ tb from ⟨HT.out.1, HT.out.2.1, Nat.le_of_eq htb⟩)
  clear htb
  have FB := Lib.hid (box_facts KB.out)
  refine wp_region_each 19 planPtr10 (fun _ _ => False) (Step (fun _ => False) w1) (fun _ => True) [Is ?v10_6_0, Is ?v10_6_1, Is ?v10_6_2, Is ?v10_6_3, Is ?v10_6_4, Is ?v10_6_5, Is ?v10_6_6, Is ?v10_6_7, Is ?v10_6_8, Is ?v10_6_9, Is ?v10_6_10, Is ?v10_6_11, Is ?v10_6_12, Is ?v10_6_13, Is ?v10_6_14, Is ?v10_6_15, Is ?v10_6_16, Is ?v10_6_17, Is ?v10_6_18] [] (by kernel_rfl) (by kernel_rfl) (fun _ _ h => h.elim) ((Step.refl _ _).drew) (trivial) ?stab10_6 ?stabD10_6 ?obl10_6 ?fin10_6
  case stab10_6 => exact fun w w' h => ⟨fun k => k.trans h (fun _ x => x.elim), fun _ => trivial, ⟨fun _ k => k, fun _ k => k, fun _ k => k, fun _ k => k, fun _ k => k, fun _ k => k, fun _ k => k, fun _ k => k, fun _ k => k, fun _ k => k, fun _ k => k, fun _ k => k, fun _ k => k, fun _ k => k, fun _ k => k, fun _ k => k, fun _ k => k, fun _ k => k, fun _ k => k, trivial⟩, trivial⟩
  case stabD10_6 => exact fun _ _ h => h.elim
  case obl10_6 =>
    refine ⟨?o10_6_0, ?o10_6_1, ?o10_6_2, ?o10_6_3, ?o10_6_4, ?o10_6_5, ?o10_6_6, ?o10_6_7, ?o10_6_8, ?o10_6_9, ?o10_6_10, ?o10_6_11, ?o10_6_12, ?o10_6_13, ?o10_6_14, ?o10_6_15, ?o10_6_16, ?o10_6_17, ?o10_6_18, trivial⟩
    all_goals intro xv wq hH hS H hU aq ha Q' hQ
    case o10_6_0 => cases rd0 ha; clear H hU hS; go_wp2_with fail; (try refine hQ _ _ ?_); refine ⟨Step.refl _ _, ?_, trivial, nofun⟩; exact (rfl : _ = _)
    case o10_6_1 | o10_6_2 => have ha := rd1 ha H (by kernel_rfl) rfl; simp only [q3, q5, q6, q7] at ha; subst ha; clear H hU hS; go_wp2_with fail; (try refine hQ _ _ ?_); refine ⟨Step.refl _ _, ?_, trivial, nofun⟩; exact (rfl : _ = _)
    case o10_6_3 => obtain ⟨f0, f3, f6, f7⟩ := FF.out _ (S1.out.then hH); obtain ⟨c0_a, c1_a, c2_a, c3_a, c4_a, z_a⟩ := FR.out _ (S1.out.then hH) a ok_a; obtain ⟨c0_b, c1_b, c2_b, c3_b, c4_b, z_b⟩ := FR.out _ (S1.out.then hH) b ok_b; obtain ⟨b0, b1, b2, b3, b4, b5, b6, b7, b8, b9⟩ := FB.out _ hH; have ha := rd1 ha H (by kernel_rfl) rfl; simp only [q3, q5, q6, q7] at ha; subst ha; clear H hU hS; go_wp2_with fail; (try refine hQ _ _ ?_); refine ⟨Step.refl _ _, ?_, trivial, nofun⟩; exact (rfl : _ = _)
    case o10_6_4 => cases rd0 ha; clear H hU hS; go_wp2_with fail; (try refine hQ _ _ ?_); refine ⟨Step.refl _ _, ?_, trivial, nofun⟩; exact (rfl : _ = _)
    case o10_6_5 => obtain ⟨f0, f3, f6, f7⟩ := FF.out _ (S1.out.then hH); obtain ⟨c0_a, c1_a, c2_a, c3_a, c4_a, z_a⟩ := FR.out _ (S1.out.then hH) a ok_a; obtain ⟨c0_b, c1_b, c2_b, c3_b, c4_b, z_b⟩ := FR.out _ (S1.out.then hH) b ok_b; obtain ⟨b0, b1, b2, b3, b4, b5, b6, b7, b8, b9⟩ := FB.out _ hH; have ha := rd1 ha H (by kernel_rfl) rfl; simp only [q3, q5, q6, q7] at ha; subst ha; clear H hU hS; go_wp2_with fail; (try refine hQ _ _ ?_); refine ⟨Step.refl _ _, ?_, trivial, nofun⟩; exact (rfl : _ = _)
    case o10_6_6 => obtain ⟨f0, f3, f6, f7⟩ := FF.out _ (S1.out.then hH); obtain ⟨c0_a, c1_a, c2_a, c3_a, c4_a, z_a⟩ := FR.out _ (S1.out.then hH) a ok_a; obtain ⟨c0_b, c1_b, c2_b, c3_b, c4_b, z_b⟩ := FR.out _ (S1.out.then hH) b ok_b; obtain ⟨b0, b1, b2, b3, b4, b5, b6, b7, b8, b9⟩ := FB.out _ hH; have ha := rd2 ha H (by kernel_rfl) (by kernel_rfl) rfl rfl; simp only [q3, q5, q6, q7] at ha; subst ha; clear H hU hS; go_wp2_with fail; (try refine hQ _ _ ?_); refine ⟨Step.refl _ _, ?_, trivial, nofun⟩; exact (rfl : _ = _)
    case o10_6_7 => have ha := rd1 ha H (by kernel_rfl) rfl; simp only [q3, q5, q6, q7] at ha; subst ha; clear H hU hS; go_wp2_with fail; (try refine hQ _ _ ?_); refine ⟨Step.refl _ _, ?_, trivial, nofun⟩; exact (rfl : _ = _)
    case o10_6_8 => obtain ⟨f0, f3, f6, f7⟩ := FF.out _ (S1.out.then hH); obtain ⟨c0_a, c1_a, c2_a, c3_a, c4_a, z_a⟩ := FR.out _ (S1.out.then hH) a ok_a; obtain ⟨c0_b, c1_b, c2_b, c3_b, c4_b, z_b⟩ := FR.out _ (S1.out.then hH) b ok_b; obtain ⟨b0, b1, b2, b3, b4, b5, b6, b7, b8, b9⟩ := FB.out _ hH; have ha := rd1 ha H (by kernel_rfl) rfl; simp only [q3, q5, q6, q7] at ha; subst ha; clear H hU hS; go_wp2_with fail; (try refine hQ _ _ ?_); refine ⟨Step.refl _ _, ?_, trivial, nofun⟩; exact (rfl : _ = _)
    case o10_6_9 => cases rd0 ha; clear H hU hS; go_wp2_with fail; (try refine hQ _ _ ?_); refine ⟨Step.refl _ _, ?_, trivial, nofun⟩; exact (rfl : _ = _)
    case o10_6_10 | o10_6_11 => have ha := rd1 ha H (by kernel_rfl) rfl; simp only [q3, q5, q6, q7] at ha; subst ha; clear H hU hS; go_wp2_with fail; (try refine hQ _ _ ?_); refine ⟨Step.refl _ _, ?_, trivial, nofun⟩; exact (rfl : _ = _)
    case o10_6_12 => obtain ⟨f0, f3, f6, f7⟩ := FF.out _ (S1.out.then hH); obtain ⟨c0_a, c1_a, c2_a, c3_a, c4_a, z_a⟩ := FR.out _ (S1.out.then hH) a ok_a; obtain ⟨c0_b, c1_b, c2_b, c3_b, c4_b, z_b⟩ := FR.out _ (S1.out.then hH) b ok_b; obtain ⟨b0, b1, b2, b3, b4, b5, b6, b7, b8, b9⟩ := FB.out _ hH; have ha := rd1 ha H (by kernel_rfl) rfl; simp only [q3, q5, q6, q7] at ha; subst ha; clear H hU hS; go_wp2_with fail; (try refine hQ _ _ ?_); refine ⟨Step.refl _ _, ?_, trivial, nofun⟩; exact (rfl : _ = _)
    case o10_6_13 => cases rd0 ha; clear H hU hS; go_wp2_with fail; (try refine hQ _ _ ?_); refine ⟨Step.refl _ _, ?_, trivial, nofun⟩; exact (rfl : _ = _)
    case o10_6_14 => obtain ⟨f0, f3, f6, f7⟩ := FF.out _ (S1.out.then hH); obtain ⟨c0_a, c1_a, c2_a, c3_a, c4_a, z_a⟩ := FR.out _ (S1.out.then hH) a ok_a; obtain ⟨c0_b, c1_b, c2_b, c3_b, c4_b, z_b⟩ := FR.out _ (S1.out.then hH) b ok_b; obtain ⟨b0, b1, b2, b3, b4, b5, b6, b7, b8, b9⟩ := FB.out _ hH; have ha := rd1 ha H (by kernel_rfl) rfl; simp only [q3, q5, q6, q7] at ha; subst ha; clear H hU hS; go_wp2_with fail; (try refine hQ _ _ ?_); refine ⟨Step.refl _ _, ?_, trivial, nofun⟩; exact (rfl : _ = _)
    case o10_6_15 => obtain ⟨f0, f3, f6, f7⟩ := FF.out _ (S1.out.then hH); obtain ⟨c0_a, c1_a, c2_a, c3_a, c4_a, z_a⟩ := FR.out _ (S1.out.then hH) a ok_a; obtain ⟨c0_b, c1_b, c2_b, c3_b, c4_b, z_b⟩ := FR.out _ (S1.out.then hH) b ok_b; obtain ⟨b0, b1, b2, b3, b4, b5, b6, b7, b8, b9⟩ := FB.out _ hH; have ha := rd2 ha H (by kernel_rfl) (by kernel_rfl) rfl rfl; simp only [q3, q5, q6, q7] at ha; subst ha; clear H hU hS; go_wp2_with fail; (try refine hQ _ _ ?_); refine ⟨Step.refl _ _, ?_, trivial, nofun⟩; exact (rfl : _ = _)
    case o10_6_16 => have ha := rd1 ha H (by kernel_rfl) rfl; simp only [q3, q5, q6, q7] at ha; subst ha; clear H hU hS; go_wp2_with fail; (try refine hQ _ _ ?_); refine ⟨Step.refl _ _, ?_, trivial, nofun⟩; exact (rfl : _ = _)
    case o10_6_17 => obtain ⟨f0, f3, f6, f7⟩ := FF.out _ (S1.out.then hH); obtain ⟨c0_a, c1_a, c2_a, c3_a, c4_a, z_a⟩ := FR.out _ (S1.out.then hH) a ok_a; obtain ⟨c0_b, c1_b, c2_b, c3_b, c4_b, z_b⟩ := FR.out _ (S1.out.then hH) b ok_b; obtain ⟨b0, b1, b2, b3, b4, b5, b6, b7, b8, b9⟩ := FB.out _ hH; have ha := rd1 ha H (by kernel_rfl) rfl; simp only [q3, q5, q6, q7] at ha; subst ha; clear H hU hS; go_wp2_with fail; (try refine hQ _ _ ?_); refine ⟨Step.refl _ _, ?_, trivial, nofun⟩; exact (rfl : _ = _)
    case o10_6_18 => obtain ⟨f0, f3, f6, f7⟩ := FF.out _ (S1.out.then hH); obtain ⟨c0_a, c1_a, c2_a, c3_a, c4_a, z_a⟩ := FR.out _ (S1.out.then hH) a ok_a; obtain ⟨c0_b, c1_b, c2_b, c3_b, c4_b, z_b⟩ := FR.out _ (S1.out.then hH) b ok_b; obtain ⟨b0, b1, b2, b3, b4, b5, b6, b7, b8, b9⟩ := FB.out _ hH; have h17 : xv 17 = _ := H 17 (by kernel_rfl); change aq = puts _ xv [(17, some 52)] at ha; simp only [q1, q2, q3, q5, q6, q7, h17] at ha; subst ha; clear H h17; clear hU hS; go_wp2_with fail; refine (signed_any _ _).mono ?_; rintro e w4 ⟨rfl, s4⟩; go_wp2_with fail; (try refine hQ _ _ ?_); refine ⟨(by subst s4; exact Step.refl _ _), ?_, trivial, nofun⟩; exact (rfl : _ = _)
  intro xv w2 hH hS H hU hsz hF hN
  have h0 : xv 0 = _ := H 0 (by decide) (by kernel_rfl); have h1 : xv 1 = _ := H 1 (by decide) (by kernel_rfl); have h2 : xv 2 = _ := H 2 (by decide) (by kernel_rfl); have h3 : xv 3 = _ := H 3 (by decide) (by kernel_rfl); have h4 : xv 4 = _ := H 4 (by decide) (by kernel_rfl); have h5 : xv 5 = _ := H 5 (by decide) (by kernel_rfl); have h6 : xv 6 = _ := H 6 (by decide) (by kernel_rfl); have h7 : xv 7 = _ := H 7 (by decide) (by kernel_rfl); have h8 : xv 8 = _ := H 8 (by decide) (by kernel_rfl); have h9 : xv 9 = _ := H 9 (by decide) (by kernel_rfl); have h10 : xv 10 = _ := H 10 (by decide) (by kernel_rfl); have h11 : xv 11 = _ := H 11 (by decide) (by kernel_rfl); have h12 : xv 12 = _ := H 12 (by decide) (by kernel_rfl); have h13 : xv 13 = _ := H 13 (by decide) (by kernel_rfl); have h14 : xv 14 = _ := H 14 (by decide) (by kernel_rfl); have h15 : xv 15 = _ := H 15 (by decide) (by kernel_rfl); have h16 : xv 16 = _ := H 16 (by decide) (by kernel_rfl); have h17 : xv 17 = _ := H 17 (by decide) (by kernel_rfl); have h18 : xv 18 = _ := H 18 (by decide) (by kernel_rfl)
  simp only [planPtr10, q1, q2, q3, q5, q6, q7, q4, List.drop_succ_cons, List.drop_zero, h0, h1, h2, h3, h4, h5, h6, h7, h8, h9, h10, h11, h12, h13, h14, h15, h16, h17, h18]
  clear H hF hN hS hU h0 h1 h2 h3 h4 h5 h6 h7 h8 h9 h10 h11 h12 h13 h14 h15 h16 h17 h18
  have SA := Lib.hid hH
  have SB := Lib.hid (S1.out.then hH)
  clear hH
  go_wp2_with fail
  refine (move_to (rgV regs a).ptr (wrap64 (rgV regs b).num) _).mono ?_
  rintro e w2 ⟨rfl, s2⟩
  have SA := Lib.hid (SA.out.then s2)
  have SB := Lib.hid (SB.out.then s2)
  clear s2
  obtain ⟨w3, hw3, s3, kb3, kp3⟩ := put4 (wb := w) (moveP (rgV regs a).ptr (wrap64 (rgV regs b).num)) SB.out (.inr (by have := HT.out.2.2; omega)) (SA.out.keeps KB.out) (SA.out.keeps KP.out)
  have HW3 := Lib.hid hw3
  have S3 := Lib.hid s3
  have KB3 := Lib.hid kb3
  have KP3 := Lib.hid kp3
  obtain ⟨p0, p1, p2, p3, _⟩ := cells_known4 (SA.out.keeps KP.out)
  clear hw3 s3 kb3 kp3
  go_upto_region 18 with fail
  rw [← HW3.out]
  clear HW3 KB KP FB SA SB p0 p1 p2 p3
  have FB := Lib.hid (box_facts KB3.out)
  refine wp_region_each 8 planPtr18 (fun _ _ => False) (Step (fun _ => False) w3) (fun _ => True) [Is ?v18_7_0, Is ?v18_7_1, Is ?v18_7_2, Is ?v18_7_3, Is ?v18_7_4, Is ?v18_7_5, Is ?v18_7_6, Is ?v18_7_7] [] (by kernel_rfl) (by kernel_rfl) (fun _ _ h => h.elim) ((Step.refl _ _).drew) (trivial) ?stab18_7 ?stabD18_7 ?obl18_7 ?fin18_7
  case stab18_7 => exact fun w w' h => ⟨fun k => k.trans h (fun _ x => x.elim), fun _ => trivial, ⟨fun _ k => k, fun _ k => k, fun _ k => k, fun _ k => k, fun _ k => k, fun _ k => k, fun _ k => k, fun _ k => k, trivial⟩, trivial⟩
  case stabD18_7 => exact fun _ _ h => h.elim
  case obl18_7 =>
    refine ⟨?o18_7_0, ?o18_7_1, ?o18_7_2, ?o18_7_3, ?o18_7_4, ?o18_7_5, ?o18_7_6, ?o18_7_7, trivial⟩
    all_goals intro xv wq hH hS H hU aq ha Q' hQ
    case o18_7_0 => cases rd0 ha; clear H hU hS; go_wp2_with fail; (try refine hQ _ _ ?_); refine ⟨Step.refl _ _, ?_, trivial, nofun⟩; exact (rfl : _ = _)
    case o18_7_1 | o18_7_2 => have ha := rd1 ha H (by kernel_rfl) rfl; simp only [q3, q5, q6, q7] at ha; subst ha; clear H hU hS; go_wp2_with fail; (try refine hQ _ _ ?_); refine ⟨Step.refl _ _, ?_, trivial, nofun⟩; exact (rfl : _ = _)
    case o18_7_3 => obtain ⟨f0, f3, f6, f7⟩ := FF.out _ (S3.out.then hH); obtain ⟨b0, b1, b2, b3, b4, b5, b6, b7, b8, b9⟩ := FB.out _ hH; obtain ⟨p0, p1, p2, p3, _⟩ := cells_known4 (hH.keeps KP3.out); have ha := rd1 ha H (by kernel_rfl) rfl; simp only [q3, q5, q6, q7] at ha; subst ha; clear H hU hS; go_wp2_with fail; (try refine hQ _ _ ?_); refine ⟨Step.refl _ _, ?_, trivial, nofun⟩; exact (rfl : _ = _)
    case o18_7_4 => cases rd0 ha; clear H hU hS; go_wp2_with fail; (try refine hQ _ _ ?_); refine ⟨Step.refl _ _, ?_, trivial, nofun⟩; exact (rfl : _ = _)
    case o18_7_5 => obtain ⟨f0, f3, f6, f7⟩ := FF.out _ (S3.out.then hH); obtain ⟨b0, b1, b2, b3, b4, b5, b6, b7, b8, b9⟩ := FB.out _ hH; obtain ⟨p0, p1, p2, p3, _⟩ := cells_known4 (hH.keeps KP3.out); have ha := rd1 ha H (by kernel_rfl) rfl; simp only [q3, q5, q6, q7] at ha; subst ha; clear H hU hS; go_wp2_with fail; (try refine hQ _ _ ?_); refine ⟨Step.refl _ _, ?_, trivial, nofun⟩; exact (rfl : _ = _)
    case o18_7_6 => obtain ⟨f0, f3, f6, f7⟩ := FF.out _ (S3.out.then hH); obtain ⟨b0, b1, b2, b3, b4, b5, b6, b7, b8, b9⟩ := FB.out _ hH; obtain ⟨p0, p1, p2, p3, _⟩ := cells_known4 (hH.keeps KP3.out); cases rd0 ha; clear H hU hS; go_wp2_with fail; (try refine hQ _ _ ?_); refine ⟨Step.refl _ _, ?_, trivial, nofun⟩; exact (rfl : _ = _)
    case o18_7_7 => have ha := rd1 ha H (by kernel_rfl) rfl; simp only [q3, q5, q6, q7] at ha; subst ha; clear H hU hS; go_wp2_with fail; (try refine hQ _ _ ?_); refine ⟨Step.refl _ _, ?_, trivial, nofun⟩; exact (rfl : _ = _)
  intro xv w9 hH hS H hU hsz hF hN
  have h0 : xv 0 = _ := H 0 (by decide) (by kernel_rfl); have h1 : xv 1 = _ := H 1 (by decide) (by kernel_rfl); have h2 : xv 2 = _ := H 2 (by decide) (by kernel_rfl); have h3 : xv 3 = _ := H 3 (by decide) (by kernel_rfl); have h4 : xv 4 = _ := H 4 (by decide) (by kernel_rfl); have h5 : xv 5 = _ := H 5 (by decide) (by kernel_rfl); have h6 : xv 6 = _ := H 6 (by decide) (by kernel_rfl); have h7 : xv 7 = _ := H 7 (by decide) (by kernel_rfl)
  simp only [planPtr18, q1, q2, q3, q5, q6, q7, q4, List.drop_succ_cons, List.drop_zero, h0, h1, h2, h3, h4, h5, h6, h7]
  clear H hF hN hS hU h0 h1 h2 h3 h4 h5 h6 h7
  have S9 := Lib.hid (S3.out.then hH)
  obtain ⟨f0, f3, f6, f7⟩ := FF.out _ S9.out
  obtain ⟨c0_dst, c1_dst, c2_dst, c3_dst, c4_dst, z_dst⟩ := FR.out _ S9.out dst ok_dst
  clear hH
  go_wp2_with fail
  go_ret
  exact ⟨rfl, went_set (HW.out.still S9.out) (HF.out.still S9.out) ((Chg.calm own S9.out).g gx) HL.out rfl (by omega) (ptrV (moveP (rgV regs a).ptr (wrap64 (rgV regs b).num)))⟩
set_option maxHeartbeats 4000000 in
set_option maxRecDepth 100000 in
theorem ptr_9 (hW : MWAt w0 w pw own fnv tops st c) (hF : MFr w own pf pw gx vn vp vk vs vc vr vl regs slots) (hl : w0.heap.size ≤ gx) {v : Value} {i : FIns} (hi : InsAt w0 v i) (ho : i.op = 9) (ok_dst : ok1 regs i.dst) (ok_a : ok1 regs i.a) :
    Calls Try.prog 61 #[.pointer (some ⟨pf, 0, none⟩), v] w (fun e w' => e = .returned (.bool true) ∧ Went w0 w pw own fnv tops pf gx vn vp vk vs vc vr vl slots st c (regs.set i.dst.toNat (ptrV (partP (rgV regs i.a).ptr (wrap64 i.n) i.size))) w') := by
  obtain ⟨va, vo, rfl, iargs, iouts⟩ := hi
  obtain ⟨op, dst, a, b, n, size, name, args, outs, tt⟩ := i
  simp only at *
  subst ho
  obtain ⟨rcap, rfl⟩ := regs_slice hF (by unfold ok1 at ok_dst; omega)
  have HW := Lib.hid hW
  have HF := Lib.hid hF
  have HL := Lib.hid hl
  have FF := Lib.hid (frame_facts hF)
  have FR := Lib.hid (reg_facts hF)
  unfold ok1 at ok_dst ok_a
  clear hW hF hl
  obtain ⟨f0, f3, f6, f7⟩ := FF.out _ (Step.refl _ _)
  have hpf := block_lt f6
  simp only at hpf
  have kb := heap_alloc_new w (.cells #[.int .i64 9, .int .i64 dst, .int .i64 a, .int .i64 b, .int .u64 n, .int .i64 size, .string name, va, vo, .int .i64 tt] 42 (0, 0))
  have s1 := Step.alloc (fun _ => False) w (.cells #[.int .i64 9, .int .i64 dst, .int .i64 a, .int .i64 b, .int .u64 n, .int .i64 size, .string name, va, vo, .int .i64 tt] 42 (0, 0))
  have kp := heap_alloc_new (w.alloc (.cells #[.int .i64 9, .int .i64 dst, .int .i64 a, .int .i64 b, .int .u64 n, .int .i64 size, .string name, va, vo, .int .i64 tt] 42 (0, 0))) (.cells #[.int .i64 0, .int .i64 0, .int .i64 0, .int .i64 0] 94 (0, 0))
  have s2 := Step.alloc (fun _ => False) (w.alloc (.cells #[.int .i64 9, .int .i64 dst, .int .i64 a, .int .i64 b, .int .u64 n, .int .i64 size, .string name, va, vo, .int .i64 tt] 42 (0, 0))) (.cells #[.int .i64 0, .int .i64 0, .int .i64 0, .int .i64 0] 94 (0, 0))
  rw [show (w.alloc (.cells #[.int .i64 9, .int .i64 dst, .int .i64 a, .int .i64 b, .int .u64 n, .int .i64 size, .string name, va, vo, .int .i64 tt] 42 (0, 0))).heap.size = w.heap.size + 1 by simp] at kp
  have KB := Lib.hid (s2.keeps kb)
  have KP := Lib.hid kp
  have S1 := Lib.hid (s1.then s2)
  have HT := Lib.hid (show gx < w.heap.size ∧ own w.heap.size = 0 ∧ w.heap.size ≤ w.heap.size from ⟨HF.out.free.2.2.2, HW.out.fresh0, Nat.le_refl _⟩)
  clear kb kp s1 s2
  go_enter Try.func61, Try.ntmps61
  go_upto_region 12 with fail
  clear f0 f3 f6 f7 hpf
  generalize (w.alloc (.cells #[.int .i64 9, .int .i64 dst, .int .i64 a, .int .i64 b, .int .u64 n, .int .i64 size, .string name, va, vo, .int .i64 tt] 42 (0, 0))).alloc (.cells #[.int .i64 0, .int .i64 0, .int .i64 0, .int .i64 0] 94 (0, 0)) = w1 at KB KP S1 ⊢
  generalize htb : w.heap.size = tb at KB KP HT ⊢
  replace HT := Lib.hid (show gx < tb ∧ own tb = 0 ∧ w.heap.size ≤ tb from ⟨HT.out.1, HT.out.2.1, Nat.le_of_eq htb⟩)
  clear htb
  have FB := Lib.hid (box_facts KB.out)
  refine wp_region_each 14 planPtr12 (fun _ _ => False) (Step (fun _ => False) w1) (fun _ => True) [Is ?v12_8_0, Is ?v12_8_1, Is ?v12_8_2, Is ?v12_8_3, Is ?v12_8_4, Is ?v12_8_5, Is ?v12_8_6, Is ?v12_8_7, Is ?v12_8_8, Is ?v12_8_9, Is ?v12_8_10, Is ?v12_8_11, Is ?v12_8_12, Is ?v12_8_13] [] (by kernel_rfl) (by kernel_rfl) (fun _ _ h => h.elim) ((Step.refl _ _).drew) (trivial) ?stab12_8 ?stabD12_8 ?obl12_8 ?fin12_8
  case stab12_8 => exact fun w w' h => ⟨fun k => k.trans h (fun _ x => x.elim), fun _ => trivial, ⟨fun _ k => k, fun _ k => k, fun _ k => k, fun _ k => k, fun _ k => k, fun _ k => k, fun _ k => k, fun _ k => k, fun _ k => k, fun _ k => k, fun _ k => k, fun _ k => k, fun _ k => k, fun _ k => k, trivial⟩, trivial⟩
  case stabD12_8 => exact fun _ _ h => h.elim
  case obl12_8 =>
    refine ⟨?o12_8_0, ?o12_8_1, ?o12_8_2, ?o12_8_3, ?o12_8_4, ?o12_8_5, ?o12_8_6, ?o12_8_7, ?o12_8_8, ?o12_8_9, ?o12_8_10, ?o12_8_11, ?o12_8_12, ?o12_8_13, trivial⟩
    all_goals intro xv wq hH hS H hU aq ha Q' hQ
    case o12_8_0 => cases rd0 ha; clear H hU hS; go_wp2_with fail; (try refine hQ _ _ ?_); refine ⟨Step.refl _ _, ?_, trivial, nofun⟩; exact (rfl : _ = _)
    case o12_8_1 | o12_8_2 => have ha := rd1 ha H (by kernel_rfl) rfl; simp only [q3, q5, q6, q7] at ha; subst ha; clear H hU hS; go_wp2_with fail; (try refine hQ _ _ ?_); refine ⟨Step.refl _ _, ?_, trivial, nofun⟩; exact (rfl : _ = _)
    case o12_8_3 => obtain ⟨f0, f3, f6, f7⟩ := FF.out _ (S1.out.then hH); obtain ⟨c0_a, c1_a, c2_a, c3_a, c4_a, z_a⟩ := FR.out _ (S1.out.then hH) a ok_a; obtain ⟨b0, b1, b2, b3, b4, b5, b6, b7, b8, b9⟩ := FB.out _ hH; have ha := rd1 ha H (by kernel_rfl) rfl; simp only [q3, q5, q6, q7] at ha; subst ha; clear H hU hS; go_wp2_with fail; (try refine hQ _ _ ?_); refine ⟨Step.refl _ _, ?_, trivial, nofun⟩; exact (rfl : _ = _)
    case o12_8_4 => cases rd0 ha; clear H hU hS; go_wp2_with fail; (try refine hQ _ _ ?_); refine ⟨Step.refl _ _, ?_, trivial, nofun⟩; exact (rfl : _ = _)
    case o12_8_5 => obtain ⟨f0, f3, f6, f7⟩ := FF.out _ (S1.out.then hH); obtain ⟨c0_a, c1_a, c2_a, c3_a, c4_a, z_a⟩ := FR.out _ (S1.out.then hH) a ok_a; obtain ⟨b0, b1, b2, b3, b4, b5, b6, b7, b8, b9⟩ := FB.out _ hH; have ha := rd1 ha H (by kernel_rfl) rfl; simp only [q3, q5, q6, q7] at ha; subst ha; clear H hU hS; go_wp2_with fail; (try refine hQ _ _ ?_); refine ⟨Step.refl _ _, ?_, trivial, nofun⟩; exact (rfl : _ = _)
    case o12_8_6 => obtain ⟨f0, f3, f6, f7⟩ := FF.out _ (S1.out.then hH); obtain ⟨c0_a, c1_a, c2_a, c3_a, c4_a, z_a⟩ := FR.out _ (S1.out.then hH) a ok_a; obtain ⟨b0, b1, b2, b3, b4, b5, b6, b7, b8, b9⟩ := FB.out _ hH; have ha := rd2 ha H (by kernel_rfl) (by kernel_rfl) rfl rfl; simp only [q3, q5, q6, q7] at ha; subst ha; clear H hU hS; go_wp2_with fail; (try refine hQ _ _ ?_); refine ⟨Step.refl _ _, ?_, trivial, nofun⟩; exact (rfl : _ = _)
    case o12_8_7 => have ha := rd1 ha H (by kernel_rfl) rfl; simp only [q3, q5, q6, q7] at ha; subst ha; clear H hU hS; go_wp2_with fail; (try refine hQ _ _ ?_); refine ⟨Step.refl _ _, ?_, trivial, nofun⟩; exact (rfl : _ = _)
    case o12_8_8 => obtain ⟨f0, f3, f6, f7⟩ := FF.out _ (S1.out.then hH); obtain ⟨c0_a, c1_a, c2_a, c3_a, c4_a, z_a⟩ := FR.out _ (S1.out.then hH) a ok_a; obtain ⟨b0, b1, b2, b3, b4, b5, b6, b7, b8, b9⟩ := FB.out _ hH; have ha := rd1 ha H (by kernel_rfl) rfl; simp only [q3, q5, q6, q7] at ha; subst ha; clear H hU hS; go_wp2_with fail; (try refine hQ _ _ ?_); refine ⟨Step.refl _ _, ?_, trivial, nofun⟩; exact (rfl : _ = _)
    case o12_8_9 => cases rd0 ha; clear H hU hS; go_wp2_with fail; (try refine hQ _ _ ?_); refine ⟨Step.refl _ _, ?_, trivial, nofun⟩; exact (rfl : _ = _)
    case o12_8_10 | o12_8_11 => obtain ⟨f0, f3, f6, f7⟩ := FF.out _ (S1.out.then hH); obtain ⟨c0_a, c1_a, c2_a, c3_a, c4_a, z_a⟩ := FR.out _ (S1.out.then hH) a ok_a; obtain ⟨b0, b1, b2, b3, b4, b5, b6, b7, b8, b9⟩ := FB.out _ hH; have ha := rd1 ha H (by kernel_rfl) rfl; simp only [q3, q5, q6, q7] at ha; subst ha; clear H hU hS; go_wp2_with fail; (try refine hQ _ _ ?_); refine ⟨Step.refl _ _, ?_, trivial, nofun⟩; exact (rfl : _ = _)
    case o12_8_12 => cases rd0 ha; clear H hU hS; go_wp2_with fail; (try refine hQ _ _ ?_); refine ⟨Step.refl _ _, ?_, trivial, nofun⟩; exact (rfl : _ = _)
    case o12_8_13 => obtain ⟨f0, f3, f6, f7⟩ := FF.out _ (S1.out.then hH); obtain ⟨c0_a, c1_a, c2_a, c3_a, c4_a, z_a⟩ := FR.out _ (S1.out.then hH) a ok_a; obtain ⟨b0, b1, b2, b3, b4, b5, b6, b7, b8, b9⟩ := FB.out _ hH; have ha := rd1 ha H (by kernel_rfl) rfl; simp only [q3, q5, q6, q7] at ha; subst ha; clear H hU hS; go_wp2_with fail; (try refine hQ _ _ ?_); refine ⟨Step.refl _ _, ?_, trivial, nofun⟩; exact (rfl : _ = _)
  intro xv w2 hH hS H hU hsz hF hN
  have h0 : xv 0 = _ := H 0 (by decide) (by kernel_rfl); have h1 : xv 1 = _ := H 1 (by decide) (by kernel_rfl); have h2 : xv 2 = _ := H 2 (by decide) (by kernel_rfl); have h3 : xv 3 = _ := H 3 (by decide) (by kernel_rfl); have h4 : xv 4 = _ := H 4 (by decide) (by kernel_rfl); have h5 : xv 5 = _ := H 5 (by decide) (by kernel_rfl); have h6 : xv 6 = _ := H 6 (by decide) (by kernel_rfl); have h7 : xv 7 = _ := H 7 (by decide) (by kernel_rfl); have h8 : xv 8 = _ := H 8 (by decide) (by kernel_rfl); have h9 : xv 9 = _ := H 9 (by decide) (by kernel_rfl); have h10 : xv 10 = _ := H 10 (by decide) (by kernel_rfl); have h11 : xv 11 = _ := H 11 (by decide) (by kernel_rfl); have h12 : xv 12 = _ := H 12 (by decide) (by kernel_rfl); have h13 : xv 13 = _ := H 13 (by decide) (by kernel_rfl)
  simp only [planPtr12, q1, q2, q3, q5, q6, q7, q4, List.drop_succ_cons, List.drop_zero, h0, h1, h2, h3, h4, h5, h6, h7, h8, h9, h10, h11, h12, h13]
  clear H hF hN hS hU h0 h1 h2 h3 h4 h5 h6 h7 h8 h9 h10 h11 h12 h13
  have SA := Lib.hid hH
  have SB := Lib.hid (S1.out.then hH)
  clear hH
  go_wp2_with fail
  refine (part_to (rgV regs a).ptr (wrap64 n) size _).mono ?_
  rintro e w2 ⟨rfl, s2⟩
  have SA := Lib.hid (SA.out.then s2)
  have SB := Lib.hid (SB.out.then s2)
  clear s2
  obtain ⟨w3, hw3, s3, kb3, kp3⟩ := put4 (wb := w) (partP (rgV regs a).ptr (wrap64 n) size) SB.out (.inr (by have := HT.out.2.2; omega)) (SA.out.keeps KB.out) (SA.out.keeps KP.out)
  have HW3 := Lib.hid hw3
  have S3 := Lib.hid s3
  have KB3 := Lib.hid kb3
  have KP3 := Lib.hid kp3
  obtain ⟨p0, p1, p2, p3, _⟩ := cells_known4 (SA.out.keeps KP.out)
  clear hw3 s3 kb3 kp3
  go_upto_region 18 with fail
  rw [← HW3.out]
  clear HW3 KB KP FB SA SB p0 p1 p2 p3
  have FB := Lib.hid (box_facts KB3.out)
  refine wp_region_each 8 planPtr18 (fun _ _ => False) (Step (fun _ => False) w3) (fun _ => True) [Is ?v18_9_0, Is ?v18_9_1, Is ?v18_9_2, Is ?v18_9_3, Is ?v18_9_4, Is ?v18_9_5, Is ?v18_9_6, Is ?v18_9_7] [] (by kernel_rfl) (by kernel_rfl) (fun _ _ h => h.elim) ((Step.refl _ _).drew) (trivial) ?stab18_9 ?stabD18_9 ?obl18_9 ?fin18_9
  case stab18_9 => exact fun w w' h => ⟨fun k => k.trans h (fun _ x => x.elim), fun _ => trivial, ⟨fun _ k => k, fun _ k => k, fun _ k => k, fun _ k => k, fun _ k => k, fun _ k => k, fun _ k => k, fun _ k => k, trivial⟩, trivial⟩
  case stabD18_9 => exact fun _ _ h => h.elim
  case obl18_9 =>
    refine ⟨?o18_9_0, ?o18_9_1, ?o18_9_2, ?o18_9_3, ?o18_9_4, ?o18_9_5, ?o18_9_6, ?o18_9_7, trivial⟩
    all_goals intro xv wq hH hS H hU aq ha Q' hQ
    case o18_9_0 => cases rd0 ha; clear H hU hS; go_wp2_with fail; (try refine hQ _ _ ?_); refine ⟨Step.refl _ _, ?_, trivial, nofun⟩; exact (rfl : _ = _)
    case o18_9_1 | o18_9_2 => have ha := rd1 ha H (by kernel_rfl) rfl; simp only [q3, q5, q6, q7] at ha; subst ha; clear H hU hS; go_wp2_with fail; (try refine hQ _ _ ?_); refine ⟨Step.refl _ _, ?_, trivial, nofun⟩; exact (rfl : _ = _)
    case o18_9_3 => obtain ⟨f0, f3, f6, f7⟩ := FF.out _ (S3.out.then hH); obtain ⟨b0, b1, b2, b3, b4, b5, b6, b7, b8, b9⟩ := FB.out _ hH; obtain ⟨p0, p1, p2, p3, _⟩ := cells_known4 (hH.keeps KP3.out); have ha := rd1 ha H (by kernel_rfl) rfl; simp only [q3, q5, q6, q7] at ha; subst ha; clear H hU hS; go_wp2_with fail; (try refine hQ _ _ ?_); refine ⟨Step.refl _ _, ?_, trivial, nofun⟩; exact (rfl : _ = _)
    case o18_9_4 => cases rd0 ha; clear H hU hS; go_wp2_with fail; (try refine hQ _ _ ?_); refine ⟨Step.refl _ _, ?_, trivial, nofun⟩; exact (rfl : _ = _)
    case o18_9_5 => obtain ⟨f0, f3, f6, f7⟩ := FF.out _ (S3.out.then hH); obtain ⟨b0, b1, b2, b3, b4, b5, b6, b7, b8, b9⟩ := FB.out _ hH; obtain ⟨p0, p1, p2, p3, _⟩ := cells_known4 (hH.keeps KP3.out); have ha := rd1 ha H (by kernel_rfl) rfl; simp only [q3, q5, q6, q7] at ha; subst ha; clear H hU hS; go_wp2_with fail; (try refine hQ _ _ ?_); refine ⟨Step.refl _ _, ?_, trivial, nofun⟩; exact (rfl : _ = _)
    case o18_9_6 => obtain ⟨f0, f3, f6, f7⟩ := FF.out _ (S3.out.then hH); obtain ⟨b0, b1, b2, b3, b4, b5, b6, b7, b8, b9⟩ := FB.out _ hH; obtain ⟨p0, p1, p2, p3, _⟩ := cells_known4 (hH.keeps KP3.out); cases rd0 ha; clear H hU hS; go_wp2_with fail; (try refine hQ _ _ ?_); refine ⟨Step.refl _ _, ?_, trivial, nofun⟩; exact (rfl : _ = _)
    case o18_9_7 => have ha := rd1 ha H (by kernel_rfl) rfl; simp only [q3, q5, q6, q7] at ha; subst ha; clear H hU hS; go_wp2_with fail; (try refine hQ _ _ ?_); refine ⟨Step.refl _ _, ?_, trivial, nofun⟩; exact (rfl : _ = _)
  intro xv w9 hH hS H hU hsz hF hN
  have h0 : xv 0 = _ := H 0 (by decide) (by kernel_rfl); have h1 : xv 1 = _ := H 1 (by decide) (by kernel_rfl); have h2 : xv 2 = _ := H 2 (by decide) (by kernel_rfl); have h3 : xv 3 = _ := H 3 (by decide) (by kernel_rfl); have h4 : xv 4 = _ := H 4 (by decide) (by kernel_rfl); have h5 : xv 5 = _ := H 5 (by decide) (by kernel_rfl); have h6 : xv 6 = _ := H 6 (by decide) (by kernel_rfl); have h7 : xv 7 = _ := H 7 (by decide) (by kernel_rfl)
  simp only [planPtr18, q1, q2, q3, q5, q6, q7, q4, List.drop_succ_cons, List.drop_zero, h0, h1, h2, h3, h4, h5, h6, h7]
  clear H hF hN hS hU h0 h1 h2 h3 h4 h5 h6 h7
  have S9 := Lib.hid (S3.out.then hH)
  obtain ⟨f0, f3, f6, f7⟩ := FF.out _ S9.out
  obtain ⟨c0_dst, c1_dst, c2_dst, c3_dst, c4_dst, z_dst⟩ := FR.out _ S9.out dst ok_dst
  clear hH
  go_wp2_with fail
  go_ret
  exact ⟨rfl, went_set (HW.out.still S9.out) (HF.out.still S9.out) ((Chg.calm own S9.out).g gx) HL.out rfl (by omega) (ptrV (partP (rgV regs a).ptr (wrap64 n) size))⟩
set_option maxHeartbeats 4000000 in
set_option maxRecDepth 100000 in
theorem ptr_14no (hW : MWAt w0 w pw own fnv tops st c) (hF : MFr w own pf pw gx vn vp vk vs vc vr vl regs slots) (hl : w0.heap.size ≤ gx) {v : Value} {i : FIns} (hi : InsAt w0 v i) (ho : i.op = 14) (ok_dst : ok1 regs i.dst) (ok_a : ok1 regs i.a) (hno : wrap64 (rgV regs i.a).num < 1 ∨ 4194304 < wrap64 (rgV regs i.a).num) :
    Calls Try.prog 61 #[.pointer (some ⟨pf, 0, none⟩), v] w (fun e w' => Fell w0 w pw own fnv tops gx 3 0 0 st c e w') := by
  obtain ⟨va, vo, rfl, iargs, iouts⟩ := hi
  obtain ⟨op, dst, a, b, n, size, name, args, outs, tt⟩ := i
  simp only at *
  subst ho
  obtain ⟨rcap, rfl⟩ := regs_slice hF (by unfold ok1 at ok_dst; omega)
  have HW := Lib.hid hW
  have HF := Lib.hid hF
  have HL := Lib.hid hl
  have FF := Lib.hid (frame_facts hF)
  have FR := Lib.hid (reg_facts hF)
  unfold ok1 at ok_dst ok_a
  obtain ⟨sz, hsz⟩ : ∃ sz, wrap64 (rgV regs a).num = sz := ⟨_, rfl⟩
  have SG := Lib.hid (show ∀ y, Calls Try.prog 85 #[.int .u64 (rgV regs a).num] y fun e w' => e = .returned (.int .i64 sz) ∧ y = w' from fun y => by
    have h := signed_any (rgV regs a).num y
    rw [hsz] at h
    exact h)
  rw [hsz] at hno
  clear hsz
  clear hW hF hl
  obtain ⟨f0, f3, f6, f7⟩ := FF.out _ (Step.refl _ _)
  have hpf := block_lt f6
  simp only at hpf
  have kb := heap_alloc_new w (.cells #[.int .i64 14, .int .i64 dst, .int .i64 a, .int .i64 b, .int .u64 n, .int .i64 size, .string name, va, vo, .int .i64 tt] 42 (0, 0))
  have s1 := Step.alloc (fun _ => False) w (.cells #[.int .i64 14, .int .i64 dst, .int .i64 a, .int .i64 b, .int .u64 n, .int .i64 size, .string name, va, vo, .int .i64 tt] 42 (0, 0))
  have kp := heap_alloc_new (w.alloc (.cells #[.int .i64 14, .int .i64 dst, .int .i64 a, .int .i64 b, .int .u64 n, .int .i64 size, .string name, va, vo, .int .i64 tt] 42 (0, 0))) (.cells #[.int .i64 0, .int .i64 0, .int .i64 0, .int .i64 0] 94 (0, 0))
  have s2 := Step.alloc (fun _ => False) (w.alloc (.cells #[.int .i64 14, .int .i64 dst, .int .i64 a, .int .i64 b, .int .u64 n, .int .i64 size, .string name, va, vo, .int .i64 tt] 42 (0, 0))) (.cells #[.int .i64 0, .int .i64 0, .int .i64 0, .int .i64 0] 94 (0, 0))
  rw [show (w.alloc (.cells #[.int .i64 14, .int .i64 dst, .int .i64 a, .int .i64 b, .int .u64 n, .int .i64 size, .string name, va, vo, .int .i64 tt] 42 (0, 0))).heap.size = w.heap.size + 1 by simp] at kp
  have KB := Lib.hid (s2.keeps kb)
  have KP := Lib.hid kp
  have S1 := Lib.hid (s1.then s2)
  have HT := Lib.hid (show gx < w.heap.size ∧ own w.heap.size = 0 ∧ w.heap.size ≤ w.heap.size from ⟨HF.out.free.2.2.2, HW.out.fresh0, Nat.le_refl _⟩)
  clear kb kp s1 s2
  go_enter Try.func61, Try.ntmps61
  go_upto_region 14 with fail
  clear f0 f3 f6 f7 hpf
  generalize (w.alloc (.cells #[.int .i64 14, .int .i64 dst, .int .i64 a, .int .i64 b, .int .u64 n, .int .i64 size, .string name, va, vo, .int .i64 tt] 42 (0, 0))).alloc (.cells #[.int .i64 0, .int .i64 0, .int .i64 0, .int .i64 0] 94 (0, 0)) = w1 at KB KP S1 ⊢
  generalize htb : w.heap.size = tb at KB KP HT ⊢
  replace HT := Lib.hid (show gx < tb ∧ own tb = 0 ∧ w.heap.size ≤ tb from ⟨HT.out.1, HT.out.2.1, Nat.le_of_eq htb⟩)
  clear htb
  have FB := Lib.hid (box_facts KB.out)
  refine wp_region_each 6 planPtr14 (fun _ _ => False) (Step (fun _ => False) w1) (fun _ => True) [Is ?v14_10_0, Is ?v14_10_1, Is ?v14_10_2, Is ?v14_10_3, Is ?v14_10_4, Is ?v14_10_5] [] (by kernel_rfl) (by kernel_rfl) (fun _ _ h => h.elim) ((Step.refl _ _).drew) (trivial) ?stab14_10 ?stabD14_10 ?obl14_10 ?fin14_10
  case stab14_10 => exact fun w w' h => ⟨fun k => k.trans h (fun _ x => x.elim), fun _ => trivial, ⟨fun _ k => k, fun _ k => k, fun _ k => k, fun _ k => k, fun _ k => k, fun _ k => k, trivial⟩, trivial⟩
  case stabD14_10 => exact fun _ _ h => h.elim
  case obl14_10 =>
    refine ⟨?o14_10_0, ?o14_10_1, ?o14_10_2, ?o14_10_3, ?o14_10_4, ?o14_10_5, trivial⟩
    all_goals intro xv wq hH hS H hU aq ha Q' hQ
    case o14_10_0 => cases rd0 ha; clear H hU hS; go_wp2_with fail; (try refine hQ _ _ ?_); refine ⟨Step.refl _ _, ?_, trivial, nofun⟩; exact (rfl : _ = _)
    case o14_10_1 | o14_10_2 => have ha := rd1 ha H (by kernel_rfl) rfl; simp only [q3, q5, q6, q7] at ha; subst ha; clear H hU hS; go_wp2_with fail; (try refine hQ _ _ ?_); refine ⟨Step.refl _ _, ?_, trivial, nofun⟩; exact (rfl : _ = _)
    case o14_10_3 => obtain ⟨f0, f3, f6, f7⟩ := FF.out _ (S1.out.then hH); obtain ⟨c0_a, c1_a, c2_a, c3_a, c4_a, z_a⟩ := FR.out _ (S1.out.then hH) a ok_a; obtain ⟨b0, b1, b2, b3, b4, b5, b6, b7, b8, b9⟩ := FB.out _ hH; have ha := rd1 ha H (by kernel_rfl) rfl; simp only [q3, q5, q6, q7] at ha; subst ha; clear H hU hS; go_wp2_with fail; (try refine hQ _ _ ?_); refine ⟨Step.refl _ _, ?_, trivial, nofun⟩; exact (rfl : _ = _)
    case o14_10_4 => cases rd0 ha; clear H hU hS; go_wp2_with fail; (try refine hQ _ _ ?_); refine ⟨Step.refl _ _, ?_, trivial, nofun⟩; exact (rfl : _ = _)
    case o14_10_5 => obtain ⟨f0, f3, f6, f7⟩ := FF.out _ (S1.out.then hH); obtain ⟨c0_a, c1_a, c2_a, c3_a, c4_a, z_a⟩ := FR.out _ (S1.out.then hH) a ok_a; obtain ⟨b0, b1, b2, b3, b4, b5, b6, b7, b8, b9⟩ := FB.out _ hH; have ha := rd1 ha H (by kernel_rfl) rfl; simp only [q3, q5, q6, q7] at ha; subst ha; clear H hU hS; go_wp2_with fail; (try refine hQ _ _ ?_); refine ⟨Step.refl _ _, ?_, trivial, nofun⟩; exact (rfl : _ = _)
  intro xv w2 hH hS H hU hsz hF hN
  have h0 : xv 0 = _ := H 0 (by decide) (by kernel_rfl); have h1 : xv 1 = _ := H 1 (by decide) (by kernel_rfl); have h2 : xv 2 = _ := H 2 (by decide) (by kernel_rfl); have h3 : xv 3 = _ := H 3 (by decide) (by kernel_rfl); have h4 : xv 4 = _ := H 4 (by decide) (by kernel_rfl); have h5 : xv 5 = _ := H 5 (by decide) (by kernel_rfl)
  simp only [planPtr14, q1, q2, q3, q5, q6, q7, q4, List.drop_succ_cons, List.drop_zero, h0, h1, h2, h3, h4, h5]
  clear H hF hN hS hU h0 h1 h2 h3 h4 h5
  have SA := Lib.hid hH
  have SB := Lib.hid (S1.out.then hH)
  obtain ⟨c0_a, c1_a, c2_a, c3_a, c4_a, z_a⟩ := FR.out _ SB.out a ok_a
  obtain ⟨f0, f3, f6, f7⟩ := FF.out _ SB.out
  clear hH
  go_wp2_with fail
  refine (SG.out _).mono ?_
  rintro e w4 ⟨rfl, rfl⟩
  cases hd : decide (sz < 1) with
  | true =>
    go_wp2_with fail
    exact ⟨rfl, rfl, own, (Chg.calm own SB.out).g gx, HW.out.still SB.out⟩
  | false =>
    have hd2 : decide (4194304 < sz) = true := decide_eq_true (by have := of_decide_eq_false hd; omega)
    go_wp2_with fail
    exact ⟨rfl, rfl, own, (Chg.calm own SB.out).g gx, HW.out.still SB.out⟩
set_option maxHeartbeats 4000000 in
set_option maxRecDepth 100000 in
theorem ptr_14ok (hW : MWAt w0 w pw own fnv tops st c) (hF : MFr w own pf pw gx vn vp vk vs vc vr vl regs slots) (hl : w0.heap.size ≤ gx) {v : Value} {i : FIns} (hi : InsAt w0 v i) (ho : i.op = 14) (ok_dst : ok1 regs i.dst) (ok_a : ok1 regs i.a) (hok : ¬ (wrap64 (rgV regs i.a).num < 1 ∨ 4194304 < wrap64 (rgV regs i.a).num)) (hc : c ≤ 2000000000) :
    Calls Try.prog 61 #[.pointer (some ⟨pf, 0, none⟩), v] w (fun e w' => ∃ c' : Nat, c' ≤ c + 1 ∧ e = .returned (.bool true) ∧ Went w0 w pw own fnv tops pf gx vn vp vk vs vc vr vl slots { st with blks := st.blks ++ [⟨wrap64 (rgV regs i.a).num, true, true, false⟩] } c' (regs.set i.dst.toNat (ptrV ⟨st.blks.length, 0, 0, wrap64 (rgV regs i.a).num⟩)) w') := by
  obtain ⟨va, vo, rfl, iargs, iouts⟩ := hi
  obtain ⟨op, dst, a, b, n, size, name, args, outs, tt⟩ := i
  simp only at *
  subst ho
  obtain ⟨rcap, rfl⟩ := regs_slice hF (by unfold ok1 at ok_dst; omega)
  have HW := Lib.hid hW
  have HF := Lib.hid hF
  have HL := Lib.hid hl
  have FF := Lib.hid (frame_facts hF)
  have FR := Lib.hid (reg_facts hF)
  unfold ok1 at ok_dst ok_a
  obtain ⟨sz, hsz⟩ : ∃ sz, wrap64 (rgV regs a).num = sz := ⟨_, rfl⟩
  have SG := Lib.hid (show ∀ y, Calls Try.prog 85 #[.int .u64 (rgV regs a).num] y fun e w' => e = .returned (.int .i64 sz) ∧ y = w' from fun y => by
    have h := signed_any (rgV regs a).num y
    rw [hsz] at h
    exact h)
  rw [hsz] at hok
  rw [hsz]
  clear hsz
  clear hW hF hl
  obtain ⟨f0, f3, f6, f7⟩ := FF.out _ (Step.refl _ _)
  have hpf := block_lt f6
  simp only at hpf
  have kb := heap_alloc_new w (.cells #[.int .i64 14, .int .i64 dst, .int .i64 a, .int .i64 b, .int .u64 n, .int .i64 size, .string name, va, vo, .int .i64 tt] 42 (0, 0))
  have s1 := Step.alloc (fun _ => False) w (.cells #[.int .i64 14, .int .i64 dst, .int .i64 a, .int .i64 b, .int .u64 n, .int .i64 size, .string name, va, vo, .int .i64 tt] 42 (0, 0))
  have kp := heap_alloc_new (w.alloc (.cells #[.int .i64 14, .int .i64 dst, .int .i64 a, .int .i64 b, .int .u64 n, .int .i64 size, .string name, va, vo, .int .i64 tt] 42 (0, 0))) (.cells #[.int .i64 0, .int .i64 0, .int .i64 0, .int .i64 0] 94 (0, 0))
  have s2 := Step.alloc (fun _ => False) (w.alloc (.cells #[.int .i64 14, .int .i64 dst, .int .i64 a, .int .i64 b, .int .u64 n, .int .i64 size, .string name, va, vo, .int .i64 tt] 42 (0, 0))) (.cells #[.int .i64 0, .int .i64 0, .int .i64 0, .int .i64 0] 94 (0, 0))
  rw [show (w.alloc (.cells #[.int .i64 14, .int .i64 dst, .int .i64 a, .int .i64 b, .int .u64 n, .int .i64 size, .string name, va, vo, .int .i64 tt] 42 (0, 0))).heap.size = w.heap.size + 1 by simp] at kp
  have KB := Lib.hid (s2.keeps kb)
  have KP := Lib.hid kp
  have S1 := Lib.hid (s1.then s2)
  have HT := Lib.hid (show gx < w.heap.size ∧ own w.heap.size = 0 ∧ w.heap.size ≤ w.heap.size from ⟨HF.out.free.2.2.2, HW.out.fresh0, Nat.le_refl _⟩)
  clear kb kp s1 s2
  go_enter Try.func61, Try.ntmps61
  go_upto_region 14 with fail
  clear f0 f3 f6 f7 hpf
  generalize (w.alloc (.cells #[.int .i64 14, .int .i64 dst, .int .i64 a, .int .i64 b, .int .u64 n, .int .i64 size, .string name, va, vo, .int .i64 tt] 42 (0, 0))).alloc (.cells #[.int .i64 0, .int .i64 0, .int .i64 0, .int .i64 0] 94 (0, 0)) = w1 at KB KP S1 ⊢
  generalize htb : w.heap.size = tb at KB KP HT ⊢
  replace HT := Lib.hid (show gx < tb ∧ own tb = 0 ∧ w.heap.size ≤ tb from ⟨HT.out.1, HT.out.2.1, Nat.le_of_eq htb⟩)
  clear htb
  have FB := Lib.hid (box_facts KB.out)
  refine wp_region_each 6 planPtr14 (fun _ _ => False) (Step (fun _ => False) w1) (fun _ => True) [Is ?v14_11_0, Is ?v14_11_1, Is ?v14_11_2, Is ?v14_11_3, Is ?v14_11_4, Is ?v14_11_5] [] (by kernel_rfl) (by kernel_rfl) (fun _ _ h => h.elim) ((Step.refl _ _).drew) (trivial) ?stab14_11 ?stabD14_11 ?obl14_11 ?fin14_11
  case stab14_11 => exact fun w w' h => ⟨fun k => k.trans h (fun _ x => x.elim), fun _ => trivial, ⟨fun _ k => k, fun _ k => k, fun _ k => k, fun _ k => k, fun _ k => k, fun _ k => k, trivial⟩, trivial⟩
  case stabD14_11 => exact fun _ _ h => h.elim
  case obl14_11 =>
    refine ⟨?o14_11_0, ?o14_11_1, ?o14_11_2, ?o14_11_3, ?o14_11_4, ?o14_11_5, trivial⟩
    all_goals intro xv wq hH hS H hU aq ha Q' hQ
    case o14_11_0 => cases rd0 ha; clear H hU hS; go_wp2_with fail; (try refine hQ _ _ ?_); refine ⟨Step.refl _ _, ?_, trivial, nofun⟩; exact (rfl : _ = _)
    case o14_11_1 | o14_11_2 => have ha := rd1 ha H (by kernel_rfl) rfl; simp only [q3, q5, q6, q7] at ha; subst ha; clear H hU hS; go_wp2_with fail; (try refine hQ _ _ ?_); refine ⟨Step.refl _ _, ?_, trivial, nofun⟩; exact (rfl : _ = _)
    case o14_11_3 => obtain ⟨f0, f3, f6, f7⟩ := FF.out _ (S1.out.then hH); obtain ⟨c0_a, c1_a, c2_a, c3_a, c4_a, z_a⟩ := FR.out _ (S1.out.then hH) a ok_a; obtain ⟨b0, b1, b2, b3, b4, b5, b6, b7, b8, b9⟩ := FB.out _ hH; have ha := rd1 ha H (by kernel_rfl) rfl; simp only [q3, q5, q6, q7] at ha; subst ha; clear H hU hS; go_wp2_with fail; (try refine hQ _ _ ?_); refine ⟨Step.refl _ _, ?_, trivial, nofun⟩; exact (rfl : _ = _)
    case o14_11_4 => cases rd0 ha; clear H hU hS; go_wp2_with fail; (try refine hQ _ _ ?_); refine ⟨Step.refl _ _, ?_, trivial, nofun⟩; exact (rfl : _ = _)
    case o14_11_5 => obtain ⟨f0, f3, f6, f7⟩ := FF.out _ (S1.out.then hH); obtain ⟨c0_a, c1_a, c2_a, c3_a, c4_a, z_a⟩ := FR.out _ (S1.out.then hH) a ok_a; obtain ⟨b0, b1, b2, b3, b4, b5, b6, b7, b8, b9⟩ := FB.out _ hH; have ha := rd1 ha H (by kernel_rfl) rfl; simp only [q3, q5, q6, q7] at ha; subst ha; clear H hU hS; go_wp2_with fail; (try refine hQ _ _ ?_); refine ⟨Step.refl _ _, ?_, trivial, nofun⟩; exact (rfl : _ = _)
  intro xv w2 hH hS H hU hsz hF hN
  have h0 : xv 0 = _ := H 0 (by decide) (by kernel_rfl); have h1 : xv 1 = _ := H 1 (by decide) (by kernel_rfl); have h2 : xv 2 = _ := H 2 (by decide) (by kernel_rfl); have h3 : xv 3 = _ := H 3 (by decide) (by kernel_rfl); have h4 : xv 4 = _ := H 4 (by decide) (by kernel_rfl); have h5 : xv 5 = _ := H 5 (by decide) (by kernel_rfl)
  simp only [planPtr14, q1, q2, q3, q5, q6, q7, q4, List.drop_succ_cons, List.drop_zero, h0, h1, h2, h3, h4, h5]
  clear H hF hN hS hU h0 h1 h2 h3 h4 h5
  have SA := Lib.hid hH
  have SB := Lib.hid (S1.out.then hH)
  obtain ⟨c0_a, c1_a, c2_a, c3_a, c4_a, z_a⟩ := FR.out _ SB.out a ok_a
  obtain ⟨f0, f3, f6, f7⟩ := FF.out _ SB.out
  clear hH
  go_wp2_with fail
  refine (SG.out _).mono ?_
  rintro e w4 ⟨rfl, rfl⟩
  have hd : decide (sz < 1) = false := decide_eq_false (by omega)
  have hd2 : decide (4194304 < sz) = false := decide_eq_false (by omega)
  have hz0 : 1 ≤ sz := by omega
  have hz1 : sz ≤ 4194304 := by omega
  obtain ⟨ph, bt, bf, vi, vo, P⟩ := HW.out.still SB.out
  have PP := Lib.hid P
  have m0 := cell_known P.struct (i := 0) rfl
  have hlens := P.lens
  have MK := Lib.hid (show Calls Try.prog 33 #[.pointer (some ⟨ph, 0, none⟩), .int .i64 sz, .bool true] w2 fun e w' => e = .returned (.tuple #[.agg #[.int .i64 st.blks.length, .int .i64 0, .int .i64 0, .int .i64 sz], .int .i64 0]) ∧ Step (fun b => own b = 4) w2 w' ∧ HeapAt w' ph (st.blks ++ [⟨sz, true, true, false⟩]) st.at_ c (fun b => own b = 4 ∨ w2.heap.size ≤ b) from by
    have h := make_any ph sz true st.blks st.at_ c _ w2 P.heap hlens.1 (by omega)
    simp only [if_neg (show ¬ (sz < 0 ∨ 4194304 < sz) by omega)] at h
    exact h)
  clear P hok
  go_wp2_with fail
  refine MK.out.mono ?_
  rintro e w5 ⟨rfl, s5, hh⟩
  obtain ⟨own', ch, P5⟩ := PP.out.heapNext (c' := c + 1) (by omega) s5 (hh.less (by omega)) (fun b hb => hb) (by simp only [List.length_append, List.length_cons, List.length_nil]; omega)
  have CH := Lib.hid ch
  have HW5 := Lib.hid P5.whole
  have HF5 := Lib.hid ((HF.out.still SB.out).keep ch)
  have KB5 := ch.keeps (SA.out.keeps KB.out) HT.out.2.1
  have hz2 := (SA.out.keeps KP.out)
  have ho1 : own (tb + 1) = 0 := by
    by_cases e : own (tb + 1) = 0
    · exact e
    · have h1 := (HW.out.low _ e).2
      have h2 := HT.out.2.2
      omega
  have KP5 := ch.keeps hz2 ho1
  have hw25 := ch.step.size
  clear s5 hh ch P5 hz2 m0
  obtain ⟨w3, hw3, s3, kb3, kp3⟩ := put4 (F := fun x => x = tb + 1) (wb := w5) ⟨st.blks.length, 0, 0, sz⟩ (Step.refl _ _) (.inl rfl) KB5 KP5
  obtain ⟨p0, p1, p2, p3, _⟩ := cells_known4 KP5
  have HO1 := Lib.hid ho1
  have HSZ := Lib.hid hw25
  have CH3 := Lib.hid (show Chg own own' w w3 from ⟨((SB.out.mono (G := fun b => own b ≠ 0) fun _ _ x => x.elim).trans CH.out.step fun x hx => .inl hx).trans s3 fun x hx => .inr (by have := HT.out.2.2; omega), fun b hb => CH.out.same b (Nat.lt_of_lt_of_le hb SB.out.size)⟩)
  have HW3 := Lib.hid (show MWAt w0 w3 pw own' fnv tops { st with blks := st.blks ++ [⟨sz, true, true, false⟩] } (c + 1) from HW5.out.off (fun b _ hlt e => by
    by_cases hb : b = tb + 1
    · have h1 := HW.out.since.size
      have h2 := HT.out.2.2
      omega
    · exact absurd (s3.block b hlt hb) e) (s3.mono fun b hb e => by rw [e]; exact (CH.out.same _ (by have := lt_obj (SA.out.keeps KP.out); omega)).trans HO1.out))
  have HF3 := Lib.hid (HF.out.keep CH3.out)
  have HQ3 := Lib.hid hw3
  have KB3 := Lib.hid kb3
  have KP3 := Lib.hid kp3
  clear hw3 s3 kb3 kp3 KB5 KP5 ho1 hw25
  go_upto_region 18 with fail
  rw [← HQ3.out]
  clear HQ3 KB KP FB SA SB p0 p1 p2 p3 HF5 HW5
  have FB := Lib.hid (box_facts KB3.out)
  have FF3 := Lib.hid (frame_facts HF3.out)
  have FR3 := Lib.hid (reg_facts HF3.out)
  refine wp_region_each 8 planPtr18 (fun _ _ => False) (Step (fun _ => False) w3) (fun _ => True) [Is ?v18_12_0, Is ?v18_12_1, Is ?v18_12_2, Is ?v18_12_3, Is ?v18_12_4, Is ?v18_12_5, Is ?v18_12_6, Is ?v18_12_7] [] (by kernel_rfl) (by kernel_rfl) (fun _ _ h => h.elim) ((Step.refl _ _).drew) (trivial) ?stab18_12 ?stabD18_12 ?obl18_12 ?fin18_12
  case stab18_12 => exact fun w w' h => ⟨fun k => k.trans h (fun _ x => x.elim), fun _ => trivial, ⟨fun _ k => k, fun _ k => k, fun _ k => k, fun _ k => k, fun _ k => k, fun _ k => k, fun _ k => k, fun _ k => k, trivial⟩, trivial⟩
  case stabD18_12 => exact fun _ _ h => h.elim
  case obl18_12 =>
    refine ⟨?o18_12_0, ?o18_12_1, ?o18_12_2, ?o18_12_3, ?o18_12_4, ?o18_12_5, ?o18_12_6, ?o18_12_7, trivial⟩
    all_goals intro xv wq hH hS H hU aq ha Q' hQ
    case o18_12_0 => cases rd0 ha; clear H hU hS; go_wp2_with fail; (try refine hQ _ _ ?_); refine ⟨Step.refl _ _, ?_, trivial, nofun⟩; exact (rfl : _ = _)
    case o18_12_1 | o18_12_2 => have ha := rd1 ha H (by kernel_rfl) rfl; simp only [q3, q5, q6, q7] at ha; subst ha; clear H hU hS; go_wp2_with fail; (try refine hQ _ _ ?_); refine ⟨Step.refl _ _, ?_, trivial, nofun⟩; exact (rfl : _ = _)
    case o18_12_3 => obtain ⟨f0, f3, f6, f7⟩ := FF3.out _ hH; obtain ⟨b0, b1, b2, b3, b4, b5, b6, b7, b8, b9⟩ := FB.out _ hH; obtain ⟨p0, p1, p2, p3, _⟩ := cells_known4 (hH.keeps KP3.out); have ha := rd1 ha H (by kernel_rfl) rfl; simp only [q3, q5, q6, q7] at ha; subst ha; clear H hU hS; go_wp2_with fail; (try refine hQ _ _ ?_); refine ⟨Step.refl _ _, ?_, trivial, nofun⟩; exact (rfl : _ = _)
    case o18_12_4 => cases rd0 ha; clear H hU hS; go_wp2_with fail; (try refine hQ _ _ ?_); refine ⟨Step.refl _ _, ?_, trivial, nofun⟩; exact (rfl : _ = _)
    case o18_12_5 => obtain ⟨f0, f3, f6, f7⟩ := FF3.out _ hH; obtain ⟨b0, b1, b2, b3, b4, b5, b6, b7, b8, b9⟩ := FB.out _ hH; obtain ⟨p0, p1, p2, p3, _⟩ := cells_known4 (hH.keeps KP3.out); have ha := rd1 ha H (by kernel_rfl) rfl; simp only [q3, q5, q6, q7] at ha; subst ha; clear H hU hS; go_wp2_with fail; (try refine hQ _ _ ?_); refine ⟨Step.refl _ _, ?_, trivial, nofun⟩; exact (rfl : _ = _)
    case o18_12_6 => obtain ⟨f0, f3, f6, f7⟩ := FF3.out _ hH; obtain ⟨b0, b1, b2, b3, b4, b5, b6, b7, b8, b9⟩ := FB.out _ hH; obtain ⟨p0, p1, p2, p3, _⟩ := cells_known4 (hH.keeps KP3.out); cases rd0 ha; clear H hU hS; go_wp2_with fail; (try refine hQ _ _ ?_); refine ⟨Step.refl _ _, ?_, trivial, nofun⟩; exact (rfl : _ = _)
    case o18_12_7 => have ha := rd1 ha H (by kernel_rfl) rfl; simp only [q3, q5, q6, q7] at ha; subst ha; clear H hU hS; go_wp2_with fail; (try refine hQ _ _ ?_); refine ⟨Step.refl _ _, ?_, trivial, nofun⟩; exact (rfl : _ = _)
  intro xv w9 hH hS H hU hsz hF hN
  have h0 : xv 0 = _ := H 0 (by decide) (by kernel_rfl); have h1 : xv 1 = _ := H 1 (by decide) (by kernel_rfl); have h2 : xv 2 = _ := H 2 (by decide) (by kernel_rfl); have h3 : xv 3 = _ := H 3 (by decide) (by kernel_rfl); have h4 : xv 4 = _ := H 4 (by decide) (by kernel_rfl); have h5 : xv 5 = _ := H 5 (by decide) (by kernel_rfl); have h6 : xv 6 = _ := H 6 (by decide) (by kernel_rfl); have h7 : xv 7 = _ := H 7 (by decide) (by kernel_rfl)
  simp only [planPtr18, q1, q2, q3, q5, q6, q7, q4, List.drop_succ_cons, List.drop_zero, h0, h1, h2, h3, h4, h5, h6, h7]
  clear H hF hN hS hU h0 h1 h2 h3 h4 h5 h6 h7
  have S9 := Lib.hid hH
  obtain ⟨f0, f3, f6, f7⟩ := FF3.out _ S9.out
  obtain ⟨c0_dst, c1_dst, c2_dst, c3_dst, c4_dst, z_dst⟩ := FR3.out _ S9.out dst ok_dst
  clear hH
  go_wp2_with fail
  go_ret
  exact ⟨c + 1, Nat.le_refl _, rfl, went_set (HW3.out.still S9.out) (HF3.out.still S9.out) ((CH3.out.trans (Chg.calm own' S9.out)).g gx) HL.out rfl (by omega) (ptrV ⟨st.blks.length, 0, 0, sz⟩)⟩
set_option maxHeartbeats 1000000 in
set_option maxRecDepth 100000 in
theorem ptr_none {v : Value} {i : FIns} (hi : InsAt w0 v i) (p : Value) (w : World) (h5 : (i.op == 5) = false) (h6 : (i.op == 6) = false) (h7 : (i.op == 7) = false) (h8 : (i.op == 8) = false) (h9 : (i.op == 9) = false) (h14 : (i.op == 14) = false) :
    Calls Try.prog 61 #[p, v] w fun e w' => e = .returned (.bool false) ∧ Step (fun _ => False) w w' := by
  obtain ⟨va, vo, rfl, iargs, iouts⟩ := hi
  obtain ⟨op, dst, a, b, n, size, name, args, outs, tt⟩ := i
  simp only at *
  clear iargs iouts
  go_enter Try.func61, Try.ntmps61
  go_wp2_with fail
  go_ret
  exact ⟨rfl, ((Step.refl _ w).al _).al _⟩
end
end Go.Proofs.Ytojfgdoniajmeaa
