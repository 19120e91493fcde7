/- Package mid: the instructions that write a register. -/
import Derived.Test.YtojfgdoniajmeaaMidB
namespace Go.Proofs.Ytojfgdoniajmeaa
set_option linter.unusedVariables false
set_option linter.unusedSimpArgs false
open Go.RowKit

section
variable {w0 w w' w1 w2 : World} {pf pw gx : Nat} {own own' own'' : Nat → Nat} {vn vp vk vs vc vr vl : Value} {regs : List HV} {slots : List HP} {fnv : List UInt8 → Option Value} {tops : List UInt8 → Option HP} {st : MSt} {c : Nat}
theorem Went.since {regs' : List HV} {st' : MSt} {c' : Nat} (s : Step (fun _ => False) w w1) (h : Went w0 w1 pw own fnv tops pf gx vn vp vk vs vc vr vl slots st' c' regs' w2) : Went w0 w pw own fnv tops pf gx vn vp vk vs vc vr vl slots st' c' regs' w2 := by
  obtain ⟨own', h2, h3, h4⟩ := h
  exact ⟨own', ((Chg.calm own s).g gx).trans h2, h3, h4⟩
theorem Fell.since {st' : MSt} {c' : Nat} {s1 s2 s3 : Int} {e : Ending} (s : Step (fun _ => False) w w1) (h : Fell w0 w1 pw own fnv tops gx s1 s2 s3 st' c' e w2) : Fell w0 w pw own fnv tops gx s1 s2 s3 st' c' e w2 := by
  obtain ⟨h1, own', h2, h3⟩ := h
  exact ⟨h1, own', ((Chg.calm own s).g gx).trans h2, h3⟩
set_option maxHeartbeats 1000000 in
set_option maxRecDepth 100000 in
/-- an instruction that pointer does -/
theorem do_ptr {v : Value} {i : FIns} (hi : InsAt w0 v i) {p : Value} {Q : World → Prop} (hP : ∀ y, Step (fun _ => False) w y → Calls Try.prog 61 #[p, v] y fun e w' => e = .returned (.bool true) ∧ Q w') :
    Calls Try.prog 45 #[p, v] w fun e w' => e = .returned (.tuple #[]) ∧ Q w' := by
  obtain ⟨va, vo, rfl, iargs, iouts⟩ := hi
  have PT := Lib.hid (hP _ (Step.alloc (fun _ => False) w (.cells #[.int .i64 i.op, .int .i64 i.dst, .int .i64 i.a, .int .i64 i.b, .int .u64 i.n, .int .i64 i.size, .string i.name, va, vo, .int .i64 i.to] 42 (0, 0))))
  clear iargs iouts hP
  go_enter Try.func45, Try.ntmps45
  go_wp2_with fail
  refine PT.out.mono ?_
  rintro e w2 ⟨rfl, hq⟩
  have HQ := Lib.hid hq
  clear hq
  go_wp2_with fail
  exact bodyPost_ret (v := .tuple #[]) (results_none rfl _ _ _) rfl ⟨rfl, HQ.out⟩
set_option maxHeartbeats 1000000 in
set_option maxRecDepth 100000 in
theorem do_ptr_no {v : Value} {i : FIns} (hi : InsAt w0 v i) {p : Value} {s code why : Int} {Q : World → Prop} (hP : ∀ y, Step (fun _ => False) w y → Calls Try.prog 61 #[p, v] y fun e w' => e = .panicked [{ v := stopV s code why, recovered := false }] ∧ Q w') :
    Calls Try.prog 45 #[p, v] w fun e w' => e = .panicked [{ v := stopV s code why, recovered := false }] ∧ Q w' := by
  obtain ⟨va, vo, rfl, iargs, iouts⟩ := hi
  have PT := Lib.hid (hP _ (Step.alloc (fun _ => False) w (.cells #[.int .i64 i.op, .int .i64 i.dst, .int .i64 i.a, .int .i64 i.b, .int .u64 i.n, .int .i64 i.size, .string i.name, va, vo, .int .i64 i.to] 42 (0, 0))))
  clear iargs iouts hP
  go_enter Try.func45, Try.ntmps45
  go_wp2_with fail
  refine PT.out.mono ?_
  rintro e w2 ⟨rfl, hq⟩
  have HQ := Lib.hid hq
  clear hq
  exact ⟨rfl, rfl, HQ.out⟩
/-- a number is put into the variable v -/
theorem putN {F : Nat → Prop} {tb tv : Nat} {I : Obj} {T : TypeId} {u0 u1 u2 u3 u4 : Value} {wb : World} (x : Int) (s : Step F wb w) (hge : F tv ∨ wb.heap.size ≤ tv) (hne : tb ≠ tv) (hb : w.heap[tb]? = some I) (hp : w.heap[tv]? = some (.cells #[u0, u1, u2, u3, u4] T (0, 0))) :
    ∃ w3, w3 = w.setCell ⟨tv, 0, none⟩ (.int .u64 x) ∧ Step F wb w3 ∧ w3.heap[tb]? = some I ∧ w3.heap[tv]? = some (.cells #[.int .u64 x, u1, u2, u3, u4] T (0, 0)) :=
  ⟨_, rfl, s.set (p := ⟨tv, 0, none⟩) hge _, ((Step.setCell (fun b => b = tv) w ⟨tv, 0, none⟩ _ rfl).block _ (lt_obj hb) hne).trans hb, by rw [set_known hp]; rfl⟩
/-- a value is put into the variable v -/
theorem putV {F : Nat → Prop} {tb tv : Nat} {I : Obj} {T : TypeId} {u0 u1 u2 u3 u4 : Value} {wb : World} (x : HV) (s : Step F wb w) (hge : F tv ∨ wb.heap.size ≤ tv) (hne : tb ≠ tv) (hb : w.heap[tb]? = some I) (hp : w.heap[tv]? = some (.cells #[u0, u1, u2, u3, u4] T (0, 0))) :
    ∃ w3, w3 = ((((w.setCell ⟨tv, 0, none⟩ (.int .u64 x.num)).setCell ⟨tv, 1, none⟩ (.int .i64 x.ptr.block)).setCell ⟨tv, 2, none⟩ (.int .i64 x.ptr.off)).setCell ⟨tv, 3, none⟩ (.int .i64 x.ptr.low)).setCell ⟨tv, 4, none⟩ (.int .i64 x.ptr.high) ∧ Step F wb w3 ∧ w3.heap[tb]? = some I ∧ w3.heap[tv]? = some (.cells #[.int .u64 x.num, .int .i64 x.ptr.block, .int .i64 x.ptr.off, .int .i64 x.ptr.low, .int .i64 x.ptr.high] T (0, 0)) :=
  ⟨_, rfl, set5_step s hge _ _ _ _ _, ((set5_step (Step.refl (fun b => b = tv) w) (.inl rfl) _ _ _ _ _).block _ (lt_obj hb) hne).trans hb, set5_known hp _ _ _ _ _⟩
theorem num_64 {x : List HV} (h : ∀ v ∈ x, is64 v.num) (r : Int) : is64 (rgV x r).num := by
  unfold rgV
  rw [List.getD_eq_getElem?_getD]
  cases e : x[r.toNat]? with
  | none => exact ⟨by simp [HV.zero], by simp [HV.zero]⟩
  | some y => exact h y (List.mem_of_getElem? e)
def planDo28 : Plan where
  T := [[], [0], [0, 1], [0, 1, 2], [], [4], [], [0, 1, 2, 3, 4, 5, 6], [0, 1, 2, 3, 4, 5, 6, 7]]
  rd := [[], [(0, some 168)], [(1, some 169)], [(2, some 170)], [], [(4, some 172)], []]
  all := [(6, some 174), (5, some 173), (4, some 172), (3, some 171), (2, some 170), (1, some 169), (0, some 168)]
  calm := [true, true, true, true, true, true, true]
  hard := []
  fresh := [false, false, false, false, false, false, false]

def planDo8 : Plan where
  T := [[], [0], [0, 1], [0, 1, 2], [], [4], [0, 1, 2, 3, 4, 5], [0, 1, 2, 3, 4, 5, 6], [0, 1, 2, 3, 4, 5, 6, 7]]
  rd := [[], [(0, some 21)], [(1, some 22)], [(2, some 23)], [], [(4, some 25)]]
  all := [(5, some 26), (4, some 25), (3, some 24), (2, some 23), (1, some 22), (0, some 21)]
  calm := [true, true, true, true, true, true]
  hard := []
  fresh := [false, false, false, false, false, false]

def planDo10 : Plan where
  T := [[], [0], [0, 1], [], [3], [3, 4], [3, 4, 5], [], [7], [3, 4, 5, 6, 7, 8], [3, 4, 5, 6, 7, 8, 9], [3, 4, 5, 6, 7, 8, 9, 10], [], [12], [12, 13], [12, 13, 14], [], [16], [12, 13, 14, 15, 16, 17], [12, 13, 14, 15, 16, 17, 18], [12, 13, 14, 15, 16, 17, 18, 19], [0, 1, 2, 3, 4, 5, 6, 7, 8, 9, 10, 11, 12, 13, 14, 15, 16, 17, 18, 19, 20], [0, 1, 2, 3, 4, 5, 6, 7, 8, 9, 10, 11, 12, 13, 14, 15, 16, 17, 18, 19, 20, 21], [0, 1, 2, 3, 4, 5, 6, 7, 8, 9, 10, 11, 12, 13, 14, 15, 16, 17, 18, 19, 20, 21, 22], [0, 1, 2, 3, 4, 5, 6, 7, 8, 9, 10, 11, 12, 13, 14, 15, 16, 17, 18, 19, 20, 21, 22], [0, 1, 2, 3, 4, 5, 6, 7, 8, 9, 10, 11, 12, 13, 14, 15, 16, 17, 18, 19, 20, 21, 22, 23], [0, 1, 2, 3, 4, 5, 6, 7, 8, 9, 10, 11, 12, 13, 14, 15, 16, 17, 18, 19, 20, 21, 22, 23, 25]]
  rd := [[], [(0, some 32)], [(1, some 33)], [], [(3, some 35)], [(4, some 36)], [(5, some 37)], [], [(7, some 39)], [(6, some 38), (8, some 40)], [(9, some 41)], [(10, some 42)], [], [(12, some 44)], [(13, some 45)], [(14, some 46)], [], [(16, some 48)], [(15, some 47), (17, some 49)], [(18, some 50)], [(19, some 51)], [(2, some 34), (11, some 43), (20, some 52)], [(21, some 53)], [(22, some 31)], [(22, some 31)], [], [(23, some 54), (25, some 56)]]
  all := [(26, none), (25, some 56), (24, some 55), (23, some 54), (22, some 31), (21, some 53), (20, some 52), (19, some 51), (18, some 50), (17, some 49), (16, some 48), (15, some 47), (14, some 46), (13, some 45), (12, some 44), (11, some 43), (10, some 42), (9, some 41), (8, some 40), (7, some 39), (6, some 38), (5, some 37), (4, some 36), (3, some 35), (2, some 34), (1, some 33), (0, some 32)]
  calm := [true, true, true, true, true, true, true, true, true, true, true, true, true, true, true, true, true, true, true, true, true, true, true, true, true, true, false]
  hard := [true, true, true, true, true, true, true, true, true, true, true, true, true, true, true, true, true, true, true, true, true, true, true, true, true, true, true]
  fresh := [false, false, false, false, false, false, false, false, false, false, false, false, false, false, false, false, false, false, false, false, false, false, false, false, false, false, false]

def planDo12 : Plan where
  T := [[], [0], [0, 1], [0, 1, 2], [], [4], [0, 1, 2, 3, 4, 5], [0, 1, 2, 3, 4, 5, 6], [0, 1, 2, 3, 4, 5, 6, 7], [], [9], [9, 10], [0, 1, 2, 3, 4, 5, 6, 7, 8, 9, 10, 11], [0, 1, 2, 3, 4, 5, 6, 7, 8, 9, 10, 11, 12], [0, 1, 2, 3, 4, 5, 6, 7, 8, 9, 10, 11, 12, 13], [0, 1, 2, 3, 4, 5, 6, 7, 8, 9, 10, 11, 12, 13], [0, 1, 2, 3, 4, 5, 6, 7, 8, 9, 10, 11, 12, 13, 14], [0, 1, 2, 3, 4, 5, 6, 7, 8, 9, 10, 11, 12, 13, 14, 16]]
  rd := [[], [(0, some 60)], [(1, some 61)], [(2, some 62)], [], [(4, some 64)], [(3, some 63), (5, some 65)], [(6, some 66)], [(7, some 67)], [], [(9, some 69)], [(10, some 70)], [(8, some 68), (11, some 71)], [(12, some 72)], [(13, some 59)], [(13, some 59)], [], [(14, some 73), (16, some 75)]]
  all := [(17, none), (16, some 75), (15, some 74), (14, some 73), (13, some 59), (12, some 72), (11, some 71), (10, some 70), (9, some 69), (8, some 68), (7, some 67), (6, some 66), (5, some 65), (4, some 64), (3, some 63), (2, some 62), (1, some 61), (0, some 60)]
  calm := [true, true, true, true, true, true, true, true, true, true, true, true, true, true, true, true, true, false]
  hard := [true, true, true, true, true, true, true, true, true, true, true, true, true, true, true, true, true, true]
  fresh := [false, false, false, false, false, false, false, false, false, false, false, false, false, false, false, false, false, false]

set_option maxHeartbeats 4000000 in
set_option maxRecDepth 100000 in
theorem do_1 (hW : MWAt w0 w pw own fnv tops st c) (hF : MFr w own pf pw gx vn vp vk vs vc vr vl regs slots) (hl : w0.heap.size ≤ gx) {v : Value} {i : FIns} (hi : InsAt w0 v i) (ho : i.op = 1) (ok_dst : ok1 regs i.dst) :
    Calls Try.prog 45 #[.pointer (some ⟨pf, 0, none⟩), v] w (fun e w' => e = .returned (.tuple #[]) ∧ Went w0 w pw own fnv tops pf gx vn vp vk vs vc vr vl slots st c (regs.set i.dst.toNat (numV i.n)) w') := by
  have NO := Lib.hid (fun y => ptr_none hi (.pointer (some ⟨pf, 0, none⟩)) y (by rw [ho]; rfl) (by rw [ho]; rfl) (by rw [ho]; rfl) (by rw [ho]; rfl) (by rw [ho]; rfl) (by rw [ho]; rfl))
  obtain ⟨va, vo, rfl, iargs, iouts⟩ := hi
  obtain ⟨op, dst, a, b, n, size, name, args, outs, tt⟩ := i
  simp only at *
  subst ho
  obtain ⟨rcap, rfl⟩ := regs_slice hF (by unfold ok1 at ok_dst; omega)
  have HW := Lib.hid hW
  have HF := Lib.hid hF
  have HL := Lib.hid hl
  have FF := Lib.hid (frame_facts hF)
  have FR := Lib.hid (reg_facts hF)
  unfold ok1 at ok_dst
  clear hW hF hl
  obtain ⟨f0, f3, f6, f7⟩ := FF.out _ (Step.refl _ _)
  have hpf := block_lt f6
  simp only at hpf
  have kb := heap_alloc_new w (.cells #[.int .i64 1, .int .i64 dst, .int .i64 a, .int .i64 b, .int .u64 n, .int .i64 size, .string name, va, vo, .int .i64 tt] 42 (0, 0))
  have s1 := Step.alloc (fun _ => False) w (.cells #[.int .i64 1, .int .i64 dst, .int .i64 a, .int .i64 b, .int .u64 n, .int .i64 size, .string name, va, vo, .int .i64 tt] 42 (0, 0))
  have HT := Lib.hid (show gx < w.heap.size ∧ own w.heap.size = 0 from ⟨HF.out.free.2.2.2, HW.out.fresh0⟩)
  have KB := Lib.hid kb
  have S1 := Lib.hid s1
  clear kb s1
  go_enter Try.func45, Try.ntmps45
  go_upto_region 1 with fail
  clear f0 f3 f6 f7 hpf
  generalize w.alloc (.cells #[.int .i64 1, .int .i64 dst, .int .i64 a, .int .i64 b, .int .u64 n, .int .i64 size, .string name, va, vo, .int .i64 tt] 42 (0, 0)) = w1 at KB S1 ⊢
  generalize htb : w.heap.size = tb at KB HT ⊢
  have HTB := Lib.hid htb
  clear htb
  obtain ⟨b0, b1, b2, b3, b4, b5, b6, b7, b8, b9⟩ := box_facts KB.out _ (Step.refl _ _)
  go_wp2_with fail
  refine (NO.out _).mono ?_
  rintro e w2 ⟨rfl, s2⟩
  have KB2 := s2.keeps KB.out
  have S2 := S1.out.then s2
  have kv := heap_alloc_new w2 (.cells #[.int .u64 0, .int .i64 0, .int .i64 0, .int .i64 0, .int .i64 0] 98 (0, 0))
  have s3 := Step.alloc (fun _ => False) w2 (.cells #[.int .u64 0, .int .i64 0, .int .i64 0, .int .i64 0, .int .i64 0] 98 (0, 0))
  have hz := s2.size
  have hb := lt_obj KB.out
  replace KB := Lib.hid (s3.keeps KB2)
  replace HT := Lib.hid (show gx < tb ∧ own tb = 0 ∧ w.heap.size ≤ w2.heap.size ∧ tb ≠ w2.heap.size from ⟨HT.out.1, HT.out.2, S2.size, by omega⟩)
  replace S1 := Lib.hid (S2.then s3)
  have KV := Lib.hid kv
  clear KB2 S2 kv s2 s3 hz hb b0 b1 b2 b3 b4 b5 b6 b7 b8 b9 NO
  go_upto_region 3 with fail
  generalize w2.alloc (.cells #[.int .u64 0, .int .i64 0, .int .i64 0, .int .i64 0, .int .i64 0] 98 (0, 0)) = w1 at KB KV S1 ⊢
  generalize w2.heap.size = tv at KV HT ⊢
  have FB := Lib.hid (box_facts KB.out)
  obtain ⟨b0, b1, b2, b3, b4, b5, b6, b7, b8, b9⟩ := FB.out _ (Step.refl _ _)
  go_upto_region 6 with fail
  clear b0 b1 b2 b3 b4 b5 b6 b7 b8 b9
  have SA := Lib.hid (Step.refl (fun _ => False) w1)
  have SB := Lib.hid S1.out
  obtain ⟨w2, hw2⟩ : ∃ w2, w1 = w2 := ⟨_, rfl⟩
  rw [hw2] at SA SB ⊢
  replace SA := Lib.hid (show Step (fun _ => False) w1 w2 from by rw [hw2]; exact Step.refl _ _)
  clear hw2
  obtain ⟨f0, f3, f6, f7⟩ := FF.out _ SB.out
  obtain ⟨b0, b1, b2, b3, b4, b5, b6, b7, b8, b9⟩ := FB.out _ SA.out
  obtain ⟨v0, v1, v2, v3, v4, y0, y1, y2, y3, y4⟩ := cells_known5 (SA.out.keeps KV.out)
  obtain ⟨w3, hw3, s3, kb3, kv3⟩ := putN (wb := w) (n) SB.out (.inr HT.out.2.2.1) HT.out.2.2.2 (SA.out.keeps KB.out) (SA.out.keeps KV.out)
  have HW3 := Lib.hid hw3
  have S3 := Lib.hid s3
  have KB3 := Lib.hid kb3
  have KV3 := Lib.hid kv3
  clear hw3 s3 kb3 kv3
  go_upto_region 27 with fail
  rw [← HW3.out]
  clear HW3 KB KV FB SA SB
  clear f0 f3 f6 f7 b0 b1 b2 b3 b4 b5 b6 b7 b8 b9 v0 v1 v2 v3 v4 y0 y1 y2 y3 y4
  have FB := Lib.hid (box_facts KB3.out)
  obtain ⟨b0, b1, b2, b3, b4, b5, b6, b7, b8, b9⟩ := FB.out _ (Step.refl _ _)
  have hd0 : decide (0 ≤ dst) = true := decide_eq_true ok_dst.1
  go_upto_region 28 with fail
  clear b0 b1 b2 b3 b4 b5 b6 b7 b8 b9
  refine wp_region_each 7 planDo28 (fun _ _ => False) (Step (fun _ => False) w3) (fun _ => True) [Is ?v28_1_0, Is ?v28_1_1, Is ?v28_1_2, Is ?v28_1_3, Is ?v28_1_4, Is ?v28_1_5, Is ?v28_1_6] [] (by kernel_rfl) (by kernel_rfl) (fun _ _ h => h.elim) ((Step.refl _ _).drew) (trivial) ?stab28_1 ?stabD28_1 ?obl28_1 ?fin28_1
  case stab28_1 => exact fun w w' h => ⟨fun k => k.trans h (fun _ x => x.elim), fun _ => trivial, ⟨fun _ k => k, fun _ k => k, fun _ k => k, fun _ k => k, fun _ k => k, fun _ k => k, fun _ k => k, trivial⟩, trivial⟩
  case stabD28_1 => exact fun _ _ h => h.elim
  case obl28_1 =>
    refine ⟨?o28_1_0, ?o28_1_1, ?o28_1_2, ?o28_1_3, ?o28_1_4, ?o28_1_5, ?o28_1_6, trivial⟩
    all_goals intro xv wq hH hS H hU aq ha Q' hQ
    case o28_1_0 => cases rd0 ha; clear H hU hS; go_wp2_with fail; (try refine hQ _ _ ?_); refine ⟨Step.refl _ _, ?_, trivial, nofun⟩; exact (rfl : _ = _)
    case o28_1_1 | o28_1_2 => have ha := rd1 ha H (by kernel_rfl) rfl; simp only [q3, q5, q6, q7] at ha; subst ha; clear H hU hS; go_wp2_with fail; (try refine hQ _ _ ?_); refine ⟨Step.refl _ _, ?_, trivial, nofun⟩; exact (rfl : _ = _)
    case o28_1_3 => obtain ⟨f0, f3, f6, f7⟩ := FF.out _ (S3.out.then hH); obtain ⟨b0, b1, b2, b3, b4, b5, b6, b7, b8, b9⟩ := FB.out _ hH; obtain ⟨v0, v1, v2, v3, v4, y0, y1, y2, y3, y4⟩ := cells_known5 (hH.keeps KV3.out); have ha := rd1 ha H (by kernel_rfl) rfl; simp only [q3, q5, q6, q7] at ha; subst ha; clear H hU hS; go_wp2_with fail; (try refine hQ _ _ ?_); refine ⟨Step.refl _ _, ?_, trivial, nofun⟩; exact (rfl : _ = _)
    case o28_1_4 => cases rd0 ha; clear H hU hS; go_wp2_with fail; (try refine hQ _ _ ?_); refine ⟨Step.refl _ _, ?_, trivial, nofun⟩; exact (rfl : _ = _)
    case o28_1_5 => obtain ⟨f0, f3, f6, f7⟩ := FF.out _ (S3.out.then hH); obtain ⟨b0, b1, b2, b3, b4, b5, b6, b7, b8, b9⟩ := FB.out _ hH; obtain ⟨v0, v1, v2, v3, v4, y0, y1, y2, y3, y4⟩ := cells_known5 (hH.keeps KV3.out); have ha := rd1 ha H (by kernel_rfl) rfl; simp only [q3, q5, q6, q7] at ha; subst ha; clear H hU hS; go_wp2_with fail; (try refine hQ _ _ ?_); refine ⟨Step.refl _ _, ?_, trivial, nofun⟩; exact (rfl : _ = _)
    case o28_1_6 => obtain ⟨f0, f3, f6, f7⟩ := FF.out _ (S3.out.then hH); obtain ⟨b0, b1, b2, b3, b4, b5, b6, b7, b8, b9⟩ := FB.out _ hH; obtain ⟨v0, v1, v2, v3, v4, y0, y1, y2, y3, y4⟩ := cells_known5 (hH.keeps KV3.out); cases rd0 ha; clear H hU hS; go_wp2_with fail; (try refine hQ _ _ ?_); refine ⟨Step.refl _ _, ?_, trivial, nofun⟩; exact (rfl : _ = _)
  intro xv w9 hH hS H hU hsz hF hN
  have h0 : xv 0 = _ := H 0 (by decide) (by kernel_rfl); have h1 : xv 1 = _ := H 1 (by decide) (by kernel_rfl); have h2 : xv 2 = _ := H 2 (by decide) (by kernel_rfl); have h3 : xv 3 = _ := H 3 (by decide) (by kernel_rfl); have h4 : xv 4 = _ := H 4 (by decide) (by kernel_rfl); have h5 : xv 5 = _ := H 5 (by decide) (by kernel_rfl); have h6 : xv 6 = _ := H 6 (by decide) (by kernel_rfl)
  simp only [planDo28, q1, q2, q3, q5, q6, q7, q4, List.drop_succ_cons, List.drop_zero, h0, h1, h2, h3, h4, h5, h6]
  clear H hF hN hS hU h0 h1 h2 h3 h4 h5 h6
  have S9 := Lib.hid (S3.out.then hH)
  obtain ⟨f0, f3, f6, f7⟩ := FF.out _ S9.out
  obtain ⟨c0_dst, c1_dst, c2_dst, c3_dst, c4_dst, z_dst⟩ := FR.out _ S9.out dst ok_dst
  clear hH
  go_wp2_with fail
  go_end0
  exact ⟨rfl, went_set (HW.out.still S9.out) (HF.out.still S9.out) ((Chg.calm own S9.out).g gx) HL.out rfl (by omega) (numV n)⟩
set_option maxHeartbeats 4000000 in
set_option maxRecDepth 100000 in
theorem do_2 (hW : MWAt w0 w pw own fnv tops st c) (hF : MFr w own pf pw gx vn vp vk vs vc vr vl regs slots) (hl : w0.heap.size ≤ gx) {v : Value} {i : FIns} (hi : InsAt w0 v i) (ho : i.op = 2) (ok_dst : ok1 regs i.dst) (ok_a : ok1 regs i.a) :
    Calls Try.prog 45 #[.pointer (some ⟨pf, 0, none⟩), v] w (fun e w' => e = .returned (.tuple #[]) ∧ Went w0 w pw own fnv tops pf gx vn vp vk vs vc vr vl slots st c (regs.set i.dst.toNat (rgV regs i.a)) w') := by
  have NO := Lib.hid (fun y => ptr_none hi (.pointer (some ⟨pf, 0, none⟩)) y (by rw [ho]; rfl) (by rw [ho]; rfl) (by rw [ho]; rfl) (by rw [ho]; rfl) (by rw [ho]; rfl) (by rw [ho]; rfl))
  obtain ⟨va, vo, rfl, iargs, iouts⟩ := hi
  obtain ⟨op, dst, a, b, n, size, name, args, outs, tt⟩ := i
  simp only at *
  subst ho
  obtain ⟨rcap, rfl⟩ := regs_slice hF (by unfold ok1 at ok_dst; omega)
  have HW := Lib.hid hW
  have HF := Lib.hid hF
  have HL := Lib.hid hl
  have FF := Lib.hid (frame_facts hF)
  have FR := Lib.hid (reg_facts hF)
  unfold ok1 at ok_dst ok_a
  clear hW hF hl
  obtain ⟨f0, f3, f6, f7⟩ := FF.out _ (Step.refl _ _)
  have hpf := block_lt f6
  simp only at hpf
  have kb := heap_alloc_new w (.cells #[.int .i64 2, .int .i64 dst, .int .i64 a, .int .i64 b, .int .u64 n, .int .i64 size, .string name, va, vo, .int .i64 tt] 42 (0, 0))
  have s1 := Step.alloc (fun _ => False) w (.cells #[.int .i64 2, .int .i64 dst, .int .i64 a, .int .i64 b, .int .u64 n, .int .i64 size, .string name, va, vo, .int .i64 tt] 42 (0, 0))
  have HT := Lib.hid (show gx < w.heap.size ∧ own w.heap.size = 0 from ⟨HF.out.free.2.2.2, HW.out.fresh0⟩)
  have KB := Lib.hid kb
  have S1 := Lib.hid s1
  clear kb s1
  go_enter Try.func45, Try.ntmps45
  go_upto_region 1 with fail
  clear f0 f3 f6 f7 hpf
  generalize w.alloc (.cells #[.int .i64 2, .int .i64 dst, .int .i64 a, .int .i64 b, .int .u64 n, .int .i64 size, .string name, va, vo, .int .i64 tt] 42 (0, 0)) = w1 at KB S1 ⊢
  generalize htb : w.heap.size = tb at KB HT ⊢
  have HTB := Lib.hid htb
  clear htb
  obtain ⟨b0, b1, b2, b3, b4, b5, b6, b7, b8, b9⟩ := box_facts KB.out _ (Step.refl _ _)
  go_wp2_with fail
  refine (NO.out _).mono ?_
  rintro e w2 ⟨rfl, s2⟩
  have KB2 := s2.keeps KB.out
  have S2 := S1.out.then s2
  have kv := heap_alloc_new w2 (.cells #[.int .u64 0, .int .i64 0, .int .i64 0, .int .i64 0, .int .i64 0] 98 (0, 0))
  have s3 := Step.alloc (fun _ => False) w2 (.cells #[.int .u64 0, .int .i64 0, .int .i64 0, .int .i64 0, .int .i64 0] 98 (0, 0))
  have hz := s2.size
  have hb := lt_obj KB.out
  replace KB := Lib.hid (s3.keeps KB2)
  replace HT := Lib.hid (show gx < tb ∧ own tb = 0 ∧ w.heap.size ≤ w2.heap.size ∧ tb ≠ w2.heap.size from ⟨HT.out.1, HT.out.2, S2.size, by omega⟩)
  replace S1 := Lib.hid (S2.then s3)
  have KV := Lib.hid kv
  clear KB2 S2 kv s2 s3 hz hb b0 b1 b2 b3 b4 b5 b6 b7 b8 b9 NO
  go_upto_region 3 with fail
  generalize w2.alloc (.cells #[.int .u64 0, .int .i64 0, .int .i64 0, .int .i64 0, .int .i64 0] 98 (0, 0)) = w1 at KB KV S1 ⊢
  generalize w2.heap.size = tv at KV HT ⊢
  have FB := Lib.hid (box_facts KB.out)
  obtain ⟨b0, b1, b2, b3, b4, b5, b6, b7, b8, b9⟩ := FB.out _ (Step.refl _ _)
  go_upto_region 8 with fail
  clear b0 b1 b2 b3 b4 b5 b6 b7 b8 b9
  refine wp_region_each 6 planDo8 (fun _ _ => False) (Step (fun _ => False) w1) (fun _ => True) [Is ?v8_2_0, Is ?v8_2_1, Is ?v8_2_2, Is ?v8_2_3, Is ?v8_2_4, Is ?v8_2_5] [] (by kernel_rfl) (by kernel_rfl) (fun _ _ h => h.elim) ((Step.refl _ _).drew) (trivial) ?stab8_2 ?stabD8_2 ?obl8_2 ?fin8_2
  case stab8_2 => exact fun w w' h => ⟨fun k => k.trans h (fun _ x => x.elim), fun _ => trivial, ⟨fun _ k => k, fun _ k => k, fun _ k => k, fun _ k => k, fun _ k => k, fun _ k => k, trivial⟩, trivial⟩
  case stabD8_2 => exact fun _ _ h => h.elim
  case obl8_2 =>
    refine ⟨?o8_2_0, ?o8_2_1, ?o8_2_2, ?o8_2_3, ?o8_2_4, ?o8_2_5, trivial⟩
    all_goals intro xv wq hH hS H hU aq ha Q' hQ
    case o8_2_0 => cases rd0 ha; clear H hU hS; go_wp2_with fail; (try refine hQ _ _ ?_); refine ⟨Step.refl _ _, ?_, trivial, nofun⟩; exact (rfl : _ = _)
    case o8_2_1 | o8_2_2 => have ha := rd1 ha H (by kernel_rfl) rfl; simp only [q3, q5, q6, q7] at ha; subst ha; clear H hU hS; go_wp2_with fail; (try refine hQ _ _ ?_); refine ⟨Step.refl _ _, ?_, trivial, nofun⟩; exact (rfl : _ = _)
    case o8_2_3 => obtain ⟨f0, f3, f6, f7⟩ := FF.out _ (S1.out.then hH); obtain ⟨c0_a, c1_a, c2_a, c3_a, c4_a, z_a⟩ := FR.out _ (S1.out.then hH) a ok_a; obtain ⟨b0, b1, b2, b3, b4, b5, b6, b7, b8, b9⟩ := FB.out _ hH; obtain ⟨v0, v1, v2, v3, v4, y0, y1, y2, y3, y4⟩ := cells_known5 (hH.keeps KV.out); have ha := rd1 ha H (by kernel_rfl) rfl; simp only [q3, q5, q6, q7] at ha; subst ha; clear H hU hS; go_wp2_with fail; (try refine hQ _ _ ?_); refine ⟨Step.refl _ _, ?_, trivial, nofun⟩; exact (rfl : _ = _)
    case o8_2_4 => cases rd0 ha; clear H hU hS; go_wp2_with fail; (try refine hQ _ _ ?_); refine ⟨Step.refl _ _, ?_, trivial, nofun⟩; exact (rfl : _ = _)
    case o8_2_5 => obtain ⟨f0, f3, f6, f7⟩ := FF.out _ (S1.out.then hH); obtain ⟨c0_a, c1_a, c2_a, c3_a, c4_a, z_a⟩ := FR.out _ (S1.out.then hH) a ok_a; obtain ⟨b0, b1, b2, b3, b4, b5, b6, b7, b8, b9⟩ := FB.out _ hH; obtain ⟨v0, v1, v2, v3, v4, y0, y1, y2, y3, y4⟩ := cells_known5 (hH.keeps KV.out); have ha := rd1 ha H (by kernel_rfl) rfl; simp only [q3, q5, q6, q7] at ha; subst ha; clear H hU hS; go_wp2_with fail; (try refine hQ _ _ ?_); refine ⟨Step.refl _ _, ?_, trivial, nofun⟩; exact (rfl : _ = _)
  intro xv w2 hH hS H hU hsz hF hN
  have h0 : xv 0 = _ := H 0 (by decide) (by kernel_rfl); have h1 : xv 1 = _ := H 1 (by decide) (by kernel_rfl); have h2 : xv 2 = _ := H 2 (by decide) (by kernel_rfl); have h3 : xv 3 = _ := H 3 (by decide) (by kernel_rfl); have h4 : xv 4 = _ := H 4 (by decide) (by kernel_rfl); have h5 : xv 5 = _ := H 5 (by decide) (by kernel_rfl)
  simp only [planDo8, q1, q2, q3, q5, q6, q7, q4, List.drop_succ_cons, List.drop_zero, h0, h1, h2, h3, h4, h5]
  clear H hF hN hS hU h0 h1 h2 h3 h4 h5
  have SA := Lib.hid hH
  have SB := Lib.hid (S1.out.then hH)
  clear hH
  obtain ⟨f0, f3, f6, f7⟩ := FF.out _ SB.out
  obtain ⟨c0_a, c1_a, c2_a, c3_a, c4_a, z_a⟩ := FR.out _ SB.out a ok_a
  obtain ⟨b0, b1, b2, b3, b4, b5, b6, b7, b8, b9⟩ := FB.out _ SA.out
  obtain ⟨v0, v1, v2, v3, v4, y0, y1, y2, y3, y4⟩ := cells_known5 (SA.out.keeps KV.out)
  obtain ⟨w3, hw3, s3, kb3, kv3⟩ := putV (wb := w) (rgV regs a) SB.out (.inr HT.out.2.2.1) HT.out.2.2.2 (SA.out.keeps KB.out) (SA.out.keeps KV.out)
  have HW3 := Lib.hid hw3
  have S3 := Lib.hid s3
  have KB3 := Lib.hid kb3
  have KV3 := Lib.hid kv3
  clear hw3 s3 kb3 kv3
  go_upto_region 27 with fail
  rw [← HW3.out]
  clear HW3 KB KV FB SA SB
  clear f0 f3 f6 f7 c0_a c1_a c2_a c3_a c4_a z_a b0 b1 b2 b3 b4 b5 b6 b7 b8 b9 v0 v1 v2 v3 v4 y0 y1 y2 y3 y4
  have FB := Lib.hid (box_facts KB3.out)
  obtain ⟨b0, b1, b2, b3, b4, b5, b6, b7, b8, b9⟩ := FB.out _ (Step.refl _ _)
  have hd0 : decide (0 ≤ dst) = true := decide_eq_true ok_dst.1
  go_upto_region 28 with fail
  clear b0 b1 b2 b3 b4 b5 b6 b7 b8 b9
  refine wp_region_each 7 planDo28 (fun _ _ => False) (Step (fun _ => False) w3) (fun _ => True) [Is ?v28_3_0, Is ?v28_3_1, Is ?v28_3_2, Is ?v28_3_3, Is ?v28_3_4, Is ?v28_3_5, Is ?v28_3_6] [] (by kernel_rfl) (by kernel_rfl) (fun _ _ h => h.elim) ((Step.refl _ _).drew) (trivial) ?stab28_3 ?stabD28_3 ?obl28_3 ?fin28_3
  case stab28_3 => exact fun w w' h => ⟨fun k => k.trans h (fun _ x => x.elim), fun _ => trivial, ⟨fun _ k => k, fun _ k => k, fun _ k => k, fun _ k => k, fun _ k => k, fun _ k => k, fun _ k => k, trivial⟩, trivial⟩
  case stabD28_3 => exact fun _ _ h => h.elim
  case obl28_3 =>
    refine ⟨?o28_3_0, ?o28_3_1, ?o28_3_2, ?o28_3_3, ?o28_3_4, ?o28_3_5, ?o28_3_6, trivial⟩
    all_goals intro xv wq hH hS H hU aq ha Q' hQ
    case o28_3_0 => cases rd0 ha; clear H hU hS; go_wp2_with fail; (try refine hQ _ _ ?_); refine ⟨Step.refl _ _, ?_, trivial, nofun⟩; exact (rfl : _ = _)
    case o28_3_1 | o28_3_2 => have ha := rd1 ha H (by kernel_rfl) rfl; simp only [q3, q5, q6, q7] at ha; subst ha; clear H hU hS; go_wp2_with fail; (try refine hQ _ _ ?_); refine ⟨Step.refl _ _, ?_, trivial, nofun⟩; exact (rfl : _ = _)
    case o28_3_3 => obtain ⟨f0, f3, f6, f7⟩ := FF.out _ (S3.out.then hH); obtain ⟨b0, b1, b2, b3, b4, b5, b6, b7, b8, b9⟩ := FB.out _ hH; obtain ⟨v0, v1, v2, v3, v4, y0, y1, y2, y3, y4⟩ := cells_known5 (hH.keeps KV3.out); have ha := rd1 ha H (by kernel_rfl) rfl; simp only [q3, q5, q6, q7] at ha; subst ha; clear H hU hS; go_wp2_with fail; (try refine hQ _ _ ?_); refine ⟨Step.refl _ _, ?_, trivial, nofun⟩; exact (rfl : _ = _)
    case o28_3_4 => cases rd0 ha; clear H hU hS; go_wp2_with fail; (try refine hQ _ _ ?_); refine ⟨Step.refl _ _, ?_, trivial, nofun⟩; exact (rfl : _ = _)
    case o28_3_5 => obtain ⟨f0, f3, f6, f7⟩ := FF.out _ (S3.out.then hH); obtain ⟨b0, b1, b2, b3, b4, b5, b6, b7, b8, b9⟩ := FB.out _ hH; obtain ⟨v0, v1, v2, v3, v4, y0, y1, y2, y3, y4⟩ := cells_known5 (hH.keeps KV3.out); have ha := rd1 ha H (by kernel_rfl) rfl; simp only [q3, q5, q6, q7] at ha; subst ha; clear H hU hS; go_wp2_with fail; (try refine hQ _ _ ?_); refine ⟨Step.refl _ _, ?_, trivial, nofun⟩; exact (rfl : _ = _)
    case o28_3_6 => obtain ⟨f0, f3, f6, f7⟩ := FF.out _ (S3.out.then hH); obtain ⟨b0, b1, b2, b3, b4, b5, b6, b7, b8, b9⟩ := FB.out _ hH; obtain ⟨v0, v1, v2, v3, v4, y0, y1, y2, y3, y4⟩ := cells_known5 (hH.keeps KV3.out); cases rd0 ha; clear H hU hS; go_wp2_with fail; (try refine hQ _ _ ?_); refine ⟨Step.refl _ _, ?_, trivial, nofun⟩; exact (rfl : _ = _)
  intro xv w9 hH hS H hU hsz hF hN
  have h0 : xv 0 = _ := H 0 (by decide) (by kernel_rfl); have h1 : xv 1 = _ := H 1 (by decide) (by kernel_rfl); have h2 : xv 2 = _ := H 2 (by decide) (by kernel_rfl); have h3 : xv 3 = _ := H 3 (by decide) (by kernel_rfl); have h4 : xv 4 = _ := H 4 (by decide) (by kernel_rfl); have h5 : xv 5 = _ := H 5 (by decide) (by kernel_rfl); have h6 : xv 6 = _ := H 6 (by decide) (by kernel_rfl)
  simp only [planDo28, q1, q2, q3, q5, q6, q7, q4, List.drop_succ_cons, List.drop_zero, h0, h1, h2, h3, h4, h5, h6]
  clear H hF hN hS hU h0 h1 h2 h3 h4 h5 h6
  have S9 := Lib.hid (S3.out.then hH)
  obtain ⟨f0, f3, f6, f7⟩ := FF.out _ S9.out
  obtain ⟨c0_dst, c1_dst, c2_dst, c3_dst, c4_dst, z_dst⟩ := FR.out _ S9.out dst ok_dst
  clear hH
  go_wp2_with fail
  go_end0
  exact ⟨rfl, went_set (HW.out.still S9.out) (HF.out.still S9.out) ((Chg.calm own S9.out).g gx) HL.out rfl (by omega) (rgV regs a)⟩
set_option maxHeartbeats 4000000 in
set_option maxRecDepth 100000 in
theorem do_3 (hW : MWAt w0 w pw own fnv tops st c) (hF : MFr w own pf pw gx vn vp vk vs vc vr vl regs slots) (hl : w0.heap.size ≤ gx) {v : Value} {i : FIns} (hi : InsAt w0 v i) (ho : i.op = 3) (ok_dst : ok1 regs i.dst) (ok_a : ok1 regs i.a) (ok_b : ok1 regs i.b) (h64 : ∀ v ∈ regs, is64 v.num) (hn : 1 ≤ i.n ∧ i.n ≤ 27) :
    Calls Try.prog 45 #[.pointer (some ⟨pf, 0, none⟩), v] w (fun e w' => e = .returned (.tuple #[]) ∧ Went w0 w pw own fnv tops pf gx vn vp vk vs vc vr vl slots st c (regs.set i.dst.toNat (numV (doF i.n (rgV regs i.a).num (rgV regs i.b).num).1)) w') := by
  have NO := Lib.hid (fun y => ptr_none hi (.pointer (some ⟨pf, 0, none⟩)) y (by rw [ho]; rfl) (by rw [ho]; rfl) (by rw [ho]; rfl) (by rw [ho]; rfl) (by rw [ho]; rfl) (by rw [ho]; rfl))
  obtain ⟨va, vo, rfl, iargs, iouts⟩ := hi
  obtain ⟨op, dst, a, b, n, size, name, args, outs, tt⟩ := i
  simp only at *
  subst ho
  obtain ⟨rcap, rfl⟩ := regs_slice hF (by unfold ok1 at ok_dst; omega)
  have HW := Lib.hid hW
  have HF := Lib.hid hF
  have HL := Lib.hid hl
  have FF := Lib.hid (frame_facts hF)
  have FR := Lib.hid (reg_facts hF)
  unfold ok1 at ok_dst ok_a ok_b
  have ra := num_64 h64 a
  have rb := num_64 h64 b
  unfold is64 at ra rb
  have DO := Lib.hid (fun op => do_any op (rgV regs a).num (rgV regs b).num ra.1 ra.2 rb.1 rb.2)
  clear ra rb h64
  clear hW hF hl
  obtain ⟨f0, f3, f6, f7⟩ := FF.out _ (Step.refl _ _)
  have hpf := block_lt f6
  simp only at hpf
  have kb := heap_alloc_new w (.cells #[.int .i64 3, .int .i64 dst, .int .i64 a, .int .i64 b, .int .u64 n, .int .i64 size, .string name, va, vo, .int .i64 tt] 42 (0, 0))
  have s1 := Step.alloc (fun _ => False) w (.cells #[.int .i64 3, .int .i64 dst, .int .i64 a, .int .i64 b, .int .u64 n, .int .i64 size, .string name, va, vo, .int .i64 tt] 42 (0, 0))
  have HT := Lib.hid (show gx < w.heap.size ∧ own w.heap.size = 0 from ⟨HF.out.free.2.2.2, HW.out.fresh0⟩)
  have KB := Lib.hid kb
  have S1 := Lib.hid s1
  clear kb s1
  go_enter Try.func45, Try.ntmps45
  go_upto_region 1 with fail
  clear f0 f3 f6 f7 hpf
  generalize w.alloc (.cells #[.int .i64 3, .int .i64 dst, .int .i64 a, .int .i64 b, .int .u64 n, .int .i64 size, .string name, va, vo, .int .i64 tt] 42 (0, 0)) = w1 at KB S1 ⊢
  generalize htb : w.heap.size = tb at KB HT ⊢
  have HTB := Lib.hid htb
  clear htb
  obtain ⟨b0, b1, b2, b3, b4, b5, b6, b7, b8, b9⟩ := box_facts KB.out _ (Step.refl _ _)
  go_wp2_with fail
  refine (NO.out _).mono ?_
  rintro e w2 ⟨rfl, s2⟩
  have KB2 := s2.keeps KB.out
  have S2 := S1.out.then s2
  have kv := heap_alloc_new w2 (.cells #[.int .u64 0, .int .i64 0, .int .i64 0, .int .i64 0, .int .i64 0] 98 (0, 0))
  have s3 := Step.alloc (fun _ => False) w2 (.cells #[.int .u64 0, .int .i64 0, .int .i64 0, .int .i64 0, .int .i64 0] 98 (0, 0))
  have hz := s2.size
  have hb := lt_obj KB.out
  replace KB := Lib.hid (s3.keeps KB2)
  replace HT := Lib.hid (show gx < tb ∧ own tb = 0 ∧ w.heap.size ≤ w2.heap.size ∧ tb ≠ w2.heap.size from ⟨HT.out.1, HT.out.2, S2.size, by omega⟩)
  replace S1 := Lib.hid (S2.then s3)
  have KV := Lib.hid kv
  clear KB2 S2 kv s2 s3 hz hb b0 b1 b2 b3 b4 b5 b6 b7 b8 b9 NO
  go_upto_region 3 with fail
  generalize w2.alloc (.cells #[.int .u64 0, .int .i64 0, .int .i64 0, .int .i64 0, .int .i64 0] 98 (0, 0)) = w1 at KB KV S1 ⊢
  generalize w2.heap.size = tv at KV HT ⊢
  have FB := Lib.hid (box_facts KB.out)
  obtain ⟨b0, b1, b2, b3, b4, b5, b6, b7, b8, b9⟩ := FB.out _ (Step.refl _ _)
  go_upto_region 10 with fail
  clear b0 b1 b2 b3 b4 b5 b6 b7 b8 b9
  refine wp_region_each 27 planDo10 (fun a b => Step (fun x => x = tv) a b) (Step (fun x => x = tv) w1) (fun x => Step (fun _ => False) w1 x) [Is ?v10_4_0, Is ?v10_4_1, Is ?v10_4_2, Is ?v10_4_3, Is ?v10_4_4, Is ?v10_4_5, Is ?v10_4_6, Is ?v10_4_7, Is ?v10_4_8, Is ?v10_4_9, Is ?v10_4_10, Is ?v10_4_11, Is ?v10_4_12, Is ?v10_4_13, Is ?v10_4_14, Is ?v10_4_15, Is ?v10_4_16, Is ?v10_4_17, Is ?v10_4_18, Is ?v10_4_19, Is ?v10_4_20, Is ?v10_4_21, Is ?v10_4_22, Is ?v10_4_23, Is ?v10_4_24, Is ?v10_4_25, fun _ _ => True] [fun _ _ => True, fun _ _ => True, fun _ _ => True, fun _ _ => True, fun _ _ => True, fun _ _ => True, fun _ _ => True, fun _ _ => True, fun _ _ => True, fun _ _ => True, fun _ _ => True, fun _ _ => True, fun _ _ => True, fun _ _ => True, fun _ _ => True, fun _ _ => True, fun _ _ => True, fun _ _ => True, fun _ _ => True, fun _ _ => True, fun _ _ => True, fun _ _ => True, fun _ _ => True, fun _ _ => True, fun _ _ => True, fun _ _ => True, fun _ yy => yy.heap[tb]? = some (.cells #[.int .i64 3, .int .i64 dst, .int .i64 a, .int .i64 b, .int .u64 n, .int .i64 size, .string name, va, vo, .int .i64 tt] 42 (0, 0)) ∧ yy.heap[tv]? = some (.cells #[.int .u64 ((doF n (rgV regs a).num (rgV regs b).num).1), .int .i64 0, .int .i64 0, .int .i64 0, .int .i64 0] 98 (0, 0)) ∧ Step (fun _ => False) w yy] (by kernel_rfl) (by kernel_rfl) (fun _ _ h => h.size) ((Step.refl _ _).drew) ((Step.refl _ _).drew) ?stab10_4 ?stabD10_4 ?obl10_4 ?fin10_4
  case stab10_4 => exact fun w w' h => ⟨fun k => k.trans h (fun _ x => x.elim), fun k => k.trans h (fun _ x => x.elim), ⟨fun _ k => k, fun _ k => k, fun _ k => k, fun _ k => k, fun _ k => k, fun _ k => k, fun _ k => k, fun _ k => k, fun _ k => k, fun _ k => k, fun _ k => k, fun _ k => k, fun _ k => k, fun _ k => k, fun _ k => k, fun _ k => k, fun _ k => k, fun _ k => k, fun _ k => k, fun _ k => k, fun _ k => k, fun _ k => k, fun _ k => k, fun _ k => k, fun _ k => k, fun _ k => k, fun _ k => k, trivial⟩, ⟨fun _ k => k, fun _ k => k, fun _ k => k, fun _ k => k, fun _ k => k, fun _ k => k, fun _ k => k, fun _ k => k, fun _ k => k, fun _ k => k, fun _ k => k, fun _ k => k, fun _ k => k, fun _ k => k, fun _ k => k, fun _ k => k, fun _ k => k, fun _ k => k, fun _ k => k, fun _ k => k, fun _ k => k, fun _ k => k, fun _ k => k, fun _ k => k, fun _ k => k, fun _ k => k, fun _ k => ⟨h.keeps k.1, h.keeps k.2.1, k.2.2.then h⟩, trivial⟩⟩
  case stabD10_4 => exact fun w w' h => ⟨fun k => k.trans h (fun _ x => .inl x), fun _ _ k => k, fun _ _ k => k, fun _ _ k => k, fun _ _ k => k, fun _ _ k => k, fun _ _ k => k, fun _ _ k => k, fun _ _ k => k, fun _ _ k => k, fun _ _ k => k, fun _ _ k => k, fun _ _ k => k, fun _ _ k => k, fun _ _ k => k, fun _ _ k => k, fun _ _ k => k, fun _ _ k => k, fun _ _ k => k, fun _ _ k => k, fun _ _ k => k, fun _ _ k => k, fun _ _ k => k, fun _ _ k => k, fun _ _ k => k, fun _ _ k => k, fun _ _ k => k, fun _ _ k => k, trivial⟩
  case obl10_4 =>
    refine ⟨?o10_4_0, ?o10_4_1, ?o10_4_2, ?o10_4_3, ?o10_4_4, ?o10_4_5, ?o10_4_6, ?o10_4_7, ?o10_4_8, ?o10_4_9, ?o10_4_10, ?o10_4_11, ?o10_4_12, ?o10_4_13, ?o10_4_14, ?o10_4_15, ?o10_4_16, ?o10_4_17, ?o10_4_18, ?o10_4_19, ?o10_4_20, ?o10_4_21, ?o10_4_22, ?o10_4_23, ?o10_4_24, ?o10_4_25, ?o10_4_26, trivial⟩
    all_goals intro xv wq hH hS H hU aq ha Q' hQ
    case o10_4_0 => cases rd0 ha; clear H hU hS; go_wp2_with fail; (try refine hQ _ _ ?_); refine ⟨Step.refl _ _, ?_, trivial, nofun⟩; exact (rfl : _ = _)
    case o10_4_1 | o10_4_2 => (try (have hH := hS (by decide); obtain ⟨f0, f3, f6, f7⟩ := FF.out _ (S1.out.then hH); obtain ⟨c0_a, c1_a, c2_a, c3_a, c4_a, z_a⟩ := FR.out _ (S1.out.then hH) a ok_a; obtain ⟨c0_b, c1_b, c2_b, c3_b, c4_b, z_b⟩ := FR.out _ (S1.out.then hH) b ok_b; obtain ⟨b0, b1, b2, b3, b4, b5, b6, b7, b8, b9⟩ := FB.out _ hH; obtain ⟨v0, v1, v2, v3, v4, y0, y1, y2, y3, y4⟩ := cells_known5 (hH.keeps KV.out))); have ha := rd1 ha H (by kernel_rfl) rfl; simp only [q3, q5, q6, q7] at ha; subst ha; clear H hU hS; go_wp2_with fail; (try refine hQ _ _ ?_); refine ⟨Step.refl _ _, ?_, trivial, nofun⟩; exact (rfl : _ = _)
    case o10_4_3 => cases rd0 ha; clear H hU hS; go_wp2_with fail; (try refine hQ _ _ ?_); refine ⟨Step.refl _ _, ?_, trivial, nofun⟩; exact (rfl : _ = _)
    case o10_4_4 | o10_4_5 => have ha := rd1 ha H (by kernel_rfl) rfl; simp only [q3, q5, q6, q7] at ha; subst ha; clear H hU hS; go_wp2_with fail; (try refine hQ _ _ ?_); refine ⟨Step.refl _ _, ?_, trivial, nofun⟩; exact (rfl : _ = _)
    case o10_4_6 => (try (have hH := hS (by decide); obtain ⟨f0, f3, f6, f7⟩ := FF.out _ (S1.out.then hH); obtain ⟨c0_a, c1_a, c2_a, c3_a, c4_a, z_a⟩ := FR.out _ (S1.out.then hH) a ok_a; obtain ⟨c0_b, c1_b, c2_b, c3_b, c4_b, z_b⟩ := FR.out _ (S1.out.then hH) b ok_b; obtain ⟨b0, b1, b2, b3, b4, b5, b6, b7, b8, b9⟩ := FB.out _ hH; obtain ⟨v0, v1, v2, v3, v4, y0, y1, y2, y3, y4⟩ := cells_known5 (hH.keeps KV.out))); have ha := rd1 ha H (by kernel_rfl) rfl; simp only [q3, q5, q6, q7] at ha; subst ha; clear H hU hS; go_wp2_with fail; (try refine hQ _ _ ?_); refine ⟨Step.refl _ _, ?_, trivial, nofun⟩; exact (rfl : _ = _)
    case o10_4_7 => cases rd0 ha; clear H hU hS; go_wp2_with fail; (try refine hQ _ _ ?_); refine ⟨Step.refl _ _, ?_, trivial, nofun⟩; exact (rfl : _ = _)
    case o10_4_8 => (try (have hH := hS (by decide); obtain ⟨f0, f3, f6, f7⟩ := FF.out _ (S1.out.then hH); obtain ⟨c0_a, c1_a, c2_a, c3_a, c4_a, z_a⟩ := FR.out _ (S1.out.then hH) a ok_a; obtain ⟨c0_b, c1_b, c2_b, c3_b, c4_b, z_b⟩ := FR.out _ (S1.out.then hH) b ok_b; obtain ⟨b0, b1, b2, b3, b4, b5, b6, b7, b8, b9⟩ := FB.out _ hH; obtain ⟨v0, v1, v2, v3, v4, y0, y1, y2, y3, y4⟩ := cells_known5 (hH.keeps KV.out))); have ha := rd1 ha H (by kernel_rfl) rfl; simp only [q3, q5, q6, q7] at ha; subst ha; clear H hU hS; go_wp2_with fail; (try refine hQ _ _ ?_); refine ⟨Step.refl _ _, ?_, trivial, nofun⟩; exact (rfl : _ = _)
    case o10_4_9 => (try (have hH := hS (by decide); obtain ⟨f0, f3, f6, f7⟩ := FF.out _ (S1.out.then hH); obtain ⟨c0_a, c1_a, c2_a, c3_a, c4_a, z_a⟩ := FR.out _ (S1.out.then hH) a ok_a; obtain ⟨c0_b, c1_b, c2_b, c3_b, c4_b, z_b⟩ := FR.out _ (S1.out.then hH) b ok_b; obtain ⟨b0, b1, b2, b3, b4, b5, b6, b7, b8, b9⟩ := FB.out _ hH; obtain ⟨v0, v1, v2, v3, v4, y0, y1, y2, y3, y4⟩ := cells_known5 (hH.keeps KV.out))); have ha := rd2 ha H (by kernel_rfl) (by kernel_rfl) rfl rfl; simp only [q3, q5, q6, q7] at ha; subst ha; clear H hU hS; go_wp2_with fail; (try refine hQ _ _ ?_); refine ⟨Step.refl _ _, ?_, trivial, nofun⟩; exact (rfl : _ = _)
    case o10_4_10 => have ha := rd1 ha H (by kernel_rfl) rfl; simp only [q3, q5, q6, q7] at ha; subst ha; clear H hU hS; go_wp2_with fail; (try refine hQ _ _ ?_); refine ⟨Step.refl _ _, ?_, trivial, nofun⟩; exact (rfl : _ = _)
    case o10_4_11 => (try (have hH := hS (by decide); obtain ⟨f0, f3, f6, f7⟩ := FF.out _ (S1.out.then hH); obtain ⟨c0_a, c1_a, c2_a, c3_a, c4_a, z_a⟩ := FR.out _ (S1.out.then hH) a ok_a; obtain ⟨c0_b, c1_b, c2_b, c3_b, c4_b, z_b⟩ := FR.out _ (S1.out.then hH) b ok_b; obtain ⟨b0, b1, b2, b3, b4, b5, b6, b7, b8, b9⟩ := FB.out _ hH; obtain ⟨v0, v1, v2, v3, v4, y0, y1, y2, y3, y4⟩ := cells_known5 (hH.keeps KV.out))); have ha := rd1 ha H (by kernel_rfl) rfl; simp only [q3, q5, q6, q7] at ha; subst ha; clear H hU hS; go_wp2_with fail; (try refine hQ _ _ ?_); refine ⟨Step.refl _ _, ?_, trivial, nofun⟩; exact (rfl : _ = _)
    case o10_4_12 => cases rd0 ha; clear H hU hS; go_wp2_with fail; (try refine hQ _ _ ?_); refine ⟨Step.refl _ _, ?_, trivial, nofun⟩; exact (rfl : _ = _)
    case o10_4_13 | o10_4_14 => have ha := rd1 ha H (by kernel_rfl) rfl; simp only [q3, q5, q6, q7] at ha; subst ha; clear H hU hS; go_wp2_with fail; (try refine hQ _ _ ?_); refine ⟨Step.refl _ _, ?_, trivial, nofun⟩; exact (rfl : _ = _)
    case o10_4_15 => (try (have hH := hS (by decide); obtain ⟨f0, f3, f6, f7⟩ := FF.out _ (S1.out.then hH); obtain ⟨c0_a, c1_a, c2_a, c3_a, c4_a, z_a⟩ := FR.out _ (S1.out.then hH) a ok_a; obtain ⟨c0_b, c1_b, c2_b, c3_b, c4_b, z_b⟩ := FR.out _ (S1.out.then hH) b ok_b; obtain ⟨b0, b1, b2, b3, b4, b5, b6, b7, b8, b9⟩ := FB.out _ hH; obtain ⟨v0, v1, v2, v3, v4, y0, y1, y2, y3, y4⟩ := cells_known5 (hH.keeps KV.out))); have ha := rd1 ha H (by kernel_rfl) rfl; simp only [q3, q5, q6, q7] at ha; subst ha; clear H hU hS; go_wp2_with fail; (try refine hQ _ _ ?_); refine ⟨Step.refl _ _, ?_, trivial, nofun⟩; exact (rfl : _ = _)
    case o10_4_16 => cases rd0 ha; clear H hU hS; go_wp2_with fail; (try refine hQ _ _ ?_); refine ⟨Step.refl _ _, ?_, trivial, nofun⟩; exact (rfl : _ = _)
    case o10_4_17 => (try (have hH := hS (by decide); obtain ⟨f0, f3, f6, f7⟩ := FF.out _ (S1.out.then hH); obtain ⟨c0_a, c1_a, c2_a, c3_a, c4_a, z_a⟩ := FR.out _ (S1.out.then hH) a ok_a; obtain ⟨c0_b, c1_b, c2_b, c3_b, c4_b, z_b⟩ := FR.out _ (S1.out.then hH) b ok_b; obtain ⟨b0, b1, b2, b3, b4, b5, b6, b7, b8, b9⟩ := FB.out _ hH; obtain ⟨v0, v1, v2, v3, v4, y0, y1, y2, y3, y4⟩ := cells_known5 (hH.keeps KV.out))); have ha := rd1 ha H (by kernel_rfl) rfl; simp only [q3, q5, q6, q7] at ha; subst ha; clear H hU hS; go_wp2_with fail; (try refine hQ _ _ ?_); refine ⟨Step.refl _ _, ?_, trivial, nofun⟩; exact (rfl : _ = _)
    case o10_4_18 => (try (have hH := hS (by decide); obtain ⟨f0, f3, f6, f7⟩ := FF.out _ (S1.out.then hH); obtain ⟨c0_a, c1_a, c2_a, c3_a, c4_a, z_a⟩ := FR.out _ (S1.out.then hH) a ok_a; obtain ⟨c0_b, c1_b, c2_b, c3_b, c4_b, z_b⟩ := FR.out _ (S1.out.then hH) b ok_b; obtain ⟨b0, b1, b2, b3, b4, b5, b6, b7, b8, b9⟩ := FB.out _ hH; obtain ⟨v0, v1, v2, v3, v4, y0, y1, y2, y3, y4⟩ := cells_known5 (hH.keeps KV.out))); have ha := rd2 ha H (by kernel_rfl) (by kernel_rfl) rfl rfl; simp only [q3, q5, q6, q7] at ha; subst ha; clear H hU hS; go_wp2_with fail; (try refine hQ _ _ ?_); refine ⟨Step.refl _ _, ?_, trivial, nofun⟩; exact (rfl : _ = _)
    case o10_4_19 => have ha := rd1 ha H (by kernel_rfl) rfl; simp only [q3, q5, q6, q7] at ha; subst ha; clear H hU hS; go_wp2_with fail; (try refine hQ _ _ ?_); refine ⟨Step.refl _ _, ?_, trivial, nofun⟩; exact (rfl : _ = _)
    case o10_4_20 => (try (have hH := hS (by decide); obtain ⟨f0, f3, f6, f7⟩ := FF.out _ (S1.out.then hH); obtain ⟨c0_a, c1_a, c2_a, c3_a, c4_a, z_a⟩ := FR.out _ (S1.out.then hH) a ok_a; obtain ⟨c0_b, c1_b, c2_b, c3_b, c4_b, z_b⟩ := FR.out _ (S1.out.then hH) b ok_b; obtain ⟨b0, b1, b2, b3, b4, b5, b6, b7, b8, b9⟩ := FB.out _ hH; obtain ⟨v0, v1, v2, v3, v4, y0, y1, y2, y3, y4⟩ := cells_known5 (hH.keeps KV.out))); have ha := rd1 ha H (by kernel_rfl) rfl; simp only [q3, q5, q6, q7] at ha; subst ha; clear H hU hS; go_wp2_with fail; (try refine hQ _ _ ?_); refine ⟨Step.refl _ _, ?_, trivial, nofun⟩; exact (rfl : _ = _)
    case o10_4_21 => (try (have hH := hS (by decide); obtain ⟨f0, f3, f6, f7⟩ := FF.out _ (S1.out.then hH); obtain ⟨c0_a, c1_a, c2_a, c3_a, c4_a, z_a⟩ := FR.out _ (S1.out.then hH) a ok_a; obtain ⟨c0_b, c1_b, c2_b, c3_b, c4_b, z_b⟩ := FR.out _ (S1.out.then hH) b ok_b; obtain ⟨b0, b1, b2, b3, b4, b5, b6, b7, b8, b9⟩ := FB.out _ hH; obtain ⟨v0, v1, v2, v3, v4, y0, y1, y2, y3, y4⟩ := cells_known5 (hH.keeps KV.out))); have h2 : xv 2 = _ := H 2 (by kernel_rfl); have h11 : xv 11 = _ := H 11 (by kernel_rfl); have h20 : xv 20 = _ := H 20 (by kernel_rfl); change aq = puts _ xv [(2, some 34), (11, some 43), (20, some 52)] at ha; simp only [q1, q2, q3, q5, q6, q7, h2, h11, h20] at ha; subst ha; clear H h2 h11 h20; clear hU hS; go_wp2_with fail; refine (DO.out _ _).mono ?_; rintro e w4 ⟨rfl, s4⟩; go_wp2_with fail; (try refine hQ _ _ ?_); refine ⟨(by subst s4; exact Step.refl _ _), ?_, trivial, nofun⟩; exact (rfl : _ = _)
    case o10_4_22 | o10_4_23 | o10_4_24 => have ha := rd1 ha H (by kernel_rfl) rfl; simp only [q3, q5, q6, q7] at ha; subst ha; clear H hU hS; go_wp2_with fail; (try refine hQ _ _ ?_); refine ⟨Step.refl _ _, ?_, trivial, nofun⟩; exact (rfl : _ = _)
    case o10_4_25 => cases rd0 ha; clear H hU hS; go_wp2_with fail; (try refine hQ _ _ ?_); refine ⟨Step.refl _ _, ?_, trivial, nofun⟩; exact (rfl : _ = _)
    case o10_4_26 =>
      (try (have hH := hS (by decide); obtain ⟨f0, f3, f6, f7⟩ := FF.out _ (S1.out.then hH); obtain ⟨c0_a, c1_a, c2_a, c3_a, c4_a, z_a⟩ := FR.out _ (S1.out.then hH) a ok_a; obtain ⟨c0_b, c1_b, c2_b, c3_b, c4_b, z_b⟩ := FR.out _ (S1.out.then hH) b ok_b; obtain ⟨b0, b1, b2, b3, b4, b5, b6, b7, b8, b9⟩ := FB.out _ hH; obtain ⟨v0, v1, v2, v3, v4, y0, y1, y2, y3, y4⟩ := cells_known5 (hH.keeps KV.out))); have h23 : xv 23 = _ := H 23 (by kernel_rfl); have h25 : xv 25 = _ := H 25 (by kernel_rfl); change aq = puts _ xv [(23, some 54), (25, some 56)] at ha; simp only [q1, q2, q3, q5, q6, q7, h23, h25] at ha; subst ha; clear H h23 h25
      have S3 := Lib.hid (hS (by kernel_rfl))
      clear hU hS hH
      go_wp2_with fail
      (try refine hQ (.bool true) _ ?_)
      refine ⟨Step.setCell _ _ _ _ rfl, trivial, ?_, nofun⟩
      obtain ⟨w3, hw3, s3, kb3, kv3⟩ := putN (wb := w) ((doF n (rgV regs a).num (rgV regs b).num).1) (S1.out.then S3.out) (.inr HT.out.2.2.1) HT.out.2.2.2 (S3.out.keeps KB.out) (S3.out.keeps KV.out)
      rw [hw3] at s3 kb3 kv3
      exact ⟨kb3, kv3, s3⟩
  intro xv w3 hH hS H hU hsz hF hN
  have h0 : xv 0 = _ := H 0 (by decide) (by kernel_rfl); have h1 : xv 1 = _ := H 1 (by decide) (by kernel_rfl); have h2 : xv 2 = _ := H 2 (by decide) (by kernel_rfl); have h3 : xv 3 = _ := H 3 (by decide) (by kernel_rfl); have h4 : xv 4 = _ := H 4 (by decide) (by kernel_rfl); have h5 : xv 5 = _ := H 5 (by decide) (by kernel_rfl); have h6 : xv 6 = _ := H 6 (by decide) (by kernel_rfl); have h7 : xv 7 = _ := H 7 (by decide) (by kernel_rfl); have h8 : xv 8 = _ := H 8 (by decide) (by kernel_rfl); have h9 : xv 9 = _ := H 9 (by decide) (by kernel_rfl); have h10 : xv 10 = _ := H 10 (by decide) (by kernel_rfl); have h11 : xv 11 = _ := H 11 (by decide) (by kernel_rfl); have h12 : xv 12 = _ := H 12 (by decide) (by kernel_rfl); have h13 : xv 13 = _ := H 13 (by decide) (by kernel_rfl); have h14 : xv 14 = _ := H 14 (by decide) (by kernel_rfl); have h15 : xv 15 = _ := H 15 (by decide) (by kernel_rfl); have h16 : xv 16 = _ := H 16 (by decide) (by kernel_rfl); have h17 : xv 17 = _ := H 17 (by decide) (by kernel_rfl); have h18 : xv 18 = _ := H 18 (by decide) (by kernel_rfl); have h19 : xv 19 = _ := H 19 (by decide) (by kernel_rfl); have h20 : xv 20 = _ := H 20 (by decide) (by kernel_rfl); have h21 : xv 21 = _ := H 21 (by decide) (by kernel_rfl); have h22 : xv 22 = _ := H 22 (by decide) (by kernel_rfl); have h23 : xv 23 = _ := H 23 (by decide) (by kernel_rfl); have h24 : xv 24 = _ := H 24 (by decide) (by kernel_rfl); have h25 : xv 25 = _ := H 25 (by decide) (by kernel_rfl)
  simp only [planDo10, q1, q2, q3, q5, q6, q7, q4, List.drop_succ_cons, List.drop_zero, h0, h1, h2, h3, h4, h5, h6, h7, h8, h9, h10, h11, h12, h13, h14, h15, h16, h17, h18, h19, h20, h21, h22, h23, h24, h25]
  have hL := hU 26 (by decide) (by kernel_rfl)
  clear H hF hN hS hU h0 h1 h2 h3 h4 h5 h6 h7 h8 h9 h10 h11 h12 h13 h14 h15 h16 h17 h18 h19 h20 h21 h22 h23 h24 h25
  obtain ⟨kb3, kv3, s3⟩ : w3.heap[tb]? = some (.cells #[.int .i64 3, .int .i64 dst, .int .i64 a, .int .i64 b, .int .u64 n, .int .i64 size, .string name, va, vo, .int .i64 tt] 42 (0, 0)) ∧ w3.heap[tv]? = some (.cells #[.int .u64 ((doF n (rgV regs a).num (rgV regs b).num).1), .int .i64 0, .int .i64 0, .int .i64 0, .int .i64 0] 98 (0, 0)) ∧ Step (fun _ => False) w w3 := hL
  have KB3 := Lib.hid kb3
  have KV3 := Lib.hid kv3
  have S3 := Lib.hid s3
  clear kb3 kv3 s3 hH
  clear KB KV FB
  have FB := Lib.hid (box_facts KB3.out)
  obtain ⟨b0, b1, b2, b3, b4, b5, b6, b7, b8, b9⟩ := FB.out _ (Step.refl _ _)
  have hd0 : decide (0 ≤ dst) = true := decide_eq_true ok_dst.1
  go_upto_region 28 with fail
  clear b0 b1 b2 b3 b4 b5 b6 b7 b8 b9
  refine wp_region_each 7 planDo28 (fun _ _ => False) (Step (fun _ => False) w3) (fun _ => True) [Is ?v28_5_0, Is ?v28_5_1, Is ?v28_5_2, Is ?v28_5_3, Is ?v28_5_4, Is ?v28_5_5, Is ?v28_5_6] [] (by kernel_rfl) (by kernel_rfl) (fun _ _ h => h.elim) ((Step.refl _ _).drew) (trivial) ?stab28_5 ?stabD28_5 ?obl28_5 ?fin28_5
  case stab28_5 => exact fun w w' h => ⟨fun k => k.trans h (fun _ x => x.elim), fun _ => trivial, ⟨fun _ k => k, fun _ k => k, fun _ k => k, fun _ k => k, fun _ k => k, fun _ k => k, fun _ k => k, trivial⟩, trivial⟩
  case stabD28_5 => exact fun _ _ h => h.elim
  case obl28_5 =>
    refine ⟨?o28_5_0, ?o28_5_1, ?o28_5_2, ?o28_5_3, ?o28_5_4, ?o28_5_5, ?o28_5_6, trivial⟩
    all_goals intro xv wq hH hS H hU aq ha Q' hQ
    case o28_5_0 => cases rd0 ha; clear H hU hS; go_wp2_with fail; (try refine hQ _ _ ?_); refine ⟨Step.refl _ _, ?_, trivial, nofun⟩; exact (rfl : _ = _)
    case o28_5_1 | o28_5_2 => have ha := rd1 ha H (by kernel_rfl) rfl; simp only [q3, q5, q6, q7] at ha; subst ha; clear H hU hS; go_wp2_with fail; (try refine hQ _ _ ?_); refine ⟨Step.refl _ _, ?_, trivial, nofun⟩; exact (rfl : _ = _)
    case o28_5_3 => obtain ⟨f0, f3, f6, f7⟩ := FF.out _ (S3.out.then hH); obtain ⟨b0, b1, b2, b3, b4, b5, b6, b7, b8, b9⟩ := FB.out _ hH; obtain ⟨v0, v1, v2, v3, v4, y0, y1, y2, y3, y4⟩ := cells_known5 (hH.keeps KV3.out); have ha := rd1 ha H (by kernel_rfl) rfl; simp only [q3, q5, q6, q7] at ha; subst ha; clear H hU hS; go_wp2_with fail; (try refine hQ _ _ ?_); refine ⟨Step.refl _ _, ?_, trivial, nofun⟩; exact (rfl : _ = _)
    case o28_5_4 => cases rd0 ha; clear H hU hS; go_wp2_with fail; (try refine hQ _ _ ?_); refine ⟨Step.refl _ _, ?_, trivial, nofun⟩; exact (rfl : _ = _)
    case o28_5_5 => obtain ⟨f0, f3, f6, f7⟩ := FF.out _ (S3.out.then hH); obtain ⟨b0, b1, b2, b3, b4, b5, b6, b7, b8, b9⟩ := FB.out _ hH; obtain ⟨v0, v1, v2, v3, v4, y0, y1, y2, y3, y4⟩ := cells_known5 (hH.keeps KV3.out); have ha := rd1 ha H (by kernel_rfl) rfl; simp only [q3, q5, q6, q7] at ha; subst ha; clear H hU hS; go_wp2_with fail; (try refine hQ _ _ ?_); refine ⟨Step.refl _ _, ?_, trivial, nofun⟩; exact (rfl : _ = _)
    case o28_5_6 => obtain ⟨f0, f3, f6, f7⟩ := FF.out _ (S3.out.then hH); obtain ⟨b0, b1, b2, b3, b4, b5, b6, b7, b8, b9⟩ := FB.out _ hH; obtain ⟨v0, v1, v2, v3, v4, y0, y1, y2, y3, y4⟩ := cells_known5 (hH.keeps KV3.out); cases rd0 ha; clear H hU hS; go_wp2_with fail; (try refine hQ _ _ ?_); refine ⟨Step.refl _ _, ?_, trivial, nofun⟩; exact (rfl : _ = _)
  intro xv w9 hH hS H hU hsz hF hN
  have h0 : xv 0 = _ := H 0 (by decide) (by kernel_rfl); have h1 : xv 1 = _ := H 1 (by decide) (by kernel_rfl); have h2 : xv 2 = _ := H 2 (by decide) (by kernel_rfl); have h3 : xv 3 = _ := H 3 (by decide) (by kernel_rfl); have h4 : xv 4 = _ := H 4 (by decide) (by kernel_rfl); have h5 : xv 5 = _ := H 5 (by decide) (by kernel_rfl); have h6 : xv 6 = _ := H 6 (by decide) (by kernel_rfl)
  simp only [planDo28, q1, q2, q3, q5, q6, q7, q4, List.drop_succ_cons, List.drop_zero, h0, h1, h2, h3, h4, h5, h6]
  clear H hF hN hS hU h0 h1 h2 h3 h4 h5 h6
  have S9 := Lib.hid (S3.out.then hH)
  obtain ⟨f0, f3, f6, f7⟩ := FF.out _ S9.out
  obtain ⟨c0_dst, c1_dst, c2_dst, c3_dst, c4_dst, z_dst⟩ := FR.out _ S9.out dst ok_dst
  clear hH
  go_wp2_with fail
  go_end0
  exact ⟨rfl, went_set (HW.out.still S9.out) (HF.out.still S9.out) ((Chg.calm own S9.out).g gx) HL.out rfl (by omega) (numV (doF n (rgV regs a).num (rgV regs b).num).1)⟩
set_option maxHeartbeats 4000000 in
set_option maxRecDepth 100000 in
theorem do_4 (hW : MWAt w0 w pw own fnv tops st c) (hF : MFr w own pf pw gx vn vp vk vs vc vr vl regs slots) (hl : w0.heap.size ≤ gx) {v : Value} {i : FIns} (hi : InsAt w0 v i) (ho : i.op = 4) (ok_dst : ok1 regs i.dst) (ok_a : ok1 regs i.a) (hs : i.size = 1 ∨ i.size = 4 ∨ i.size = 8) :
    Calls Try.prog 45 #[.pointer (some ⟨pf, 0, none⟩), v] w (fun e w' => e = .returned (.tuple #[]) ∧ Went w0 w pw own fnv tops pf gx vn vp vk vs vc vr vl slots st c (regs.set i.dst.toNat (numV (nar (rgV regs i.a).num (8 * i.size) true))) w') := by
  have NO := Lib.hid (fun y => ptr_none hi (.pointer (some ⟨pf, 0, none⟩)) y (by rw [ho]; rfl) (by rw [ho]; rfl) (by rw [ho]; rfl) (by rw [ho]; rfl) (by rw [ho]; rfl) (by rw [ho]; rfl))
  obtain ⟨va, vo, rfl, iargs, iouts⟩ := hi
  obtain ⟨op, dst, a, b, n, size, name, args, outs, tt⟩ := i
  simp only at *
  subst ho
  obtain ⟨rcap, rfl⟩ := regs_slice hF (by unfold ok1 at ok_dst; omega)
  have HW := Lib.hid hW
  have HF := Lib.hid hF
  have HL := Lib.hid hl
  have FF := Lib.hid (frame_facts hF)
  have FR := Lib.hid (reg_facts hF)
  unfold ok1 at ok_dst ok_a
  have NA := Lib.hid (fun a => narrow_in a (8 * size) true (by omega) (by omega))
  clear hW hF hl
  obtain ⟨f0, f3, f6, f7⟩ := FF.out _ (Step.refl _ _)
  have hpf := block_lt f6
  simp only at hpf
  have kb := heap_alloc_new w (.cells #[.int .i64 4, .int .i64 dst, .int .i64 a, .int .i64 b, .int .u64 n, .int .i64 size, .string name, va, vo, .int .i64 tt] 42 (0, 0))
  have s1 := Step.alloc (fun _ => False) w (.cells #[.int .i64 4, .int .i64 dst, .int .i64 a, .int .i64 b, .int .u64 n, .int .i64 size, .string name, va, vo, .int .i64 tt] 42 (0, 0))
  have HT := Lib.hid (show gx < w.heap.size ∧ own w.heap.size = 0 from ⟨HF.out.free.2.2.2, HW.out.fresh0⟩)
  have KB := Lib.hid kb
  have S1 := Lib.hid s1
  clear kb s1
  go_enter Try.func45, Try.ntmps45
  go_upto_region 1 with fail
  clear f0 f3 f6 f7 hpf
  generalize w.alloc (.cells #[.int .i64 4, .int .i64 dst, .int .i64 a, .int .i64 b, .int .u64 n, .int .i64 size, .string name, va, vo, .int .i64 tt] 42 (0, 0)) = w1 at KB S1 ⊢
  generalize htb : w.heap.size = tb at KB HT ⊢
  have HTB := Lib.hid htb
  clear htb
  obtain ⟨b0, b1, b2, b3, b4, b5, b6, b7, b8, b9⟩ := box_facts KB.out _ (Step.refl _ _)
  go_wp2_with fail
  refine (NO.out _).mono ?_
  rintro e w2 ⟨rfl, s2⟩
  have KB2 := s2.keeps KB.out
  have S2 := S1.out.then s2
  have kv := heap_alloc_new w2 (.cells #[.int .u64 0, .int .i64 0, .int .i64 0, .int .i64 0, .int .i64 0] 98 (0, 0))
  have s3 := Step.alloc (fun _ => False) w2 (.cells #[.int .u64 0, .int .i64 0, .int .i64 0, .int .i64 0, .int .i64 0] 98 (0, 0))
  have hz := s2.size
  have hb := lt_obj KB.out
  replace KB := Lib.hid (s3.keeps KB2)
  replace HT := Lib.hid (show gx < tb ∧ own tb = 0 ∧ w.heap.size ≤ w2.heap.size ∧ tb ≠ w2.heap.size from ⟨HT.out.1, HT.out.2, S2.size, by omega⟩)
  replace S1 := Lib.hid (S2.then s3)
  have KV := Lib.hid kv
  clear KB2 S2 kv s2 s3 hz hb b0 b1 b2 b3 b4 b5 b6 b7 b8 b9 NO
  go_upto_region 3 with fail
  generalize w2.alloc (.cells #[.int .u64 0, .int .i64 0, .int .i64 0, .int .i64 0, .int .i64 0] 98 (0, 0)) = w1 at KB KV S1 ⊢
  generalize w2.heap.size = tv at KV HT ⊢
  have FB := Lib.hid (box_facts KB.out)
  obtain ⟨b0, b1, b2, b3, b4, b5, b6, b7, b8, b9⟩ := FB.out _ (Step.refl _ _)
  go_upto_region 12 with fail
  clear b0 b1 b2 b3 b4 b5 b6 b7 b8 b9
  refine wp_region_each 18 planDo12 (fun a b => Step (fun x => x = tv) a b) (Step (fun x => x = tv) w1) (fun x => Step (fun _ => False) w1 x) [Is ?v12_6_0, Is ?v12_6_1, Is ?v12_6_2, Is ?v12_6_3, Is ?v12_6_4, Is ?v12_6_5, Is ?v12_6_6, Is ?v12_6_7, Is ?v12_6_8, Is ?v12_6_9, Is ?v12_6_10, Is ?v12_6_11, Is ?v12_6_12, Is ?v12_6_13, Is ?v12_6_14, Is ?v12_6_15, Is ?v12_6_16, fun _ _ => True] [fun _ _ => True, fun _ _ => True, fun _ _ => True, fun _ _ => True, fun _ _ => True, fun _ _ => True, fun _ _ => True, fun _ _ => True, fun _ _ => True, fun _ _ => True, fun _ _ => True, fun _ _ => True, fun _ _ => True, fun _ _ => True, fun _ _ => True, fun _ _ => True, fun _ _ => True, fun _ yy => yy.heap[tb]? = some (.cells #[.int .i64 4, .int .i64 dst, .int .i64 a, .int .i64 b, .int .u64 n, .int .i64 size, .string name, va, vo, .int .i64 tt] 42 (0, 0)) ∧ yy.heap[tv]? = some (.cells #[.int .u64 (nar (rgV regs a).num (8 * size) true), .int .i64 0, .int .i64 0, .int .i64 0, .int .i64 0] 98 (0, 0)) ∧ Step (fun _ => False) w yy] (by kernel_rfl) (by kernel_rfl) (fun _ _ h => h.size) ((Step.refl _ _).drew) ((Step.refl _ _).drew) ?stab12_6 ?stabD12_6 ?obl12_6 ?fin12_6
  case stab12_6 => exact fun w w' h => ⟨fun k => k.trans h (fun _ x => x.elim), fun k => k.trans h (fun _ x => x.elim), ⟨fun _ k => k, fun _ k => k, fun _ k => k, fun _ k => k, fun _ k => k, fun _ k => k, fun _ k => k, fun _ k => k, fun _ k => k, fun _ k => k, fun _ k => k, fun _ k => k, fun _ k => k, fun _ k => k, fun _ k => k, fun _ k => k, fun _ k => k, fun _ k => k, trivial⟩, ⟨fun _ k => k, fun _ k => k, fun _ k => k, fun _ k => k, fun _ k => k, fun _ k => k, fun _ k => k, fun _ k => k, fun _ k => k, fun _ k => k, fun _ k => k, fun _ k => k, fun _ k => k, fun _ k => k, fun _ k => k, fun _ k => k, fun _ k => k, fun _ k => ⟨h.keeps k.1, h.keeps k.2.1, k.2.2.then h⟩, trivial⟩⟩
  case stabD12_6 => exact fun w w' h => ⟨fun k => k.trans h (fun _ x => .inl x), fun _ _ k => k, fun _ _ k => k, fun _ _ k => k, fun _ _ k => k, fun _ _ k => k, fun _ _ k => k, fun _ _ k => k, fun _ _ k => k, fun _ _ k => k, fun _ _ k => k, fun _ _ k => k, fun _ _ k => k, fun _ _ k => k, fun _ _ k => k, fun _ _ k => k, fun _ _ k => k, fun _ _ k => k, fun _ _ k => k, trivial⟩
  case obl12_6 =>
    refine ⟨?o12_6_0, ?o12_6_1, ?o12_6_2, ?o12_6_3, ?o12_6_4, ?o12_6_5, ?o12_6_6, ?o12_6_7, ?o12_6_8, ?o12_6_9, ?o12_6_10, ?o12_6_11, ?o12_6_12, ?o12_6_13, ?o12_6_14, ?o12_6_15, ?o12_6_16, ?o12_6_17, trivial⟩
    all_goals intro xv wq hH hS H hU aq ha Q' hQ
    case o12_6_0 => cases rd0 ha; clear H hU hS; go_wp2_with fail; (try refine hQ _ _ ?_); refine ⟨Step.refl _ _, ?_, trivial, nofun⟩; exact (rfl : _ = _)
    case o12_6_1 | o12_6_2 => have ha := rd1 ha H (by kernel_rfl) rfl; simp only [q3, q5, q6, q7] at ha; subst ha; clear H hU hS; go_wp2_with fail; (try refine hQ _ _ ?_); refine ⟨Step.refl _ _, ?_, trivial, nofun⟩; exact (rfl : _ = _)
    case o12_6_3 => (try (have hH := hS (by decide); obtain ⟨f0, f3, f6, f7⟩ := FF.out _ (S1.out.then hH); obtain ⟨c0_a, c1_a, c2_a, c3_a, c4_a, z_a⟩ := FR.out _ (S1.out.then hH) a ok_a; obtain ⟨b0, b1, b2, b3, b4, b5, b6, b7, b8, b9⟩ := FB.out _ hH; obtain ⟨v0, v1, v2, v3, v4, y0, y1, y2, y3, y4⟩ := cells_known5 (hH.keeps KV.out))); have ha := rd1 ha H (by kernel_rfl) rfl; simp only [q3, q5, q6, q7] at ha; subst ha; clear H hU hS; go_wp2_with fail; (try refine hQ _ _ ?_); refine ⟨Step.refl _ _, ?_, trivial, nofun⟩; exact (rfl : _ = _)
    case o12_6_4 => cases rd0 ha; clear H hU hS; go_wp2_with fail; (try refine hQ _ _ ?_); refine ⟨Step.refl _ _, ?_, trivial, nofun⟩; exact (rfl : _ = _)
    case o12_6_5 => (try (have hH := hS (by decide); obtain ⟨f0, f3, f6, f7⟩ := FF.out _ (S1.out.then hH); obtain ⟨c0_a, c1_a, c2_a, c3_a, c4_a, z_a⟩ := FR.out _ (S1.out.then hH) a ok_a; obtain ⟨b0, b1, b2, b3, b4, b5, b6, b7, b8, b9⟩ := FB.out _ hH; obtain ⟨v0, v1, v2, v3, v4, y0, y1, y2, y3, y4⟩ := cells_known5 (hH.keeps KV.out))); have ha := rd1 ha H (by kernel_rfl) rfl; simp only [q3, q5, q6, q7] at ha; subst ha; clear H hU hS; go_wp2_with fail; (try refine hQ _ _ ?_); refine ⟨Step.refl _ _, ?_, trivial, nofun⟩; exact (rfl : _ = _)
    case o12_6_6 => (try (have hH := hS (by decide); obtain ⟨f0, f3, f6, f7⟩ := FF.out _ (S1.out.then hH); obtain ⟨c0_a, c1_a, c2_a, c3_a, c4_a, z_a⟩ := FR.out _ (S1.out.then hH) a ok_a; obtain ⟨b0, b1, b2, b3, b4, b5, b6, b7, b8, b9⟩ := FB.out _ hH; obtain ⟨v0, v1, v2, v3, v4, y0, y1, y2, y3, y4⟩ := cells_known5 (hH.keeps KV.out))); have ha := rd2 ha H (by kernel_rfl) (by kernel_rfl) rfl rfl; simp only [q3, q5, q6, q7] at ha; subst ha; clear H hU hS; go_wp2_with fail; (try refine hQ _ _ ?_); refine ⟨Step.refl _ _, ?_, trivial, nofun⟩; exact (rfl : _ = _)
    case o12_6_7 => have ha := rd1 ha H (by kernel_rfl) rfl; simp only [q3, q5, q6, q7] at ha; subst ha; clear H hU hS; go_wp2_with fail; (try refine hQ _ _ ?_); refine ⟨Step.refl _ _, ?_, trivial, nofun⟩; exact (rfl : _ = _)
    case o12_6_8 => (try (have hH := hS (by decide); obtain ⟨f0, f3, f6, f7⟩ := FF.out _ (S1.out.then hH); obtain ⟨c0_a, c1_a, c2_a, c3_a, c4_a, z_a⟩ := FR.out _ (S1.out.then hH) a ok_a; obtain ⟨b0, b1, b2, b3, b4, b5, b6, b7, b8, b9⟩ := FB.out _ hH; obtain ⟨v0, v1, v2, v3, v4, y0, y1, y2, y3, y4⟩ := cells_known5 (hH.keeps KV.out))); have ha := rd1 ha H (by kernel_rfl) rfl; simp only [q3, q5, q6, q7] at ha; subst ha; clear H hU hS; go_wp2_with fail; (try refine hQ _ _ ?_); refine ⟨Step.refl _ _, ?_, trivial, nofun⟩; exact (rfl : _ = _)
    case o12_6_9 => cases rd0 ha; clear H hU hS; go_wp2_with fail; (try refine hQ _ _ ?_); refine ⟨Step.refl _ _, ?_, trivial, nofun⟩; exact (rfl : _ = _)
    case o12_6_10 | o12_6_11 => (try (have hH := hS (by decide); obtain ⟨f0, f3, f6, f7⟩ := FF.out _ (S1.out.then hH); obtain ⟨c0_a, c1_a, c2_a, c3_a, c4_a, z_a⟩ := FR.out _ (S1.out.then hH) a ok_a; obtain ⟨b0, b1, b2, b3, b4, b5, b6, b7, b8, b9⟩ := FB.out _ hH; obtain ⟨v0, v1, v2, v3, v4, y0, y1, y2, y3, y4⟩ := cells_known5 (hH.keeps KV.out))); have ha := rd1 ha H (by kernel_rfl) rfl; simp only [q3, q5, q6, q7] at ha; subst ha; clear H hU hS; go_wp2_with fail; (try refine hQ _ _ ?_); refine ⟨Step.refl _ _, ?_, trivial, nofun⟩; exact (rfl : _ = _)
    case o12_6_12 => (try (have hH := hS (by decide); obtain ⟨f0, f3, f6, f7⟩ := FF.out _ (S1.out.then hH); obtain ⟨c0_a, c1_a, c2_a, c3_a, c4_a, z_a⟩ := FR.out _ (S1.out.then hH) a ok_a; obtain ⟨b0, b1, b2, b3, b4, b5, b6, b7, b8, b9⟩ := FB.out _ hH; obtain ⟨v0, v1, v2, v3, v4, y0, y1, y2, y3, y4⟩ := cells_known5 (hH.keeps KV.out))); have h8 : xv 8 = _ := H 8 (by kernel_rfl); have h11 : xv 11 = _ := H 11 (by kernel_rfl); change aq = puts _ xv [(8, some 68), (11, some 71)] at ha; simp only [q1, q2, q3, q5, q6, q7, h8, h11] at ha; subst ha; clear H h8 h11; clear hU hS; go_wp2_with fail; refine (NA.out _ _).mono ?_; rintro e w4 ⟨rfl, s4⟩; go_wp2_with fail; (try refine hQ _ _ ?_); refine ⟨(by subst s4; exact Step.refl _ _), ?_, trivial, nofun⟩; exact (rfl : _ = _)
    case o12_6_13 | o12_6_14 | o12_6_15 => have ha := rd1 ha H (by kernel_rfl) rfl; simp only [q3, q5, q6, q7] at ha; subst ha; clear H hU hS; go_wp2_with fail; (try refine hQ _ _ ?_); refine ⟨Step.refl _ _, ?_, trivial, nofun⟩; exact (rfl : _ = _)
    case o12_6_16 => cases rd0 ha; clear H hU hS; go_wp2_with fail; (try refine hQ _ _ ?_); refine ⟨Step.refl _ _, ?_, trivial, nofun⟩; exact (rfl : _ = _)
    case o12_6_17 =>
      (try (have hH := hS (by decide); obtain ⟨f0, f3, f6, f7⟩ := FF.out _ (S1.out.then hH); obtain ⟨c0_a, c1_a, c2_a, c3_a, c4_a, z_a⟩ := FR.out _ (S1.out.then hH) a ok_a; obtain ⟨b0, b1, b2, b3, b4, b5, b6, b7, b8, b9⟩ := FB.out _ hH; obtain ⟨v0, v1, v2, v3, v4, y0, y1, y2, y3, y4⟩ := cells_known5 (hH.keeps KV.out))); have h14 : xv 14 = _ := H 14 (by kernel_rfl); have h16 : xv 16 = _ := H 16 (by kernel_rfl); change aq = puts _ xv [(14, some 73), (16, some 75)] at ha; simp only [q1, q2, q3, q5, q6, q7, h14, h16] at ha; subst ha; clear H h14 h16
      have S3 := Lib.hid (hS (by kernel_rfl))
      clear hU hS hH
      go_wp2_with fail
      (try refine hQ (.bool true) _ ?_)
      refine ⟨Step.setCell _ _ _ _ rfl, trivial, ?_, nofun⟩
      obtain ⟨w3, hw3, s3, kb3, kv3⟩ := putN (wb := w) (nar (rgV regs a).num (8 * size) true) (S1.out.then S3.out) (.inr HT.out.2.2.1) HT.out.2.2.2 (S3.out.keeps KB.out) (S3.out.keeps KV.out)
      rw [hw3] at s3 kb3 kv3
      exact ⟨kb3, kv3, s3⟩
  intro xv w3 hH hS H hU hsz hF hN
  have h0 : xv 0 = _ := H 0 (by decide) (by kernel_rfl); have h1 : xv 1 = _ := H 1 (by decide) (by kernel_rfl); have h2 : xv 2 = _ := H 2 (by decide) (by kernel_rfl); have h3 : xv 3 = _ := H 3 (by decide) (by kernel_rfl); have h4 : xv 4 = _ := H 4 (by decide) (by kernel_rfl); have h5 : xv 5 = _ := H 5 (by decide) (by kernel_rfl); have h6 : xv 6 = _ := H 6 (by decide) (by kernel_rfl); have h7 : xv 7 = _ := H 7 (by decide) (by kernel_rfl); have h8 : xv 8 = _ := H 8 (by decide) (by kernel_rfl); have h9 : xv 9 = _ := H 9 (by decide) (by kernel_rfl); have h10 : xv 10 = _ := H 10 (by decide) (by kernel_rfl); have h11 : xv 11 = _ := H 11 (by decide) (by kernel_rfl); have h12 : xv 12 = _ := H 12 (by decide) (by kernel_rfl); have h13 : xv 13 = _ := H 13 (by decide) (by kernel_rfl); have h14 : xv 14 = _ := H 14 (by decide) (by kernel_rfl); have h15 : xv 15 = _ := H 15 (by decide) (by kernel_rfl); have h16 : xv 16 = _ := H 16 (by decide) (by kernel_rfl)
  simp only [planDo12, q1, q2, q3, q5, q6, q7, q4, List.drop_succ_cons, List.drop_zero, h0, h1, h2, h3, h4, h5, h6, h7, h8, h9, h10, h11, h12, h13, h14, h15, h16]
  have hL := hU 17 (by decide) (by kernel_rfl)
  clear H hF hN hS hU h0 h1 h2 h3 h4 h5 h6 h7 h8 h9 h10 h11 h12 h13 h14 h15 h16
  obtain ⟨kb3, kv3, s3⟩ : w3.heap[tb]? = some (.cells #[.int .i64 4, .int .i64 dst, .int .i64 a, .int .i64 b, .int .u64 n, .int .i64 size, .string name, va, vo, .int .i64 tt] 42 (0, 0)) ∧ w3.heap[tv]? = some (.cells #[.int .u64 (nar (rgV regs a).num (8 * size) true), .int .i64 0, .int .i64 0, .int .i64 0, .int .i64 0] 98 (0, 0)) ∧ Step (fun _ => False) w w3 := hL
  have KB3 := Lib.hid kb3
  have KV3 := Lib.hid kv3
  have S3 := Lib.hid s3
  clear kb3 kv3 s3 hH
  clear KB KV FB
  have FB := Lib.hid (box_facts KB3.out)
  obtain ⟨b0, b1, b2, b3, b4, b5, b6, b7, b8, b9⟩ := FB.out _ (Step.refl _ _)
  have hd0 : decide (0 ≤ dst) = true := decide_eq_true ok_dst.1
  go_upto_region 28 with fail
  clear b0 b1 b2 b3 b4 b5 b6 b7 b8 b9
  refine wp_region_each 7 planDo28 (fun _ _ => False) (Step (fun _ => False) w3) (fun _ => True) [Is ?v28_7_0, Is ?v28_7_1, Is ?v28_7_2, Is ?v28_7_3, Is ?v28_7_4, Is ?v28_7_5, Is ?v28_7_6] [] (by kernel_rfl) (by kernel_rfl) (fun _ _ h => h.elim) ((Step.refl _ _).drew) (trivial) ?stab28_7 ?stabD28_7 ?obl28_7 ?fin28_7
  case stab28_7 => exact fun w w' h => ⟨fun k => k.trans h (fun _ x => x.elim), fun _ => trivial, ⟨fun _ k => k, fun _ k => k, fun _ k => k, fun _ k => k, fun _ k => k, fun _ k => k, fun _ k => k, trivial⟩, trivial⟩
  case stabD28_7 => exact fun _ _ h => h.elim
  case obl28_7 =>
    refine ⟨?o28_7_0, ?o28_7_1, ?o28_7_2, ?o28_7_3, ?o28_7_4, ?o28_7_5, ?o28_7_6, trivial⟩
    all_goals intro xv wq hH hS H hU aq ha Q' hQ
    case o28_7_0 => cases rd0 ha; clear H hU hS; go_wp2_with fail; (try refine hQ _ _ ?_); refine ⟨Step.refl _ _, ?_, trivial, nofun⟩; exact (rfl : _ = _)
    case o28_7_1 | o28_7_2 => have ha := rd1 ha H (by kernel_rfl) rfl; simp only [q3, q5, q6, q7] at ha; subst ha; clear H hU hS; go_wp2_with fail; (try refine hQ _ _ ?_); refine ⟨Step.refl _ _, ?_, trivial, nofun⟩; exact (rfl : _ = _)
    case o28_7_3 => obtain ⟨f0, f3, f6, f7⟩ := FF.out _ (S3.out.then hH); obtain ⟨b0, b1, b2, b3, b4, b5, b6, b7, b8, b9⟩ := FB.out _ hH; obtain ⟨v0, v1, v2, v3, v4, y0, y1, y2, y3, y4⟩ := cells_known5 (hH.keeps KV3.out); have ha := rd1 ha H (by kernel_rfl) rfl; simp only [q3, q5, q6, q7] at ha; subst ha; clear H hU hS; go_wp2_with fail; (try refine hQ _ _ ?_); refine ⟨Step.refl _ _, ?_, trivial, nofun⟩; exact (rfl : _ = _)
    case o28_7_4 => cases rd0 ha; clear H hU hS; go_wp2_with fail; (try refine hQ _ _ ?_); refine ⟨Step.refl _ _, ?_, trivial, nofun⟩; exact (rfl : _ = _)
    case o28_7_5 => obtain ⟨f0, f3, f6, f7⟩ := FF.out _ (S3.out.then hH); obtain ⟨b0, b1, b2, b3, b4, b5, b6, b7, b8, b9⟩ := FB.out _ hH; obtain ⟨v0, v1, v2, v3, v4, y0, y1, y2, y3, y4⟩ := cells_known5 (hH.keeps KV3.out); have ha := rd1 ha H (by kernel_rfl) rfl; simp only [q3, q5, q6, q7] at ha; subst ha; clear H hU hS; go_wp2_with fail; (try refine hQ _ _ ?_); refine ⟨Step.refl _ _, ?_, trivial, nofun⟩; exact (rfl : _ = _)
    case o28_7_6 => obtain ⟨f0, f3, f6, f7⟩ := FF.out _ (S3.out.then hH); obtain ⟨b0, b1, b2, b3, b4, b5, b6, b7, b8, b9⟩ := FB.out _ hH; obtain ⟨v0, v1, v2, v3, v4, y0, y1, y2, y3, y4⟩ := cells_known5 (hH.keeps KV3.out); cases rd0 ha; clear H hU hS; go_wp2_with fail; (try refine hQ _ _ ?_); refine ⟨Step.refl _ _, ?_, trivial, nofun⟩; exact (rfl : _ = _)
  intro xv w9 hH hS H hU hsz hF hN
  have h0 : xv 0 = _ := H 0 (by decide) (by kernel_rfl); have h1 : xv 1 = _ := H 1 (by decide) (by kernel_rfl); have h2 : xv 2 = _ := H 2 (by decide) (by kernel_rfl); have h3 : xv 3 = _ := H 3 (by decide) (by kernel_rfl); have h4 : xv 4 = _ := H 4 (by decide) (by kernel_rfl); have h5 : xv 5 = _ := H 5 (by decide) (by kernel_rfl); have h6 : xv 6 = _ := H 6 (by decide) (by kernel_rfl)
  simp only [planDo28, q1, q2, q3, q5, q6, q7, q4, List.drop_succ_cons, List.drop_zero, h0, h1, h2, h3, h4, h5, h6]
  clear H hF hN hS hU h0 h1 h2 h3 h4 h5 h6
  have S9 := Lib.hid (S3.out.then hH)
  obtain ⟨f0, f3, f6, f7⟩ := FF.out _ S9.out
  obtain ⟨c0_dst, c1_dst, c2_dst, c3_dst, c4_dst, z_dst⟩ := FR.out _ S9.out dst ok_dst
  clear hH
  go_wp2_with fail
  go_end0
  exact ⟨rfl, went_set (HW.out.still S9.out) (HF.out.still S9.out) ((Chg.calm own S9.out).g gx) HL.out rfl (by omega) (numV (nar (rgV regs a).num (8 * size) true))⟩
end
end Go.Proofs.Ytojfgdoniajmeaa
