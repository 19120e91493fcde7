/- Package fat: a block is freed. -/
import Derived.Test.YtpmbakhnamlooaaFatE
import Derived.Test.YtpmbakhnamlooaaFatF
import Derived.Deep.Cut
namespace Go.Proofs.Ytpmbakhnamlooaa
set_option linter.unusedVariables false
set_option linter.unusedSimpArgs false
open Go.RowKit

section
variable {w0 w w' w'' : World} {pf pw gx : Nat} {own own' own'' : Nat → Nat} {vn vp vk vs vc vr vl : Value} {regs slots : List Int} {lock key : Int}

theorem zero_made (w : World) : (zeroValue 160).run Try.prog w = .ok (madeV (0, 0)) w := by kernel_rfl
theorem madeV_get (o : Option (Int × Int)) : (o.map madeV).getD (madeV (0, 0)) = madeV (o.getD (0, 0)) := by cases o <;> rfl
theorem u64_wf {x : Int} (h : is64 x) : (Lit.int .u64 x).wf = true := by
  unfold is64 at h
  simp [Lit.wf, IntKind.min, IntKind.max, IntKind.bits, IntKind.signed]; omega

theorem rel_facts {g : Nat} {v0 v1 v2 v3 v4 : Int} {u1 u2 u3 u4 u5 u6 u7 u8 u9 : Value} (h : w.heap[pf]? = some (.cells #[.pointer (some ⟨pw, 0, none⟩), u1, u2, u3, u4, u5, u6, u7, u8, u9] 116 (0, 0)))
    (k0 : w.cell? ⟨g, 0, none⟩ = some (.int .u64 v0)) (k1 : w.cell? ⟨g, 1, none⟩ = some (.int .u64 v1)) (k2 : w.cell? ⟨g, 2, none⟩ = some (.int .u64 v2)) (k3 : w.cell? ⟨g, 3, none⟩ = some (.int .u64 v3)) (k4 : w.cell? ⟨g, 4, none⟩ = some (.int .u64 v4)) :
    ∀ y, Step (fun b => w.heap.size ≤ b) w y → y.cell? ⟨pf, 0, none⟩ = some (.pointer (some ⟨pw, 0, none⟩)) ∧ y.cell? ⟨g, 0, none⟩ = some (.int .u64 v0) ∧ y.cell? ⟨g, 1, none⟩ = some (.int .u64 v1) ∧ y.cell? ⟨g, 2, none⟩ = some (.int .u64 v2) ∧ y.cell? ⟨g, 3, none⟩ = some (.int .u64 v3) ∧ y.cell? ⟨g, 4, none⟩ = some (.int .u64 v4) := fun _ hy => by
  have k : ∀ {b : Nat}, b < w.heap.size → ¬ w.heap.size ≤ b := fun h => Nat.not_le.2 h
  exact ⟨cell_known ((hy.block _ (lt_known h) (k (lt_known h))).trans h) rfl, (hy.cell (block_lt k0) (k (block_lt k0))).trans k0, (hy.cell (block_lt k1) (k (block_lt k1))).trans k1, (hy.cell (block_lt k2) (k (block_lt k2))).trans k2, (hy.cell (block_lt k3) (k (block_lt k3))).trans k3, (hy.cell (block_lt k4) (k (block_lt k4))).trans k4⟩
/-- blocks of the call's own may change -/
theorem FWAt.over {fnv : List UInt8 → Option Value} {tops : List UInt8 → Option Int} {st : FSt} {c : Nat} (h : FWAt w0 w pw own fnv tops st c) (s : Step (fun b => w.heap.size ≤ b) w w') : FWAt w0 w' pw own fnv tops st c := by
  obtain ⟨bf, bt, bm, bs, bb, vl, vi, vo, P⟩ := h
  have hz := s.size
  have k : ∀ b, b < w.heap.size → w'.heap[b]? = w.heap[b]? := fun b hb => s.block b hb (Nat.not_le.2 hb)
  exact ⟨bf, bt, bm, bs, bb, vl, vi, vo, (k pw (lt_obj P.struct)).trans P.struct, P.tag, P.fns.same (k _ P.fns.lt), P.tops.same (k _ P.tops.lt), P.mem.same (k _ P.mem.lt), P.shadow.same (k _ P.shadow.lt), P.blocks.same (k _ P.blocks.lt),
    P.locks.same fun b _ hb => k b hb, P.out.same fun b _ hb => k b hb, P.input, fun b hb => by have := P.low b hb; omega, P.step.trans s fun b hb => .inr (by have := P.step.size; omega), P.lens⟩

def planRel0 : Plan where
  T := [[], [0], [0, 1], [0, 1, 2], [0, 1, 2, 3], [0, 1, 2, 3, 4], [0, 1, 2, 3, 4, 5], [], [7], [7, 8], [0, 1, 2, 3, 4, 5, 6, 7, 8, 9], [0, 1, 2, 3, 4, 5, 6, 7, 8, 9, 10], [0, 1, 2, 3, 4, 5, 6, 7, 8, 9, 10, 11], [0, 1, 2, 3, 4, 5, 6, 7, 8, 9, 10, 11], [], [0, 1, 2, 3, 4, 5, 6, 7, 8, 9, 10, 11, 12, 14], [0, 1, 2, 3, 4, 5, 6, 7, 8, 9, 10, 11, 12, 13, 14, 15]]
  rd := [[], [(0, some 7)], [(1, some 8)], [(2, some 9)], [(3, some 10)], [(4, some 11)], [(5, some 12)], [], [(7, some 14)], [(8, some 15)], [(6, some 13), (9, some 16)], [(10, some 17)], [(11, some 6)], [(11, some 6)], [], [(12, some 18), (14, some 4)]]
  all := [(15, none), (14, some 4), (13, some 19), (12, some 18), (11, some 6), (10, some 17), (9, some 16), (8, some 15), (7, some 14), (6, some 13), (5, some 12), (4, some 11), (3, some 10), (2, some 9), (1, some 8), (0, some 7)]
  calm := [true, true, true, true, true, true, true, true, true, true, true, true, true, true, true, false]
  hard := [true, true, true, true, true, true, true, true, true, true, true, true, true, true, false, true]
  fresh := [false, false, false, false, false, false, false, false, false, false, false, false, false, false, true, false]
  ref := [0, 1, 2, 3, 4, 5, 6, 7, 8, 9, 10, 11, 12, 13, 14, 14]

def planRel1 : Plan where
  T := [[], [0], [0, 1], [0, 1, 2], [], [4], [4, 5], [], [7], [7, 8], [0, 1, 2, 3, 4, 5, 6, 7, 8, 9], [0, 1, 2, 3, 4, 5, 6, 7, 8, 9, 10], [0, 1, 2, 3, 4, 5, 6, 7, 8, 9, 10, 11], [0, 1, 2, 3, 4, 5, 6, 7, 8, 9, 10, 11, 12], [0, 1, 2, 3, 4, 5, 6, 7, 8, 9, 10, 11, 12, 13], [0, 1, 2, 3, 4, 5, 6, 7, 8, 9, 10, 11, 12, 13, 14], [0, 1, 2, 3, 4, 5, 6, 7, 8, 9, 10, 11, 12, 13, 14, 15], [0, 1, 2, 3, 4, 5, 6, 7, 8, 9, 10, 11, 12, 13, 14], [0, 1, 2, 3, 4, 5, 6, 7, 8, 9, 10, 11, 12, 13, 14, 17], [0, 1, 2, 3, 4, 5, 6, 7, 8, 9, 10, 11, 12, 13, 14, 17, 18], [0, 1, 2, 3, 4, 5, 6, 7, 8, 9, 10, 11, 12, 13, 14, 15, 16, 17, 18, 19], [0, 1, 2, 3, 4, 5, 6, 7, 8, 9, 10, 11, 12, 13, 14, 15, 16, 17, 18, 19, 20], [0, 1, 2, 3, 4, 5, 6, 7, 8, 9, 10, 11, 12, 13, 14, 15, 16, 17, 18, 19, 20, 21], [0, 1, 2, 3, 4, 5, 6, 7, 8, 9, 10, 11, 12, 13, 14, 15, 16, 17, 18, 19, 20, 21, 22], [0, 1, 2, 3, 4, 5, 6, 7, 8, 9, 10, 11, 12, 13, 14, 15, 16, 17, 18, 19, 20, 21, 22, 23], [0, 1, 2, 3, 4, 5, 6, 7, 8, 9, 10, 11, 12, 13, 14, 15, 16, 17, 18, 19, 20, 21, 22, 23, 24], [0, 1, 2, 3, 4, 5, 6, 7, 8, 9, 10, 11, 12, 13, 14, 15, 16, 17, 18, 19, 20, 21, 22], [0, 1, 2, 3, 4, 5, 6, 7, 8, 9, 10, 11, 12, 13, 14, 15, 16, 17, 18, 19, 20, 21, 22, 26], [0, 1, 2, 3, 4, 5, 6, 7, 8, 9, 10, 11, 12, 13, 14, 15, 16, 17, 18, 19, 20, 21, 22, 26, 27], [0, 1, 2, 3, 4, 5, 6, 7, 8, 9, 10, 11, 12, 13, 14, 15, 16, 17, 18, 19, 20, 21, 22, 23, 24, 25, 26, 27, 28], [0, 1, 2, 3, 4, 5, 6, 7, 8, 9, 10, 11, 12, 13, 14, 15, 16, 17, 18, 19, 20, 21, 22, 23, 24, 25, 26, 27, 28, 29], [0, 1, 2, 3, 4, 5, 6, 7, 8, 9, 10, 11, 12, 13, 14, 15, 16, 17, 18, 19, 20, 21, 22, 23, 24, 25, 26, 27, 28, 29, 30]]
  rd := [[], [(0, some 20)], [(1, some 21)], [(2, some 22)], [], [(4, some 24)], [(5, some 25)], [], [(7, some 27)], [(8, some 28)], [(3, some 23), (6, some 26), (9, some 29)], [(10, some 30)], [(11, some 31)], [(11, some 31), (12, some 32)], [(13, some 33)], [(14, some 34)], [(14, some 34), (15, some 35)], [(14, some 34)], [(14, some 34), (17, some 37)], [(14, some 34), (18, some 38)], [(14, some 34), (16, some 36), (19, some 39)], [(14, some 34), (20, some 40)], [(21, some 41)], [(22, some 42)], [(22, some 42), (23, some 43)], [(22, some 42), (24, some 44)], [(22, some 42)], [(22, some 42), (26, some 46)], [(22, some 42), (27, some 47)]]
  all := [(28, some 48), (27, some 47), (26, some 46), (25, some 45), (24, some 44), (23, some 43), (22, some 42), (21, some 41), (20, some 40), (19, some 39), (18, some 38), (17, some 37), (16, some 36), (15, some 35), (14, some 34), (13, some 33), (12, some 32), (11, some 31), (10, some 30), (9, some 29), (8, some 28), (7, some 27), (6, some 26), (5, some 25), (4, some 24), (3, some 23), (2, some 22), (1, some 21), (0, some 20)]
  calm := [true, true, true, true, true, true, true, true, true, true, true, true, true, true, true, true, true, true, true, true, true, true, true, true, true, true, true, true, true]
  hard := []
  fresh := [false, false, false, false, false, false, false, false, false, false, false, false, false, false, false, false, false, false, false, false, false, false, false, false, false, false, false, false, false]

def planRel2 : Plan where
  T := [[], [0], [0, 1], [0, 1, 2], [0, 1, 2, 3], [0, 1, 2, 3, 4], [0, 1, 2, 3, 4, 5], [], [7], [7, 8], [0, 1, 2, 3, 4, 5, 6, 7, 8, 9]]
  rd := [[], [(0, some 52)], [(1, some 53)], [(2, some 54)], [(3, some 55)], [(4, some 56)], [(5, some 57)], [], [(7, some 59)], [(8, some 60)]]
  all := [(9, some 61), (8, some 60), (7, some 59), (6, some 58), (5, some 57), (4, some 56), (3, some 55), (2, some 54), (1, some 53), (0, some 52)]
  calm := [true, true, true, true, true, true, true, true, true, true]
  hard := []
  fresh := [false, false, false, false, false, false, false, false, false, false]

def planRel3 : Plan where
  T := [[], [0], [0, 1], [0, 1, 2], [0, 1, 2, 3], [0, 1, 2, 3, 4], [0, 1, 2, 3, 4, 5], [], [7], [7, 8], [0, 1, 2, 3, 4, 5, 6, 7, 8, 9], [0, 1, 2, 3, 4, 5, 6, 7, 8, 9, 10]]
  rd := [[], [(0, some 62)], [(1, some 63)], [(2, some 64)], [(3, some 65)], [(4, some 66)], [(5, some 67)], [], [(7, some 69)], [(8, some 70)]]
  all := [(9, some 71), (8, some 70), (7, some 69), (6, some 68), (5, some 67), (4, some 66), (3, some 65), (2, some 64), (1, some 63), (0, some 62)]
  calm := [true, true, true, true, true, true, true, true, true, true]
  hard := []
  fresh := [false, false, false, false, false, false, false, false, false, false]

set_option maxHeartbeats 4000000 in
set_option maxRecDepth 100000 in
theorem release_case5 {fnv : List UInt8 → Option Value} {tops : List UInt8 → Option Int} {st : FSt} {c : Nat} {bf bt bm bs bb : Nat} {ul ui uo : Value} (P : FParts w0 w pw own fnv tops st c bf bt bm bs bb ul ui uo) (hF : FrAt w own pf pw gx vn vp vk vs vc vr vl regs slots lock key) (hc : c ≤ 1000000000) {g cap : Nat} {v0 v1 v2 v3 v4 : Int}
    (k0 : w.cell? ⟨g, 0, none⟩ = some (.int .u64 v0)) (k1 : w.cell? ⟨g, 1, none⟩ = some (.int .u64 v1)) (k2 : w.cell? ⟨g, 2, none⟩ = some (.int .u64 v2)) (k3 : w.cell? ⟨g, 3, none⟩ = some (.int .u64 v3)) (k4 : w.cell? ⟨g, 4, none⟩ = some (.int .u64 v4))
    (hg : own g = 0) (hr1 : is64 v1) (hr4 : 0 ≤ v4 ∧ v4 < 18446744073709551616) {bE bL : Int} {okb : Bool} (em : (st.blocks v1).getD (0, 0) = (bE, bL)) (eo : (st.blocks v1).isSome = okb) (e1 : heldF st.locks v4 v3 = true) (e2 : okb = true) (e3 : (bE == v2) = true) (e4 : (v0 == v1) = true) :
    Calls Try.prog 91 #[.pointer (some ⟨pf, 0, none⟩), .slice (some ⟨g, 0, none⟩) 5 cap] w fun e w' => e = .returned (.tuple #[]) ∧ Chg own own w w' ∧ FWAt w0 w' pw own fnv tops { st with blocks := fun x => if x = v1 then none else st.blocks x, locks := st.locks.set v4.toNat 0 } c := by
  have KF := Lib.hid (rel_facts hF.struct k0 k1 k2 k3 k4)
  have MF := Lib.hid (show ∀ y, Step (fun b => w.heap.size ≤ b) w y → y.cell? ⟨pw, 6, none⟩ = some (.map (some bb)) ∧ y.cell? ⟨pw, 4, none⟩ = some ul from fun _ hy => ⟨cell_known ((hy.block _ (lt_known P.struct) (Nat.not_le.2 (lt_known P.struct))).trans P.struct) rfl, cell_known ((hy.block _ (lt_known P.struct) (Nat.not_le.2 (lt_known P.struct))).trans P.struct) rfl⟩)
  have LK := Lib.hid (show ∀ y, Step (fun b => w.heap.size ≤ b) w y → (Instr.lookup 69 (.map (some bb)) (.int .u64 v1) true).run Try.prog y = .ok (.tuple #[.agg #[.int .u64 bE, .int .i64 bL], .bool okb]) y from fun y hy => by
    have := (P.blocks.same (hy.block _ P.blocks.lt (Nat.not_le.2 P.blocks.lt))).lookup_ok (a := v1) (t := 69) (e := 160) Try.underlying38 Try.underlying69 (zero_made y) (u64_wf hr1)
    rw [madeV_get, em, Option.isSome_map, eo] at this
    exact this)
  clear em eo
  have HH := Lib.hid (show ∀ y, Step (fun b => w.heap.size ≤ b) w y → Calls Try.prog 95 #[.pointer (some ⟨pw, 0, none⟩), .int .u64 v4, .int .u64 v3] y fun e w' => e = .returned (.bool true) ∧ y = w' from fun y hy => by
    have := held_any (P.whole.over hy) hc v4 v3 hr4.1 hr4.2
    rwa [e1] at this)
  have HL := Lib.hid (show v4 < st.locks.length from by
    unfold heldF at e1
    simp only [Bool.and_eq_true, decide_eq_true_eq] at e1
    exact e1.1.2)
  have PP := Lib.hid P
  have FF := Lib.hid hF
  have E3 := Lib.hid e3
  have E4 := Lib.hid e4
  subst e2
  clear P hF k0 k1 k2 k3 k4 e1 e3 e4
  go_enter Try.func91, Try.ntmps91
  go_upto_region 0 with fail
  refine wp_region_each 16 planRel0 (fun a b => Step (fun x => w.heap.size ≤ x) a b) (Step (fun x => w.heap.size ≤ x) w) (fun _ => True) [Is ?v0_1_0, Is ?v0_1_1, Is ?v0_1_2, Is ?v0_1_3, Is ?v0_1_4, Is ?v0_1_5, Is ?v0_1_6, Is ?v0_1_7, Is ?v0_1_8, Is ?v0_1_9, Is ?v0_1_10, Is ?v0_1_11, Is ?v0_1_12, Is ?v0_1_13, IsNew w (.cells #[.int .u64 0, .int .i64 0] 160 (0, 0)), fun _ _ => True] [fun _ _ => True, fun _ _ => True, fun _ _ => True, fun _ _ => True, fun _ _ => True, fun _ _ => True, fun _ _ => True, fun _ _ => True, fun _ _ => True, fun _ _ => True, fun _ _ => True, fun _ _ => True, fun _ _ => True, fun _ _ => True, fun _ _ => True, IsNew w (.cells #[.int .u64 bE, .int .i64 bL] 160 (0, 0))] (by kernel_rfl) (by kernel_rfl) (fun _ _ h => h.size) ((Step.refl _ _).drew) (trivial) ?stab0_1 ?stabD0_1 ?obl0_1 ?fin0_1
  case stab0_1 => exact fun w w' h => ⟨fun k => k.trans h (fun _ x => x.elim), fun _ => trivial, ⟨fun _ k => k, fun _ k => k, fun _ k => k, fun _ k => k, fun _ k => k, fun _ k => k, fun _ k => k, fun _ k => k, fun _ k => k, fun _ k => k, fun _ k => k, fun _ k => k, fun _ k => k, fun _ k => k, fun _ k => IsNew.stable h k, fun _ k => k, trivial⟩, ⟨fun _ k => k, fun _ k => k, fun _ k => k, fun _ k => k, fun _ k => k, fun _ k => k, fun _ k => k, fun _ k => k, fun _ k => k, fun _ k => k, fun _ k => k, fun _ k => k, fun _ k => k, fun _ k => k, fun _ k => k, fun _ k => k.stable h, trivial⟩⟩
  case stabD0_1 => exact fun w w' h => ⟨fun k => k.trans h (fun _ x => .inl x), fun _ _ k => k, fun _ _ k => k, fun _ _ k => k, fun _ _ k => k, fun _ _ k => k, fun _ _ k => k, fun _ _ k => k, fun _ _ k => k, fun _ _ k => k, fun _ _ k => k, fun _ _ k => k, fun _ _ k => k, fun _ _ k => k, fun _ _ k => k, nofun, fun _ _ k => k, trivial⟩
  case obl0_1 =>
    refine ⟨?o0_1_0, ?o0_1_1, ?o0_1_2, ?o0_1_3, ?o0_1_4, ?o0_1_5, ?o0_1_6, ?o0_1_7, ?o0_1_8, ?o0_1_9, ?o0_1_10, ?o0_1_11, ?o0_1_12, ?o0_1_13, ?o0_1_14, ?o0_1_15, trivial⟩
    all_goals intro xv wq hH hS H hU aq ha Q' hQ
    case o0_1_0 => cases rd0 ha; clear H hU hS; go_wp2_with fail; (try refine hQ _ _ ?_); refine ⟨Step.refl _ _, ?_, trivial, nofun⟩; exact (rfl : _ = _)
    case o0_1_1 | o0_1_2 => have ha := rd1 ha H (by kernel_rfl) rfl; simp only [q3, q5, q6, q7] at ha; subst ha; clear H hU hS; go_wp2_with fail; (try refine hQ _ _ ?_); refine ⟨Step.refl _ _, ?_, trivial, nofun⟩; exact (rfl : _ = _)
    case o0_1_3 => obtain ⟨cf, g0, g1, g2, g3, g4⟩ := KF.out _ hH; obtain ⟨c6, c4⟩ := MF.out _ hH; have lk := LK.out _ hH; have ha := rd1 ha H (by kernel_rfl) rfl; simp only [q3, q5, q6, q7] at ha; subst ha; clear H hU hS; go_wp2_with fail; (try refine hQ _ _ ?_); refine ⟨Step.refl _ _, ?_, trivial, nofun⟩; exact (rfl : _ = _)
    case o0_1_4 | o0_1_5 => have ha := rd1 ha H (by kernel_rfl) rfl; simp only [q3, q5, q6, q7] at ha; subst ha; clear H hU hS; go_wp2_with fail; (try refine hQ _ _ ?_); refine ⟨Step.refl _ _, ?_, trivial, nofun⟩; exact (rfl : _ = _)
    case o0_1_6 => obtain ⟨cf, g0, g1, g2, g3, g4⟩ := KF.out _ hH; obtain ⟨c6, c4⟩ := MF.out _ hH; have lk := LK.out _ hH; have ha := rd1 ha H (by kernel_rfl) rfl; simp only [q3, q5, q6, q7] at ha; subst ha; clear H hU hS; go_wp2_with fail; (try refine hQ _ _ ?_); refine ⟨Step.refl _ _, ?_, trivial, nofun⟩; exact (rfl : _ = _)
    case o0_1_7 => cases rd0 ha; clear H hU hS; go_wp2_with fail; (try refine hQ _ _ ?_); refine ⟨Step.refl _ _, ?_, trivial, nofun⟩; exact (rfl : _ = _)
    case o0_1_8 | o0_1_9 => obtain ⟨cf, g0, g1, g2, g3, g4⟩ := KF.out _ hH; obtain ⟨c6, c4⟩ := MF.out _ hH; have lk := LK.out _ hH; have ha := rd1 ha H (by kernel_rfl) rfl; simp only [q3, q5, q6, q7] at ha; subst ha; clear H hU hS; go_wp2_with fail; (try refine hQ _ _ ?_); refine ⟨Step.refl _ _, ?_, trivial, nofun⟩; exact (rfl : _ = _)
    case o0_1_10 => obtain ⟨cf, g0, g1, g2, g3, g4⟩ := KF.out _ hH; obtain ⟨c6, c4⟩ := MF.out _ hH; have lk := LK.out _ hH; have ha := rd2 ha H (by kernel_rfl) (by kernel_rfl) rfl rfl; simp only [q3, q5, q6, q7] at ha; subst ha; clear H hU hS; go_wp2_with fail; (try refine hQ _ _ ?_); refine ⟨Step.refl _ _, ?_, trivial, nofun⟩; exact (rfl : _ = _)
    case o0_1_11 | o0_1_12 | o0_1_13 => have ha := rd1 ha H (by kernel_rfl) rfl; simp only [q3, q5, q6, q7] at ha; subst ha; clear H hU hS; go_wp2_with fail; (try refine hQ _ _ ?_); refine ⟨Step.refl _ _, ?_, trivial, nofun⟩; exact (rfl : _ = _)
    case o0_1_14 => obtain ⟨cf, g0, g1, g2, g3, g4⟩ := KF.out _ hH; obtain ⟨c6, c4⟩ := MF.out _ hH; have lk := LK.out _ hH; change aq = puts _ xv [] at ha; simp only [q1] at ha; subst ha; clear H ; clear hU hS; go_wp2_with fail; (try refine hQ _ _ ?_); refine ⟨Step.alloc _ _ _, ?_, trivial, fun _ => ⟨_, rfl, Nat.le_refl _, by simp⟩⟩; exact ⟨_, rfl, hH.size, heap_alloc_new _ _⟩
    case o0_1_15 =>
      obtain ⟨cf, g0, g1, g2, g3, g4⟩ := KF.out _ hH; obtain ⟨c6, c4⟩ := MF.out _ hH; have lk := LK.out _ hH; have h12 : xv 12 = _ := H 12 (by kernel_rfl); obtain ⟨b14, h14, l14, k14⟩ : IsNew w (.cells #[.int .u64 0, .int .i64 0] 160 (0, 0)) _ _ := H 14 (by kernel_rfl); change aq = puts _ xv [(12, some 18), (14, some 4)] at ha; simp only [q1, q2, q3, q5, q6, q7, h12, h14] at ha; have HX14 := Lib.hid h14; subst ha; clear H h12 h14
      clear hU hS
      obtain ⟨x0, x1, z0, z1⟩ := cells_known2 k14
      go_wp2_with fail
      refine hQ (.bool true) _ ?_
      refine ⟨?_, trivial, ⟨b14, HX14.out, l14, ?_⟩, nofun⟩
      · exact ((Step.refl _ _).set (.inl l14) _).set (.inl l14) _
      · exact set2_known k14 _ _
  intro xv w4 hH hS H hU hsz hF hN
  have h0 : xv 0 = _ := H 0 (by decide) (by kernel_rfl); have h1 : xv 1 = _ := H 1 (by decide) (by kernel_rfl); have h2 : xv 2 = _ := H 2 (by decide) (by kernel_rfl); have h3 : xv 3 = _ := H 3 (by decide) (by kernel_rfl); have h4 : xv 4 = _ := H 4 (by decide) (by kernel_rfl); have h5 : xv 5 = _ := H 5 (by decide) (by kernel_rfl); have h6 : xv 6 = _ := H 6 (by decide) (by kernel_rfl); have h7 : xv 7 = _ := H 7 (by decide) (by kernel_rfl); have h8 : xv 8 = _ := H 8 (by decide) (by kernel_rfl); have h9 : xv 9 = _ := H 9 (by decide) (by kernel_rfl); have h10 : xv 10 = _ := H 10 (by decide) (by kernel_rfl); have h11 : xv 11 = _ := H 11 (by decide) (by kernel_rfl); have h12 : xv 12 = _ := H 12 (by decide) (by kernel_rfl); have h13 : xv 13 = _ := H 13 (by decide) (by kernel_rfl)
  simp only [planRel0, q1, q2, q3, q5, q6, q7, q4, List.drop_succ_cons, List.drop_zero, h0, h1, h2, h3, h4, h5, h6, h7, h8, h9, h10, h11, h12, h13]
  have hL := hU 15 (by decide) (by kernel_rfl)
  clear H hF hN hS hU h0 h1 h2 h3 h4 h5 h6 h7 h8 h9 h10 h11 h12 h13
  obtain ⟨b14, h14, l14, k14⟩ : IsNew w _ (xv 14) _ := hL
  simp only [h14]
  have K14 := Lib.hid k14
  obtain ⟨x0, x1, z0, z1⟩ := cells_known2 k14
  clear k14
  have H4 := Lib.hid hH
  clear hH
  have F14 := Lib.hid (show ∀ y, Step (fun _ => False) w4 y → y.cell? ⟨b14, 0, none⟩ = some (.int .u64 bE) from fun y hy => cell_known (hy.keeps K14.out) rfl)
  clear x0 x1 z0 z1
  go_upto_region 1 with fail
  refine wp_region_each 29 planRel1 (fun _ _ => False) (Step (fun _ => False) w4) (fun _ => True) [Is ?v1_2_0, Is ?v1_2_1, Is ?v1_2_2, Is ?v1_2_3, Is ?v1_2_4, Is ?v1_2_5, Is ?v1_2_6, Is ?v1_2_7, Is ?v1_2_8, Is ?v1_2_9, Is ?v1_2_10, Is ?v1_2_11, Is ?v1_2_12, Is ?v1_2_13, Is ?v1_2_14, Is ?v1_2_15, Is ?v1_2_16, Is ?v1_2_17, Is ?v1_2_18, Is ?v1_2_19, Is ?v1_2_20, Is ?v1_2_21, Is ?v1_2_22, Is ?v1_2_23, Is ?v1_2_24, Is ?v1_2_25, Is ?v1_2_26, Is ?v1_2_27, Is ?v1_2_28] [] (by kernel_rfl) (by kernel_rfl) (fun _ _ h => h.elim) ((Step.refl _ _).drew) (trivial) ?stab1_2 ?stabD1_2 ?obl1_2 ?fin1_2
  case stab1_2 => exact fun w w' h => ⟨fun k => k.trans h (fun _ x => x.elim), fun _ => trivial, ⟨fun _ k => k, fun _ k => k, fun _ k => k, fun _ k => k, fun _ k => k, fun _ k => k, fun _ k => k, fun _ k => k, fun _ k => k, fun _ k => k, fun _ k => k, fun _ k => k, fun _ k => k, fun _ k => k, fun _ k => k, fun _ k => k, fun _ k => k, fun _ k => k, fun _ k => k, fun _ k => k, fun _ k => k, fun _ k => k, fun _ k => k, fun _ k => k, fun _ k => k, fun _ k => k, fun _ k => k, fun _ k => k, fun _ k => k, trivial⟩, trivial⟩
  case stabD1_2 => exact fun _ _ h => h.elim
  case obl1_2 =>
    refine ⟨?o1_2_0, ?o1_2_1, ?o1_2_2, ?o1_2_3, ?o1_2_4, ?o1_2_5, ?o1_2_6, ?o1_2_7, ?o1_2_8, ?o1_2_9, ?o1_2_10, ?o1_2_11, ?o1_2_12, ?o1_2_13, ?o1_2_14, ?o1_2_15, ?o1_2_16, ?o1_2_17, ?o1_2_18, ?o1_2_19, ?o1_2_20, ?o1_2_21, ?o1_2_22, ?o1_2_23, ?o1_2_24, ?o1_2_25, ?o1_2_26, ?o1_2_27, ?o1_2_28, trivial⟩
    all_goals intro xv wq hH hS H hU aq ha Q' hQ
    case o1_2_0 => cases rd0 ha; clear H hU hS; go_wp2_with fail; (try refine hQ _ _ ?_); refine ⟨Step.refl _ _, ?_, trivial, nofun⟩; exact (rfl : _ = _)
    case o1_2_1 | o1_2_2 => have ha := rd1 ha H (by kernel_rfl) rfl; simp only [q3, q5, q6, q7] at ha; subst ha; clear H hU hS; go_wp2_with fail; (try refine hQ _ _ ?_); refine ⟨Step.refl _ _, ?_, trivial, nofun⟩; exact (rfl : _ = _)
    case o1_2_3 => have s4 := H4.out.then hH; obtain ⟨cf, g0, g1, g2, g3, g4⟩ := KF.out _ s4; have x0 := F14.out _ hH; have SS := Lib.hid s4; clear s4; have ha := rd1 ha H (by kernel_rfl) rfl; simp only [q3, q5, q6, q7] at ha; subst ha; clear H hU hS; go_wp2_with fail; (try refine hQ _ _ ?_); refine ⟨Step.refl _ _, ?_, trivial, nofun⟩; exact (rfl : _ = _)
    case o1_2_4 => cases rd0 ha; clear H hU hS; go_wp2_with fail; (try refine hQ _ _ ?_); refine ⟨Step.refl _ _, ?_, trivial, nofun⟩; exact (rfl : _ = _)
    case o1_2_5 | o1_2_6 => have s4 := H4.out.then hH; obtain ⟨cf, g0, g1, g2, g3, g4⟩ := KF.out _ s4; have x0 := F14.out _ hH; have SS := Lib.hid s4; clear s4; have ha := rd1 ha H (by kernel_rfl) rfl; simp only [q3, q5, q6, q7] at ha; subst ha; clear H hU hS; go_wp2_with fail; (try refine hQ _ _ ?_); refine ⟨Step.refl _ _, ?_, trivial, nofun⟩; exact (rfl : _ = _)
    case o1_2_7 => cases rd0 ha; clear H hU hS; go_wp2_with fail; (try refine hQ _ _ ?_); refine ⟨Step.refl _ _, ?_, trivial, nofun⟩; exact (rfl : _ = _)
    case o1_2_8 | o1_2_9 => have s4 := H4.out.then hH; obtain ⟨cf, g0, g1, g2, g3, g4⟩ := KF.out _ s4; have x0 := F14.out _ hH; have SS := Lib.hid s4; clear s4; have ha := rd1 ha H (by kernel_rfl) rfl; simp only [q3, q5, q6, q7] at ha; subst ha; clear H hU hS; go_wp2_with fail; (try refine hQ _ _ ?_); refine ⟨Step.refl _ _, ?_, trivial, nofun⟩; exact (rfl : _ = _)
    case o1_2_10 => have s4 := H4.out.then hH; obtain ⟨cf, g0, g1, g2, g3, g4⟩ := KF.out _ s4; have x0 := F14.out _ hH; have SS := Lib.hid s4; clear s4; have h3 : xv 3 = _ := H 3 (by kernel_rfl); have h6 : xv 6 = _ := H 6 (by kernel_rfl); have h9 : xv 9 = _ := H 9 (by kernel_rfl); change aq = puts _ xv [(3, some 23), (6, some 26), (9, some 29)] at ha; simp only [q1, q2, q3, q5, q6, q7, h3, h6, h9] at ha; subst ha; clear H h3 h6 h9; clear hU hS; go_wp2_with fail; refine (HH.out _ SS.out).mono ?_; rintro e w4 ⟨rfl, s5⟩; go_wp2_with fail; (try refine hQ _ _ ?_); refine ⟨(by subst s5; exact Step.refl _ _), ?_, trivial, nofun⟩; exact (rfl : _ = _)
    case o1_2_11 => have ha := rd1 ha H (by kernel_rfl) rfl; simp only [q3, q5, q6, q7] at ha; subst ha; clear H hU hS; go_wp2_with fail; (try refine hQ _ _ ?_); refine ⟨Step.refl _ _, ?_, trivial, nofun⟩; exact (rfl : _ = _)
    case o1_2_12 => have s4 := H4.out.then hH; obtain ⟨cf, g0, g1, g2, g3, g4⟩ := KF.out _ s4; have x0 := F14.out _ hH; have SS := Lib.hid s4; clear s4; have ha := rd1 ha H (by kernel_rfl) rfl; simp only [q3, q5, q6, q7] at ha; subst ha; clear H hU hS; go_wp2_with fail; (try refine hQ _ _ ?_); refine ⟨Step.refl _ _, ?_, trivial, nofun⟩; exact (rfl : _ = _)
    case o1_2_13 => have ha := rd2 ha H (by kernel_rfl) (by kernel_rfl) rfl rfl; simp only [q3, q5, q6, q7] at ha; subst ha; clear H hU hS; go_wp2_with fail; (try refine hQ _ _ ?_); refine ⟨Step.refl _ _, ?_, trivial, nofun⟩; exact (rfl : _ = _)
    case o1_2_14 => have ha := rd1 ha H (by kernel_rfl) rfl; simp only [q3, q5, q6, q7] at ha; subst ha; clear H hU hS; go_wp2_with fail; (try refine hQ _ _ ?_); refine ⟨Step.refl _ _, ?_, trivial, nofun⟩; exact (rfl : _ = _)
    case o1_2_15 => have s4 := H4.out.then hH; obtain ⟨cf, g0, g1, g2, g3, g4⟩ := KF.out _ s4; have x0 := F14.out _ hH; have SS := Lib.hid s4; clear s4; have ha := rd1 ha H (by kernel_rfl) rfl; simp only [q3, q5, q6, q7] at ha; subst ha; clear H hU hS; go_wp2_with fail; (try refine hQ _ _ ?_); refine ⟨Step.refl _ _, ?_, trivial, nofun⟩; exact (rfl : _ = _)
    case o1_2_16 => have s4 := H4.out.then hH; obtain ⟨cf, g0, g1, g2, g3, g4⟩ := KF.out _ s4; have x0 := F14.out _ hH; have SS := Lib.hid s4; clear s4; have ha := rd2 ha H (by kernel_rfl) (by kernel_rfl) rfl rfl; simp only [q3, q5, q6, q7] at ha; subst ha; clear H hU hS; go_wp2_with fail; (try refine hQ _ _ ?_); refine ⟨Step.refl _ _, ?_, trivial, nofun⟩; exact (rfl : _ = _)
    case o1_2_17 => have s4 := H4.out.then hH; obtain ⟨cf, g0, g1, g2, g3, g4⟩ := KF.out _ s4; have x0 := F14.out _ hH; have SS := Lib.hid s4; clear s4; have ha := rd1 ha H (by kernel_rfl) rfl; simp only [q3, q5, q6, q7] at ha; subst ha; clear H hU hS; go_wp2_with fail; (try refine hQ _ _ ?_); refine ⟨Step.refl _ _, ?_, trivial, nofun⟩; exact (rfl : _ = _)
    case o1_2_18 | o1_2_19 => have s4 := H4.out.then hH; obtain ⟨cf, g0, g1, g2, g3, g4⟩ := KF.out _ s4; have x0 := F14.out _ hH; have SS := Lib.hid s4; clear s4; have ha := rd2 ha H (by kernel_rfl) (by kernel_rfl) rfl rfl; simp only [q3, q5, q6, q7] at ha; subst ha; clear H hU hS; go_wp2_with fail; (try refine hQ _ _ ?_); refine ⟨Step.refl _ _, ?_, trivial, nofun⟩; exact (rfl : _ = _)
    case o1_2_20 => have s4 := H4.out.then hH; obtain ⟨cf, g0, g1, g2, g3, g4⟩ := KF.out _ s4; have x0 := F14.out _ hH; have SS := Lib.hid s4; clear s4; have h14 : xv 14 = _ := H 14 (by kernel_rfl); have h16 : xv 16 = _ := H 16 (by kernel_rfl); have h19 : xv 19 = _ := H 19 (by kernel_rfl); change aq = puts _ xv [(14, some 34), (16, some 36), (19, some 39)] at ha; simp only [q1, q2, q3, q5, q6, q7, h14, h16, h19] at ha; subst ha; clear H h14 h16 h19; clear hU hS; have e3 := E3.out; go_wp2_with fail; (try refine hQ _ _ ?_); refine ⟨Step.refl _ _, ?_, trivial, nofun⟩; exact (rfl : _ = _)
    case o1_2_21 => have ha := rd2 ha H (by kernel_rfl) (by kernel_rfl) rfl rfl; simp only [q3, q5, q6, q7] at ha; subst ha; clear H hU hS; go_wp2_with fail; (try refine hQ _ _ ?_); refine ⟨Step.refl _ _, ?_, trivial, nofun⟩; exact (rfl : _ = _)
    case o1_2_22 => have ha := rd1 ha H (by kernel_rfl) rfl; simp only [q3, q5, q6, q7] at ha; subst ha; clear H hU hS; go_wp2_with fail; (try refine hQ _ _ ?_); refine ⟨Step.refl _ _, ?_, trivial, nofun⟩; exact (rfl : _ = _)
    case o1_2_23 => have s4 := H4.out.then hH; obtain ⟨cf, g0, g1, g2, g3, g4⟩ := KF.out _ s4; have x0 := F14.out _ hH; have SS := Lib.hid s4; clear s4; have ha := rd1 ha H (by kernel_rfl) rfl; simp only [q3, q5, q6, q7] at ha; subst ha; clear H hU hS; go_wp2_with fail; (try refine hQ _ _ ?_); refine ⟨Step.refl _ _, ?_, trivial, nofun⟩; exact (rfl : _ = _)
    case o1_2_24 | o1_2_25 => have s4 := H4.out.then hH; obtain ⟨cf, g0, g1, g2, g3, g4⟩ := KF.out _ s4; have x0 := F14.out _ hH; have SS := Lib.hid s4; clear s4; have ha := rd2 ha H (by kernel_rfl) (by kernel_rfl) rfl rfl; simp only [q3, q5, q6, q7] at ha; subst ha; clear H hU hS; go_wp2_with fail; (try refine hQ _ _ ?_); refine ⟨Step.refl _ _, ?_, trivial, nofun⟩; exact (rfl : _ = _)
    case o1_2_26 => have s4 := H4.out.then hH; obtain ⟨cf, g0, g1, g2, g3, g4⟩ := KF.out _ s4; have x0 := F14.out _ hH; have SS := Lib.hid s4; clear s4; have ha := rd1 ha H (by kernel_rfl) rfl; simp only [q3, q5, q6, q7] at ha; subst ha; clear H hU hS; go_wp2_with fail; (try refine hQ _ _ ?_); refine ⟨Step.refl _ _, ?_, trivial, nofun⟩; exact (rfl : _ = _)
    case o1_2_27 | o1_2_28 => have s4 := H4.out.then hH; obtain ⟨cf, g0, g1, g2, g3, g4⟩ := KF.out _ s4; have x0 := F14.out _ hH; have SS := Lib.hid s4; clear s4; have ha := rd2 ha H (by kernel_rfl) (by kernel_rfl) rfl rfl; simp only [q3, q5, q6, q7] at ha; subst ha; clear H hU hS; go_wp2_with fail; (try refine hQ _ _ ?_); refine ⟨Step.refl _ _, ?_, trivial, nofun⟩; exact (rfl : _ = _)
  intro xv w5 hH hS H hU hsz hF hN
  have h0 : xv 0 = _ := H 0 (by decide) (by kernel_rfl); have h1 : xv 1 = _ := H 1 (by decide) (by kernel_rfl); have h2 : xv 2 = _ := H 2 (by decide) (by kernel_rfl); have h3 : xv 3 = _ := H 3 (by decide) (by kernel_rfl); have h4 : xv 4 = _ := H 4 (by decide) (by kernel_rfl); have h5 : xv 5 = _ := H 5 (by decide) (by kernel_rfl); have h6 : xv 6 = _ := H 6 (by decide) (by kernel_rfl); have h7 : xv 7 = _ := H 7 (by decide) (by kernel_rfl); have h8 : xv 8 = _ := H 8 (by decide) (by kernel_rfl); have h9 : xv 9 = _ := H 9 (by decide) (by kernel_rfl); have h10 : xv 10 = _ := H 10 (by decide) (by kernel_rfl); have h11 : xv 11 = _ := H 11 (by decide) (by kernel_rfl); have h12 : xv 12 = _ := H 12 (by decide) (by kernel_rfl); have h13 : xv 13 = _ := H 13 (by decide) (by kernel_rfl); have h14 : xv 14 = _ := H 14 (by decide) (by kernel_rfl); have h15 : xv 15 = _ := H 15 (by decide) (by kernel_rfl); have h16 : xv 16 = _ := H 16 (by decide) (by kernel_rfl); have h17 : xv 17 = _ := H 17 (by decide) (by kernel_rfl); have h18 : xv 18 = _ := H 18 (by decide) (by kernel_rfl); have h19 : xv 19 = _ := H 19 (by decide) (by kernel_rfl); have h20 : xv 20 = _ := H 20 (by decide) (by kernel_rfl); have h21 : xv 21 = _ := H 21 (by decide) (by kernel_rfl); have h22 : xv 22 = _ := H 22 (by decide) (by kernel_rfl); have h23 : xv 23 = _ := H 23 (by decide) (by kernel_rfl); have h24 : xv 24 = _ := H 24 (by decide) (by kernel_rfl); have h25 : xv 25 = _ := H 25 (by decide) (by kernel_rfl); have h26 : xv 26 = _ := H 26 (by decide) (by kernel_rfl); have h27 : xv 27 = _ := H 27 (by decide) (by kernel_rfl); have h28 : xv 28 = _ := H 28 (by decide) (by kernel_rfl)
  simp only [planRel1, q1, q2, q3, q5, q6, q7, q4, List.drop_succ_cons, List.drop_zero, h0, h1, h2, h3, h4, h5, h6, h7, h8, h9, h10, h11, h12, h13, h14, h15, h16, h17, h18, h19, h20, h21, h22, h23, h24, h25, h26, h27, h28]
  clear H hF hN hS hU h0 h1 h2 h3 h4 h5 h6 h7 h8 h9 h10 h11 h12 h13 h14 h15 h16 h17 h18 h19 h20 h21 h22 h23 h24 h25 h26 h27 h28
  have S5 := Lib.hid (H4.out.then hH)
  clear hH
  go_wp2_with fail
  refine (need_ok' E4.out _ _).mono ?_
  rintro e w' ⟨rfl, rfl⟩
  go_upto_region 2 with fail
  refine wp_region_each 10 planRel2 (fun _ _ => False) (Step (fun _ => False) w5) (fun _ => True) [Is ?v2_3_0, Is ?v2_3_1, Is ?v2_3_2, Is ?v2_3_3, Is ?v2_3_4, Is ?v2_3_5, Is ?v2_3_6, Is ?v2_3_7, Is ?v2_3_8, Is ?v2_3_9] [] (by kernel_rfl) (by kernel_rfl) (fun _ _ h => h.elim) ((Step.refl _ _).drew) (trivial) ?stab2_3 ?stabD2_3 ?obl2_3 ?fin2_3
  case stab2_3 => exact fun w w' h => ⟨fun k => k.trans h (fun _ x => x.elim), fun _ => trivial, ⟨fun _ k => k, fun _ k => k, fun _ k => k, fun _ k => k, fun _ k => k, fun _ k => k, fun _ k => k, fun _ k => k, fun _ k => k, fun _ k => k, trivial⟩, trivial⟩
  case stabD2_3 => exact fun _ _ h => h.elim
  case obl2_3 =>
    refine ⟨?o2_3_0, ?o2_3_1, ?o2_3_2, ?o2_3_3, ?o2_3_4, ?o2_3_5, ?o2_3_6, ?o2_3_7, ?o2_3_8, ?o2_3_9, trivial⟩
    all_goals intro xv wq hH hS H hU aq ha Q' hQ
    case o2_3_0 => cases rd0 ha; clear H hU hS; go_wp2_with fail; (try refine hQ _ _ ?_); refine ⟨Step.refl _ _, ?_, trivial, nofun⟩; exact (rfl : _ = _)
    case o2_3_1 | o2_3_2 => have ha := rd1 ha H (by kernel_rfl) rfl; simp only [q3, q5, q6, q7] at ha; subst ha; clear H hU hS; go_wp2_with fail; (try refine hQ _ _ ?_); refine ⟨Step.refl _ _, ?_, trivial, nofun⟩; exact (rfl : _ = _)
    case o2_3_3 => have s4 := S5.out.then hH; obtain ⟨cf, g0, g1, g2, g3, g4⟩ := KF.out _ s4; obtain ⟨c6, c4⟩ := MF.out _ s4; clear s4; have ha := rd1 ha H (by kernel_rfl) rfl; simp only [q3, q5, q6, q7] at ha; subst ha; clear H hU hS; go_wp2_with fail; (try refine hQ _ _ ?_); refine ⟨Step.refl _ _, ?_, trivial, nofun⟩; exact (rfl : _ = _)
    case o2_3_4 | o2_3_5 => have ha := rd1 ha H (by kernel_rfl) rfl; simp only [q3, q5, q6, q7] at ha; subst ha; clear H hU hS; go_wp2_with fail; (try refine hQ _ _ ?_); refine ⟨Step.refl _ _, ?_, trivial, nofun⟩; exact (rfl : _ = _)
    case o2_3_6 => have s4 := S5.out.then hH; obtain ⟨cf, g0, g1, g2, g3, g4⟩ := KF.out _ s4; obtain ⟨c6, c4⟩ := MF.out _ s4; clear s4; have ha := rd1 ha H (by kernel_rfl) rfl; simp only [q3, q5, q6, q7] at ha; subst ha; clear H hU hS; go_wp2_with fail; (try refine hQ _ _ ?_); refine ⟨Step.refl _ _, ?_, trivial, nofun⟩; exact (rfl : _ = _)
    case o2_3_7 => cases rd0 ha; clear H hU hS; go_wp2_with fail; (try refine hQ _ _ ?_); refine ⟨Step.refl _ _, ?_, trivial, nofun⟩; exact (rfl : _ = _)
    case o2_3_8 | o2_3_9 => have s4 := S5.out.then hH; obtain ⟨cf, g0, g1, g2, g3, g4⟩ := KF.out _ s4; obtain ⟨c6, c4⟩ := MF.out _ s4; clear s4; have ha := rd1 ha H (by kernel_rfl) rfl; simp only [q3, q5, q6, q7] at ha; subst ha; clear H hU hS; go_wp2_with fail; (try refine hQ _ _ ?_); refine ⟨Step.refl _ _, ?_, trivial, nofun⟩; exact (rfl : _ = _)
  intro xv w6 hH hS H hU hsz hF hN
  have h0 : xv 0 = _ := H 0 (by decide) (by kernel_rfl); have h1 : xv 1 = _ := H 1 (by decide) (by kernel_rfl); have h2 : xv 2 = _ := H 2 (by decide) (by kernel_rfl); have h3 : xv 3 = _ := H 3 (by decide) (by kernel_rfl); have h4 : xv 4 = _ := H 4 (by decide) (by kernel_rfl); have h5 : xv 5 = _ := H 5 (by decide) (by kernel_rfl); have h6 : xv 6 = _ := H 6 (by decide) (by kernel_rfl); have h7 : xv 7 = _ := H 7 (by decide) (by kernel_rfl); have h8 : xv 8 = _ := H 8 (by decide) (by kernel_rfl); have h9 : xv 9 = _ := H 9 (by decide) (by kernel_rfl)
  simp only [planRel2, q1, q2, q3, q5, q6, q7, q4, List.drop_succ_cons, List.drop_zero, h0, h1, h2, h3, h4, h5, h6, h7, h8, h9]
  clear H hF hN hS hU h0 h1 h2 h3 h4 h5 h6 h7 h8 h9
  have S6 := Lib.hid (S5.out.then hH)
  clear hH
  have P := PP.out
  have kold : ∀ b, b < w.heap.size → w6.heap[b]? = w.heap[b]? := fun b hb => S6.out.block b hb (Nat.not_le.2 hb)
  obtain ⟨w7, run, im, gr, sz⟩ := (P.blocks.same (kold _ P.blocks.lt)).delete (a := v1) (t := 69) (e := 160) (ty := 0) Try.underlying38 Try.underlying69 (u64_wf hr1)
  have IM := Lib.hid im
  have GR := Lib.hid gr
  have SZ := Lib.hid sz
  clear P kold im gr sz
  go_wp2_with fail
  have S7 : Step (fun b => w.heap.size ≤ b ∨ b = bb) w w7 := (S6.out.mono fun _ _ x => .inl x).trans (Step.of_grown GR.out) fun _ x => .inl (.inr x)
  have F7 := Lib.hid (show ∀ y, Step (fun _ => False) w7 y → y.cell? ⟨pf, 0, none⟩ = some (.pointer (some ⟨pw, 0, none⟩)) ∧ y.cell? ⟨g, 4, none⟩ = some (.int .u64 v4) ∧ y.cell? ⟨pw, 4, none⟩ = some ul from fun y hy => by
    have P := PP.out
    obtain ⟨t1, t2, t3, t4, t5, t7⟩ := P.tag
    obtain ⟨q0, _, _, _, _, q4⟩ := KF.out w (Step.refl _ _)
    obtain ⟨_, c4⟩ := MF.out w (Step.refl _ _)
    have f0 := FF.out.free.1
    have k : ∀ {a : Addr}, a.block < w.heap.size → a.block ≠ bb → y.cell? a = w.cell? a := fun {a} h1 h2 => ((hy.cell (Nat.lt_of_lt_of_le h1 S7.size) fun x => x)).trans (S7.cell h1 fun x => x.elim (Nat.not_le.2 h1) h2)
    exact ⟨(k (block_lt q0) fun e => by have e : pf = bb := e; rw [e] at f0; omega).trans q0, (k (block_lt q4) fun e => by have e : g = bb := e; rw [e] at hg; omega).trans q4, (k (block_lt c4) fun e => by have e : pw = bb := e; rw [e] at t1; omega).trans c4⟩)
  have H7 := Lib.hid S7
  clear S7 run
  obtain ⟨gl, lcap, cur, eul, hgl, hrow, hn1, hn2, hsz2, htk⟩ := PP.out.locks.some (by have := HL.out; have := hr4.1; omega)
  subst eul
  have hl4 := HL.out
  have F8 := Lib.hid (show ∀ y, Step (fun _ => False) w7 y → y.cell? ⟨gl, v4.toNat, none⟩ = some (.int .u64 (st.locks.getD v4.toNat 0)) ∧ y.frozen? ⟨gl, v4.toNat, none⟩ = false from fun y hy => by
    obtain ⟨t1, t2, t3, t4, t5, t7⟩ := PP.out.tag
    have hr := (hy.keeps ((H7.out.block gl (lt_known hrow) fun x => x.elim (Nat.not_le.2 (lt_known hrow)) fun e => by rw [e] at hgl; omega).trans hrow))
    refine ⟨row_cell hr htk ?_, free_known hr _⟩
    rw [List.getElem?_map, List.getD_eq_getElem?_getD, List.getElem?_eq_getElem (show v4.toNat < st.locks.length by omega)]; rfl)
  have R8 := Lib.hid hrow
  clear hrow htk hsz2
  refine wp_region_each 10 planRel3 (fun _ _ => False) (Step (fun _ => False) w7) (fun _ => True) [Is ?v3_4_0, Is ?v3_4_1, Is ?v3_4_2, Is ?v3_4_3, Is ?v3_4_4, Is ?v3_4_5, Is ?v3_4_6, Is ?v3_4_7, Is ?v3_4_8, Is ?v3_4_9] [] (by kernel_rfl) (by kernel_rfl) (fun _ _ h => h.elim) ((Step.refl _ _).drew) (trivial) ?stab3_4 ?stabD3_4 ?obl3_4 ?fin3_4
  case stab3_4 => exact fun w w' h => ⟨fun k => k.trans h (fun _ x => x.elim), fun _ => trivial, ⟨fun _ k => k, fun _ k => k, fun _ k => k, fun _ k => k, fun _ k => k, fun _ k => k, fun _ k => k, fun _ k => k, fun _ k => k, fun _ k => k, trivial⟩, trivial⟩
  case stabD3_4 => exact fun _ _ h => h.elim
  case obl3_4 =>
    refine ⟨?o3_4_0, ?o3_4_1, ?o3_4_2, ?o3_4_3, ?o3_4_4, ?o3_4_5, ?o3_4_6, ?o3_4_7, ?o3_4_8, ?o3_4_9, trivial⟩
    all_goals intro xv wq hH hS H hU aq ha Q' hQ
    case o3_4_0 => cases rd0 ha; clear H hU hS; go_wp2_with fail; (try refine hQ _ _ ?_); refine ⟨Step.refl _ _, ?_, trivial, nofun⟩; exact (rfl : _ = _)
    case o3_4_1 | o3_4_2 => have ha := rd1 ha H (by kernel_rfl) rfl; simp only [q3, q5, q6, q7] at ha; subst ha; clear H hU hS; go_wp2_with fail; (try refine hQ _ _ ?_); refine ⟨Step.refl _ _, ?_, trivial, nofun⟩; exact (rfl : _ = _)
    case o3_4_3 => obtain ⟨cf, g4, c4⟩ := F7.out _ hH; have ha := rd1 ha H (by kernel_rfl) rfl; simp only [q3, q5, q6, q7] at ha; subst ha; clear H hU hS; go_wp2_with fail; (try refine hQ _ _ ?_); refine ⟨Step.refl _ _, ?_, trivial, nofun⟩; exact (rfl : _ = _)
    case o3_4_4 | o3_4_5 => have ha := rd1 ha H (by kernel_rfl) rfl; simp only [q3, q5, q6, q7] at ha; subst ha; clear H hU hS; go_wp2_with fail; (try refine hQ _ _ ?_); refine ⟨Step.refl _ _, ?_, trivial, nofun⟩; exact (rfl : _ = _)
    case o3_4_6 => obtain ⟨cf, g4, c4⟩ := F7.out _ hH; have ha := rd1 ha H (by kernel_rfl) rfl; simp only [q3, q5, q6, q7] at ha; subst ha; clear H hU hS; go_wp2_with fail; (try refine hQ _ _ ?_); refine ⟨Step.refl _ _, ?_, trivial, nofun⟩; exact (rfl : _ = _)
    case o3_4_7 => cases rd0 ha; clear H hU hS; go_wp2_with fail; (try refine hQ _ _ ?_); refine ⟨Step.refl _ _, ?_, trivial, nofun⟩; exact (rfl : _ = _)
    case o3_4_8 | o3_4_9 => obtain ⟨cf, g4, c4⟩ := F7.out _ hH; have ha := rd1 ha H (by kernel_rfl) rfl; simp only [q3, q5, q6, q7] at ha; subst ha; clear H hU hS; go_wp2_with fail; (try refine hQ _ _ ?_); refine ⟨Step.refl _ _, ?_, trivial, nofun⟩; exact (rfl : _ = _)
  intro xv w8 hH hS H hU hsz hF hN
  have h0 : xv 0 = _ := H 0 (by decide) (by kernel_rfl); have h1 : xv 1 = _ := H 1 (by decide) (by kernel_rfl); have h2 : xv 2 = _ := H 2 (by decide) (by kernel_rfl); have h3 : xv 3 = _ := H 3 (by decide) (by kernel_rfl); have h4 : xv 4 = _ := H 4 (by decide) (by kernel_rfl); have h5 : xv 5 = _ := H 5 (by decide) (by kernel_rfl); have h6 : xv 6 = _ := H 6 (by decide) (by kernel_rfl); have h7 : xv 7 = _ := H 7 (by decide) (by kernel_rfl); have h8 : xv 8 = _ := H 8 (by decide) (by kernel_rfl); have h9 : xv 9 = _ := H 9 (by decide) (by kernel_rfl)
  simp only [planRel3, q1, q2, q3, q5, q6, q7, q4, List.drop_succ_cons, List.drop_zero, h0, h1, h2, h3, h4, h5, h6, h7, h8, h9]
  clear H hF hN hS hU h0 h1 h2 h3 h4 h5 h6 h7 h8 h9
  obtain ⟨x8, z8⟩ := F8.out _ hH
  have H8 := Lib.hid hH
  clear hH
  go_wp2_with fail
  go_end0
  have P := PP.out
  obtain ⟨t1, t2, t3, t4, t5, t7⟩ := P.tag
  have s7 : Step (fun b => own b ≠ 0) w w7 := H7.out.mono fun b hb x => x.elim (fun h => absurd h (Nat.not_le.2 hb)) fun e => by rw [e, t7]; decide
  have P7 : FParts w0 w7 pw own fnv tops { st with blocks := fun x => if x = v1 then none else st.blocks x } c bf bt bm bs bb (.slice (some ⟨gl, 0, none⟩) st.locks.length lcap) ui uo := by
    refine P.next 7 (Nat.le_refl c) s7 (fun _ _ => rfl) (fun b hb => Nat.lt_of_lt_of_le (P.low b hb).2 s7.size) (fun b h0 h1 h2 => H7.out.block b (P.low b h0).2 fun x => x.elim (Nat.not_le.2 (P.low b h0).2) fun e => h2 (by rw [e, t7])) (by decide) ?_ (by simp) (by simp) (by simp) ?_ (by simp) P.input
    · exact (H7.out.block _ (lt_known P.struct) fun x => x.elim (Nat.not_le.2 (lt_known P.struct)) fun e => by rw [e] at t1; omega).trans P.struct
    · rw [if_pos rfl]
      exact IM.out.congr fun y => by
        show _ = ((if y = v1 then none else st.blocks y).map madeV)
        split <;> rfl
  have P8 := P7.still H8.out
  have s9 : Step (fun b => own b ≠ 0) w8 (w8.setCell ⟨gl, v4.toNat, none⟩ (.int .u64 0)) := Step.setCell _ _ _ _ (by show own gl ≠ 0; omega)
  have hz9 : (w8.setCell ⟨gl, v4.toNat, none⟩ (.int .u64 0)).heap.size = w8.heap.size := by simp
  have r8 : w8.heap[gl]? = some (.cells cur 38 (0, 0)) := H8.out.keeps ((H7.out.block gl (lt_known R8.out) fun x => x.elim (Nat.not_le.2 (lt_known R8.out)) fun e => by rw [e] at hgl; omega).trans R8.out)
  obtain ⟨_, ⟨_, l2⟩ | ⟨g1, c1, cu1, e1, _, q1, q2, q3, q4, q5⟩⟩ := P8.locks
  · have := hr4.1
    simp only at l2
    omega
  · cases e1
    obtain rfl : cur = cu1 := by have := r8.symm.trans q1; simpa using this
    refine ⟨rfl, ⟨(s7.trans (H8.out.mono fun _ _ x => x.elim) fun b hb => .inl hb).trans s9 fun b hb => .inl hb, fun _ _ => rfl⟩, bf, bt, bm, bs, bb, .slice (some ⟨gl, 0, none⟩) st.locks.length lcap, ui, uo, ?_⟩
    refine P8.next 6 (Nat.le_refl c) s9 (fun _ _ => rfl) (fun b hb => by rw [hz9]; exact (P8.low b hb).2) (fun b h0 h1 h2 => set_other _ _ fun e => h2 (by rw [e]; exact hgl)) (by decide) ?_ (by simp) (by simp) ?_ (by simp) (by simp) P.input
    · exact (set_other _ _ fun e => by have e : pw = gl := e; rw [e] at t1; omega).trans P8.struct
    · rw [if_pos rfl]
      have hlen := P8.lens.1
      refine ⟨⟨by simp, .inr ⟨gl, lcap, _, by simp, hgl, set_known r8 _ _, by simpa using q2, q3, by simpa using q4, ?_⟩⟩, by simpa using hlen⟩
      rw [List.length_set, Array.toList_setIfInBounds, List.take_set, q5, List.map_set]
end
end Go.Proofs.Ytpmbakhnamlooaa
