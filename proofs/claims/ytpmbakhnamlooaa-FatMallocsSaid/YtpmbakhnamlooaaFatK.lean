/- Package fat: instructions that write one register. -/
import Derived.Test.YtpmbakhnamlooaaFatJ
namespace Go.Proofs.Ytpmbakhnamlooaa
set_option linter.unusedVariables false
set_option linter.unusedSimpArgs false
open Go.RowKit

/-- an instruction, plain -/
structure FIns where
  op : Int
  dst : Int
  a : Int
  b : Int
  n : Int
  size : Int
  name : ByteArray
  args : List Int
  outs : List Int
  to : Int

def InsAt (w : World) (v : Value) (i : FIns) : Prop :=
  ∃ va vo, v = .agg #[.int .i64 i.op, .int .i64 i.dst, .int .i64 i.a, .int .i64 i.b, .int .u64 i.n, .int .i64 i.size, .string i.name, va, vo, .int .i64 i.to] ∧ IntsAt .i64 w va i.args ∧ IntsAt .i64 w vo i.outs
def rg (x : List Int) (r : Int) : Int := x.getD r.toNat 0

/-- what an instruction may change: the machine, registers, new blocks -/
structure ChgG (gx : Nat) (own own' : Nat → Nat) (w w' : World) : Prop where
  step : Step (fun b => own b ≠ 0 ∨ b = gx) w w'
  same : ∀ b, b < w.heap.size → own' b = own b

section
variable {w0 w w' w1 w2 : World} {pf pw gx : Nat} {own own' own'' : Nat → Nat} {vn vp vk vs vc vr vl : Value} {regs slots : List Int} {lock key : Int} {fnv : List UInt8 → Option Value} {tops : List UInt8 → Option Int} {st : FSt} {c : Nat}

theorem Chg.g (h : Chg own own' w w') (gx : Nat) : ChgG gx own own' w w' := ⟨h.step.mono fun _ _ x => .inl x, h.same⟩
theorem ChgG.trans (h : ChgG gx own own' w w1) (g : ChgG gx own' own'' w1 w2) : ChgG gx own own'' w w2 :=
  ⟨h.step.trans g.step fun b hb => by
    by_cases hlt : b < w.heap.size
    · exact .inl (by rw [← h.same b hlt]; exact hb)
    · exact .inr (by omega), fun b hb => (g.same b (Nat.lt_of_lt_of_le hb h.step.size)).trans (h.same b hb)⟩
/-- blocks that aren't the machine's may change -/
theorem FWAt.off (h : FWAt w0 w pw own fnv tops st c) (hlow : ∀ b, own b = 0 → b < w.heap.size → w'.heap[b]? ≠ w.heap[b]? → w0.heap.size ≤ b) (s : Step (fun b => own b = 0) w w') : FWAt w0 w' pw own fnv tops st c := by
  obtain ⟨bf, bt, bm, bs, bb, vl, vi, vo, P⟩ := h
  have hz := s.size
  obtain ⟨t1, t2, t3, t4, t5, t7⟩ := P.tag
  have k : ∀ b, own b ≠ 0 → b < w.heap.size → w'.heap[b]? = w.heap[b]? := fun b hb hlt => s.block b hlt hb
  refine ⟨bf, bt, bm, bs, bb, vl, vi, vo, (k pw (by omega) (lt_obj P.struct)).trans P.struct, P.tag, P.fns.same (k _ (by omega) P.fns.lt), P.tops.same (k _ (by omega) P.tops.lt), P.mem.same (k _ (by omega) P.mem.lt), P.shadow.same (k _ (by omega) P.shadow.lt), P.blocks.same (k _ (by omega) P.blocks.lt),
    P.locks.same fun b hb hlt => k b (by omega) hlt, P.out.same fun b hb hlt => k b (by omega) hlt, P.input, fun b hb => by have := P.low b hb; omega, ?_, P.lens⟩
  exact ⟨s.os.trans P.step.os, s.tape.trans P.step.tape, s.output.trans P.step.output, Nat.le_trans P.step.size hz, fun b hb hn => by
    have hlt := Nat.lt_of_lt_of_le hb P.step.size
    have h0 : ¬ own b ≠ 0 := fun e => by have := (P.low b e).1; omega
    by_cases e : w'.heap[b]? = w.heap[b]?
    · rw [e]; exact P.step.block b hb hn
    · exact absurd (hlow b (by omega) hlt e) (by omega)⟩
theorem FWAt.setReg (h : FWAt w0 w pw own fnv tops st c) (hg : own gx = 0) (hl : w0.heap.size ≤ gx) (i : Nat) (x : Value) : FWAt w0 (w.setCell ⟨gx, i, none⟩ x) pw own fnv tops st c :=
  h.off (fun b _ _ e => by
    by_cases hb : b = gx
    · rw [hb]; exact hl
    · exact absurd (set_other _ _ hb) e) (Step.setCell _ _ _ _ hg)

/-- how an instruction ends that goes on -/
def Went (w0 w : World) (pw : Nat) (own : Nat → Nat) (fnv : List UInt8 → Option Value) (tops : List UInt8 → Option Int) (pf gx : Nat) (vn vp vk vs vc vr vl : Value) (slots : List Int) (lock key : Int) (st : FSt) (c : Nat) (regs : List Int) (e : Ending) (w' : World) : Prop :=
  e = .returned (.tuple #[]) ∧ ∃ own', ChgG gx own own' w w' ∧ FWAt w0 w' pw own' fnv tops st c ∧ FrAt w' own' pf pw gx vn vp vk vs vc vr vl regs slots lock key

theorem went_set (hW : FWAt w0 w1 pw own fnv tops st c) (hF : FrAt w1 own pf pw gx vn vp vk vs vc vr vl regs slots lock key) (s : Step (fun _ => False) w w1) (hl : w0.heap.size ≤ gx) {r : Nat} (hr : r < regs.length) (x : Int) :
    Went w0 w pw own fnv tops pf gx vn vp vk vs vc vr vl slots lock key st c (regs.set r x) (.returned (.tuple #[])) (w1.setCell ⟨gx, r, none⟩ (.int .u64 x)) :=
  ⟨rfl, own, ⟨(s.mono fun _ _ x => x.elim).set (.inl (.inr rfl)) _, fun _ _ => rfl⟩, hW.setReg hF.free.2.1 hl _ _, hF.set r x hr⟩

theorem Went.still {regs' : List Int} {st' : FSt} {c' : Nat} {e : Ending} (h : Went w0 w pw own fnv tops pf gx vn vp vk vs vc vr vl slots lock key st' c' regs' e w1) (s : Step (fun _ => False) w1 w2) : Went w0 w pw own fnv tops pf gx vn vp vk vs vc vr vl slots lock key st' c' regs' e w2 := by
  obtain ⟨h1, own', h2, h3, h4⟩ := h
  exact ⟨h1, own', h2.trans ((Chg.calm own' s).g gx), h3.still s, h4.still s⟩

/-! ### What a walk reads -/
theorem frame_facts (hF : FrAt w own pf pw gx vn vp vk vs vc vr vl regs slots lock key) : ∀ y, Step (fun _ => False) w y → y.cell? ⟨pf, 0, none⟩ = some (.pointer (some ⟨pw, 0, none⟩)) ∧ y.cell? ⟨pf, 4, none⟩ = some vs ∧ y.cell? ⟨pf, 6, none⟩ = some vr ∧ y.cell? ⟨pf, 7, none⟩ = some vl ∧ y.cell? ⟨pf, 8, none⟩ = some (.int .i64 lock) ∧ y.cell? ⟨pf, 9, none⟩ = some (.int .u64 key) := fun _ hy =>
  have k := hy.keeps hF.struct
  ⟨cell_known k rfl, cell_known k rfl, cell_known k rfl, cell_known k rfl, cell_known k rfl, cell_known k rfl⟩
theorem reg_facts (hF : FrAt w own pf pw gx vn vp vk vs vc vr vl regs slots lock key) : ∀ y, Step (fun _ => False) w y → ∀ r : Int, 0 ≤ r ∧ r < regs.length → y.cell? ⟨gx, r.toNat, none⟩ = some (.int .u64 (rg regs r)) ∧ y.frozen? ⟨gx, r.toNat, none⟩ = false := fun _ hy r hr => by
  obtain ⟨g, rcap, cur, _, hgx, hg, hn1, hn2, hsz, htk⟩ := hF.regs.some (by omega)
  obtain rfl : gx = g := hgx.symm
  have k := hy.keeps hg
  refine ⟨row_cell k htk ?_, free_known k _⟩
  unfold rg
  rw [List.getElem?_map, List.getD_eq_getElem?_getD, List.getElem?_eq_getElem (show r.toNat < regs.length by omega)]; rfl
theorem regs_slice (hF : FrAt w own pf pw gx vn vp vk vs vc vr vl regs slots lock key) (h : 0 < regs.length) : ∃ cap, vr = .slice (some ⟨gx, 0, none⟩) regs.length cap := by
  obtain ⟨g, rcap, cur, e, hgx, _⟩ := hF.regs.some h
  obtain rfl : gx = g := hgx.symm
  exact ⟨_, e⟩
theorem slot_facts (hF : FrAt w own pf pw gx vn vp vk vs vc vr vl regs slots lock key) (h : 0 < slots.length) : ∃ g cap, vl = .slice (some ⟨g, 0, none⟩) slots.length cap ∧ ∀ y, Step (fun _ => False) w y → ∀ r : Int, 0 ≤ r ∧ r < slots.length → y.cell? ⟨g, r.toNat, none⟩ = some (.int .i64 (rg slots r)) := by
  obtain ⟨g, cap, cur, e, hgx, hg, hn1, hn2, hsz, htk⟩ := hF.slots.some h
  refine ⟨g, cap, e, fun y hy r hr => ?_⟩
  have k := hy.keeps hg
  refine row_cell k htk ?_
  unfold rg
  rw [List.getElem?_map, List.getD_eq_getElem?_getD, List.getElem?_eq_getElem (show r.toNat < slots.length by omega)]; rfl
theorem box_facts {tb T : Nat} {v0 v1 v2 v3 v4 v5 v6 v7 v8 v9 : Value} (h : w.heap[tb]? = some (.cells #[v0, v1, v2, v3, v4, v5, v6, v7, v8, v9] T (0, 0))) : ∀ y, Step (fun _ => False) w y → y.cell? ⟨tb, 0, none⟩ = some v0 ∧ y.cell? ⟨tb, 1, none⟩ = some v1 ∧ y.cell? ⟨tb, 2, none⟩ = some v2 ∧ y.cell? ⟨tb, 3, none⟩ = some v3 ∧ y.cell? ⟨tb, 4, none⟩ = some v4 ∧ y.cell? ⟨tb, 5, none⟩ = some v5 ∧ y.cell? ⟨tb, 6, none⟩ = some v6 ∧ y.cell? ⟨tb, 7, none⟩ = some v7 ∧ y.cell? ⟨tb, 8, none⟩ = some v8 ∧ y.cell? ⟨tb, 9, none⟩ = some v9 := fun _ hy =>
  have k := hy.keeps h
  ⟨cell_known k rfl, cell_known k rfl, cell_known k rfl, cell_known k rfl, cell_known k rfl, cell_known k rfl, cell_known k rfl, cell_known k rfl, cell_known k rfl, cell_known k rfl⟩

def ok1 (regs : List Int) (r : Int) : Prop := 0 ≤ r ∧ r < regs.length
/-- all numbers of registers are of 64 bits -/
def regs64 (regs : List Int) : Prop := ∀ x ∈ regs, is64 x
theorem rg_64 {x : List Int} (h : regs64 x) (r : Int) : is64 (rg x r) := by
  unfold rg
  rw [List.getD_eq_getElem?_getD]
  cases e : x[r.toNat]? with
  | none => exact ⟨by simp, by simp⟩
  | some y => exact h y (List.mem_of_getElem? e)

def planDo2 : Plan where
  T := [[], [], [1], [], [], [4], [3, 4, 5], [3, 4, 5, 6], [0, 1, 2, 3, 4, 5, 6, 7], [0, 1, 2, 3, 4, 5, 6, 7, 8]]
  rd := [[], [], [(1, some 25)], [], [], [(4, some 28)], [(3, some 27), (5, some 29)], [(6, some 30)]]
  all := [(7, some 31), (6, some 30), (5, some 29), (4, some 28), (3, some 27), (2, some 26), (1, some 25), (0, some 24)]
  calm := [true, true, true, true, true, true, true, true]
  hard := []
  fresh := [false, false, false, false, false, false, false, false]

def planDo3 : Plan where
  T := [[], [], [1], [], [3], [3, 4], [], [], [7], [6, 7, 8], [6, 7, 8, 9], [], [], [12], [11, 12, 13], [11, 12, 13, 14], [3, 4, 5, 6, 7, 8, 9, 10, 11, 12, 13, 14, 15], [3, 4, 5, 6, 7, 8, 9, 10, 11, 12, 13, 14, 15, 16], [3, 4, 5, 6, 7, 8, 9, 10, 11, 12, 13, 14, 15, 16, 17], [3, 4, 5, 6, 7, 8, 9, 10, 11, 12, 13, 14, 15, 16, 17], [0, 1, 2, 3, 4, 5, 6, 7, 8, 9, 10, 11, 12, 13, 14, 15, 16, 17, 18], [0, 1, 2, 3, 4, 5, 6, 7, 8, 9, 10, 11, 12, 13, 14, 15, 16, 17, 18, 20]]
  rd := [[], [], [(1, some 37)], [], [(3, some 39)], [(4, some 40)], [], [], [(7, some 43)], [(6, some 42), (8, some 44)], [(9, some 45)], [], [], [(12, some 48)], [(11, some 47), (13, some 49)], [(14, some 50)], [(5, some 41), (10, some 46), (15, some 51)], [(16, some 52)], [(17, some 35)], [(17, some 35)], [(0, some 36), (2, some 38)], [(18, some 53), (20, some 55)]]
  all := [(21, none), (20, some 55), (19, some 54), (18, some 53), (17, some 35), (16, some 52), (15, some 51), (14, some 50), (13, some 49), (12, some 48), (11, some 47), (10, some 46), (9, some 45), (8, some 44), (7, some 43), (6, some 42), (5, some 41), (4, some 40), (3, some 39), (2, some 38), (1, some 37), (0, some 36)]
  calm := [true, true, true, true, true, true, true, true, true, true, true, true, true, true, true, true, true, true, true, true, true, false]
  hard := [true, true, true, true, true, true, true, true, true, true, true, true, true, true, true, true, true, true, true, true, true, true]
  fresh := [false, false, false, false, false, false, false, false, false, false, false, false, false, false, false, false, false, false, false, false, false, false]

def planDo4 : Plan where
  T := [[], [], [1], [], [], [4], [3, 4, 5], [3, 4, 5, 6], [], [8], [8, 9], [3, 4, 5, 6, 7, 8, 9, 10], [3, 4, 5, 6, 7, 8, 9, 10, 11], [3, 4, 5, 6, 7, 8, 9, 10, 11, 12], [3, 4, 5, 6, 7, 8, 9, 10, 11, 12], [0, 1, 2, 3, 4, 5, 6, 7, 8, 9, 10, 11, 12, 13], [0, 1, 2, 3, 4, 5, 6, 7, 8, 9, 10, 11, 12, 13, 15]]
  rd := [[], [], [(1, some 60)], [], [], [(4, some 63)], [(3, some 62), (5, some 64)], [(6, some 65)], [], [(8, some 67)], [(9, some 68)], [(7, some 66), (10, some 69)], [(11, some 70)], [(12, some 58)], [(12, some 58)], [(0, some 59), (2, some 61)], [(13, some 71), (15, some 73)]]
  all := [(16, none), (15, some 73), (14, some 72), (13, some 71), (12, some 58), (11, some 70), (10, some 69), (9, some 68), (8, some 67), (7, some 66), (6, some 65), (5, some 64), (4, some 63), (3, some 62), (2, some 61), (1, some 60), (0, some 59)]
  calm := [true, true, true, true, true, true, true, true, true, true, true, true, true, true, true, true, false]
  hard := [true, true, true, true, true, true, true, true, true, true, true, true, true, true, true, true, true]
  fresh := [false, false, false, false, false, false, false, false, false, false, false, false, false, false, false, false, false]

def planDo30 : Plan where
  T := [[], [], [1], [], [3], [3, 4], [3, 4, 5], [3, 4, 5, 6], [3, 4, 5, 6, 7], [3, 4, 5, 6, 7, 8], [], [10], [3, 4, 5, 6, 7, 8, 9, 10, 11], [0, 1, 2, 3, 4, 5, 6, 7, 8, 9, 10, 11, 12], [0, 1, 2, 3, 4, 5, 6, 7, 8, 9, 10, 11, 12, 13]]
  rd := [[], [], [(1, some 153)], [], [(3, some 155)], [(4, some 156)], [(5, some 157)], [(6, some 158)], [(7, some 159)], [(8, some 160)], [], [(10, some 162)], [(9, some 161), (11, some 163)]]
  all := [(12, some 164), (11, some 163), (10, some 162), (9, some 161), (8, some 160), (7, some 159), (6, some 158), (5, some 157), (4, some 156), (3, some 155), (2, some 154), (1, some 153), (0, some 152)]
  calm := [true, true, true, true, true, true, true, true, true, true, true, true, true]
  hard := []
  fresh := [false, false, false, false, false, false, false, false, false, false, false, false, false]

def planDo31 : Plan where
  T := [[], [], [1], [], [3], [3, 4], [3, 4, 5], [], [7], [3, 4, 5, 6, 7, 8], [3, 4, 5, 6, 7, 8, 9], [3, 4, 5, 6, 7, 8, 9, 10], [0, 1, 2, 3, 4, 5, 6, 7, 8, 9, 10, 11], [0, 1, 2, 3, 4, 5, 6, 7, 8, 9, 10, 11, 12]]
  rd := [[], [], [(1, some 169)], [], [(3, some 171)], [(4, some 172)], [(5, some 173)], [], [(7, some 175)], [(6, some 174), (8, some 176)], [(9, some 177)], [(10, some 178)]]
  all := [(11, some 179), (10, some 178), (9, some 177), (8, some 176), (7, some 175), (6, some 174), (5, some 173), (4, some 172), (3, some 171), (2, some 170), (1, some 169), (0, some 168)]
  calm := [true, true, true, true, true, true, true, true, true, true, true, true]
  hard := []
  fresh := [false, false, false, false, false, false, false, false, false, false, false, false]

def planDo32 : Plan where
  T := [[], [], [1], [], [3], [3, 4], [3, 4, 5], [3, 4, 5, 6], [0, 1, 2, 3, 4, 5, 6, 7], [0, 1, 2, 3, 4, 5, 6, 7, 8]]
  rd := [[], [], [(1, some 184)], [], [(3, some 186)], [(4, some 187)], [(5, some 188)], [(6, some 189)]]
  all := [(7, some 190), (6, some 189), (5, some 188), (4, some 187), (3, some 186), (2, some 185), (1, some 184), (0, some 183)]
  calm := [true, true, true, true, true, true, true, true]
  hard := []
  fresh := [false, false, false, false, false, false, false, false]

def planDo33 : Plan where
  T := [[], [], [1], [], [3], [3, 4], [3, 4, 5], [0, 1, 2, 3, 4, 5, 6], [0, 1, 2, 3, 4, 5, 6, 7]]
  rd := [[], [], [(1, some 195)], [], [(3, some 197)], [(4, some 198)], [(5, some 199)]]
  all := [(6, some 200), (5, some 199), (4, some 198), (3, some 197), (2, some 196), (1, some 195), (0, some 194)]
  calm := [true, true, true, true, true, true, true]
  hard := []
  fresh := [false, false, false, false, false, false, false]

set_option maxHeartbeats 4000000 in
set_option maxRecDepth 100000 in
theorem do_1 (hW : FWAt w0 w pw own fnv tops st c) (hF : FrAt w own pf pw gx vn vp vk vs vc vr vl regs slots lock key) (hl : w0.heap.size ≤ gx) {v : Value} {i : FIns} (hi : InsAt w0 v i) (ho : i.op = 1) (ok_dst : ok1 regs i.dst) :
    Calls Try.prog 61 #[.pointer (some ⟨pf, 0, none⟩), v] w (Went w0 w pw own fnv tops pf gx vn vp vk vs vc vr vl slots lock key st c (regs.set i.dst.toNat (i.n))) := by
  obtain ⟨va, vo, rfl, iargs, iouts⟩ := hi
  obtain ⟨op, dst, a, b, n, size, name, args, outs, to⟩ := i
  simp only at *
  subst ho
  obtain ⟨rcap, rfl⟩ := regs_slice hF (by unfold ok1 at ok_dst; omega)
  have HW := Lib.hid hW
  have HF := Lib.hid hF
  have HL := Lib.hid hl
  have FF := Lib.hid (frame_facts hF)
  have FR := Lib.hid (reg_facts hF)
  unfold ok1 at ok_dst
  clear hW hF hl
  obtain ⟨f0, f4, f6, f7, f8, f9⟩ := FF.out _ (Step.refl _ _)
  have hpf := block_lt f6
  simp only at hpf
  go_enter Try.func61, Try.ntmps61
  go_upto_region 5 with fail
  have kb := heap_alloc_new w (.cells #[.int .i64 1, .int .i64 dst, .int .i64 a, .int .i64 b, .int .u64 n, .int .i64 size, .string name, va, vo, .int .i64 to] 47 (0, 0))
  have S1 := Lib.hid (Step.alloc (fun _ => False) w (.cells #[.int .i64 1, .int .i64 dst, .int .i64 a, .int .i64 b, .int .u64 n, .int .i64 size, .string name, va, vo, .int .i64 to] 47 (0, 0)))
  clear f0 f4 f6 f7 f8 f9 hpf
  have HT := Lib.hid (show gx < w.heap.size ∧ own w.heap.size = 0 from ⟨HF.out.free.2.2.2, HW.out.fresh0⟩)
  generalize w.alloc (.cells #[.int .i64 1, .int .i64 dst, .int .i64 a, .int .i64 b, .int .u64 n, .int .i64 size, .string name, va, vo, .int .i64 to] 47 (0, 0)) = w1 at kb S1 ⊢
  generalize w.heap.size = tb at kb HT ⊢
  have KB := Lib.hid kb
  have FB := Lib.hid (box_facts kb)
  clear kb
  have hH := Step.refl (fun _ => False) w1
  obtain ⟨f0, f4, f6, f7, f8, f9⟩ := FF.out _ (S1.out.then hH)
  obtain ⟨c_dst, z_dst⟩ := FR.out _ (S1.out.then hH) dst ok_dst
  obtain ⟨b0, b1, b2, b3, b4, b5, b6, b7, b8, b9⟩ := FB.out _ hH
  have HH := Lib.hid hH
  clear hH
  go_wp2_with fail
  go_end0
  exact went_set (HW.out.still (S1.out.then HH.out)) (HF.out.still (S1.out.then HH.out)) (S1.out.then HH.out) HL.out (by omega) _
set_option maxHeartbeats 4000000 in
set_option maxRecDepth 100000 in
theorem do_2 (hW : FWAt w0 w pw own fnv tops st c) (hF : FrAt w own pf pw gx vn vp vk vs vc vr vl regs slots lock key) (hl : w0.heap.size ≤ gx) {v : Value} {i : FIns} (hi : InsAt w0 v i) (ho : i.op = 2) (ok_dst : ok1 regs i.dst) (ok_a : ok1 regs i.a) :
    Calls Try.prog 61 #[.pointer (some ⟨pf, 0, none⟩), v] w (Went w0 w pw own fnv tops pf gx vn vp vk vs vc vr vl slots lock key st c (regs.set i.dst.toNat (rg regs i.a))) := by
  obtain ⟨va, vo, rfl, iargs, iouts⟩ := hi
  obtain ⟨op, dst, a, b, n, size, name, args, outs, to⟩ := i
  simp only at *
  subst ho
  obtain ⟨rcap, rfl⟩ := regs_slice hF (by unfold ok1 at ok_dst; omega)
  have HW := Lib.hid hW
  have HF := Lib.hid hF
  have HL := Lib.hid hl
  have FF := Lib.hid (frame_facts hF)
  have FR := Lib.hid (reg_facts hF)
  unfold ok1 at ok_dst ok_a
  clear hW hF hl
  obtain ⟨f0, f4, f6, f7, f8, f9⟩ := FF.out _ (Step.refl _ _)
  have hpf := block_lt f6
  simp only at hpf
  go_enter Try.func61, Try.ntmps61
  go_upto_region 7 with fail
  have kb := heap_alloc_new w (.cells #[.int .i64 2, .int .i64 dst, .int .i64 a, .int .i64 b, .int .u64 n, .int .i64 size, .string name, va, vo, .int .i64 to] 47 (0, 0))
  have S1 := Lib.hid (Step.alloc (fun _ => False) w (.cells #[.int .i64 2, .int .i64 dst, .int .i64 a, .int .i64 b, .int .u64 n, .int .i64 size, .string name, va, vo, .int .i64 to] 47 (0, 0)))
  clear f0 f4 f6 f7 f8 f9 hpf
  have HT := Lib.hid (show gx < w.heap.size ∧ own w.heap.size = 0 from ⟨HF.out.free.2.2.2, HW.out.fresh0⟩)
  generalize w.alloc (.cells #[.int .i64 2, .int .i64 dst, .int .i64 a, .int .i64 b, .int .u64 n, .int .i64 size, .string name, va, vo, .int .i64 to] 47 (0, 0)) = w1 at kb S1 ⊢
  generalize w.heap.size = tb at kb HT ⊢
  have KB := Lib.hid kb
  have FB := Lib.hid (box_facts kb)
  clear kb
  refine wp_region_each 8 planDo2 (fun _ _ => False) (Step (fun _ => False) w1) (fun _ => True) [Is ?v7_1_0, Is ?v7_1_1, Is ?v7_1_2, Is ?v7_1_3, Is ?v7_1_4, Is ?v7_1_5, Is ?v7_1_6, Is ?v7_1_7] [] (by kernel_rfl) (by kernel_rfl) (fun _ _ h => h.elim) ((Step.refl _ _).drew) (trivial) ?stab7_1 ?stabD7_1 ?obl7_1 ?fin7_1
  case stab7_1 => exact fun w w' h => ⟨fun k => k.trans h (fun _ x => x.elim), fun _ => trivial, ⟨fun _ k => k, fun _ k => k, fun _ k => k, fun _ k => k, fun _ k => k, fun _ k => k, fun _ k => k, fun _ k => k, trivial⟩, trivial⟩
  case stabD7_1 => exact fun _ _ h => h.elim
  case obl7_1 =>
    refine ⟨?o7_1_0, ?o7_1_1, ?o7_1_2, ?o7_1_3, ?o7_1_4, ?o7_1_5, ?o7_1_6, ?o7_1_7, trivial⟩
    all_goals intro xv wq hH hS H hU aq ha Q' hQ
    case o7_1_0 | o7_1_1 => cases rd0 ha; clear H hU hS; go_wp2_with fail; (try refine hQ _ _ ?_); refine ⟨Step.refl _ _, ?_, trivial, nofun⟩; exact (rfl : _ = _)
    case o7_1_2 => obtain ⟨f0, f4, f6, f7, f8, f9⟩ := FF.out _ (S1.out.then hH); obtain ⟨c_dst, z_dst⟩ := FR.out _ (S1.out.then hH) dst ok_dst; obtain ⟨c_a, z_a⟩ := FR.out _ (S1.out.then hH) a ok_a; obtain ⟨b0, b1, b2, b3, b4, b5, b6, b7, b8, b9⟩ := FB.out _ hH; have ha := rd1 ha H (by kernel_rfl) rfl; simp only [q3, q5, q6, q7] at ha; subst ha; clear H hU hS; go_wp2_with fail; (try refine hQ _ _ ?_); refine ⟨Step.refl _ _, ?_, trivial, nofun⟩; exact (rfl : _ = _)
    case o7_1_3 | o7_1_4 => cases rd0 ha; clear H hU hS; go_wp2_with fail; (try refine hQ _ _ ?_); refine ⟨Step.refl _ _, ?_, trivial, nofun⟩; exact (rfl : _ = _)
    case o7_1_5 => obtain ⟨f0, f4, f6, f7, f8, f9⟩ := FF.out _ (S1.out.then hH); obtain ⟨c_dst, z_dst⟩ := FR.out _ (S1.out.then hH) dst ok_dst; obtain ⟨c_a, z_a⟩ := FR.out _ (S1.out.then hH) a ok_a; obtain ⟨b0, b1, b2, b3, b4, b5, b6, b7, b8, b9⟩ := FB.out _ hH; have ha := rd1 ha H (by kernel_rfl) rfl; simp only [q3, q5, q6, q7] at ha; subst ha; clear H hU hS; go_wp2_with fail; (try refine hQ _ _ ?_); refine ⟨Step.refl _ _, ?_, trivial, nofun⟩; exact (rfl : _ = _)
    case o7_1_6 => obtain ⟨f0, f4, f6, f7, f8, f9⟩ := FF.out _ (S1.out.then hH); obtain ⟨c_dst, z_dst⟩ := FR.out _ (S1.out.then hH) dst ok_dst; obtain ⟨c_a, z_a⟩ := FR.out _ (S1.out.then hH) a ok_a; obtain ⟨b0, b1, b2, b3, b4, b5, b6, b7, b8, b9⟩ := FB.out _ hH; have ha := rd2 ha H (by kernel_rfl) (by kernel_rfl) rfl rfl; simp only [q3, q5, q6, q7] at ha; subst ha; clear H hU hS; go_wp2_with fail; (try refine hQ _ _ ?_); refine ⟨Step.refl _ _, ?_, trivial, nofun⟩; exact (rfl : _ = _)
    case o7_1_7 => obtain ⟨f0, f4, f6, f7, f8, f9⟩ := FF.out _ (S1.out.then hH); obtain ⟨c_dst, z_dst⟩ := FR.out _ (S1.out.then hH) dst ok_dst; obtain ⟨c_a, z_a⟩ := FR.out _ (S1.out.then hH) a ok_a; obtain ⟨b0, b1, b2, b3, b4, b5, b6, b7, b8, b9⟩ := FB.out _ hH; have ha := rd1 ha H (by kernel_rfl) rfl; simp only [q3, q5, q6, q7] at ha; subst ha; clear H hU hS; go_wp2_with fail; (try refine hQ _ _ ?_); refine ⟨Step.refl _ _, ?_, trivial, nofun⟩; exact (rfl : _ = _)
  intro xv w2 hH hS H hU hsz hF hN
  have h0 : xv 0 = _ := H 0 (by decide) (by kernel_rfl); have h1 : xv 1 = _ := H 1 (by decide) (by kernel_rfl); have h2 : xv 2 = _ := H 2 (by decide) (by kernel_rfl); have h3 : xv 3 = _ := H 3 (by decide) (by kernel_rfl); have h4 : xv 4 = _ := H 4 (by decide) (by kernel_rfl); have h5 : xv 5 = _ := H 5 (by decide) (by kernel_rfl); have h6 : xv 6 = _ := H 6 (by decide) (by kernel_rfl); have h7 : xv 7 = _ := H 7 (by decide) (by kernel_rfl)
  simp only [planDo2, q1, q2, q3, q5, q6, q7, q4, List.drop_succ_cons, List.drop_zero, h0, h1, h2, h3, h4, h5, h6, h7]
  clear H hF hN hS hU h0 h1 h2 h3 h4 h5 h6 h7
  obtain ⟨f0, f4, f6, f7, f8, f9⟩ := FF.out _ (S1.out.then hH)
  obtain ⟨c_dst, z_dst⟩ := FR.out _ (S1.out.then hH) dst ok_dst
  obtain ⟨c_a, z_a⟩ := FR.out _ (S1.out.then hH) a ok_a
  obtain ⟨b0, b1, b2, b3, b4, b5, b6, b7, b8, b9⟩ := FB.out _ hH
  have HH := Lib.hid hH
  clear hH
  go_wp2_with fail
  go_end0
  exact went_set (HW.out.still (S1.out.then HH.out)) (HF.out.still (S1.out.then HH.out)) (S1.out.then HH.out) HL.out (by omega) _
set_option maxHeartbeats 4000000 in
set_option maxRecDepth 100000 in
theorem do_3 (hW : FWAt w0 w pw own fnv tops st c) (hF : FrAt w own pf pw gx vn vp vk vs vc vr vl regs slots lock key) (hl : w0.heap.size ≤ gx) {v : Value} {i : FIns} (hi : InsAt w0 v i) (ho : i.op = 3) (ok_dst : ok1 regs i.dst) (ok_a : ok1 regs i.a) (ok_b : ok1 regs i.b) (h64 : regs64 regs) (hn : 1 ≤ i.n ∧ i.n ≤ 27) :
    Calls Try.prog 61 #[.pointer (some ⟨pf, 0, none⟩), v] w (Went w0 w pw own fnv tops pf gx vn vp vk vs vc vr vl slots lock key st c (regs.set i.dst.toNat ((doF i.n (rg regs i.a) (rg regs i.b)).1))) := by
  obtain ⟨va, vo, rfl, iargs, iouts⟩ := hi
  obtain ⟨op, dst, a, b, n, size, name, args, outs, to⟩ := i
  simp only at *
  subst ho
  obtain ⟨rcap, rfl⟩ := regs_slice hF (by unfold ok1 at ok_dst; omega)
  have HW := Lib.hid hW
  have HF := Lib.hid hF
  have HL := Lib.hid hl
  have FF := Lib.hid (frame_facts hF)
  have FR := Lib.hid (reg_facts hF)
  have ra := rg_64 h64 a
  have rb := rg_64 h64 b
  unfold is64 at ra rb
  have DO := Lib.hid (fun op => do_any op (rg regs a) (rg regs b) ra.1 ra.2 rb.1 rb.2)
  clear ra rb h64
  unfold ok1 at ok_dst ok_a ok_b
  clear hW hF hl
  obtain ⟨f0, f4, f6, f7, f8, f9⟩ := FF.out _ (Step.refl _ _)
  have hpf := block_lt f6
  simp only at hpf
  go_enter Try.func61, Try.ntmps61
  go_upto_region 9 with fail
  have kb := heap_alloc_new w (.cells #[.int .i64 3, .int .i64 dst, .int .i64 a, .int .i64 b, .int .u64 n, .int .i64 size, .string name, va, vo, .int .i64 to] 47 (0, 0))
  have S1 := Lib.hid (Step.alloc (fun _ => False) w (.cells #[.int .i64 3, .int .i64 dst, .int .i64 a, .int .i64 b, .int .u64 n, .int .i64 size, .string name, va, vo, .int .i64 to] 47 (0, 0)))
  clear f0 f4 f6 f7 f8 f9 hpf
  have HT := Lib.hid (show gx < w.heap.size ∧ own w.heap.size = 0 from ⟨HF.out.free.2.2.2, HW.out.fresh0⟩)
  generalize w.alloc (.cells #[.int .i64 3, .int .i64 dst, .int .i64 a, .int .i64 b, .int .u64 n, .int .i64 size, .string name, va, vo, .int .i64 to] 47 (0, 0)) = w1 at kb S1 ⊢
  generalize w.heap.size = tb at kb HT ⊢
  have KB := Lib.hid kb
  have FB := Lib.hid (box_facts kb)
  clear kb
  refine wp_region_each 22 planDo3 (fun a b => Step (fun x => x = gx) a b) (Step (fun x => x = gx) w1) (fun x => Step (fun _ => False) w1 x) [Is ?v9_2_0, Is ?v9_2_1, Is ?v9_2_2, Is ?v9_2_3, Is ?v9_2_4, Is ?v9_2_5, Is ?v9_2_6, Is ?v9_2_7, Is ?v9_2_8, Is ?v9_2_9, Is ?v9_2_10, Is ?v9_2_11, Is ?v9_2_12, Is ?v9_2_13, Is ?v9_2_14, Is ?v9_2_15, Is ?v9_2_16, Is ?v9_2_17, Is ?v9_2_18, Is ?v9_2_19, Is ?v9_2_20, fun _ _ => True] [fun _ _ => True, fun _ _ => True, fun _ _ => True, fun _ _ => True, fun _ _ => True, fun _ _ => True, fun _ _ => True, fun _ _ => True, fun _ _ => True, fun _ _ => True, fun _ _ => True, fun _ _ => True, fun _ _ => True, fun _ _ => True, fun _ _ => True, fun _ _ => True, fun _ _ => True, fun _ _ => True, fun _ _ => True, fun _ _ => True, fun _ _ => True, fun _ x => Went w0 w pw own fnv tops pf gx vn vp vk vs vc (.slice (some ⟨gx, 0, none⟩) regs.length rcap) vl slots lock key st c (regs.set dst.toNat ((doF n (rg regs a) (rg regs b)).1)) (.returned (.tuple #[])) x] (by kernel_rfl) (by kernel_rfl) (fun _ _ h => h.size) ((Step.refl _ _).drew) ((Step.refl _ _).drew) ?stab9_2 ?stabD9_2 ?obl9_2 ?fin9_2
  case stab9_2 => exact fun w w' h => ⟨fun k => k.trans h (fun _ x => x.elim), fun k => k.trans h (fun _ x => x.elim), ⟨fun _ k => k, fun _ k => k, fun _ k => k, fun _ k => k, fun _ k => k, fun _ k => k, fun _ k => k, fun _ k => k, fun _ k => k, fun _ k => k, fun _ k => k, fun _ k => k, fun _ k => k, fun _ k => k, fun _ k => k, fun _ k => k, fun _ k => k, fun _ k => k, fun _ k => k, fun _ k => k, fun _ k => k, fun _ k => k, trivial⟩, ⟨fun _ k => k, fun _ k => k, fun _ k => k, fun _ k => k, fun _ k => k, fun _ k => k, fun _ k => k, fun _ k => k, fun _ k => k, fun _ k => k, fun _ k => k, fun _ k => k, fun _ k => k, fun _ k => k, fun _ k => k, fun _ k => k, fun _ k => k, fun _ k => k, fun _ k => k, fun _ k => k, fun _ k => k, fun _ k => k.still h, trivial⟩⟩
  case stabD9_2 => exact fun w w' h => ⟨fun k => k.trans h (fun _ x => .inl x), fun _ _ k => k, fun _ _ k => k, fun _ _ k => k, fun _ _ k => k, fun _ _ k => k, fun _ _ k => k, fun _ _ k => k, fun _ _ k => k, fun _ _ k => k, fun _ _ k => k, fun _ _ k => k, fun _ _ k => k, fun _ _ k => k, fun _ _ k => k, fun _ _ k => k, fun _ _ k => k, fun _ _ k => k, fun _ _ k => k, fun _ _ k => k, fun _ _ k => k, fun _ _ k => k, fun _ _ k => k, trivial⟩
  case obl9_2 =>
    refine ⟨?o9_2_0, ?o9_2_1, ?o9_2_2, ?o9_2_3, ?o9_2_4, ?o9_2_5, ?o9_2_6, ?o9_2_7, ?o9_2_8, ?o9_2_9, ?o9_2_10, ?o9_2_11, ?o9_2_12, ?o9_2_13, ?o9_2_14, ?o9_2_15, ?o9_2_16, ?o9_2_17, ?o9_2_18, ?o9_2_19, ?o9_2_20, ?o9_2_21, trivial⟩
    all_goals intro xv wq hH hS H hU aq ha Q' hQ
    case o9_2_0 | o9_2_1 => cases rd0 ha; clear H hU hS; go_wp2_with fail; (try refine hQ _ _ ?_); refine ⟨Step.refl _ _, ?_, trivial, nofun⟩; exact (rfl : _ = _)
    case o9_2_2 => (try (have hH := hS (by decide); obtain ⟨f0, f4, f6, f7, f8, f9⟩ := FF.out _ (S1.out.then hH); obtain ⟨c_dst, z_dst⟩ := FR.out _ (S1.out.then hH) dst ok_dst; obtain ⟨c_a, z_a⟩ := FR.out _ (S1.out.then hH) a ok_a; obtain ⟨c_b, z_b⟩ := FR.out _ (S1.out.then hH) b ok_b; obtain ⟨b0, b1, b2, b3, b4, b5, b6, b7, b8, b9⟩ := FB.out _ hH)); have ha := rd1 ha H (by kernel_rfl) rfl; simp only [q3, q5, q6, q7] at ha; subst ha; clear H hU hS; go_wp2_with fail; (try refine hQ _ _ ?_); refine ⟨Step.refl _ _, ?_, trivial, nofun⟩; exact (rfl : _ = _)
    case o9_2_3 => cases rd0 ha; clear H hU hS; go_wp2_with fail; (try refine hQ _ _ ?_); refine ⟨Step.refl _ _, ?_, trivial, nofun⟩; exact (rfl : _ = _)
    case o9_2_4 | o9_2_5 => (try (have hH := hS (by decide); obtain ⟨f0, f4, f6, f7, f8, f9⟩ := FF.out _ (S1.out.then hH); obtain ⟨c_dst, z_dst⟩ := FR.out _ (S1.out.then hH) dst ok_dst; obtain ⟨c_a, z_a⟩ := FR.out _ (S1.out.then hH) a ok_a; obtain ⟨c_b, z_b⟩ := FR.out _ (S1.out.then hH) b ok_b; obtain ⟨b0, b1, b2, b3, b4, b5, b6, b7, b8, b9⟩ := FB.out _ hH)); have ha := rd1 ha H (by kernel_rfl) rfl; simp only [q3, q5, q6, q7] at ha; subst ha; clear H hU hS; go_wp2_with fail; (try refine hQ _ _ ?_); refine ⟨Step.refl _ _, ?_, trivial, nofun⟩; exact (rfl : _ = _)
    case o9_2_6 | o9_2_7 => cases rd0 ha; clear H hU hS; go_wp2_with fail; (try refine hQ _ _ ?_); refine ⟨Step.refl _ _, ?_, trivial, nofun⟩; exact (rfl : _ = _)
    case o9_2_8 => (try (have hH := hS (by decide); obtain ⟨f0, f4, f6, f7, f8, f9⟩ := FF.out _ (S1.out.then hH); obtain ⟨c_dst, z_dst⟩ := FR.out _ (S1.out.then hH) dst ok_dst; obtain ⟨c_a, z_a⟩ := FR.out _ (S1.out.then hH) a ok_a; obtain ⟨c_b, z_b⟩ := FR.out _ (S1.out.then hH) b ok_b; obtain ⟨b0, b1, b2, b3, b4, b5, b6, b7, b8, b9⟩ := FB.out _ hH)); have ha := rd1 ha H (by kernel_rfl) rfl; simp only [q3, q5, q6, q7] at ha; subst ha; clear H hU hS; go_wp2_with fail; (try refine hQ _ _ ?_); refine ⟨Step.refl _ _, ?_, trivial, nofun⟩; exact (rfl : _ = _)
    case o9_2_9 => (try (have hH := hS (by decide); obtain ⟨f0, f4, f6, f7, f8, f9⟩ := FF.out _ (S1.out.then hH); obtain ⟨c_dst, z_dst⟩ := FR.out _ (S1.out.then hH) dst ok_dst; obtain ⟨c_a, z_a⟩ := FR.out _ (S1.out.then hH) a ok_a; obtain ⟨c_b, z_b⟩ := FR.out _ (S1.out.then hH) b ok_b; obtain ⟨b0, b1, b2, b3, b4, b5, b6, b7, b8, b9⟩ := FB.out _ hH)); have ha := rd2 ha H (by kernel_rfl) (by kernel_rfl) rfl rfl; simp only [q3, q5, q6, q7] at ha; subst ha; clear H hU hS; go_wp2_with fail; (try refine hQ _ _ ?_); refine ⟨Step.refl _ _, ?_, trivial, nofun⟩; exact (rfl : _ = _)
    case o9_2_10 => (try (have hH := hS (by decide); obtain ⟨f0, f4, f6, f7, f8, f9⟩ := FF.out _ (S1.out.then hH); obtain ⟨c_dst, z_dst⟩ := FR.out _ (S1.out.then hH) dst ok_dst; obtain ⟨c_a, z_a⟩ := FR.out _ (S1.out.then hH) a ok_a; obtain ⟨c_b, z_b⟩ := FR.out _ (S1.out.then hH) b ok_b; obtain ⟨b0, b1, b2, b3, b4, b5, b6, b7, b8, b9⟩ := FB.out _ hH)); have ha := rd1 ha H (by kernel_rfl) rfl; simp only [q3, q5, q6, q7] at ha; subst ha; clear H hU hS; go_wp2_with fail; (try refine hQ _ _ ?_); refine ⟨Step.refl _ _, ?_, trivial, nofun⟩; exact (rfl : _ = _)
    case o9_2_11 | o9_2_12 => cases rd0 ha; clear H hU hS; go_wp2_with fail; (try refine hQ _ _ ?_); refine ⟨Step.refl _ _, ?_, trivial, nofun⟩; exact (rfl : _ = _)
    case o9_2_13 => (try (have hH := hS (by decide); obtain ⟨f0, f4, f6, f7, f8, f9⟩ := FF.out _ (S1.out.then hH); obtain ⟨c_dst, z_dst⟩ := FR.out _ (S1.out.then hH) dst ok_dst; obtain ⟨c_a, z_a⟩ := FR.out _ (S1.out.then hH) a ok_a; obtain ⟨c_b, z_b⟩ := FR.out _ (S1.out.then hH) b ok_b; obtain ⟨b0, b1, b2, b3, b4, b5, b6, b7, b8, b9⟩ := FB.out _ hH)); have ha := rd1 ha H (by kernel_rfl) rfl; simp only [q3, q5, q6, q7] at ha; subst ha; clear H hU hS; go_wp2_with fail; (try refine hQ _ _ ?_); refine ⟨Step.refl _ _, ?_, trivial, nofun⟩; exact (rfl : _ = _)
    case o9_2_14 => (try (have hH := hS (by decide); obtain ⟨f0, f4, f6, f7, f8, f9⟩ := FF.out _ (S1.out.then hH); obtain ⟨c_dst, z_dst⟩ := FR.out _ (S1.out.then hH) dst ok_dst; obtain ⟨c_a, z_a⟩ := FR.out _ (S1.out.then hH) a ok_a; obtain ⟨c_b, z_b⟩ := FR.out _ (S1.out.then hH) b ok_b; obtain ⟨b0, b1, b2, b3, b4, b5, b6, b7, b8, b9⟩ := FB.out _ hH)); have ha := rd2 ha H (by kernel_rfl) (by kernel_rfl) rfl rfl; simp only [q3, q5, q6, q7] at ha; subst ha; clear H hU hS; go_wp2_with fail; (try refine hQ _ _ ?_); refine ⟨Step.refl _ _, ?_, trivial, nofun⟩; exact (rfl : _ = _)
    case o9_2_15 => (try (have hH := hS (by decide); obtain ⟨f0, f4, f6, f7, f8, f9⟩ := FF.out _ (S1.out.then hH); obtain ⟨c_dst, z_dst⟩ := FR.out _ (S1.out.then hH) dst ok_dst; obtain ⟨c_a, z_a⟩ := FR.out _ (S1.out.then hH) a ok_a; obtain ⟨c_b, z_b⟩ := FR.out _ (S1.out.then hH) b ok_b; obtain ⟨b0, b1, b2, b3, b4, b5, b6, b7, b8, b9⟩ := FB.out _ hH)); have ha := rd1 ha H (by kernel_rfl) rfl; simp only [q3, q5, q6, q7] at ha; subst ha; clear H hU hS; go_wp2_with fail; (try refine hQ _ _ ?_); refine ⟨Step.refl _ _, ?_, trivial, nofun⟩; exact (rfl : _ = _)
    case o9_2_16 => (try (have hH := hS (by decide); obtain ⟨f0, f4, f6, f7, f8, f9⟩ := FF.out _ (S1.out.then hH); obtain ⟨c_dst, z_dst⟩ := FR.out _ (S1.out.then hH) dst ok_dst; obtain ⟨c_a, z_a⟩ := FR.out _ (S1.out.then hH) a ok_a; obtain ⟨c_b, z_b⟩ := FR.out _ (S1.out.then hH) b ok_b; obtain ⟨b0, b1, b2, b3, b4, b5, b6, b7, b8, b9⟩ := FB.out _ hH)); have h5 : xv 5 = _ := H 5 (by kernel_rfl); have h10 : xv 10 = _ := H 10 (by kernel_rfl); have h15 : xv 15 = _ := H 15 (by kernel_rfl); change aq = puts _ xv [(5, some 41), (10, some 46), (15, some 51)] at ha; simp only [q1, q2, q3, q5, q6, q7, h5, h10, h15] at ha; subst ha; clear H h5 h10 h15; clear hU hS; go_wp2_with fail; refine (DO.out _ _).mono ?_; rintro e w4 ⟨rfl, s4⟩; go_wp2_with fail; (try refine hQ _ _ ?_); refine ⟨(by subst s4; exact Step.refl _ _), ?_, trivial, nofun⟩; exact (rfl : _ = _)
    case o9_2_17 | o9_2_18 | o9_2_19 => have ha := rd1 ha H (by kernel_rfl) rfl; simp only [q3, q5, q6, q7] at ha; subst ha; clear H hU hS; go_wp2_with fail; (try refine hQ _ _ ?_); refine ⟨Step.refl _ _, ?_, trivial, nofun⟩; exact (rfl : _ = _)
    case o9_2_20 => (try (have hH := hS (by decide); obtain ⟨f0, f4, f6, f7, f8, f9⟩ := FF.out _ (S1.out.then hH); obtain ⟨c_dst, z_dst⟩ := FR.out _ (S1.out.then hH) dst ok_dst; obtain ⟨c_a, z_a⟩ := FR.out _ (S1.out.then hH) a ok_a; obtain ⟨c_b, z_b⟩ := FR.out _ (S1.out.then hH) b ok_b; obtain ⟨b0, b1, b2, b3, b4, b5, b6, b7, b8, b9⟩ := FB.out _ hH)); have ha := rd2 ha H (by kernel_rfl) (by kernel_rfl) rfl rfl; simp only [q3, q5, q6, q7] at ha; subst ha; clear H hU hS; go_wp2_with fail; (try refine hQ _ _ ?_); refine ⟨Step.refl _ _, ?_, trivial, nofun⟩; exact (rfl : _ = _)
    case o9_2_21 =>
      (try (have hH := hS (by decide); obtain ⟨f0, f4, f6, f7, f8, f9⟩ := FF.out _ (S1.out.then hH); obtain ⟨c_dst, z_dst⟩ := FR.out _ (S1.out.then hH) dst ok_dst; obtain ⟨c_a, z_a⟩ := FR.out _ (S1.out.then hH) a ok_a; obtain ⟨c_b, z_b⟩ := FR.out _ (S1.out.then hH) b ok_b; obtain ⟨b0, b1, b2, b3, b4, b5, b6, b7, b8, b9⟩ := FB.out _ hH)); have h18 : xv 18 = _ := H 18 (by kernel_rfl); have h20 : xv 20 = _ := H 20 (by kernel_rfl); change aq = puts _ xv [(18, some 53), (20, some 55)] at ha; simp only [q1, q2, q3, q5, q6, q7, h18, h20] at ha; subst ha; clear H h18 h20
      have S2 := Lib.hid (hS (by kernel_rfl))
      clear hU hS hH
      go_wp2_with fail
      (try refine hQ (.bool true) _ ?_)
      refine ⟨Step.setCell _ _ _ _ rfl, trivial, ?_, nofun⟩
      exact went_set (HW.out.still (S1.out.then S2.out)) (HF.out.still (S1.out.then S2.out)) (S1.out.then S2.out) HL.out (by omega) _
  intro xv w2 hH hS H hU hsz hF hN
  have h0 : xv 0 = _ := H 0 (by decide) (by kernel_rfl); have h1 : xv 1 = _ := H 1 (by decide) (by kernel_rfl); have h2 : xv 2 = _ := H 2 (by decide) (by kernel_rfl); have h3 : xv 3 = _ := H 3 (by decide) (by kernel_rfl); have h4 : xv 4 = _ := H 4 (by decide) (by kernel_rfl); have h5 : xv 5 = _ := H 5 (by decide) (by kernel_rfl); have h6 : xv 6 = _ := H 6 (by decide) (by kernel_rfl); have h7 : xv 7 = _ := H 7 (by decide) (by kernel_rfl); have h8 : xv 8 = _ := H 8 (by decide) (by kernel_rfl); have h9 : xv 9 = _ := H 9 (by decide) (by kernel_rfl); have h10 : xv 10 = _ := H 10 (by decide) (by kernel_rfl); have h11 : xv 11 = _ := H 11 (by decide) (by kernel_rfl); have h12 : xv 12 = _ := H 12 (by decide) (by kernel_rfl); have h13 : xv 13 = _ := H 13 (by decide) (by kernel_rfl); have h14 : xv 14 = _ := H 14 (by decide) (by kernel_rfl); have h15 : xv 15 = _ := H 15 (by decide) (by kernel_rfl); have h16 : xv 16 = _ := H 16 (by decide) (by kernel_rfl); have h17 : xv 17 = _ := H 17 (by decide) (by kernel_rfl); have h18 : xv 18 = _ := H 18 (by decide) (by kernel_rfl); have h19 : xv 19 = _ := H 19 (by decide) (by kernel_rfl); have h20 : xv 20 = _ := H 20 (by decide) (by kernel_rfl)
  simp only [planDo3, q1, q2, q3, q5, q6, q7, q4, List.drop_succ_cons, List.drop_zero, h0, h1, h2, h3, h4, h5, h6, h7, h8, h9, h10, h11, h12, h13, h14, h15, h16, h17, h18, h19, h20]
  have hL := hU 21 (by decide) (by kernel_rfl)
  clear H hF hN hS hU h0 h1 h2 h3 h4 h5 h6 h7 h8 h9 h10 h11 h12 h13 h14 h15 h16 h17 h18 h19 h20
  go_wp2_with fail
  go_end0
  exact hL
set_option maxHeartbeats 4000000 in
set_option maxRecDepth 100000 in
theorem do_4 (hW : FWAt w0 w pw own fnv tops st c) (hF : FrAt w own pf pw gx vn vp vk vs vc vr vl regs slots lock key) (hl : w0.heap.size ≤ gx) {v : Value} {i : FIns} (hi : InsAt w0 v i) (ho : i.op = 4) (ok_dst : ok1 regs i.dst) (ok_a : ok1 regs i.a) (hs : i.size = 1 ∨ i.size = 4 ∨ i.size = 8) :
    Calls Try.prog 61 #[.pointer (some ⟨pf, 0, none⟩), v] w (Went w0 w pw own fnv tops pf gx vn vp vk vs vc vr vl slots lock key st c (regs.set i.dst.toNat (nar (rg regs i.a) (8 * i.size) true))) := by
  obtain ⟨va, vo, rfl, iargs, iouts⟩ := hi
  obtain ⟨op, dst, a, b, n, size, name, args, outs, to⟩ := i
  simp only at *
  subst ho
  obtain ⟨rcap, rfl⟩ := regs_slice hF (by unfold ok1 at ok_dst; omega)
  have HW := Lib.hid hW
  have HF := Lib.hid hF
  have HL := Lib.hid hl
  have FF := Lib.hid (frame_facts hF)
  have FR := Lib.hid (reg_facts hF)
  have NA := Lib.hid (fun a => narrow_in a (8 * size) true (by omega) (by omega))
  unfold ok1 at ok_dst ok_a
  clear hW hF hl
  obtain ⟨f0, f4, f6, f7, f8, f9⟩ := FF.out _ (Step.refl _ _)
  have hpf := block_lt f6
  simp only at hpf
  go_enter Try.func61, Try.ntmps61
  go_upto_region 11 with fail
  have kb := heap_alloc_new w (.cells #[.int .i64 4, .int .i64 dst, .int .i64 a, .int .i64 b, .int .u64 n, .int .i64 size, .string name, va, vo, .int .i64 to] 47 (0, 0))
  have S1 := Lib.hid (Step.alloc (fun _ => False) w (.cells #[.int .i64 4, .int .i64 dst, .int .i64 a, .int .i64 b, .int .u64 n, .int .i64 size, .string name, va, vo, .int .i64 to] 47 (0, 0)))
  clear f0 f4 f6 f7 f8 f9 hpf
  have HT := Lib.hid (show gx < w.heap.size ∧ own w.heap.size = 0 from ⟨HF.out.free.2.2.2, HW.out.fresh0⟩)
  generalize w.alloc (.cells #[.int .i64 4, .int .i64 dst, .int .i64 a, .int .i64 b, .int .u64 n, .int .i64 size, .string name, va, vo, .int .i64 to] 47 (0, 0)) = w1 at kb S1 ⊢
  generalize w.heap.size = tb at kb HT ⊢
  have KB := Lib.hid kb
  have FB := Lib.hid (box_facts kb)
  clear kb
  refine wp_region_each 17 planDo4 (fun a b => Step (fun x => x = gx) a b) (Step (fun x => x = gx) w1) (fun x => Step (fun _ => False) w1 x) [Is ?v11_3_0, Is ?v11_3_1, Is ?v11_3_2, Is ?v11_3_3, Is ?v11_3_4, Is ?v11_3_5, Is ?v11_3_6, Is ?v11_3_7, Is ?v11_3_8, Is ?v11_3_9, Is ?v11_3_10, Is ?v11_3_11, Is ?v11_3_12, Is ?v11_3_13, Is ?v11_3_14, Is ?v11_3_15, fun _ _ => True] [fun _ _ => True, fun _ _ => True, fun _ _ => True, fun _ _ => True, fun _ _ => True, fun _ _ => True, fun _ _ => True, fun _ _ => True, fun _ _ => True, fun _ _ => True, fun _ _ => True, fun _ _ => True, fun _ _ => True, fun _ _ => True, fun _ _ => True, fun _ _ => True, fun _ x => Went w0 w pw own fnv tops pf gx vn vp vk vs vc (.slice (some ⟨gx, 0, none⟩) regs.length rcap) vl slots lock key st c (regs.set dst.toNat (nar (rg regs a) (8 * size) true)) (.returned (.tuple #[])) x] (by kernel_rfl) (by kernel_rfl) (fun _ _ h => h.size) ((Step.refl _ _).drew) ((Step.refl _ _).drew) ?stab11_3 ?stabD11_3 ?obl11_3 ?fin11_3
  case stab11_3 => exact fun w w' h => ⟨fun k => k.trans h (fun _ x => x.elim), fun k => k.trans h (fun _ x => x.elim), ⟨fun _ k => k, fun _ k => k, fun _ k => k, fun _ k => k, fun _ k => k, fun _ k => k, fun _ k => k, fun _ k => k, fun _ k => k, fun _ k => k, fun _ k => k, fun _ k => k, fun _ k => k, fun _ k => k, fun _ k => k, fun _ k => k, fun _ k => k, trivial⟩, ⟨fun _ k => k, fun _ k => k, fun _ k => k, fun _ k => k, fun _ k => k, fun _ k => k, fun _ k => k, fun _ k => k, fun _ k => k, fun _ k => k, fun _ k => k, fun _ k => k, fun _ k => k, fun _ k => k, fun _ k => k, fun _ k => k, fun _ k => k.still h, trivial⟩⟩
  case stabD11_3 => exact fun w w' h => ⟨fun k => k.trans h (fun _ x => .inl x), fun _ _ k => k, fun _ _ k => k, fun _ _ k => k, fun _ _ k => k, fun _ _ k => k, fun _ _ k => k, fun _ _ k => k, fun _ _ k => k, fun _ _ k => k, fun _ _ k => k, fun _ _ k => k, fun _ _ k => k, fun _ _ k => k, fun _ _ k => k, fun _ _ k => k, fun _ _ k => k, fun _ _ k => k, trivial⟩
  case obl11_3 =>
    refine ⟨?o11_3_0, ?o11_3_1, ?o11_3_2, ?o11_3_3, ?o11_3_4, ?o11_3_5, ?o11_3_6, ?o11_3_7, ?o11_3_8, ?o11_3_9, ?o11_3_10, ?o11_3_11, ?o11_3_12, ?o11_3_13, ?o11_3_14, ?o11_3_15, ?o11_3_16, trivial⟩
    all_goals intro xv wq hH hS H hU aq ha Q' hQ
    case o11_3_0 | o11_3_1 => cases rd0 ha; clear H hU hS; go_wp2_with fail; (try refine hQ _ _ ?_); refine ⟨Step.refl _ _, ?_, trivial, nofun⟩; exact (rfl : _ = _)
    case o11_3_2 => (try (have hH := hS (by decide); obtain ⟨f0, f4, f6, f7, f8, f9⟩ := FF.out _ (S1.out.then hH); obtain ⟨c_dst, z_dst⟩ := FR.out _ (S1.out.then hH) dst ok_dst; obtain ⟨c_a, z_a⟩ := FR.out _ (S1.out.then hH) a ok_a; obtain ⟨b0, b1, b2, b3, b4, b5, b6, b7, b8, b9⟩ := FB.out _ hH)); have ha := rd1 ha H (by kernel_rfl) rfl; simp only [q3, q5, q6, q7] at ha; subst ha; clear H hU hS; go_wp2_with fail; (try refine hQ _ _ ?_); refine ⟨Step.refl _ _, ?_, trivial, nofun⟩; exact (rfl : _ = _)
    case o11_3_3 | o11_3_4 => cases rd0 ha; clear H hU hS; go_wp2_with fail; (try refine hQ _ _ ?_); refine ⟨Step.refl _ _, ?_, trivial, nofun⟩; exact (rfl : _ = _)
    case o11_3_5 => (try (have hH := hS (by decide); obtain ⟨f0, f4, f6, f7, f8, f9⟩ := FF.out _ (S1.out.then hH); obtain ⟨c_dst, z_dst⟩ := FR.out _ (S1.out.then hH) dst ok_dst; obtain ⟨c_a, z_a⟩ := FR.out _ (S1.out.then hH) a ok_a; obtain ⟨b0, b1, b2, b3, b4, b5, b6, b7, b8, b9⟩ := FB.out _ hH)); have ha := rd1 ha H (by kernel_rfl) rfl; simp only [q3, q5, q6, q7] at ha; subst ha; clear H hU hS; go_wp2_with fail; (try refine hQ _ _ ?_); refine ⟨Step.refl _ _, ?_, trivial, nofun⟩; exact (rfl : _ = _)
    case o11_3_6 => (try (have hH := hS (by decide); obtain ⟨f0, f4, f6, f7, f8, f9⟩ := FF.out _ (S1.out.then hH); obtain ⟨c_dst, z_dst⟩ := FR.out _ (S1.out.then hH) dst ok_dst; obtain ⟨c_a, z_a⟩ := FR.out _ (S1.out.then hH) a ok_a; obtain ⟨b0, b1, b2, b3, b4, b5, b6, b7, b8, b9⟩ := FB.out _ hH)); have ha := rd2 ha H (by kernel_rfl) (by kernel_rfl) rfl rfl; simp only [q3, q5, q6, q7] at ha; subst ha; clear H hU hS; go_wp2_with fail; (try refine hQ _ _ ?_); refine ⟨Step.refl _ _, ?_, trivial, nofun⟩; exact (rfl : _ = _)
    case o11_3_7 => (try (have hH := hS (by decide); obtain ⟨f0, f4, f6, f7, f8, f9⟩ := FF.out _ (S1.out.then hH); obtain ⟨c_dst, z_dst⟩ := FR.out _ (S1.out.then hH) dst ok_dst; obtain ⟨c_a, z_a⟩ := FR.out _ (S1.out.then hH) a ok_a; obtain ⟨b0, b1, b2, b3, b4, b5, b6, b7, b8, b9⟩ := FB.out _ hH)); have ha := rd1 ha H (by kernel_rfl) rfl; simp only [q3, q5, q6, q7] at ha; subst ha; clear H hU hS; go_wp2_with fail; (try refine hQ _ _ ?_); refine ⟨Step.refl _ _, ?_, trivial, nofun⟩; exact (rfl : _ = _)
    case o11_3_8 => cases rd0 ha; clear H hU hS; go_wp2_with fail; (try refine hQ _ _ ?_); refine ⟨Step.refl _ _, ?_, trivial, nofun⟩; exact (rfl : _ = _)
    case o11_3_9 | o11_3_10 => (try (have hH := hS (by decide); obtain ⟨f0, f4, f6, f7, f8, f9⟩ := FF.out _ (S1.out.then hH); obtain ⟨c_dst, z_dst⟩ := FR.out _ (S1.out.then hH) dst ok_dst; obtain ⟨c_a, z_a⟩ := FR.out _ (S1.out.then hH) a ok_a; obtain ⟨b0, b1, b2, b3, b4, b5, b6, b7, b8, b9⟩ := FB.out _ hH)); have ha := rd1 ha H (by kernel_rfl) rfl; simp only [q3, q5, q6, q7] at ha; subst ha; clear H hU hS; go_wp2_with fail; (try refine hQ _ _ ?_); refine ⟨Step.refl _ _, ?_, trivial, nofun⟩; exact (rfl : _ = _)
    case o11_3_11 => (try (have hH := hS (by decide); obtain ⟨f0, f4, f6, f7, f8, f9⟩ := FF.out _ (S1.out.then hH); obtain ⟨c_dst, z_dst⟩ := FR.out _ (S1.out.then hH) dst ok_dst; obtain ⟨c_a, z_a⟩ := FR.out _ (S1.out.then hH) a ok_a; obtain ⟨b0, b1, b2, b3, b4, b5, b6, b7, b8, b9⟩ := FB.out _ hH)); have h7 : xv 7 = _ := H 7 (by kernel_rfl); have h10 : xv 10 = _ := H 10 (by kernel_rfl); change aq = puts _ xv [(7, some 66), (10, some 69)] at ha; simp only [q1, q2, q3, q5, q6, q7, h7, h10] at ha; subst ha; clear H h7 h10; clear hU hS; go_wp2_with fail; refine (NA.out _ _).mono ?_; rintro e w4 ⟨rfl, s4⟩; go_wp2_with fail; (try refine hQ _ _ ?_); refine ⟨(by subst s4; exact Step.refl _ _), ?_, trivial, nofun⟩; exact (rfl : _ = _)
    case o11_3_12 | o11_3_13 | o11_3_14 => have ha := rd1 ha H (by kernel_rfl) rfl; simp only [q3, q5, q6, q7] at ha; subst ha; clear H hU hS; go_wp2_with fail; (try refine hQ _ _ ?_); refine ⟨Step.refl _ _, ?_, trivial, nofun⟩; exact (rfl : _ = _)
    case o11_3_15 => (try (have hH := hS (by decide); obtain ⟨f0, f4, f6, f7, f8, f9⟩ := FF.out _ (S1.out.then hH); obtain ⟨c_dst, z_dst⟩ := FR.out _ (S1.out.then hH) dst ok_dst; obtain ⟨c_a, z_a⟩ := FR.out _ (S1.out.then hH) a ok_a; obtain ⟨b0, b1, b2, b3, b4, b5, b6, b7, b8, b9⟩ := FB.out _ hH)); have ha := rd2 ha H (by kernel_rfl) (by kernel_rfl) rfl rfl; simp only [q3, q5, q6, q7] at ha; subst ha; clear H hU hS; go_wp2_with fail; (try refine hQ _ _ ?_); refine ⟨Step.refl _ _, ?_, trivial, nofun⟩; exact (rfl : _ = _)
    case o11_3_16 =>
      (try (have hH := hS (by decide); obtain ⟨f0, f4, f6, f7, f8, f9⟩ := FF.out _ (S1.out.then hH); obtain ⟨c_dst, z_dst⟩ := FR.out _ (S1.out.then hH) dst ok_dst; obtain ⟨c_a, z_a⟩ := FR.out _ (S1.out.then hH) a ok_a; obtain ⟨b0, b1, b2, b3, b4, b5, b6, b7, b8, b9⟩ := FB.out _ hH)); have h13 : xv 13 = _ := H 13 (by kernel_rfl); have h15 : xv 15 = _ := H 15 (by kernel_rfl); change aq = puts _ xv [(13, some 71), (15, some 73)] at ha; simp only [q1, q2, q3, q5, q6, q7, h13, h15] at ha; subst ha; clear H h13 h15
      have S2 := Lib.hid (hS (by kernel_rfl))
      clear hU hS hH
      go_wp2_with fail
      (try refine hQ (.bool true) _ ?_)
      refine ⟨Step.setCell _ _ _ _ rfl, trivial, ?_, nofun⟩
      exact went_set (HW.out.still (S1.out.then S2.out)) (HF.out.still (S1.out.then S2.out)) (S1.out.then S2.out) HL.out (by omega) _
  intro xv w2 hH hS H hU hsz hF hN
  have h0 : xv 0 = _ := H 0 (by decide) (by kernel_rfl); have h1 : xv 1 = _ := H 1 (by decide) (by kernel_rfl); have h2 : xv 2 = _ := H 2 (by decide) (by kernel_rfl); have h3 : xv 3 = _ := H 3 (by decide) (by kernel_rfl); have h4 : xv 4 = _ := H 4 (by decide) (by kernel_rfl); have h5 : xv 5 = _ := H 5 (by decide) (by kernel_rfl); have h6 : xv 6 = _ := H 6 (by decide) (by kernel_rfl); have h7 : xv 7 = _ := H 7 (by decide) (by kernel_rfl); have h8 : xv 8 = _ := H 8 (by decide) (by kernel_rfl); have h9 : xv 9 = _ := H 9 (by decide) (by kernel_rfl); have h10 : xv 10 = _ := H 10 (by decide) (by kernel_rfl); have h11 : xv 11 = _ := H 11 (by decide) (by kernel_rfl); have h12 : xv 12 = _ := H 12 (by decide) (by kernel_rfl); have h13 : xv 13 = _ := H 13 (by decide) (by kernel_rfl); have h14 : xv 14 = _ := H 14 (by decide) (by kernel_rfl); have h15 : xv 15 = _ := H 15 (by decide) (by kernel_rfl)
  simp only [planDo4, q1, q2, q3, q5, q6, q7, q4, List.drop_succ_cons, List.drop_zero, h0, h1, h2, h3, h4, h5, h6, h7, h8, h9, h10, h11, h12, h13, h14, h15]
  have hL := hU 16 (by decide) (by kernel_rfl)
  clear H hF hN hS hU h0 h1 h2 h3 h4 h5 h6 h7 h8 h9 h10 h11 h12 h13 h14 h15
  go_wp2_with fail
  go_end0
  exact hL
theorem zero_u64 (w : World) : (zeroValue 38).run Try.prog w = .ok (.int .u64 0) w := by kernel_rfl
theorem u64_get (o : Option Int) : (o.map (Value.int .u64)).getD (.int .u64 0) = .int .u64 (o.getD 0) := by cases o <;> rfl
/-- the variables' addresses, as a walk reads them -/
theorem top_facts (hW : FWAt w0 w pw own fnv tops st c) {nm : ByteArray} (hn : nm.size ≤ maxLen) : ∃ bt, ∀ y, Step (fun _ => False) w y → y.cell? ⟨pw, 1, none⟩ = some (.map (some bt)) ∧ (Instr.lookup 66 (.map (some bt)) (.string nm) false).run Try.prog y = .ok (.int .u64 ((tops nm.data.toList).getD 0)) y := by
  obtain ⟨bf, bt, bm, bs, bb, vl, vi, vo, P⟩ := hW
  refine ⟨bt, fun y hy => ⟨cell_known (hy.keeps P.struct) rfl, ?_⟩⟩
  have := (P.still hy).tops.lookup (t := 66) (e := 38) Try.underlying9 Try.underlying66 (zero_u64 y) hn
  rw [u64_get] at this
  exact this
set_option maxHeartbeats 4000000 in
set_option maxRecDepth 100000 in
theorem do_30 (hW : FWAt w0 w pw own fnv tops st c) (hF : FrAt w own pf pw gx vn vp vk vs vc vr vl regs slots lock key) (hl : w0.heap.size ≤ gx) {v : Value} {i : FIns} (hi : InsAt w0 v i) (ho : i.op = 30) (ok_dst : ok1 regs i.dst) (hn : i.name.size ≤ maxLen) :
    Calls Try.prog 61 #[.pointer (some ⟨pf, 0, none⟩), v] w (Went w0 w pw own fnv tops pf gx vn vp vk vs vc vr vl slots lock key st c (regs.set i.dst.toNat ((tops i.name.data.toList).getD 0))) := by
  obtain ⟨va, vo, rfl, iargs, iouts⟩ := hi
  obtain ⟨op, dst, a, b, n, size, name, args, outs, to⟩ := i
  simp only at *
  subst ho
  obtain ⟨rcap, rfl⟩ := regs_slice hF (by unfold ok1 at ok_dst; omega)
  have HW := Lib.hid hW
  have HF := Lib.hid hF
  have HL := Lib.hid hl
  have FF := Lib.hid (frame_facts hF)
  have FR := Lib.hid (reg_facts hF)
  obtain ⟨bt, ft⟩ := top_facts HW.out hn
  have FT := Lib.hid ft
  clear ft
  unfold ok1 at ok_dst
  clear hW hF hl
  obtain ⟨f0, f4, f6, f7, f8, f9⟩ := FF.out _ (Step.refl _ _)
  have hpf := block_lt f6
  simp only at hpf
  go_enter Try.func61, Try.ntmps61
  go_upto_region 21 with fail
  have kb := heap_alloc_new w (.cells #[.int .i64 30, .int .i64 dst, .int .i64 a, .int .i64 b, .int .u64 n, .int .i64 size, .string name, va, vo, .int .i64 to] 47 (0, 0))
  have S1 := Lib.hid (Step.alloc (fun _ => False) w (.cells #[.int .i64 30, .int .i64 dst, .int .i64 a, .int .i64 b, .int .u64 n, .int .i64 size, .string name, va, vo, .int .i64 to] 47 (0, 0)))
  clear f0 f4 f6 f7 f8 f9 hpf
  have HT := Lib.hid (show gx < w.heap.size ∧ own w.heap.size = 0 from ⟨HF.out.free.2.2.2, HW.out.fresh0⟩)
  generalize w.alloc (.cells #[.int .i64 30, .int .i64 dst, .int .i64 a, .int .i64 b, .int .u64 n, .int .i64 size, .string name, va, vo, .int .i64 to] 47 (0, 0)) = w1 at kb S1 ⊢
  generalize w.heap.size = tb at kb HT ⊢
  have KB := Lib.hid kb
  have FB := Lib.hid (box_facts kb)
  clear kb
  refine wp_region_each 13 planDo30 (fun _ _ => False) (Step (fun _ => False) w1) (fun _ => True) [Is ?v21_4_0, Is ?v21_4_1, Is ?v21_4_2, Is ?v21_4_3, Is ?v21_4_4, Is ?v21_4_5, Is ?v21_4_6, Is ?v21_4_7, Is ?v21_4_8, Is ?v21_4_9, Is ?v21_4_10, Is ?v21_4_11, Is ?v21_4_12] [] (by kernel_rfl) (by kernel_rfl) (fun _ _ h => h.elim) ((Step.refl _ _).drew) (trivial) ?stab21_4 ?stabD21_4 ?obl21_4 ?fin21_4
  case stab21_4 => exact fun w w' h => ⟨fun k => k.trans h (fun _ x => x.elim), fun _ => trivial, ⟨fun _ k => k, fun _ k => k, fun _ k => k, fun _ k => k, fun _ k => k, fun _ k => k, fun _ k => k, fun _ k => k, fun _ k => k, fun _ k => k, fun _ k => k, fun _ k => k, fun _ k => k, trivial⟩, trivial⟩
  case stabD21_4 => exact fun _ _ h => h.elim
  case obl21_4 =>
    refine ⟨?o21_4_0, ?o21_4_1, ?o21_4_2, ?o21_4_3, ?o21_4_4, ?o21_4_5, ?o21_4_6, ?o21_4_7, ?o21_4_8, ?o21_4_9, ?o21_4_10, ?o21_4_11, ?o21_4_12, trivial⟩
    all_goals intro xv wq hH hS H hU aq ha Q' hQ
    case o21_4_0 | o21_4_1 => cases rd0 ha; clear H hU hS; go_wp2_with fail; (try refine hQ _ _ ?_); refine ⟨Step.refl _ _, ?_, trivial, nofun⟩; exact (rfl : _ = _)
    case o21_4_2 => obtain ⟨f0, f4, f6, f7, f8, f9⟩ := FF.out _ (S1.out.then hH); obtain ⟨c_dst, z_dst⟩ := FR.out _ (S1.out.then hH) dst ok_dst; obtain ⟨b0, b1, b2, b3, b4, b5, b6, b7, b8, b9⟩ := FB.out _ hH; obtain ⟨mt, lt⟩ := FT.out _ (S1.out.then hH); have ha := rd1 ha H (by kernel_rfl) rfl; simp only [q3, q5, q6, q7] at ha; subst ha; clear H hU hS; go_wp2_with fail; (try refine hQ _ _ ?_); refine ⟨Step.refl _ _, ?_, trivial, nofun⟩; exact (rfl : _ = _)
    case o21_4_3 => cases rd0 ha; clear H hU hS; go_wp2_with fail; (try refine hQ _ _ ?_); refine ⟨Step.refl _ _, ?_, trivial, nofun⟩; exact (rfl : _ = _)
    case o21_4_4 | o21_4_5 => have ha := rd1 ha H (by kernel_rfl) rfl; simp only [q3, q5, q6, q7] at ha; subst ha; clear H hU hS; go_wp2_with fail; (try refine hQ _ _ ?_); refine ⟨Step.refl _ _, ?_, trivial, nofun⟩; exact (rfl : _ = _)
    case o21_4_6 => obtain ⟨f0, f4, f6, f7, f8, f9⟩ := FF.out _ (S1.out.then hH); obtain ⟨c_dst, z_dst⟩ := FR.out _ (S1.out.then hH) dst ok_dst; obtain ⟨b0, b1, b2, b3, b4, b5, b6, b7, b8, b9⟩ := FB.out _ hH; obtain ⟨mt, lt⟩ := FT.out _ (S1.out.then hH); have ha := rd1 ha H (by kernel_rfl) rfl; simp only [q3, q5, q6, q7] at ha; subst ha; clear H hU hS; go_wp2_with fail; (try refine hQ _ _ ?_); refine ⟨Step.refl _ _, ?_, trivial, nofun⟩; exact (rfl : _ = _)
    case o21_4_7 | o21_4_8 => have ha := rd1 ha H (by kernel_rfl) rfl; simp only [q3, q5, q6, q7] at ha; subst ha; clear H hU hS; go_wp2_with fail; (try refine hQ _ _ ?_); refine ⟨Step.refl _ _, ?_, trivial, nofun⟩; exact (rfl : _ = _)
    case o21_4_9 => obtain ⟨f0, f4, f6, f7, f8, f9⟩ := FF.out _ (S1.out.then hH); obtain ⟨c_dst, z_dst⟩ := FR.out _ (S1.out.then hH) dst ok_dst; obtain ⟨b0, b1, b2, b3, b4, b5, b6, b7, b8, b9⟩ := FB.out _ hH; obtain ⟨mt, lt⟩ := FT.out _ (S1.out.then hH); have ha := rd1 ha H (by kernel_rfl) rfl; simp only [q3, q5, q6, q7] at ha; subst ha; clear H hU hS; go_wp2_with fail; (try refine hQ _ _ ?_); refine ⟨Step.refl _ _, ?_, trivial, nofun⟩; exact (rfl : _ = _)
    case o21_4_10 => cases rd0 ha; clear H hU hS; go_wp2_with fail; (try refine hQ _ _ ?_); refine ⟨Step.refl _ _, ?_, trivial, nofun⟩; exact (rfl : _ = _)
    case o21_4_11 => obtain ⟨f0, f4, f6, f7, f8, f9⟩ := FF.out _ (S1.out.then hH); obtain ⟨c_dst, z_dst⟩ := FR.out _ (S1.out.then hH) dst ok_dst; obtain ⟨b0, b1, b2, b3, b4, b5, b6, b7, b8, b9⟩ := FB.out _ hH; obtain ⟨mt, lt⟩ := FT.out _ (S1.out.then hH); have ha := rd1 ha H (by kernel_rfl) rfl; simp only [q3, q5, q6, q7] at ha; subst ha; clear H hU hS; go_wp2_with fail; (try refine hQ _ _ ?_); refine ⟨Step.refl _ _, ?_, trivial, nofun⟩; exact (rfl : _ = _)
    case o21_4_12 => obtain ⟨f0, f4, f6, f7, f8, f9⟩ := FF.out _ (S1.out.then hH); obtain ⟨c_dst, z_dst⟩ := FR.out _ (S1.out.then hH) dst ok_dst; obtain ⟨b0, b1, b2, b3, b4, b5, b6, b7, b8, b9⟩ := FB.out _ hH; obtain ⟨mt, lt⟩ := FT.out _ (S1.out.then hH); have ha := rd2 ha H (by kernel_rfl) (by kernel_rfl) rfl rfl; simp only [q3, q5, q6, q7] at ha; subst ha; clear H hU hS; go_wp2_with fail; (try refine hQ _ _ ?_); refine ⟨Step.refl _ _, ?_, trivial, nofun⟩; exact (rfl : _ = _)
  intro xv w2 hH hS H hU hsz hF hN
  have h0 : xv 0 = _ := H 0 (by decide) (by kernel_rfl); have h1 : xv 1 = _ := H 1 (by decide) (by kernel_rfl); have h2 : xv 2 = _ := H 2 (by decide) (by kernel_rfl); have h3 : xv 3 = _ := H 3 (by decide) (by kernel_rfl); have h4 : xv 4 = _ := H 4 (by decide) (by kernel_rfl); have h5 : xv 5 = _ := H 5 (by decide) (by kernel_rfl); have h6 : xv 6 = _ := H 6 (by decide) (by kernel_rfl); have h7 : xv 7 = _ := H 7 (by decide) (by kernel_rfl); have h8 : xv 8 = _ := H 8 (by decide) (by kernel_rfl); have h9 : xv 9 = _ := H 9 (by decide) (by kernel_rfl); have h10 : xv 10 = _ := H 10 (by decide) (by kernel_rfl); have h11 : xv 11 = _ := H 11 (by decide) (by kernel_rfl); have h12 : xv 12 = _ := H 12 (by decide) (by kernel_rfl)
  simp only [planDo30, q1, q2, q3, q5, q6, q7, q4, List.drop_succ_cons, List.drop_zero, h0, h1, h2, h3, h4, h5, h6, h7, h8, h9, h10, h11, h12]
  clear H hF hN hS hU h0 h1 h2 h3 h4 h5 h6 h7 h8 h9 h10 h11 h12
  obtain ⟨f0, f4, f6, f7, f8, f9⟩ := FF.out _ (S1.out.then hH)
  obtain ⟨c_dst, z_dst⟩ := FR.out _ (S1.out.then hH) dst ok_dst
  obtain ⟨b0, b1, b2, b3, b4, b5, b6, b7, b8, b9⟩ := FB.out _ hH
  obtain ⟨mt, lt⟩ := FT.out _ (S1.out.then hH)
  have HH := Lib.hid hH
  clear hH
  go_wp2_with fail
  go_end0
  exact went_set (HW.out.still (S1.out.then HH.out)) (HF.out.still (S1.out.then HH.out)) (S1.out.then HH.out) HL.out (by omega) _
set_option maxHeartbeats 4000000 in
set_option maxRecDepth 100000 in
theorem do_31 (hW : FWAt w0 w pw own fnv tops st c) (hF : FrAt w own pf pw gx vn vp vk vs vc vr vl regs slots lock key) (hl : w0.heap.size ≤ gx) {v : Value} {i : FIns} (hi : InsAt w0 v i) (ho : i.op = 31) (ok_dst : ok1 regs i.dst) (on : 0 ≤ i.n ∧ i.n < slots.length) (bn : 0 ≤ rg slots i.n ∧ rg slots i.n ≤ 1000000000) :
    Calls Try.prog 61 #[.pointer (some ⟨pf, 0, none⟩), v] w (Went w0 w pw own fnv tops pf gx vn vp vk vs vc vr vl slots lock key st c (regs.set i.dst.toNat (rg slots i.n))) := by
  obtain ⟨va, vo, rfl, iargs, iouts⟩ := hi
  obtain ⟨op, dst, a, b, n, size, name, args, outs, to⟩ := i
  simp only at *
  subst ho
  obtain ⟨rcap, rfl⟩ := regs_slice hF (by unfold ok1 at ok_dst; omega)
  have HW := Lib.hid hW
  have HF := Lib.hid hF
  have HL := Lib.hid hl
  have FF := Lib.hid (frame_facts hF)
  have FR := Lib.hid (reg_facts hF)
  obtain ⟨sg, scap, rfl, fs⟩ := slot_facts hF (by omega)
  have FS := Lib.hid fs
  clear fs
  unfold ok1 at ok_dst
  clear hW hF hl
  obtain ⟨f0, f4, f6, f7, f8, f9⟩ := FF.out _ (Step.refl _ _)
  have hpf := block_lt f6
  simp only at hpf
  go_enter Try.func61, Try.ntmps61
  go_upto_region 23 with fail
  have kb := heap_alloc_new w (.cells #[.int .i64 31, .int .i64 dst, .int .i64 a, .int .i64 b, .int .u64 n, .int .i64 size, .string name, va, vo, .int .i64 to] 47 (0, 0))
  have S1 := Lib.hid (Step.alloc (fun _ => False) w (.cells #[.int .i64 31, .int .i64 dst, .int .i64 a, .int .i64 b, .int .u64 n, .int .i64 size, .string name, va, vo, .int .i64 to] 47 (0, 0)))
  clear f0 f4 f6 f7 f8 f9 hpf
  have HT := Lib.hid (show gx < w.heap.size ∧ own w.heap.size = 0 from ⟨HF.out.free.2.2.2, HW.out.fresh0⟩)
  generalize w.alloc (.cells #[.int .i64 31, .int .i64 dst, .int .i64 a, .int .i64 b, .int .u64 n, .int .i64 size, .string name, va, vo, .int .i64 to] 47 (0, 0)) = w1 at kb S1 ⊢
  generalize w.heap.size = tb at kb HT ⊢
  have KB := Lib.hid kb
  have FB := Lib.hid (box_facts kb)
  clear kb
  refine wp_region_each 12 planDo31 (fun _ _ => False) (Step (fun _ => False) w1) (fun _ => True) [Is ?v23_5_0, Is ?v23_5_1, Is ?v23_5_2, Is ?v23_5_3, Is ?v23_5_4, Is ?v23_5_5, Is ?v23_5_6, Is ?v23_5_7, Is ?v23_5_8, Is ?v23_5_9, Is ?v23_5_10, Is ?v23_5_11] [] (by kernel_rfl) (by kernel_rfl) (fun _ _ h => h.elim) ((Step.refl _ _).drew) (trivial) ?stab23_5 ?stabD23_5 ?obl23_5 ?fin23_5
  case stab23_5 => exact fun w w' h => ⟨fun k => k.trans h (fun _ x => x.elim), fun _ => trivial, ⟨fun _ k => k, fun _ k => k, fun _ k => k, fun _ k => k, fun _ k => k, fun _ k => k, fun _ k => k, fun _ k => k, fun _ k => k, fun _ k => k, fun _ k => k, fun _ k => k, trivial⟩, trivial⟩
  case stabD23_5 => exact fun _ _ h => h.elim
  case obl23_5 =>
    refine ⟨?o23_5_0, ?o23_5_1, ?o23_5_2, ?o23_5_3, ?o23_5_4, ?o23_5_5, ?o23_5_6, ?o23_5_7, ?o23_5_8, ?o23_5_9, ?o23_5_10, ?o23_5_11, trivial⟩
    all_goals intro xv wq hH hS H hU aq ha Q' hQ
    case o23_5_0 | o23_5_1 => cases rd0 ha; clear H hU hS; go_wp2_with fail; (try refine hQ _ _ ?_); refine ⟨Step.refl _ _, ?_, trivial, nofun⟩; exact (rfl : _ = _)
    case o23_5_2 => obtain ⟨f0, f4, f6, f7, f8, f9⟩ := FF.out _ (S1.out.then hH); obtain ⟨c_dst, z_dst⟩ := FR.out _ (S1.out.then hH) dst ok_dst; obtain ⟨b0, b1, b2, b3, b4, b5, b6, b7, b8, b9⟩ := FB.out _ hH; have cs := FS.out _ (S1.out.then hH) n on; have ha := rd1 ha H (by kernel_rfl) rfl; simp only [q3, q5, q6, q7] at ha; subst ha; clear H hU hS; go_wp2_with fail; (try refine hQ _ _ ?_); refine ⟨Step.refl _ _, ?_, trivial, nofun⟩; exact (rfl : _ = _)
    case o23_5_3 => cases rd0 ha; clear H hU hS; go_wp2_with fail; (try refine hQ _ _ ?_); refine ⟨Step.refl _ _, ?_, trivial, nofun⟩; exact (rfl : _ = _)
    case o23_5_4 | o23_5_5 => have ha := rd1 ha H (by kernel_rfl) rfl; simp only [q3, q5, q6, q7] at ha; subst ha; clear H hU hS; go_wp2_with fail; (try refine hQ _ _ ?_); refine ⟨Step.refl _ _, ?_, trivial, nofun⟩; exact (rfl : _ = _)
    case o23_5_6 => obtain ⟨f0, f4, f6, f7, f8, f9⟩ := FF.out _ (S1.out.then hH); obtain ⟨c_dst, z_dst⟩ := FR.out _ (S1.out.then hH) dst ok_dst; obtain ⟨b0, b1, b2, b3, b4, b5, b6, b7, b8, b9⟩ := FB.out _ hH; have cs := FS.out _ (S1.out.then hH) n on; have ha := rd1 ha H (by kernel_rfl) rfl; simp only [q3, q5, q6, q7] at ha; subst ha; clear H hU hS; go_wp2_with fail; (try refine hQ _ _ ?_); refine ⟨Step.refl _ _, ?_, trivial, nofun⟩; exact (rfl : _ = _)
    case o23_5_7 => cases rd0 ha; clear H hU hS; go_wp2_with fail; (try refine hQ _ _ ?_); refine ⟨Step.refl _ _, ?_, trivial, nofun⟩; exact (rfl : _ = _)
    case o23_5_8 => obtain ⟨f0, f4, f6, f7, f8, f9⟩ := FF.out _ (S1.out.then hH); obtain ⟨c_dst, z_dst⟩ := FR.out _ (S1.out.then hH) dst ok_dst; obtain ⟨b0, b1, b2, b3, b4, b5, b6, b7, b8, b9⟩ := FB.out _ hH; have cs := FS.out _ (S1.out.then hH) n on; have ha := rd1 ha H (by kernel_rfl) rfl; simp only [q3, q5, q6, q7] at ha; subst ha; clear H hU hS; go_wp2_with fail; (try refine hQ _ _ ?_); refine ⟨Step.refl _ _, ?_, trivial, nofun⟩; exact (rfl : _ = _)
    case o23_5_9 => obtain ⟨f0, f4, f6, f7, f8, f9⟩ := FF.out _ (S1.out.then hH); obtain ⟨c_dst, z_dst⟩ := FR.out _ (S1.out.then hH) dst ok_dst; obtain ⟨b0, b1, b2, b3, b4, b5, b6, b7, b8, b9⟩ := FB.out _ hH; have cs := FS.out _ (S1.out.then hH) n on; have ha := rd2 ha H (by kernel_rfl) (by kernel_rfl) rfl rfl; simp only [q3, q5, q6, q7] at ha; subst ha; clear H hU hS; go_wp2_with fail; (try refine hQ _ _ ?_); refine ⟨Step.refl _ _, ?_, trivial, nofun⟩; exact (rfl : _ = _)
    case o23_5_10 | o23_5_11 => obtain ⟨f0, f4, f6, f7, f8, f9⟩ := FF.out _ (S1.out.then hH); obtain ⟨c_dst, z_dst⟩ := FR.out _ (S1.out.then hH) dst ok_dst; obtain ⟨b0, b1, b2, b3, b4, b5, b6, b7, b8, b9⟩ := FB.out _ hH; have cs := FS.out _ (S1.out.then hH) n on; have ha := rd1 ha H (by kernel_rfl) rfl; simp only [q3, q5, q6, q7] at ha; subst ha; clear H hU hS; go_wp2_with fail; (try refine hQ _ _ ?_); refine ⟨Step.refl _ _, ?_, trivial, nofun⟩; exact (rfl : _ = _)
  intro xv w2 hH hS H hU hsz hF hN
  have h0 : xv 0 = _ := H 0 (by decide) (by kernel_rfl); have h1 : xv 1 = _ := H 1 (by decide) (by kernel_rfl); have h2 : xv 2 = _ := H 2 (by decide) (by kernel_rfl); have h3 : xv 3 = _ := H 3 (by decide) (by kernel_rfl); have h4 : xv 4 = _ := H 4 (by decide) (by kernel_rfl); have h5 : xv 5 = _ := H 5 (by decide) (by kernel_rfl); have h6 : xv 6 = _ := H 6 (by decide) (by kernel_rfl); have h7 : xv 7 = _ := H 7 (by decide) (by kernel_rfl); have h8 : xv 8 = _ := H 8 (by decide) (by kernel_rfl); have h9 : xv 9 = _ := H 9 (by decide) (by kernel_rfl); have h10 : xv 10 = _ := H 10 (by decide) (by kernel_rfl); have h11 : xv 11 = _ := H 11 (by decide) (by kernel_rfl)
  simp only [planDo31, q1, q2, q3, q5, q6, q7, q4, List.drop_succ_cons, List.drop_zero, h0, h1, h2, h3, h4, h5, h6, h7, h8, h9, h10, h11]
  clear H hF hN hS hU h0 h1 h2 h3 h4 h5 h6 h7 h8 h9 h10 h11
  obtain ⟨f0, f4, f6, f7, f8, f9⟩ := FF.out _ (S1.out.then hH)
  obtain ⟨c_dst, z_dst⟩ := FR.out _ (S1.out.then hH) dst ok_dst
  obtain ⟨b0, b1, b2, b3, b4, b5, b6, b7, b8, b9⟩ := FB.out _ hH
  have cs := FS.out _ (S1.out.then hH) n on
  have HH := Lib.hid hH
  clear hH
  go_wp2_with fail
  go_end0
  exact went_set (HW.out.still (S1.out.then HH.out)) (HF.out.still (S1.out.then HH.out)) (S1.out.then HH.out) HL.out (by omega) _
set_option maxHeartbeats 4000000 in
set_option maxRecDepth 100000 in
theorem do_32 (hW : FWAt w0 w pw own fnv tops st c) (hF : FrAt w own pf pw gx vn vp vk vs vc vr vl regs slots lock key) (hl : w0.heap.size ≤ gx) {v : Value} {i : FIns} (hi : InsAt w0 v i) (ho : i.op = 32) (ok_dst : ok1 regs i.dst) (bn : 0 ≤ lock ∧ lock ≤ 1000000000) :
    Calls Try.prog 61 #[.pointer (some ⟨pf, 0, none⟩), v] w (Went w0 w pw own fnv tops pf gx vn vp vk vs vc vr vl slots lock key st c (regs.set i.dst.toNat (lock))) := by
  obtain ⟨va, vo, rfl, iargs, iouts⟩ := hi
  obtain ⟨op, dst, a, b, n, size, name, args, outs, to⟩ := i
  simp only at *
  subst ho
  obtain ⟨rcap, rfl⟩ := regs_slice hF (by unfold ok1 at ok_dst; omega)
  have HW := Lib.hid hW
  have HF := Lib.hid hF
  have HL := Lib.hid hl
  have FF := Lib.hid (frame_facts hF)
  have FR := Lib.hid (reg_facts hF)
  unfold ok1 at ok_dst
  clear hW hF hl
  obtain ⟨f0, f4, f6, f7, f8, f9⟩ := FF.out _ (Step.refl _ _)
  have hpf := block_lt f6
  simp only at hpf
  go_enter Try.func61, Try.ntmps61
  go_upto_region 25 with fail
  have kb := heap_alloc_new w (.cells #[.int .i64 32, .int .i64 dst, .int .i64 a, .int .i64 b, .int .u64 n, .int .i64 size, .string name, va, vo, .int .i64 to] 47 (0, 0))
  have S1 := Lib.hid (Step.alloc (fun _ => False) w (.cells #[.int .i64 32, .int .i64 dst, .int .i64 a, .int .i64 b, .int .u64 n, .int .i64 size, .string name, va, vo, .int .i64 to] 47 (0, 0)))
  clear f0 f4 f6 f7 f8 f9 hpf
  have HT := Lib.hid (show gx < w.heap.size ∧ own w.heap.size = 0 from ⟨HF.out.free.2.2.2, HW.out.fresh0⟩)
  generalize w.alloc (.cells #[.int .i64 32, .int .i64 dst, .int .i64 a, .int .i64 b, .int .u64 n, .int .i64 size, .string name, va, vo, .int .i64 to] 47 (0, 0)) = w1 at kb S1 ⊢
  generalize w.heap.size = tb at kb HT ⊢
  have KB := Lib.hid kb
  have FB := Lib.hid (box_facts kb)
  clear kb
  refine wp_region_each 8 planDo32 (fun _ _ => False) (Step (fun _ => False) w1) (fun _ => True) [Is ?v25_6_0, Is ?v25_6_1, Is ?v25_6_2, Is ?v25_6_3, Is ?v25_6_4, Is ?v25_6_5, Is ?v25_6_6, Is ?v25_6_7] [] (by kernel_rfl) (by kernel_rfl) (fun _ _ h => h.elim) ((Step.refl _ _).drew) (trivial) ?stab25_6 ?stabD25_6 ?obl25_6 ?fin25_6
  case stab25_6 => exact fun w w' h => ⟨fun k => k.trans h (fun _ x => x.elim), fun _ => trivial, ⟨fun _ k => k, fun _ k => k, fun _ k => k, fun _ k => k, fun _ k => k, fun _ k => k, fun _ k => k, fun _ k => k, trivial⟩, trivial⟩
  case stabD25_6 => exact fun _ _ h => h.elim
  case obl25_6 =>
    refine ⟨?o25_6_0, ?o25_6_1, ?o25_6_2, ?o25_6_3, ?o25_6_4, ?o25_6_5, ?o25_6_6, ?o25_6_7, trivial⟩
    all_goals intro xv wq hH hS H hU aq ha Q' hQ
    case o25_6_0 | o25_6_1 => cases rd0 ha; clear H hU hS; go_wp2_with fail; (try refine hQ _ _ ?_); refine ⟨Step.refl _ _, ?_, trivial, nofun⟩; exact (rfl : _ = _)
    case o25_6_2 => obtain ⟨f0, f4, f6, f7, f8, f9⟩ := FF.out _ (S1.out.then hH); obtain ⟨c_dst, z_dst⟩ := FR.out _ (S1.out.then hH) dst ok_dst; obtain ⟨b0, b1, b2, b3, b4, b5, b6, b7, b8, b9⟩ := FB.out _ hH; have ha := rd1 ha H (by kernel_rfl) rfl; simp only [q3, q5, q6, q7] at ha; subst ha; clear H hU hS; go_wp2_with fail; (try refine hQ _ _ ?_); refine ⟨Step.refl _ _, ?_, trivial, nofun⟩; exact (rfl : _ = _)
    case o25_6_3 => cases rd0 ha; clear H hU hS; go_wp2_with fail; (try refine hQ _ _ ?_); refine ⟨Step.refl _ _, ?_, trivial, nofun⟩; exact (rfl : _ = _)
    case o25_6_4 | o25_6_5 => have ha := rd1 ha H (by kernel_rfl) rfl; simp only [q3, q5, q6, q7] at ha; subst ha; clear H hU hS; go_wp2_with fail; (try refine hQ _ _ ?_); refine ⟨Step.refl _ _, ?_, trivial, nofun⟩; exact (rfl : _ = _)
    case o25_6_6 | o25_6_7 => obtain ⟨f0, f4, f6, f7, f8, f9⟩ := FF.out _ (S1.out.then hH); obtain ⟨c_dst, z_dst⟩ := FR.out _ (S1.out.then hH) dst ok_dst; obtain ⟨b0, b1, b2, b3, b4, b5, b6, b7, b8, b9⟩ := FB.out _ hH; have ha := rd1 ha H (by kernel_rfl) rfl; simp only [q3, q5, q6, q7] at ha; subst ha; clear H hU hS; go_wp2_with fail; (try refine hQ _ _ ?_); refine ⟨Step.refl _ _, ?_, trivial, nofun⟩; exact (rfl : _ = _)
  intro xv w2 hH hS H hU hsz hF hN
  have h0 : xv 0 = _ := H 0 (by decide) (by kernel_rfl); have h1 : xv 1 = _ := H 1 (by decide) (by kernel_rfl); have h2 : xv 2 = _ := H 2 (by decide) (by kernel_rfl); have h3 : xv 3 = _ := H 3 (by decide) (by kernel_rfl); have h4 : xv 4 = _ := H 4 (by decide) (by kernel_rfl); have h5 : xv 5 = _ := H 5 (by decide) (by kernel_rfl); have h6 : xv 6 = _ := H 6 (by decide) (by kernel_rfl); have h7 : xv 7 = _ := H 7 (by decide) (by kernel_rfl)
  simp only [planDo32, q1, q2, q3, q5, q6, q7, q4, List.drop_succ_cons, List.drop_zero, h0, h1, h2, h3, h4, h5, h6, h7]
  clear H hF hN hS hU h0 h1 h2 h3 h4 h5 h6 h7
  obtain ⟨f0, f4, f6, f7, f8, f9⟩ := FF.out _ (S1.out.then hH)
  obtain ⟨c_dst, z_dst⟩ := FR.out _ (S1.out.then hH) dst ok_dst
  obtain ⟨b0, b1, b2, b3, b4, b5, b6, b7, b8, b9⟩ := FB.out _ hH
  have HH := Lib.hid hH
  clear hH
  go_wp2_with fail
  go_end0
  exact went_set (HW.out.still (S1.out.then HH.out)) (HF.out.still (S1.out.then HH.out)) (S1.out.then HH.out) HL.out (by omega) _
set_option maxHeartbeats 4000000 in
set_option maxRecDepth 100000 in
theorem do_33 (hW : FWAt w0 w pw own fnv tops st c) (hF : FrAt w own pf pw gx vn vp vk vs vc vr vl regs slots lock key) (hl : w0.heap.size ≤ gx) {v : Value} {i : FIns} (hi : InsAt w0 v i) (ho : i.op = 33) (ok_dst : ok1 regs i.dst) :
    Calls Try.prog 61 #[.pointer (some ⟨pf, 0, none⟩), v] w (Went w0 w pw own fnv tops pf gx vn vp vk vs vc vr vl slots lock key st c (regs.set i.dst.toNat (key))) := by
  obtain ⟨va, vo, rfl, iargs, iouts⟩ := hi
  obtain ⟨op, dst, a, b, n, size, name, args, outs, to⟩ := i
  simp only at *
  subst ho
  obtain ⟨rcap, rfl⟩ := regs_slice hF (by unfold ok1 at ok_dst; omega)
  have HW := Lib.hid hW
  have HF := Lib.hid hF
  have HL := Lib.hid hl
  have FF := Lib.hid (frame_facts hF)
  have FR := Lib.hid (reg_facts hF)
  unfold ok1 at ok_dst
  clear hW hF hl
  obtain ⟨f0, f4, f6, f7, f8, f9⟩ := FF.out _ (Step.refl _ _)
  have hpf := block_lt f6
  simp only at hpf
  go_enter Try.func61, Try.ntmps61
  go_upto_region 27 with fail
  have kb := heap_alloc_new w (.cells #[.int .i64 33, .int .i64 dst, .int .i64 a, .int .i64 b, .int .u64 n, .int .i64 size, .string name, va, vo, .int .i64 to] 47 (0, 0))
  have S1 := Lib.hid (Step.alloc (fun _ => False) w (.cells #[.int .i64 33, .int .i64 dst, .int .i64 a, .int .i64 b, .int .u64 n, .int .i64 size, .string name, va, vo, .int .i64 to] 47 (0, 0)))
  clear f0 f4 f6 f7 f8 f9 hpf
  have HT := Lib.hid (show gx < w.heap.size ∧ own w.heap.size = 0 from ⟨HF.out.free.2.2.2, HW.out.fresh0⟩)
  generalize w.alloc (.cells #[.int .i64 33, .int .i64 dst, .int .i64 a, .int .i64 b, .int .u64 n, .int .i64 size, .string name, va, vo, .int .i64 to] 47 (0, 0)) = w1 at kb S1 ⊢
  generalize w.heap.size = tb at kb HT ⊢
  have KB := Lib.hid kb
  have FB := Lib.hid (box_facts kb)
  clear kb
  refine wp_region_each 7 planDo33 (fun _ _ => False) (Step (fun _ => False) w1) (fun _ => True) [Is ?v27_7_0, Is ?v27_7_1, Is ?v27_7_2, Is ?v27_7_3, Is ?v27_7_4, Is ?v27_7_5, Is ?v27_7_6] [] (by kernel_rfl) (by kernel_rfl) (fun _ _ h => h.elim) ((Step.refl _ _).drew) (trivial) ?stab27_7 ?stabD27_7 ?obl27_7 ?fin27_7
  case stab27_7 => exact fun w w' h => ⟨fun k => k.trans h (fun _ x => x.elim), fun _ => trivial, ⟨fun _ k => k, fun _ k => k, fun _ k => k, fun _ k => k, fun _ k => k, fun _ k => k, fun _ k => k, trivial⟩, trivial⟩
  case stabD27_7 => exact fun _ _ h => h.elim
  case obl27_7 =>
    refine ⟨?o27_7_0, ?o27_7_1, ?o27_7_2, ?o27_7_3, ?o27_7_4, ?o27_7_5, ?o27_7_6, trivial⟩
    all_goals intro xv wq hH hS H hU aq ha Q' hQ
    case o27_7_0 | o27_7_1 => cases rd0 ha; clear H hU hS; go_wp2_with fail; (try refine hQ _ _ ?_); refine ⟨Step.refl _ _, ?_, trivial, nofun⟩; exact (rfl : _ = _)
    case o27_7_2 => obtain ⟨f0, f4, f6, f7, f8, f9⟩ := FF.out _ (S1.out.then hH); obtain ⟨c_dst, z_dst⟩ := FR.out _ (S1.out.then hH) dst ok_dst; obtain ⟨b0, b1, b2, b3, b4, b5, b6, b7, b8, b9⟩ := FB.out _ hH; have ha := rd1 ha H (by kernel_rfl) rfl; simp only [q3, q5, q6, q7] at ha; subst ha; clear H hU hS; go_wp2_with fail; (try refine hQ _ _ ?_); refine ⟨Step.refl _ _, ?_, trivial, nofun⟩; exact (rfl : _ = _)
    case o27_7_3 => cases rd0 ha; clear H hU hS; go_wp2_with fail; (try refine hQ _ _ ?_); refine ⟨Step.refl _ _, ?_, trivial, nofun⟩; exact (rfl : _ = _)
    case o27_7_4 | o27_7_5 => have ha := rd1 ha H (by kernel_rfl) rfl; simp only [q3, q5, q6, q7] at ha; subst ha; clear H hU hS; go_wp2_with fail; (try refine hQ _ _ ?_); refine ⟨Step.refl _ _, ?_, trivial, nofun⟩; exact (rfl : _ = _)
    case o27_7_6 => obtain ⟨f0, f4, f6, f7, f8, f9⟩ := FF.out _ (S1.out.then hH); obtain ⟨c_dst, z_dst⟩ := FR.out _ (S1.out.then hH) dst ok_dst; obtain ⟨b0, b1, b2, b3, b4, b5, b6, b7, b8, b9⟩ := FB.out _ hH; have ha := rd1 ha H (by kernel_rfl) rfl; simp only [q3, q5, q6, q7] at ha; subst ha; clear H hU hS; go_wp2_with fail; (try refine hQ _ _ ?_); refine ⟨Step.refl _ _, ?_, trivial, nofun⟩; exact (rfl : _ = _)
  intro xv w2 hH hS H hU hsz hF hN
  have h0 : xv 0 = _ := H 0 (by decide) (by kernel_rfl); have h1 : xv 1 = _ := H 1 (by decide) (by kernel_rfl); have h2 : xv 2 = _ := H 2 (by decide) (by kernel_rfl); have h3 : xv 3 = _ := H 3 (by decide) (by kernel_rfl); have h4 : xv 4 = _ := H 4 (by decide) (by kernel_rfl); have h5 : xv 5 = _ := H 5 (by decide) (by kernel_rfl); have h6 : xv 6 = _ := H 6 (by decide) (by kernel_rfl)
  simp only [planDo33, q1, q2, q3, q5, q6, q7, q4, List.drop_succ_cons, List.drop_zero, h0, h1, h2, h3, h4, h5, h6]
  clear H hF hN hS hU h0 h1 h2 h3 h4 h5 h6
  obtain ⟨f0, f4, f6, f7, f8, f9⟩ := FF.out _ (S1.out.then hH)
  obtain ⟨c_dst, z_dst⟩ := FR.out _ (S1.out.then hH) dst ok_dst
  obtain ⟨b0, b1, b2, b3, b4, b5, b6, b7, b8, b9⟩ := FB.out _ hH
  have HH := Lib.hid hH
  clear hH
  go_wp2_with fail
  go_end0
  exact went_set (HW.out.still (S1.out.then HH.out)) (HF.out.still (S1.out.then HH.out)) (S1.out.then HH.out) HL.out (by omega) _
end
end Go.Proofs.Ytpmbakhnamlooaa
