/- Package mid: a call, walked. -/
import Derived.Test.YtojfgdoniajmeaaMidL
namespace Go.Proofs.Ytojfgdoniajmeaa
set_option linter.unusedVariables false
set_option linter.unusedSimpArgs false
open Go.RowKit

section
variable {w0 w w' w1 w2 : World} {pf pw gx : Nat} {own own' own'' : Nat → Nat} {vn vp vk vs vc vr vl : Value} {regs : List HV} {slots : List HP} {fnv : List UInt8 → Option Value} {tops : List UInt8 → Option HP} {st : MSt} {c : Nat} {fns : List UInt8 → Option FFn}

theorem vrow_zeros (k : Nat) : vrow (List.replicate k HV.zero) = (List.replicate k HV.zero.cells).flatten := by
  unfold vrow
  rw [List.flatMap_replicate]
theorem run_zeros (k : Nat) (hk : k ≤ 1000) (y : World) : (Instr.makeSlice 115 (.int .i64 k) (.int .i64 k)).run Try.prog y = .ok (.slice (some ⟨y.heap.size, 0, none⟩) k k) (y.alloc (.cells (vrow (List.replicate k HV.zero)).toArray 98)) := by
  obtain ⟨i0, hi, hz0, hz1, hz2⟩ := info_parts val_info
  have h := run_make (P := Try.prog) y 115 98 i0 (.agg #[.int .u64 0, .int .i64 0, .int .i64 0, .int .i64 0, .int .i64 0]) Try.underlying115 hi hz0 .i64 .i64 k k (by omega) (Int.le_refl _) (by rw [hz2]; omega) (by omega)
  rw [hz1] at h
  simp only [Int.toNat_natCast] at h
  rw [h]
  have e : madeCells (Value.cells (.agg #[.int .u64 0, .int .i64 0, .int .i64 0, .int .i64 0, .int .i64 0])) (k * 5) = (vrow (List.replicate k HV.zero)).toArray := by
    apply Array.ext_getElem?
    intro j
    have hl : (vrow (List.replicate k HV.zero)).length = k * 5 := by unfold vrow; rw [flat_len _ 5 cells5]; simp
    by_cases hj : j < k * 5
    · have h1 : (vrow (List.replicate k HV.zero))[j]? = HV.zero.cells[j % 5]? := by
        have := flat_at HV.cells 5 cells5 (List.replicate k HV.zero) (j / 5) (by simp; omega) (j % 5) (by omega)
        rw [show j / 5 * 5 + j % 5 = j by omega] at this
        unfold vrow
        rw [this]
        simp
      have hm : (madeCells (Value.cells (.agg #[.int .u64 0, .int .i64 0, .int .i64 0, .int .i64 0, .int .i64 0])) (k * 5))[j]? = some ((Value.cells (.agg #[.int .u64 0, .int .i64 0, .int .i64 0, .int .i64 0, .int .i64 0]))[j % 5]!) := by
        unfold madeCells
        rw [Array.getElem?_map, Array.getElem?_range, if_pos hj]
        rfl
      have e2 : (vrow (List.replicate k HV.zero)).toArray[j]? = (vrow (List.replicate k HV.zero))[j]? := by simp
      rw [hm, e2, h1]
      rcases (by omega : j % 5 = 0 ∨ j % 5 = 1 ∨ j % 5 = 2 ∨ j % 5 = 3 ∨ j % 5 = 4) with q | q | q | q | q <;> (rw [q]; rfl)
    · rw [Array.getElem?_eq_none (by rw [size_madeCells]; omega), Array.getElem?_eq_none (by rw [List.size_toArray]; omega)]
  rw [e]
/-- a call's registers, just made -/
def NewRow (W : World) (k : Nat) (y : Value) (w : World) : Prop := ∃ b, y = .slice (some ⟨b, 0, none⟩) k k ∧ W.heap.size ≤ b ∧ w.heap[b]? = some (.cells (vrow (List.replicate k HV.zero)).toArray 98 (0, 0))
theorem NewRow.stable {W : World} {k : Nat} {y : Value} (h : Step (fun _ => False) w w') (g : NewRow W k y w) : NewRow W k y w' := by
  obtain ⟨b, e, l, g⟩ := g
  exact ⟨b, e, l, h.keeps g⟩
theorem MFr.fresh {f gx k : Nat} (hf : w.heap[f]? = some (.cells #[.pointer (some ⟨pw, 0, none⟩), vn, vp, vk, vs, vc, .slice (some ⟨gx, 0, none⟩) k k, .slice none 0 0] 119 (0, 0))) (hx : w.heap[gx]? = some (.cells (vrow (List.replicate k HV.zero)).toArray 98 (0, 0))) (h1 : own f = 0) (h2 : own gx = 0) (hne : f ≠ gx) (hk : k ≤ 1000) :
    MFr w own f pw gx vn vp vk vs vc (.slice (some ⟨gx, 0, none⟩) k k) (.slice none 0 0) (List.replicate k HV.zero) [] := by
  have hl : (vrow (List.replicate k HV.zero)).length = k * 5 := by unfold vrow; rw [flat_len _ 5 cells5]; simp
  refine ⟨hf, ⟨by rw [hl]; simp, .inr ⟨gx, k, _, by simp, rfl, hx, by simp, by simp only [maxLen]; omega, by rw [List.size_toArray, hl], ?_⟩⟩, ⟨by simp [prow], .inl ⟨rfl, rfl⟩⟩, h1, h2, hne, lt_obj hx⟩
  rw [List.length_replicate, List.take_of_length_le (by simp [hl])]
theorem vals_known {F : Nat → Prop} {va : Value} {l : List HV} (h : RowAt w F 98 5 va l.length (vrow l)) (h0 : 0 < l.length) : ∃ g cap, va = .slice (some ⟨g, 0, none⟩) l.length cap ∧ F g ∧ g < w.heap.size ∧ l.length ≤ cap ∧ cap ≤ maxLen ∧ ∀ k, k < l.length → w.cell? ⟨g, k * 5, none⟩ = some (.int .u64 (l.getD k HV.zero).num) ∧ w.cell? ⟨g, k * 5 + 1, none⟩ = some (.int .i64 (l.getD k HV.zero).ptr.block) ∧ w.cell? ⟨g, k * 5 + 2, none⟩ = some (.int .i64 (l.getD k HV.zero).ptr.off) ∧ w.cell? ⟨g, k * 5 + 3, none⟩ = some (.int .i64 (l.getD k HV.zero).ptr.low) ∧ w.cell? ⟨g, k * 5 + 4, none⟩ = some (.int .i64 (l.getD k HV.zero).ptr.high) := by
  obtain ⟨g, cap, cur, rfl, hg, hr, h1, h2, h3, h4⟩ := h.some h0
  refine ⟨g, cap, rfl, hg, lt_known hr, h1, h2, fun k hk => ?_⟩
  have e : l[k]'hk = l.getD k HV.zero := by rw [List.getD_eq_getElem?_getD, List.getElem?_eq_getElem hk]; rfl
  have kk := fun (j : Nat) (hj : j < 5) (u : Value) (hu : (l.getD k HV.zero).cells[j]? = some u) => row_cell hr h4 (j := k * 5 + j) (u := u) (by unfold vrow; rw [flat_at _ 5 cells5 l k hk j hj, e]; exact hu)
  exact ⟨kk 0 (by omega) _ rfl, kk 1 (by omega) _ rfl, kk 2 (by omega) _ rfl, kk 3 (by omega) _ rfl, kk 4 (by omega) _ rfl⟩
/-- registers are set: the machine stays -/
theorem MWAt.offReg (h : MWAt w0 w pw own fnv tops st c) (hg : own gx = 0) (hl : w0.heap.size ≤ gx) (s : Step (fun b => b = gx) w w') : MWAt w0 w' pw own fnv tops st c :=
  h.off (fun b _ hlt e => by
    by_cases hb : b = gx
    · rw [hb]; exact hl
    · exact absurd (s.block b hlt hb) e) (s.mono fun b _ e => by rw [e]; exact hg)
theorem MWAt.cell_old (h : MWAt w0 w pw own fnv tops st c) {a : Addr} (hb : a.block < w0.heap.size) : w.cell? a = w0.cell? a := cell_of (h.since.block _ hb (fun x => by omega))
theorem slotsM_snoc (n : Int) : ∀ (l : List Int) (st : MSt), slotsM (l ++ [n]) st = ({ (slotsM l st).1 with blks := (slotsM l st).1.blks ++ [⟨n, false, true, false⟩] }, (slotsM l st).2 ++ [⟨(slotsM l st).1.blks.length, 0, 0, n⟩])
  | [], st => rfl
  | m :: l, st => by
    rw [List.cons_append, slotsM, slotsM_snoc n l, slotsM]
    rfl
theorem endAll_snoc (p : HP) : ∀ (l : List HP) (st : MSt), endAll (l ++ [p]) st = endM (endAll l st) p.block
  | [], st => rfl
  | q :: l, st => by rw [List.cons_append, endAll, endAll_snoc p l, endAll]

theorem ptr_info : (Try.prog.info? 94).map (fun i => (i.zero, i.size, i.bytes)) = some (some (.agg #[.int .i64 0, .int .i64 0, .int .i64 0, .int .i64 0]), 4, 32) := by kernel_rfl
/-- a row of pointers of a call's own got one more -/
def GrewP (W : World) (gs n : Nat) (xs : List Value) (y : Value) (w : World) : Prop := ∃ g cap, y = .slice (some ⟨g, 0, none⟩) n cap ∧ RowAt w (fun b => b = gs ∨ W.heap.size ≤ b) 94 4 (.slice (some ⟨g, 0, none⟩) n cap) n xs ∧ Step (fun b => b = gs) W w
theorem GrewP.stable {W : World} {gs n : Nat} {xs : List Value} {y : Value} (h : Step (fun _ => False) w w') (k : GrewP W gs n xs y w) : GrewP W gs n xs y w' := by
  obtain ⟨g, cap, e, k1, k2⟩ := k
  exact ⟨g, cap, e, k1.same fun b _ hb => h.block b hb fun x => x, k2.trans h fun _ x => x.elim⟩
theorem MFr.grow {gs : Nat} (h : MFr w1 own pf pw gx vn vp vk vs vc vr vl regs slots) (s : Step (fun b => b = gs) w1 w2) (hg : gs ≠ pf ∧ gs ≠ gx) {vl' : Value} {slots' : List HP} (hr : RowAt w2 (fun b => own b = 0 ∧ b ≠ gx ∧ b ≠ pf) 94 4 vl' slots'.length (prow slots')) :
    MFr (w2.setCell ⟨pf, 7, none⟩ vl') own pf pw gx vn vp vk vs vc vr vl' regs slots' := by
  obtain ⟨f1, f2, f3, f4⟩ := h.free
  have hz := s.size
  have k := (s.block pf (lt_known h.struct) (fun e => hg.1 e.symm)).trans h.struct
  refine ⟨by rw [set_known k]; rfl, (h.regs.same (w' := w2) fun b hb hlt => s.block b hlt fun e => hg.2 (by rw [← e, hb])).same fun b hb _ => set_other _ _ fun e => f3 (by rw [hb] at e; exact e.symm), hr.same fun b hb _ => set_other _ _ hb.2.2, f1, f2, f3, by simp; omega⟩
theorem MWAt.setReg (h : MWAt w0 w pw own fnv tops st c) {b : Nat} (hg : own b = 0) (hl : w0.heap.size ≤ b) (i : Nat) (v : Value) : MWAt w0 (w.setCell ⟨b, i, none⟩ v) pw own fnv tops st c :=
  h.offReg hg hl (Step.setCell (fun x => x = b) w ⟨b, i, none⟩ v rfl)
theorem prow_snoc (l : List HP) (p : HP) : prow (l ++ [p]) = prow l ++ p.cells.toList := by unfold prow; simp
/-- how many steps there are at most, off the machine's struct -/
def stepsLeft (pw : Nat) (w : World) : Nat := match w.cell? ⟨pw, 6, none⟩ with
  | some (.int _ s) => (100000 - s).toNat
  | _ => 0
theorem stepsLeft_of {s : Int} (h : w.cell? ⟨pw, 6, none⟩ = some (.int .i64 s)) : stepsLeft pw w = (100000 - s).toNat := by unfold stepsLeft; rw [h]
theorem Chg.transG (h : Chg own own' w w1) (g : ChgG gx own' own'' w1 w2) (hg : w.heap.size ≤ gx) : Chg own own'' w w2 :=
  ⟨h.step.trans g.step fun b hb => by
    rcases hb with hb | hb
    · by_cases hlt : b < w.heap.size
      · exact .inl (by rw [← h.same b hlt]; exact hb)
      · exact .inr (by omega)
    · exact .inr (by rw [hb]; exact hg), fun b hb => (g.same b (Nat.lt_of_lt_of_le hb h.step.size)).trans (h.same b hb)⟩
theorem ChgG.keeps {b : Nat} {o : Obj} (h : ChgG gx own own' w w1) (hb : w.heap[b]? = some o) (ho : own b = 0) (hn : b ≠ gx) : w1.heap[b]? = some o ∧ own' b = 0 :=
  ⟨(h.step.block b (lt_obj hb) fun x => x.elim (fun k => k ho) hn).trans hb, (h.same b (lt_obj hb)).trans ho⟩
/-- one more step -/
theorem MParts.steps {ph bt bf : Nat} {vi vo : Value} (P : MParts w0 w pw own fnv tops st c ph bt bf vi vo) (n : Int) : MParts w0 (w.setCell ⟨pw, 6, none⟩ (.int .i64 n)) pw own fnv tops { st with steps := n } c ph bt bf vi vo ∧ Chg own own w (w.setCell ⟨pw, 6, none⟩ (.int .i64 n)) := by
  have t1 := P.tag.1
  have s : Step (fun b => own b ≠ 0) w (w.setCell ⟨pw, 6, none⟩ (.int .i64 n)) := Step.setCell _ _ _ _ (by show own pw ≠ 0; omega)
  exact ⟨P.next 0 (Nat.le_refl c) s (fun _ _ => rfl) (fun b hb => Nat.lt_of_lt_of_le (P.low b hb).2 s.size) (fun b h0 h1 _ => set_other _ _ fun e => h1 (by rw [e]; exact t1)) ⟨by decide, by decide⟩ (by rw [set_known P.struct]; rfl) ⟨rfl, rfl⟩ ⟨rfl, rfl⟩ P.input, s, fun _ _ => rfl⟩
/-- the state at the head of a call's loop -/
structure AtLoop (w0 w wr : World) (pw : Nat) (own : Nat → Nat) (fnv : List UInt8 → Option Value) (tops : List UInt8 → Option HP) (fns : List UInt8 → Option FFn) (pf gx tg tr : Nat) (vp vk vs vc vr vl : Value) (g : FFn) (slots : List HP) (res : MRes) (st : MSt) (x : List HV) (m : Nat) (a : Int) (ownc : Nat → Nat) (c : Nat) : Prop where
  at0 : 0 ≤ a ∧ a < g.code.length
  eq : res = loopM fns tops m g slots st x a
  gas : (st.fuel - st.steps).toNat ≤ m
  inv : SInvM tops st 0
  finv : FInvM g slots x
  cost : (c : Int) ≤ 4000 + 2000 * st.steps
  chg : Chg own ownc w wr
  mach : MWAt w0 wr pw ownc fnv tops st c
  frame : MFr wr ownc pf pw gx (.string g.name) vp vk vs vc vr vl x slots
  box : wr.heap[tg]? = some (.cells #[.string g.name, vp, vk, vs, vc] 46 (0, 0))
  ans : wr.heap[tr]? = some (.cells #[.int .u64 0, .int .i64 0, .int .i64 0, .int .i64 0, .int .i64 0] 98 (0, 0))
  free : ownc tg = 0 ∧ ownc tr = 0
theorem AtLoop.still {wr : World} {tg tr : Nat} {vp : Value} {g : FFn} {res : MRes} {x : List HV} {m : Nat} {a : Int} {ownc : Nat → Nat} (h : AtLoop w0 w wr pw own fnv tops fns pf gx tg tr vp vk vs vc vr vl g slots res st x m a ownc c) (s : Step (fun _ => False) wr w1) : AtLoop w0 w w1 pw own fnv tops fns pf gx tg tr vp vk vs vc vr vl g slots res st x m a ownc c :=
  ⟨h.at0, h.eq, h.gas, h.inv, h.finv, h.cost, h.chg.trans (Chg.calm ownc s), h.mach.still s, h.frame.still s, s.keeps h.box, s.keeps h.ans, h.free⟩
def planCl1 : Plan where
  T := [[], [], [], [2], [2, 3], [2, 3, 4], [0, 1, 2, 3, 4, 5], [0, 1, 2, 3, 4, 5, 6], [0, 1, 2, 3, 4, 5, 6, 7]]
  rd := [[], [], [], [(2, some 20)], [(3, some 21)], [(4, some 22)]]
  all := [(5, some 23), (4, some 22), (3, some 21), (2, some 20), (1, some 19), (0, some 18)]
  calm := [true, true, true, true, true, true]
  hard := []
  fresh := [false, false, false, false, false, true]

def planCl5 : Plan where
  T := [[], [0], [0, 1], [0, 1, 2], [], [], [], [5, 6], [5, 6, 7], [0, 1, 2, 3, 4, 5, 6, 7, 8], [0, 1, 2, 3, 4, 5, 6, 7, 8, 9]]
  rd := [[], [(0, some 34)], [(1, some 35)], [(2, some 36)], [], [], [], [(5, some 39), (6, some 40)], [(7, some 41)]]
  all := [(8, some 42), (7, some 41), (6, some 40), (5, some 39), (4, some 38), (3, some 37), (2, some 36), (1, some 35), (0, some 34)]
  calm := [true, true, true, true, true, true, true, true, true]
  hard := []
  fresh := [false, false, false, false, false, false, false, false, false]

def planCl11 : Plan where
  T := [[], [], [1], [1, 2], [1, 2, 3], [], [5], [1, 2, 3, 4, 5, 6], [0, 1, 2, 3, 4, 5, 6, 7], [0, 1, 2, 3, 4, 5, 6, 7, 8], [0, 1, 2, 3, 4, 5, 6, 7, 8, 9]]
  rd := [[], [], [(1, some 62)], [(2, some 63)], [(3, some 64)], [], [(5, some 66)], [(4, some 65), (6, some 67)]]
  all := [(7, some 68), (6, some 67), (5, some 66), (4, some 65), (3, some 64), (2, some 63), (1, some 62), (0, some 61)]
  calm := [true, true, true, true, true, true, true, false]
  hard := [true, true, true, true, true, true, false, true]
  fresh := [false, false, false, false, false, false, true, false]

def planCl14 : Plan where
  T := [[], [0], [0, 1], [0, 1, 2], [], [4], [4, 5], [4, 5, 6], [0, 1, 2, 3, 4, 5, 6, 7]]
  rd := [[], [(0, some 72)], [(1, some 73)], [(2, some 74)], [], [(4, some 76)], [(5, some 77)], [(6, some 78)]]
  all := [(7, some 79), (6, some 78), (5, some 77), (4, some 76), (3, some 75), (2, some 74), (1, some 73), (0, some 72)]
  calm := [true, true, true, true, true, true, true, true]
  hard := []
  fresh := [false, false, false, false, false, false, false, false]

def planCl22 : Plan where
  T := [[], [0], [0, 1], [0, 1, 2], [], [4], [0, 1, 2, 3, 4, 5]]
  rd := [[], [(0, some 107)], [(1, some 108)], [(2, some 109)], [], [(4, some 111)]]
  all := [(5, some 112), (4, some 111), (3, some 110), (2, some 109), (1, some 108), (0, some 107)]
  calm := [true, true, true, true, true, true]
  hard := []
  fresh := [false, false, false, false, false, false]

def planCl26 : Plan where
  T := [[], [0], [0, 1], [0, 1, 2], [], [4], [0, 1, 2, 3, 4, 5], [0, 1, 2, 3, 4, 5, 6], [0, 1, 2, 3, 4, 5, 6, 7]]
  rd := [[], [(0, some 119)], [(1, some 120)], [(2, some 121)], [], [(4, some 123)]]
  all := [(5, some 124), (4, some 123), (3, some 122), (2, some 121), (1, some 120), (0, some 119)]
  calm := [true, true, true, true, true, true]
  hard := []
  fresh := [false, false, false, false, false, false]

def planCl28a : Plan where
  T := [[], [0], [0, 1], [0, 1, 2], [0, 1, 2, 3], [0, 1, 2, 3, 4], [0, 1, 2, 3, 4, 5], [0, 1, 2, 3, 4, 5, 6], [0, 1, 2, 3, 4, 5, 6, 7], [0, 1, 2, 3, 4, 5, 6, 7, 8], [0, 1, 2, 3, 4, 5, 6, 7, 8, 9], [0, 1, 2, 3, 4, 5, 6, 7, 8, 9, 10], [0, 1, 2, 3, 4, 5, 6, 7], [0, 1, 2, 3, 4, 5, 6, 7, 12], [0, 1, 2, 3, 4, 5, 6, 7, 8, 9, 10, 11, 12, 13], [0, 1, 2, 3, 4, 5, 6, 7, 8, 9, 10, 11, 12, 13, 14], [0, 1, 2, 3, 4, 5, 6, 7, 8, 9, 10, 11, 12, 13, 14, 15], [0, 1, 2, 3, 4, 5, 6, 7, 8, 9, 10, 11, 12, 13, 14, 15, 16], [0, 1, 2, 3, 4, 5, 6, 7, 8, 9, 10, 11, 12, 13, 14, 15, 16, 17], [0, 1, 2, 3, 4, 5, 6, 7, 8, 9, 10, 11, 12, 13, 14, 15, 16, 17, 18]]
  rd := [[], [(0, some 129)], [(1, some 130)], [(2, some 131)], [(3, some 132)], [(3, some 132), (4, some 133)], [(3, some 132), (5, some 134)], [(3, some 132), (6, some 135)], [(7, some 136)], [(7, some 136), (8, some 137)], [(7, some 136), (9, some 138)], [(7, some 136), (10, some 139)], [(7, some 136)], [(7, some 136), (12, some 141)]]
  all := [(13, some 142), (12, some 141), (11, some 140), (10, some 139), (9, some 138), (8, some 137), (7, some 136), (6, some 135), (5, some 134), (4, some 133), (3, some 132), (2, some 131), (1, some 130), (0, some 129)]
  calm := [true, true, true, true, true, true, true, true, true, true, true, true, true, true]
  hard := []
  fresh := [false, false, false, false, false, false, false, false, false, false, false, false, false, false]

def planCl28b : Plan where
  T := [[], [0], [0, 1], [0, 1, 2], [0, 1, 2, 3], [0, 1, 2, 3, 4], [0, 1, 2, 3, 4, 5], [0, 1, 2, 3, 4, 5, 6], [0, 1, 2, 3, 4, 5, 6, 7], [0, 1, 2, 3, 4, 5, 6, 7, 8], [0, 1, 2, 3, 4, 5, 6, 7, 8, 9], [0, 1, 2, 3, 4, 5, 6, 7, 8, 9, 10], [0, 1, 2, 3, 4, 5, 6, 7], [0, 1, 2, 3, 4, 5, 6, 7, 12], [0, 1, 2, 3, 4, 5, 6, 7, 8, 9, 10, 11, 12, 13], [0, 1, 2, 3, 4, 5, 6, 7, 8, 9, 10, 11, 12, 13, 14], [0, 1, 2, 3, 4, 5, 6, 7, 8, 9, 10, 11, 12, 13, 14, 15], [0, 1, 2, 3, 4, 5, 6, 7, 8, 9, 10, 11, 12, 13, 14, 15, 16], [0, 1, 2, 3, 4, 5, 6, 7, 8, 9, 10, 11, 12, 13, 14, 15, 16, 17], [0, 1, 2, 3, 4, 5, 6, 7, 8, 9, 10, 11, 12, 13, 14, 15, 16, 17, 18]]
  rd := [[], [(0, some 129)], [(1, some 130)], [(2, some 131)], [(3, some 132)], [(3, some 132), (4, some 133)], [(3, some 132), (5, some 134)], [(3, some 132), (6, some 135)], [(7, some 136)], [(7, some 136), (8, some 137)], [(7, some 136), (9, some 138)], [(7, some 136), (10, some 139)], [(7, some 136)], [(7, some 136), (12, some 141)]]
  all := [(13, some 142), (12, some 141), (11, some 140), (10, some 139), (9, some 138), (8, some 137), (7, some 136), (6, some 135), (5, some 134), (4, some 133), (3, some 132), (2, some 131), (1, some 130), (0, some 129)]
  calm := [true, true, true, true, true, true, true, true, true, true, true, true, true, true]
  hard := []
  fresh := [false, false, false, false, false, false, false, false, false, false, false, false, false, false]

def planCl28c : Plan where
  T := [[], [0], [0, 1], [0, 1, 2], [0, 1, 2, 3], [0, 1, 2, 3, 4], [0, 1, 2, 3, 4, 5], [0, 1, 2, 3, 4, 5, 6], [0, 1, 2, 3, 4, 5, 6, 7], [0, 1, 2, 3, 4, 5, 6, 7, 8], [0, 1, 2, 3, 4, 5, 6, 7, 8, 9], [0, 1, 2, 3, 4, 5, 6, 7, 8, 9, 10], [0, 1, 2, 3, 4, 5, 6, 7], [0, 1, 2, 3, 4, 5, 6, 7, 12], [0, 1, 2, 3, 4, 5, 6, 7, 8, 9, 10, 11, 12, 13], [0, 1, 2, 3, 4, 5, 6, 7, 8, 9, 10, 11, 12, 13, 14], [0, 1, 2, 3, 4, 5, 6, 7, 8, 9, 10, 11, 12, 13, 14, 15], [0, 1, 2, 3, 4, 5, 6, 7, 8, 9, 10, 11, 12, 13, 14, 15, 16], [0, 1, 2, 3, 4, 5, 6, 7, 8, 9, 10, 11, 12, 13, 14, 15, 16, 17], [0, 1, 2, 3, 4, 5, 6, 7, 8, 9, 10, 11, 12, 13, 14, 15, 16, 17, 18]]
  rd := [[], [(0, some 129)], [(1, some 130)], [(2, some 131)], [(3, some 132)], [(3, some 132), (4, some 133)], [(3, some 132), (5, some 134)], [(3, some 132), (6, some 135)], [(7, some 136)], [(7, some 136), (8, some 137)], [(7, some 136), (9, some 138)], [(7, some 136), (10, some 139)], [(7, some 136)], [(7, some 136), (12, some 141)]]
  all := [(13, some 142), (12, some 141), (11, some 140), (10, some 139), (9, some 138), (8, some 137), (7, some 136), (6, some 135), (5, some 134), (4, some 133), (3, some 132), (2, some 131), (1, some 130), (0, some 129)]
  calm := [true, true, true, true, true, true, true, true, true, true, true, true, true, true]
  hard := []
  fresh := [false, false, false, false, false, false, false, false, false, false, false, false, false, false]

def planCl28d : Plan where
  T := [[], [0], [0, 1], [0, 1, 2], [0, 1, 2, 3], [0, 1, 2, 3, 4], [0, 1, 2, 3, 4, 5], [0, 1, 2, 3, 4, 5, 6], [0, 1, 2, 3, 4, 5, 6, 7], [0, 1, 2, 3, 4, 5, 6, 7, 8], [0, 1, 2, 3, 4, 5, 6, 7, 8, 9], [0, 1, 2, 3, 4, 5, 6, 7, 8, 9, 10], [0, 1, 2, 3, 4, 5, 6, 7], [0, 1, 2, 3, 4, 5, 6, 7, 12], [0, 1, 2, 3, 4, 5, 6, 7, 8, 9, 10, 11, 12, 13], [0, 1, 2, 3, 4, 5, 6, 7, 8, 9, 10, 11, 12, 13, 14], [0, 1, 2, 3, 4, 5, 6, 7, 8, 9, 10, 11, 12, 13, 14, 15], [0, 1, 2, 3, 4, 5, 6, 7, 8, 9, 10, 11, 12, 13, 14, 15, 16], [0, 1, 2, 3, 4, 5, 6, 7, 8, 9, 10, 11, 12, 13, 14, 15, 16, 17], [0, 1, 2, 3, 4, 5, 6, 7, 8, 9, 10, 11, 12, 13, 14, 15, 16, 17, 18]]
  rd := [[], [(0, some 129)], [(1, some 130)], [(2, some 131)], [(3, some 132)], [(3, some 132), (4, some 133)], [(3, some 132), (5, some 134)], [(3, some 132), (6, some 135)], [(7, some 136)], [(7, some 136), (8, some 137)], [(7, some 136), (9, some 138)], [(7, some 136), (10, some 139)], [(7, some 136)], [(7, some 136), (12, some 141)]]
  all := [(13, some 142), (12, some 141), (11, some 140), (10, some 139), (9, some 138), (8, some 137), (7, some 136), (6, some 135), (5, some 134), (4, some 133), (3, some 132), (2, some 131), (1, some 130), (0, some 129)]
  calm := [true, true, true, true, true, true, true, true, true, true, true, true, true, true]
  hard := []
  fresh := [false, false, false, false, false, false, false, false, false, false, false, false, false, false]

set_option maxHeartbeats 8000000 in
set_option maxRecDepth 100000 in
theorem call_any (n : Nat) (hE : UEnvM w0 fnv fns) (IH : ∀ k, k < n → CallC w0 pw fnv fns tops k) : CallC w0 pw fnv fns tops n := by
  intro w own st c g gv args va hW hS hc hgv hgg hla haok hva hfuel
  obtain ⟨vp, vk, vs, vc, rfl, hp, hk, hs, hcode⟩ := hgv
  have HKD := Lib.hid hk
  obtain ⟨⟨pk, kcap, rfl, hk1, hk2, hkc⟩, _⟩ := hk
  have HW := Lib.hid hW
  have HS := Lib.hid hS
  have HC := Lib.hid hc
  have HG := Lib.hid hgg
  have HLA := Lib.hid hla
  have HCL := Lib.hid hgg.code.2
  have HAOK := Lib.hid haok
  have HVA := Lib.hid hva
  have HP := Lib.hid hp
  have HSL := Lib.hid hs
  have HCD := Lib.hid hcode
  have HFU := Lib.hid hfuel
  have hkl : g.kinds.length ≤ 1000 := hgg.kinds
  have MK := Lib.hid (run_zeros g.kinds.length hkl)
  clear hW hS hc hgg hla haok hva hp hs hcode hfuel hk1 hk2 hkc
  have HZ0 := Lib.hid (show (w.alloc (.cells #[.string g.name, vp, .slice pk g.kinds.length kcap, vs, vc] 46 (0, 0))).heap.size = w.heap.size + 1 from by simp)
  have KB0 := Lib.hid (heap_alloc_new w (.cells #[.string g.name, vp, .slice pk g.kinds.length kcap, vs, vc] 46 (0, 0)))
  have S0 := Lib.hid (Step.alloc (fun _ => False) w (.cells #[.string g.name, vp, .slice pk g.kinds.length kcap, vs, vc] 46 (0, 0)))
  go_enter Try.func34, Try.ntmps34
  go_upto_region 1 with fail
  generalize w.alloc (.cells #[.string g.name, vp, .slice pk g.kinds.length kcap, vs, vc] 46 (0, 0)) = wa at HZ0 KB0 S0 ⊢
  have kv := heap_alloc_new wa (.cells #[.int .u64 0, .int .i64 0, .int .i64 0, .int .i64 0, .int .i64 0] 98 (0, 0))
  have s2 := Step.alloc (fun _ => False) wa (.cells #[.int .u64 0, .int .i64 0, .int .i64 0, .int .i64 0, .int .i64 0] 98 (0, 0))
  rw [HZ0.out] at kv
  generalize wa.alloc (.cells #[.int .u64 0, .int .i64 0, .int .i64 0, .int .i64 0, .int .i64 0] 98 (0, 0)) = w1 at kv s2 ⊢
  have HOW := Lib.hid (show ∀ b, w.heap.size ≤ b → own b = 0 from fun b hb => by
    by_cases e : own b = 0
    · exact e
    · have := (HW.out.low b e).2; omega)
  obtain ⟨tg, htg⟩ : ∃ tg, w.heap.size = tg := ⟨_, rfl⟩
  obtain ⟨tr, htr⟩ : ∃ tr, w.heap.size + 1 = tr := ⟨_, rfl⟩
  rw [htr] at kv ⊢
  rw [htg] at KB0 ⊢
  have KB := Lib.hid (s2.keeps KB0.out)
  have KR := Lib.hid kv
  have S1 := Lib.hid (S0.out.then s2)
  have HTG := Lib.hid (show w.heap.size = tg ∧ tr = tg + 1 from ⟨htg, by omega⟩)
  clear KB0 kv s2 htg htr HZ0 S0
  refine wp_region_each 6 planCl1 (fun _ _ => False) (Step (fun _ => False) w1) (fun _ => True) [Is ?v1_1_0, Is ?v1_1_1, Is ?v1_1_2, Is ?v1_1_3, Is ?v1_1_4, NewRow w1 g.kinds.length] [] (by kernel_rfl) (by kernel_rfl) (fun _ _ h => h.elim) ((Step.refl _ _).drew) (trivial) ?stab1_1 ?stabD1_1 ?obl1_1 ?fin1_1
  case stab1_1 => exact fun w w' h => ⟨fun k => k.trans h (fun _ x => x.elim), fun _ => trivial, ⟨fun _ k => k, fun _ k => k, fun _ k => k, fun _ k => k, fun _ k => k, fun _ k => NewRow.stable h k, trivial⟩, trivial⟩
  case stabD1_1 => exact fun _ _ h => h.elim
  case obl1_1 =>
    refine ⟨?o1_1_0, ?o1_1_1, ?o1_1_2, ?o1_1_3, ?o1_1_4, ?o1_1_5, trivial⟩
    all_goals intro xv wq hH hS H hU aq ha Q' hQ
    case o1_1_0 => cases rd0 ha; clear H hU hS; go_wp2_with fail; (try refine hQ _ _ ?_); refine ⟨Step.refl _ _, ?_, trivial, nofun⟩; exact (rfl : _ = _)
    case o1_1_1 => obtain ⟨g0, g1, g2, g3, g4, _⟩ := cells_known5 (hH.keeps KB.out); have mk := MK.out wq; cases rd0 ha; clear H hU hS; go_wp2_with fail; (try refine hQ _ _ ?_); refine ⟨Step.refl _ _, ?_, trivial, nofun⟩; exact (rfl : _ = _)
    case o1_1_2 => cases rd0 ha; clear H hU hS; go_wp2_with fail; (try refine hQ _ _ ?_); refine ⟨Step.refl _ _, ?_, trivial, nofun⟩; exact (rfl : _ = _)
    case o1_1_3 | o1_1_4 => obtain ⟨g0, g1, g2, g3, g4, _⟩ := cells_known5 (hH.keeps KB.out); have mk := MK.out wq; have ha := rd1 ha H (by kernel_rfl) rfl; simp only [q3, q5, q6, q7] at ha; subst ha; clear H hU hS; go_wp2_with fail; (try refine hQ _ _ ?_); refine ⟨Step.refl _ _, ?_, trivial, nofun⟩; exact (rfl : _ = _)
    case o1_1_5 => obtain ⟨g0, g1, g2, g3, g4, _⟩ := cells_known5 (hH.keeps KB.out); have mk := MK.out wq; have h4 : xv 4 = _ := H 4 (by kernel_rfl); change aq = puts _ xv [(4, some 22)] at ha; simp only [q1, q2, q3, q5, q6, q7, h4] at ha; subst ha; clear H h4; clear hU hS; go_wp2_with fail; (try refine hQ _ _ ?_); refine ⟨Step.alloc _ _ _, ?_, trivial, fun _ => ⟨_, rfl, Nat.le_refl _, by simp⟩⟩; exact ⟨_, rfl, hH.size, heap_alloc_new _ _⟩
  intro xv w2 hH hS H hU hsz hF hN
  have h0 : xv 0 = _ := H 0 (by decide) (by kernel_rfl); have h1 : xv 1 = _ := H 1 (by decide) (by kernel_rfl); have h2 : xv 2 = _ := H 2 (by decide) (by kernel_rfl); have h3 : xv 3 = _ := H 3 (by decide) (by kernel_rfl); have h4 : xv 4 = _ := H 4 (by decide) (by kernel_rfl); obtain ⟨b5, h5, l5, k5⟩ : (NewRow w1 g.kinds.length) (xv 5) w2 := H 5 (by decide) (by kernel_rfl)
  simp only [planCl1, q1, q2, q3, q5, q6, q7, q4, List.drop_succ_cons, List.drop_zero, h0, h1, h2, h3, h4, h5]
  clear H hF hN hS hU h0 h1 h2 h3 h4 h5
  have K5 := Lib.hid k5
  have S2 := Lib.hid (S1.out.then hH)
  have KB2 := Lib.hid (hH.keeps KB.out)
  have KR2 := Lib.hid (hH.keeps KR.out)
  have L5 := Lib.hid (show w.heap.size ≤ b5 ∧ b5 ≠ tg ∧ b5 ≠ tr ∧ b5 < w2.heap.size from by
    have h1 := S1.out.size
    have h2 := lt_obj KB.out
    have h3 := lt_obj k5
    have h4 := lt_obj KR.out
    omega)
  clear hH k5 l5
  go_upto_region 2 with fail
  have kf := heap_alloc_new w2 (.cells #[.pointer (some ⟨pw, 0, none⟩), .string g.name, vp, .slice pk g.kinds.length kcap, vs, vc, .slice (some ⟨b5, 0, none⟩) g.kinds.length g.kinds.length, .slice none 0 0] 119 (0, 0))
  have s3 := Step.alloc (fun _ => False) w2 (.cells #[.pointer (some ⟨pw, 0, none⟩), .string g.name, vp, .slice pk g.kinds.length kcap, vs, vc, .slice (some ⟨b5, 0, none⟩) g.kinds.length g.kinds.length, .slice none 0 0] 119 (0, 0))
  generalize w2.alloc (.cells #[.pointer (some ⟨pw, 0, none⟩), .string g.name, vp, .slice pk g.kinds.length kcap, vs, vc, .slice (some ⟨b5, 0, none⟩) g.kinds.length g.kinds.length, .slice none 0 0] 119 (0, 0)) = w3 at kf s3 ⊢
  obtain ⟨pf, hpf⟩ : ∃ pf, w2.heap.size = pf := ⟨_, rfl⟩
  rw [hpf] at kf ⊢
  have K3 := Lib.hid (s3.keeps KB2.out)
  have KR3 := Lib.hid (s3.keeps KR2.out)
  have LPF := Lib.hid (show w.heap.size ≤ pf ∧ pf ≠ tg ∧ pf ≠ b5 ∧ b5 ≠ tg ∧ w.heap.size ≤ b5 ∧ w.heap.size = tg ∧ pf ≠ tr ∧ b5 ≠ tr ∧ tg ≠ tr ∧ w.heap.size ≤ tr from by
    have h1 := S2.out.size
    have h2 := lt_obj KB2.out
    have h3 := L5.out
    have h4 := HTG.out
    have h5 := lt_obj KR2.out
    omega)
  have HF3 := Lib.hid (MFr.fresh (own := own) kf (s3.keeps K5.out) (HOW.out _ LPF.out.1) (HOW.out _ LPF.out.2.2.2.2.1) LPF.out.2.2.1 hkl)
  have S3 := Lib.hid (S2.out.then s3)
  clear kf s3 hpf
  obtain ⟨g0, g1, g2, g3, g4, _⟩ := cells_known5 K3.out
  obtain ⟨⟨pp, pcap, rfl, hp1, hp2, hpc⟩, _⟩ := HP.out
  have HPC := Lib.hid hpc
  have HPL := Lib.hid (HG.out.params)
  clear hpc hp2
  have hpl : g.params.length ≤ 1000 := HPL.out.2
  go_wp2_with fail
  clear g0 g1 g2 g3 g4
  go_loopw [8, 9, 29] (fun _ _ i wr => ∃ k : Nat, k ≤ g.params.length ∧ i = .int .i64 k ∧ MFr wr own pf pw b5 (.string g.name) (.slice pp g.params.length pcap) (.slice pk g.kinds.length kcap) vs vc (.slice (some ⟨b5, 0, none⟩) g.kinds.length g.kinds.length) (.slice none 0 0) (writeV (List.replicate g.kinds.length HV.zero) g.params args k) [] ∧ Step (fun b => b = b5) w3 wr) (fun _ _ i _ => g.params.length - (intOf i).toNat)
  case atStart => exact ⟨0, by omega, rfl, HF3.out, Step.refl _ _⟩
  case round =>
    obtain ⟨k, hk, rfl, hfr, hst⟩ := hrel
    have HFR := Lib.hid hfr
    have HST := Lib.hid hst
    clear hfr hst
    by_cases hlt : k < g.params.length
    · have hd : decide (k < g.params.length) = true := decide_eq_true hlt
      obtain ⟨a, hpa, hca⟩ := HPC.out k hlt
      subst hpa
      have HWR := Lib.hid ((HW.out.still S3.out).offReg (gx := b5) (HOW.out _ LPF.out.2.2.2.2.1) (Nat.le_trans HW.out.since.size LPF.out.2.2.2.2.1) HST.out)
      have cp := HWR.out.cell_old (a := a.add k) (block_lt hca)
      rw [hca] at cp
      obtain ⟨ga, acap, eva, hFg, hgl, hac1, hac2, hgc⟩ := vals_known HVA.out (by have := HLA.out; omega)
      subst eva
      have hgak : ∀ j u, w.cell? ⟨ga, j, none⟩ = some u → wr.cell? ⟨ga, j, none⟩ = some u := fun j u h => by
        rw [HST.out.cell (p := ⟨ga, j, none⟩) (by have := S3.out.size; show ga < _; omega) (fun e => by have e : ga = b5 := e; have := LPF.out; omega), S3.out.cell (p := ⟨ga, j, none⟩) hgl (fun x => x)]
        exact h
      obtain ⟨z0, z1, z2, z3, z4⟩ := hgc k (by have := HLA.out; omega)
      have hok := HPL.out.1 (g.params.getD k 0) (by rw [List.getD_eq_getElem?_getD, List.getElem?_eq_getElem hlt]; exact List.getElem_mem hlt)
      have hwl : (writeV (List.replicate g.kinds.length HV.zero) g.params args k).length = g.kinds.length := by rw [writeV_len]; simp
      have FR := Lib.hid (reg_facts HFR.out)
      have OK := Lib.hid (show 0 ≤ g.params.getD k 0 ∧ g.params.getD k 0 < ((writeV (List.replicate g.kinds.length HV.zero) g.params args k).length : Nat) from by rw [hwl]; exact hok)
      have WA := Lib.hid (show writeV (List.replicate g.kinds.length HV.zero) g.params args (k + 1) = (writeV (List.replicate g.kinds.length HV.zero) g.params args k).set (g.params.getD k 0).toNat (args.getD k HV.zero) from rfl)
      have hkal : k < args.length := by have := HLA.out; omega
      have FACTS := Lib.hid (show ∀ y, Step (fun _ => False) wr y → y.cell? ⟨pf, 6, none⟩ = some (.slice (some ⟨b5, 0, none⟩) g.kinds.length g.kinds.length) ∧ y.cell? ⟨ga, k * 5, none⟩ = some (.int .u64 (args.getD k HV.zero).num) ∧ y.cell? ⟨ga, k * 5 + 1, none⟩ = some (.int .i64 (args.getD k HV.zero).ptr.block) ∧ y.cell? ⟨ga, k * 5 + 2, none⟩ = some (.int .i64 (args.getD k HV.zero).ptr.off) ∧ y.cell? ⟨ga, k * 5 + 3, none⟩ = some (.int .i64 (args.getD k HV.zero).ptr.low) ∧ y.cell? ⟨ga, k * 5 + 4, none⟩ = some (.int .i64 (args.getD k HV.zero).ptr.high) from fun y hy => by
        have kk : ∀ j u, w.cell? ⟨ga, j, none⟩ = some u → y.cell? ⟨ga, j, none⟩ = some u := fun j u h => (hy.cell (block_lt (hgak j u h)) fun x => x).trans (hgak j u h)
        exact ⟨cell_known (hy.keeps HFR.out.struct) rfl, kk _ _ z0, kk _ _ z1, kk _ _ z2, kk _ _ z3, kk _ _ z4⟩)
      have hwl2 := hwl
      clear hgc hca hFg hgl hwl hgak z0 z1 z2 z3 z4 hac1 hac2
      generalize g.params.getD k 0 = r at *
      generalize args.getD k HV.zero = xv_ at *
      go_upto_region 5 with fail
      refine wp_region_each 9 planCl5 (fun _ _ => False) (Step (fun _ => False) wr) (fun _ => True) [Is ?v5_2_0, Is ?v5_2_1, Is ?v5_2_2, Is ?v5_2_3, Is ?v5_2_4, Is ?v5_2_5, Is ?v5_2_6, Is ?v5_2_7, Is ?v5_2_8] [] (by kernel_rfl) (by kernel_rfl) (fun _ _ h => h.elim) ((Step.refl _ _).drew) (trivial) ?stab5_2 ?stabD5_2 ?obl5_2 ?fin5_2
      case stab5_2 => exact fun w w' h => ⟨fun k => k.trans h (fun _ x => x.elim), fun _ => trivial, ⟨fun _ k => k, fun _ k => k, fun _ k => k, fun _ k => k, fun _ k => k, fun _ k => k, fun _ k => k, fun _ k => k, fun _ k => k, trivial⟩, trivial⟩
      case stabD5_2 => exact fun _ _ h => h.elim
      case obl5_2 =>
        refine ⟨?o5_2_0, ?o5_2_1, ?o5_2_2, ?o5_2_3, ?o5_2_4, ?o5_2_5, ?o5_2_6, ?o5_2_7, ?o5_2_8, trivial⟩
        all_goals intro xv wq hH hS H hU aq ha Q' hQ
        case o5_2_0 => cases rd0 ha; clear H hU hS; go_wp2_with fail; (try refine hQ _ _ ?_); refine ⟨Step.refl _ _, ?_, trivial, nofun⟩; exact (rfl : _ = _)
        case o5_2_1 | o5_2_2 => have ha := rd1 ha H (by kernel_rfl) rfl; simp only [q3, q5, q6, q7] at ha; subst ha; clear H hU hS; go_wp2_with fail; (try refine hQ _ _ ?_); refine ⟨Step.refl _ _, ?_, trivial, nofun⟩; exact (rfl : _ = _)
        case o5_2_3 => obtain ⟨c6, z0, z1, z2, z3, z4⟩ := FACTS.out _ hH; have ha := rd1 ha H (by kernel_rfl) rfl; simp only [q3, q5, q6, q7] at ha; subst ha; clear H hU hS; go_wp2_with fail; (try refine hQ _ _ ?_); refine ⟨Step.refl _ _, ?_, trivial, nofun⟩; exact (rfl : _ = _)
        case o5_2_4 | o5_2_5 | o5_2_6 => cases rd0 ha; clear H hU hS; go_wp2_with fail; (try refine hQ _ _ ?_); refine ⟨Step.refl _ _, ?_, trivial, nofun⟩; exact (rfl : _ = _)
        case o5_2_7 => obtain ⟨c6, z0, z1, z2, z3, z4⟩ := FACTS.out _ hH; have ha := rd2 ha H (by kernel_rfl) (by kernel_rfl) rfl rfl; simp only [q3, q5, q6, q7] at ha; subst ha; clear H hU hS; go_wp2_with fail; (try refine hQ _ _ ?_); refine ⟨Step.refl _ _, ?_, trivial, nofun⟩; exact (rfl : _ = _)
        case o5_2_8 => obtain ⟨c6, z0, z1, z2, z3, z4⟩ := FACTS.out _ hH; have ha := rd1 ha H (by kernel_rfl) rfl; simp only [q3, q5, q6, q7] at ha; subst ha; clear H hU hS; go_wp2_with fail; (try refine hQ _ _ ?_); refine ⟨Step.refl _ _, ?_, trivial, nofun⟩; exact (rfl : _ = _)
      intro xv w4 hH hS H hU hsz hF hN
      have h0 : xv 0 = _ := H 0 (by decide) (by kernel_rfl); have h1 : xv 1 = _ := H 1 (by decide) (by kernel_rfl); have h2 : xv 2 = _ := H 2 (by decide) (by kernel_rfl); have h3 : xv 3 = _ := H 3 (by decide) (by kernel_rfl); have h4 : xv 4 = _ := H 4 (by decide) (by kernel_rfl); have h5 : xv 5 = _ := H 5 (by decide) (by kernel_rfl); have h6 : xv 6 = _ := H 6 (by decide) (by kernel_rfl); have h7 : xv 7 = _ := H 7 (by decide) (by kernel_rfl); have h8 : xv 8 = _ := H 8 (by decide) (by kernel_rfl)
      simp only [planCl5, q1, q2, q3, q5, q6, q7, q4, List.drop_succ_cons, List.drop_zero, h0, h1, h2, h3, h4, h5, h6, h7, h8]
      clear H hF hN hS hU h0 h1 h2 h3 h4 h5 h6 h7 h8
      obtain ⟨c0, c1, c2, c3, c4, zr⟩ := FR.out _ hH r OK.out
      have H4 := Lib.hid hH
      clear hH
      go_wp2_with fail
      go_roundw
      case rel =>
        refine ⟨k + 1, by omega, by go_num, ?_, ?_⟩
        · rw [WA.out]
          exact (HFR.out.still H4.out).set (by rw [hwl2]) (by have := OK.out; omega) xv_
        · exact (HST.out.then H4.out).trans (setV_step (F := fun b => b = b5) _ rfl _ xv_) fun _ e => .inl e
      case measure => simp [intOf]; omega
    · have hd : decide (k < g.params.length) = false := decide_eq_false hlt
      have e : k = g.params.length := by omega
      subst e
      have SB := Lib.hid (show Chg own own w wr from ⟨(S3.out.mono fun _ _ x => x.elim).trans (HST.out.mono fun b _ e => (.inr (by rw [e]; exact LPF.out.2.2.2.2.1) : own b ≠ 0 ∨ w.heap.size ≤ b)) fun b hb => hb, fun _ _ => rfl⟩)
      have HWR := Lib.hid ((HW.out.still S3.out).offReg (gx := b5) (HOW.out _ LPF.out.2.2.2.2.1) (Nat.le_trans HW.out.since.size LPF.out.2.2.2.2.1) HST.out)
      have KBR := Lib.hid ((HST.out.block tg (lt_obj K3.out) (fun e => by have := LPF.out; omega)).trans K3.out)
      have KRR := Lib.hid ((HST.out.block tr (lt_obj KR3.out) (fun e => by have := LPF.out; omega)).trans KR3.out)
      clear HST
      obtain ⟨x0, hx0⟩ : ∃ x, writeV (List.replicate g.kinds.length HV.zero) g.params args g.params.length = x := ⟨_, rfl⟩
      rw [hx0] at HFR
      have HX0 := Lib.hid (show callRegs g args = x0 from hx0)
      clear hx0
      obtain ⟨g0, g1, g2, g3, g4, _⟩ := cells_known5 KBR.out
      obtain ⟨⟨ps, scap, rfl, hs1, hs2, hsc⟩, _⟩ := HSL.out
      have HSC := Lib.hid hsc
      clear hsc hs2
      have hsl : g.slots.length ≤ 1000 := HG.out.slots
      go_wp2_with fail
      clear g0 g1 g2 g3 g4
      go_loopw [11, 12, 13, 48] (fun _ _ _ i wr => ∃ k : Nat, k ≤ g.slots.length ∧ i = .int .i64 k ∧ ∃ vl gs ownk, MWAt w0 wr pw ownk fnv tops (slotsM (g.slots.take k) st).1 (c + k)
        ∧ MFr wr ownk pf pw b5 (.string g.name) (.slice pp g.params.length pcap) (.slice pk g.kinds.length kcap) (.slice ps g.slots.length scap) vc (.slice (some ⟨b5, 0, none⟩) g.kinds.length g.kinds.length) vl x0 (slotsM (g.slots.take k) st).2
        ∧ RowAt wr (fun b => b = gs) 94 4 vl (slotsM (g.slots.take k) st).2.length (prow (slotsM (g.slots.take k) st).2) ∧ (w.heap.size ≤ gs ∧ gs ≠ b5 ∧ gs ≠ pf ∧ gs ≠ tg ∧ gs ≠ tr ∧ ownk tg = 0 ∧ ownk tr = 0 ∧ ((slotsM (g.slots.take k) st).2.length = 0 → vl = .slice none 0 0) ∧ (0 < (slotsM (g.slots.take k) st).2.length → ownk gs = 0)) ∧ Chg own ownk w wr
        ∧ wr.heap[tg]? = some (.cells #[.string g.name, .slice pp g.params.length pcap, .slice pk g.kinds.length kcap, .slice ps g.slots.length scap, vc] 46 (0, 0))
        ∧ wr.heap[tr]? = some (.cells #[.int .u64 0, .int .i64 0, .int .i64 0, .int .i64 0, .int .i64 0] 98 (0, 0))) (fun _ _ _ i _ => g.slots.length - (intOf i).toNat)
      case atStart =>
        refine ⟨0, by omega, rfl, .slice none 0 0, wr.heap.size, own, HWR.out, HFR.out, ⟨by simp [prow, slotsM], .inl ⟨rfl, rfl⟩⟩, ?_, SB.out, KBR.out, KRR.out⟩
        have h1 := lt_obj KBR.out
        have h2 := lt_known HFR.out.struct
        have h3 := HFR.out.free.2.2.2
        have h4 := SB.out.step.size
        have h5 := lt_obj KRR.out
        exact ⟨h4, by omega, by omega, by omega, by omega, HOW.out _ (by have := LPF.out; omega), HOW.out _ (by have := LPF.out; omega), fun _ => rfl, fun h => by simp [slotsM] at h⟩
      case round =>
        obtain ⟨k, hk, rfl, vl, gs, ownk, hw2, hf2, hrow, hgs, hch, hbox, hres⟩ := hrel
        have INV := slotsM_inv (tops := tops) (g.slots.take k) st 1002 (fun n hn => HG.out.sizes n (List.mem_of_mem_take hn)) HS.out (by simp; omega)
        have HGS := Lib.hid hgs
        have HCH := Lib.hid hch
        have HBX := Lib.hid hbox
        have HRS := Lib.hid hres
        have HF2 := Lib.hid hf2
        have HW2 := Lib.hid hw2
        have HRW := Lib.hid hrow
        have HINV := Lib.hid INV
        clear hgs hch hbox hf2 hw2 hrow hres INV
        by_cases hlt : k < g.slots.length
        · have hd : decide (k < g.slots.length) = true := decide_eq_true hlt
          have hn := HG.out.sizes (g.slots.getD k 0) (by rw [List.getD_eq_getElem?_getD, List.getElem?_eq_getElem hlt]; exact List.getElem_mem _)
          obtain ⟨a, hpa, hca⟩ := HSC.out k hlt
          subst hpa
          have cs := HW2.out.cell_old (a := a.add k) (block_lt hca)
          rw [hca] at cs
          have SN := Lib.hid (show slotsM (g.slots.take (k + 1)) st = _ from by
            rw [List.take_succ_eq_append_getElem hlt, slotsM_snoc])
          have eg : g.slots[k] = g.slots.getD k 0 := by rw [List.getD_eq_getElem?_getD, List.getElem?_eq_getElem hlt]; rfl
          rw [eg] at SN
          clear hca eg
          generalize slotsM (g.slots.take k) st = sk at *
          obtain ⟨stk, ls⟩ := sk
          simp only at HW2 HF2 HRW HINV SN HGS
          have hlsk : ls.length = k := by have h := HINV.out.2.2.1; rw [h]; simp; omega
          generalize g.slots.getD k 0 = m at *
          obtain ⟨ph, bt, bf, vi, vo, P⟩ := HW2.out
          have hpw := lt_known P.struct
          have c0w := cell_known P.struct (i := 0) rfl
          have hbk : stk.blks.length ≤ 300000000 := by
            have h1 := HINV.out.1.blks
            have h2 := HINV.out.1.steps
            have h3 : ((List.take k g.slots).length : Int) ≤ 1000 := by simp; omega
            omega
          have MKC := Lib.hid (make_any ph m false stk.blks stk.at_ (c + k) _ wr P.heap P.lens.1 (by omega))
          simp only [if_neg (show ¬ (m < 0 ∨ 4194304 < m) by omega)] at MKC
          have PP := Lib.hid P
          clear P
          subst hlsk
          go_wp2_with fail
          refine MKC.out.mono ?_
          rintro e w5 ⟨rfl, s5, h5⟩
          clear c0w cs hpw
          obtain ⟨own5, ch5, P5⟩ := PP.out.heapNext (c' := c + ls.length + 1) (by omega) s5 (h5.less (by omega)) (fun b hb => hb) ⟨by simp, by have := PP.out.lens.2.1; simp; omega⟩
          have OG := HGS.out
          have HW5 := Lib.hid P5.whole
          have HF5 := Lib.hid (HF2.out.keep ch5)
          have HB5 := Lib.hid (ch5.keeps HBX.out OG.2.2.2.2.2.1)
          have HR5 := Lib.hid (ch5.keeps HRS.out OG.2.2.2.2.2.2.1)
          have OT5 := Lib.hid (show own5 tg = 0 ∧ own5 tr = 0 from ⟨ch5.stays0 HBX.out OG.2.2.2.2.2.1, ch5.stays0 HRS.out OG.2.2.2.2.2.2.1⟩)
          have GS5 := Lib.hid (show 0 < ls.length → RowAt w5 (fun b => b = gs) 94 4 vl ls.length (prow ls) ∧ own5 gs = 0 from fun h0 => by
            have h1 : ownk gs = 0 := OG.2.2.2.2.2.2.2.2 h0
            obtain ⟨g0, c0, cu0, e0, hg0, hr0, _⟩ := HRW.out.some h0
            obtain rfl : g0 = gs := hg0
            exact ⟨HRW.out.same fun b hb hlt => ch5.keep hlt (by rw [hb]; exact h1), (ch5.same _ (lt_known hr0)).trans h1⟩)
          have VN := Lib.hid (show ls.length = 0 → vl = .slice none 0 0 from OG.2.2.2.2.2.2.2.1)
          have CH5 := Lib.hid (HCH.out.trans ch5)
          have Z5 := Lib.hid ch5.step.size
          have KP := Lib.hid (heap_alloc_new w5 (.cells #[.int .i64 stk.blks.length, .int .i64 0, .int .i64 0, .int .i64 m] 94 (0, 0)))
          have SP := Lib.hid (Step.alloc (fun _ => False) w5 (.cells #[.int .i64 stk.blks.length, .int .i64 0, .int .i64 0, .int .i64 m] 94 (0, 0)))
          have OGS := Lib.hid (show w.heap.size ≤ gs ∧ gs ≠ b5 ∧ gs ≠ pf ∧ gs ≠ tg ∧ gs ≠ tr from ⟨OG.1, OG.2.1, OG.2.2.1, OG.2.2.2.1, OG.2.2.2.2.1⟩)
          clear P5 ch5 OG s5 h5 HW2 HF2 HBX HRS HRW HCH PP MKC HGS
          go_upto_region 11 with fail
          generalize w5.alloc (.cells #[.int .i64 stk.blks.length, .int .i64 0, .int .i64 0, .int .i64 m] 94 (0, 0)) = w6 at KP SP ⊢
          obtain ⟨tp, htp⟩ : ∃ tp, w5.heap.size = tp := ⟨_, rfl⟩
          rw [htp] at KP ⊢
          have HTP := Lib.hid htp
          clear htp
          have HF6 := Lib.hid (HF5.out.still SP.out)
          have B6 := Lib.hid (SP.out.keeps HB5.out)
          have T6 := Lib.hid (SP.out.keeps HR5.out)
          have CH6 := Lib.hid (CH5.out.trans (Chg.calm own5 SP.out))
          have HOW6 := Lib.hid (show ∀ b, w6.heap.size ≤ b → own5 b = 0 from fun b hb => by
            by_cases e : own5 b = 0
            · exact e
            · have h1 := (HW5.out.low b e).2
              have h2 := SP.out.size
              omega)
          obtain ⟨gt, rw6, gt0⟩ : ∃ gt, RowAt w6 (fun b => b = gt) 94 4 vl ls.length (prow ls) ∧ own5 gt = 0 ∧ w.heap.size ≤ gt ∧ gt ≠ b5 ∧ gt ≠ pf ∧ gt ≠ tg ∧ gt ≠ tr := by
            by_cases h0 : 0 < ls.length
            · obtain ⟨h1, h2⟩ := GS5.out h0
              have h3 := OGS.out
              exact ⟨gs, h1.same fun b _ hlt => SP.out.block b hlt fun x => x, h2, h3.1, h3.2.1, h3.2.2.1, h3.2.2.2.1, h3.2.2.2.2⟩
            · have h1 : ls = [] := List.length_eq_zero_iff.1 (by omega)
              have h2 := VN.out (by omega)
              have h3 := lt_known HF6.out.struct
              have h4 := HF6.out.free.2.2.2
              have h5 := lt_obj B6.out
              have h6 := lt_obj T6.out
              have h7 := CH6.out.step.size
              refine ⟨w6.heap.size, ?_, HOW6.out _ (Nat.le_refl _), h7, by omega, by omega, by omega, by omega⟩
              rw [h2, h1]
              exact rowAt_nil _ _ _ _
          have RW6 := Lib.hid rw6
          have GT := Lib.hid gt0
          obtain ⟨va2, vcap2, evl⟩ := rw6.slice
          subst evl
          clear rw6 gt0 GS5 VN OGS
          obtain ⟨i0, hi, hz0, hz1, hz2⟩ := info_parts ptr_info
          have FACTS := Lib.hid (show ∀ y, Step (fun _ => False) w6 y → y.cell? ⟨pf, 7, none⟩ = some (.slice va2 ls.length vcap2) from fun y hy => cell_known (hy.keeps HF6.out.struct) rfl)
          have HBL := Lib.hid hbk
          clear hbk
          obtain ⟨nl, hnl⟩ : ∃ p : Go.Proofs.Ytojfgdoniajmeaa.HP, ⟨stk.blks.length, 0, 0, m⟩ = p := ⟨_, rfl⟩
          have HNL := Lib.hid (show nl.cells.toList = [.int .i64 stk.blks.length, .int .i64 0, .int .i64 0, .int .i64 m] from by rw [← hnl]; rfl)
          have HNE := Lib.hid hnl
          clear hnl
          refine wp_region_each 8 planCl11 (fun a b => Step (fun x => x = gt) a b) (Step (fun x => x = gt) w6) (fun x => RowAt x (fun b => b = gt) 94 4 (.slice va2 ls.length vcap2) ls.length (prow ls) ∧ Step (fun _ => False) w6 x) [Is ?v11_3_0, Is ?v11_3_1, Is ?v11_3_2, Is ?v11_3_3, Is ?v11_3_4, Is ?v11_3_5, IsRow w6 (.cells #[.int .i64 stk.blks.length, .int .i64 0, .int .i64 0, .int .i64 m] 94 (0, 0)) 1, fun _ _ => True] [fun _ _ => True, fun _ _ => True, fun _ _ => True, fun _ _ => True, fun _ _ => True, fun _ _ => True, fun _ _ => True, GrewP w6 gt (ls.length + 1) (prow (ls ++ [nl]))] (by kernel_rfl) (by kernel_rfl) (fun _ _ h => h.size) ((Step.refl _ _).drew) (⟨RW6.out.same fun _ _ _ => rfl, (Step.refl _ _).drew⟩) ?stab11_3 ?stabD11_3 ?obl11_3 ?fin11_3
          case stab11_3 => exact fun w w' h => ⟨fun k => k.trans h (fun _ x => x.elim), fun k => ⟨k.1.same fun b _ hb => h.block b hb fun x => x, k.2.trans h fun _ x => x.elim⟩, ⟨fun _ k => k, fun _ k => k, fun _ k => k, fun _ k => k, fun _ k => k, fun _ k => k, fun _ k => IsRow.stable h k, fun _ k => k, trivial⟩, ⟨fun _ k => k, fun _ k => k, fun _ k => k, fun _ k => k, fun _ k => k, fun _ k => k, fun _ k => k, fun _ k => k.stable h, trivial⟩⟩
          case stabD11_3 => exact fun w w' h => ⟨fun k => k.trans h (fun _ x => .inl x), fun _ _ k => k, fun _ _ k => k, fun _ _ k => k, fun _ _ k => k, fun _ _ k => k, fun _ _ k => k, nofun, fun _ _ k => k, trivial⟩
          case obl11_3 =>
            refine ⟨?o11_3_0, ?o11_3_1, ?o11_3_2, ?o11_3_3, ?o11_3_4, ?o11_3_5, ?o11_3_6, ?o11_3_7, trivial⟩
            all_goals intro xv wq hH hS H hU aq ha Q' hQ
            case o11_3_0 | o11_3_1 => cases rd0 ha; clear H hU hS; go_wp2_with fail; (try refine hQ _ _ ?_); refine ⟨Step.refl _ _, ?_, trivial, nofun⟩; exact (rfl : _ = _)
            case o11_3_2 | o11_3_3 => have ha := rd1 ha H (by kernel_rfl) rfl; simp only [q3, q5, q6, q7] at ha; subst ha; clear H hU hS; go_wp2_with fail; (try refine hQ _ _ ?_); refine ⟨Step.refl _ _, ?_, trivial, nofun⟩; exact (rfl : _ = _)
            case o11_3_4 => (try (have hS2 := hS (by decide); have c7 := FACTS.out _ hS2.2; obtain ⟨p0, p1, p2, p3, _⟩ := cells_known4 (hS2.2.keeps KP.out); clear hS2)); have ha := rd1 ha H (by kernel_rfl) rfl; simp only [q3, q5, q6, q7] at ha; subst ha; clear H hU hS; go_wp2_with fail; (try refine hQ _ _ ?_); refine ⟨Step.refl _ _, ?_, trivial, nofun⟩; exact (rfl : _ = _)
            case o11_3_5 => (try (have hS2 := hS (by decide); have c7 := FACTS.out _ hS2.2; obtain ⟨p0, p1, p2, p3, _⟩ := cells_known4 (hS2.2.keeps KP.out); clear hS2)); cases rd0 ha; clear H hU hS; go_wp2_with fail; (try refine hQ _ _ ?_); refine ⟨Step.refl _ _, ?_, trivial, nofun⟩; exact (rfl : _ = _)
            case o11_3_6 => (try (have hS2 := hS (by decide); have c7 := FACTS.out _ hS2.2; obtain ⟨p0, p1, p2, p3, _⟩ := cells_known4 (hS2.2.keeps KP.out); clear hS2)); have h5 : xv 5 = _ := H 5 (by kernel_rfl); change aq = puts _ xv [(5, some 66)] at ha; simp only [q1, q2, q3, q5, q6, q7, h5] at ha; subst ha; clear H h5; clear hU hS; go_wp2_with fail; (try refine hQ _ _ ?_); refine ⟨Step.alloc _ _ _, ?_, trivial, fun _ => ⟨_, rfl, Nat.le_refl _, by simp⟩⟩; exact ⟨_, rfl, hH.size, heap_alloc_new _ _⟩
            case o11_3_7 =>
              (try (have hS2 := hS (by decide); have c7 := FACTS.out _ hS2.2; obtain ⟨p0, p1, p2, p3, _⟩ := cells_known4 (hS2.2.keeps KP.out); clear hS2)); have h4 : xv 4 = _ := H 4 (by kernel_rfl); obtain ⟨b6, h6, l6, k6⟩ : IsRow w6 (.cells #[.int .i64 stk.blks.length, .int .i64 0, .int .i64 0, .int .i64 m] 94 (0, 0)) 1 _ _ := H 6 (by kernel_rfl); change aq = puts _ xv [(4, some 65), (6, some 67)] at ha; simp only [q1, q2, q3, q5, q6, q7, h4, h6] at ha; have HX6 := Lib.hid h6; subst ha; clear H h4 h6
              have L := (hS (by kernel_rfl)).1
              clear hU hS
              refine wpList_append_row rfl (.tmp 65) (.tmp 67) 117 rfl (fun b => b = gt) 94 i0 _ 4 32 Try.underlying117 hi hz0 hz1 hz2 rfl _ _ _ rfl L ⟨b6, 0, none⟩ 1 1 [.int .i64 stk.blks.length, .int .i64 0, .int .i64 0, .int .i64 m] rfl (by omega) rfl ?c1 ?c2 ?c3 ?c4 ?_
              case c1 => intro j u hj; exact row_add k6 j u hj
              case c2 => intro u hu; simp at hu; rcases hu with rfl | rfl | rfl | rfl <;> rfl
              case c3 => simp only [maxLen]; omega
              case c4 => omega
              intro g_ cap w8 r2 s2 z2
              go_wp2_with fail
              (try refine hQ _ _ ?_)
              refine ⟨s2, trivial, ⟨g_, cap, ?_, ?_, ?_⟩, nofun⟩
              · rw [show planCl11.refOf 7 = 7 from rfl, if_pos rfl]
              · rw [prow_snoc, HNL.out]
                refine r2.mono fun b hb => ?_
                have := hH.size
                rcases hb with hb | hb
                · exact .inl hb
                · exact .inr (by omega)
              · exact hH.trans s2 fun _ x => .inl x
          intro xv w7 hH hS H hU hsz hF hN
          have h0 : xv 0 = _ := H 0 (by decide) (by kernel_rfl); have h1 : xv 1 = _ := H 1 (by decide) (by kernel_rfl); have h2 : xv 2 = _ := H 2 (by decide) (by kernel_rfl); have h3 : xv 3 = _ := H 3 (by decide) (by kernel_rfl); have h4 : xv 4 = _ := H 4 (by decide) (by kernel_rfl); have h5 : xv 5 = _ := H 5 (by decide) (by kernel_rfl); obtain ⟨g7, cap7, h7, r7, s7⟩ : (GrewP w6 gt (ls.length + 1) (prow (ls ++ [nl]))) (xv 7) _ := hU 7 (by decide) (by kernel_rfl)
          simp only [planCl11, q1, q2, q3, q5, q6, q7, q4, List.drop_succ_cons, List.drop_zero, h0, h1, h2, h3, h4, h5, h7]
          have hL := hU 7 (by decide) (by kernel_rfl)
          clear H hF hN hS hU h0 h1 h2 h3 h4 h5 h7
          have H7 := Lib.hid hH
          have R7 := Lib.hid r7
          have NG := Lib.hid (show g7 = gt ∨ w6.heap.size ≤ g7 from by
            obtain ⟨g0, c0, cu0, e0, hg0, _⟩ := R7.out.some (by omega)
            cases e0
            exact hg0)
          have GN := Lib.hid (show own5 g7 = 0 ∧ w.heap.size ≤ g7 ∧ g7 ≠ b5 ∧ g7 ≠ pf ∧ g7 ≠ tg ∧ g7 ≠ tr from by
            have hp6 := lt_known HF6.out.struct
            have hb6 := HF6.out.free.2.2.2
            have ht6 := lt_obj B6.out
            have hr6 := lt_obj T6.out
            have hwz := CH6.out.step.size
            have h1 := GT.out
            rcases NG.out with h | h
            · rw [h]; exact h1
            · exact ⟨HOW6.out _ h, by omega, by omega, by omega, by omega, by omega⟩)
          have LE0 := Lib.hid (show w0.heap.size ≤ gt ∧ w0.heap.size ≤ pf from ⟨Nat.le_trans HW.out.since.size GT.out.2.1, Nat.le_trans HW.out.since.size LPF.out.1⟩)
          have W7 := (HW5.out.still SP.out).offReg (gx := gt) GT.out.1 LE0.out.1 H7.out
          have el : (ls ++ [nl]).length = ls.length + 1 := by simp
          have F8 := Lib.hid (HF6.out.grow (slots' := ls ++ [nl]) (vl' := .slice (some ⟨g7, 0, none⟩) (ls.length + 1) cap7) H7.out ⟨GT.out.2.2.2.1, GT.out.2.2.1⟩ (by
            rw [el]
            refine R7.out.mono fun b hb => ?_
            rcases hb with h | h
            · rw [h]; exact ⟨GT.out.1, GT.out.2.2.1, GT.out.2.2.2.1⟩
            · have hp6 := lt_known HF6.out.struct
              have hb6 := HF6.out.free.2.2.2
              exact ⟨HOW6.out b h, by omega, by omega⟩))
          have W8 := Lib.hid (W7.setReg (b := pf) HF6.out.free.1 LE0.out.2 7 (.slice (some ⟨g7, 0, none⟩) (ls.length + 1) cap7))
          have k7 := (H7.out.block pf (lt_known HF6.out.struct) (fun e => GT.out.2.2.2.1 e.symm)).trans HF6.out.struct
          have B8 := Lib.hid ((set_other (w := w7) ⟨pf, 7, none⟩ (.slice (some ⟨g7, 0, none⟩) (ls.length + 1) cap7) (LPF.out.2.1.symm : tg ≠ pf)).trans ((H7.out.block tg (lt_obj B6.out) (fun e => GT.out.2.2.2.2.1 e.symm)).trans B6.out))
          have T8 := Lib.hid ((set_other (w := w7) ⟨pf, 7, none⟩ (.slice (some ⟨g7, 0, none⟩) (ls.length + 1) cap7) (LPF.out.2.2.2.2.2.2.1.symm : tr ≠ pf)).trans ((H7.out.block tr (lt_obj T6.out) (fun e => GT.out.2.2.2.2.2 e.symm)).trans T6.out))
          have CH8 := Lib.hid (show Chg own own5 w (w7.setCell ⟨pf, 7, none⟩ (.slice (some ⟨g7, 0, none⟩) (ls.length + 1) cap7)) from
            ⟨(CH6.out.step.trans H7.out fun b e => .inr (by rw [e]; exact GT.out.2.1)).set (.inr LPF.out.1) _, CH6.out.same⟩)
          have R8 := Lib.hid (show RowAt (w7.setCell ⟨pf, 7, none⟩ (.slice (some ⟨g7, 0, none⟩) (ls.length + 1) cap7)) (fun b => b = g7) 94 4 (.slice (some ⟨g7, 0, none⟩) (ls.length + 1) cap7) (ls.length + 1) (prow (ls ++ [nl])) from by
            obtain ⟨q1, ⟨_, q2⟩ | ⟨g0, c0, cu0, e0, _, q3, q4, q5, q6, q7⟩⟩ := R7.out
            · simp at q2
            · cases e0
              exact ⟨q1, .inr ⟨g7, cap7, cu0, rfl, rfl, (set_other _ _ GN.out.2.2.2.1).trans q3, q4, q5, q6, q7⟩⟩)
          have c7 := cell_known k7 (i := 7) rfl
          have z7 := free_known k7 7
          clear W7 el k7 hH r7 s7
          go_upto_region 12 with fail
          clear c7 z7
          generalize w7.setCell ⟨pf, 7, none⟩ (.slice (some ⟨g7, 0, none⟩) (ls.length + 1) cap7) = w8 at *
          go_wp2_with fail
          go_roundw
          case rel =>
            refine ⟨ls.length + 1, by omega, by go_num, .slice (some ⟨g7, 0, none⟩) (ls.length + 1) cap7, g7, own5, ?_⟩
            rw [SN.out, HNE.out]
            have el : (ls ++ [nl]).length = ls.length + 1 := by simp
            refine ⟨W8.out, F8.out, ?_, ?_, CH8.out, B8.out, T8.out⟩
            · rw [el]; exact R8.out
            · have h := GN.out
              exact ⟨h.2.1, h.2.2.1, h.2.2.2.1, h.2.2.2.2.1, h.2.2.2.2.2, OT5.out.1, OT5.out.2, fun e => by rw [el] at e; omega, fun _ => h.1⟩
          case measure => simp [intOf]; omega
        · have hd : decide (k < g.slots.length) = false := decide_eq_false hlt
          have e : k = g.slots.length := by omega
          subst e
          rw [List.take_length] at HW2 HF2
          obtain ⟨e1, e2, e3, e4⟩ := enterM_inv (args := args) HS.out HG.out HAOK.out
          rw [HX0.out] at e2
          have RES := Lib.hid (show callM fns tops n st g args = loopM fns tops n g (slotsM g.slots st).2 (slotsM g.slots st).1 x0 0 from by unfold callM; rw [HX0.out])
          obtain ⟨st9, hst9⟩ : ∃ s, (slotsM g.slots st).1 = s := ⟨_, rfl⟩
          obtain ⟨sl9, hsl9⟩ : ∃ s, (slotsM g.slots st).2 = s := ⟨_, rfl⟩
          rw [hst9] at e1 e3 e4 HW2
          rw [hsl9] at e2 HF2
          rw [hst9, hsl9] at RES
          have ATL := Lib.hid (show AtLoop w0 w wr pw own fnv tops fns pf b5 tg tr (.slice pp g.params.length pcap) (.slice pk g.kinds.length kcap) (.slice ps g.slots.length scap) vc (.slice (some ⟨b5, 0, none⟩) g.kinds.length g.kinds.length) vl g sl9 (callM fns tops n st g args) st9 x0 n 0 ownk (c + g.slots.length) from
            ⟨⟨by omega, by have := List.length_pos_iff.2 HG.out.code.1; omega⟩, RES.out, by rw [e3, e4]; exact HFU.out, e1, e2, by rw [e3]; have := HC.out; push_cast; omega, HCH.out, HW2.out, HF2.out, HBX.out, HRS.out, HGS.out.2.2.2.2.2.1, HGS.out.2.2.2.2.2.2.1⟩)
          clear e1 e2 e3 e4 RES hst9 hsl9 HGS HCH HBX HRS HF2 HW2 HRW HINV hlt hk
          go_wp2_with fail
          generalize wr = w9 at *
          go_loopw [14, 15] (fun a _ wr => ∃ (at_ : Int) (stc : MSt) (x : List HV) (m : Nat) (ownc : Nat → Nat) (cc : Nat), a = .int .i64 at_ ∧ m ≤ n ∧ AtLoop w0 w wr pw own fnv tops fns pf b5 tg tr (.slice pp g.params.length pcap) (.slice pk g.kinds.length kcap) (.slice ps g.slots.length scap) vc (.slice (some ⟨b5, 0, none⟩) g.kinds.length g.kinds.length) vl g sl9 (callM fns tops n st g args) stc x m at_ ownc cc) (fun _ _ wr => stepsLeft pw wr)
          case atStart => exact ⟨0, st9, x0, n, _, _, rfl, Nat.le_refl _, ATL.out⟩
          case round =>
            obtain ⟨at_, stc, x, m, ownc, cc, rfl, hm, hat⟩ := hrel
            have HA := Lib.hid hat
            clear hat ATL
            obtain ⟨ph, bt, bf, vi, vo, P⟩ := HA.out.mach
            have FAC := Lib.hid (show ∀ y, Step (fun _ => False) wr y → y.cell? ⟨pw, 6, none⟩ = some (.int .i64 stc.steps) ∧ y.cell? ⟨pw, 5, none⟩ = some (.int .i64 stc.fuel) from fun y hy =>
              ⟨cell_known (hy.keeps P.struct) rfl, cell_known (hy.keeps P.struct) rfl⟩)
            clear P
            by_cases hlt : stc.steps < stc.fuel
            · have hd : decide (stc.fuel ≤ stc.steps) = false := decide_eq_false (by omega)
              have HLT := Lib.hid hlt
              clear hlt
              go_upto_region 14 with fail
              refine wp_region_each 8 planCl14 (fun _ _ => False) (Step (fun _ => False) wr) (fun _ => True) [Is ?v14_4_0, Is ?v14_4_1, Is ?v14_4_2, Is ?v14_4_3, Is ?v14_4_4, Is ?v14_4_5, Is ?v14_4_6, Is ?v14_4_7] [] (by kernel_rfl) (by kernel_rfl) (fun _ _ h => h.elim) ((Step.refl _ _).drew) (trivial) ?stab14_4 ?stabD14_4 ?obl14_4 ?fin14_4
              case stab14_4 => exact fun w w' h => ⟨fun k => k.trans h (fun _ x => x.elim), fun _ => trivial, ⟨fun _ k => k, fun _ k => k, fun _ k => k, fun _ k => k, fun _ k => k, fun _ k => k, fun _ k => k, fun _ k => k, trivial⟩, trivial⟩
              case stabD14_4 => exact fun _ _ h => h.elim
              case obl14_4 =>
                refine ⟨?o14_4_0, ?o14_4_1, ?o14_4_2, ?o14_4_3, ?o14_4_4, ?o14_4_5, ?o14_4_6, ?o14_4_7, trivial⟩
                all_goals intro xv wq hH hS H hU aq ha Q' hQ
                case o14_4_0 => cases rd0 ha; clear H hU hS; go_wp2_with fail; (try refine hQ _ _ ?_); refine ⟨Step.refl _ _, ?_, trivial, nofun⟩; exact (rfl : _ = _)
                case o14_4_1 | o14_4_2 => have ha := rd1 ha H (by kernel_rfl) rfl; simp only [q3, q5, q6, q7] at ha; subst ha; clear H hU hS; go_wp2_with fail; (try refine hQ _ _ ?_); refine ⟨Step.refl _ _, ?_, trivial, nofun⟩; exact (rfl : _ = _)
                case o14_4_3 => obtain ⟨x12, x11⟩ := FAC.out _ hH; have ha := rd1 ha H (by kernel_rfl) rfl; simp only [q3, q5, q6, q7] at ha; subst ha; clear H hU hS; go_wp2_with fail; (try refine hQ _ _ ?_); refine ⟨Step.refl _ _, ?_, trivial, nofun⟩; exact (rfl : _ = _)
                case o14_4_4 => cases rd0 ha; clear H hU hS; go_wp2_with fail; (try refine hQ _ _ ?_); refine ⟨Step.refl _ _, ?_, trivial, nofun⟩; exact (rfl : _ = _)
                case o14_4_5 | o14_4_6 => have ha := rd1 ha H (by kernel_rfl) rfl; simp only [q3, q5, q6, q7] at ha; subst ha; clear H hU hS; go_wp2_with fail; (try refine hQ _ _ ?_); refine ⟨Step.refl _ _, ?_, trivial, nofun⟩; exact (rfl : _ = _)
                case o14_4_7 => obtain ⟨x12, x11⟩ := FAC.out _ hH; have ha := rd1 ha H (by kernel_rfl) rfl; simp only [q3, q5, q6, q7] at ha; subst ha; clear H hU hS; go_wp2_with fail; (try refine hQ _ _ ?_); refine ⟨Step.refl _ _, ?_, trivial, nofun⟩; exact (rfl : _ = _)
              intro xv w10 hH hS H hU hsz hF hN
              have h0 : xv 0 = _ := H 0 (by decide) (by kernel_rfl); have h1 : xv 1 = _ := H 1 (by decide) (by kernel_rfl); have h2 : xv 2 = _ := H 2 (by decide) (by kernel_rfl); have h3 : xv 3 = _ := H 3 (by decide) (by kernel_rfl); have h4 : xv 4 = _ := H 4 (by decide) (by kernel_rfl); have h5 : xv 5 = _ := H 5 (by decide) (by kernel_rfl); have h6 : xv 6 = _ := H 6 (by decide) (by kernel_rfl); have h7 : xv 7 = _ := H 7 (by decide) (by kernel_rfl)
              simp only [planCl14, q1, q2, q3, q5, q6, q7, q4, List.drop_succ_cons, List.drop_zero, h0, h1, h2, h3, h4, h5, h6, h7]
              clear H hF hN hS hU h0 h1 h2 h3 h4 h5 h6 h7
              have HA10 := Lib.hid (HA.out.still hH)
              clear hH FAC
              obtain ⟨ph, bt, bf, vi, vo, P⟩ := HA10.out.mach
              have c6 := cell_known P.struct (i := 6) rfl
              have f6 := free_known P.struct 6
              have hsb := HA.out.inv.steps
              obtain ⟨P11, ch11⟩ := P.steps (stc.steps + 1)
              have HW11 := Lib.hid P11.whole
              have HF11 := Lib.hid (HA10.out.frame.keep ch11)
              have HB11 := Lib.hid (ch11.keeps HA10.out.box HA.out.free.1)
              have HR11 := Lib.hid (ch11.keeps HA10.out.ans HA.out.free.2)
              have CH11 := Lib.hid (HA10.out.chg.trans ch11)
              clear P P11 ch11
              go_upto_region 17 with fail
              clear c6 f6
              generalize w10.setCell ⟨pw, 6, none⟩ (.int .i64 (stc.steps + 1)) = w11 at *
              obtain ⟨pc, ccap, evc, hcc1, hcc2, hcc⟩ := HCD.out
              subst evc
              have hlt2 := HA.out.at0
              obtain ⟨ac, vi_, epc, hins, hcells⟩ := hcc at_.toNat (by omega)
              subst epc
              have hmem := List.getElem_mem (l := g.code) (n := at_.toNat) (by omega)
              have hget : g.code[at_.toNat]? = some (g.code[at_.toNat]'(by omega)) := List.getElem?_eq_getElem (by omega)
              generalize g.code[at_.toNat]'(by omega) = i at hmem hget hins hcells
              obtain ⟨va_, vo_, evi, iargs, iouts⟩ := id hins
              obtain ⟨op, dst, a_, b_, n_, size, name, iar, iou, to⟩ := i
              subst evi
              obtain ⟨⟨pa_, pac_, rfl, _, _, _⟩, _⟩ := id iargs
              obtain ⟨⟨po_, poc_, rfl, _, _, _⟩, _⟩ := id iouts
              have HI := Lib.hid hins
              have HM := Lib.hid hmem
              have HGI := Lib.hid hget
              have hce : ∀ j u, (#[.int .i64 op, .int .i64 dst, .int .i64 a_, .int .i64 b_, .int .u64 n_, .int .i64 size, .string name, .slice pa_ iar.length pac_, .slice po_ iou.length poc_, .int .i64 to] : Array Value)[j]? = some u → w11.cell? ((ac.add (at_.toNat * 10)).add j) = some u := fun j u h => by
                have h1 := hcells j u h
                rw [HW11.out.cell_old (block_lt h1)]; exact h1
              have HCE := Lib.hid hce
              have g4 := cell_known HB11.out (i := 4) rfl
              have hcl : at_ < g.code.length := hlt2.2
              have hc0 : 0 ≤ at_ := hlt2.1
              have hcd : g.code.length ≤ 100000 := by have := HCL.out; exact this
              clear hins hmem hget hcells hce hcc hcc2 hlt2 iargs iouts
              have e0 : w11.cell? (ac.add (at_.toNat * 10)) = some (.int .i64 op) := by have := HCE.out 0 _ rfl; simpa [Addr.add] using this
              have e1 : w11.cell? ⟨(ac.add (at_.toNat * 10)).block, (ac.add (at_.toNat * 10)).off + 1, none⟩ = some (.int .i64 dst) := HCE.out 1 _ rfl
              have e2 : w11.cell? ⟨(ac.add (at_.toNat * 10)).block, (ac.add (at_.toNat * 10)).off + 2, none⟩ = some (.int .i64 a_) := HCE.out 2 _ rfl
              have e3 : w11.cell? ⟨(ac.add (at_.toNat * 10)).block, (ac.add (at_.toNat * 10)).off + 3, none⟩ = some (.int .i64 b_) := HCE.out 3 _ rfl
              have e4 : w11.cell? ⟨(ac.add (at_.toNat * 10)).block, (ac.add (at_.toNat * 10)).off + 4, none⟩ = some (.int .u64 n_) := HCE.out 4 _ rfl
              have e5 : w11.cell? ⟨(ac.add (at_.toNat * 10)).block, (ac.add (at_.toNat * 10)).off + 5, none⟩ = some (.int .i64 size) := HCE.out 5 _ rfl
              have e6 : w11.cell? ⟨(ac.add (at_.toNat * 10)).block, (ac.add (at_.toNat * 10)).off + 6, none⟩ = some (.string name) := HCE.out 6 _ rfl
              have e7 : w11.cell? ⟨(ac.add (at_.toNat * 10)).block, (ac.add (at_.toNat * 10)).off + 7, none⟩ = some (.slice pa_ iar.length pac_) := HCE.out 7 _ rfl
              have e8 : w11.cell? ⟨(ac.add (at_.toNat * 10)).block, (ac.add (at_.toNat * 10)).off + 8, none⟩ = some (.slice po_ iou.length poc_) := HCE.out 8 _ rfl
              have e9 : w11.cell? ⟨(ac.add (at_.toNat * 10)).block, (ac.add (at_.toNat * 10)).off + 9, none⟩ = some (.int .i64 to) := HCE.out 9 _ rfl
              clear HCE
              go_upto_region 18 with fail
              have kb := heap_alloc_new w11 (.cells #[.int .i64 op, .int .i64 dst, .int .i64 a_, .int .i64 b_, .int .u64 n_, .int .i64 size, .string name, .slice pa_ iar.length pac_, .slice po_ iou.length poc_, .int .i64 to] 42 (0, 0))
              have S12 := Lib.hid (Step.alloc (fun _ => False) w11 (.cells #[.int .i64 op, .int .i64 dst, .int .i64 a_, .int .i64 b_, .int .u64 n_, .int .i64 size, .string name, .slice pa_ iar.length pac_, .slice po_ iou.length poc_, .int .i64 to] 42 (0, 0)))
              generalize w11.alloc (.cells #[.int .i64 op, .int .i64 dst, .int .i64 a_, .int .i64 b_, .int .u64 n_, .int .i64 size, .string name, .slice pa_ iar.length pac_, .slice po_ iou.length poc_, .int .i64 to] 42 (0, 0)) = w12 at kb S12 ⊢
              have LT := Lib.hid (show w.heap.size ≤ w11.heap.size ∧ ownc w11.heap.size = 0 ∧ tr ≠ w11.heap.size from ⟨CH11.out.step.size, HW11.out.fresh0, by have := lt_obj HR11.out; omega⟩)
              generalize w11.heap.size = ti at *
              have KI := Lib.hid kb
              have FBI := Lib.hid (box_facts kb)
              clear kb e0 e1 e2 e3 e4 e5 e6 e7 e8 e9 g4
              have HW12 := Lib.hid (HW11.out.still S12.out)
              have HF12 := Lib.hid (HF11.out.still S12.out)
              have HB12 := Lib.hid (S12.out.keeps HB11.out)
              have HR12 := Lib.hid (S12.out.keeps HR11.out)
              have CH12 := Lib.hid (CH11.out.trans (Chg.calm ownc S12.out))
              obtain ⟨m', hm'⟩ : ∃ m', m = m' + 1 := ⟨m - 1, by have h1 := HA.out.gas; have h2 := HLT.out; omega⟩
              subst hm'
              have FF12 := Lib.hid (frame_facts HF12.out)
              obtain ⟨b0, b1, b2, b3, b4, b5_, b6, b7, b8, b9⟩ := FBI.out _ (Step.refl _ _)
              obtain ⟨f0, f3, f6, f7⟩ := FF12.out _ (Step.refl _ _)
              by_cases h17 : op = 17
              · subst h17
                have HGQ := goodIM_parts (HG.out.ins _ HM.out).1 (m := { a := 3 }) (by rw [show (⟨17, dst, a_, b_, n_, size, name, iar, iou, to⟩ : FIns).op = 17 from rfl]; rfl)
                have HAQ := Lib.hid (show a_ < 0 ∨ 0 ≤ a_ ∧ a_ < (g.kinds.length : Nat) from by
                  have h := HGQ.2.1
                  unfold regM at h
                  rw [if_neg (by decide)] at h
                  simp only [Bool.or_eq_true, Bool.and_eq_true, decide_eq_true_eq, beq_iff_eq] at h
                  omega)
                have hsl9 : sl9.length ≤ 1000 := by have h1 := HA.out.finv.slen; have h2 := HG.out.slots; omega
                have HRET := Lib.hid (HA.out.eq.trans (loopM_ret HLT.out HGI.out rfl))
                have HEV := Lib.hid (endAll_inv sl9 _ (HA.out.inv.inc HLT.out))
                have SOK := Lib.hid HA.out.finv.sok
                clear HGQ
                obtain ⟨va3, vcap3, evl⟩ := HF12.out.slots.slice
                subst evl
                go_upto_region 20 with fail
                clear b0 b1 b2 b3 b4 b5_ b6 b7 b8 b9 f0 f3 f6 f7
                go_loopw [17, 103] (fun _ i wr2 => ∃ k : Nat, k ≤ sl9.length ∧ i = .int .i64 k ∧ ∃ ownr, MWAt w0 wr2 pw ownr fnv tops (endAll (sl9.take k) { stc with steps := stc.steps + 1 }) cc
                  ∧ MFr wr2 ownr pf pw b5 (.string g.name) (.slice pp g.params.length pcap) (.slice pk g.kinds.length kcap) (.slice ps g.slots.length scap) (.slice (some ac) g.code.length ccap) (.slice (some ⟨b5, 0, none⟩) g.kinds.length g.kinds.length) (.slice va3 sl9.length vcap3) x sl9 ∧ Chg own ownr w wr2 ∧ Chg ownc ownr w12 wr2) (fun _ i _ => sl9.length - (intOf i).toNat)
                case atStart => exact ⟨0, by omega, rfl, ownc, by simpa [endAll] using HW12.out, HF12.out, CH12.out, Chg.refl _ _⟩
                case round =>
                  obtain ⟨k, hk, rfl, ownr, hw2, hf2, hch, hcc2⟩ := hrel
                  have HWR := Lib.hid hw2
                  have HFR := Lib.hid hf2
                  have HCR := Lib.hid hch
                  have HCC := Lib.hid hcc2
                  clear hw2 hf2 hch hcc2
                  by_cases hlt : k < sl9.length
                  · have hd : decide (k < sl9.length) = true := decide_eq_true hlt
                    obtain ⟨sg, scap3, es, fs⟩ := slot_facts HFR.out (by omega)
                    simp only [Value.slice.injEq, true_and] at es
                    obtain ⟨rfl, rfl⟩ := es
                    obtain ⟨c0, c1, c2, c3⟩ := fs wr (Step.refl _ _) k ⟨by omega, by omega⟩
                    simp only [Int.toNat_natCast] at c0 c1 c2 c3
                    have HSN := Lib.hid (show endAll (sl9.take (k + 1)) { stc with steps := stc.steps + 1 } = endM (endAll (sl9.take k) { stc with steps := stc.steps + 1 }) (sl9.getD k Go.Proofs.Ytojfgdoniajmeaa.HP.zero).block from by
                      rw [List.take_succ_eq_append_getElem hlt, endAll_snoc, List.getD_eq_getElem?_getD, List.getElem?_eq_getElem hlt]; rfl)
                    have HPO := Lib.hid (slot_ok SOK.out k)
                    generalize sl9.getD k Go.Proofs.Ytojfgdoniajmeaa.HP.zero = p at *
                    generalize endAll (sl9.take k) { stc with steps := stc.steps + 1 } = stk at *
                    clear fs
                    go_upto_region 22 with fail
                    clear c0 c1 c2 c3
                    have kb := heap_alloc_new wr (.cells #[.int .i64 p.block, .int .i64 p.off, .int .i64 p.low, .int .i64 p.high] 94 (0, 0))
                    have S13 := Lib.hid (Step.alloc (fun _ => False) wr (.cells #[.int .i64 p.block, .int .i64 p.off, .int .i64 p.low, .int .i64 p.high] 94 (0, 0)))
                    generalize wr.alloc (.cells #[.int .i64 p.block, .int .i64 p.off, .int .i64 p.low, .int .i64 p.high] 94 (0, 0)) = w13 at kb S13 ⊢
                    generalize wr.heap.size = tb at kb ⊢
                    have KP := Lib.hid kb
                    obtain ⟨ph, bt, bf, vi, vo, P⟩ := HWR.out.still S13.out
                    have FX := Lib.hid (show ∀ y, Step (fun _ => False) w13 y → y.cell? ⟨pw, 0, none⟩ = some (.pointer (some ⟨ph, 0, none⟩)) ∧ y.cell? ⟨tb, 0, none⟩ = some (.int .i64 p.block) from fun y hy => ⟨cell_known (hy.keeps P.struct) rfl, cell_known (hy.keeps kb) rfl⟩)
                    have hpb := HPO.out.1
                    unfold i64B at hpb
                    have EN := Lib.hid (show ∀ y, Step (fun _ => False) w13 y → Calls Try.prog 44 #[.pointer (some ⟨ph, 0, none⟩), .int .i64 p.block] y fun e w' => ∃ r : Int, e = .returned (.int .i64 r) ∧ (goneOf stk.blks p.block = 0 ∧ Step (fun b => ownr b = 4) y w' ∧ HeapAt w' ph (setAt stk.blks p.block fun y => { y with live := false, used := false }) (struck stk.at_ p.block) cc (fun b => ownr b = 4) ∨ goneOf stk.blks p.block ≠ 0 ∧ Step (fun _ => False) y w') from fun y hy => (end_any ph p.block stk.blks stk.at_ cc _ y (P.still hy).heap P.lens.1 hpb.1 hpb.2).mono fun e w' ⟨h1, h2⟩ => ⟨_, h1, by
                      by_cases e0 : goneOf stk.blks p.block = 0
                      · rw [if_pos e0] at h2; exact .inl ⟨e0, h2⟩
                      · rw [if_neg e0] at h2; exact .inr ⟨e0, h2⟩⟩)
                    have PP := Lib.hid P
                    clear P kb hpb
                    refine wp_region_each 6 planCl22 (fun _ _ => False) (Step (fun _ => False) w13) (fun _ => True) [Is ?v22_5_0, Is ?v22_5_1, Is ?v22_5_2, Is ?v22_5_3, Is ?v22_5_4, Is ?v22_5_5] [] (by kernel_rfl) (by kernel_rfl) (fun _ _ h => h.elim) ((Step.refl _ _).drew) (trivial) ?stab22_5 ?stabD22_5 ?obl22_5 ?fin22_5
                    case stab22_5 => exact fun w w' h => ⟨fun k => k.trans h (fun _ x => x.elim), fun _ => trivial, ⟨fun _ k => k, fun _ k => k, fun _ k => k, fun _ k => k, fun _ k => k, fun _ k => k, trivial⟩, trivial⟩
                    case stabD22_5 => exact fun _ _ h => h.elim
                    case obl22_5 =>
                      refine ⟨?o22_5_0, ?o22_5_1, ?o22_5_2, ?o22_5_3, ?o22_5_4, ?o22_5_5, trivial⟩
                      all_goals intro xv wq hH hS H hU aq ha Q' hQ
                      case o22_5_0 => cases rd0 ha; clear H hU hS; go_wp2_with fail; (try refine hQ _ _ ?_); refine ⟨Step.refl _ _, ?_, trivial, nofun⟩; exact (rfl : _ = _)
                      case o22_5_1 | o22_5_2 => have ha := rd1 ha H (by kernel_rfl) rfl; simp only [q3, q5, q6, q7] at ha; subst ha; clear H hU hS; go_wp2_with fail; (try refine hQ _ _ ?_); refine ⟨Step.refl _ _, ?_, trivial, nofun⟩; exact (rfl : _ = _)
                      case o22_5_3 => obtain ⟨m0, t0_⟩ := FX.out _ hH; have ha := rd1 ha H (by kernel_rfl) rfl; simp only [q3, q5, q6, q7] at ha; subst ha; clear H hU hS; go_wp2_with fail; (try refine hQ _ _ ?_); refine ⟨Step.refl _ _, ?_, trivial, nofun⟩; exact (rfl : _ = _)
                      case o22_5_4 => cases rd0 ha; clear H hU hS; go_wp2_with fail; (try refine hQ _ _ ?_); refine ⟨Step.refl _ _, ?_, trivial, nofun⟩; exact (rfl : _ = _)
                      case o22_5_5 => obtain ⟨m0, t0_⟩ := FX.out _ hH; have ha := rd1 ha H (by kernel_rfl) rfl; simp only [q3, q5, q6, q7] at ha; subst ha; clear H hU hS; go_wp2_with fail; (try refine hQ _ _ ?_); refine ⟨Step.refl _ _, ?_, trivial, nofun⟩; exact (rfl : _ = _)
                    intro xv w14 hH hS H hU hsz hF hN
                    have h0 : xv 0 = _ := H 0 (by decide) (by kernel_rfl); have h1 : xv 1 = _ := H 1 (by decide) (by kernel_rfl); have h2 : xv 2 = _ := H 2 (by decide) (by kernel_rfl); have h3 : xv 3 = _ := H 3 (by decide) (by kernel_rfl); have h4 : xv 4 = _ := H 4 (by decide) (by kernel_rfl); have h5 : xv 5 = _ := H 5 (by decide) (by kernel_rfl)
                    simp only [planCl22, q1, q2, q3, q5, q6, q7, q4, List.drop_succ_cons, List.drop_zero, h0, h1, h2, h3, h4, h5]
                    clear H hF hN hS hU h0 h1 h2 h3 h4 h5
                    have SB := Lib.hid hH
                    clear hH
                    obtain ⟨m0, t0_⟩ := FX.out _ SB.out
                    go_wp2_with fail
                    refine (EN.out _ SB.out).mono ?_
                    rintro e w15 ⟨r, rfl, hr⟩
                    have HR := Lib.hid hr
                    clear hr
                    go_wp2_with fail
                    go_roundw
                    case rel =>
                      refine ⟨k + 1, by omega, by go_num, ?_⟩
                      rw [HSN.out]
                      rcases HR.out with ⟨e0, s3, hh⟩ | ⟨e0, s3⟩
                      · obtain ⟨own1, ch, P3⟩ := (PP.out.still SB.out).heapNext (Nat.le_refl cc) s3 hh (fun b hb => .inl hb) (by have := PP.out.lens; simp only [setAt, List.length_modify]; omega)
                        have CH := (Chg.calm ownr (S13.out.then SB.out)).trans ch
                        refine ⟨own1, ?_, HFR.out.keep CH, HCR.out.trans CH, HCC.out.trans CH⟩
                        unfold endM
                        rw [if_pos e0]
                        exact P3.whole
                      · have S3 := (S13.out.then SB.out).then s3
                        refine ⟨ownr, ?_, HFR.out.still S3, HCR.out.trans (Chg.calm ownr S3), HCC.out.trans (Chg.calm ownr S3)⟩
                        unfold endM
                        rw [if_neg e0]
                        exact HWR.out.still S3
                    case measure => simp [intOf]; omega
                  · have hd : decide (k < sl9.length) = false := decide_eq_false hlt
                    have e : k = sl9.length := by omega
                    subst e
                    have HWQ := HWR.out
                    rw [List.take_length] at HWQ
                    have HWE := Lib.hid HWQ
                    clear HWQ HWR
                    have KR2 := Lib.hid (HCC.out.keeps HR12.out HA.out.free.2)
                    have KO2 := Lib.hid (HCC.out.stays0 HR12.out HA.out.free.2)
                    have hki := HCC.out.keeps KI.out LT.out.2.1
                    have ka2 := cell_known hki (i := 2) rfl
                    have HCO := Lib.hid (show (cc : Int) ≤ 4000 + 2000 * (endAll sl9 { stc with steps := stc.steps + 1 }).steps from by have h1 := HA.out.cost; have h2 := HEV.out.2.1; rw [h2]; omega)
                    have LTR := Lib.hid (show w.heap.size ≤ tr ∧ w0.heap.size ≤ tr from by have h1 := HTG.out; have h2 := HW.out.since.size; omega)
                    obtain ⟨z0, z1, z2, z3, z4, y0, y1, y2, y3, y4⟩ := cells_known5 KR2.out
                    by_cases ha : a_ < 0
                    · have had : decide (a_ < 0) = true := decide_eq_true ha
                      have HRES := Lib.hid (show callM fns tops n st g args = .ret (endAll sl9 { stc with steps := stc.steps + 1 }) Go.Proofs.Ytojfgdoniajmeaa.HV.zero from HRET.out.trans (by rw [if_pos ha]))
                      clear ha HRET HAQ
                      go_wp2_with fail
                      refine bodyPost_ret (v := HV.zero.val) (by simp [results, Try.results34, go_sem, z0, z1, z2, z3, z4, HV.val, HV.zero]) rfl ?_
                      rw [HRES.out]
                      exact ⟨rfl, ownr, cc, ⟨set5_step HCR.out.step (.inr LTR.out.1) _ _ _ _ _, HCR.out.same⟩, HWE.out.setV KO2.out LTR.out.2 0 HV.zero, HCO.out⟩
                    · have had : decide (a_ < 0) = false := decide_eq_false ha
                      have HRES := Lib.hid (show callM fns tops n st g args = .ret (endAll sl9 { stc with steps := stc.steps + 1 }) (rgV x a_) from HRET.out.trans (by rw [if_neg ha]))
                      have hra : 0 ≤ a_ ∧ a_ < (g.kinds.length : Nat) := by have := HAQ.out; omega
                      have FRR := Lib.hid (frame_facts HFR.out)
                      have RFF := Lib.hid (show ∀ y, Step (fun _ => False) wr y → _ from fun y hy => reg_facts HFR.out y hy a_ (by rw [HA.out.finv.len]; exact hra))
                      generalize rgV x a_ = xx at *
                      obtain ⟨xn, ⟨xb, xo, xl, xh⟩⟩ := xx
                      simp only at RFF
                      have KI2 := Lib.hid hki
                      clear ha HRET HAQ z0 z1 z2 z3 z4 y0 y1 y2 y3 y4 hki
                      go_upto_region 26 with fail
                      clear ka2
                      refine wp_region_each 6 planCl26 (fun _ _ => False) (Step (fun _ => False) wr) (fun _ => True) [Is ?v26_6_0, Is ?v26_6_1, Is ?v26_6_2, Is ?v26_6_3, Is ?v26_6_4, Is ?v26_6_5] [] (by kernel_rfl) (by kernel_rfl) (fun _ _ h => h.elim) ((Step.refl _ _).drew) (trivial) ?stab26_6 ?stabD26_6 ?obl26_6 ?fin26_6
                      case stab26_6 => exact fun w w' h => ⟨fun k => k.trans h (fun _ x => x.elim), fun _ => trivial, ⟨fun _ k => k, fun _ k => k, fun _ k => k, fun _ k => k, fun _ k => k, fun _ k => k, trivial⟩, trivial⟩
                      case stabD26_6 => exact fun _ _ h => h.elim
                      case obl26_6 =>
                        refine ⟨?o26_6_0, ?o26_6_1, ?o26_6_2, ?o26_6_3, ?o26_6_4, ?o26_6_5, trivial⟩
                        all_goals intro xv wq hH hS H hU aq ha Q' hQ
                        case o26_6_0 => cases rd0 ha; clear H hU hS; go_wp2_with fail; (try refine hQ _ _ ?_); refine ⟨Step.refl _ _, ?_, trivial, nofun⟩; exact (rfl : _ = _)
                        case o26_6_1 | o26_6_2 => have ha := rd1 ha H (by kernel_rfl) rfl; simp only [q3, q5, q6, q7] at ha; subst ha; clear H hU hS; go_wp2_with fail; (try refine hQ _ _ ?_); refine ⟨Step.refl _ _, ?_, trivial, nofun⟩; exact (rfl : _ = _)
                        case o26_6_3 => obtain ⟨f0, f3, f6, f7⟩ := FRR.out _ hH; have ka2 := cell_known (hH.keeps KI2.out) (i := 2) rfl; have ha := rd1 ha H (by kernel_rfl) rfl; simp only [q3, q5, q6, q7] at ha; subst ha; clear H hU hS; go_wp2_with fail; (try refine hQ _ _ ?_); refine ⟨Step.refl _ _, ?_, trivial, nofun⟩; exact (rfl : _ = _)
                        case o26_6_4 => cases rd0 ha; clear H hU hS; go_wp2_with fail; (try refine hQ _ _ ?_); refine ⟨Step.refl _ _, ?_, trivial, nofun⟩; exact (rfl : _ = _)
                        case o26_6_5 => obtain ⟨f0, f3, f6, f7⟩ := FRR.out _ hH; have ka2 := cell_known (hH.keeps KI2.out) (i := 2) rfl; have ha := rd1 ha H (by kernel_rfl) rfl; simp only [q3, q5, q6, q7] at ha; subst ha; clear H hU hS; go_wp2_with fail; (try refine hQ _ _ ?_); refine ⟨Step.refl _ _, ?_, trivial, nofun⟩; exact (rfl : _ = _)
                      intro xv w14 hH hS H hU hsz hF hN
                      have h0 : xv 0 = _ := H 0 (by decide) (by kernel_rfl); have h1 : xv 1 = _ := H 1 (by decide) (by kernel_rfl); have h2 : xv 2 = _ := H 2 (by decide) (by kernel_rfl); have h3 : xv 3 = _ := H 3 (by decide) (by kernel_rfl); have h4 : xv 4 = _ := H 4 (by decide) (by kernel_rfl); have h5 : xv 5 = _ := H 5 (by decide) (by kernel_rfl)
                      simp only [planCl26, q1, q2, q3, q5, q6, q7, q4, List.drop_succ_cons, List.drop_zero, h0, h1, h2, h3, h4, h5]
                      clear H hF hN hS hU h0 h1 h2 h3 h4 h5
                      have SB := Lib.hid hH
                      clear hH
                      obtain ⟨v0, v1, v2, v3, v4, _⟩ := RFF.out _ SB.out
                      obtain ⟨z0, z1, z2, z3, z4, y0, y1, y2, y3, y4⟩ := cells_known5 (SB.out.keeps KR2.out)
                      go_wp2_with fail
                      refine bodyPost_ret (v := (HV.mk xn ⟨xb, xo, xl, xh⟩).val) (by simp [results, Try.results34, go_sem, z0, z1, z2, z3, z4, HV.val]) rfl ?_
                      rw [HRES.out]
                      exact ⟨rfl, ownr, cc, ⟨set5_step (HCR.out.step.then SB.out) (.inr LTR.out.1) _ _ _ _ _, HCR.out.same⟩, (HWE.out.still SB.out).setV KO2.out LTR.out.2 0 ⟨xn, ⟨xb, xo, xl, xh⟩⟩, HCO.out⟩

              · have h17b : (op == 17) = false := beq_false_of_ne h17
                have GXL := Lib.hid (show w0.heap.size ≤ b5 from Nat.le_trans HW.out.since.size LPF.out.2.2.2.2.1)
                have HAG := Lib.hid (show AllGoodM fns from fun s g h => by obtain ⟨_, _, _, h2⟩ := hE s g h; exact h2)
                by_cases h18 : op = 18
                · subst h18
                  go_upto_region 28 with fail
                  refine wp_region_each 14 planCl28a (fun _ _ => False) (Step (fun _ => False) w12) (fun _ => True) [Is ?v28_7_0, Is ?v28_7_1, Is ?v28_7_2, Is ?v28_7_3, Is ?v28_7_4, Is ?v28_7_5, Is ?v28_7_6, Is ?v28_7_7, Is ?v28_7_8, Is ?v28_7_9, Is ?v28_7_10, Is ?v28_7_11, Is ?v28_7_12, Is ?v28_7_13] [] (by kernel_rfl) (by kernel_rfl) (fun _ _ h => h.elim) ((Step.refl _ _).drew) (trivial) ?stab28_7 ?stabD28_7 ?obl28_7 ?fin28_7
                  case stab28_7 => exact fun w w' h => ⟨fun k => k.trans h (fun _ x => x.elim), fun _ => trivial, ⟨fun _ k => k, fun _ k => k, fun _ k => k, fun _ k => k, fun _ k => k, fun _ k => k, fun _ k => k, fun _ k => k, fun _ k => k, fun _ k => k, fun _ k => k, fun _ k => k, fun _ k => k, fun _ k => k, trivial⟩, trivial⟩
                  case stabD28_7 => exact fun _ _ h => h.elim
                  case obl28_7 =>
                    refine ⟨?o28_7_0, ?o28_7_1, ?o28_7_2, ?o28_7_3, ?o28_7_4, ?o28_7_5, ?o28_7_6, ?o28_7_7, ?o28_7_8, ?o28_7_9, ?o28_7_10, ?o28_7_11, ?o28_7_12, ?o28_7_13, trivial⟩
                    all_goals intro xv wq hH hS H hU aq ha Q' hQ
                    case o28_7_0 => cases rd0 ha; clear H hU hS; go_wp2_with fail; (try refine hQ _ _ ?_); refine ⟨Step.refl _ _, ?_, trivial, nofun⟩; exact (rfl : _ = _)
                    case o28_7_1 | o28_7_2 => obtain ⟨b0, b1, b2, b3, b4, b5_, b6, b7, b8, b9⟩ := FBI.out _ hH; obtain ⟨f0, f3, f6, f7⟩ := FF12.out _ hH; have ha := rd1 ha H (by kernel_rfl) rfl; simp only [q3, q5, q6, q7] at ha; subst ha; clear H hU hS; go_wp2_with fail; (try refine hQ _ _ ?_); refine ⟨Step.refl _ _, ?_, trivial, nofun⟩; exact (rfl : _ = _)
                    case o28_7_3 => have ha := rd1 ha H (by kernel_rfl) rfl; simp only [q3, q5, q6, q7] at ha; subst ha; clear H hU hS; go_wp2_with fail; (try refine hQ _ _ ?_); refine ⟨Step.refl _ _, ?_, trivial, nofun⟩; exact (rfl : _ = _)
                    case o28_7_4 => obtain ⟨b0, b1, b2, b3, b4, b5_, b6, b7, b8, b9⟩ := FBI.out _ hH; obtain ⟨f0, f3, f6, f7⟩ := FF12.out _ hH; have ha := rd1 ha H (by kernel_rfl) rfl; simp only [q3, q5, q6, q7] at ha; subst ha; clear H hU hS; go_wp2_with fail; (try refine hQ _ _ ?_); refine ⟨Step.refl _ _, ?_, trivial, nofun⟩; exact (rfl : _ = _)
                    case o28_7_5 | o28_7_6 | o28_7_7 => obtain ⟨b0, b1, b2, b3, b4, b5_, b6, b7, b8, b9⟩ := FBI.out _ hH; obtain ⟨f0, f3, f6, f7⟩ := FF12.out _ hH; have ha := rd2 ha H (by kernel_rfl) (by kernel_rfl) rfl rfl; simp only [q3, q5, q6, q7] at ha; subst ha; clear H hU hS; go_wp2_with fail; (try refine hQ _ _ ?_); refine ⟨Step.refl _ _, ?_, trivial, nofun⟩; exact (rfl : _ = _)
                    case o28_7_8 => obtain ⟨b0, b1, b2, b3, b4, b5_, b6, b7, b8, b9⟩ := FBI.out _ hH; obtain ⟨f0, f3, f6, f7⟩ := FF12.out _ hH; have ha := rd1 ha H (by kernel_rfl) rfl; simp only [q3, q5, q6, q7] at ha; subst ha; clear H hU hS; go_wp2_with fail; (try refine hQ _ _ ?_); refine ⟨Step.refl _ _, ?_, trivial, nofun⟩; exact (rfl : _ = _)
                    case o28_7_9 | o28_7_10 | o28_7_11 => obtain ⟨b0, b1, b2, b3, b4, b5_, b6, b7, b8, b9⟩ := FBI.out _ hH; obtain ⟨f0, f3, f6, f7⟩ := FF12.out _ hH; have ha := rd2 ha H (by kernel_rfl) (by kernel_rfl) rfl rfl; simp only [q3, q5, q6, q7] at ha; subst ha; clear H hU hS; go_wp2_with fail; (try refine hQ _ _ ?_); refine ⟨Step.refl _ _, ?_, trivial, nofun⟩; exact (rfl : _ = _)
                    case o28_7_12 => obtain ⟨b0, b1, b2, b3, b4, b5_, b6, b7, b8, b9⟩ := FBI.out _ hH; obtain ⟨f0, f3, f6, f7⟩ := FF12.out _ hH; have ha := rd1 ha H (by kernel_rfl) rfl; simp only [q3, q5, q6, q7] at ha; subst ha; clear H hU hS; go_wp2_with fail; (try refine hQ _ _ ?_); refine ⟨Step.refl _ _, ?_, trivial, nofun⟩; exact (rfl : _ = _)
                    case o28_7_13 => obtain ⟨b0, b1, b2, b3, b4, b5_, b6, b7, b8, b9⟩ := FBI.out _ hH; obtain ⟨f0, f3, f6, f7⟩ := FF12.out _ hH; have ha := rd2 ha H (by kernel_rfl) (by kernel_rfl) rfl rfl; simp only [q3, q5, q6, q7] at ha; subst ha; clear H hU hS; go_wp2_with fail; (try refine hQ _ _ ?_); refine ⟨Step.refl _ _, ?_, trivial, nofun⟩; exact (rfl : _ = _)
                  intro xv w13 hH hS H hU hsz hF hN
                  have h0 : xv 0 = _ := H 0 (by decide) (by kernel_rfl); have h1 : xv 1 = _ := H 1 (by decide) (by kernel_rfl); have h2 : xv 2 = _ := H 2 (by decide) (by kernel_rfl); have h3 : xv 3 = _ := H 3 (by decide) (by kernel_rfl); have h4 : xv 4 = _ := H 4 (by decide) (by kernel_rfl); have h5 : xv 5 = _ := H 5 (by decide) (by kernel_rfl); have h6 : xv 6 = _ := H 6 (by decide) (by kernel_rfl); have h7 : xv 7 = _ := H 7 (by decide) (by kernel_rfl); have h8 : xv 8 = _ := H 8 (by decide) (by kernel_rfl); have h9 : xv 9 = _ := H 9 (by decide) (by kernel_rfl); have h10 : xv 10 = _ := H 10 (by decide) (by kernel_rfl); have h11 : xv 11 = _ := H 11 (by decide) (by kernel_rfl); have h12 : xv 12 = _ := H 12 (by decide) (by kernel_rfl); have h13 : xv 13 = _ := H 13 (by decide) (by kernel_rfl)
                  simp only [planCl28a, q1, q2, q3, q5, q6, q7, q4, List.drop_succ_cons, List.drop_zero, h0, h1, h2, h3, h4, h5, h6, h7, h8, h9, h10, h11, h12, h13]
                  clear H hF hN hS hU h0 h1 h2 h3 h4 h5 h6 h7 h8 h9 h10 h11 h12 h13
                  have HJ := Lib.hid hH
                  clear hH
                  have NF := Lib.hid (show nextM x ⟨18, dst, a_, b_, n_, size, name, iar, iou, to⟩ at_ = to from by unfold nextM; rw [if_pos (.inl rfl)])
                  clear b0 b1 b2 b3 b4 b5_ b6 b7 b8 b9 f0 f3 f6 f7
                  obtain ⟨b0, b1, b2, b3, b4, b5_, b6, b7, b8, b9⟩ := FBI.out _ HJ.out
                  go_upto_region 30 with fail
                  clear b0 b1 b2 b3 b4 b5_ b6 b7 b8 b9
                  skip
                  have BX := FBI.out _ HJ.out
                  have DA := Lib.hid (do_all (IH m' (by omega)) hE (HW12.out.still HJ.out) (HF12.out.still HJ.out) GXL.out HI.out HKD.out HG.out HM.out h17 (HA.out.inv.inc HLT.out) HA.out.finv (by have := HA.out.cost; simp only; omega) (by have := HA.out.gas; simp only; omega))
                  obtain ⟨b0, b1, b2, b3, b4, b5_, b6, b7, b8, b9⟩ := BX
                  go_wp2_with fail
                  refine DA.out.mono ?_
                  rintro e w' hpost
                  cases ho : insM fns tops m' g.kinds sl9 { stc with steps := stc.steps + 1 } x ⟨18, dst, a_, b_, n_, size, name, iar, iou, to⟩ with
                  | go st' x' =>
                    rw [ho] at hpost
                    obtain ⟨rfl, c', hc', own', hg', hat', hfr'⟩ := hpost
                    have h1 := insM_inv HAG.out HG.out HM.out (HA.out.inv.inc HLT.out) HA.out.finv m' (loopM_inv HAG.out m')
                    rw [ho] at h1
                    have h3 := HA.out.eq.trans (loopM_step HLT.out HGI.out h17)
                    rw [ho] at h3
                    have h22 : (18 : Int) ≠ 22 := by decide
                    have NX := Lib.hid (next_in (x := x) HG.out HA.out.at0.1 HGI.out h17 h22)
                    have BK := hg'.keeps (HJ.out.keeps HB12.out) HA.out.free.1 (show tg ≠ b5 from fun e => LPF.out.2.2.2.1 e.symm)
                    have BR := hg'.keeps (HJ.out.keeps HR12.out) HA.out.free.2 (show tr ≠ b5 from fun e => LPF.out.2.2.2.2.2.2.2.1 e.symm)
                    have ATN := Lib.hid (show AtLoop w0 w w' pw own fnv tops fns pf b5 tg tr (.slice pp g.params.length pcap) (.slice pk g.kinds.length kcap) (.slice ps g.slots.length scap) (.slice (some ac) g.code.length ccap) (.slice (some ⟨b5, 0, none⟩) g.kinds.length g.kinds.length) vl g sl9 (callM fns tops n st g args) st' x' m' (nextM x ⟨18, dst, a_, b_, n_, size, name, iar, iou, to⟩ at_) own' c' from
                      ⟨NX.out, h3, by have := HA.out.gas; have h4 := h1.2.2.1; have h5 := h1.2.2.2; simp only at h4 h5; omega, h1.1, h1.2.1, hc', ((CH12.out.trans (Chg.calm ownc HJ.out)).transG hg' LPF.out.2.2.2.2.1), hat', hfr', BK.1, BR.1, BK.2, BR.2⟩)
                    have MS := Lib.hid (show w'.cell? ⟨pw, 6, none⟩ = some (.int .i64 st'.steps) ∧ wr.cell? ⟨pw, 6, none⟩ = some (.int .i64 stc.steps) ∧ stc.steps + 1 ≤ st'.steps ∧ stc.steps < stc.fuel ∧ stc.fuel ≤ 100000 from by
                      obtain ⟨_, _, _, _, _, Pn⟩ := hat'
                      obtain ⟨_, _, _, _, _, Po⟩ := HA.out.mach
                      have h5 := h1.2.2.2
                      simp only at h5
                      exact ⟨cell_known Pn.struct rfl, cell_known Po.struct rfl, h5, HLT.out, HA.out.inv.steps.2.2⟩)
                    clear hg' hat' hfr' h1 h3 ho BK BR
                    go_wp2_with fail
                    go_roundw
                    case rel => exact ⟨_, st', x', m', own', c', (by rw [NF.out]), by omega, ATN.out⟩
                    case measure =>
                      obtain ⟨q1, q2, q3, q4, q5⟩ := MS.out
                      rw [stepsLeft_of q1, stepsLeft_of q2]
                      omega
                  | stop st' s code why =>
                    rw [ho] at hpost
                    obtain ⟨c', rfl, own', hg', hat'⟩ := hpost
                    refine ⟨rfl, ?_⟩
                    have h3 := HA.out.eq.trans (loopM_step HLT.out HGI.out h17)
                    rw [ho] at h3
                    rw [h3]
                    exact ⟨rfl, own', c', (CH12.out.trans (Chg.calm ownc HJ.out)).transG hg' LPF.out.2.2.2.2.1, hat'⟩

                · have e18 : (op == 18) = false := beq_false_of_ne h18
                  by_cases h19 : op = 19
                  · subst h19
                    have G19 := goodIM_parts (HG.out.ins _ HM.out).1 (m := { a := 1, far := true }) (by rw [show (⟨19, dst, a_, b_, n_, size, name, iar, iou, to⟩ : FIns).op = 19 from rfl]; rfl)
                    have OKA := Lib.hid (show ok1 x a_ from regM_ok HA.out.finv.len G19.2.1 (by decide) rfl)
                    have RFX := Lib.hid (reg_facts HF12.out)
                    have OKB := Lib.hid (show 0 ≤ a_ ∧ a_ < (x.length : Nat) from OKA.out)
                    have OKC := Lib.hid (show 0 ≤ a_ ∧ a_ < (g.kinds.length : Nat) from by rw [← HA.out.finv.len]; exact OKA.out)
                    clear G19
                    by_cases hz : (rgV x a_).num = 0
                    · have ez : ((rgV x a_).num != 0) = false := by rw [hz]; rfl
                      have HZ := Lib.hid hz
                      have EZ := Lib.hid ez
                      clear hz ez
                      go_upto_region 28 with fail
                      refine wp_region_each 14 planCl28b (fun _ _ => False) (Step (fun _ => False) w12) (fun _ => True) [Is ?v28_8_0, Is ?v28_8_1, Is ?v28_8_2, Is ?v28_8_3, Is ?v28_8_4, Is ?v28_8_5, Is ?v28_8_6, Is ?v28_8_7, Is ?v28_8_8, Is ?v28_8_9, Is ?v28_8_10, Is ?v28_8_11, Is ?v28_8_12, Is ?v28_8_13] [] (by kernel_rfl) (by kernel_rfl) (fun _ _ h => h.elim) ((Step.refl _ _).drew) (trivial) ?stab28_8 ?stabD28_8 ?obl28_8 ?fin28_8
                      case stab28_8 => exact fun w w' h => ⟨fun k => k.trans h (fun _ x => x.elim), fun _ => trivial, ⟨fun _ k => k, fun _ k => k, fun _ k => k, fun _ k => k, fun _ k => k, fun _ k => k, fun _ k => k, fun _ k => k, fun _ k => k, fun _ k => k, fun _ k => k, fun _ k => k, fun _ k => k, fun _ k => k, trivial⟩, trivial⟩
                      case stabD28_8 => exact fun _ _ h => h.elim
                      case obl28_8 =>
                        refine ⟨?o28_8_0, ?o28_8_1, ?o28_8_2, ?o28_8_3, ?o28_8_4, ?o28_8_5, ?o28_8_6, ?o28_8_7, ?o28_8_8, ?o28_8_9, ?o28_8_10, ?o28_8_11, ?o28_8_12, ?o28_8_13, trivial⟩
                        all_goals intro xv wq hH hS H hU aq ha Q' hQ
                        case o28_8_0 => cases rd0 ha; clear H hU hS; go_wp2_with fail; (try refine hQ _ _ ?_); refine ⟨Step.refl _ _, ?_, trivial, nofun⟩; exact (rfl : _ = _)
                        case o28_8_1 | o28_8_2 => obtain ⟨b0, b1, b2, b3, b4, b5_, b6, b7, b8, b9⟩ := FBI.out _ hH; obtain ⟨f0, f3, f6, f7⟩ := FF12.out _ hH; have ez := EZ.out; obtain ⟨cra, _⟩ := RFX.out _ hH a_ OKB.out; obtain ⟨ob1, ob2⟩ := OKC.out; have ha := rd1 ha H (by kernel_rfl) rfl; simp only [q3, q5, q6, q7] at ha; subst ha; clear H hU hS; go_wp2_with fail; (try refine hQ _ _ ?_); refine ⟨Step.refl _ _, ?_, trivial, nofun⟩; exact (rfl : _ = _)
                        case o28_8_3 => have ha := rd1 ha H (by kernel_rfl) rfl; simp only [q3, q5, q6, q7] at ha; subst ha; clear H hU hS; go_wp2_with fail; (try refine hQ _ _ ?_); refine ⟨Step.refl _ _, ?_, trivial, nofun⟩; exact (rfl : _ = _)
                        case o28_8_4 => obtain ⟨b0, b1, b2, b3, b4, b5_, b6, b7, b8, b9⟩ := FBI.out _ hH; obtain ⟨f0, f3, f6, f7⟩ := FF12.out _ hH; have ez := EZ.out; obtain ⟨cra, _⟩ := RFX.out _ hH a_ OKB.out; obtain ⟨ob1, ob2⟩ := OKC.out; have ha := rd1 ha H (by kernel_rfl) rfl; simp only [q3, q5, q6, q7] at ha; subst ha; clear H hU hS; go_wp2_with fail; (try refine hQ _ _ ?_); refine ⟨Step.refl _ _, ?_, trivial, nofun⟩; exact (rfl : _ = _)
                        case o28_8_5 | o28_8_6 | o28_8_7 => obtain ⟨b0, b1, b2, b3, b4, b5_, b6, b7, b8, b9⟩ := FBI.out _ hH; obtain ⟨f0, f3, f6, f7⟩ := FF12.out _ hH; have ez := EZ.out; obtain ⟨cra, _⟩ := RFX.out _ hH a_ OKB.out; obtain ⟨ob1, ob2⟩ := OKC.out; have ha := rd2 ha H (by kernel_rfl) (by kernel_rfl) rfl rfl; simp only [q3, q5, q6, q7] at ha; subst ha; clear H hU hS; go_wp2_with fail; (try refine hQ _ _ ?_); refine ⟨Step.refl _ _, ?_, trivial, nofun⟩; exact (rfl : _ = _)
                        case o28_8_8 => obtain ⟨b0, b1, b2, b3, b4, b5_, b6, b7, b8, b9⟩ := FBI.out _ hH; obtain ⟨f0, f3, f6, f7⟩ := FF12.out _ hH; have ez := EZ.out; obtain ⟨cra, _⟩ := RFX.out _ hH a_ OKB.out; obtain ⟨ob1, ob2⟩ := OKC.out; have ha := rd1 ha H (by kernel_rfl) rfl; simp only [q3, q5, q6, q7] at ha; subst ha; clear H hU hS; go_wp2_with fail; (try refine hQ _ _ ?_); refine ⟨Step.refl _ _, ?_, trivial, nofun⟩; exact (rfl : _ = _)
                        case o28_8_9 | o28_8_10 | o28_8_11 => obtain ⟨b0, b1, b2, b3, b4, b5_, b6, b7, b8, b9⟩ := FBI.out _ hH; obtain ⟨f0, f3, f6, f7⟩ := FF12.out _ hH; have ez := EZ.out; obtain ⟨cra, _⟩ := RFX.out _ hH a_ OKB.out; obtain ⟨ob1, ob2⟩ := OKC.out; have ha := rd2 ha H (by kernel_rfl) (by kernel_rfl) rfl rfl; simp only [q3, q5, q6, q7] at ha; subst ha; clear H hU hS; go_wp2_with fail; (try refine hQ _ _ ?_); refine ⟨Step.refl _ _, ?_, trivial, nofun⟩; exact (rfl : _ = _)
                        case o28_8_12 => obtain ⟨b0, b1, b2, b3, b4, b5_, b6, b7, b8, b9⟩ := FBI.out _ hH; obtain ⟨f0, f3, f6, f7⟩ := FF12.out _ hH; have ez := EZ.out; obtain ⟨cra, _⟩ := RFX.out _ hH a_ OKB.out; obtain ⟨ob1, ob2⟩ := OKC.out; have ha := rd1 ha H (by kernel_rfl) rfl; simp only [q3, q5, q6, q7] at ha; subst ha; clear H hU hS; go_wp2_with fail; (try refine hQ _ _ ?_); refine ⟨Step.refl _ _, ?_, trivial, nofun⟩; exact (rfl : _ = _)
                        case o28_8_13 => obtain ⟨b0, b1, b2, b3, b4, b5_, b6, b7, b8, b9⟩ := FBI.out _ hH; obtain ⟨f0, f3, f6, f7⟩ := FF12.out _ hH; have ez := EZ.out; obtain ⟨cra, _⟩ := RFX.out _ hH a_ OKB.out; obtain ⟨ob1, ob2⟩ := OKC.out; have ha := rd2 ha H (by kernel_rfl) (by kernel_rfl) rfl rfl; simp only [q3, q5, q6, q7] at ha; subst ha; clear H hU hS; go_wp2_with fail; (try refine hQ _ _ ?_); refine ⟨Step.refl _ _, ?_, trivial, nofun⟩; exact (rfl : _ = _)
                      intro xv w13 hH hS H hU hsz hF hN
                      have h0 : xv 0 = _ := H 0 (by decide) (by kernel_rfl); have h1 : xv 1 = _ := H 1 (by decide) (by kernel_rfl); have h2 : xv 2 = _ := H 2 (by decide) (by kernel_rfl); have h3 : xv 3 = _ := H 3 (by decide) (by kernel_rfl); have h4 : xv 4 = _ := H 4 (by decide) (by kernel_rfl); have h5 : xv 5 = _ := H 5 (by decide) (by kernel_rfl); have h6 : xv 6 = _ := H 6 (by decide) (by kernel_rfl); have h7 : xv 7 = _ := H 7 (by decide) (by kernel_rfl); have h8 : xv 8 = _ := H 8 (by decide) (by kernel_rfl); have h9 : xv 9 = _ := H 9 (by decide) (by kernel_rfl); have h10 : xv 10 = _ := H 10 (by decide) (by kernel_rfl); have h11 : xv 11 = _ := H 11 (by decide) (by kernel_rfl); have h12 : xv 12 = _ := H 12 (by decide) (by kernel_rfl); have h13 : xv 13 = _ := H 13 (by decide) (by kernel_rfl)
                      simp only [planCl28b, q1, q2, q3, q5, q6, q7, q4, List.drop_succ_cons, List.drop_zero, h0, h1, h2, h3, h4, h5, h6, h7, h8, h9, h10, h11, h12, h13]
                      clear H hF hN hS hU h0 h1 h2 h3 h4 h5 h6 h7 h8 h9 h10 h11 h12 h13
                      have HJ := Lib.hid hH
                      clear hH
                      have NF := Lib.hid (show nextM x ⟨19, dst, a_, b_, n_, size, name, iar, iou, to⟩ at_ = at_ + 1 from by unfold nextM; rw [if_neg (by intro h; rcases h with h | ⟨_, h⟩; exact h18 h; exact h HZ.out)])
                      clear b0 b1 b2 b3 b4 b5_ b6 b7 b8 b9 f0 f3 f6 f7
                      obtain ⟨b0, b1, b2, b3, b4, b5_, b6, b7, b8, b9⟩ := FBI.out _ HJ.out
                      have ez := EZ.out
                      obtain ⟨cra, _⟩ := RFX.out _ HJ.out a_ OKB.out
                      obtain ⟨ob1, ob2⟩ := OKC.out
                      go_upto_region 30 with fail
                      clear b0 b1 b2 b3 b4 b5_ b6 b7 b8 b9
                      clear ez cra ob1 ob2
                      have BX := FBI.out _ HJ.out
                      have DA := Lib.hid (do_all (IH m' (by omega)) hE (HW12.out.still HJ.out) (HF12.out.still HJ.out) GXL.out HI.out HKD.out HG.out HM.out h17 (HA.out.inv.inc HLT.out) HA.out.finv (by have := HA.out.cost; simp only; omega) (by have := HA.out.gas; simp only; omega))
                      obtain ⟨b0, b1, b2, b3, b4, b5_, b6, b7, b8, b9⟩ := BX
                      go_wp2_with fail
                      refine DA.out.mono ?_
                      rintro e w' hpost
                      cases ho : insM fns tops m' g.kinds sl9 { stc with steps := stc.steps + 1 } x ⟨19, dst, a_, b_, n_, size, name, iar, iou, to⟩ with
                      | go st' x' =>
                        rw [ho] at hpost
                        obtain ⟨rfl, c', hc', own', hg', hat', hfr'⟩ := hpost
                        have h1 := insM_inv HAG.out HG.out HM.out (HA.out.inv.inc HLT.out) HA.out.finv m' (loopM_inv HAG.out m')
                        rw [ho] at h1
                        have h3 := HA.out.eq.trans (loopM_step HLT.out HGI.out h17)
                        rw [ho] at h3
                        have h22 : (19 : Int) ≠ 22 := by decide
                        have NX := Lib.hid (next_in (x := x) HG.out HA.out.at0.1 HGI.out h17 h22)
                        have BK := hg'.keeps (HJ.out.keeps HB12.out) HA.out.free.1 (show tg ≠ b5 from fun e => LPF.out.2.2.2.1 e.symm)
                        have BR := hg'.keeps (HJ.out.keeps HR12.out) HA.out.free.2 (show tr ≠ b5 from fun e => LPF.out.2.2.2.2.2.2.2.1 e.symm)
                        have ATN := Lib.hid (show AtLoop w0 w w' pw own fnv tops fns pf b5 tg tr (.slice pp g.params.length pcap) (.slice pk g.kinds.length kcap) (.slice ps g.slots.length scap) (.slice (some ac) g.code.length ccap) (.slice (some ⟨b5, 0, none⟩) g.kinds.length g.kinds.length) vl g sl9 (callM fns tops n st g args) st' x' m' (nextM x ⟨19, dst, a_, b_, n_, size, name, iar, iou, to⟩ at_) own' c' from
                          ⟨NX.out, h3, by have := HA.out.gas; have h4 := h1.2.2.1; have h5 := h1.2.2.2; simp only at h4 h5; omega, h1.1, h1.2.1, hc', ((CH12.out.trans (Chg.calm ownc HJ.out)).transG hg' LPF.out.2.2.2.2.1), hat', hfr', BK.1, BR.1, BK.2, BR.2⟩)
                        have MS := Lib.hid (show w'.cell? ⟨pw, 6, none⟩ = some (.int .i64 st'.steps) ∧ wr.cell? ⟨pw, 6, none⟩ = some (.int .i64 stc.steps) ∧ stc.steps + 1 ≤ st'.steps ∧ stc.steps < stc.fuel ∧ stc.fuel ≤ 100000 from by
                          obtain ⟨_, _, _, _, _, Pn⟩ := hat'
                          obtain ⟨_, _, _, _, _, Po⟩ := HA.out.mach
                          have h5 := h1.2.2.2
                          simp only at h5
                          exact ⟨cell_known Pn.struct rfl, cell_known Po.struct rfl, h5, HLT.out, HA.out.inv.steps.2.2⟩)
                        clear hg' hat' hfr' h1 h3 ho BK BR
                        go_wp2_with fail
                        go_roundw
                        case rel => exact ⟨_, st', x', m', own', c', (by rw [NF.out]), by omega, ATN.out⟩
                        case measure =>
                          obtain ⟨q1, q2, q3, q4, q5⟩ := MS.out
                          rw [stepsLeft_of q1, stepsLeft_of q2]
                          omega
                      | stop st' s code why =>
                        rw [ho] at hpost
                        obtain ⟨c', rfl, own', hg', hat'⟩ := hpost
                        refine ⟨rfl, ?_⟩
                        have h3 := HA.out.eq.trans (loopM_step HLT.out HGI.out h17)
                        rw [ho] at h3
                        rw [h3]
                        exact ⟨rfl, own', c', (CH12.out.trans (Chg.calm ownc HJ.out)).transG hg' LPF.out.2.2.2.2.1, hat'⟩

                    · have ez : ((rgV x a_).num != 0) = true := by simpa using hz
                      have HZ := Lib.hid hz
                      have EZ := Lib.hid ez
                      clear hz ez
                      go_upto_region 28 with fail
                      refine wp_region_each 14 planCl28c (fun _ _ => False) (Step (fun _ => False) w12) (fun _ => True) [Is ?v28_9_0, Is ?v28_9_1, Is ?v28_9_2, Is ?v28_9_3, Is ?v28_9_4, Is ?v28_9_5, Is ?v28_9_6, Is ?v28_9_7, Is ?v28_9_8, Is ?v28_9_9, Is ?v28_9_10, Is ?v28_9_11, Is ?v28_9_12, Is ?v28_9_13] [] (by kernel_rfl) (by kernel_rfl) (fun _ _ h => h.elim) ((Step.refl _ _).drew) (trivial) ?stab28_9 ?stabD28_9 ?obl28_9 ?fin28_9
                      case stab28_9 => exact fun w w' h => ⟨fun k => k.trans h (fun _ x => x.elim), fun _ => trivial, ⟨fun _ k => k, fun _ k => k, fun _ k => k, fun _ k => k, fun _ k => k, fun _ k => k, fun _ k => k, fun _ k => k, fun _ k => k, fun _ k => k, fun _ k => k, fun _ k => k, fun _ k => k, fun _ k => k, trivial⟩, trivial⟩
                      case stabD28_9 => exact fun _ _ h => h.elim
                      case obl28_9 =>
                        refine ⟨?o28_9_0, ?o28_9_1, ?o28_9_2, ?o28_9_3, ?o28_9_4, ?o28_9_5, ?o28_9_6, ?o28_9_7, ?o28_9_8, ?o28_9_9, ?o28_9_10, ?o28_9_11, ?o28_9_12, ?o28_9_13, trivial⟩
                        all_goals intro xv wq hH hS H hU aq ha Q' hQ
                        case o28_9_0 => cases rd0 ha; clear H hU hS; go_wp2_with fail; (try refine hQ _ _ ?_); refine ⟨Step.refl _ _, ?_, trivial, nofun⟩; exact (rfl : _ = _)
                        case o28_9_1 | o28_9_2 => obtain ⟨b0, b1, b2, b3, b4, b5_, b6, b7, b8, b9⟩ := FBI.out _ hH; obtain ⟨f0, f3, f6, f7⟩ := FF12.out _ hH; have ez := EZ.out; obtain ⟨cra, _⟩ := RFX.out _ hH a_ OKB.out; obtain ⟨ob1, ob2⟩ := OKC.out; have ha := rd1 ha H (by kernel_rfl) rfl; simp only [q3, q5, q6, q7] at ha; subst ha; clear H hU hS; go_wp2_with fail; (try refine hQ _ _ ?_); refine ⟨Step.refl _ _, ?_, trivial, nofun⟩; exact (rfl : _ = _)
                        case o28_9_3 => have ha := rd1 ha H (by kernel_rfl) rfl; simp only [q3, q5, q6, q7] at ha; subst ha; clear H hU hS; go_wp2_with fail; (try refine hQ _ _ ?_); refine ⟨Step.refl _ _, ?_, trivial, nofun⟩; exact (rfl : _ = _)
                        case o28_9_4 => obtain ⟨b0, b1, b2, b3, b4, b5_, b6, b7, b8, b9⟩ := FBI.out _ hH; obtain ⟨f0, f3, f6, f7⟩ := FF12.out _ hH; have ez := EZ.out; obtain ⟨cra, _⟩ := RFX.out _ hH a_ OKB.out; obtain ⟨ob1, ob2⟩ := OKC.out; have ha := rd1 ha H (by kernel_rfl) rfl; simp only [q3, q5, q6, q7] at ha; subst ha; clear H hU hS; go_wp2_with fail; (try refine hQ _ _ ?_); refine ⟨Step.refl _ _, ?_, trivial, nofun⟩; exact (rfl : _ = _)
                        case o28_9_5 | o28_9_6 | o28_9_7 => obtain ⟨b0, b1, b2, b3, b4, b5_, b6, b7, b8, b9⟩ := FBI.out _ hH; obtain ⟨f0, f3, f6, f7⟩ := FF12.out _ hH; have ez := EZ.out; obtain ⟨cra, _⟩ := RFX.out _ hH a_ OKB.out; obtain ⟨ob1, ob2⟩ := OKC.out; have ha := rd2 ha H (by kernel_rfl) (by kernel_rfl) rfl rfl; simp only [q3, q5, q6, q7] at ha; subst ha; clear H hU hS; go_wp2_with fail; (try refine hQ _ _ ?_); refine ⟨Step.refl _ _, ?_, trivial, nofun⟩; exact (rfl : _ = _)
                        case o28_9_8 => obtain ⟨b0, b1, b2, b3, b4, b5_, b6, b7, b8, b9⟩ := FBI.out _ hH; obtain ⟨f0, f3, f6, f7⟩ := FF12.out _ hH; have ez := EZ.out; obtain ⟨cra, _⟩ := RFX.out _ hH a_ OKB.out; obtain ⟨ob1, ob2⟩ := OKC.out; have ha := rd1 ha H (by kernel_rfl) rfl; simp only [q3, q5, q6, q7] at ha; subst ha; clear H hU hS; go_wp2_with fail; (try refine hQ _ _ ?_); refine ⟨Step.refl _ _, ?_, trivial, nofun⟩; exact (rfl : _ = _)
                        case o28_9_9 | o28_9_10 | o28_9_11 => obtain ⟨b0, b1, b2, b3, b4, b5_, b6, b7, b8, b9⟩ := FBI.out _ hH; obtain ⟨f0, f3, f6, f7⟩ := FF12.out _ hH; have ez := EZ.out; obtain ⟨cra, _⟩ := RFX.out _ hH a_ OKB.out; obtain ⟨ob1, ob2⟩ := OKC.out; have ha := rd2 ha H (by kernel_rfl) (by kernel_rfl) rfl rfl; simp only [q3, q5, q6, q7] at ha; subst ha; clear H hU hS; go_wp2_with fail; (try refine hQ _ _ ?_); refine ⟨Step.refl _ _, ?_, trivial, nofun⟩; exact (rfl : _ = _)
                        case o28_9_12 => obtain ⟨b0, b1, b2, b3, b4, b5_, b6, b7, b8, b9⟩ := FBI.out _ hH; obtain ⟨f0, f3, f6, f7⟩ := FF12.out _ hH; have ez := EZ.out; obtain ⟨cra, _⟩ := RFX.out _ hH a_ OKB.out; obtain ⟨ob1, ob2⟩ := OKC.out; have ha := rd1 ha H (by kernel_rfl) rfl; simp only [q3, q5, q6, q7] at ha; subst ha; clear H hU hS; go_wp2_with fail; (try refine hQ _ _ ?_); refine ⟨Step.refl _ _, ?_, trivial, nofun⟩; exact (rfl : _ = _)
                        case o28_9_13 => obtain ⟨b0, b1, b2, b3, b4, b5_, b6, b7, b8, b9⟩ := FBI.out _ hH; obtain ⟨f0, f3, f6, f7⟩ := FF12.out _ hH; have ez := EZ.out; obtain ⟨cra, _⟩ := RFX.out _ hH a_ OKB.out; obtain ⟨ob1, ob2⟩ := OKC.out; have ha := rd2 ha H (by kernel_rfl) (by kernel_rfl) rfl rfl; simp only [q3, q5, q6, q7] at ha; subst ha; clear H hU hS; go_wp2_with fail; (try refine hQ _ _ ?_); refine ⟨Step.refl _ _, ?_, trivial, nofun⟩; exact (rfl : _ = _)
                      intro xv w13 hH hS H hU hsz hF hN
                      have h0 : xv 0 = _ := H 0 (by decide) (by kernel_rfl); have h1 : xv 1 = _ := H 1 (by decide) (by kernel_rfl); have h2 : xv 2 = _ := H 2 (by decide) (by kernel_rfl); have h3 : xv 3 = _ := H 3 (by decide) (by kernel_rfl); have h4 : xv 4 = _ := H 4 (by decide) (by kernel_rfl); have h5 : xv 5 = _ := H 5 (by decide) (by kernel_rfl); have h6 : xv 6 = _ := H 6 (by decide) (by kernel_rfl); have h7 : xv 7 = _ := H 7 (by decide) (by kernel_rfl); have h8 : xv 8 = _ := H 8 (by decide) (by kernel_rfl); have h9 : xv 9 = _ := H 9 (by decide) (by kernel_rfl); have h10 : xv 10 = _ := H 10 (by decide) (by kernel_rfl); have h11 : xv 11 = _ := H 11 (by decide) (by kernel_rfl); have h12 : xv 12 = _ := H 12 (by decide) (by kernel_rfl); have h13 : xv 13 = _ := H 13 (by decide) (by kernel_rfl)
                      simp only [planCl28c, q1, q2, q3, q5, q6, q7, q4, List.drop_succ_cons, List.drop_zero, h0, h1, h2, h3, h4, h5, h6, h7, h8, h9, h10, h11, h12, h13]
                      clear H hF hN hS hU h0 h1 h2 h3 h4 h5 h6 h7 h8 h9 h10 h11 h12 h13
                      have HJ := Lib.hid hH
                      clear hH
                      have NF := Lib.hid (show nextM x ⟨19, dst, a_, b_, n_, size, name, iar, iou, to⟩ at_ = to from by unfold nextM; rw [if_pos (.inr ⟨rfl, HZ.out⟩)])
                      clear b0 b1 b2 b3 b4 b5_ b6 b7 b8 b9 f0 f3 f6 f7
                      obtain ⟨b0, b1, b2, b3, b4, b5_, b6, b7, b8, b9⟩ := FBI.out _ HJ.out
                      have ez := EZ.out
                      obtain ⟨cra, _⟩ := RFX.out _ HJ.out a_ OKB.out
                      obtain ⟨ob1, ob2⟩ := OKC.out
                      go_upto_region 30 with fail
                      clear b0 b1 b2 b3 b4 b5_ b6 b7 b8 b9
                      clear ez cra ob1 ob2
                      have BX := FBI.out _ HJ.out
                      have DA := Lib.hid (do_all (IH m' (by omega)) hE (HW12.out.still HJ.out) (HF12.out.still HJ.out) GXL.out HI.out HKD.out HG.out HM.out h17 (HA.out.inv.inc HLT.out) HA.out.finv (by have := HA.out.cost; simp only; omega) (by have := HA.out.gas; simp only; omega))
                      obtain ⟨b0, b1, b2, b3, b4, b5_, b6, b7, b8, b9⟩ := BX
                      go_wp2_with fail
                      refine DA.out.mono ?_
                      rintro e w' hpost
                      cases ho : insM fns tops m' g.kinds sl9 { stc with steps := stc.steps + 1 } x ⟨19, dst, a_, b_, n_, size, name, iar, iou, to⟩ with
                      | go st' x' =>
                        rw [ho] at hpost
                        obtain ⟨rfl, c', hc', own', hg', hat', hfr'⟩ := hpost
                        have h1 := insM_inv HAG.out HG.out HM.out (HA.out.inv.inc HLT.out) HA.out.finv m' (loopM_inv HAG.out m')
                        rw [ho] at h1
                        have h3 := HA.out.eq.trans (loopM_step HLT.out HGI.out h17)
                        rw [ho] at h3
                        have h22 : (19 : Int) ≠ 22 := by decide
                        have NX := Lib.hid (next_in (x := x) HG.out HA.out.at0.1 HGI.out h17 h22)
                        have BK := hg'.keeps (HJ.out.keeps HB12.out) HA.out.free.1 (show tg ≠ b5 from fun e => LPF.out.2.2.2.1 e.symm)
                        have BR := hg'.keeps (HJ.out.keeps HR12.out) HA.out.free.2 (show tr ≠ b5 from fun e => LPF.out.2.2.2.2.2.2.2.1 e.symm)
                        have ATN := Lib.hid (show AtLoop w0 w w' pw own fnv tops fns pf b5 tg tr (.slice pp g.params.length pcap) (.slice pk g.kinds.length kcap) (.slice ps g.slots.length scap) (.slice (some ac) g.code.length ccap) (.slice (some ⟨b5, 0, none⟩) g.kinds.length g.kinds.length) vl g sl9 (callM fns tops n st g args) st' x' m' (nextM x ⟨19, dst, a_, b_, n_, size, name, iar, iou, to⟩ at_) own' c' from
                          ⟨NX.out, h3, by have := HA.out.gas; have h4 := h1.2.2.1; have h5 := h1.2.2.2; simp only at h4 h5; omega, h1.1, h1.2.1, hc', ((CH12.out.trans (Chg.calm ownc HJ.out)).transG hg' LPF.out.2.2.2.2.1), hat', hfr', BK.1, BR.1, BK.2, BR.2⟩)
                        have MS := Lib.hid (show w'.cell? ⟨pw, 6, none⟩ = some (.int .i64 st'.steps) ∧ wr.cell? ⟨pw, 6, none⟩ = some (.int .i64 stc.steps) ∧ stc.steps + 1 ≤ st'.steps ∧ stc.steps < stc.fuel ∧ stc.fuel ≤ 100000 from by
                          obtain ⟨_, _, _, _, _, Pn⟩ := hat'
                          obtain ⟨_, _, _, _, _, Po⟩ := HA.out.mach
                          have h5 := h1.2.2.2
                          simp only at h5
                          exact ⟨cell_known Pn.struct rfl, cell_known Po.struct rfl, h5, HLT.out, HA.out.inv.steps.2.2⟩)
                        clear hg' hat' hfr' h1 h3 ho BK BR
                        go_wp2_with fail
                        go_roundw
                        case rel => exact ⟨_, st', x', m', own', c', (by rw [NF.out]), by omega, ATN.out⟩
                        case measure =>
                          obtain ⟨q1, q2, q3, q4, q5⟩ := MS.out
                          rw [stepsLeft_of q1, stepsLeft_of q2]
                          omega
                      | stop st' s code why =>
                        rw [ho] at hpost
                        obtain ⟨c', rfl, own', hg', hat'⟩ := hpost
                        refine ⟨rfl, ?_⟩
                        have h3 := HA.out.eq.trans (loopM_step HLT.out HGI.out h17)
                        rw [ho] at h3
                        rw [h3]
                        exact ⟨rfl, own', c', (CH12.out.trans (Chg.calm ownc HJ.out)).transG hg' LPF.out.2.2.2.2.1, hat'⟩

                  · have e19 : (op == 19) = false := beq_false_of_ne h19
                    go_upto_region 28 with fail
                    refine wp_region_each 14 planCl28d (fun _ _ => False) (Step (fun _ => False) w12) (fun _ => True) [Is ?v28_10_0, Is ?v28_10_1, Is ?v28_10_2, Is ?v28_10_3, Is ?v28_10_4, Is ?v28_10_5, Is ?v28_10_6, Is ?v28_10_7, Is ?v28_10_8, Is ?v28_10_9, Is ?v28_10_10, Is ?v28_10_11, Is ?v28_10_12, Is ?v28_10_13] [] (by kernel_rfl) (by kernel_rfl) (fun _ _ h => h.elim) ((Step.refl _ _).drew) (trivial) ?stab28_10 ?stabD28_10 ?obl28_10 ?fin28_10
                    case stab28_10 => exact fun w w' h => ⟨fun k => k.trans h (fun _ x => x.elim), fun _ => trivial, ⟨fun _ k => k, fun _ k => k, fun _ k => k, fun _ k => k, fun _ k => k, fun _ k => k, fun _ k => k, fun _ k => k, fun _ k => k, fun _ k => k, fun _ k => k, fun _ k => k, fun _ k => k, fun _ k => k, trivial⟩, trivial⟩
                    case stabD28_10 => exact fun _ _ h => h.elim
                    case obl28_10 =>
                      refine ⟨?o28_10_0, ?o28_10_1, ?o28_10_2, ?o28_10_3, ?o28_10_4, ?o28_10_5, ?o28_10_6, ?o28_10_7, ?o28_10_8, ?o28_10_9, ?o28_10_10, ?o28_10_11, ?o28_10_12, ?o28_10_13, trivial⟩
                      all_goals intro xv wq hH hS H hU aq ha Q' hQ
                      case o28_10_0 => cases rd0 ha; clear H hU hS; go_wp2_with fail; (try refine hQ _ _ ?_); refine ⟨Step.refl _ _, ?_, trivial, nofun⟩; exact (rfl : _ = _)
                      case o28_10_1 | o28_10_2 => obtain ⟨b0, b1, b2, b3, b4, b5_, b6, b7, b8, b9⟩ := FBI.out _ hH; obtain ⟨f0, f3, f6, f7⟩ := FF12.out _ hH; have ha := rd1 ha H (by kernel_rfl) rfl; simp only [q3, q5, q6, q7] at ha; subst ha; clear H hU hS; go_wp2_with fail; (try refine hQ _ _ ?_); refine ⟨Step.refl _ _, ?_, trivial, nofun⟩; exact (rfl : _ = _)
                      case o28_10_3 => have ha := rd1 ha H (by kernel_rfl) rfl; simp only [q3, q5, q6, q7] at ha; subst ha; clear H hU hS; go_wp2_with fail; (try refine hQ _ _ ?_); refine ⟨Step.refl _ _, ?_, trivial, nofun⟩; exact (rfl : _ = _)
                      case o28_10_4 => obtain ⟨b0, b1, b2, b3, b4, b5_, b6, b7, b8, b9⟩ := FBI.out _ hH; obtain ⟨f0, f3, f6, f7⟩ := FF12.out _ hH; have ha := rd1 ha H (by kernel_rfl) rfl; simp only [q3, q5, q6, q7] at ha; subst ha; clear H hU hS; go_wp2_with fail; (try refine hQ _ _ ?_); refine ⟨Step.refl _ _, ?_, trivial, nofun⟩; exact (rfl : _ = _)
                      case o28_10_5 | o28_10_6 | o28_10_7 => obtain ⟨b0, b1, b2, b3, b4, b5_, b6, b7, b8, b9⟩ := FBI.out _ hH; obtain ⟨f0, f3, f6, f7⟩ := FF12.out _ hH; have ha := rd2 ha H (by kernel_rfl) (by kernel_rfl) rfl rfl; simp only [q3, q5, q6, q7] at ha; subst ha; clear H hU hS; go_wp2_with fail; (try refine hQ _ _ ?_); refine ⟨Step.refl _ _, ?_, trivial, nofun⟩; exact (rfl : _ = _)
                      case o28_10_8 => obtain ⟨b0, b1, b2, b3, b4, b5_, b6, b7, b8, b9⟩ := FBI.out _ hH; obtain ⟨f0, f3, f6, f7⟩ := FF12.out _ hH; have ha := rd1 ha H (by kernel_rfl) rfl; simp only [q3, q5, q6, q7] at ha; subst ha; clear H hU hS; go_wp2_with fail; (try refine hQ _ _ ?_); refine ⟨Step.refl _ _, ?_, trivial, nofun⟩; exact (rfl : _ = _)
                      case o28_10_9 | o28_10_10 | o28_10_11 => obtain ⟨b0, b1, b2, b3, b4, b5_, b6, b7, b8, b9⟩ := FBI.out _ hH; obtain ⟨f0, f3, f6, f7⟩ := FF12.out _ hH; have ha := rd2 ha H (by kernel_rfl) (by kernel_rfl) rfl rfl; simp only [q3, q5, q6, q7] at ha; subst ha; clear H hU hS; go_wp2_with fail; (try refine hQ _ _ ?_); refine ⟨Step.refl _ _, ?_, trivial, nofun⟩; exact (rfl : _ = _)
                      case o28_10_12 => obtain ⟨b0, b1, b2, b3, b4, b5_, b6, b7, b8, b9⟩ := FBI.out _ hH; obtain ⟨f0, f3, f6, f7⟩ := FF12.out _ hH; have ha := rd1 ha H (by kernel_rfl) rfl; simp only [q3, q5, q6, q7] at ha; subst ha; clear H hU hS; go_wp2_with fail; (try refine hQ _ _ ?_); refine ⟨Step.refl _ _, ?_, trivial, nofun⟩; exact (rfl : _ = _)
                      case o28_10_13 => obtain ⟨b0, b1, b2, b3, b4, b5_, b6, b7, b8, b9⟩ := FBI.out _ hH; obtain ⟨f0, f3, f6, f7⟩ := FF12.out _ hH; have ha := rd2 ha H (by kernel_rfl) (by kernel_rfl) rfl rfl; simp only [q3, q5, q6, q7] at ha; subst ha; clear H hU hS; go_wp2_with fail; (try refine hQ _ _ ?_); refine ⟨Step.refl _ _, ?_, trivial, nofun⟩; exact (rfl : _ = _)
                    intro xv w13 hH hS H hU hsz hF hN
                    have h0 : xv 0 = _ := H 0 (by decide) (by kernel_rfl); have h1 : xv 1 = _ := H 1 (by decide) (by kernel_rfl); have h2 : xv 2 = _ := H 2 (by decide) (by kernel_rfl); have h3 : xv 3 = _ := H 3 (by decide) (by kernel_rfl); have h4 : xv 4 = _ := H 4 (by decide) (by kernel_rfl); have h5 : xv 5 = _ := H 5 (by decide) (by kernel_rfl); have h6 : xv 6 = _ := H 6 (by decide) (by kernel_rfl); have h7 : xv 7 = _ := H 7 (by decide) (by kernel_rfl); have h8 : xv 8 = _ := H 8 (by decide) (by kernel_rfl); have h9 : xv 9 = _ := H 9 (by decide) (by kernel_rfl); have h10 : xv 10 = _ := H 10 (by decide) (by kernel_rfl); have h11 : xv 11 = _ := H 11 (by decide) (by kernel_rfl); have h12 : xv 12 = _ := H 12 (by decide) (by kernel_rfl); have h13 : xv 13 = _ := H 13 (by decide) (by kernel_rfl)
                    simp only [planCl28d, q1, q2, q3, q5, q6, q7, q4, List.drop_succ_cons, List.drop_zero, h0, h1, h2, h3, h4, h5, h6, h7, h8, h9, h10, h11, h12, h13]
                    clear H hF hN hS hU h0 h1 h2 h3 h4 h5 h6 h7 h8 h9 h10 h11 h12 h13
                    have HJ := Lib.hid hH
                    clear hH
                    have NF := Lib.hid (show nextM x ⟨op, dst, a_, b_, n_, size, name, iar, iou, to⟩ at_ = at_ + 1 from by unfold nextM; rw [if_neg (by intro h; rcases h with h | ⟨h, _⟩; exact h18 h; exact h19 h)])
                    clear b0 b1 b2 b3 b4 b5_ b6 b7 b8 b9 f0 f3 f6 f7
                    obtain ⟨b0, b1, b2, b3, b4, b5_, b6, b7, b8, b9⟩ := FBI.out _ HJ.out
                    go_upto_region 30 with fail
                    clear b0 b1 b2 b3 b4 b5_ b6 b7 b8 b9
                    skip
                    have BX := FBI.out _ HJ.out
                    have DA := Lib.hid (do_all (IH m' (by omega)) hE (HW12.out.still HJ.out) (HF12.out.still HJ.out) GXL.out HI.out HKD.out HG.out HM.out h17 (HA.out.inv.inc HLT.out) HA.out.finv (by have := HA.out.cost; simp only; omega) (by have := HA.out.gas; simp only; omega))
                    obtain ⟨b0, b1, b2, b3, b4, b5_, b6, b7, b8, b9⟩ := BX
                    go_wp2_with fail
                    refine DA.out.mono ?_
                    rintro e w' hpost
                    cases ho : insM fns tops m' g.kinds sl9 { stc with steps := stc.steps + 1 } x ⟨op, dst, a_, b_, n_, size, name, iar, iou, to⟩ with
                    | go st' x' =>
                      rw [ho] at hpost
                      obtain ⟨rfl, c', hc', own', hg', hat', hfr'⟩ := hpost
                      have h1 := insM_inv HAG.out HG.out HM.out (HA.out.inv.inc HLT.out) HA.out.finv m' (loopM_inv HAG.out m')
                      rw [ho] at h1
                      have h3 := HA.out.eq.trans (loopM_step HLT.out HGI.out h17)
                      rw [ho] at h3
                      have h22 : op ≠ 22 := fun e => by
                        subst e
                        unfold insM at ho
                        rw [if_neg (show ¬ (22 : Int) = 16 by decide)] at ho
                        obtain ⟨code, hc⟩ := instrM_22 (tops := tops) (kinds := g.kinds) (slots := sl9) (st := { stc with steps := stc.steps + 1 }) (x := x) (i := ⟨22, dst, a_, b_, n_, size, name, iar, iou, to⟩) rfl
                        rw [hc] at ho
                        cases ho
                      have NX := Lib.hid (next_in (x := x) HG.out HA.out.at0.1 HGI.out h17 h22)
                      have BK := hg'.keeps (HJ.out.keeps HB12.out) HA.out.free.1 (show tg ≠ b5 from fun e => LPF.out.2.2.2.1 e.symm)
                      have BR := hg'.keeps (HJ.out.keeps HR12.out) HA.out.free.2 (show tr ≠ b5 from fun e => LPF.out.2.2.2.2.2.2.2.1 e.symm)
                      have ATN := Lib.hid (show AtLoop w0 w w' pw own fnv tops fns pf b5 tg tr (.slice pp g.params.length pcap) (.slice pk g.kinds.length kcap) (.slice ps g.slots.length scap) (.slice (some ac) g.code.length ccap) (.slice (some ⟨b5, 0, none⟩) g.kinds.length g.kinds.length) vl g sl9 (callM fns tops n st g args) st' x' m' (nextM x ⟨op, dst, a_, b_, n_, size, name, iar, iou, to⟩ at_) own' c' from
                        ⟨NX.out, h3, by have := HA.out.gas; have h4 := h1.2.2.1; have h5 := h1.2.2.2; simp only at h4 h5; omega, h1.1, h1.2.1, hc', ((CH12.out.trans (Chg.calm ownc HJ.out)).transG hg' LPF.out.2.2.2.2.1), hat', hfr', BK.1, BR.1, BK.2, BR.2⟩)
                      have MS := Lib.hid (show w'.cell? ⟨pw, 6, none⟩ = some (.int .i64 st'.steps) ∧ wr.cell? ⟨pw, 6, none⟩ = some (.int .i64 stc.steps) ∧ stc.steps + 1 ≤ st'.steps ∧ stc.steps < stc.fuel ∧ stc.fuel ≤ 100000 from by
                        obtain ⟨_, _, _, _, _, Pn⟩ := hat'
                        obtain ⟨_, _, _, _, _, Po⟩ := HA.out.mach
                        have h5 := h1.2.2.2
                        simp only at h5
                        exact ⟨cell_known Pn.struct rfl, cell_known Po.struct rfl, h5, HLT.out, HA.out.inv.steps.2.2⟩)
                      clear hg' hat' hfr' h1 h3 ho BK BR
                      go_wp2_with fail
                      go_roundw
                      case rel => exact ⟨_, st', x', m', own', c', (by rw [NF.out]), by omega, ATN.out⟩
                      case measure =>
                        obtain ⟨q1, q2, q3, q4, q5⟩ := MS.out
                        rw [stepsLeft_of q1, stepsLeft_of q2]
                        omega
                    | stop st' s code why =>
                      rw [ho] at hpost
                      obtain ⟨c', rfl, own', hg', hat'⟩ := hpost
                      refine ⟨rfl, ?_⟩
                      have h3 := HA.out.eq.trans (loopM_step HLT.out HGI.out h17)
                      rw [ho] at h3
                      rw [h3]
                      exact ⟨rfl, own', c', (CH12.out.trans (Chg.calm ownc HJ.out)).transG hg' LPF.out.2.2.2.2.1, hat'⟩

            · have hd : decide (stc.fuel ≤ stc.steps) = true := decide_eq_true (by omega)
              have HRS := Lib.hid (loopM_out (fns := fns) (tops := tops) (n := m) (f := g) (slots := sl9) (x := x) (a := at_) hlt)
              clear hlt
              go_upto_region 14 with fail
              refine wp_region_each 8 planCl14 (fun _ _ => False) (Step (fun _ => False) wr) (fun _ => True) [Is ?v14_11_0, Is ?v14_11_1, Is ?v14_11_2, Is ?v14_11_3, Is ?v14_11_4, Is ?v14_11_5, Is ?v14_11_6, Is ?v14_11_7] [] (by kernel_rfl) (by kernel_rfl) (fun _ _ h => h.elim) ((Step.refl _ _).drew) (trivial) ?stab14_11 ?stabD14_11 ?obl14_11 ?fin14_11
              case stab14_11 => exact fun w w' h => ⟨fun k => k.trans h (fun _ x => x.elim), fun _ => trivial, ⟨fun _ k => k, fun _ k => k, fun _ k => k, fun _ k => k, fun _ k => k, fun _ k => k, fun _ k => k, fun _ k => k, trivial⟩, trivial⟩
              case stabD14_11 => exact fun _ _ h => h.elim
              case obl14_11 =>
                refine ⟨?o14_11_0, ?o14_11_1, ?o14_11_2, ?o14_11_3, ?o14_11_4, ?o14_11_5, ?o14_11_6, ?o14_11_7, trivial⟩
                all_goals intro xv wq hH hS H hU aq ha Q' hQ
                case o14_11_0 => cases rd0 ha; clear H hU hS; go_wp2_with fail; (try refine hQ _ _ ?_); refine ⟨Step.refl _ _, ?_, trivial, nofun⟩; exact (rfl : _ = _)
                case o14_11_1 | o14_11_2 => have ha := rd1 ha H (by kernel_rfl) rfl; simp only [q3, q5, q6, q7] at ha; subst ha; clear H hU hS; go_wp2_with fail; (try refine hQ _ _ ?_); refine ⟨Step.refl _ _, ?_, trivial, nofun⟩; exact (rfl : _ = _)
                case o14_11_3 => obtain ⟨x12, x11⟩ := FAC.out _ hH; have ha := rd1 ha H (by kernel_rfl) rfl; simp only [q3, q5, q6, q7] at ha; subst ha; clear H hU hS; go_wp2_with fail; (try refine hQ _ _ ?_); refine ⟨Step.refl _ _, ?_, trivial, nofun⟩; exact (rfl : _ = _)
                case o14_11_4 => cases rd0 ha; clear H hU hS; go_wp2_with fail; (try refine hQ _ _ ?_); refine ⟨Step.refl _ _, ?_, trivial, nofun⟩; exact (rfl : _ = _)
                case o14_11_5 | o14_11_6 => have ha := rd1 ha H (by kernel_rfl) rfl; simp only [q3, q5, q6, q7] at ha; subst ha; clear H hU hS; go_wp2_with fail; (try refine hQ _ _ ?_); refine ⟨Step.refl _ _, ?_, trivial, nofun⟩; exact (rfl : _ = _)
                case o14_11_7 => obtain ⟨x12, x11⟩ := FAC.out _ hH; have ha := rd1 ha H (by kernel_rfl) rfl; simp only [q3, q5, q6, q7] at ha; subst ha; clear H hU hS; go_wp2_with fail; (try refine hQ _ _ ?_); refine ⟨Step.refl _ _, ?_, trivial, nofun⟩; exact (rfl : _ = _)
              intro xv w10 hH hS H hU hsz hF hN
              have h0 : xv 0 = _ := H 0 (by decide) (by kernel_rfl); have h1 : xv 1 = _ := H 1 (by decide) (by kernel_rfl); have h2 : xv 2 = _ := H 2 (by decide) (by kernel_rfl); have h3 : xv 3 = _ := H 3 (by decide) (by kernel_rfl); have h4 : xv 4 = _ := H 4 (by decide) (by kernel_rfl); have h5 : xv 5 = _ := H 5 (by decide) (by kernel_rfl); have h6 : xv 6 = _ := H 6 (by decide) (by kernel_rfl); have h7 : xv 7 = _ := H 7 (by decide) (by kernel_rfl)
              simp only [planCl14, q1, q2, q3, q5, q6, q7, q4, List.drop_succ_cons, List.drop_zero, h0, h1, h2, h3, h4, h5, h6, h7]
              clear H hF hN hS hU h0 h1 h2 h3 h4 h5 h6 h7
              have H10 := Lib.hid hH
              clear hH
              go_wp2_with fail
              refine ⟨rfl, ?_⟩
              rw [HA.out.eq, HRS.out]
              exact ⟨rfl, ownc, cc, HA.out.chg.trans (Chg.calm ownc H10.out), HA.out.mach.still H10.out⟩
end
end Go.Proofs.Ytojfgdoniajmeaa
