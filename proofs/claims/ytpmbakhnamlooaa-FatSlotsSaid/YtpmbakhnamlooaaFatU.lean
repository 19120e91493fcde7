/- Package fat: a call, walked. -/
import Derived.Test.YtpmbakhnamlooaaFatT
namespace Go.Proofs.Ytpmbakhnamlooaa
set_option linter.unusedVariables false
set_option linter.unusedSimpArgs false
open Go.RowKit

section
variable {w0 w w' w1 w2 : World} {pf pw gx : Nat} {own own' own'' : Nat → Nat} {vn vp vk vs vc vr vl : Value} {regs slots : List Int} {lock key : Int} {fnv : List UInt8 → Option Value} {tops : List UInt8 → Option Int} {st : FSt} {c : Nat} {fns : List UInt8 → Option FFn}

theorem run_zeros (k : Nat) (hk : k ≤ 1000) (y : World) : (Instr.makeSlice 44 (.int .i64 k) (.int .i64 k)).run Try.prog y = .ok (.slice (some ⟨y.heap.size, 0, none⟩) k k) (y.alloc (.cells (Array.replicate k (.int .u64 0)) 38)) := by
  obtain ⟨i0, hi, hz0, hz1, hz2⟩ := info_parts u64_info
  have h := run_make (P := Try.prog) y 44 38 i0 (.int .u64 0) Try.underlying44 hi hz0 .i64 .i64 k k (by omega) (Int.le_refl _) (by rw [hz2]; omega) (by omega)
  rw [hz1] at h
  simp only [Int.toNat_natCast, Nat.mul_one] at h
  rw [h]
  have e : madeCells (Value.cells (.int .u64 0)) k = Array.replicate k (.int .u64 0) := by
    apply Array.ext_getElem?
    intro j
    by_cases hj : j < k
    · simp [madeCells, Value.cells, hj, Nat.mod_one]
    · simp [madeCells, hj]
  rw [e]
/-- a call's registers, just made -/
def NewRow (W : World) (k : Nat) (y : Value) (w : World) : Prop := ∃ b, y = .slice (some ⟨b, 0, none⟩) k k ∧ W.heap.size ≤ b ∧ w.heap[b]? = some (.cells (Array.replicate k (.int .u64 0)) 38 (0, 0))
theorem NewRow.stable {W : World} {k : Nat} {y : Value} (h : Step (fun _ => False) w w') (g : NewRow W k y w) : NewRow W k y w' := by
  obtain ⟨b, e, l, g⟩ := g
  exact ⟨b, e, l, h.keeps g⟩
theorem FrAt.fresh {f gx k : Nat} (hf : w.heap[f]? = some (.cells #[.pointer (some ⟨pw, 0, none⟩), vn, vp, vk, vs, vc, .slice (some ⟨gx, 0, none⟩) k k, .slice none 0 0, .int .i64 0, .int .u64 0] 116 (0, 0))) (hx : w.heap[gx]? = some (.cells (Array.replicate k (.int .u64 0)) 38 (0, 0))) (h1 : own f = 0) (h2 : own gx = 0) (hne : f ≠ gx) (hk : k ≤ 1000) :
    FrAt w own f pw gx vn vp vk vs vc (.slice (some ⟨gx, 0, none⟩) k k) (.slice none 0 0) (List.replicate k 0) [] 0 0 := by
  refine ⟨hf, ⟨by simp, .inr ⟨gx, k, _, by simp, rfl, hx, by simp, by simp only [maxLen]; omega, by simp, ?_⟩⟩, ⟨by simp, .inl ⟨rfl, rfl⟩⟩, h1, h2, hne, lt_obj hx⟩
  rw [Array.toList_replicate, List.map_replicate, List.length_replicate, Nat.mul_one]
  simp
theorem slice_known {F : Nat → Prop} {T : TypeId} {va : Value} {l : List Int} (h : RowAt w F T 1 va l.length (l.map (Value.int .u64))) (h0 : 0 < l.length) : ∃ g cap, va = .slice (some ⟨g, 0, none⟩) l.length cap ∧ F g ∧ g < w.heap.size ∧ ∀ k, k < l.length → w.cell? ⟨g, k, none⟩ = some (.int .u64 (l.getD k 0)) := by
  obtain ⟨g, cap, cur, rfl, hg, hr, h1, h2, h3, h4⟩ := h.some h0
  refine ⟨g, cap, rfl, hg, lt_known hr, fun k hk => row_cell hr h4 ?_⟩
  rw [List.getElem?_map, List.getD_eq_getElem?_getD, List.getElem?_eq_getElem hk]; rfl

/-- the first k places of slots, and the top behind them -/
def plAcc (l : List Int) (t : Int) : Nat → List Int × Int
  | 0 => ([], t)
  | k + 1 => ((plAcc l t k).1 ++ [((plAcc l t k).2 + 15) / 16 * 16], ((plAcc l t k).2 + 15) / 16 * 16 + l.getD k 0)
theorem plAcc_cons (n : Int) (l : List Int) (t : Int) : ∀ k, plAcc (n :: l) t (k + 1) = ((t + 15) / 16 * 16 :: (plAcc l ((t + 15) / 16 * 16 + n) k).1, (plAcc l ((t + 15) / 16 * 16 + n) k).2)
  | 0 => by simp [plAcc]
  | k + 1 => by
    rw [plAcc, plAcc_cons n l t k]
    simp [plAcc]
theorem placesF_ok : ∀ (l : List Int) (t : Int), (∀ k, k < l.length → (plAcc l t (k + 1)).2 ≤ 4194304) → placesF l t = ((plAcc l t l.length).1, (plAcc l t l.length).2, true)
  | [], t, _ => rfl
  | n :: l, t, h => by
    have h0 := h 0 (by simp)
    rw [plAcc_cons] at h0
    have ih := placesF_ok l ((t + 15) / 16 * 16 + n) fun k hk => by have := h (k + 1) (by simp; omega); rw [plAcc_cons] at this; exact this
    simp only [plAcc] at h0
    unfold placesF
    simp only
    rw [if_pos h0, ih, List.length_cons, plAcc_cons]
theorem placesF_no : ∀ (l : List Int) (t : Int) (k : Nat), k < l.length → (∀ j, j < k → (plAcc l t (j + 1)).2 ≤ 4194304) → ¬ (plAcc l t (k + 1)).2 ≤ 4194304 → (placesF l t).2 = ((plAcc l t (k + 1)).2, false)
  | [], _, _, h, _, _ => by simp at h
  | n :: l, t, 0, _, _, h => by
    rw [plAcc_cons] at h ⊢
    simp only [plAcc] at h
    unfold placesF
    simp only
    rw [if_neg h]
    rfl
  | n :: l, t, k + 1, hk, hj, h => by
    have h0 := hj 0 (by omega)
    rw [plAcc_cons] at h0 h ⊢
    simp only [plAcc] at h0
    have ih := placesF_no l ((t + 15) / 16 * 16 + n) k (by simp at hk; omega) (fun j hjk => by have := hj (j + 1) (by omega); rw [plAcc_cons] at this; exact this) h
    unfold placesF
    simp only
    rw [if_pos h0, ih]
theorem plAcc_top {l : List Int} {t : Int} (ht : 0 ≤ t ∧ t ≤ 4194304) (hl : ∀ n ∈ l, 1 ≤ n ∧ n ≤ 65536) : ∀ k, k ≤ l.length → (∀ j, j < k → (plAcc l t (j + 1)).2 ≤ 4194304) → 0 ≤ (plAcc l t k).2 ∧ (plAcc l t k).2 ≤ 4194304
  | 0, _, _ => ht
  | k + 1, hk, h => by
    have ih := plAcc_top ht hl k (by omega) fun j hj => h j (by omega)
    have hn := hl (l.getD k 0) (by rw [List.getD_eq_getElem?_getD, List.getElem?_eq_getElem (by omega)]; exact List.getElem_mem _)
    refine ⟨?_, h k (by omega)⟩
    simp only [plAcc]
    omega
theorem plAcc_len (l : List Int) (t : Int) : ∀ k, (plAcc l t k).1.length = k
  | 0 => rfl
  | k + 1 => by simp [plAcc, plAcc_len l t k]
/-- a row of a call's own got one more -/
def GrewB (W : World) (gs T : Nat) (xs : List Value) (y : Value) (w : World) : Prop := ∃ g cap, y = .slice (some ⟨g, 0, none⟩) xs.length cap ∧ RowAt w (fun b => b = gs ∨ W.heap.size ≤ b) T 1 (.slice (some ⟨g, 0, none⟩) xs.length cap) xs.length xs ∧ Step (fun b => b = gs) W w
theorem GrewB.stable {W : World} {gs T : Nat} {xs : List Value} {y : Value} (h : Step (fun _ => False) w w') (k : GrewB W gs T xs y w) : GrewB W gs T xs y w' := by
  obtain ⟨g, cap, e, k1, k2⟩ := k
  exact ⟨g, cap, e, k1.same fun b _ hb => h.block b hb fun x => x, k2.trans h fun _ x => x.elim⟩
theorem int_info : (Try.prog.info? 3).map (fun i => (i.zero, i.size, i.bytes)) = some (some (.int .i64 0), 1, 8) := by kernel_rfl
theorem FrAt.grow {gs : Nat} (h : FrAt w1 own pf pw gx vn vp vk vs vc vr vl regs slots lock key) (s : Step (fun b => b = gs) w1 w2) (hg : gs ≠ pf ∧ gs ≠ gx) {vl' : Value} {slots' : List Int} (hr : RowAt w2 (fun b => own b = 0 ∧ b ≠ gx ∧ b ≠ pf) 3 1 vl' slots'.length (slots'.map (Value.int .i64))) :
    FrAt (w2.setCell ⟨pf, 7, none⟩ vl') own pf pw gx vn vp vk vs vc vr vl' regs slots' lock key := by
  obtain ⟨f1, f2, f3, f4⟩ := h.free
  have hz := s.size
  have k := (s.block pf (lt_known h.struct) (fun e => hg.1 e.symm)).trans h.struct
  refine ⟨by rw [set_known k]; rfl, (h.regs.same (w' := w2) fun b hb hlt => s.block b hlt fun e => hg.2 (by rw [← e, hb])).same fun b hb _ => set_other _ _ fun e => f3 (by rw [hb] at e; exact e.symm), hr.same fun b hb _ => set_other _ _ hb.2.2, f1, f2, f3, by simp; omega⟩
theorem callF_room {f : FFn} {n : Nat} {args : List Int} {T : Int} (hs : f.slots ≠ []) (h : (placesF f.slots st.top).2 = (T, false)) : callF fns tops n st f args = .stop { st with top := T } 3 0 := by
  unfold callF enterF
  simp only
  rw [if_neg hs, h]
  simp
theorem enterF_none {f : FFn} {args : List Int} {ls : List Int} {t : Int} (hs : f.slots = []) (h : placesF f.slots st.top = (ls, t, true)) :
    enterF st f args = ({ st with top := t }, ⟨ls, f.slots, 0, 0⟩, writeAcc (List.replicate f.kinds.length 0) f.params args f.params.length, true) := by
  unfold enterF
  simp only
  rw [if_pos hs, h]
theorem enterF_some {f : FFn} {args : List Int} {ls : List Int} {t : Int} (hs : f.slots ≠ []) (h : placesF f.slots st.top = (ls, t, true)) :
    enterF st f args = ({ st with top := t, keys := st.keys + 1, locks := st.locks ++ [st.keys + 1] }, ⟨ls, f.slots, st.locks.length, st.keys + 1⟩, writeAcc (List.replicate f.kinds.length 0) f.params args f.params.length, true) := by
  unfold enterF
  simp only
  rw [if_neg hs, h]
  simp
theorem callF_of {f : FFn} {n : Nat} {args : List Int} {st1 : FSt} {fr : Frm} {x : List Int} (h : enterF st f args = (st1, fr, x, true)) : callF fns tops n st f args = loopF fns tops n f fr st.top st1 x 0 := by
  unfold callF
  simp only
  rw [h]
  simp
/-- a lock loses its key -/
theorem FParts.unlock {bf bt bm bs bb : Nat} {ul ui uo : Value} (P : FParts w0 w pw own fnv tops st c bf bt bm bs bb ul ui uo) (l : Int) (hl : 0 ≤ l ∧ l < st.locks.length) : ∃ gl cap, ul = .slice (some ⟨gl, 0, none⟩) st.locks.length cap ∧ (∃ u, w.cell? ⟨gl, l.toNat, none⟩ = some u) ∧ w.frozen? ⟨gl, l.toNat, none⟩ = false ∧ own gl ≠ 0 ∧
    FParts w0 (w.setCell ⟨gl, l.toNat, none⟩ (.int .u64 0)) pw own fnv tops { st with locks := st.locks.set l.toNat 0 } c bf bt bm bs bb ul ui uo ∧ Chg own own w (w.setCell ⟨gl, l.toNat, none⟩ (.int .u64 0)) := by
  obtain ⟨gl, lcap, cur, eul, hgl, hrow, hn1, hn2, hsz2, htk⟩ := P.locks.some (by omega)
  obtain ⟨t1, t2, t3, t4, t5, t7⟩ := P.tag
  subst eul
  have s9 : Step (fun b => own b ≠ 0) w (w.setCell ⟨gl, l.toNat, none⟩ (.int .u64 0)) := Step.setCell _ _ _ _ (by show own gl ≠ 0; omega)
  have hz9 : (w.setCell ⟨gl, l.toNat, none⟩ (.int .u64 0)).heap.size = w.heap.size := by simp
  refine ⟨gl, lcap, rfl, ⟨_, row_cell hrow htk (u := .int .u64 (st.locks.getD l.toNat 0)) ?_⟩, free_known hrow _, by omega, ?_, s9, fun _ _ => rfl⟩
  · rw [List.getElem?_map, List.getD_eq_getElem?_getD, List.getElem?_eq_getElem (show l.toNat < st.locks.length by omega)]; rfl
  · refine P.next 6 (Nat.le_refl c) s9 (fun _ _ => rfl) (fun b hb => by rw [hz9]; exact (P.low b hb).2) (fun b h0 h1 h2 => set_other _ _ fun e => h2 (by rw [e]; exact hgl)) (by decide) ?_ (by simp) (by simp) ?_ (by simp) (by simp) P.input
    · exact (set_other _ _ fun e => by have e : pw = gl := e; rw [e] at t1; omega).trans P.struct
    · rw [if_pos rfl]
      have hlen := P.lens.1
      refine ⟨⟨by simp, .inr ⟨gl, lcap, _, by simp, hgl, set_known hrow _ _, by simpa using hn1, hn2, by simpa using hsz2, ?_⟩⟩, by simpa using hlen⟩
      rw [List.length_set, Array.toList_setIfInBounds, List.take_set, htk, List.map_set]
/-- how many steps there are at most, off the machine's struct -/
def stepsLeft (pw : Nat) (w : World) : Nat := match w.cell? ⟨pw, 12, none⟩ with
  | some (.int _ s) => (100000 - s).toNat
  | _ => 0
theorem stepsLeft_of {s : Int} (h : w.cell? ⟨pw, 12, none⟩ = some (.int .i64 s)) : stepsLeft pw w = (100000 - s).toNat := by unfold stepsLeft; rw [h]
theorem Chg.transG (h : Chg own own' w w1) (g : ChgG gx own' own'' w1 w2) (hg : w.heap.size ≤ gx) : Chg own own'' w w2 :=
  ⟨h.step.trans g.step fun b hb => by
    rcases hb with hb | hb
    · by_cases hlt : b < w.heap.size
      · exact .inl (by rw [← h.same b hlt]; exact hb)
      · exact .inr (by omega)
    · exact .inr (by rw [hb]; exact hg), fun b hb => (g.same b (Nat.lt_of_lt_of_le hb h.step.size)).trans (h.same b hb)⟩
theorem ChgG.keeps {b : Nat} {o : Obj} (h : ChgG gx own own' w w1) (hb : w.heap[b]? = some o) (ho : own b = 0) (hn : b ≠ gx) : w1.heap[b]? = some o ∧ own' b = 0 :=
  ⟨(h.step.block b (lt_obj hb) fun x => x.elim (fun k => k ho) hn).trans hb, (h.same b (lt_obj hb)).trans ho⟩
theorem loopF_ret1 {m : Nat} {f : FFn} {fr : Frm} {was : Int} {x : List Int} {a : Int} {i : FIns} (hs : st.steps < st.fuel) (hi : f.code[a.toNat]? = some i) (h43 : i.op = 43) :
    loopF fns tops (m + 1) f fr was st x a = .ret { st with steps := st.steps + 1, locks := if 0 < fr.lock then st.locks.set fr.lock.toNat 0 else st.locks, top := was } (pick x i.args) := by
  rw [loopF, if_pos hs, hi]
  simp only
  rw [if_pos h43]
theorem loopF_out {m : Nat} {f : FFn} {fr : Frm} {was : Int} {x : List Int} {a : Int} (h : ¬ st.steps < st.fuel) : loopF fns tops m f fr was st x a = .stop st 0 0 := by
  cases m with
  | zero => rw [loopF]
  | succ m => rw [loopF, if_neg h]
/-- the state at the head of a call's loop -/
structure AtLoop (w0 w wr : World) (pw : Nat) (own : Nat → Nat) (fnv : List UInt8 → Option Value) (tops : List UInt8 → Option Int) (fns : List UInt8 → Option FFn) (pf gx tg : Nat) (vp vk vs vc vr vl : Value) (g : FFn) (fr : Frm) (was : Int) (res : Res) (st : FSt) (x : List Int) (m : Nat) (a : Int) (ownc : Nat → Nat) (c : Nat) : Prop where
  at0 : 0 ≤ a ∧ a < g.code.length
  eq : res = loopF fns tops m g fr was st x a
  gas : (st.fuel - st.steps).toNat ≤ m
  inv : SInv tops st 0
  finv : FInv g fr x
  cost : (c : Int) ≤ 1000 + 20 * st.steps
  chg : Chg own ownc w wr
  mach : FWAt w0 wr pw ownc fnv tops st c
  frame : FrAt wr ownc pf pw gx (.string g.name) vp vk vs vc vr vl x fr.slots fr.lock fr.key
  box : wr.heap[tg]? = some (.cells #[.string g.name, vp, vk, vs, vc] 54 (0, 0))
  free : ownc tg = 0
  lockin : 0 < fr.lock → fr.lock < st.locks.length

theorem AtLoop.still {wr : World} {tg : Nat} {vp : Value} {g : FFn} {fr : Frm} {was : Int} {res : Res} {x : List Int} {m : Nat} {a : Int} {ownc : Nat → Nat} (h : AtLoop w0 w wr pw own fnv tops fns pf gx tg vp vk vs vc vr vl g fr was res st x m a ownc c) (s : Step (fun _ => False) wr w1) : AtLoop w0 w w1 pw own fnv tops fns pf gx tg vp vk vs vc vr vl g fr was res st x m a ownc c :=
  ⟨h.at0, h.eq, h.gas, h.inv, h.finv, h.cost, h.chg.trans (Chg.calm ownc s), h.mach.still s, h.frame.still s, s.keeps h.box, h.free, h.lockin⟩
/-- a frame's cell is another one: its slots, its lock or its key -/
theorem FrAt.cellSet (h : FrAt w own pf pw gx vn vp vk vs vc vr vl regs slots lock key) (i : Nat) (v : Value) {vl' : Value} {slots' : List Int} {lock' key' : Int}
    (e : (#[.pointer (some ⟨pw, 0, none⟩), vn, vp, vk, vs, vc, vr, vl, .int .i64 lock, .int .u64 key] : Array Value).setIfInBounds i v = #[.pointer (some ⟨pw, 0, none⟩), vn, vp, vk, vs, vc, vr, vl', .int .i64 lock', .int .u64 key'])
    (hs : RowAt w (fun b => own b = 0 ∧ b ≠ gx ∧ b ≠ pf) 3 1 vl' slots'.length (slots'.map (Value.int .i64))) : FrAt (w.setCell ⟨pf, i, none⟩ v) own pf pw gx vn vp vk vs vc vr vl' regs slots' lock' key' := by
  obtain ⟨f1, f2, f3, f4⟩ := h.free
  refine ⟨by rw [set_known h.struct, e], h.regs.same fun b hb _ => set_other _ _ fun e => f3 (by rw [hb] at e; exact e.symm), hs.same fun b hb _ => set_other _ _ hb.2.2, f1, f2, f3, by simpa using f4⟩

def planCl1 : Plan where
  T := [[], [], [], [2], [2, 3], [2, 3, 4], [0, 1, 2, 3, 4, 5], [0, 1, 2, 3, 4, 5, 6], [0, 1, 2, 3, 4, 5, 6, 7]]
  rd := [[], [], [], [(2, some 17)], [(3, some 18)], [(4, some 19)]]
  all := [(5, some 20), (4, some 19), (3, some 18), (2, some 17), (1, some 16), (0, some 15)]
  calm := [true, true, true, true, true, true]
  hard := []
  fresh := [false, false, false, false, false, true]

def planCl5 : Plan where
  T := [[], [0], [0, 1], [0, 1, 2], [], [], [], [5, 6], [5, 6, 7], [0, 1, 2, 3, 4, 5, 6, 7, 8], [0, 1, 2, 3, 4, 5, 6, 7, 8, 9]]
  rd := [[], [(0, some 31)], [(1, some 32)], [(2, some 33)], [], [], [], [(5, some 36), (6, some 37)], [(7, some 38)]]
  all := [(8, some 39), (7, some 38), (6, some 37), (5, some 36), (4, some 35), (3, some 34), (2, some 33), (1, some 32), (0, some 31)]
  calm := [true, true, true, true, true, true, true, true, true]
  hard := []
  fresh := [false, false, false, false, false, false, false, false, false]

def planCl12 : Plan where
  T := [[], [], [1], [1, 2], [1, 2, 3], [], [5], [5, 6], [5, 6, 7], [5, 6, 7, 8], [1, 2, 3, 4, 5, 6, 7, 8, 9], [0, 1, 2, 3, 4, 5, 6, 7, 8, 9, 10], [0, 1, 2, 3, 4, 5, 6, 7, 8, 9, 10, 11], [0, 1, 2, 3, 4, 5, 6, 7, 8, 9, 10, 11, 12]]
  rd := [[], [], [(1, some 62)], [(2, some 63)], [(3, some 64)], [], [(5, some 66)], [(6, some 67)], [(7, some 68)], [(8, some 69)], [(4, some 65), (9, some 70)]]
  all := [(10, some 71), (9, some 70), (8, some 69), (7, some 68), (6, some 67), (5, some 66), (4, some 65), (3, some 64), (2, some 63), (1, some 62), (0, some 61)]
  calm := [true, true, true, true, true, true, true, true, true, true, false]
  hard := [true, true, true, true, true, true, true, true, true, false, true]
  fresh := [false, false, false, false, false, false, false, false, false, true, false]

def planCl20 : Plan where
  T := [[], [0], [0, 1], [0, 1, 2], [], [4], [4, 5], [4, 5, 6], [0, 1, 2, 3, 4, 5, 6, 7], [0, 1, 2, 3, 4, 5, 6, 7, 8]]
  rd := [[], [(0, some 111)], [(1, some 112)], [(2, some 113)], [], [(4, some 115)], [(5, some 116)], [(6, some 117)]]
  all := [(7, some 118), (6, some 117), (5, some 116), (4, some 115), (3, some 114), (2, some 113), (1, some 112), (0, some 111)]
  calm := [true, true, true, true, true, true, true, true]
  hard := []
  fresh := [false, false, false, false, false, false, false, false]

def planCl25 : Plan where
  T := [[], [0], [0, 1], [0, 1, 2], [], [4], [4, 5], [4, 5, 6], [0, 1, 2, 3, 4, 5, 6, 7], [0, 1, 2, 3, 4, 5, 6, 7, 8]]
  rd := [[], [(0, some 141)], [(1, some 142)], [(2, some 143)], [], [(4, some 145)], [(5, some 146)], [(6, some 147)]]
  all := [(7, some 148), (6, some 147), (5, some 146), (4, some 145), (3, some 144), (2, some 143), (1, some 142), (0, some 141)]
  calm := [true, true, true, true, true, true, true, true]
  hard := []
  fresh := [false, false, false, false, false, false, false, false]

def planCl29a : Plan where
  T := [[], [0], [0, 1], [0, 1, 2], [0, 1, 2, 3], [0, 1, 2, 3, 4], [0, 1, 2, 3, 4, 5], [0, 1, 2, 3, 4, 5, 6], [0, 1, 2, 3, 4, 5, 6, 7], [0, 1, 2, 3, 4, 5, 6, 7, 8], [0, 1, 2, 3, 4, 5, 6, 7, 8, 9], [0, 1, 2, 3, 4, 5, 6, 7, 8, 9, 10], [0, 1, 2, 3, 4, 5, 6, 7], [0, 1, 2, 3, 4, 5, 6, 7, 12], [0, 1, 2, 3, 4, 5, 6, 7, 8, 9, 10, 11, 12, 13], [0, 1, 2, 3, 4, 5, 6, 7, 8, 9, 10, 11, 12, 13, 14], [0, 1, 2, 3, 4, 5, 6, 7, 8, 9, 10, 11, 12, 13, 14, 15], [0, 1, 2, 3, 4, 5, 6, 7, 8, 9, 10, 11, 12, 13, 14, 15, 16], [0, 1, 2, 3, 4, 5, 6, 7, 8, 9, 10, 11, 12, 13, 14, 15, 16, 17]]
  rd := [[], [(0, some 160)], [(1, some 161)], [(2, some 162)], [(3, some 163)], [(3, some 163), (4, some 164)], [(3, some 163), (5, some 165)], [(3, some 163), (6, some 166)], [(7, some 167)], [(7, some 167), (8, some 168)], [(7, some 167), (9, some 169)], [(7, some 167), (10, some 170)], [(7, some 167)], [(7, some 167), (12, some 172)]]
  all := [(13, some 173), (12, some 172), (11, some 171), (10, some 170), (9, some 169), (8, some 168), (7, some 167), (6, some 166), (5, some 165), (4, some 164), (3, some 163), (2, some 162), (1, some 161), (0, some 160)]
  calm := [true, true, true, true, true, true, true, true, true, true, true, true, true, true]
  hard := []
  fresh := [false, false, false, false, false, false, false, false, false, false, false, false, false, false]

def planCl29b : Plan where
  T := [[], [0], [0, 1], [0, 1, 2], [0, 1, 2, 3], [0, 1, 2, 3, 4], [0, 1, 2, 3, 4, 5], [0, 1, 2, 3, 4, 5, 6], [0, 1, 2, 3, 4, 5, 6, 7], [0, 1, 2, 3, 4, 5, 6, 7, 8], [0, 1, 2, 3, 4, 5, 6, 7, 8, 9], [0, 1, 2, 3, 4, 5, 6, 7, 8, 9, 10], [0, 1, 2, 3, 4, 5, 6, 7], [0, 1, 2, 3, 4, 5, 6, 7, 12], [0, 1, 2, 3, 4, 5, 6, 7, 8, 9, 10, 11, 12, 13], [0, 1, 2, 3, 4, 5, 6, 7, 8, 9, 10, 11, 12, 13, 14], [0, 1, 2, 3, 4, 5, 6, 7, 8, 9, 10, 11, 12, 13, 14, 15], [0, 1, 2, 3, 4, 5, 6, 7, 8, 9, 10, 11, 12, 13, 14, 15, 16], [0, 1, 2, 3, 4, 5, 6, 7, 8, 9, 10, 11, 12, 13, 14, 15, 16, 17]]
  rd := [[], [(0, some 160)], [(1, some 161)], [(2, some 162)], [(3, some 163)], [(3, some 163), (4, some 164)], [(3, some 163), (5, some 165)], [(3, some 163), (6, some 166)], [(7, some 167)], [(7, some 167), (8, some 168)], [(7, some 167), (9, some 169)], [(7, some 167), (10, some 170)], [(7, some 167)], [(7, some 167), (12, some 172)]]
  all := [(13, some 173), (12, some 172), (11, some 171), (10, some 170), (9, some 169), (8, some 168), (7, some 167), (6, some 166), (5, some 165), (4, some 164), (3, some 163), (2, some 162), (1, some 161), (0, some 160)]
  calm := [true, true, true, true, true, true, true, true, true, true, true, true, true, true]
  hard := []
  fresh := [false, false, false, false, false, false, false, false, false, false, false, false, false, false]

def planCl29c : Plan where
  T := [[], [0], [0, 1], [0, 1, 2], [0, 1, 2, 3], [0, 1, 2, 3, 4], [0, 1, 2, 3, 4, 5], [0, 1, 2, 3, 4, 5, 6], [0, 1, 2, 3, 4, 5, 6, 7], [0, 1, 2, 3, 4, 5, 6, 7, 8], [0, 1, 2, 3, 4, 5, 6, 7, 8, 9], [0, 1, 2, 3, 4, 5, 6, 7, 8, 9, 10], [0, 1, 2, 3, 4, 5, 6, 7], [0, 1, 2, 3, 4, 5, 6, 7, 12], [0, 1, 2, 3, 4, 5, 6, 7, 8, 9, 10, 11, 12, 13], [0, 1, 2, 3, 4, 5, 6, 7, 8, 9, 10, 11, 12, 13, 14], [0, 1, 2, 3, 4, 5, 6, 7, 8, 9, 10, 11, 12, 13, 14, 15], [0, 1, 2, 3, 4, 5, 6, 7, 8, 9, 10, 11, 12, 13, 14, 15, 16], [0, 1, 2, 3, 4, 5, 6, 7, 8, 9, 10, 11, 12, 13, 14, 15, 16, 17]]
  rd := [[], [(0, some 160)], [(1, some 161)], [(2, some 162)], [(3, some 163)], [(3, some 163), (4, some 164)], [(3, some 163), (5, some 165)], [(3, some 163), (6, some 166)], [(7, some 167)], [(7, some 167), (8, some 168)], [(7, some 167), (9, some 169)], [(7, some 167), (10, some 170)], [(7, some 167)], [(7, some 167), (12, some 172)]]
  all := [(13, some 173), (12, some 172), (11, some 171), (10, some 170), (9, some 169), (8, some 168), (7, some 167), (6, some 166), (5, some 165), (4, some 164), (3, some 163), (2, some 162), (1, some 161), (0, some 160)]
  calm := [true, true, true, true, true, true, true, true, true, true, true, true, true, true]
  hard := []
  fresh := [false, false, false, false, false, false, false, false, false, false, false, false, false, false]

def planCl29d : Plan where
  T := [[], [0], [0, 1], [0, 1, 2], [0, 1, 2, 3], [0, 1, 2, 3, 4], [0, 1, 2, 3, 4, 5], [0, 1, 2, 3, 4, 5, 6], [0, 1, 2, 3, 4, 5, 6, 7], [0, 1, 2, 3, 4, 5, 6, 7, 8], [0, 1, 2, 3, 4, 5, 6, 7, 8, 9], [0, 1, 2, 3, 4, 5, 6, 7, 8, 9, 10], [0, 1, 2, 3, 4, 5, 6, 7], [0, 1, 2, 3, 4, 5, 6, 7, 12], [0, 1, 2, 3, 4, 5, 6, 7, 8, 9, 10, 11, 12, 13], [0, 1, 2, 3, 4, 5, 6, 7, 8, 9, 10, 11, 12, 13, 14], [0, 1, 2, 3, 4, 5, 6, 7, 8, 9, 10, 11, 12, 13, 14, 15], [0, 1, 2, 3, 4, 5, 6, 7, 8, 9, 10, 11, 12, 13, 14, 15, 16], [0, 1, 2, 3, 4, 5, 6, 7, 8, 9, 10, 11, 12, 13, 14, 15, 16, 17]]
  rd := [[], [(0, some 160)], [(1, some 161)], [(2, some 162)], [(3, some 163)], [(3, some 163), (4, some 164)], [(3, some 163), (5, some 165)], [(3, some 163), (6, some 166)], [(7, some 167)], [(7, some 167), (8, some 168)], [(7, some 167), (9, some 169)], [(7, some 167), (10, some 170)], [(7, some 167)], [(7, some 167), (12, some 172)]]
  all := [(13, some 173), (12, some 172), (11, some 171), (10, some 170), (9, some 169), (8, some 168), (7, some 167), (6, some 166), (5, some 165), (4, some 164), (3, some 163), (2, some 162), (1, some 161), (0, some 160)]
  calm := [true, true, true, true, true, true, true, true, true, true, true, true, true, true]
  hard := []
  fresh := [false, false, false, false, false, false, false, false, false, false, false, false, false, false]

def planCl18 : Plan where
  T := [[], [], [1], [1, 2], [1, 2, 3], [], [5], [5, 6], [5, 6, 7], [1, 2, 3, 4, 5, 6, 7, 8], [1, 2, 3, 4, 5, 6, 7, 8, 9], [0, 1, 2, 3, 4, 5, 6, 7, 8, 9, 10], [0, 1, 2, 3, 4, 5, 6, 7, 8, 9, 10, 11], [0, 1, 2, 3, 4, 5, 6, 7, 8, 9, 10, 11, 12]]
  rd := [[], [], [(1, some 99)], [(2, some 100)], [(3, some 101)], [], [(5, some 103)], [(6, some 104)], [(7, some 105)], [(4, some 102), (8, some 106)], [(9, some 107)]]
  all := [(10, some 108), (9, some 107), (8, some 106), (7, some 105), (6, some 104), (5, some 103), (4, some 102), (3, some 101), (2, some 100), (1, some 99), (0, some 98)]
  calm := [true, true, true, true, true, true, true, true, true, true, true]
  hard := []
  fresh := [false, false, false, false, false, false, false, false, false, false, false]

set_option maxHeartbeats 8000000 in
set_option maxRecDepth 100000 in
theorem call_any (n : Nat) (hE : UEnv w0 fnv fns) (IH : ∀ k, k < n → CallC w0 pw fnv fns tops k) : CallC w0 pw fnv fns tops n := by
  intro w own st c g gv args va F hW hS hc hgv hgg hla ha64 hva hF0 hfuel
  obtain ⟨vp, vk, vs, vc, rfl, hp, hk, hs, hcode⟩ := hgv
  obtain ⟨⟨pk, kcap, rfl, hk1, hk2, hkc⟩, _⟩ := hk
  have HW := Lib.hid hW
  have HS := Lib.hid hS
  have HC := Lib.hid hc
  have HG := Lib.hid hgg
  have HLA := Lib.hid hla
  have HCL := Lib.hid hgg.code.2
  have H64 := Lib.hid ha64
  have HVA := Lib.hid hva
  have HF0 := Lib.hid hF0
  have HP := Lib.hid hp
  have HSL := Lib.hid hs
  have HCD := Lib.hid hcode
  have HFU := Lib.hid hfuel
  have hkl : g.kinds.length ≤ 1000 := hgg.kinds
  have MK := Lib.hid (run_zeros g.kinds.length hkl)
  clear hW hS hc hgg hla ha64 hva hF0 hp hs hcode hfuel hk1 hk2 hkc
  go_enter Try.func41, Try.ntmps41
  go_upto_region 1 with fail
  have kb := heap_alloc_new w (.cells #[.string g.name, vp, .slice pk g.kinds.length kcap, vs, vc] 54 (0, 0))
  have S1 := Lib.hid (Step.alloc (fun _ => False) w (.cells #[.string g.name, vp, .slice pk g.kinds.length kcap, vs, vc] 54 (0, 0)))
  have HT := Lib.hid (show own w.heap.size = 0 ∧ w.heap.size ≤ w.heap.size from ⟨HW.out.fresh0, Nat.le_refl _⟩)
  generalize w.alloc (.cells #[.string g.name, vp, .slice pk g.kinds.length kcap, vs, vc] 54 (0, 0)) = w1 at kb S1 ⊢
  obtain ⟨tg, htg⟩ : ∃ tg, w.heap.size = tg := ⟨_, rfl⟩
  rw [htg] at kb ⊢
  have HTG := Lib.hid htg
  have KB := Lib.hid kb
  clear kb htg
  refine wp_region_each 6 planCl1 (fun _ _ => False) (Step (fun _ => False) w1) (fun _ => True) [Is ?v1_1_0, Is ?v1_1_1, Is ?v1_1_2, Is ?v1_1_3, Is ?v1_1_4, NewRow w1 g.kinds.length] [] (by kernel_rfl) (by kernel_rfl) (fun _ _ h => h.elim) ((Step.refl _ _).drew) (trivial) ?stab1_1 ?stabD1_1 ?obl1_1 ?fin1_1
  case stab1_1 => exact fun w w' h => ⟨fun k => k.trans h (fun _ x => x.elim), fun _ => trivial, ⟨fun _ k => k, fun _ k => k, fun _ k => k, fun _ k => k, fun _ k => k, fun _ k => NewRow.stable h k, trivial⟩, trivial⟩
  case stabD1_1 => exact fun _ _ h => h.elim
  case obl1_1 =>
    refine ⟨?o1_1_0, ?o1_1_1, ?o1_1_2, ?o1_1_3, ?o1_1_4, ?o1_1_5, trivial⟩
    all_goals intro xv wq hH hS H hU aq ha Q' hQ
    case o1_1_0 => cases rd0 ha; clear H hU hS; go_wp2_with fail; (try refine hQ _ _ ?_); refine ⟨Step.refl _ _, ?_, trivial, nofun⟩; exact (rfl : _ = _)
    case o1_1_1 => obtain ⟨g0, g1, g2, g3, g4, _⟩ := cells_known5 (hH.keeps KB.out); have mk := MK.out wq; cases rd0 ha; clear H hU hS; go_wp2_with fail; (try refine hQ _ _ ?_); refine ⟨Step.refl _ _, ?_, trivial, nofun⟩; exact (rfl : _ = _)
    case o1_1_2 => cases rd0 ha; clear H hU hS; go_wp2_with fail; (try refine hQ _ _ ?_); refine ⟨Step.refl _ _, ?_, trivial, nofun⟩; exact (rfl : _ = _)
    case o1_1_3 | o1_1_4 => obtain ⟨g0, g1, g2, g3, g4, _⟩ := cells_known5 (hH.keeps KB.out); have mk := MK.out wq; have ha := rd1 ha H (by kernel_rfl) rfl; simp only [q3, q5, q6, q7] at ha; subst ha; clear H hU hS; go_wp2_with fail; (try refine hQ _ _ ?_); refine ⟨Step.refl _ _, ?_, trivial, nofun⟩; exact (rfl : _ = _)
    case o1_1_5 => obtain ⟨g0, g1, g2, g3, g4, _⟩ := cells_known5 (hH.keeps KB.out); have mk := MK.out wq; have h4 : xv 4 = _ := H 4 (by kernel_rfl); change aq = puts _ xv [(4, some 19)] at ha; simp only [q1, q2, q3, q5, q6, q7, h4] at ha; subst ha; clear H h4; clear hU hS; go_wp2_with fail; (try refine hQ _ _ ?_); refine ⟨Step.alloc _ _ _, ?_, trivial, fun _ => ⟨_, rfl, Nat.le_refl _, by simp⟩⟩; exact ⟨_, rfl, hH.size, heap_alloc_new _ _⟩
  intro xv w2 hH hS H hU hsz hF hN
  have h0 : xv 0 = _ := H 0 (by decide) (by kernel_rfl); have h1 : xv 1 = _ := H 1 (by decide) (by kernel_rfl); have h2 : xv 2 = _ := H 2 (by decide) (by kernel_rfl); have h3 : xv 3 = _ := H 3 (by decide) (by kernel_rfl); have h4 : xv 4 = _ := H 4 (by decide) (by kernel_rfl); obtain ⟨b5, h5, l5, k5⟩ : (NewRow w1 g.kinds.length) (xv 5) w2 := H 5 (by decide) (by kernel_rfl)
  simp only [planCl1, q1, q2, q3, q5, q6, q7, q4, List.drop_succ_cons, List.drop_zero, h0, h1, h2, h3, h4, h5]
  clear H hF hN hS hU h0 h1 h2 h3 h4 h5
  have K5 := Lib.hid k5
  have S2 := Lib.hid (S1.out.then hH)
  have KB2 := Lib.hid (hH.keeps KB.out)
  have L5 := Lib.hid (show w.heap.size ≤ b5 ∧ b5 ≠ tg ∧ b5 < w2.heap.size from by
    have h1 := S1.out.size
    have h2 := lt_obj KB.out
    have h3 := lt_obj k5
    omega)
  clear hH k5 l5
  go_upto_region 2 with fail
  have kf := heap_alloc_new w2 (.cells #[.pointer (some ⟨pw, 0, none⟩), .string g.name, vp, .slice pk g.kinds.length kcap, vs, vc, .slice (some ⟨b5, 0, none⟩) g.kinds.length g.kinds.length, .slice none 0 0, .int .i64 0, .int .u64 0] 116 (0, 0))
  have s3 := Step.alloc (fun _ => False) w2 (.cells #[.pointer (some ⟨pw, 0, none⟩), .string g.name, vp, .slice pk g.kinds.length kcap, vs, vc, .slice (some ⟨b5, 0, none⟩) g.kinds.length g.kinds.length, .slice none 0 0, .int .i64 0, .int .u64 0] 116 (0, 0))
  generalize w2.alloc (.cells #[.pointer (some ⟨pw, 0, none⟩), .string g.name, vp, .slice pk g.kinds.length kcap, vs, vc, .slice (some ⟨b5, 0, none⟩) g.kinds.length g.kinds.length, .slice none 0 0, .int .i64 0, .int .u64 0] 116 (0, 0)) = w3 at kf s3 ⊢
  obtain ⟨pf, hpf⟩ : ∃ pf, w2.heap.size = pf := ⟨_, rfl⟩
  rw [hpf] at kf ⊢
  have K3 := Lib.hid (s3.keeps KB2.out)
  have LPF := Lib.hid (show w.heap.size ≤ pf ∧ pf ≠ tg ∧ pf ≠ b5 ∧ b5 ≠ tg ∧ w.heap.size ≤ b5 ∧ w.heap.size = tg from by
    have h1 := S2.out.size
    have h2 := lt_obj KB2.out
    have h3 := L5.out
    have h4 := HTG.out
    omega)
  have HOW := Lib.hid (show ∀ b, w.heap.size ≤ b → own b = 0 from fun b hb => by
    by_cases e : own b = 0
    · exact e
    · have := (HW.out.low b e).2; omega)
  have HF3 := Lib.hid (FrAt.fresh (own := own) kf (s3.keeps K5.out) (HOW.out _ LPF.out.1) (HOW.out _ LPF.out.2.2.2.2.1) LPF.out.2.2.1 hkl)
  have S3 := Lib.hid (S2.out.then s3)
  clear kf s3 hpf
  obtain ⟨g0, g1, g2, g3, g4, _⟩ := cells_known5 K3.out
  obtain ⟨⟨pp, pcap, rfl, hp1, hp2, hpc⟩, _⟩ := HP.out
  have HPC := Lib.hid hpc
  have HPL := Lib.hid (HG.out.params)
  clear hpc hp2
  have hpl : g.params.length ≤ 1000 := HPL.out.2
  go_wp2_with fail
  clear g0 g1 g2 g3 g4
  go_loopw [8, 9, 26] (fun _ _ i wr => ∃ k : Nat, k ≤ g.params.length ∧ i = .int .i64 k ∧ FrAt wr own pf pw b5 (.string g.name) (.slice pp g.params.length pcap) (.slice pk g.kinds.length kcap) vs vc (.slice (some ⟨b5, 0, none⟩) g.kinds.length g.kinds.length) (.slice none 0 0) (writeAcc (List.replicate g.kinds.length 0) g.params args k) [] 0 0 ∧ Step (fun b => b = b5) w3 wr) (fun _ _ i _ => g.params.length - (intOf i).toNat)
  case atStart => exact ⟨0, by omega, rfl, HF3.out, Step.refl _ _⟩
  case round =>
    obtain ⟨k, hk, rfl, hfr, hst⟩ := hrel
    have HFR := Lib.hid hfr
    have HST := Lib.hid hst
    clear hfr hst
    by_cases hlt : k < g.params.length
    · have hd : decide (k < g.params.length) = true := decide_eq_true hlt
      obtain ⟨a, hpa, hca⟩ := HPC.out k hlt
      subst hpa
      have HWR := Lib.hid ((HW.out.still S3.out).offReg (gx := b5) (HOW.out _ LPF.out.2.2.2.2.1) (Nat.le_trans (by have := HW.out.since.size; exact this) LPF.out.2.2.2.2.1) HST.out)
      have cp := HWR.out.cell_old (a := a.add k) (block_lt hca)
      rw [hca] at cp
      obtain ⟨ga, acap, eva, hFg, hgl, hgc⟩ := slice_known HVA.out (by have := HLA.out; omega)
      subst eva
      have cga : wr.cell? ⟨ga, k, none⟩ = some (.int .u64 (args.getD k 0)) := by
        rw [HST.out.cell (p := ⟨ga, k, none⟩) (by have := S3.out.size; show ga < _; omega) (fun e => by have e : ga = b5 := e; have := LPF.out; omega), S3.out.cell (p := ⟨ga, k, none⟩) hgl (fun x => x)]
        exact hgc k (by have := HLA.out; omega)
      have hok := HPL.out.1 (g.params.getD k 0) (by rw [List.getD_eq_getElem?_getD, List.getElem?_eq_getElem hlt]; exact List.getElem_mem hlt)
      have hwl : (writeAcc (List.replicate g.kinds.length 0) g.params args k).length = g.kinds.length := by rw [writeAcc_length]; simp
      have FR := Lib.hid (reg_facts HFR.out)
      have OK := Lib.hid (show 0 ≤ g.params.getD k 0 ∧ g.params.getD k 0 < ((writeAcc (List.replicate g.kinds.length 0) g.params args k).length : Nat) from by rw [hwl]; exact hok)
      have c6 := cell_known HFR.out.struct (i := 6) rfl
      have WA := Lib.hid (show writeAcc (List.replicate g.kinds.length 0) g.params args (k + 1) = (writeAcc (List.replicate g.kinds.length 0) g.params args k).set (g.params.getD k 0).toNat (args.getD k 0) from rfl)
      have LA := Lib.hid HLA.out
      have hkal : k < args.length := by have := HLA.out; omega
      have hwl2 := hwl
      rw [hwl] at hwl2
      have FACTS := Lib.hid (show ∀ y, Step (fun _ => False) wr y → y.cell? ⟨pf, 6, none⟩ = some (.slice (some ⟨b5, 0, none⟩) g.kinds.length g.kinds.length) ∧ y.cell? ⟨ga, k, none⟩ = some (.int .u64 (args.getD k 0)) from fun y hy =>
        ⟨cell_known (hy.keeps HFR.out.struct) rfl, (hy.cell (block_lt cga) fun x => x).trans cga⟩)
      clear hgc hca hFg hgl c6 cga hwl hwl2
      generalize g.params.getD k 0 = r at *
      generalize args.getD k 0 = xv_ at *
      go_upto_region 5 with fail
      refine wp_region_each 9 planCl5 (fun _ _ => False) (Step (fun _ => False) wr) (fun _ => True) [Is ?v5_2_0, Is ?v5_2_1, Is ?v5_2_2, Is ?v5_2_3, Is ?v5_2_4, Is ?v5_2_5, Is ?v5_2_6, Is ?v5_2_7, Is ?v5_2_8] [] (by kernel_rfl) (by kernel_rfl) (fun _ _ h => h.elim) ((Step.refl _ _).drew) (trivial) ?stab5_2 ?stabD5_2 ?obl5_2 ?fin5_2
      case stab5_2 => exact fun w w' h => ⟨fun k => k.trans h (fun _ x => x.elim), fun _ => trivial, ⟨fun _ k => k, fun _ k => k, fun _ k => k, fun _ k => k, fun _ k => k, fun _ k => k, fun _ k => k, fun _ k => k, fun _ k => k, trivial⟩, trivial⟩
      case stabD5_2 => exact fun _ _ h => h.elim
      case obl5_2 =>
        refine ⟨?o5_2_0, ?o5_2_1, ?o5_2_2, ?o5_2_3, ?o5_2_4, ?o5_2_5, ?o5_2_6, ?o5_2_7, ?o5_2_8, trivial⟩
        all_goals intro xv wq hH hS H hU aq ha Q' hQ
        case o5_2_0 => cases rd0 ha; clear H hU hS; go_wp2_with fail; (try refine hQ _ _ ?_); refine ⟨Step.refl _ _, ?_, trivial, nofun⟩; exact (rfl : _ = _)
        case o5_2_1 | o5_2_2 => have ha := rd1 ha H (by kernel_rfl) rfl; simp only [q3, q5, q6, q7] at ha; subst ha; clear H hU hS; go_wp2_with fail; (try refine hQ _ _ ?_); refine ⟨Step.refl _ _, ?_, trivial, nofun⟩; exact (rfl : _ = _)
        case o5_2_3 => obtain ⟨c6, cga⟩ := FACTS.out _ hH; have ha := rd1 ha H (by kernel_rfl) rfl; simp only [q3, q5, q6, q7] at ha; subst ha; clear H hU hS; go_wp2_with fail; (try refine hQ _ _ ?_); refine ⟨Step.refl _ _, ?_, trivial, nofun⟩; exact (rfl : _ = _)
        case o5_2_4 | o5_2_5 | o5_2_6 => cases rd0 ha; clear H hU hS; go_wp2_with fail; (try refine hQ _ _ ?_); refine ⟨Step.refl _ _, ?_, trivial, nofun⟩; exact (rfl : _ = _)
        case o5_2_7 => obtain ⟨c6, cga⟩ := FACTS.out _ hH; have ha := rd2 ha H (by kernel_rfl) (by kernel_rfl) rfl rfl; simp only [q3, q5, q6, q7] at ha; subst ha; clear H hU hS; go_wp2_with fail; (try refine hQ _ _ ?_); refine ⟨Step.refl _ _, ?_, trivial, nofun⟩; exact (rfl : _ = _)
        case o5_2_8 => obtain ⟨c6, cga⟩ := FACTS.out _ hH; have ha := rd1 ha H (by kernel_rfl) rfl; simp only [q3, q5, q6, q7] at ha; subst ha; clear H hU hS; go_wp2_with fail; (try refine hQ _ _ ?_); refine ⟨Step.refl _ _, ?_, trivial, nofun⟩; exact (rfl : _ = _)
      intro xv w4 hH hS H hU hsz hF hN
      have h0 : xv 0 = _ := H 0 (by decide) (by kernel_rfl); have h1 : xv 1 = _ := H 1 (by decide) (by kernel_rfl); have h2 : xv 2 = _ := H 2 (by decide) (by kernel_rfl); have h3 : xv 3 = _ := H 3 (by decide) (by kernel_rfl); have h4 : xv 4 = _ := H 4 (by decide) (by kernel_rfl); have h5 : xv 5 = _ := H 5 (by decide) (by kernel_rfl); have h6 : xv 6 = _ := H 6 (by decide) (by kernel_rfl); have h7 : xv 7 = _ := H 7 (by decide) (by kernel_rfl); have h8 : xv 8 = _ := H 8 (by decide) (by kernel_rfl)
      simp only [planCl5, q1, q2, q3, q5, q6, q7, q4, List.drop_succ_cons, List.drop_zero, h0, h1, h2, h3, h4, h5, h6, h7, h8]
      clear H hF hN hS hU h0 h1 h2 h3 h4 h5 h6 h7 h8
      obtain ⟨cr, zr⟩ := FR.out _ hH r OK.out
      have H4 := Lib.hid hH
      clear hH
      go_wp2_with fail
      go_roundw
      case rel =>
        refine ⟨k + 1, by omega, by go_num, ?_, ?_⟩
        · rw [WA.out]
          exact (HFR.out.still H4.out).set r.toNat xv_ (by have := OK.out; omega)
        · exact (HST.out.then H4.out).set (.inl rfl) _
      case measure => simp [intOf]; omega
    · have hd : decide (k < g.params.length) = false := decide_eq_false hlt
      have e : k = g.params.length := by omega
      subst e
      have SB := Lib.hid (show Chg own own w wr from ⟨(S3.out.mono fun _ _ x => x.elim).trans (HST.out.mono fun b _ e => (.inr (by rw [e]; exact LPF.out.2.2.2.2.1) : own b ≠ 0 ∨ w.heap.size ≤ b)) fun b hb => hb, fun _ _ => rfl⟩)
      have HWR := Lib.hid ((HW.out.still S3.out).offReg (gx := b5) (HOW.out _ LPF.out.2.2.2.2.1) (Nat.le_trans (by have := HW.out.since.size; exact this) LPF.out.2.2.2.2.1) HST.out)
      have KBR := Lib.hid ((HST.out.block tg (lt_obj K3.out) (fun e => by have := LPF.out; omega)).trans K3.out)
      clear HST
      obtain ⟨x0, hx0⟩ : ∃ x, writeAcc (List.replicate g.kinds.length 0) g.params args g.params.length = x := ⟨_, rfl⟩
      rw [hx0] at HFR
      have HX0 := Lib.hid hx0
      clear hx0
      obtain ⟨bf, bt, bm, bs, bb, ul, ui, uo, P⟩ := HWR.out
      have c8 := P.cells.1.2.2.2.2.2.2.2.2.1
      obtain ⟨g0, g1, g2, g3, g4, _⟩ := cells_known5 KBR.out
      obtain ⟨⟨ps, scap, rfl, hs1, hs2, hsc⟩, _⟩ := HSL.out
      have HSC := Lib.hid hsc
      clear hsc hs2 P
      have hsl : g.slots.length ≤ 1000 := HG.out.slots
      go_wp2_with fail
      clear g0 g1 g2 g3 g4 c8
      go_loopw [12, 49] (fun _ i wr => ∃ k : Nat, k ≤ g.slots.length ∧ i = .int .i64 k ∧ (∀ j, j < k → (plAcc g.slots st.top (j + 1)).2 ≤ 4194304) ∧ ∃ vl gs, FWAt w0 wr pw own fnv tops { st with top := (plAcc g.slots st.top k).2 } c
        ∧ FrAt wr own pf pw b5 (.string g.name) (.slice pp g.params.length pcap) (.slice pk g.kinds.length kcap) (.slice ps g.slots.length scap) vc (.slice (some ⟨b5, 0, none⟩) g.kinds.length g.kinds.length) vl x0 (plAcc g.slots st.top k).1 0 0
        ∧ RowAt wr (fun b => b = gs) 3 1 vl (plAcc g.slots st.top k).1.length ((plAcc g.slots st.top k).1.map (Value.int .i64)) ∧ (w.heap.size ≤ gs ∧ gs ≠ b5 ∧ gs ≠ pf ∧ gs ≠ tg) ∧ Chg own own w wr
        ∧ wr.heap[tg]? = some (.cells #[.string g.name, .slice pp g.params.length pcap, .slice pk g.kinds.length kcap, .slice ps g.slots.length scap, vc] 54 (0, 0))) (fun _ i _ => g.slots.length - (intOf i).toNat)
      case atStart =>
        refine ⟨0, by omega, rfl, fun j hj => by omega, .slice none 0 0, wr.heap.size, ?_, HFR.out, ⟨by simp [plAcc], .inl ⟨rfl, rfl⟩⟩, ?_, SB.out, KBR.out⟩
        · exact HWR.out
        · have h1 := lt_obj KBR.out
          have h2 := lt_known HFR.out.struct
          have h3 := HFR.out.free.2.2.2
          have h4 := SB.out.step.size
          omega
      case round =>
        obtain ⟨k, hk, rfl, hok, vl, gs, hw2, hf2, hrow, hgs, hch, hbox⟩ := hrel
        have HOK := Lib.hid hok
        have HGS := Lib.hid hgs
        have HCH := Lib.hid hch
        have HBX := Lib.hid hbox
        have HF2 := Lib.hid hf2
        have HW2 := Lib.hid hw2
        have HRW := Lib.hid hrow
        clear hok hgs hch hbox hf2 hw2 hrow
        have htop := plAcc_top HS.out.top HG.out.sizes k hk HOK.out
        have hlen := plAcc_len g.slots st.top k
        have hP1 : plAcc g.slots st.top (k + 1) = ((plAcc g.slots st.top k).1 ++ [((plAcc g.slots st.top k).2 + 15) / 16 * 16], ((plAcc g.slots st.top k).2 + 15) / 16 * 16 + g.slots.getD k 0) := rfl
        have HP1 := Lib.hid hP1
        clear hP1
        by_cases hlt : k < g.slots.length
        · have hd : decide (k < g.slots.length) = true := decide_eq_true hlt
          have hn := HG.out.sizes (g.slots.getD k 0) (by rw [List.getD_eq_getElem?_getD, List.getElem?_eq_getElem hlt]; exact List.getElem_mem _)
          obtain ⟨a, hpa, hca⟩ := HSC.out k hlt
          subst hpa
          have cs := HW2.out.cell_old (a := a.add k) (block_lt hca)
          rw [hca] at cs
          clear hca
          generalize (plAcc g.slots st.top k).1 = ls at *
          generalize (plAcc g.slots st.top k).2 = t at *
          generalize g.slots.getD k 0 = m at *
          subst hlen
          obtain ⟨bf, bt, bm, bs, bb, ul, ui, uo, P⟩ := HW2.out
          have c8 := P.cells.1.2.2.2.2.2.2.2.2.1
          simp only at c8
          have f8 := P.cells.2 8
          have hpw : pw < wr.heap.size := lt_known P.struct
          obtain ⟨P5, ch5⟩ := P.scalar 8 (.int .i64 ((t + 15) / 16 * 16)) (st' := { st with top := (t + 15) / 16 * 16 }) (ui' := ui) rfl rfl rfl rfl rfl rfl P.input
          have F5 := HF2.out.keep ch5
          have t1 := P.tag.1
          have B5 := (set_other (w := wr) ⟨pw, 8, none⟩ (.int .i64 ((t + 15) / 16 * 16)) (fun e => by have e : tg = pw := e; have h := lt_known P.struct; have := HOW.out tg (by have := LPF.out; omega); rw [e] at this; omega : tg ≠ pw)).trans HBX.out
          have R5 := HRW.out.same (w' := wr.setCell ⟨pw, 8, none⟩ (.int .i64 ((t + 15) / 16 * 16))) fun b hb _ => set_other _ _ fun e => by have e : b = pw := e; have := HOW.out gs HGS.out.1; rw [← hb, e] at this; omega
          have HP5 := Lib.hid P5
          have HF5 := Lib.hid F5
          have HB5 := Lib.hid B5
          have HR5 := Lib.hid R5
          have CH5 := Lib.hid (HCH.out.trans ch5)
          clear P P5 F5 B5 R5 ch5
          go_upto_region 11 with fail
          go_wp2_with fail
          refine (up_any t (by omega) (by omega) _).mono ?_
          rintro e w' ⟨rfl, rfl⟩
          go_upto_region 12 with fail
          clear c8 f8 cs hpw
          generalize wr.setCell ⟨pw, 8, none⟩ (.int .i64 ((t + 15) / 16 * 16)) = w5 at *
          obtain ⟨va2, vcap2, evl⟩ := HR5.out.slice
          subst evl
          obtain ⟨i0, hi, hz0, hz1, hz2⟩ := info_parts int_info
          have HA := Lib.hid (show 0 ≤ (t + 15) / 16 * 16 ∧ (t + 15) / 16 * 16 ≤ 4194304 from by omega)
          clear htop
          generalize (t + 15) / 16 * 16 = a16 at *
          have FACTS := Lib.hid (show ∀ y, Step (fun _ => False) w5 y → y.cell? ⟨pf, 7, none⟩ = some (.slice va2 ls.length vcap2) ∧ y.cell? ⟨pw, 8, none⟩ = some (.int .i64 a16) from fun y hy =>
            ⟨cell_known (hy.keeps HF5.out.struct) rfl, cell_known (hy.keeps HP5.out.struct) rfl⟩)
          refine wp_region_each 11 planCl12 (fun a b => Step (fun x => x = gs) a b) (Step (fun x => x = gs) w5) (fun x => RowAt x (fun b => b = gs) 3 1 (.slice va2 ls.length vcap2) ls.length (ls.map (Value.int .i64)) ∧ Step (fun _ => False) w5 x) [Is ?v12_3_0, Is ?v12_3_1, Is ?v12_3_2, Is ?v12_3_3, Is ?v12_3_4, Is ?v12_3_5, Is ?v12_3_6, Is ?v12_3_7, Is ?v12_3_8, IsRow w5 (.cells #[.int .i64 a16] 3 (0, 0)) 1, fun _ _ => True] [fun _ _ => True, fun _ _ => True, fun _ _ => True, fun _ _ => True, fun _ _ => True, fun _ _ => True, fun _ _ => True, fun _ _ => True, fun _ _ => True, fun _ _ => True, GrewB w5 gs 3 ((ls ++ [a16]).map (Value.int .i64))] (by kernel_rfl) (by kernel_rfl) (fun _ _ h => h.size) ((Step.refl _ _).drew) (⟨HR5.out.same fun _ _ _ => rfl, (Step.refl _ _).drew⟩) ?stab12_3 ?stabD12_3 ?obl12_3 ?fin12_3
          case stab12_3 => exact fun w w' h => ⟨fun k => k.trans h (fun _ x => x.elim), fun k => ⟨k.1.same fun b _ hb => h.block b hb fun x => x, k.2.trans h fun _ x => x.elim⟩, ⟨fun _ k => k, fun _ k => k, fun _ k => k, fun _ k => k, fun _ k => k, fun _ k => k, fun _ k => k, fun _ k => k, fun _ k => k, fun _ k => IsRow.stable h k, fun _ k => k, trivial⟩, ⟨fun _ k => k, fun _ k => k, fun _ k => k, fun _ k => k, fun _ k => k, fun _ k => k, fun _ k => k, fun _ k => k, fun _ k => k, fun _ k => k, fun _ k => k.stable h, trivial⟩⟩
          case stabD12_3 => exact fun w w' h => ⟨fun k => k.trans h (fun _ x => .inl x), fun _ _ k => k, fun _ _ k => k, fun _ _ k => k, fun _ _ k => k, fun _ _ k => k, fun _ _ k => k, fun _ _ k => k, fun _ _ k => k, fun _ _ k => k, nofun, fun _ _ k => k, trivial⟩
          case obl12_3 =>
            refine ⟨?o12_3_0, ?o12_3_1, ?o12_3_2, ?o12_3_3, ?o12_3_4, ?o12_3_5, ?o12_3_6, ?o12_3_7, ?o12_3_8, ?o12_3_9, ?o12_3_10, trivial⟩
            all_goals intro xv wq hH hS H hU aq ha Q' hQ
            case o12_3_0 | o12_3_1 => cases rd0 ha; clear H hU hS; go_wp2_with fail; (try refine hQ _ _ ?_); refine ⟨Step.refl _ _, ?_, trivial, nofun⟩; exact (rfl : _ = _)
            case o12_3_2 | o12_3_3 => have ha := rd1 ha H (by kernel_rfl) rfl; simp only [q3, q5, q6, q7] at ha; subst ha; clear H hU hS; go_wp2_with fail; (try refine hQ _ _ ?_); refine ⟨Step.refl _ _, ?_, trivial, nofun⟩; exact (rfl : _ = _)
            case o12_3_4 => (try (have hS2 := hS (by decide); obtain ⟨c7, c8⟩ := FACTS.out _ hS2.2; clear hS2)); have ha := rd1 ha H (by kernel_rfl) rfl; simp only [q3, q5, q6, q7] at ha; subst ha; clear H hU hS; go_wp2_with fail; (try refine hQ _ _ ?_); refine ⟨Step.refl _ _, ?_, trivial, nofun⟩; exact (rfl : _ = _)
            case o12_3_5 => cases rd0 ha; clear H hU hS; go_wp2_with fail; (try refine hQ _ _ ?_); refine ⟨Step.refl _ _, ?_, trivial, nofun⟩; exact (rfl : _ = _)
            case o12_3_6 | o12_3_7 => have ha := rd1 ha H (by kernel_rfl) rfl; simp only [q3, q5, q6, q7] at ha; subst ha; clear H hU hS; go_wp2_with fail; (try refine hQ _ _ ?_); refine ⟨Step.refl _ _, ?_, trivial, nofun⟩; exact (rfl : _ = _)
            case o12_3_8 => (try (have hS2 := hS (by decide); obtain ⟨c7, c8⟩ := FACTS.out _ hS2.2; clear hS2)); have ha := rd1 ha H (by kernel_rfl) rfl; simp only [q3, q5, q6, q7] at ha; subst ha; clear H hU hS; go_wp2_with fail; (try refine hQ _ _ ?_); refine ⟨Step.refl _ _, ?_, trivial, nofun⟩; exact (rfl : _ = _)
            case o12_3_9 => (try (have hS2 := hS (by decide); obtain ⟨c7, c8⟩ := FACTS.out _ hS2.2; clear hS2)); have h8 : xv 8 = _ := H 8 (by kernel_rfl); change aq = puts _ xv [(8, some 69)] at ha; simp only [q1, q2, q3, q5, q6, q7, h8] at ha; subst ha; clear H h8; clear hU hS; go_wp2_with fail; (try refine hQ _ _ ?_); refine ⟨Step.alloc _ _ _, ?_, trivial, fun _ => ⟨_, rfl, Nat.le_refl _, by simp⟩⟩; exact ⟨_, rfl, hH.size, heap_alloc_new _ _⟩
            case o12_3_10 =>
              (try (have hS2 := hS (by decide); obtain ⟨c7, c8⟩ := FACTS.out _ hS2.2; clear hS2)); have h4 : xv 4 = _ := H 4 (by kernel_rfl); obtain ⟨b9, h9, l9, k9⟩ : IsRow w5 (.cells #[.int .i64 a16] 3 (0, 0)) 1 _ _ := H 9 (by kernel_rfl); change aq = puts _ xv [(4, some 65), (9, some 70)] at ha; simp only [q1, q2, q3, q5, q6, q7, h4, h9] at ha; have HX9 := Lib.hid h9; subst ha; clear H h4 h9
              have L := (hS (by kernel_rfl)).1
              clear hU hS
              refine wpList_append_row rfl (.tmp 65) (.tmp 70) 45 rfl (fun b => b = gs) 3 i0 _ 1 8 Try.underlying45 hi hz0 hz1 hz2 rfl _ _ _ rfl L ⟨b9, 0, none⟩ 1 1 [.int .i64 a16] rfl (by omega) rfl ?c1 ?c2 ?c3 ?c4 ?_
              case c1 => intro j u hj; exact row_add k9 j u hj
              case c2 => intro u hu; simp at hu; subst hu; rfl
              case c3 => simp only [maxLen]; omega
              case c4 => omega
              intro g_ cap w2 r2 s2 z2
              go_wp2_with fail
              (try refine hQ _ _ ?_)
              refine ⟨s2, trivial, ⟨g_, cap, ?_, ?_, ?_⟩, nofun⟩
              · rw [show planCl12.refOf 10 = 10 from rfl, if_pos rfl]; simp
              · have el : ((ls ++ [a16]).map (Value.int .i64)).length = ls.length + 1 := by simp
                rw [el, List.map_append]
                refine r2.mono fun b hb => ?_
                have := hH.size
                rcases hb with hb | hb
                · exact .inl hb
                · exact .inr (by omega)
              · exact hH.trans s2 fun _ x => .inl x
          intro xv w6 hH hS H hU hsz hF hN
          have h0 : xv 0 = _ := H 0 (by decide) (by kernel_rfl); have h1 : xv 1 = _ := H 1 (by decide) (by kernel_rfl); have h2 : xv 2 = _ := H 2 (by decide) (by kernel_rfl); have h3 : xv 3 = _ := H 3 (by decide) (by kernel_rfl); have h4 : xv 4 = _ := H 4 (by decide) (by kernel_rfl); have h5 : xv 5 = _ := H 5 (by decide) (by kernel_rfl); have h6 : xv 6 = _ := H 6 (by decide) (by kernel_rfl); have h7 : xv 7 = _ := H 7 (by decide) (by kernel_rfl); have h8 : xv 8 = _ := H 8 (by decide) (by kernel_rfl); obtain ⟨g10, cap10, h10, r10, s10⟩ : (GrewB w5 gs 3 ((ls ++ [a16]).map (Value.int .i64))) (xv 10) _ := hU 10 (by decide) (by kernel_rfl)
          simp only [planCl12, q1, q2, q3, q5, q6, q7, q4, List.drop_succ_cons, List.drop_zero, h0, h1, h2, h3, h4, h5, h6, h7, h8, h10]
          have hL := hU 10 (by decide) (by kernel_rfl)
          clear H hF hN hS hU h0 h1 h2 h3 h4 h5 h6 h7 h8 h10
          have H6 := Lib.hid hH
          have R10 := Lib.hid r10
          have HOW5 := Lib.hid (show ∀ b, w5.heap.size ≤ b → own b = 0 from fun b hb => HOW.out b (by have := CH5.out.step.size; omega))
          have NG := Lib.hid (show (g10 = gs ∨ w5.heap.size ≤ g10) from by
            obtain ⟨g0, c0, cu0, e0, hg0, _⟩ := R10.out.some (by simp)
            cases e0
            exact hg0)
          have hp5 := lt_known HF5.out.struct
          have hb5 := HF5.out.free.2.2.2
          have ht5 := lt_obj HB5.out
          have hwz := CH5.out.step.size
          have GN := Lib.hid (show w.heap.size ≤ g10 ∧ g10 ≠ b5 ∧ g10 ≠ pf ∧ g10 ≠ tg from by
            have h1 := HGS.out
            rcases NG.out with h | h
            · rw [h]; exact h1
            · omega)
          have W6 := Lib.hid (HP5.out.whole.offReg (gx := gs) (HOW.out gs HGS.out.1) (Nat.le_trans (by have := HW.out.since.size; exact this) HGS.out.1) H6.out)
          have el1 : ((ls ++ [a16]).map (Value.int .i64)).length = (ls ++ [a16]).length := by simp
          rw [el1] at R10
          have F7 := HF5.out.grow H6.out ⟨HGS.out.2.2.1, HGS.out.2.1⟩ (R10.out.mono fun b hb => (by
            rcases hb with h | h
            · rw [h]; exact ⟨HOW.out gs HGS.out.1, HGS.out.2.1, HGS.out.2.2.1⟩
            · exact ⟨HOW5.out b h, by omega, by omega⟩ : own b = 0 ∧ b ≠ b5 ∧ b ≠ pf))
          have W7 := W6.out.setReg (gx := pf) HF5.out.free.1 (Nat.le_trans (by have := HW.out.since.size; exact this) LPF.out.1) 7 (.slice (some ⟨g10, 0, none⟩) (ls ++ [a16]).length cap10)
          have k6 := (H6.out.block pf hp5 (fun e => HGS.out.2.2.1 e.symm)).trans HF5.out.struct
          have B7 := (set_other (w := w6) ⟨pf, 7, none⟩ (.slice (some ⟨g10, 0, none⟩) (ls ++ [a16]).length cap10) (LPF.out.2.1.symm : tg ≠ pf)).trans ((H6.out.block tg ht5 (fun e => HGS.out.2.2.2 e.symm)).trans HB5.out)
          have CH7 := Lib.hid (show Chg own own w (w6.setCell ⟨pf, 7, none⟩ (.slice (some ⟨g10, 0, none⟩) (ls ++ [a16]).length cap10)) from
            ⟨(CH5.out.step.trans H6.out fun b e => .inr (by rw [e]; exact HGS.out.1)).set (.inr LPF.out.1) _, fun _ _ => rfl⟩)
          have R7 : RowAt (w6.setCell ⟨pf, 7, none⟩ (.slice (some ⟨g10, 0, none⟩) (ls ++ [a16]).length cap10)) (fun b => b = g10) 3 1 (.slice (some ⟨g10, 0, none⟩) (ls ++ [a16]).length cap10) (ls ++ [a16]).length ((ls ++ [a16]).map (Value.int .i64)) := by
            obtain ⟨q1, ⟨_, q2⟩ | ⟨g0, c0, cu0, e0, _, q3, q4, q5, q6, q7⟩⟩ := R10.out
            · simp at q2
            · cases e0
              exact ⟨q1, .inr ⟨g10, cap10, cu0, rfl, rfl, (set_other _ _ GN.out.2.2.1).trans q3, q4, q5, q6, q7⟩⟩
          have c7 := cell_known k6 (i := 7) rfl
          have f7 := free_known k6 7
          have el2 : (ls ++ [a16]).length = ls.length + 1 := by simp
          rw [el2] at W7 B7 CH7 R7 F7
          have HF7 := Lib.hid F7
          have HW7 := Lib.hid W7
          have HB7 := Lib.hid B7
          have HR7 := Lib.hid R7
          clear F7 W7 B7 R7 k6 hH r10 s10 el1 el2
          go_upto_region 13 with fail
          clear c7 f7
          generalize w6.setCell ⟨pf, 7, none⟩ (.slice (some ⟨g10, 0, none⟩) (ls.length + 1) cap10) = w7 at *
          obtain ⟨bf7, bt7, bm7, bs7, bb7, ul7, ui7, uo7, P7⟩ := HW7.out
          have c8 := P7.cells.1.2.2.2.2.2.2.2.2.1
          simp only at c8
          have f8 := P7.cells.2 8
          have t17 := P7.tag.1
          obtain ⟨P8, ch8⟩ := P7.scalar 8 (.int .i64 (a16 + m)) (st' := { st with top := a16 + m }) (ui' := ui7) rfl rfl rfl rfl rfl rfl P7.input
          have F8 := HF7.out.keep ch8
          have nepw : ∀ b, w.heap.size ≤ b → b ≠ pw := fun b hb e => by have := HOW.out b hb; rw [e] at this; omega
          have B8 := (set_other (w := w7) ⟨pw, 8, none⟩ (.int .i64 (a16 + m)) (nepw tg (by have := LPF.out; omega) : tg ≠ pw)).trans HB7.out
          have R8 := HR7.out.same (w' := w7.setCell ⟨pw, 8, none⟩ (.int .i64 (a16 + m))) fun b hb _ => set_other _ _ (by rw [hb]; exact nepw g10 GN.out.1)
          have c8' : (w7.setCell ⟨pw, 8, none⟩ (.int .i64 (a16 + m))).cell? ⟨pw, 8, none⟩ = some (.int .i64 (a16 + m)) := P8.cells.1.2.2.2.2.2.2.2.2.1
          have HP8 := Lib.hid P8
          have HF8 := Lib.hid F8
          have HB8 := Lib.hid B8
          have HR8 := Lib.hid R8
          have CH8 := Lib.hid (CH7.out.trans ch8)
          have ha := HA.out
          clear P7 P8 F8 B8 R8 ch8 nepw c8'
          go_upto_region 14 with fail
          clear c8 f8
          generalize w7.setCell ⟨pw, 8, none⟩ (.int .i64 (a16 + m)) = w8 at *
          have c8 := HP8.out.cells.1.2.2.2.2.2.2.2.2.1
          simp only at c8
          by_cases hfit : a16 + m ≤ 4194304
          · have hdf : decide (a16 + m ≤ 4194304) = true := decide_eq_true hfit
            go_wp2_with fail
            refine (need_ok _ _).mono ?_
            rintro e w' ⟨rfl, rfl⟩
            go_wp2_with fail
            go_roundw
            case rel =>
              refine ⟨ls.length + 1, by omega, by go_num, ?_, ?_⟩
              · intro j hj
                by_cases hjk : j < ls.length
                · exact HOK.out j hjk
                · have : j = ls.length := by omega
                  subst this
                  rw [HP1.out]; exact hfit
              · rw [HP1.out]
                refine ⟨.slice (some ⟨g10, 0, none⟩) (ls.length + 1) cap10, g10, HP8.out.whole, HF8.out, ?_, GN.out, CH8.out, HB8.out⟩
                have h := HR8.out
                rw [show (ls ++ [a16]).length = ls.length + 1 by simp]
                exact h
            case measure => simp [intOf]; omega
          · have hdf : decide (a16 + m ≤ 4194304) = false := decide_eq_false hfit
            have hnf : 4194304 < a16 + m := by omega
            clear hfit
            go_wp2_with fail
            refine (need_no _ _).mono ?_
            rintro e w' ⟨rfl, rfl⟩
            refine ⟨rfl, ?_⟩
            have hne : g.slots ≠ [] := fun e => by rw [e] at hlt; simp at hlt
            rw [callF_room (n := n) (args := args) hne (placesF_no g.slots st.top ls.length hlt HOK.out (by rw [HP1.out]; simp only; omega))]
            exact ⟨rfl, own, c, CH8.out, by rw [HP1.out]; exact HP8.out.whole⟩
        · have hd : decide (k < g.slots.length) = false := decide_eq_false hlt
          have e : k = g.slots.length := by omega
          subst e
          have PLF := Lib.hid (placesF_ok g.slots st.top HOK.out)
          clear hlen
          have hsne : g.slots ≠ [] → 0 < g.slots.length := fun h => List.length_pos_iff.2 h
          have HSNE := Lib.hid hsne
          clear hsne hlt hk
          obtain ⟨g0, g1, g2, g3, g4, _⟩ := cells_known5 HBX.out
          rcases Nat.eq_zero_or_pos g.slots.length with h0 | h0
          · have hd0 : decide (0 < g.slots.length) = false := by rw [h0]; rfl
            have hsn : g.slots = [] := List.length_eq_zero_iff.1 h0
            clear h0
            have en := enterF_none (args := args) hsn PLF.out
            rw [HX0.out] at en
            have RES := Lib.hid (callF_of (n := n) (fns := fns) (tops := tops) en)
            obtain ⟨e1, e2, e3, e4⟩ := enterF_inv (args := args) HS.out HG.out H64.out
            rw [en] at e1 e2 e4
            obtain ⟨e5, e6⟩ := e4 rfl
            simp only at e1 e2 e5 e6
            have FR9 := HF2.out
            have CH9 := HCH.out
            obtain ⟨st9, hst9⟩ : ∃ s : FSt, ({ st with top := (plAcc g.slots st.top g.slots.length).2 } : FSt) = s := ⟨_, rfl⟩
            have W9 := HW2.out
            rw [hst9] at W9 e5
            have RES9 := RES.out
            rw [hst9] at RES9
            have Q9 := Lib.hid (show st9.steps = st.steps ∧ st9.fuel = st.fuel from by rw [← hst9]; exact ⟨rfl, rfl⟩)
            generalize (plAcc g.slots st.top g.slots.length).1 = ls9 at *
            have ATL := Lib.hid (show AtLoop w0 w wr pw own fnv tops fns pf b5 tg (.slice pp g.params.length pcap) (.slice pk g.kinds.length kcap) (.slice ps g.slots.length scap) vc (.slice (some ⟨b5, 0, none⟩) g.kinds.length g.kinds.length) vl g ⟨ls9, g.slots, 0, 0⟩ st.top (callF fns tops n st g args) st9 x0 n 0 own c from
              ⟨⟨by omega, by have := List.length_pos_iff.2 HG.out.code.1; omega⟩, RES9, by rw [Q9.out.1, Q9.out.2]; exact HFU.out, e5.le (by omega), e6, by rw [Q9.out.1]; have := HC.out; omega, CH9, W9, FR9, HBX.out, HOW.out tg (by have := LPF.out; omega), fun h => absurd h (by simp)⟩)
            clear en RES e1 e2 e3 e4 e5 e6 FR9 CH9 W9 RES9 hst9 hsn
            go_wp2_with fail
            clear g0 g1 g2 g3 g4
            generalize (⟨ls9, g.slots, 0, 0⟩ : Frm) = fr9 at *
            generalize wr = w9 at *
            go_loopw [13, 14] (fun a _ wr => ∃ (at_ : Int) (stc : FSt) (x : List Int) (m : Nat) (ownc : Nat → Nat) (cc : Nat), a = .int .i64 at_ ∧ m ≤ n ∧ AtLoop w0 w wr pw own fnv tops fns pf b5 tg (.slice pp g.params.length pcap) (.slice pk g.kinds.length kcap) (.slice ps g.slots.length scap) vc (.slice (some ⟨b5, 0, none⟩) g.kinds.length g.kinds.length) vl g fr9 st.top (callF fns tops n st g args) stc x m at_ ownc cc) (fun _ _ wr => stepsLeft pw wr)
            case atStart => exact ⟨0, st9, x0, n, _, _, rfl, Nat.le_refl _, ATL.out⟩
            case round =>
              obtain ⟨at_, stc, x, m, ownc, cc, rfl, hm, hat⟩ := hrel
              have HA := Lib.hid hat
              clear hat ATL
              obtain ⟨cf, ct, cm, cs, cb, cl, ci, co, P⟩ := HA.out.mach
              have CP := Lib.hid P
              have FAC := Lib.hid (show ∀ y, Step (fun _ => False) wr y → y.cell? ⟨pw, 12, none⟩ = some (.int .i64 stc.steps) ∧ y.cell? ⟨pw, 11, none⟩ = some (.int .i64 stc.fuel) from fun y hy =>
                ⟨cell_known (hy.keeps P.struct) rfl, cell_known (hy.keeps P.struct) rfl⟩)
              clear P
              by_cases hlt : stc.steps < stc.fuel
              · have hd : decide (stc.steps < stc.fuel) = true := decide_eq_true hlt
                go_upto_region 20 with fail
                refine wp_region_each 8 planCl20 (fun _ _ => False) (Step (fun _ => False) wr) (fun _ => True) [Is ?v20_4_0, Is ?v20_4_1, Is ?v20_4_2, Is ?v20_4_3, Is ?v20_4_4, Is ?v20_4_5, Is ?v20_4_6, Is ?v20_4_7] [] (by kernel_rfl) (by kernel_rfl) (fun _ _ h => h.elim) ((Step.refl _ _).drew) (trivial) ?stab20_4 ?stabD20_4 ?obl20_4 ?fin20_4
                case stab20_4 => exact fun w w' h => ⟨fun k => k.trans h (fun _ x => x.elim), fun _ => trivial, ⟨fun _ k => k, fun _ k => k, fun _ k => k, fun _ k => k, fun _ k => k, fun _ k => k, fun _ k => k, fun _ k => k, trivial⟩, trivial⟩
                case stabD20_4 => exact fun _ _ h => h.elim
                case obl20_4 =>
                  refine ⟨?o20_4_0, ?o20_4_1, ?o20_4_2, ?o20_4_3, ?o20_4_4, ?o20_4_5, ?o20_4_6, ?o20_4_7, trivial⟩
                  all_goals intro xv wq hH hS H hU aq ha Q' hQ
                  case o20_4_0 => cases rd0 ha; clear H hU hS; go_wp2_with fail; (try refine hQ _ _ ?_); refine ⟨Step.refl _ _, ?_, trivial, nofun⟩; exact (rfl : _ = _)
                  case o20_4_1 | o20_4_2 => have ha := rd1 ha H (by kernel_rfl) rfl; simp only [q3, q5, q6, q7] at ha; subst ha; clear H hU hS; go_wp2_with fail; (try refine hQ _ _ ?_); refine ⟨Step.refl _ _, ?_, trivial, nofun⟩; exact (rfl : _ = _)
                  case o20_4_3 => obtain ⟨x12, x11⟩ := FAC.out _ hH; have ha := rd1 ha H (by kernel_rfl) rfl; simp only [q3, q5, q6, q7] at ha; subst ha; clear H hU hS; go_wp2_with fail; (try refine hQ _ _ ?_); refine ⟨Step.refl _ _, ?_, trivial, nofun⟩; exact (rfl : _ = _)
                  case o20_4_4 => cases rd0 ha; clear H hU hS; go_wp2_with fail; (try refine hQ _ _ ?_); refine ⟨Step.refl _ _, ?_, trivial, nofun⟩; exact (rfl : _ = _)
                  case o20_4_5 | o20_4_6 => have ha := rd1 ha H (by kernel_rfl) rfl; simp only [q3, q5, q6, q7] at ha; subst ha; clear H hU hS; go_wp2_with fail; (try refine hQ _ _ ?_); refine ⟨Step.refl _ _, ?_, trivial, nofun⟩; exact (rfl : _ = _)
                  case o20_4_7 => obtain ⟨x12, x11⟩ := FAC.out _ hH; have ha := rd1 ha H (by kernel_rfl) rfl; simp only [q3, q5, q6, q7] at ha; subst ha; clear H hU hS; go_wp2_with fail; (try refine hQ _ _ ?_); refine ⟨Step.refl _ _, ?_, trivial, nofun⟩; exact (rfl : _ = _)
                intro xv w10 hH hS H hU hsz hF hN
                have h0 : xv 0 = _ := H 0 (by decide) (by kernel_rfl); have h1 : xv 1 = _ := H 1 (by decide) (by kernel_rfl); have h2 : xv 2 = _ := H 2 (by decide) (by kernel_rfl); have h3 : xv 3 = _ := H 3 (by decide) (by kernel_rfl); have h4 : xv 4 = _ := H 4 (by decide) (by kernel_rfl); have h5 : xv 5 = _ := H 5 (by decide) (by kernel_rfl); have h6 : xv 6 = _ := H 6 (by decide) (by kernel_rfl); have h7 : xv 7 = _ := H 7 (by decide) (by kernel_rfl)
                simp only [planCl20, q1, q2, q3, q5, q6, q7, q4, List.drop_succ_cons, List.drop_zero, h0, h1, h2, h3, h4, h5, h6, h7]
                clear H hF hN hS hU h0 h1 h2 h3 h4 h5 h6 h7
                go_wp2_with fail
                refine (need_ok _ _).mono ?_
                rintro e w' ⟨rfl, rfl⟩
                have HA10 := Lib.hid (HA.out.still hH)
                clear hH FAC CP
                obtain ⟨cf, ct, cm, cs, cb, cl, ci, co, P⟩ := HA10.out.mach
                have c12 := P.cells.1.2.2.2.2.2.2.2.2.2.2.2.2.1
                have f12 := P.cells.2 12
                have hsb := HA.out.inv.steps
                obtain ⟨P11, ch11⟩ := P.scalar 12 (.int .i64 (stc.steps + 1)) (st' := { stc with steps := stc.steps + 1 }) (ui' := ci) rfl rfl rfl rfl rfl rfl P.input
                have HW11 := Lib.hid P11.whole
                have HF11 := Lib.hid (HA10.out.frame.keep ch11)
                have HB11 := Lib.hid (ch11.keeps HA10.out.box HA.out.free)
                have CH11 := Lib.hid (HA10.out.chg.trans ch11)
                clear P P11 ch11
                go_upto_region 22 with fail
                clear c12 f12
                generalize w10.setCell ⟨pw, 12, none⟩ (.int .i64 (stc.steps + 1)) = w11 at *
                obtain ⟨pc, ccap, evc, hcc1, hcc2, hcc⟩ := HCD.out
                subst evc
                have hlt2 := HA.out.at0
                obtain ⟨ac, vi, epc, hins, hcells⟩ := hcc at_.toNat (by omega)
                subst epc
                have hmem := List.getElem_mem (l := g.code) (n := at_.toNat) (by omega)
                have hget : g.code[at_.toNat]? = some (g.code[at_.toNat]'(by omega)) := List.getElem?_eq_getElem (by omega)
                generalize g.code[at_.toNat]'(by omega) = i at hmem hget hins hcells
                obtain ⟨va_, vo_, evi, iargs, iouts⟩ := id hins
                obtain ⟨op, dst, a_, b_, n_, size, name, iar, iou, to⟩ := i
                subst evi
                obtain ⟨⟨pa_, pac_, rfl, _, _, _⟩, _⟩ := id iargs
                obtain ⟨⟨po_, poc_, rfl, _, _, _⟩, _⟩ := id iouts
                have HI := Lib.hid hins
                have HM := Lib.hid hmem
                have HGI := Lib.hid hget
                have hce : ∀ j u, (#[.int .i64 op, .int .i64 dst, .int .i64 a_, .int .i64 b_, .int .u64 n_, .int .i64 size, .string name, .slice pa_ iar.length pac_, .slice po_ iou.length poc_, .int .i64 to] : Array Value)[j]? = some u → w11.cell? ((ac.add (at_.toNat * 10)).add j) = some u := fun j u h => by
                  have h1 := hcells j u h
                  rw [HW11.out.cell_old (block_lt h1)]; exact h1
                have HCE := Lib.hid hce
                have g4 := cell_known HB11.out (i := 4) rfl
                have hcl : at_ < g.code.length := hlt2.2
                have hc0 : 0 ≤ at_ := hlt2.1
                have hcd : g.code.length ≤ 100000 := by have := HCL.out; exact this
                clear hins hmem hget hcells hce hcc hcc2 hlt2 iargs iouts
                have e0 : w11.cell? (ac.add (at_.toNat * 10)) = some (.int .i64 op) := by have := HCE.out 0 _ rfl; simpa [Addr.add] using this
                have e1 : w11.cell? ⟨(ac.add (at_.toNat * 10)).block, (ac.add (at_.toNat * 10)).off + 1, none⟩ = some (.int .i64 dst) := HCE.out 1 _ rfl
                have e2 : w11.cell? ⟨(ac.add (at_.toNat * 10)).block, (ac.add (at_.toNat * 10)).off + 2, none⟩ = some (.int .i64 a_) := HCE.out 2 _ rfl
                have e3 : w11.cell? ⟨(ac.add (at_.toNat * 10)).block, (ac.add (at_.toNat * 10)).off + 3, none⟩ = some (.int .i64 b_) := HCE.out 3 _ rfl
                have e4 : w11.cell? ⟨(ac.add (at_.toNat * 10)).block, (ac.add (at_.toNat * 10)).off + 4, none⟩ = some (.int .u64 n_) := HCE.out 4 _ rfl
                have e5 : w11.cell? ⟨(ac.add (at_.toNat * 10)).block, (ac.add (at_.toNat * 10)).off + 5, none⟩ = some (.int .i64 size) := HCE.out 5 _ rfl
                have e6 : w11.cell? ⟨(ac.add (at_.toNat * 10)).block, (ac.add (at_.toNat * 10)).off + 6, none⟩ = some (.string name) := HCE.out 6 _ rfl
                have e7 : w11.cell? ⟨(ac.add (at_.toNat * 10)).block, (ac.add (at_.toNat * 10)).off + 7, none⟩ = some (.slice pa_ iar.length pac_) := HCE.out 7 _ rfl
                have e8 : w11.cell? ⟨(ac.add (at_.toNat * 10)).block, (ac.add (at_.toNat * 10)).off + 8, none⟩ = some (.slice po_ iou.length poc_) := HCE.out 8 _ rfl
                have e9 : w11.cell? ⟨(ac.add (at_.toNat * 10)).block, (ac.add (at_.toNat * 10)).off + 9, none⟩ = some (.int .i64 to) := HCE.out 9 _ rfl
                clear HCE
                go_upto_region 23 with fail
                have kb := heap_alloc_new w11 (.cells #[.int .i64 op, .int .i64 dst, .int .i64 a_, .int .i64 b_, .int .u64 n_, .int .i64 size, .string name, .slice pa_ iar.length pac_, .slice po_ iou.length poc_, .int .i64 to] 47 (0, 0))
                have S12 := Lib.hid (Step.alloc (fun _ => False) w11 (.cells #[.int .i64 op, .int .i64 dst, .int .i64 a_, .int .i64 b_, .int .u64 n_, .int .i64 size, .string name, .slice pa_ iar.length pac_, .slice po_ iou.length poc_, .int .i64 to] 47 (0, 0)))
                generalize w11.alloc (.cells #[.int .i64 op, .int .i64 dst, .int .i64 a_, .int .i64 b_, .int .u64 n_, .int .i64 size, .string name, .slice pa_ iar.length pac_, .slice po_ iou.length poc_, .int .i64 to] 47 (0, 0)) = w12 at kb S12 ⊢
                have LT := Lib.hid (show w.heap.size ≤ w11.heap.size ∧ ownc w11.heap.size = 0 from ⟨CH11.out.step.size, HW11.out.fresh0⟩)
                generalize w11.heap.size = ti at *
                have KI := Lib.hid kb
                have FBI := Lib.hid (box_facts kb)
                clear kb e0 e1 e2 e3 e4 e5 e6 e7 e8 e9 g4
                have HW12 := Lib.hid (HW11.out.still S12.out)
                have HF12 := Lib.hid (HF11.out.still S12.out)
                have HB12 := Lib.hid (S12.out.keeps HB11.out)
                have CH12 := Lib.hid (CH11.out.trans (Chg.calm ownc S12.out))
                obtain ⟨m', hm'⟩ : ∃ m', m = m' + 1 := ⟨m - 1, by have := HA.out.gas; omega⟩
                subst hm'
                have hx64 := Lib.hid HA.out.finv.x64
                by_cases h43 : op = 43
                · subst h43
                  obtain ⟨b0, b1, b2, b3, b4, b5_, b6, b7, b8, b9⟩ := FBI.out _ (Step.refl _ _)
                  obtain ⟨f0, f4, f6, f7, f8, f9⟩ := frame_facts HF12.out _ (Step.refl _ _)
                  by_cases hl0 : 0 < fr9.lock
                  · have hdl : decide (0 < fr9.lock) = true := decide_eq_true hl0
                    have RES := Lib.hid (show callF fns tops n st g args = .ret { stc with steps := stc.steps + 1, locks := stc.locks.set fr9.lock.toNat 0, top := st.top } (pick x iar) from by
                      rw [HA.out.eq, loopF_ret1 hlt HGI.out rfl, if_pos hl0])
                    have hli := HA.out.lockin hl0
                    obtain ⟨rf, rt, rm, rs, rb, rl, ri, ro, PR⟩ := HW12.out
                    obtain ⟨gl, lcap, eul, ⟨ulk, clk⟩, zlk, ogl, PU, chu⟩ := PR.unlock fr9.lock ⟨by omega, hli⟩
                    subst eul
                    have FX := Lib.hid (show ∀ y, Step (fun _ => False) w12 y → y.cell? ⟨pw, 4, none⟩ = some (.slice (some ⟨gl, 0, none⟩) stc.locks.length lcap) ∧ y.cell? ⟨pf, 8, none⟩ = some (.int .i64 fr9.lock) from fun y hy =>
                      ⟨cell_known (hy.keeps PR.struct) rfl, cell_known (hy.keeps HF12.out.struct) rfl⟩)
                    have HPR := Lib.hid PR
                    have OGL := Lib.hid ogl
                    clear PU chu PR clk zlk ogl
                    go_upto_region 25 with fail
                    clear b0 b1 b2 b3 b4 b5_ b6 b7 b8 b9 f0 f4 f6 f7 f8 f9
                    refine wp_region_each 8 planCl25 (fun _ _ => False) (Step (fun _ => False) w12) (fun _ => True) [Is ?v25_5_0, Is ?v25_5_1, Is ?v25_5_2, Is ?v25_5_3, Is ?v25_5_4, Is ?v25_5_5, Is ?v25_5_6, Is ?v25_5_7] [] (by kernel_rfl) (by kernel_rfl) (fun _ _ h => h.elim) ((Step.refl _ _).drew) (trivial) ?stab25_5 ?stabD25_5 ?obl25_5 ?fin25_5
                    case stab25_5 => exact fun w w' h => ⟨fun k => k.trans h (fun _ x => x.elim), fun _ => trivial, ⟨fun _ k => k, fun _ k => k, fun _ k => k, fun _ k => k, fun _ k => k, fun _ k => k, fun _ k => k, fun _ k => k, trivial⟩, trivial⟩
                    case stabD25_5 => exact fun _ _ h => h.elim
                    case obl25_5 =>
                      refine ⟨?o25_5_0, ?o25_5_1, ?o25_5_2, ?o25_5_3, ?o25_5_4, ?o25_5_5, ?o25_5_6, ?o25_5_7, trivial⟩
                      all_goals intro xv wq hH hS H hU aq ha Q' hQ
                      case o25_5_0 => cases rd0 ha; clear H hU hS; go_wp2_with fail; (try refine hQ _ _ ?_); refine ⟨Step.refl _ _, ?_, trivial, nofun⟩; exact (rfl : _ = _)
                      case o25_5_1 | o25_5_2 => have ha := rd1 ha H (by kernel_rfl) rfl; simp only [q3, q5, q6, q7] at ha; subst ha; clear H hU hS; go_wp2_with fail; (try refine hQ _ _ ?_); refine ⟨Step.refl _ _, ?_, trivial, nofun⟩; exact (rfl : _ = _)
                      case o25_5_3 => obtain ⟨x4, x8⟩ := FX.out _ hH; have ha := rd1 ha H (by kernel_rfl) rfl; simp only [q3, q5, q6, q7] at ha; subst ha; clear H hU hS; go_wp2_with fail; (try refine hQ _ _ ?_); refine ⟨Step.refl _ _, ?_, trivial, nofun⟩; exact (rfl : _ = _)
                      case o25_5_4 => cases rd0 ha; clear H hU hS; go_wp2_with fail; (try refine hQ _ _ ?_); refine ⟨Step.refl _ _, ?_, trivial, nofun⟩; exact (rfl : _ = _)
                      case o25_5_5 | o25_5_6 => have ha := rd1 ha H (by kernel_rfl) rfl; simp only [q3, q5, q6, q7] at ha; subst ha; clear H hU hS; go_wp2_with fail; (try refine hQ _ _ ?_); refine ⟨Step.refl _ _, ?_, trivial, nofun⟩; exact (rfl : _ = _)
                      case o25_5_7 => obtain ⟨x4, x8⟩ := FX.out _ hH; have ha := rd1 ha H (by kernel_rfl) rfl; simp only [q3, q5, q6, q7] at ha; subst ha; clear H hU hS; go_wp2_with fail; (try refine hQ _ _ ?_); refine ⟨Step.refl _ _, ?_, trivial, nofun⟩; exact (rfl : _ = _)
                    intro xv w13 hH hS H hU hsz hF hN
                    have h0 : xv 0 = _ := H 0 (by decide) (by kernel_rfl); have h1 : xv 1 = _ := H 1 (by decide) (by kernel_rfl); have h2 : xv 2 = _ := H 2 (by decide) (by kernel_rfl); have h3 : xv 3 = _ := H 3 (by decide) (by kernel_rfl); have h4 : xv 4 = _ := H 4 (by decide) (by kernel_rfl); have h5 : xv 5 = _ := H 5 (by decide) (by kernel_rfl); have h6 : xv 6 = _ := H 6 (by decide) (by kernel_rfl); have h7 : xv 7 = _ := H 7 (by decide) (by kernel_rfl)
                    simp only [planCl25, q1, q2, q3, q5, q6, q7, q4, List.drop_succ_cons, List.drop_zero, h0, h1, h2, h3, h4, h5, h6, h7]
                    clear H hF hN hS hU h0 h1 h2 h3 h4 h5 h6 h7
                    obtain ⟨gl2, lcap2, eul2, ⟨ulk, clk⟩, zlk, ogl, PU, chu⟩ := (HPR.out.still hH).unlock fr9.lock ⟨by omega, hli⟩
                    cases eul2
                    have HWR_ := Lib.hid PU.whole
                    have HFR_ := Lib.hid ((HF12.out.still hH).keep chu)
                    have CHR := Lib.hid ((CH12.out.trans (Chg.calm ownc hH)).trans chu)
                    have KIR := Lib.hid (chu.keeps (hH.keeps KI.out) LT.out.2)
                    clear PU chu hH ogl
                    go_upto_region 26 with fail
                    clear clk zlk
                    generalize w13.setCell ⟨gl, fr9.lock.toNat, none⟩ (.int .u64 0) = wR at *
                    obtain ⟨stR, hstR⟩ : ∃ s : FSt, ({ stc with steps := stc.steps + 1, locks := stc.locks.set fr9.lock.toNat 0 } : FSt) = s := ⟨_, rfl⟩
                    have HST := Lib.hid hstR
                    rw [hstR] at HWR_
                    clear hstR
                    obtain ⟨rf, rt, rm, rs, rb, rl, ri, ro, PR⟩ := HWR_.out
                    have d8 := PR.cells.1.2.2.2.2.2.2.2.2.1
                    have z8 := PR.cells.2 8
                    obtain ⟨PT, cht⟩ := PR.scalar 8 (.int .i64 st.top) (st' := { stR with top := st.top }) (ui' := ri) rfl rfl rfl rfl rfl rfl PR.input
                    have HWT := Lib.hid PT.whole
                    have HFT := Lib.hid (HFR_.out.keep cht)
                    have CHT := Lib.hid (CHR.out.trans cht)
                    have KIT := Lib.hid (cht.keeps KIR.out LT.out.2)
                    clear PR PT cht
                    go_upto_region 27 with fail
                    clear d8 z8
                    generalize wR.setCell ⟨pw, 8, none⟩ (.int .i64 st.top) = wT at *
                    obtain ⟨b0, b1, b2, b3, b4, b5_, b6, b7, b8, b9⟩ := box_facts KIT.out _ (Step.refl _ _)
                    obtain ⟨vI, voI, eI, iaI, ioI⟩ := HI.out
                    cases eI
                    obtain ⟨gi1, gi2, gi3, gi4, gi5⟩ := HG.out.ins _ HM.out
                    have VAL := Lib.hid (values_any HFT.out (iaI.step HWT.out.since fun b h => h) (show ∀ r ∈ iar, ok1 x r from (listB_ok (x := x) HA.out.finv.len (goodI_form gi1 (m := { args := -1 }) rfl).2.2.2.1).1) (by have h : iar.length ≤ 1000 := gi4; omega))
                    clear iaI ioI gi1 gi2 gi3 gi4 gi5
                    go_wp2_with fail
                    refine VAL.out.mono ?_
                    rintro e w' ⟨voR, rfl, rowR, sR⟩
                    have RR := Lib.hid rowR
                    have SR := Lib.hid sR
                    clear rowR sR
                    go_wp2_with fail
                    go_ret
                    rw [← HST.out] at HWT
                    rw [RES.out]
                    refine ⟨_, rfl, ownc, cc, CHT.out.trans (Chg.calm ownc SR.out), HWT.out.still SR.out, by have := HA.out.cost; simp only; omega, ?_⟩
                    have hz := CHT.out.step.size
                    rw [pick_length]
                    exact RR.out.mono fun b hb => ⟨by omega, by
                      by_cases e : ownc b = 0
                      · exact e
                      · have := (HWT.out.low b e).2; omega⟩
                  · have hdl : decide (0 < fr9.lock) = false := decide_eq_false hl0
                    have RES := Lib.hid (show callF fns tops n st g args = .ret { stc with steps := stc.steps + 1, top := st.top } (pick x iar) from by
                      rw [HA.out.eq, loopF_ret1 hlt HGI.out rfl, if_neg hl0])
                    clear hl0
                    go_upto_region 26 with fail
                    clear b0 b1 b2 b3 b4 b5_ b6 b7 b8 b9 f0 f4 f6 f7 f8 f9
                    have HWR_ := HW12
                    have HFR_ := HF12
                    have CHR := CH12
                    have KIR := KI
                    generalize w12 = wR at HWR_ HFR_ CHR KIR ⊢
                    obtain ⟨stR, hstR⟩ : ∃ s : FSt, ({ stc with steps := stc.steps + 1 } : FSt) = s := ⟨_, rfl⟩
                    have HST := Lib.hid hstR
                    rw [hstR] at HWR_
                    clear hstR
                    obtain ⟨rf, rt, rm, rs, rb, rl, ri, ro, PR⟩ := HWR_.out
                    have d8 := PR.cells.1.2.2.2.2.2.2.2.2.1
                    have z8 := PR.cells.2 8
                    obtain ⟨PT, cht⟩ := PR.scalar 8 (.int .i64 st.top) (st' := { stR with top := st.top }) (ui' := ri) rfl rfl rfl rfl rfl rfl PR.input
                    have HWT := Lib.hid PT.whole
                    have HFT := Lib.hid (HFR_.out.keep cht)
                    have CHT := Lib.hid (CHR.out.trans cht)
                    have KIT := Lib.hid (cht.keeps KIR.out LT.out.2)
                    clear PR PT cht
                    go_upto_region 27 with fail
                    clear d8 z8
                    generalize wR.setCell ⟨pw, 8, none⟩ (.int .i64 st.top) = wT at *
                    obtain ⟨b0, b1, b2, b3, b4, b5_, b6, b7, b8, b9⟩ := box_facts KIT.out _ (Step.refl _ _)
                    obtain ⟨vI, voI, eI, iaI, ioI⟩ := HI.out
                    cases eI
                    obtain ⟨gi1, gi2, gi3, gi4, gi5⟩ := HG.out.ins _ HM.out
                    have VAL := Lib.hid (values_any HFT.out (iaI.step HWT.out.since fun b h => h) (show ∀ r ∈ iar, ok1 x r from (listB_ok (x := x) HA.out.finv.len (goodI_form gi1 (m := { args := -1 }) rfl).2.2.2.1).1) (by have h : iar.length ≤ 1000 := gi4; omega))
                    clear iaI ioI gi1 gi2 gi3 gi4 gi5
                    go_wp2_with fail
                    refine VAL.out.mono ?_
                    rintro e w' ⟨voR, rfl, rowR, sR⟩
                    have RR := Lib.hid rowR
                    have SR := Lib.hid sR
                    clear rowR sR
                    go_wp2_with fail
                    go_ret
                    rw [← HST.out] at HWT
                    rw [RES.out]
                    refine ⟨_, rfl, ownc, cc, CHT.out.trans (Chg.calm ownc SR.out), HWT.out.still SR.out, by have := HA.out.cost; simp only; omega, ?_⟩
                    have hz := CHT.out.step.size
                    rw [pick_length]
                    exact RR.out.mono fun b hb => ⟨by omega, by
                      by_cases e : ownc b = 0
                      · exact e
                      · have := (HWT.out.low b e).2; omega⟩
                · have h43b : (op == 43) = false := beq_false_of_ne h43
                  obtain ⟨b0, b1, b2, b3, b4, b5_, b6, b7, b8, b9⟩ := FBI.out _ (Step.refl _ _)
                  obtain ⟨f0, f4, f6, f7, f8, f9⟩ := frame_facts HF12.out _ (Step.refl _ _)
                  have FF12 := Lib.hid (frame_facts HF12.out)
                  have GXL := Lib.hid (show w0.heap.size ≤ b5 from Nat.le_trans (by have := HW.out.since.size; exact this) LPF.out.2.2.2.2.1)
                  have HAG := Lib.hid (show AllGood fns from fun s g h => by obtain ⟨_, _, _, h2⟩ := hE s g h; exact h2)
                  by_cases h18 : op = 18
                  · subst h18
                    go_upto_region 29 with fail
                    refine wp_region_each 14 planCl29a (fun _ _ => False) (Step (fun _ => False) w12) (fun _ => True) [Is ?v29_6_0, Is ?v29_6_1, Is ?v29_6_2, Is ?v29_6_3, Is ?v29_6_4, Is ?v29_6_5, Is ?v29_6_6, Is ?v29_6_7, Is ?v29_6_8, Is ?v29_6_9, Is ?v29_6_10, Is ?v29_6_11, Is ?v29_6_12, Is ?v29_6_13] [] (by kernel_rfl) (by kernel_rfl) (fun _ _ h => h.elim) ((Step.refl _ _).drew) (trivial) ?stab29_6 ?stabD29_6 ?obl29_6 ?fin29_6
                    case stab29_6 => exact fun w w' h => ⟨fun k => k.trans h (fun _ x => x.elim), fun _ => trivial, ⟨fun _ k => k, fun _ k => k, fun _ k => k, fun _ k => k, fun _ k => k, fun _ k => k, fun _ k => k, fun _ k => k, fun _ k => k, fun _ k => k, fun _ k => k, fun _ k => k, fun _ k => k, fun _ k => k, trivial⟩, trivial⟩
                    case stabD29_6 => exact fun _ _ h => h.elim
                    case obl29_6 =>
                      refine ⟨?o29_6_0, ?o29_6_1, ?o29_6_2, ?o29_6_3, ?o29_6_4, ?o29_6_5, ?o29_6_6, ?o29_6_7, ?o29_6_8, ?o29_6_9, ?o29_6_10, ?o29_6_11, ?o29_6_12, ?o29_6_13, trivial⟩
                      all_goals intro xv wq hH hS H hU aq ha Q' hQ
                      case o29_6_0 => cases rd0 ha; clear H hU hS; go_wp2_with fail; (try refine hQ _ _ ?_); refine ⟨Step.refl _ _, ?_, trivial, nofun⟩; exact (rfl : _ = _)
                      case o29_6_1 | o29_6_2 => obtain ⟨b0, b1, b2, b3, b4, b5_, b6, b7, b8, b9⟩ := FBI.out _ hH; obtain ⟨f0, f4, f6, f7, f8, f9⟩ := FF12.out _ hH; have ha := rd1 ha H (by kernel_rfl) rfl; simp only [q3, q5, q6, q7] at ha; subst ha; clear H hU hS; go_wp2_with fail; (try refine hQ _ _ ?_); refine ⟨Step.refl _ _, ?_, trivial, nofun⟩; exact (rfl : _ = _)
                      case o29_6_3 => have ha := rd1 ha H (by kernel_rfl) rfl; simp only [q3, q5, q6, q7] at ha; subst ha; clear H hU hS; go_wp2_with fail; (try refine hQ _ _ ?_); refine ⟨Step.refl _ _, ?_, trivial, nofun⟩; exact (rfl : _ = _)
                      case o29_6_4 => obtain ⟨b0, b1, b2, b3, b4, b5_, b6, b7, b8, b9⟩ := FBI.out _ hH; obtain ⟨f0, f4, f6, f7, f8, f9⟩ := FF12.out _ hH; have ha := rd1 ha H (by kernel_rfl) rfl; simp only [q3, q5, q6, q7] at ha; subst ha; clear H hU hS; go_wp2_with fail; (try refine hQ _ _ ?_); refine ⟨Step.refl _ _, ?_, trivial, nofun⟩; exact (rfl : _ = _)
                      case o29_6_5 | o29_6_6 | o29_6_7 => obtain ⟨b0, b1, b2, b3, b4, b5_, b6, b7, b8, b9⟩ := FBI.out _ hH; obtain ⟨f0, f4, f6, f7, f8, f9⟩ := FF12.out _ hH; have ha := rd2 ha H (by kernel_rfl) (by kernel_rfl) rfl rfl; simp only [q3, q5, q6, q7] at ha; subst ha; clear H hU hS; go_wp2_with fail; (try refine hQ _ _ ?_); refine ⟨Step.refl _ _, ?_, trivial, nofun⟩; exact (rfl : _ = _)
                      case o29_6_8 => obtain ⟨b0, b1, b2, b3, b4, b5_, b6, b7, b8, b9⟩ := FBI.out _ hH; obtain ⟨f0, f4, f6, f7, f8, f9⟩ := FF12.out _ hH; have ha := rd1 ha H (by kernel_rfl) rfl; simp only [q3, q5, q6, q7] at ha; subst ha; clear H hU hS; go_wp2_with fail; (try refine hQ _ _ ?_); refine ⟨Step.refl _ _, ?_, trivial, nofun⟩; exact (rfl : _ = _)
                      case o29_6_9 | o29_6_10 | o29_6_11 => obtain ⟨b0, b1, b2, b3, b4, b5_, b6, b7, b8, b9⟩ := FBI.out _ hH; obtain ⟨f0, f4, f6, f7, f8, f9⟩ := FF12.out _ hH; have ha := rd2 ha H (by kernel_rfl) (by kernel_rfl) rfl rfl; simp only [q3, q5, q6, q7] at ha; subst ha; clear H hU hS; go_wp2_with fail; (try refine hQ _ _ ?_); refine ⟨Step.refl _ _, ?_, trivial, nofun⟩; exact (rfl : _ = _)
                      case o29_6_12 => obtain ⟨b0, b1, b2, b3, b4, b5_, b6, b7, b8, b9⟩ := FBI.out _ hH; obtain ⟨f0, f4, f6, f7, f8, f9⟩ := FF12.out _ hH; have ha := rd1 ha H (by kernel_rfl) rfl; simp only [q3, q5, q6, q7] at ha; subst ha; clear H hU hS; go_wp2_with fail; (try refine hQ _ _ ?_); refine ⟨Step.refl _ _, ?_, trivial, nofun⟩; exact (rfl : _ = _)
                      case o29_6_13 => obtain ⟨b0, b1, b2, b3, b4, b5_, b6, b7, b8, b9⟩ := FBI.out _ hH; obtain ⟨f0, f4, f6, f7, f8, f9⟩ := FF12.out _ hH; have ha := rd2 ha H (by kernel_rfl) (by kernel_rfl) rfl rfl; simp only [q3, q5, q6, q7] at ha; subst ha; clear H hU hS; go_wp2_with fail; (try refine hQ _ _ ?_); refine ⟨Step.refl _ _, ?_, trivial, nofun⟩; exact (rfl : _ = _)
                    intro xv w13 hH hS H hU hsz hF hN
                    have h0 : xv 0 = _ := H 0 (by decide) (by kernel_rfl); have h1 : xv 1 = _ := H 1 (by decide) (by kernel_rfl); have h2 : xv 2 = _ := H 2 (by decide) (by kernel_rfl); have h3 : xv 3 = _ := H 3 (by decide) (by kernel_rfl); have h4 : xv 4 = _ := H 4 (by decide) (by kernel_rfl); have h5 : xv 5 = _ := H 5 (by decide) (by kernel_rfl); have h6 : xv 6 = _ := H 6 (by decide) (by kernel_rfl); have h7 : xv 7 = _ := H 7 (by decide) (by kernel_rfl); have h8 : xv 8 = _ := H 8 (by decide) (by kernel_rfl); have h9 : xv 9 = _ := H 9 (by decide) (by kernel_rfl); have h10 : xv 10 = _ := H 10 (by decide) (by kernel_rfl); have h11 : xv 11 = _ := H 11 (by decide) (by kernel_rfl); have h12 : xv 12 = _ := H 12 (by decide) (by kernel_rfl); have h13 : xv 13 = _ := H 13 (by decide) (by kernel_rfl)
                    simp only [planCl29a, q1, q2, q3, q5, q6, q7, q4, List.drop_succ_cons, List.drop_zero, h0, h1, h2, h3, h4, h5, h6, h7, h8, h9, h10, h11, h12, h13]
                    clear H hF hN hS hU h0 h1 h2 h3 h4 h5 h6 h7 h8 h9 h10 h11 h12 h13
                    have HJ := Lib.hid hH
                    clear hH
                    have NF := Lib.hid (show nextF x ⟨18, dst, a_, b_, n_, size, name, iar, iou, to⟩ at_ = to from by unfold nextF; rw [if_pos (.inl rfl)])
                    clear b0 b1 b2 b3 b4 b5_ b6 b7 b8 b9 f0 f4 f6 f7 f8 f9
                    obtain ⟨b0, b1, b2, b3, b4, b5_, b6, b7, b8, b9⟩ := FBI.out _ HJ.out
                    go_upto_region 31 with fail
                    clear b0 b1 b2 b3 b4 b5_ b6 b7 b8 b9
                    have BX := FBI.out _ HJ.out
                    have DA := Lib.hid (do_all (IH m' (by omega)) hE (HW12.out.still HJ.out) (HF12.out.still HJ.out) GXL.out HI.out HSL.out HG.out HM.out h43 (HA.out.inv.inc hlt) HA.out.finv (by have := HA.out.cost; simp only; omega) (by have := HA.out.gas; simp only; omega))
                    obtain ⟨b0, b1, b2, b3, b4, b5_, b6, b7, b8, b9⟩ := BX
                    go_wp2_with fail
                    refine DA.out.mono ?_
                    rintro e w' hpost
                    cases ho : insOut fns tops m' fr9 { stc with steps := stc.steps + 1 } x ⟨18, dst, a_, b_, n_, size, name, iar, iou, to⟩ with
                    | go st' x' =>
                      rw [ho] at hpost
                      obtain ⟨c', hc', rfl, own', hg', hat', hfr'⟩ := hpost
                      have h1 := insOut_inv HAG.out HG.out HM.out (HA.out.inv.inc hlt) HA.out.finv m' (loopF_inv HAG.out m')
                      rw [ho] at h1
                      have h2 := insOut_lk (fns := fns) (tops := tops) (fr := fr9) (st := { stc with steps := stc.steps + 1 }) (x := x) (i := ⟨18, dst, a_, b_, n_, size, name, iar, iou, to⟩) m' (loopF_lk m')
                      rw [ho] at h2
                      have h3 := HA.out.eq.trans (loopF_step hlt HGI.out h43)
                      rw [ho] at h3
                      have h22 : (18 : Int) ≠ 22 := by decide
                      have NX := Lib.hid (next_in (x := x) HG.out HA.out.at0.1 HGI.out h43 h22)
                      have BK := And.intro (CH12.out.trans (Chg.calm ownc HJ.out)) (hg'.keeps (HJ.out.keeps HB12.out) HA.out.free (show tg ≠ b5 from fun e => LPF.out.2.2.2.1 e.symm))
                      have ATN := Lib.hid (show AtLoop w0 w w' pw own fnv tops fns pf b5 tg (.slice pp g.params.length pcap) (.slice pk g.kinds.length kcap) (.slice ps g.slots.length scap) (.slice (some ac) g.code.length ccap) (.slice (some ⟨b5, 0, none⟩) g.kinds.length g.kinds.length) vl g fr9 st.top (callF fns tops n st g args) st' x' m' (nextF x ⟨18, dst, a_, b_, n_, size, name, iar, iou, to⟩ at_) own' c' from
                        ⟨NX.out, h3, by have := HA.out.gas; have h4 := h1.2.2.1; have h5 := h1.2.2.2; simp only at h4 h5; omega, h1.1, h1.2.1, hc', ((CH12.out.trans (Chg.calm ownc HJ.out)).transG hg' LPF.out.2.2.2.2.1), hat', hfr', BK.2.1, BK.2.2, fun h => Int.lt_of_lt_of_le (HA.out.lockin h) (by have h6 : stc.locks.length ≤ st'.locks.length := h2; omega)⟩)
                      have MS := Lib.hid (show w'.cell? ⟨pw, 12, none⟩ = some (.int .i64 st'.steps) ∧ wr.cell? ⟨pw, 12, none⟩ = some (.int .i64 stc.steps) ∧ stc.steps + 1 ≤ st'.steps ∧ stc.steps < stc.fuel ∧ stc.fuel ≤ 100000 from by
                        obtain ⟨_, _, _, _, _, _, _, _, Pn⟩ := hat'
                        obtain ⟨_, _, _, _, _, _, _, _, Po⟩ := HA.out.mach
                        have h5 := h1.2.2.2
                        simp only at h5
                        exact ⟨Pn.cells.1.2.2.2.2.2.2.2.2.2.2.2.2.1, Po.cells.1.2.2.2.2.2.2.2.2.2.2.2.2.1, h5, hlt, HA.out.inv.steps.2.2⟩)
                      clear hg' hat' hfr' h1 h2 h3 ho BK
                      go_wp2_with fail
                      go_roundw
                      case rel => exact ⟨_, st', x', m', own', c', (by rw [NF.out]), by omega, ATN.out⟩
                      case measure =>
                        obtain ⟨q1, q2, q3, q4, q5⟩ := MS.out
                        rw [stepsLeft_of q1, stepsLeft_of q2]
                        omega
                    | stop st' s code =>
                      rw [ho] at hpost
                      obtain ⟨c', rfl, own', hg', hat'⟩ := hpost
                      refine ⟨rfl, ?_⟩
                      have h3 := HA.out.eq.trans (loopF_step hlt HGI.out h43)
                      rw [ho] at h3
                      rw [h3]
                      exact ⟨rfl, own', c', (CH12.out.trans (Chg.calm ownc HJ.out)).transG hg' LPF.out.2.2.2.2.1, hat'⟩
                  · have e18 : (op == 18) = false := beq_false_of_ne h18
                    by_cases h19 : op = 19
                    · subst h19
                      have G19 := goodI_form (HG.out.ins _ HM.out).1 (m := { a := true, far := true }) (by rw [show (⟨19, dst, a_, b_, n_, size, name, iar, iou, to⟩ : FIns).op = 19 from rfl]; rfl)
                      have OKA := Lib.hid (regB_ok HA.out.finv.len G19.2.1)
                      have RFX := Lib.hid (reg_facts HF12.out)
                      obtain ⟨rxc, rxe⟩ := regs_slice HF12.out (by have h := OKA.out; unfold ok1 at h; omega)
                      have OKB := Lib.hid (show 0 ≤ a_ ∧ a_ < (x.length : Nat) from OKA.out)
                      have OKC := Lib.hid (show 0 ≤ a_ ∧ a_ < (g.kinds.length : Nat) from by rw [← HA.out.finv.len]; exact OKA.out)
                      clear G19 rxe
                      by_cases hz : rg x a_ = 0
                      · have ez : (rg x a_ != 0) = false := by rw [hz]; rfl
                        have HZ := Lib.hid hz
                        have EZ := Lib.hid ez
                        clear hz ez
                        go_upto_region 29 with fail
                        refine wp_region_each 14 planCl29b (fun _ _ => False) (Step (fun _ => False) w12) (fun _ => True) [Is ?v29_7_0, Is ?v29_7_1, Is ?v29_7_2, Is ?v29_7_3, Is ?v29_7_4, Is ?v29_7_5, Is ?v29_7_6, Is ?v29_7_7, Is ?v29_7_8, Is ?v29_7_9, Is ?v29_7_10, Is ?v29_7_11, Is ?v29_7_12, Is ?v29_7_13] [] (by kernel_rfl) (by kernel_rfl) (fun _ _ h => h.elim) ((Step.refl _ _).drew) (trivial) ?stab29_7 ?stabD29_7 ?obl29_7 ?fin29_7
                        case stab29_7 => exact fun w w' h => ⟨fun k => k.trans h (fun _ x => x.elim), fun _ => trivial, ⟨fun _ k => k, fun _ k => k, fun _ k => k, fun _ k => k, fun _ k => k, fun _ k => k, fun _ k => k, fun _ k => k, fun _ k => k, fun _ k => k, fun _ k => k, fun _ k => k, fun _ k => k, fun _ k => k, trivial⟩, trivial⟩
                        case stabD29_7 => exact fun _ _ h => h.elim
                        case obl29_7 =>
                          refine ⟨?o29_7_0, ?o29_7_1, ?o29_7_2, ?o29_7_3, ?o29_7_4, ?o29_7_5, ?o29_7_6, ?o29_7_7, ?o29_7_8, ?o29_7_9, ?o29_7_10, ?o29_7_11, ?o29_7_12, ?o29_7_13, trivial⟩
                          all_goals intro xv wq hH hS H hU aq ha Q' hQ
                          case o29_7_0 => cases rd0 ha; clear H hU hS; go_wp2_with fail; (try refine hQ _ _ ?_); refine ⟨Step.refl _ _, ?_, trivial, nofun⟩; exact (rfl : _ = _)
                          case o29_7_1 | o29_7_2 => obtain ⟨b0, b1, b2, b3, b4, b5_, b6, b7, b8, b9⟩ := FBI.out _ hH; obtain ⟨f0, f4, f6, f7, f8, f9⟩ := FF12.out _ hH; have ez := EZ.out; obtain ⟨cra, _⟩ := RFX.out _ hH a_ OKB.out; obtain ⟨ob1, ob2⟩ := OKC.out; have ha := rd1 ha H (by kernel_rfl) rfl; simp only [q3, q5, q6, q7] at ha; subst ha; clear H hU hS; go_wp2_with fail; (try refine hQ _ _ ?_); refine ⟨Step.refl _ _, ?_, trivial, nofun⟩; exact (rfl : _ = _)
                          case o29_7_3 => have ha := rd1 ha H (by kernel_rfl) rfl; simp only [q3, q5, q6, q7] at ha; subst ha; clear H hU hS; go_wp2_with fail; (try refine hQ _ _ ?_); refine ⟨Step.refl _ _, ?_, trivial, nofun⟩; exact (rfl : _ = _)
                          case o29_7_4 => obtain ⟨b0, b1, b2, b3, b4, b5_, b6, b7, b8, b9⟩ := FBI.out _ hH; obtain ⟨f0, f4, f6, f7, f8, f9⟩ := FF12.out _ hH; have ez := EZ.out; obtain ⟨cra, _⟩ := RFX.out _ hH a_ OKB.out; obtain ⟨ob1, ob2⟩ := OKC.out; have ha := rd1 ha H (by kernel_rfl) rfl; simp only [q3, q5, q6, q7] at ha; subst ha; clear H hU hS; go_wp2_with fail; (try refine hQ _ _ ?_); refine ⟨Step.refl _ _, ?_, trivial, nofun⟩; exact (rfl : _ = _)
                          case o29_7_5 | o29_7_6 | o29_7_7 => obtain ⟨b0, b1, b2, b3, b4, b5_, b6, b7, b8, b9⟩ := FBI.out _ hH; obtain ⟨f0, f4, f6, f7, f8, f9⟩ := FF12.out _ hH; have ez := EZ.out; obtain ⟨cra, _⟩ := RFX.out _ hH a_ OKB.out; obtain ⟨ob1, ob2⟩ := OKC.out; have ha := rd2 ha H (by kernel_rfl) (by kernel_rfl) rfl rfl; simp only [q3, q5, q6, q7] at ha; subst ha; clear H hU hS; go_wp2_with fail; (try refine hQ _ _ ?_); refine ⟨Step.refl _ _, ?_, trivial, nofun⟩; exact (rfl : _ = _)
                          case o29_7_8 => obtain ⟨b0, b1, b2, b3, b4, b5_, b6, b7, b8, b9⟩ := FBI.out _ hH; obtain ⟨f0, f4, f6, f7, f8, f9⟩ := FF12.out _ hH; have ez := EZ.out; obtain ⟨cra, _⟩ := RFX.out _ hH a_ OKB.out; obtain ⟨ob1, ob2⟩ := OKC.out; have ha := rd1 ha H (by kernel_rfl) rfl; simp only [q3, q5, q6, q7] at ha; subst ha; clear H hU hS; go_wp2_with fail; (try refine hQ _ _ ?_); refine ⟨Step.refl _ _, ?_, trivial, nofun⟩; exact (rfl : _ = _)
                          case o29_7_9 | o29_7_10 | o29_7_11 => obtain ⟨b0, b1, b2, b3, b4, b5_, b6, b7, b8, b9⟩ := FBI.out _ hH; obtain ⟨f0, f4, f6, f7, f8, f9⟩ := FF12.out _ hH; have ez := EZ.out; obtain ⟨cra, _⟩ := RFX.out _ hH a_ OKB.out; obtain ⟨ob1, ob2⟩ := OKC.out; have ha := rd2 ha H (by kernel_rfl) (by kernel_rfl) rfl rfl; simp only [q3, q5, q6, q7] at ha; subst ha; clear H hU hS; go_wp2_with fail; (try refine hQ _ _ ?_); refine ⟨Step.refl _ _, ?_, trivial, nofun⟩; exact (rfl : _ = _)
                          case o29_7_12 => obtain ⟨b0, b1, b2, b3, b4, b5_, b6, b7, b8, b9⟩ := FBI.out _ hH; obtain ⟨f0, f4, f6, f7, f8, f9⟩ := FF12.out _ hH; have ez := EZ.out; obtain ⟨cra, _⟩ := RFX.out _ hH a_ OKB.out; obtain ⟨ob1, ob2⟩ := OKC.out; have ha := rd1 ha H (by kernel_rfl) rfl; simp only [q3, q5, q6, q7] at ha; subst ha; clear H hU hS; go_wp2_with fail; (try refine hQ _ _ ?_); refine ⟨Step.refl _ _, ?_, trivial, nofun⟩; exact (rfl : _ = _)
                          case o29_7_13 => obtain ⟨b0, b1, b2, b3, b4, b5_, b6, b7, b8, b9⟩ := FBI.out _ hH; obtain ⟨f0, f4, f6, f7, f8, f9⟩ := FF12.out _ hH; have ez := EZ.out; obtain ⟨cra, _⟩ := RFX.out _ hH a_ OKB.out; obtain ⟨ob1, ob2⟩ := OKC.out; have ha := rd2 ha H (by kernel_rfl) (by kernel_rfl) rfl rfl; simp only [q3, q5, q6, q7] at ha; subst ha; clear H hU hS; go_wp2_with fail; (try refine hQ _ _ ?_); refine ⟨Step.refl _ _, ?_, trivial, nofun⟩; exact (rfl : _ = _)
                        intro xv w13 hH hS H hU hsz hF hN
                        have h0 : xv 0 = _ := H 0 (by decide) (by kernel_rfl); have h1 : xv 1 = _ := H 1 (by decide) (by kernel_rfl); have h2 : xv 2 = _ := H 2 (by decide) (by kernel_rfl); have h3 : xv 3 = _ := H 3 (by decide) (by kernel_rfl); have h4 : xv 4 = _ := H 4 (by decide) (by kernel_rfl); have h5 : xv 5 = _ := H 5 (by decide) (by kernel_rfl); have h6 : xv 6 = _ := H 6 (by decide) (by kernel_rfl); have h7 : xv 7 = _ := H 7 (by decide) (by kernel_rfl); have h8 : xv 8 = _ := H 8 (by decide) (by kernel_rfl); have h9 : xv 9 = _ := H 9 (by decide) (by kernel_rfl); have h10 : xv 10 = _ := H 10 (by decide) (by kernel_rfl); have h11 : xv 11 = _ := H 11 (by decide) (by kernel_rfl); have h12 : xv 12 = _ := H 12 (by decide) (by kernel_rfl); have h13 : xv 13 = _ := H 13 (by decide) (by kernel_rfl)
                        simp only [planCl29b, q1, q2, q3, q5, q6, q7, q4, List.drop_succ_cons, List.drop_zero, h0, h1, h2, h3, h4, h5, h6, h7, h8, h9, h10, h11, h12, h13]
                        clear H hF hN hS hU h0 h1 h2 h3 h4 h5 h6 h7 h8 h9 h10 h11 h12 h13
                        have HJ := Lib.hid hH
                        clear hH
                        have NF := Lib.hid (show nextF x ⟨19, dst, a_, b_, n_, size, name, iar, iou, to⟩ at_ = at_ + 1 from by unfold nextF; rw [if_neg (by intro h; rcases h with h | ⟨_, h⟩; exact h18 h; exact h HZ.out)])
                        clear b0 b1 b2 b3 b4 b5_ b6 b7 b8 b9 f0 f4 f6 f7 f8 f9
                        obtain ⟨b0, b1, b2, b3, b4, b5_, b6, b7, b8, b9⟩ := FBI.out _ HJ.out
                        have ez := EZ.out
                        obtain ⟨cra, _⟩ := RFX.out _ HJ.out a_ OKB.out
                        obtain ⟨ob1, ob2⟩ := OKC.out
                        go_upto_region 31 with fail
                        clear ez cra ob1 ob2
                        clear b0 b1 b2 b3 b4 b5_ b6 b7 b8 b9
                        have BX := FBI.out _ HJ.out
                        have DA := Lib.hid (do_all (IH m' (by omega)) hE (HW12.out.still HJ.out) (HF12.out.still HJ.out) GXL.out HI.out HSL.out HG.out HM.out h43 (HA.out.inv.inc hlt) HA.out.finv (by have := HA.out.cost; simp only; omega) (by have := HA.out.gas; simp only; omega))
                        obtain ⟨b0, b1, b2, b3, b4, b5_, b6, b7, b8, b9⟩ := BX
                        go_wp2_with fail
                        refine DA.out.mono ?_
                        rintro e w' hpost
                        cases ho : insOut fns tops m' fr9 { stc with steps := stc.steps + 1 } x ⟨19, dst, a_, b_, n_, size, name, iar, iou, to⟩ with
                        | go st' x' =>
                          rw [ho] at hpost
                          obtain ⟨c', hc', rfl, own', hg', hat', hfr'⟩ := hpost
                          have h1 := insOut_inv HAG.out HG.out HM.out (HA.out.inv.inc hlt) HA.out.finv m' (loopF_inv HAG.out m')
                          rw [ho] at h1
                          have h2 := insOut_lk (fns := fns) (tops := tops) (fr := fr9) (st := { stc with steps := stc.steps + 1 }) (x := x) (i := ⟨19, dst, a_, b_, n_, size, name, iar, iou, to⟩) m' (loopF_lk m')
                          rw [ho] at h2
                          have h3 := HA.out.eq.trans (loopF_step hlt HGI.out h43)
                          rw [ho] at h3
                          have h22 : (19 : Int) ≠ 22 := by decide
                          have NX := Lib.hid (next_in (x := x) HG.out HA.out.at0.1 HGI.out h43 h22)
                          have BK := And.intro (CH12.out.trans (Chg.calm ownc HJ.out)) (hg'.keeps (HJ.out.keeps HB12.out) HA.out.free (show tg ≠ b5 from fun e => LPF.out.2.2.2.1 e.symm))
                          have ATN := Lib.hid (show AtLoop w0 w w' pw own fnv tops fns pf b5 tg (.slice pp g.params.length pcap) (.slice pk g.kinds.length kcap) (.slice ps g.slots.length scap) (.slice (some ac) g.code.length ccap) (.slice (some ⟨b5, 0, none⟩) g.kinds.length g.kinds.length) vl g fr9 st.top (callF fns tops n st g args) st' x' m' (nextF x ⟨19, dst, a_, b_, n_, size, name, iar, iou, to⟩ at_) own' c' from
                            ⟨NX.out, h3, by have := HA.out.gas; have h4 := h1.2.2.1; have h5 := h1.2.2.2; simp only at h4 h5; omega, h1.1, h1.2.1, hc', ((CH12.out.trans (Chg.calm ownc HJ.out)).transG hg' LPF.out.2.2.2.2.1), hat', hfr', BK.2.1, BK.2.2, fun h => Int.lt_of_lt_of_le (HA.out.lockin h) (by have h6 : stc.locks.length ≤ st'.locks.length := h2; omega)⟩)
                          have MS := Lib.hid (show w'.cell? ⟨pw, 12, none⟩ = some (.int .i64 st'.steps) ∧ wr.cell? ⟨pw, 12, none⟩ = some (.int .i64 stc.steps) ∧ stc.steps + 1 ≤ st'.steps ∧ stc.steps < stc.fuel ∧ stc.fuel ≤ 100000 from by
                            obtain ⟨_, _, _, _, _, _, _, _, Pn⟩ := hat'
                            obtain ⟨_, _, _, _, _, _, _, _, Po⟩ := HA.out.mach
                            have h5 := h1.2.2.2
                            simp only at h5
                            exact ⟨Pn.cells.1.2.2.2.2.2.2.2.2.2.2.2.2.1, Po.cells.1.2.2.2.2.2.2.2.2.2.2.2.2.1, h5, hlt, HA.out.inv.steps.2.2⟩)
                          clear hg' hat' hfr' h1 h2 h3 ho BK
                          go_wp2_with fail
                          go_roundw
                          case rel => exact ⟨_, st', x', m', own', c', (by rw [NF.out]), by omega, ATN.out⟩
                          case measure =>
                            obtain ⟨q1, q2, q3, q4, q5⟩ := MS.out
                            rw [stepsLeft_of q1, stepsLeft_of q2]
                            omega
                        | stop st' s code =>
                          rw [ho] at hpost
                          obtain ⟨c', rfl, own', hg', hat'⟩ := hpost
                          refine ⟨rfl, ?_⟩
                          have h3 := HA.out.eq.trans (loopF_step hlt HGI.out h43)
                          rw [ho] at h3
                          rw [h3]
                          exact ⟨rfl, own', c', (CH12.out.trans (Chg.calm ownc HJ.out)).transG hg' LPF.out.2.2.2.2.1, hat'⟩
                      · have ez : (rg x a_ != 0) = true := by simpa using hz
                        have HZ := Lib.hid hz
                        have EZ := Lib.hid ez
                        clear hz ez
                        go_upto_region 29 with fail
                        refine wp_region_each 14 planCl29c (fun _ _ => False) (Step (fun _ => False) w12) (fun _ => True) [Is ?v29_8_0, Is ?v29_8_1, Is ?v29_8_2, Is ?v29_8_3, Is ?v29_8_4, Is ?v29_8_5, Is ?v29_8_6, Is ?v29_8_7, Is ?v29_8_8, Is ?v29_8_9, Is ?v29_8_10, Is ?v29_8_11, Is ?v29_8_12, Is ?v29_8_13] [] (by kernel_rfl) (by kernel_rfl) (fun _ _ h => h.elim) ((Step.refl _ _).drew) (trivial) ?stab29_8 ?stabD29_8 ?obl29_8 ?fin29_8
                        case stab29_8 => exact fun w w' h => ⟨fun k => k.trans h (fun _ x => x.elim), fun _ => trivial, ⟨fun _ k => k, fun _ k => k, fun _ k => k, fun _ k => k, fun _ k => k, fun _ k => k, fun _ k => k, fun _ k => k, fun _ k => k, fun _ k => k, fun _ k => k, fun _ k => k, fun _ k => k, fun _ k => k, trivial⟩, trivial⟩
                        case stabD29_8 => exact fun _ _ h => h.elim
                        case obl29_8 =>
                          refine ⟨?o29_8_0, ?o29_8_1, ?o29_8_2, ?o29_8_3, ?o29_8_4, ?o29_8_5, ?o29_8_6, ?o29_8_7, ?o29_8_8, ?o29_8_9, ?o29_8_10, ?o29_8_11, ?o29_8_12, ?o29_8_13, trivial⟩
                          all_goals intro xv wq hH hS H hU aq ha Q' hQ
                          case o29_8_0 => cases rd0 ha; clear H hU hS; go_wp2_with fail; (try refine hQ _ _ ?_); refine ⟨Step.refl _ _, ?_, trivial, nofun⟩; exact (rfl : _ = _)
                          case o29_8_1 | o29_8_2 => obtain ⟨b0, b1, b2, b3, b4, b5_, b6, b7, b8, b9⟩ := FBI.out _ hH; obtain ⟨f0, f4, f6, f7, f8, f9⟩ := FF12.out _ hH; have ez := EZ.out; obtain ⟨cra, _⟩ := RFX.out _ hH a_ OKB.out; obtain ⟨ob1, ob2⟩ := OKC.out; have ha := rd1 ha H (by kernel_rfl) rfl; simp only [q3, q5, q6, q7] at ha; subst ha; clear H hU hS; go_wp2_with fail; (try refine hQ _ _ ?_); refine ⟨Step.refl _ _, ?_, trivial, nofun⟩; exact (rfl : _ = _)
                          case o29_8_3 => have ha := rd1 ha H (by kernel_rfl) rfl; simp only [q3, q5, q6, q7] at ha; subst ha; clear H hU hS; go_wp2_with fail; (try refine hQ _ _ ?_); refine ⟨Step.refl _ _, ?_, trivial, nofun⟩; exact (rfl : _ = _)
                          case o29_8_4 => obtain ⟨b0, b1, b2, b3, b4, b5_, b6, b7, b8, b9⟩ := FBI.out _ hH; obtain ⟨f0, f4, f6, f7, f8, f9⟩ := FF12.out _ hH; have ez := EZ.out; obtain ⟨cra, _⟩ := RFX.out _ hH a_ OKB.out; obtain ⟨ob1, ob2⟩ := OKC.out; have ha := rd1 ha H (by kernel_rfl) rfl; simp only [q3, q5, q6, q7] at ha; subst ha; clear H hU hS; go_wp2_with fail; (try refine hQ _ _ ?_); refine ⟨Step.refl _ _, ?_, trivial, nofun⟩; exact (rfl : _ = _)
                          case o29_8_5 | o29_8_6 | o29_8_7 => obtain ⟨b0, b1, b2, b3, b4, b5_, b6, b7, b8, b9⟩ := FBI.out _ hH; obtain ⟨f0, f4, f6, f7, f8, f9⟩ := FF12.out _ hH; have ez := EZ.out; obtain ⟨cra, _⟩ := RFX.out _ hH a_ OKB.out; obtain ⟨ob1, ob2⟩ := OKC.out; have ha := rd2 ha H (by kernel_rfl) (by kernel_rfl) rfl rfl; simp only [q3, q5, q6, q7] at ha; subst ha; clear H hU hS; go_wp2_with fail; (try refine hQ _ _ ?_); refine ⟨Step.refl _ _, ?_, trivial, nofun⟩; exact (rfl : _ = _)
                          case o29_8_8 => obtain ⟨b0, b1, b2, b3, b4, b5_, b6, b7, b8, b9⟩ := FBI.out _ hH; obtain ⟨f0, f4, f6, f7, f8, f9⟩ := FF12.out _ hH; have ez := EZ.out; obtain ⟨cra, _⟩ := RFX.out _ hH a_ OKB.out; obtain ⟨ob1, ob2⟩ := OKC.out; have ha := rd1 ha H (by kernel_rfl) rfl; simp only [q3, q5, q6, q7] at ha; subst ha; clear H hU hS; go_wp2_with fail; (try refine hQ _ _ ?_); refine ⟨Step.refl _ _, ?_, trivial, nofun⟩; exact (rfl : _ = _)
                          case o29_8_9 | o29_8_10 | o29_8_11 => obtain ⟨b0, b1, b2, b3, b4, b5_, b6, b7, b8, b9⟩ := FBI.out _ hH; obtain ⟨f0, f4, f6, f7, f8, f9⟩ := FF12.out _ hH; have ez := EZ.out; obtain ⟨cra, _⟩ := RFX.out _ hH a_ OKB.out; obtain ⟨ob1, ob2⟩ := OKC.out; have ha := rd2 ha H (by kernel_rfl) (by kernel_rfl) rfl rfl; simp only [q3, q5, q6, q7] at ha; subst ha; clear H hU hS; go_wp2_with fail; (try refine hQ _ _ ?_); refine ⟨Step.refl _ _, ?_, trivial, nofun⟩; exact (rfl : _ = _)
                          case o29_8_12 => obtain ⟨b0, b1, b2, b3, b4, b5_, b6, b7, b8, b9⟩ := FBI.out _ hH; obtain ⟨f0, f4, f6, f7, f8, f9⟩ := FF12.out _ hH; have ez := EZ.out; obtain ⟨cra, _⟩ := RFX.out _ hH a_ OKB.out; obtain ⟨ob1, ob2⟩ := OKC.out; have ha := rd1 ha H (by kernel_rfl) rfl; simp only [q3, q5, q6, q7] at ha; subst ha; clear H hU hS; go_wp2_with fail; (try refine hQ _ _ ?_); refine ⟨Step.refl _ _, ?_, trivial, nofun⟩; exact (rfl : _ = _)
                          case o29_8_13 => obtain ⟨b0, b1, b2, b3, b4, b5_, b6, b7, b8, b9⟩ := FBI.out _ hH; obtain ⟨f0, f4, f6, f7, f8, f9⟩ := FF12.out _ hH; have ez := EZ.out; obtain ⟨cra, _⟩ := RFX.out _ hH a_ OKB.out; obtain ⟨ob1, ob2⟩ := OKC.out; have ha := rd2 ha H (by kernel_rfl) (by kernel_rfl) rfl rfl; simp only [q3, q5, q6, q7] at ha; subst ha; clear H hU hS; go_wp2_with fail; (try refine hQ _ _ ?_); refine ⟨Step.refl _ _, ?_, trivial, nofun⟩; exact (rfl : _ = _)
                        intro xv w13 hH hS H hU hsz hF hN
                        have h0 : xv 0 = _ := H 0 (by decide) (by kernel_rfl); have h1 : xv 1 = _ := H 1 (by decide) (by kernel_rfl); have h2 : xv 2 = _ := H 2 (by decide) (by kernel_rfl); have h3 : xv 3 = _ := H 3 (by decide) (by kernel_rfl); have h4 : xv 4 = _ := H 4 (by decide) (by kernel_rfl); have h5 : xv 5 = _ := H 5 (by decide) (by kernel_rfl); have h6 : xv 6 = _ := H 6 (by decide) (by kernel_rfl); have h7 : xv 7 = _ := H 7 (by decide) (by kernel_rfl); have h8 : xv 8 = _ := H 8 (by decide) (by kernel_rfl); have h9 : xv 9 = _ := H 9 (by decide) (by kernel_rfl); have h10 : xv 10 = _ := H 10 (by decide) (by kernel_rfl); have h11 : xv 11 = _ := H 11 (by decide) (by kernel_rfl); have h12 : xv 12 = _ := H 12 (by decide) (by kernel_rfl); have h13 : xv 13 = _ := H 13 (by decide) (by kernel_rfl)
                        simp only [planCl29c, q1, q2, q3, q5, q6, q7, q4, List.drop_succ_cons, List.drop_zero, h0, h1, h2, h3, h4, h5, h6, h7, h8, h9, h10, h11, h12, h13]
                        clear H hF hN hS hU h0 h1 h2 h3 h4 h5 h6 h7 h8 h9 h10 h11 h12 h13
                        have HJ := Lib.hid hH
                        clear hH
                        have NF := Lib.hid (show nextF x ⟨19, dst, a_, b_, n_, size, name, iar, iou, to⟩ at_ = to from by unfold nextF; rw [if_pos (.inr ⟨rfl, HZ.out⟩)])
                        clear b0 b1 b2 b3 b4 b5_ b6 b7 b8 b9 f0 f4 f6 f7 f8 f9
                        obtain ⟨b0, b1, b2, b3, b4, b5_, b6, b7, b8, b9⟩ := FBI.out _ HJ.out
                        have ez := EZ.out
                        obtain ⟨cra, _⟩ := RFX.out _ HJ.out a_ OKB.out
                        obtain ⟨ob1, ob2⟩ := OKC.out
                        go_upto_region 31 with fail
                        clear ez cra ob1 ob2
                        clear b0 b1 b2 b3 b4 b5_ b6 b7 b8 b9
                        have BX := FBI.out _ HJ.out
                        have DA := Lib.hid (do_all (IH m' (by omega)) hE (HW12.out.still HJ.out) (HF12.out.still HJ.out) GXL.out HI.out HSL.out HG.out HM.out h43 (HA.out.inv.inc hlt) HA.out.finv (by have := HA.out.cost; simp only; omega) (by have := HA.out.gas; simp only; omega))
                        obtain ⟨b0, b1, b2, b3, b4, b5_, b6, b7, b8, b9⟩ := BX
                        go_wp2_with fail
                        refine DA.out.mono ?_
                        rintro e w' hpost
                        cases ho : insOut fns tops m' fr9 { stc with steps := stc.steps + 1 } x ⟨19, dst, a_, b_, n_, size, name, iar, iou, to⟩ with
                        | go st' x' =>
                          rw [ho] at hpost
                          obtain ⟨c', hc', rfl, own', hg', hat', hfr'⟩ := hpost
                          have h1 := insOut_inv HAG.out HG.out HM.out (HA.out.inv.inc hlt) HA.out.finv m' (loopF_inv HAG.out m')
                          rw [ho] at h1
                          have h2 := insOut_lk (fns := fns) (tops := tops) (fr := fr9) (st := { stc with steps := stc.steps + 1 }) (x := x) (i := ⟨19, dst, a_, b_, n_, size, name, iar, iou, to⟩) m' (loopF_lk m')
                          rw [ho] at h2
                          have h3 := HA.out.eq.trans (loopF_step hlt HGI.out h43)
                          rw [ho] at h3
                          have h22 : (19 : Int) ≠ 22 := by decide
                          have NX := Lib.hid (next_in (x := x) HG.out HA.out.at0.1 HGI.out h43 h22)
                          have BK := And.intro (CH12.out.trans (Chg.calm ownc HJ.out)) (hg'.keeps (HJ.out.keeps HB12.out) HA.out.free (show tg ≠ b5 from fun e => LPF.out.2.2.2.1 e.symm))
                          have ATN := Lib.hid (show AtLoop w0 w w' pw own fnv tops fns pf b5 tg (.slice pp g.params.length pcap) (.slice pk g.kinds.length kcap) (.slice ps g.slots.length scap) (.slice (some ac) g.code.length ccap) (.slice (some ⟨b5, 0, none⟩) g.kinds.length g.kinds.length) vl g fr9 st.top (callF fns tops n st g args) st' x' m' (nextF x ⟨19, dst, a_, b_, n_, size, name, iar, iou, to⟩ at_) own' c' from
                            ⟨NX.out, h3, by have := HA.out.gas; have h4 := h1.2.2.1; have h5 := h1.2.2.2; simp only at h4 h5; omega, h1.1, h1.2.1, hc', ((CH12.out.trans (Chg.calm ownc HJ.out)).transG hg' LPF.out.2.2.2.2.1), hat', hfr', BK.2.1, BK.2.2, fun h => Int.lt_of_lt_of_le (HA.out.lockin h) (by have h6 : stc.locks.length ≤ st'.locks.length := h2; omega)⟩)
                          have MS := Lib.hid (show w'.cell? ⟨pw, 12, none⟩ = some (.int .i64 st'.steps) ∧ wr.cell? ⟨pw, 12, none⟩ = some (.int .i64 stc.steps) ∧ stc.steps + 1 ≤ st'.steps ∧ stc.steps < stc.fuel ∧ stc.fuel ≤ 100000 from by
                            obtain ⟨_, _, _, _, _, _, _, _, Pn⟩ := hat'
                            obtain ⟨_, _, _, _, _, _, _, _, Po⟩ := HA.out.mach
                            have h5 := h1.2.2.2
                            simp only at h5
                            exact ⟨Pn.cells.1.2.2.2.2.2.2.2.2.2.2.2.2.1, Po.cells.1.2.2.2.2.2.2.2.2.2.2.2.2.1, h5, hlt, HA.out.inv.steps.2.2⟩)
                          clear hg' hat' hfr' h1 h2 h3 ho BK
                          go_wp2_with fail
                          go_roundw
                          case rel => exact ⟨_, st', x', m', own', c', (by rw [NF.out]), by omega, ATN.out⟩
                          case measure =>
                            obtain ⟨q1, q2, q3, q4, q5⟩ := MS.out
                            rw [stepsLeft_of q1, stepsLeft_of q2]
                            omega
                        | stop st' s code =>
                          rw [ho] at hpost
                          obtain ⟨c', rfl, own', hg', hat'⟩ := hpost
                          refine ⟨rfl, ?_⟩
                          have h3 := HA.out.eq.trans (loopF_step hlt HGI.out h43)
                          rw [ho] at h3
                          rw [h3]
                          exact ⟨rfl, own', c', (CH12.out.trans (Chg.calm ownc HJ.out)).transG hg' LPF.out.2.2.2.2.1, hat'⟩
                    · have e19 : (op == 19) = false := beq_false_of_ne h19
                      go_upto_region 29 with fail
                      refine wp_region_each 14 planCl29d (fun _ _ => False) (Step (fun _ => False) w12) (fun _ => True) [Is ?v29_9_0, Is ?v29_9_1, Is ?v29_9_2, Is ?v29_9_3, Is ?v29_9_4, Is ?v29_9_5, Is ?v29_9_6, Is ?v29_9_7, Is ?v29_9_8, Is ?v29_9_9, Is ?v29_9_10, Is ?v29_9_11, Is ?v29_9_12, Is ?v29_9_13] [] (by kernel_rfl) (by kernel_rfl) (fun _ _ h => h.elim) ((Step.refl _ _).drew) (trivial) ?stab29_9 ?stabD29_9 ?obl29_9 ?fin29_9
                      case stab29_9 => exact fun w w' h => ⟨fun k => k.trans h (fun _ x => x.elim), fun _ => trivial, ⟨fun _ k => k, fun _ k => k, fun _ k => k, fun _ k => k, fun _ k => k, fun _ k => k, fun _ k => k, fun _ k => k, fun _ k => k, fun _ k => k, fun _ k => k, fun _ k => k, fun _ k => k, fun _ k => k, trivial⟩, trivial⟩
                      case stabD29_9 => exact fun _ _ h => h.elim
                      case obl29_9 =>
                        refine ⟨?o29_9_0, ?o29_9_1, ?o29_9_2, ?o29_9_3, ?o29_9_4, ?o29_9_5, ?o29_9_6, ?o29_9_7, ?o29_9_8, ?o29_9_9, ?o29_9_10, ?o29_9_11, ?o29_9_12, ?o29_9_13, trivial⟩
                        all_goals intro xv wq hH hS H hU aq ha Q' hQ
                        case o29_9_0 => cases rd0 ha; clear H hU hS; go_wp2_with fail; (try refine hQ _ _ ?_); refine ⟨Step.refl _ _, ?_, trivial, nofun⟩; exact (rfl : _ = _)
                        case o29_9_1 | o29_9_2 => obtain ⟨b0, b1, b2, b3, b4, b5_, b6, b7, b8, b9⟩ := FBI.out _ hH; obtain ⟨f0, f4, f6, f7, f8, f9⟩ := FF12.out _ hH; have ha := rd1 ha H (by kernel_rfl) rfl; simp only [q3, q5, q6, q7] at ha; subst ha; clear H hU hS; go_wp2_with fail; (try refine hQ _ _ ?_); refine ⟨Step.refl _ _, ?_, trivial, nofun⟩; exact (rfl : _ = _)
                        case o29_9_3 => have ha := rd1 ha H (by kernel_rfl) rfl; simp only [q3, q5, q6, q7] at ha; subst ha; clear H hU hS; go_wp2_with fail; (try refine hQ _ _ ?_); refine ⟨Step.refl _ _, ?_, trivial, nofun⟩; exact (rfl : _ = _)
                        case o29_9_4 => obtain ⟨b0, b1, b2, b3, b4, b5_, b6, b7, b8, b9⟩ := FBI.out _ hH; obtain ⟨f0, f4, f6, f7, f8, f9⟩ := FF12.out _ hH; have ha := rd1 ha H (by kernel_rfl) rfl; simp only [q3, q5, q6, q7] at ha; subst ha; clear H hU hS; go_wp2_with fail; (try refine hQ _ _ ?_); refine ⟨Step.refl _ _, ?_, trivial, nofun⟩; exact (rfl : _ = _)
                        case o29_9_5 | o29_9_6 | o29_9_7 => obtain ⟨b0, b1, b2, b3, b4, b5_, b6, b7, b8, b9⟩ := FBI.out _ hH; obtain ⟨f0, f4, f6, f7, f8, f9⟩ := FF12.out _ hH; have ha := rd2 ha H (by kernel_rfl) (by kernel_rfl) rfl rfl; simp only [q3, q5, q6, q7] at ha; subst ha; clear H hU hS; go_wp2_with fail; (try refine hQ _ _ ?_); refine ⟨Step.refl _ _, ?_, trivial, nofun⟩; exact (rfl : _ = _)
                        case o29_9_8 => obtain ⟨b0, b1, b2, b3, b4, b5_, b6, b7, b8, b9⟩ := FBI.out _ hH; obtain ⟨f0, f4, f6, f7, f8, f9⟩ := FF12.out _ hH; have ha := rd1 ha H (by kernel_rfl) rfl; simp only [q3, q5, q6, q7] at ha; subst ha; clear H hU hS; go_wp2_with fail; (try refine hQ _ _ ?_); refine ⟨Step.refl _ _, ?_, trivial, nofun⟩; exact (rfl : _ = _)
                        case o29_9_9 | o29_9_10 | o29_9_11 => obtain ⟨b0, b1, b2, b3, b4, b5_, b6, b7, b8, b9⟩ := FBI.out _ hH; obtain ⟨f0, f4, f6, f7, f8, f9⟩ := FF12.out _ hH; have ha := rd2 ha H (by kernel_rfl) (by kernel_rfl) rfl rfl; simp only [q3, q5, q6, q7] at ha; subst ha; clear H hU hS; go_wp2_with fail; (try refine hQ _ _ ?_); refine ⟨Step.refl _ _, ?_, trivial, nofun⟩; exact (rfl : _ = _)
                        case o29_9_12 => obtain ⟨b0, b1, b2, b3, b4, b5_, b6, b7, b8, b9⟩ := FBI.out _ hH; obtain ⟨f0, f4, f6, f7, f8, f9⟩ := FF12.out _ hH; have ha := rd1 ha H (by kernel_rfl) rfl; simp only [q3, q5, q6, q7] at ha; subst ha; clear H hU hS; go_wp2_with fail; (try refine hQ _ _ ?_); refine ⟨Step.refl _ _, ?_, trivial, nofun⟩; exact (rfl : _ = _)
                        case o29_9_13 => obtain ⟨b0, b1, b2, b3, b4, b5_, b6, b7, b8, b9⟩ := FBI.out _ hH; obtain ⟨f0, f4, f6, f7, f8, f9⟩ := FF12.out _ hH; have ha := rd2 ha H (by kernel_rfl) (by kernel_rfl) rfl rfl; simp only [q3, q5, q6, q7] at ha; subst ha; clear H hU hS; go_wp2_with fail; (try refine hQ _ _ ?_); refine ⟨Step.refl _ _, ?_, trivial, nofun⟩; exact (rfl : _ = _)
                      intro xv w13 hH hS H hU hsz hF hN
                      have h0 : xv 0 = _ := H 0 (by decide) (by kernel_rfl); have h1 : xv 1 = _ := H 1 (by decide) (by kernel_rfl); have h2 : xv 2 = _ := H 2 (by decide) (by kernel_rfl); have h3 : xv 3 = _ := H 3 (by decide) (by kernel_rfl); have h4 : xv 4 = _ := H 4 (by decide) (by kernel_rfl); have h5 : xv 5 = _ := H 5 (by decide) (by kernel_rfl); have h6 : xv 6 = _ := H 6 (by decide) (by kernel_rfl); have h7 : xv 7 = _ := H 7 (by decide) (by kernel_rfl); have h8 : xv 8 = _ := H 8 (by decide) (by kernel_rfl); have h9 : xv 9 = _ := H 9 (by decide) (by kernel_rfl); have h10 : xv 10 = _ := H 10 (by decide) (by kernel_rfl); have h11 : xv 11 = _ := H 11 (by decide) (by kernel_rfl); have h12 : xv 12 = _ := H 12 (by decide) (by kernel_rfl); have h13 : xv 13 = _ := H 13 (by decide) (by kernel_rfl)
                      simp only [planCl29d, q1, q2, q3, q5, q6, q7, q4, List.drop_succ_cons, List.drop_zero, h0, h1, h2, h3, h4, h5, h6, h7, h8, h9, h10, h11, h12, h13]
                      clear H hF hN hS hU h0 h1 h2 h3 h4 h5 h6 h7 h8 h9 h10 h11 h12 h13
                      have HJ := Lib.hid hH
                      clear hH
                      have NF := Lib.hid (show nextF x ⟨op, dst, a_, b_, n_, size, name, iar, iou, to⟩ at_ = at_ + 1 from by unfold nextF; rw [if_neg (by intro h; rcases h with h | ⟨h, _⟩; exact h18 h; exact h19 h)])
                      clear b0 b1 b2 b3 b4 b5_ b6 b7 b8 b9 f0 f4 f6 f7 f8 f9
                      obtain ⟨b0, b1, b2, b3, b4, b5_, b6, b7, b8, b9⟩ := FBI.out _ HJ.out
                      go_upto_region 31 with fail
                      clear b0 b1 b2 b3 b4 b5_ b6 b7 b8 b9
                      have BX := FBI.out _ HJ.out
                      have DA := Lib.hid (do_all (IH m' (by omega)) hE (HW12.out.still HJ.out) (HF12.out.still HJ.out) GXL.out HI.out HSL.out HG.out HM.out h43 (HA.out.inv.inc hlt) HA.out.finv (by have := HA.out.cost; simp only; omega) (by have := HA.out.gas; simp only; omega))
                      obtain ⟨b0, b1, b2, b3, b4, b5_, b6, b7, b8, b9⟩ := BX
                      go_wp2_with fail
                      refine DA.out.mono ?_
                      rintro e w' hpost
                      cases ho : insOut fns tops m' fr9 { stc with steps := stc.steps + 1 } x ⟨op, dst, a_, b_, n_, size, name, iar, iou, to⟩ with
                      | go st' x' =>
                        rw [ho] at hpost
                        obtain ⟨c', hc', rfl, own', hg', hat', hfr'⟩ := hpost
                        have h1 := insOut_inv HAG.out HG.out HM.out (HA.out.inv.inc hlt) HA.out.finv m' (loopF_inv HAG.out m')
                        rw [ho] at h1
                        have h2 := insOut_lk (fns := fns) (tops := tops) (fr := fr9) (st := { stc with steps := stc.steps + 1 }) (x := x) (i := ⟨op, dst, a_, b_, n_, size, name, iar, iou, to⟩) m' (loopF_lk m')
                        rw [ho] at h2
                        have h3 := HA.out.eq.trans (loopF_step hlt HGI.out h43)
                        rw [ho] at h3
                        have h22 : op ≠ 22 := fun e => by
                          subst e
                          unfold insOut at ho
                          rw [if_neg (show ¬ (22 : Int) = 42 by decide), instr1_22 rfl] at ho
                          cases ho
                        have NX := Lib.hid (next_in (x := x) HG.out HA.out.at0.1 HGI.out h43 h22)
                        have BK := And.intro (CH12.out.trans (Chg.calm ownc HJ.out)) (hg'.keeps (HJ.out.keeps HB12.out) HA.out.free (show tg ≠ b5 from fun e => LPF.out.2.2.2.1 e.symm))
                        have ATN := Lib.hid (show AtLoop w0 w w' pw own fnv tops fns pf b5 tg (.slice pp g.params.length pcap) (.slice pk g.kinds.length kcap) (.slice ps g.slots.length scap) (.slice (some ac) g.code.length ccap) (.slice (some ⟨b5, 0, none⟩) g.kinds.length g.kinds.length) vl g fr9 st.top (callF fns tops n st g args) st' x' m' (nextF x ⟨op, dst, a_, b_, n_, size, name, iar, iou, to⟩ at_) own' c' from
                          ⟨NX.out, h3, by have := HA.out.gas; have h4 := h1.2.2.1; have h5 := h1.2.2.2; simp only at h4 h5; omega, h1.1, h1.2.1, hc', ((CH12.out.trans (Chg.calm ownc HJ.out)).transG hg' LPF.out.2.2.2.2.1), hat', hfr', BK.2.1, BK.2.2, fun h => Int.lt_of_lt_of_le (HA.out.lockin h) (by have h6 : stc.locks.length ≤ st'.locks.length := h2; omega)⟩)
                        have MS := Lib.hid (show w'.cell? ⟨pw, 12, none⟩ = some (.int .i64 st'.steps) ∧ wr.cell? ⟨pw, 12, none⟩ = some (.int .i64 stc.steps) ∧ stc.steps + 1 ≤ st'.steps ∧ stc.steps < stc.fuel ∧ stc.fuel ≤ 100000 from by
                          obtain ⟨_, _, _, _, _, _, _, _, Pn⟩ := hat'
                          obtain ⟨_, _, _, _, _, _, _, _, Po⟩ := HA.out.mach
                          have h5 := h1.2.2.2
                          simp only at h5
                          exact ⟨Pn.cells.1.2.2.2.2.2.2.2.2.2.2.2.2.1, Po.cells.1.2.2.2.2.2.2.2.2.2.2.2.2.1, h5, hlt, HA.out.inv.steps.2.2⟩)
                        clear hg' hat' hfr' h1 h2 h3 ho BK
                        go_wp2_with fail
                        go_roundw
                        case rel => exact ⟨_, st', x', m', own', c', (by rw [NF.out]), by omega, ATN.out⟩
                        case measure =>
                          obtain ⟨q1, q2, q3, q4, q5⟩ := MS.out
                          rw [stepsLeft_of q1, stepsLeft_of q2]
                          omega
                      | stop st' s code =>
                        rw [ho] at hpost
                        obtain ⟨c', rfl, own', hg', hat'⟩ := hpost
                        refine ⟨rfl, ?_⟩
                        have h3 := HA.out.eq.trans (loopF_step hlt HGI.out h43)
                        rw [ho] at h3
                        rw [h3]
                        exact ⟨rfl, own', c', (CH12.out.trans (Chg.calm ownc HJ.out)).transG hg' LPF.out.2.2.2.2.1, hat'⟩
              · have hd : decide (stc.steps < stc.fuel) = false := decide_eq_false hlt
                have hge : stc.fuel ≤ stc.steps := by omega
                have HRS := Lib.hid (loopF_out (fns := fns) (tops := tops) (m := m) (f := g) (fr := fr9) (was := st.top) (x := x) (a := at_) hlt)
                clear hlt
                go_upto_region 20 with fail
                refine wp_region_each 8 planCl20 (fun _ _ => False) (Step (fun _ => False) wr) (fun _ => True) [Is ?v20_10_0, Is ?v20_10_1, Is ?v20_10_2, Is ?v20_10_3, Is ?v20_10_4, Is ?v20_10_5, Is ?v20_10_6, Is ?v20_10_7] [] (by kernel_rfl) (by kernel_rfl) (fun _ _ h => h.elim) ((Step.refl _ _).drew) (trivial) ?stab20_10 ?stabD20_10 ?obl20_10 ?fin20_10
                case stab20_10 => exact fun w w' h => ⟨fun k => k.trans h (fun _ x => x.elim), fun _ => trivial, ⟨fun _ k => k, fun _ k => k, fun _ k => k, fun _ k => k, fun _ k => k, fun _ k => k, fun _ k => k, fun _ k => k, trivial⟩, trivial⟩
                case stabD20_10 => exact fun _ _ h => h.elim
                case obl20_10 =>
                  refine ⟨?o20_10_0, ?o20_10_1, ?o20_10_2, ?o20_10_3, ?o20_10_4, ?o20_10_5, ?o20_10_6, ?o20_10_7, trivial⟩
                  all_goals intro xv wq hH hS H hU aq ha Q' hQ
                  case o20_10_0 => cases rd0 ha; clear H hU hS; go_wp2_with fail; (try refine hQ _ _ ?_); refine ⟨Step.refl _ _, ?_, trivial, nofun⟩; exact (rfl : _ = _)
                  case o20_10_1 | o20_10_2 => have ha := rd1 ha H (by kernel_rfl) rfl; simp only [q3, q5, q6, q7] at ha; subst ha; clear H hU hS; go_wp2_with fail; (try refine hQ _ _ ?_); refine ⟨Step.refl _ _, ?_, trivial, nofun⟩; exact (rfl : _ = _)
                  case o20_10_3 => obtain ⟨x12, x11⟩ := FAC.out _ hH; have ha := rd1 ha H (by kernel_rfl) rfl; simp only [q3, q5, q6, q7] at ha; subst ha; clear H hU hS; go_wp2_with fail; (try refine hQ _ _ ?_); refine ⟨Step.refl _ _, ?_, trivial, nofun⟩; exact (rfl : _ = _)
                  case o20_10_4 => cases rd0 ha; clear H hU hS; go_wp2_with fail; (try refine hQ _ _ ?_); refine ⟨Step.refl _ _, ?_, trivial, nofun⟩; exact (rfl : _ = _)
                  case o20_10_5 | o20_10_6 => have ha := rd1 ha H (by kernel_rfl) rfl; simp only [q3, q5, q6, q7] at ha; subst ha; clear H hU hS; go_wp2_with fail; (try refine hQ _ _ ?_); refine ⟨Step.refl _ _, ?_, trivial, nofun⟩; exact (rfl : _ = _)
                  case o20_10_7 => obtain ⟨x12, x11⟩ := FAC.out _ hH; have ha := rd1 ha H (by kernel_rfl) rfl; simp only [q3, q5, q6, q7] at ha; subst ha; clear H hU hS; go_wp2_with fail; (try refine hQ _ _ ?_); refine ⟨Step.refl _ _, ?_, trivial, nofun⟩; exact (rfl : _ = _)
                intro xv w10 hH hS H hU hsz hF hN
                have h0 : xv 0 = _ := H 0 (by decide) (by kernel_rfl); have h1 : xv 1 = _ := H 1 (by decide) (by kernel_rfl); have h2 : xv 2 = _ := H 2 (by decide) (by kernel_rfl); have h3 : xv 3 = _ := H 3 (by decide) (by kernel_rfl); have h4 : xv 4 = _ := H 4 (by decide) (by kernel_rfl); have h5 : xv 5 = _ := H 5 (by decide) (by kernel_rfl); have h6 : xv 6 = _ := H 6 (by decide) (by kernel_rfl); have h7 : xv 7 = _ := H 7 (by decide) (by kernel_rfl)
                simp only [planCl20, q1, q2, q3, q5, q6, q7, q4, List.drop_succ_cons, List.drop_zero, h0, h1, h2, h3, h4, h5, h6, h7]
                clear H hF hN hS hU h0 h1 h2 h3 h4 h5 h6 h7
                go_wp2_with fail
                refine (need_no _ _).mono ?_
                rintro e w' ⟨rfl, rfl⟩
                refine ⟨rfl, ?_⟩
                rw [HA.out.eq, HRS.out]
                exact ⟨rfl, ownc, cc, HA.out.chg.trans (Chg.calm ownc hH), HA.out.mach.still hH⟩
          · have hd0 : decide (0 < g.slots.length) = true := decide_eq_true h0
            have FH := Lib.hid (fresh_any HW2.out (by have := HC.out; have := HS.out.steps; omega) (by have := HS.out.keys; have := HS.out.steps; simp only; omega))
            go_upto_region 17 with fail
            go_wp2_with fail
            refine FH.out.mono ?_
            rintro e w9 ⟨rfl, own9, ch9, at9⟩
            have hsn : g.slots ≠ [] := fun e => by rw [e] at h0; simp at h0
            have F9 := HF2.out.keep ch9
            have B9 := ch9.keeps HBX.out (HOW.out tg (by have := LPF.out; omega))
            have k9 := F9.struct
            have z8 := free_known k9 8
            have d8 := cell_known k9 (i := 8) rfl
            have OT := Lib.hid (ch9.stays0 HBX.out (HOW.out tg (by have := LPF.out; omega)))
            have F10 := F9.cellSet 8 (.int .i64 st.locks.length) (lock' := (st.locks.length : Int)) (key' := 0) (vl' := vl) rfl F9.slots
            have W10 := at9.setReg (gx := pf) F9.free.1 (Nat.le_trans (by have := HW.out.since.size; exact this) LPF.out.1) 8 (.int .i64 st.locks.length)
            have B10 := (set_other (w := w9) ⟨pf, 8, none⟩ (.int .i64 st.locks.length) (LPF.out.2.1.symm : tg ≠ pf)).trans B9
            have CH10 := Lib.hid (show Chg own own9 w (w9.setCell ⟨pf, 8, none⟩ (.int .i64 st.locks.length)) from
              ⟨(HCH.out.trans ch9).step.set (.inr LPF.out.1) _, (HCH.out.trans ch9).same⟩)
            have HF10 := Lib.hid F10
            have HW10 := Lib.hid W10
            have HB10 := Lib.hid B10
            have HLK := Lib.hid (show st.locks.length ≤ 1000000 from by have := HS.out.locks; have := HS.out.steps; omega)
            clear F9 k9 F10 W10 B10 B9 at9 ch9 g0 g1 g2 g3 g4
            go_upto_region 18 with fail
            clear z8 d8
            generalize w9.setCell ⟨pf, 8, none⟩ (.int .i64 st.locks.length) = w10 at *
            obtain ⟨bf, bt, bm, bs, bb, ul, ui, uo, P10⟩ := HW10.out
            obtain ⟨gl, lcap, cur, eul, hgl, hrow, hn1, hn2, hsz2, htk⟩ := P10.locks.some (by simp)
            have el : (st.locks ++ [st.keys + 1]).length = st.locks.length + 1 := by simp
            simp only [el] at eul
            subst eul
            have cl : w10.cell? ⟨gl, st.locks.length, none⟩ = some (.int .u64 (st.keys + 1)) := row_cell hrow htk (by simp)
            have FACTS := Lib.hid (show ∀ y, Step (fun _ => False) w10 y → y.cell? ⟨pw, 4, none⟩ = some (.slice (some ⟨gl, 0, none⟩) (st.locks.length + 1) lcap) ∧ y.cell? ⟨gl, st.locks.length, none⟩ = some (.int .u64 (st.keys + 1)) ∧ y.cell? ⟨pf, 8, none⟩ = some (.int .i64 st.locks.length) from fun y hy =>
              ⟨cell_known (hy.keeps P10.struct) rfl, (hy.cell (block_lt cl) fun x => x).trans cl, cell_known (hy.keeps HF10.out.struct) rfl⟩)
            have hlk := HLK.out
            clear P10 hgl hrow hn1 hn2 hsz2 htk el cl
            refine wp_region_each 11 planCl18 (fun _ _ => False) (Step (fun _ => False) w10) (fun _ => True) [Is ?v18_11_0, Is ?v18_11_1, Is ?v18_11_2, Is ?v18_11_3, Is ?v18_11_4, Is ?v18_11_5, Is ?v18_11_6, Is ?v18_11_7, Is ?v18_11_8, Is ?v18_11_9, Is ?v18_11_10] [] (by kernel_rfl) (by kernel_rfl) (fun _ _ h => h.elim) ((Step.refl _ _).drew) (trivial) ?stab18_11 ?stabD18_11 ?obl18_11 ?fin18_11
            case stab18_11 => exact fun w w' h => ⟨fun k => k.trans h (fun _ x => x.elim), fun _ => trivial, ⟨fun _ k => k, fun _ k => k, fun _ k => k, fun _ k => k, fun _ k => k, fun _ k => k, fun _ k => k, fun _ k => k, fun _ k => k, fun _ k => k, fun _ k => k, trivial⟩, trivial⟩
            case stabD18_11 => exact fun _ _ h => h.elim
            case obl18_11 =>
              refine ⟨?o18_11_0, ?o18_11_1, ?o18_11_2, ?o18_11_3, ?o18_11_4, ?o18_11_5, ?o18_11_6, ?o18_11_7, ?o18_11_8, ?o18_11_9, ?o18_11_10, trivial⟩
              all_goals intro xv wq hH hS H hU aq ha Q' hQ
              case o18_11_0 | o18_11_1 => cases rd0 ha; clear H hU hS; go_wp2_with fail; (try refine hQ _ _ ?_); refine ⟨Step.refl _ _, ?_, trivial, nofun⟩; exact (rfl : _ = _)
              case o18_11_2 | o18_11_3 => have ha := rd1 ha H (by kernel_rfl) rfl; simp only [q3, q5, q6, q7] at ha; subst ha; clear H hU hS; go_wp2_with fail; (try refine hQ _ _ ?_); refine ⟨Step.refl _ _, ?_, trivial, nofun⟩; exact (rfl : _ = _)
              case o18_11_4 => obtain ⟨x4, xl, x8⟩ := FACTS.out _ hH; have ha := rd1 ha H (by kernel_rfl) rfl; simp only [q3, q5, q6, q7] at ha; subst ha; clear H hU hS; go_wp2_with fail; (try refine hQ _ _ ?_); refine ⟨Step.refl _ _, ?_, trivial, nofun⟩; exact (rfl : _ = _)
              case o18_11_5 => cases rd0 ha; clear H hU hS; go_wp2_with fail; (try refine hQ _ _ ?_); refine ⟨Step.refl _ _, ?_, trivial, nofun⟩; exact (rfl : _ = _)
              case o18_11_6 | o18_11_7 => have ha := rd1 ha H (by kernel_rfl) rfl; simp only [q3, q5, q6, q7] at ha; subst ha; clear H hU hS; go_wp2_with fail; (try refine hQ _ _ ?_); refine ⟨Step.refl _ _, ?_, trivial, nofun⟩; exact (rfl : _ = _)
              case o18_11_8 => obtain ⟨x4, xl, x8⟩ := FACTS.out _ hH; have ha := rd1 ha H (by kernel_rfl) rfl; simp only [q3, q5, q6, q7] at ha; subst ha; clear H hU hS; go_wp2_with fail; (try refine hQ _ _ ?_); refine ⟨Step.refl _ _, ?_, trivial, nofun⟩; exact (rfl : _ = _)
              case o18_11_9 => obtain ⟨x4, xl, x8⟩ := FACTS.out _ hH; have ha := rd2 ha H (by kernel_rfl) (by kernel_rfl) rfl rfl; simp only [q3, q5, q6, q7] at ha; subst ha; clear H hU hS; go_wp2_with fail; (try refine hQ _ _ ?_); refine ⟨Step.refl _ _, ?_, trivial, nofun⟩; exact (rfl : _ = _)
              case o18_11_10 => obtain ⟨x4, xl, x8⟩ := FACTS.out _ hH; have ha := rd1 ha H (by kernel_rfl) rfl; simp only [q3, q5, q6, q7] at ha; subst ha; clear H hU hS; go_wp2_with fail; (try refine hQ _ _ ?_); refine ⟨Step.refl _ _, ?_, trivial, nofun⟩; exact (rfl : _ = _)
            intro xv w11 hH hS H hU hsz hF hN
            have h0 : xv 0 = _ := H 0 (by decide) (by kernel_rfl); have h1 : xv 1 = _ := H 1 (by decide) (by kernel_rfl); have h2 : xv 2 = _ := H 2 (by decide) (by kernel_rfl); have h3 : xv 3 = _ := H 3 (by decide) (by kernel_rfl); have h4 : xv 4 = _ := H 4 (by decide) (by kernel_rfl); have h5 : xv 5 = _ := H 5 (by decide) (by kernel_rfl); have h6 : xv 6 = _ := H 6 (by decide) (by kernel_rfl); have h7 : xv 7 = _ := H 7 (by decide) (by kernel_rfl); have h8 : xv 8 = _ := H 8 (by decide) (by kernel_rfl); have h9 : xv 9 = _ := H 9 (by decide) (by kernel_rfl); have h10 : xv 10 = _ := H 10 (by decide) (by kernel_rfl)
            simp only [planCl18, q1, q2, q3, q5, q6, q7, q4, List.drop_succ_cons, List.drop_zero, h0, h1, h2, h3, h4, h5, h6, h7, h8, h9, h10]
            clear H hF hN hS hU h0 h1 h2 h3 h4 h5 h6 h7 h8 h9 h10
            have k11 := hH.keeps HF10.out.struct
            have z9 := free_known k11 9
            have d9 := cell_known k11 (i := 9) rfl
            have F12 := (HF10.out.still hH).cellSet 9 (.int .u64 (st.keys + 1)) (lock' := (st.locks.length : Int)) (key' := st.keys + 1) (vl' := vl) rfl (HF10.out.still hH).slots
            have W12 := (HW10.out.still hH).setReg (gx := pf) HF10.out.free.1 (Nat.le_trans (by have := HW.out.since.size; exact this) LPF.out.1) 9 (.int .u64 (st.keys + 1))
            have B12 := (set_other (w := w11) ⟨pf, 9, none⟩ (.int .u64 (st.keys + 1)) (LPF.out.2.1.symm : tg ≠ pf)).trans (hH.keeps HB10.out)
            have CH12 : Chg own own9 w (w11.setCell ⟨pf, 9, none⟩ (.int .u64 (st.keys + 1))) := ⟨(CH10.out.step.trans hH fun _ x => x.elim).set (.inr LPF.out.1) _, CH10.out.same⟩
            have en := enterF_some (args := args) hsn PLF.out
            rw [HX0.out] at en
            have RES := Lib.hid (callF_of (n := n) (fns := fns) (tops := tops) en)
            obtain ⟨e1, e2, e3, e4⟩ := enterF_inv (args := args) HS.out HG.out H64.out
            rw [en] at e1 e2 e4
            obtain ⟨e5, e6⟩ := e4 rfl
            simp only at e1 e2 e5 e6
            obtain ⟨st9, hst9⟩ : ∃ s : FSt, ({ st with top := (plAcc g.slots st.top g.slots.length).2, keys := st.keys + 1, locks := st.locks ++ [st.keys + 1] } : FSt) = s := ⟨_, rfl⟩
            have W9 : FWAt w0 (w11.setCell ⟨pf, 9, none⟩ (.int .u64 (st.keys + 1))) pw own9 fnv tops { st with top := (plAcc g.slots st.top g.slots.length).2, keys := st.keys + 1, locks := st.locks ++ [st.keys + 1] } (c + 1) := W12
            rw [hst9] at W9 e5
            have RES9 := RES.out
            rw [hst9] at RES9
            have Q9 := Lib.hid (show st9.steps = st.steps ∧ st9.fuel = st.fuel from by rw [← hst9]; exact ⟨rfl, rfl⟩)
            have LK9 := Lib.hid (show st.locks.length + 1 = st9.locks.length from by rw [← hst9]; simp)
            generalize (plAcc g.slots st.top g.slots.length).1 = ls9 at *
            have ATL := Lib.hid (show AtLoop w0 w (w11.setCell ⟨pf, 9, none⟩ (.int .u64 (st.keys + 1))) pw own fnv tops fns pf b5 tg (.slice pp g.params.length pcap) (.slice pk g.kinds.length kcap) (.slice ps g.slots.length scap) vc (.slice (some ⟨b5, 0, none⟩) g.kinds.length g.kinds.length) vl g ⟨ls9, g.slots, st.locks.length, st.keys + 1⟩ st.top (callF fns tops n st g args) st9 x0 n 0 own9 (c + 1) from
              ⟨⟨by omega, by have := List.length_pos_iff.2 HG.out.code.1; omega⟩, RES9, by rw [Q9.out.1, Q9.out.2]; exact HFU.out, e5.le (by omega), e6, by rw [Q9.out.1]; have := HC.out; omega, CH12, W9, F12, B12, OT.out, fun _ => by rw [← LK9.out]; simp only; omega⟩)
            clear en RES e1 e2 e3 e4 e5 e6 W9 RES9 hst9 hsn F12 W12 B12 CH12 k11 hH
            go_wp2_with fail
            clear z9 d9
            generalize (⟨ls9, g.slots, st.locks.length, st.keys + 1⟩ : Frm) = fr9 at *
            generalize w11.setCell ⟨pf, 9, none⟩ (.int .u64 (st.keys + 1)) = w9 at *
            go_loopw [13, 14] (fun a _ wr => ∃ (at_ : Int) (stc : FSt) (x : List Int) (m : Nat) (ownc : Nat → Nat) (cc : Nat), a = .int .i64 at_ ∧ m ≤ n ∧ AtLoop w0 w wr pw own fnv tops fns pf b5 tg (.slice pp g.params.length pcap) (.slice pk g.kinds.length kcap) (.slice ps g.slots.length scap) vc (.slice (some ⟨b5, 0, none⟩) g.kinds.length g.kinds.length) vl g fr9 st.top (callF fns tops n st g args) stc x m at_ ownc cc) (fun _ _ wr => stepsLeft pw wr)
            case atStart => exact ⟨0, st9, x0, n, _, _, rfl, Nat.le_refl _, ATL.out⟩
            case round =>
              obtain ⟨at_, stc, x, m, ownc, cc, rfl, hm, hat⟩ := hrel
              have HA := Lib.hid hat
              clear hat ATL
              obtain ⟨cf, ct, cm, cs, cb, cl, ci, co, P⟩ := HA.out.mach
              have CP := Lib.hid P
              have FAC := Lib.hid (show ∀ y, Step (fun _ => False) wr y → y.cell? ⟨pw, 12, none⟩ = some (.int .i64 stc.steps) ∧ y.cell? ⟨pw, 11, none⟩ = some (.int .i64 stc.fuel) from fun y hy =>
                ⟨cell_known (hy.keeps P.struct) rfl, cell_known (hy.keeps P.struct) rfl⟩)
              clear P
              by_cases hlt : stc.steps < stc.fuel
              · have hd : decide (stc.steps < stc.fuel) = true := decide_eq_true hlt
                go_upto_region 20 with fail
                refine wp_region_each 8 planCl20 (fun _ _ => False) (Step (fun _ => False) wr) (fun _ => True) [Is ?v20_12_0, Is ?v20_12_1, Is ?v20_12_2, Is ?v20_12_3, Is ?v20_12_4, Is ?v20_12_5, Is ?v20_12_6, Is ?v20_12_7] [] (by kernel_rfl) (by kernel_rfl) (fun _ _ h => h.elim) ((Step.refl _ _).drew) (trivial) ?stab20_12 ?stabD20_12 ?obl20_12 ?fin20_12
                case stab20_12 => exact fun w w' h => ⟨fun k => k.trans h (fun _ x => x.elim), fun _ => trivial, ⟨fun _ k => k, fun _ k => k, fun _ k => k, fun _ k => k, fun _ k => k, fun _ k => k, fun _ k => k, fun _ k => k, trivial⟩, trivial⟩
                case stabD20_12 => exact fun _ _ h => h.elim
                case obl20_12 =>
                  refine ⟨?o20_12_0, ?o20_12_1, ?o20_12_2, ?o20_12_3, ?o20_12_4, ?o20_12_5, ?o20_12_6, ?o20_12_7, trivial⟩
                  all_goals intro xv wq hH hS H hU aq ha Q' hQ
                  case o20_12_0 => cases rd0 ha; clear H hU hS; go_wp2_with fail; (try refine hQ _ _ ?_); refine ⟨Step.refl _ _, ?_, trivial, nofun⟩; exact (rfl : _ = _)
                  case o20_12_1 | o20_12_2 => have ha := rd1 ha H (by kernel_rfl) rfl; simp only [q3, q5, q6, q7] at ha; subst ha; clear H hU hS; go_wp2_with fail; (try refine hQ _ _ ?_); refine ⟨Step.refl _ _, ?_, trivial, nofun⟩; exact (rfl : _ = _)
                  case o20_12_3 => obtain ⟨x12, x11⟩ := FAC.out _ hH; have ha := rd1 ha H (by kernel_rfl) rfl; simp only [q3, q5, q6, q7] at ha; subst ha; clear H hU hS; go_wp2_with fail; (try refine hQ _ _ ?_); refine ⟨Step.refl _ _, ?_, trivial, nofun⟩; exact (rfl : _ = _)
                  case o20_12_4 => cases rd0 ha; clear H hU hS; go_wp2_with fail; (try refine hQ _ _ ?_); refine ⟨Step.refl _ _, ?_, trivial, nofun⟩; exact (rfl : _ = _)
                  case o20_12_5 | o20_12_6 => have ha := rd1 ha H (by kernel_rfl) rfl; simp only [q3, q5, q6, q7] at ha; subst ha; clear H hU hS; go_wp2_with fail; (try refine hQ _ _ ?_); refine ⟨Step.refl _ _, ?_, trivial, nofun⟩; exact (rfl : _ = _)
                  case o20_12_7 => obtain ⟨x12, x11⟩ := FAC.out _ hH; have ha := rd1 ha H (by kernel_rfl) rfl; simp only [q3, q5, q6, q7] at ha; subst ha; clear H hU hS; go_wp2_with fail; (try refine hQ _ _ ?_); refine ⟨Step.refl _ _, ?_, trivial, nofun⟩; exact (rfl : _ = _)
                intro xv w10 hH hS H hU hsz hF hN
                have h0 : xv 0 = _ := H 0 (by decide) (by kernel_rfl); have h1 : xv 1 = _ := H 1 (by decide) (by kernel_rfl); have h2 : xv 2 = _ := H 2 (by decide) (by kernel_rfl); have h3 : xv 3 = _ := H 3 (by decide) (by kernel_rfl); have h4 : xv 4 = _ := H 4 (by decide) (by kernel_rfl); have h5 : xv 5 = _ := H 5 (by decide) (by kernel_rfl); have h6 : xv 6 = _ := H 6 (by decide) (by kernel_rfl); have h7 : xv 7 = _ := H 7 (by decide) (by kernel_rfl)
                simp only [planCl20, q1, q2, q3, q5, q6, q7, q4, List.drop_succ_cons, List.drop_zero, h0, h1, h2, h3, h4, h5, h6, h7]
                clear H hF hN hS hU h0 h1 h2 h3 h4 h5 h6 h7
                go_wp2_with fail
                refine (need_ok _ _).mono ?_
                rintro e w' ⟨rfl, rfl⟩
                have HA10 := Lib.hid (HA.out.still hH)
                clear hH FAC CP
                obtain ⟨cf, ct, cm, cs, cb, cl, ci, co, P⟩ := HA10.out.mach
                have c12 := P.cells.1.2.2.2.2.2.2.2.2.2.2.2.2.1
                have f12 := P.cells.2 12
                have hsb := HA.out.inv.steps
                obtain ⟨P11, ch11⟩ := P.scalar 12 (.int .i64 (stc.steps + 1)) (st' := { stc with steps := stc.steps + 1 }) (ui' := ci) rfl rfl rfl rfl rfl rfl P.input
                have HW11 := Lib.hid P11.whole
                have HF11 := Lib.hid (HA10.out.frame.keep ch11)
                have HB11 := Lib.hid (ch11.keeps HA10.out.box HA.out.free)
                have CH11 := Lib.hid (HA10.out.chg.trans ch11)
                clear P P11 ch11
                go_upto_region 22 with fail
                clear c12 f12
                generalize w10.setCell ⟨pw, 12, none⟩ (.int .i64 (stc.steps + 1)) = w11 at *
                obtain ⟨pc, ccap, evc, hcc1, hcc2, hcc⟩ := HCD.out
                subst evc
                have hlt2 := HA.out.at0
                obtain ⟨ac, vi, epc, hins, hcells⟩ := hcc at_.toNat (by omega)
                subst epc
                have hmem := List.getElem_mem (l := g.code) (n := at_.toNat) (by omega)
                have hget : g.code[at_.toNat]? = some (g.code[at_.toNat]'(by omega)) := List.getElem?_eq_getElem (by omega)
                generalize g.code[at_.toNat]'(by omega) = i at hmem hget hins hcells
                obtain ⟨va_, vo_, evi, iargs, iouts⟩ := id hins
                obtain ⟨op, dst, a_, b_, n_, size, name, iar, iou, to⟩ := i
                subst evi
                obtain ⟨⟨pa_, pac_, rfl, _, _, _⟩, _⟩ := id iargs
                obtain ⟨⟨po_, poc_, rfl, _, _, _⟩, _⟩ := id iouts
                have HI := Lib.hid hins
                have HM := Lib.hid hmem
                have HGI := Lib.hid hget
                have hce : ∀ j u, (#[.int .i64 op, .int .i64 dst, .int .i64 a_, .int .i64 b_, .int .u64 n_, .int .i64 size, .string name, .slice pa_ iar.length pac_, .slice po_ iou.length poc_, .int .i64 to] : Array Value)[j]? = some u → w11.cell? ((ac.add (at_.toNat * 10)).add j) = some u := fun j u h => by
                  have h1 := hcells j u h
                  rw [HW11.out.cell_old (block_lt h1)]; exact h1
                have HCE := Lib.hid hce
                have g4 := cell_known HB11.out (i := 4) rfl
                have hcl : at_ < g.code.length := hlt2.2
                have hc0 : 0 ≤ at_ := hlt2.1
                have hcd : g.code.length ≤ 100000 := by have := HCL.out; exact this
                clear hins hmem hget hcells hce hcc hcc2 hlt2 iargs iouts
                have e0 : w11.cell? (ac.add (at_.toNat * 10)) = some (.int .i64 op) := by have := HCE.out 0 _ rfl; simpa [Addr.add] using this
                have e1 : w11.cell? ⟨(ac.add (at_.toNat * 10)).block, (ac.add (at_.toNat * 10)).off + 1, none⟩ = some (.int .i64 dst) := HCE.out 1 _ rfl
                have e2 : w11.cell? ⟨(ac.add (at_.toNat * 10)).block, (ac.add (at_.toNat * 10)).off + 2, none⟩ = some (.int .i64 a_) := HCE.out 2 _ rfl
                have e3 : w11.cell? ⟨(ac.add (at_.toNat * 10)).block, (ac.add (at_.toNat * 10)).off + 3, none⟩ = some (.int .i64 b_) := HCE.out 3 _ rfl
                have e4 : w11.cell? ⟨(ac.add (at_.toNat * 10)).block, (ac.add (at_.toNat * 10)).off + 4, none⟩ = some (.int .u64 n_) := HCE.out 4 _ rfl
                have e5 : w11.cell? ⟨(ac.add (at_.toNat * 10)).block, (ac.add (at_.toNat * 10)).off + 5, none⟩ = some (.int .i64 size) := HCE.out 5 _ rfl
                have e6 : w11.cell? ⟨(ac.add (at_.toNat * 10)).block, (ac.add (at_.toNat * 10)).off + 6, none⟩ = some (.string name) := HCE.out 6 _ rfl
                have e7 : w11.cell? ⟨(ac.add (at_.toNat * 10)).block, (ac.add (at_.toNat * 10)).off + 7, none⟩ = some (.slice pa_ iar.length pac_) := HCE.out 7 _ rfl
                have e8 : w11.cell? ⟨(ac.add (at_.toNat * 10)).block, (ac.add (at_.toNat * 10)).off + 8, none⟩ = some (.slice po_ iou.length poc_) := HCE.out 8 _ rfl
                have e9 : w11.cell? ⟨(ac.add (at_.toNat * 10)).block, (ac.add (at_.toNat * 10)).off + 9, none⟩ = some (.int .i64 to) := HCE.out 9 _ rfl
                clear HCE
                go_upto_region 23 with fail
                have kb := heap_alloc_new w11 (.cells #[.int .i64 op, .int .i64 dst, .int .i64 a_, .int .i64 b_, .int .u64 n_, .int .i64 size, .string name, .slice pa_ iar.length pac_, .slice po_ iou.length poc_, .int .i64 to] 47 (0, 0))
                have S12 := Lib.hid (Step.alloc (fun _ => False) w11 (.cells #[.int .i64 op, .int .i64 dst, .int .i64 a_, .int .i64 b_, .int .u64 n_, .int .i64 size, .string name, .slice pa_ iar.length pac_, .slice po_ iou.length poc_, .int .i64 to] 47 (0, 0)))
                generalize w11.alloc (.cells #[.int .i64 op, .int .i64 dst, .int .i64 a_, .int .i64 b_, .int .u64 n_, .int .i64 size, .string name, .slice pa_ iar.length pac_, .slice po_ iou.length poc_, .int .i64 to] 47 (0, 0)) = w12 at kb S12 ⊢
                have LT := Lib.hid (show w.heap.size ≤ w11.heap.size ∧ ownc w11.heap.size = 0 from ⟨CH11.out.step.size, HW11.out.fresh0⟩)
                generalize w11.heap.size = ti at *
                have KI := Lib.hid kb
                have FBI := Lib.hid (box_facts kb)
                clear kb e0 e1 e2 e3 e4 e5 e6 e7 e8 e9 g4
                have HW12 := Lib.hid (HW11.out.still S12.out)
                have HF12 := Lib.hid (HF11.out.still S12.out)
                have HB12 := Lib.hid (S12.out.keeps HB11.out)
                have CH12 := Lib.hid (CH11.out.trans (Chg.calm ownc S12.out))
                obtain ⟨m', hm'⟩ : ∃ m', m = m' + 1 := ⟨m - 1, by have := HA.out.gas; omega⟩
                subst hm'
                have hx64 := Lib.hid HA.out.finv.x64
                by_cases h43 : op = 43
                · subst h43
                  obtain ⟨b0, b1, b2, b3, b4, b5_, b6, b7, b8, b9⟩ := FBI.out _ (Step.refl _ _)
                  obtain ⟨f0, f4, f6, f7, f8, f9⟩ := frame_facts HF12.out _ (Step.refl _ _)
                  by_cases hl0 : 0 < fr9.lock
                  · have hdl : decide (0 < fr9.lock) = true := decide_eq_true hl0
                    have RES := Lib.hid (show callF fns tops n st g args = .ret { stc with steps := stc.steps + 1, locks := stc.locks.set fr9.lock.toNat 0, top := st.top } (pick x iar) from by
                      rw [HA.out.eq, loopF_ret1 hlt HGI.out rfl, if_pos hl0])
                    have hli := HA.out.lockin hl0
                    obtain ⟨rf, rt, rm, rs, rb, rl, ri, ro, PR⟩ := HW12.out
                    obtain ⟨gl, lcap, eul, ⟨ulk, clk⟩, zlk, ogl, PU, chu⟩ := PR.unlock fr9.lock ⟨by omega, hli⟩
                    subst eul
                    have FX := Lib.hid (show ∀ y, Step (fun _ => False) w12 y → y.cell? ⟨pw, 4, none⟩ = some (.slice (some ⟨gl, 0, none⟩) stc.locks.length lcap) ∧ y.cell? ⟨pf, 8, none⟩ = some (.int .i64 fr9.lock) from fun y hy =>
                      ⟨cell_known (hy.keeps PR.struct) rfl, cell_known (hy.keeps HF12.out.struct) rfl⟩)
                    have HPR := Lib.hid PR
                    have OGL := Lib.hid ogl
                    clear PU chu PR clk zlk ogl
                    go_upto_region 25 with fail
                    clear b0 b1 b2 b3 b4 b5_ b6 b7 b8 b9 f0 f4 f6 f7 f8 f9
                    refine wp_region_each 8 planCl25 (fun _ _ => False) (Step (fun _ => False) w12) (fun _ => True) [Is ?v25_13_0, Is ?v25_13_1, Is ?v25_13_2, Is ?v25_13_3, Is ?v25_13_4, Is ?v25_13_5, Is ?v25_13_6, Is ?v25_13_7] [] (by kernel_rfl) (by kernel_rfl) (fun _ _ h => h.elim) ((Step.refl _ _).drew) (trivial) ?stab25_13 ?stabD25_13 ?obl25_13 ?fin25_13
                    case stab25_13 => exact fun w w' h => ⟨fun k => k.trans h (fun _ x => x.elim), fun _ => trivial, ⟨fun _ k => k, fun _ k => k, fun _ k => k, fun _ k => k, fun _ k => k, fun _ k => k, fun _ k => k, fun _ k => k, trivial⟩, trivial⟩
                    case stabD25_13 => exact fun _ _ h => h.elim
                    case obl25_13 =>
                      refine ⟨?o25_13_0, ?o25_13_1, ?o25_13_2, ?o25_13_3, ?o25_13_4, ?o25_13_5, ?o25_13_6, ?o25_13_7, trivial⟩
                      all_goals intro xv wq hH hS H hU aq ha Q' hQ
                      case o25_13_0 => cases rd0 ha; clear H hU hS; go_wp2_with fail; (try refine hQ _ _ ?_); refine ⟨Step.refl _ _, ?_, trivial, nofun⟩; exact (rfl : _ = _)
                      case o25_13_1 | o25_13_2 => have ha := rd1 ha H (by kernel_rfl) rfl; simp only [q3, q5, q6, q7] at ha; subst ha; clear H hU hS; go_wp2_with fail; (try refine hQ _ _ ?_); refine ⟨Step.refl _ _, ?_, trivial, nofun⟩; exact (rfl : _ = _)
                      case o25_13_3 => obtain ⟨x4, x8⟩ := FX.out _ hH; have ha := rd1 ha H (by kernel_rfl) rfl; simp only [q3, q5, q6, q7] at ha; subst ha; clear H hU hS; go_wp2_with fail; (try refine hQ _ _ ?_); refine ⟨Step.refl _ _, ?_, trivial, nofun⟩; exact (rfl : _ = _)
                      case o25_13_4 => cases rd0 ha; clear H hU hS; go_wp2_with fail; (try refine hQ _ _ ?_); refine ⟨Step.refl _ _, ?_, trivial, nofun⟩; exact (rfl : _ = _)
                      case o25_13_5 | o25_13_6 => have ha := rd1 ha H (by kernel_rfl) rfl; simp only [q3, q5, q6, q7] at ha; subst ha; clear H hU hS; go_wp2_with fail; (try refine hQ _ _ ?_); refine ⟨Step.refl _ _, ?_, trivial, nofun⟩; exact (rfl : _ = _)
                      case o25_13_7 => obtain ⟨x4, x8⟩ := FX.out _ hH; have ha := rd1 ha H (by kernel_rfl) rfl; simp only [q3, q5, q6, q7] at ha; subst ha; clear H hU hS; go_wp2_with fail; (try refine hQ _ _ ?_); refine ⟨Step.refl _ _, ?_, trivial, nofun⟩; exact (rfl : _ = _)
                    intro xv w13 hH hS H hU hsz hF hN
                    have h0 : xv 0 = _ := H 0 (by decide) (by kernel_rfl); have h1 : xv 1 = _ := H 1 (by decide) (by kernel_rfl); have h2 : xv 2 = _ := H 2 (by decide) (by kernel_rfl); have h3 : xv 3 = _ := H 3 (by decide) (by kernel_rfl); have h4 : xv 4 = _ := H 4 (by decide) (by kernel_rfl); have h5 : xv 5 = _ := H 5 (by decide) (by kernel_rfl); have h6 : xv 6 = _ := H 6 (by decide) (by kernel_rfl); have h7 : xv 7 = _ := H 7 (by decide) (by kernel_rfl)
                    simp only [planCl25, q1, q2, q3, q5, q6, q7, q4, List.drop_succ_cons, List.drop_zero, h0, h1, h2, h3, h4, h5, h6, h7]
                    clear H hF hN hS hU h0 h1 h2 h3 h4 h5 h6 h7
                    obtain ⟨gl2, lcap2, eul2, ⟨ulk, clk⟩, zlk, ogl, PU, chu⟩ := (HPR.out.still hH).unlock fr9.lock ⟨by omega, hli⟩
                    cases eul2
                    have HWR_ := Lib.hid PU.whole
                    have HFR_ := Lib.hid ((HF12.out.still hH).keep chu)
                    have CHR := Lib.hid ((CH12.out.trans (Chg.calm ownc hH)).trans chu)
                    have KIR := Lib.hid (chu.keeps (hH.keeps KI.out) LT.out.2)
                    clear PU chu hH ogl
                    go_upto_region 26 with fail
                    clear clk zlk
                    generalize w13.setCell ⟨gl, fr9.lock.toNat, none⟩ (.int .u64 0) = wR at *
                    obtain ⟨stR, hstR⟩ : ∃ s : FSt, ({ stc with steps := stc.steps + 1, locks := stc.locks.set fr9.lock.toNat 0 } : FSt) = s := ⟨_, rfl⟩
                    have HST := Lib.hid hstR
                    rw [hstR] at HWR_
                    clear hstR
                    obtain ⟨rf, rt, rm, rs, rb, rl, ri, ro, PR⟩ := HWR_.out
                    have d8 := PR.cells.1.2.2.2.2.2.2.2.2.1
                    have z8 := PR.cells.2 8
                    obtain ⟨PT, cht⟩ := PR.scalar 8 (.int .i64 st.top) (st' := { stR with top := st.top }) (ui' := ri) rfl rfl rfl rfl rfl rfl PR.input
                    have HWT := Lib.hid PT.whole
                    have HFT := Lib.hid (HFR_.out.keep cht)
                    have CHT := Lib.hid (CHR.out.trans cht)
                    have KIT := Lib.hid (cht.keeps KIR.out LT.out.2)
                    clear PR PT cht
                    go_upto_region 27 with fail
                    clear d8 z8
                    generalize wR.setCell ⟨pw, 8, none⟩ (.int .i64 st.top) = wT at *
                    obtain ⟨b0, b1, b2, b3, b4, b5_, b6, b7, b8, b9⟩ := box_facts KIT.out _ (Step.refl _ _)
                    obtain ⟨vI, voI, eI, iaI, ioI⟩ := HI.out
                    cases eI
                    obtain ⟨gi1, gi2, gi3, gi4, gi5⟩ := HG.out.ins _ HM.out
                    have VAL := Lib.hid (values_any HFT.out (iaI.step HWT.out.since fun b h => h) (show ∀ r ∈ iar, ok1 x r from (listB_ok (x := x) HA.out.finv.len (goodI_form gi1 (m := { args := -1 }) rfl).2.2.2.1).1) (by have h : iar.length ≤ 1000 := gi4; omega))
                    clear iaI ioI gi1 gi2 gi3 gi4 gi5
                    go_wp2_with fail
                    refine VAL.out.mono ?_
                    rintro e w' ⟨voR, rfl, rowR, sR⟩
                    have RR := Lib.hid rowR
                    have SR := Lib.hid sR
                    clear rowR sR
                    go_wp2_with fail
                    go_ret
                    rw [← HST.out] at HWT
                    rw [RES.out]
                    refine ⟨_, rfl, ownc, cc, CHT.out.trans (Chg.calm ownc SR.out), HWT.out.still SR.out, by have := HA.out.cost; simp only; omega, ?_⟩
                    have hz := CHT.out.step.size
                    rw [pick_length]
                    exact RR.out.mono fun b hb => ⟨by omega, by
                      by_cases e : ownc b = 0
                      · exact e
                      · have := (HWT.out.low b e).2; omega⟩
                  · have hdl : decide (0 < fr9.lock) = false := decide_eq_false hl0
                    have RES := Lib.hid (show callF fns tops n st g args = .ret { stc with steps := stc.steps + 1, top := st.top } (pick x iar) from by
                      rw [HA.out.eq, loopF_ret1 hlt HGI.out rfl, if_neg hl0])
                    clear hl0
                    go_upto_region 26 with fail
                    clear b0 b1 b2 b3 b4 b5_ b6 b7 b8 b9 f0 f4 f6 f7 f8 f9
                    have HWR_ := HW12
                    have HFR_ := HF12
                    have CHR := CH12
                    have KIR := KI
                    generalize w12 = wR at HWR_ HFR_ CHR KIR ⊢
                    obtain ⟨stR, hstR⟩ : ∃ s : FSt, ({ stc with steps := stc.steps + 1 } : FSt) = s := ⟨_, rfl⟩
                    have HST := Lib.hid hstR
                    rw [hstR] at HWR_
                    clear hstR
                    obtain ⟨rf, rt, rm, rs, rb, rl, ri, ro, PR⟩ := HWR_.out
                    have d8 := PR.cells.1.2.2.2.2.2.2.2.2.1
                    have z8 := PR.cells.2 8
                    obtain ⟨PT, cht⟩ := PR.scalar 8 (.int .i64 st.top) (st' := { stR with top := st.top }) (ui' := ri) rfl rfl rfl rfl rfl rfl PR.input
                    have HWT := Lib.hid PT.whole
                    have HFT := Lib.hid (HFR_.out.keep cht)
                    have CHT := Lib.hid (CHR.out.trans cht)
                    have KIT := Lib.hid (cht.keeps KIR.out LT.out.2)
                    clear PR PT cht
                    go_upto_region 27 with fail
                    clear d8 z8
                    generalize wR.setCell ⟨pw, 8, none⟩ (.int .i64 st.top) = wT at *
                    obtain ⟨b0, b1, b2, b3, b4, b5_, b6, b7, b8, b9⟩ := box_facts KIT.out _ (Step.refl _ _)
                    obtain ⟨vI, voI, eI, iaI, ioI⟩ := HI.out
                    cases eI
                    obtain ⟨gi1, gi2, gi3, gi4, gi5⟩ := HG.out.ins _ HM.out
                    have VAL := Lib.hid (values_any HFT.out (iaI.step HWT.out.since fun b h => h) (show ∀ r ∈ iar, ok1 x r from (listB_ok (x := x) HA.out.finv.len (goodI_form gi1 (m := { args := -1 }) rfl).2.2.2.1).1) (by have h : iar.length ≤ 1000 := gi4; omega))
                    clear iaI ioI gi1 gi2 gi3 gi4 gi5
                    go_wp2_with fail
                    refine VAL.out.mono ?_
                    rintro e w' ⟨voR, rfl, rowR, sR⟩
                    have RR := Lib.hid rowR
                    have SR := Lib.hid sR
                    clear rowR sR
                    go_wp2_with fail
                    go_ret
                    rw [← HST.out] at HWT
                    rw [RES.out]
                    refine ⟨_, rfl, ownc, cc, CHT.out.trans (Chg.calm ownc SR.out), HWT.out.still SR.out, by have := HA.out.cost; simp only; omega, ?_⟩
                    have hz := CHT.out.step.size
                    rw [pick_length]
                    exact RR.out.mono fun b hb => ⟨by omega, by
                      by_cases e : ownc b = 0
                      · exact e
                      · have := (HWT.out.low b e).2; omega⟩
                · have h43b : (op == 43) = false := beq_false_of_ne h43
                  obtain ⟨b0, b1, b2, b3, b4, b5_, b6, b7, b8, b9⟩ := FBI.out _ (Step.refl _ _)
                  obtain ⟨f0, f4, f6, f7, f8, f9⟩ := frame_facts HF12.out _ (Step.refl _ _)
                  have FF12 := Lib.hid (frame_facts HF12.out)
                  have GXL := Lib.hid (show w0.heap.size ≤ b5 from Nat.le_trans (by have := HW.out.since.size; exact this) LPF.out.2.2.2.2.1)
                  have HAG := Lib.hid (show AllGood fns from fun s g h => by obtain ⟨_, _, _, h2⟩ := hE s g h; exact h2)
                  by_cases h18 : op = 18
                  · subst h18
                    go_upto_region 29 with fail
                    refine wp_region_each 14 planCl29a (fun _ _ => False) (Step (fun _ => False) w12) (fun _ => True) [Is ?v29_14_0, Is ?v29_14_1, Is ?v29_14_2, Is ?v29_14_3, Is ?v29_14_4, Is ?v29_14_5, Is ?v29_14_6, Is ?v29_14_7, Is ?v29_14_8, Is ?v29_14_9, Is ?v29_14_10, Is ?v29_14_11, Is ?v29_14_12, Is ?v29_14_13] [] (by kernel_rfl) (by kernel_rfl) (fun _ _ h => h.elim) ((Step.refl _ _).drew) (trivial) ?stab29_14 ?stabD29_14 ?obl29_14 ?fin29_14
                    case stab29_14 => exact fun w w' h => ⟨fun k => k.trans h (fun _ x => x.elim), fun _ => trivial, ⟨fun _ k => k, fun _ k => k, fun _ k => k, fun _ k => k, fun _ k => k, fun _ k => k, fun _ k => k, fun _ k => k, fun _ k => k, fun _ k => k, fun _ k => k, fun _ k => k, fun _ k => k, fun _ k => k, trivial⟩, trivial⟩
                    case stabD29_14 => exact fun _ _ h => h.elim
                    case obl29_14 =>
                      refine ⟨?o29_14_0, ?o29_14_1, ?o29_14_2, ?o29_14_3, ?o29_14_4, ?o29_14_5, ?o29_14_6, ?o29_14_7, ?o29_14_8, ?o29_14_9, ?o29_14_10, ?o29_14_11, ?o29_14_12, ?o29_14_13, trivial⟩
                      all_goals intro xv wq hH hS H hU aq ha Q' hQ
                      case o29_14_0 => cases rd0 ha; clear H hU hS; go_wp2_with fail; (try refine hQ _ _ ?_); refine ⟨Step.refl _ _, ?_, trivial, nofun⟩; exact (rfl : _ = _)
                      case o29_14_1 | o29_14_2 => obtain ⟨b0, b1, b2, b3, b4, b5_, b6, b7, b8, b9⟩ := FBI.out _ hH; obtain ⟨f0, f4, f6, f7, f8, f9⟩ := FF12.out _ hH; have ha := rd1 ha H (by kernel_rfl) rfl; simp only [q3, q5, q6, q7] at ha; subst ha; clear H hU hS; go_wp2_with fail; (try refine hQ _ _ ?_); refine ⟨Step.refl _ _, ?_, trivial, nofun⟩; exact (rfl : _ = _)
                      case o29_14_3 => have ha := rd1 ha H (by kernel_rfl) rfl; simp only [q3, q5, q6, q7] at ha; subst ha; clear H hU hS; go_wp2_with fail; (try refine hQ _ _ ?_); refine ⟨Step.refl _ _, ?_, trivial, nofun⟩; exact (rfl : _ = _)
                      case o29_14_4 => obtain ⟨b0, b1, b2, b3, b4, b5_, b6, b7, b8, b9⟩ := FBI.out _ hH; obtain ⟨f0, f4, f6, f7, f8, f9⟩ := FF12.out _ hH; have ha := rd1 ha H (by kernel_rfl) rfl; simp only [q3, q5, q6, q7] at ha; subst ha; clear H hU hS; go_wp2_with fail; (try refine hQ _ _ ?_); refine ⟨Step.refl _ _, ?_, trivial, nofun⟩; exact (rfl : _ = _)
                      case o29_14_5 | o29_14_6 | o29_14_7 => obtain ⟨b0, b1, b2, b3, b4, b5_, b6, b7, b8, b9⟩ := FBI.out _ hH; obtain ⟨f0, f4, f6, f7, f8, f9⟩ := FF12.out _ hH; have ha := rd2 ha H (by kernel_rfl) (by kernel_rfl) rfl rfl; simp only [q3, q5, q6, q7] at ha; subst ha; clear H hU hS; go_wp2_with fail; (try refine hQ _ _ ?_); refine ⟨Step.refl _ _, ?_, trivial, nofun⟩; exact (rfl : _ = _)
                      case o29_14_8 => obtain ⟨b0, b1, b2, b3, b4, b5_, b6, b7, b8, b9⟩ := FBI.out _ hH; obtain ⟨f0, f4, f6, f7, f8, f9⟩ := FF12.out _ hH; have ha := rd1 ha H (by kernel_rfl) rfl; simp only [q3, q5, q6, q7] at ha; subst ha; clear H hU hS; go_wp2_with fail; (try refine hQ _ _ ?_); refine ⟨Step.refl _ _, ?_, trivial, nofun⟩; exact (rfl : _ = _)
                      case o29_14_9 | o29_14_10 | o29_14_11 => obtain ⟨b0, b1, b2, b3, b4, b5_, b6, b7, b8, b9⟩ := FBI.out _ hH; obtain ⟨f0, f4, f6, f7, f8, f9⟩ := FF12.out _ hH; have ha := rd2 ha H (by kernel_rfl) (by kernel_rfl) rfl rfl; simp only [q3, q5, q6, q7] at ha; subst ha; clear H hU hS; go_wp2_with fail; (try refine hQ _ _ ?_); refine ⟨Step.refl _ _, ?_, trivial, nofun⟩; exact (rfl : _ = _)
                      case o29_14_12 => obtain ⟨b0, b1, b2, b3, b4, b5_, b6, b7, b8, b9⟩ := FBI.out _ hH; obtain ⟨f0, f4, f6, f7, f8, f9⟩ := FF12.out _ hH; have ha := rd1 ha H (by kernel_rfl) rfl; simp only [q3, q5, q6, q7] at ha; subst ha; clear H hU hS; go_wp2_with fail; (try refine hQ _ _ ?_); refine ⟨Step.refl _ _, ?_, trivial, nofun⟩; exact (rfl : _ = _)
                      case o29_14_13 => obtain ⟨b0, b1, b2, b3, b4, b5_, b6, b7, b8, b9⟩ := FBI.out _ hH; obtain ⟨f0, f4, f6, f7, f8, f9⟩ := FF12.out _ hH; have ha := rd2 ha H (by kernel_rfl) (by kernel_rfl) rfl rfl; simp only [q3, q5, q6, q7] at ha; subst ha; clear H hU hS; go_wp2_with fail; (try refine hQ _ _ ?_); refine ⟨Step.refl _ _, ?_, trivial, nofun⟩; exact (rfl : _ = _)
                    intro xv w13 hH hS H hU hsz hF hN
                    have h0 : xv 0 = _ := H 0 (by decide) (by kernel_rfl); have h1 : xv 1 = _ := H 1 (by decide) (by kernel_rfl); have h2 : xv 2 = _ := H 2 (by decide) (by kernel_rfl); have h3 : xv 3 = _ := H 3 (by decide) (by kernel_rfl); have h4 : xv 4 = _ := H 4 (by decide) (by kernel_rfl); have h5 : xv 5 = _ := H 5 (by decide) (by kernel_rfl); have h6 : xv 6 = _ := H 6 (by decide) (by kernel_rfl); have h7 : xv 7 = _ := H 7 (by decide) (by kernel_rfl); have h8 : xv 8 = _ := H 8 (by decide) (by kernel_rfl); have h9 : xv 9 = _ := H 9 (by decide) (by kernel_rfl); have h10 : xv 10 = _ := H 10 (by decide) (by kernel_rfl); have h11 : xv 11 = _ := H 11 (by decide) (by kernel_rfl); have h12 : xv 12 = _ := H 12 (by decide) (by kernel_rfl); have h13 : xv 13 = _ := H 13 (by decide) (by kernel_rfl)
                    simp only [planCl29a, q1, q2, q3, q5, q6, q7, q4, List.drop_succ_cons, List.drop_zero, h0, h1, h2, h3, h4, h5, h6, h7, h8, h9, h10, h11, h12, h13]
                    clear H hF hN hS hU h0 h1 h2 h3 h4 h5 h6 h7 h8 h9 h10 h11 h12 h13
                    have HJ := Lib.hid hH
                    clear hH
                    have NF := Lib.hid (show nextF x ⟨18, dst, a_, b_, n_, size, name, iar, iou, to⟩ at_ = to from by unfold nextF; rw [if_pos (.inl rfl)])
                    clear b0 b1 b2 b3 b4 b5_ b6 b7 b8 b9 f0 f4 f6 f7 f8 f9
                    obtain ⟨b0, b1, b2, b3, b4, b5_, b6, b7, b8, b9⟩ := FBI.out _ HJ.out
                    go_upto_region 31 with fail
                    clear b0 b1 b2 b3 b4 b5_ b6 b7 b8 b9
                    have BX := FBI.out _ HJ.out
                    have DA := Lib.hid (do_all (IH m' (by omega)) hE (HW12.out.still HJ.out) (HF12.out.still HJ.out) GXL.out HI.out HSL.out HG.out HM.out h43 (HA.out.inv.inc hlt) HA.out.finv (by have := HA.out.cost; simp only; omega) (by have := HA.out.gas; simp only; omega))
                    obtain ⟨b0, b1, b2, b3, b4, b5_, b6, b7, b8, b9⟩ := BX
                    go_wp2_with fail
                    refine DA.out.mono ?_
                    rintro e w' hpost
                    cases ho : insOut fns tops m' fr9 { stc with steps := stc.steps + 1 } x ⟨18, dst, a_, b_, n_, size, name, iar, iou, to⟩ with
                    | go st' x' =>
                      rw [ho] at hpost
                      obtain ⟨c', hc', rfl, own', hg', hat', hfr'⟩ := hpost
                      have h1 := insOut_inv HAG.out HG.out HM.out (HA.out.inv.inc hlt) HA.out.finv m' (loopF_inv HAG.out m')
                      rw [ho] at h1
                      have h2 := insOut_lk (fns := fns) (tops := tops) (fr := fr9) (st := { stc with steps := stc.steps + 1 }) (x := x) (i := ⟨18, dst, a_, b_, n_, size, name, iar, iou, to⟩) m' (loopF_lk m')
                      rw [ho] at h2
                      have h3 := HA.out.eq.trans (loopF_step hlt HGI.out h43)
                      rw [ho] at h3
                      have h22 : (18 : Int) ≠ 22 := by decide
                      have NX := Lib.hid (next_in (x := x) HG.out HA.out.at0.1 HGI.out h43 h22)
                      have BK := And.intro (CH12.out.trans (Chg.calm ownc HJ.out)) (hg'.keeps (HJ.out.keeps HB12.out) HA.out.free (show tg ≠ b5 from fun e => LPF.out.2.2.2.1 e.symm))
                      have ATN := Lib.hid (show AtLoop w0 w w' pw own fnv tops fns pf b5 tg (.slice pp g.params.length pcap) (.slice pk g.kinds.length kcap) (.slice ps g.slots.length scap) (.slice (some ac) g.code.length ccap) (.slice (some ⟨b5, 0, none⟩) g.kinds.length g.kinds.length) vl g fr9 st.top (callF fns tops n st g args) st' x' m' (nextF x ⟨18, dst, a_, b_, n_, size, name, iar, iou, to⟩ at_) own' c' from
                        ⟨NX.out, h3, by have := HA.out.gas; have h4 := h1.2.2.1; have h5 := h1.2.2.2; simp only at h4 h5; omega, h1.1, h1.2.1, hc', ((CH12.out.trans (Chg.calm ownc HJ.out)).transG hg' LPF.out.2.2.2.2.1), hat', hfr', BK.2.1, BK.2.2, fun h => Int.lt_of_lt_of_le (HA.out.lockin h) (by have h6 : stc.locks.length ≤ st'.locks.length := h2; omega)⟩)
                      have MS := Lib.hid (show w'.cell? ⟨pw, 12, none⟩ = some (.int .i64 st'.steps) ∧ wr.cell? ⟨pw, 12, none⟩ = some (.int .i64 stc.steps) ∧ stc.steps + 1 ≤ st'.steps ∧ stc.steps < stc.fuel ∧ stc.fuel ≤ 100000 from by
                        obtain ⟨_, _, _, _, _, _, _, _, Pn⟩ := hat'
                        obtain ⟨_, _, _, _, _, _, _, _, Po⟩ := HA.out.mach
                        have h5 := h1.2.2.2
                        simp only at h5
                        exact ⟨Pn.cells.1.2.2.2.2.2.2.2.2.2.2.2.2.1, Po.cells.1.2.2.2.2.2.2.2.2.2.2.2.2.1, h5, hlt, HA.out.inv.steps.2.2⟩)
                      clear hg' hat' hfr' h1 h2 h3 ho BK
                      go_wp2_with fail
                      go_roundw
                      case rel => exact ⟨_, st', x', m', own', c', (by rw [NF.out]), by omega, ATN.out⟩
                      case measure =>
                        obtain ⟨q1, q2, q3, q4, q5⟩ := MS.out
                        rw [stepsLeft_of q1, stepsLeft_of q2]
                        omega
                    | stop st' s code =>
                      rw [ho] at hpost
                      obtain ⟨c', rfl, own', hg', hat'⟩ := hpost
                      refine ⟨rfl, ?_⟩
                      have h3 := HA.out.eq.trans (loopF_step hlt HGI.out h43)
                      rw [ho] at h3
                      rw [h3]
                      exact ⟨rfl, own', c', (CH12.out.trans (Chg.calm ownc HJ.out)).transG hg' LPF.out.2.2.2.2.1, hat'⟩
                  · have e18 : (op == 18) = false := beq_false_of_ne h18
                    by_cases h19 : op = 19
                    · subst h19
                      have G19 := goodI_form (HG.out.ins _ HM.out).1 (m := { a := true, far := true }) (by rw [show (⟨19, dst, a_, b_, n_, size, name, iar, iou, to⟩ : FIns).op = 19 from rfl]; rfl)
                      have OKA := Lib.hid (regB_ok HA.out.finv.len G19.2.1)
                      have RFX := Lib.hid (reg_facts HF12.out)
                      obtain ⟨rxc, rxe⟩ := regs_slice HF12.out (by have h := OKA.out; unfold ok1 at h; omega)
                      have OKB := Lib.hid (show 0 ≤ a_ ∧ a_ < (x.length : Nat) from OKA.out)
                      have OKC := Lib.hid (show 0 ≤ a_ ∧ a_ < (g.kinds.length : Nat) from by rw [← HA.out.finv.len]; exact OKA.out)
                      clear G19 rxe
                      by_cases hz : rg x a_ = 0
                      · have ez : (rg x a_ != 0) = false := by rw [hz]; rfl
                        have HZ := Lib.hid hz
                        have EZ := Lib.hid ez
                        clear hz ez
                        go_upto_region 29 with fail
                        refine wp_region_each 14 planCl29b (fun _ _ => False) (Step (fun _ => False) w12) (fun _ => True) [Is ?v29_15_0, Is ?v29_15_1, Is ?v29_15_2, Is ?v29_15_3, Is ?v29_15_4, Is ?v29_15_5, Is ?v29_15_6, Is ?v29_15_7, Is ?v29_15_8, Is ?v29_15_9, Is ?v29_15_10, Is ?v29_15_11, Is ?v29_15_12, Is ?v29_15_13] [] (by kernel_rfl) (by kernel_rfl) (fun _ _ h => h.elim) ((Step.refl _ _).drew) (trivial) ?stab29_15 ?stabD29_15 ?obl29_15 ?fin29_15
                        case stab29_15 => exact fun w w' h => ⟨fun k => k.trans h (fun _ x => x.elim), fun _ => trivial, ⟨fun _ k => k, fun _ k => k, fun _ k => k, fun _ k => k, fun _ k => k, fun _ k => k, fun _ k => k, fun _ k => k, fun _ k => k, fun _ k => k, fun _ k => k, fun _ k => k, fun _ k => k, fun _ k => k, trivial⟩, trivial⟩
                        case stabD29_15 => exact fun _ _ h => h.elim
                        case obl29_15 =>
                          refine ⟨?o29_15_0, ?o29_15_1, ?o29_15_2, ?o29_15_3, ?o29_15_4, ?o29_15_5, ?o29_15_6, ?o29_15_7, ?o29_15_8, ?o29_15_9, ?o29_15_10, ?o29_15_11, ?o29_15_12, ?o29_15_13, trivial⟩
                          all_goals intro xv wq hH hS H hU aq ha Q' hQ
                          case o29_15_0 => cases rd0 ha; clear H hU hS; go_wp2_with fail; (try refine hQ _ _ ?_); refine ⟨Step.refl _ _, ?_, trivial, nofun⟩; exact (rfl : _ = _)
                          case o29_15_1 | o29_15_2 => obtain ⟨b0, b1, b2, b3, b4, b5_, b6, b7, b8, b9⟩ := FBI.out _ hH; obtain ⟨f0, f4, f6, f7, f8, f9⟩ := FF12.out _ hH; have ez := EZ.out; obtain ⟨cra, _⟩ := RFX.out _ hH a_ OKB.out; obtain ⟨ob1, ob2⟩ := OKC.out; have ha := rd1 ha H (by kernel_rfl) rfl; simp only [q3, q5, q6, q7] at ha; subst ha; clear H hU hS; go_wp2_with fail; (try refine hQ _ _ ?_); refine ⟨Step.refl _ _, ?_, trivial, nofun⟩; exact (rfl : _ = _)
                          case o29_15_3 => have ha := rd1 ha H (by kernel_rfl) rfl; simp only [q3, q5, q6, q7] at ha; subst ha; clear H hU hS; go_wp2_with fail; (try refine hQ _ _ ?_); refine ⟨Step.refl _ _, ?_, trivial, nofun⟩; exact (rfl : _ = _)
                          case o29_15_4 => obtain ⟨b0, b1, b2, b3, b4, b5_, b6, b7, b8, b9⟩ := FBI.out _ hH; obtain ⟨f0, f4, f6, f7, f8, f9⟩ := FF12.out _ hH; have ez := EZ.out; obtain ⟨cra, _⟩ := RFX.out _ hH a_ OKB.out; obtain ⟨ob1, ob2⟩ := OKC.out; have ha := rd1 ha H (by kernel_rfl) rfl; simp only [q3, q5, q6, q7] at ha; subst ha; clear H hU hS; go_wp2_with fail; (try refine hQ _ _ ?_); refine ⟨Step.refl _ _, ?_, trivial, nofun⟩; exact (rfl : _ = _)
                          case o29_15_5 | o29_15_6 | o29_15_7 => obtain ⟨b0, b1, b2, b3, b4, b5_, b6, b7, b8, b9⟩ := FBI.out _ hH; obtain ⟨f0, f4, f6, f7, f8, f9⟩ := FF12.out _ hH; have ez := EZ.out; obtain ⟨cra, _⟩ := RFX.out _ hH a_ OKB.out; obtain ⟨ob1, ob2⟩ := OKC.out; have ha := rd2 ha H (by kernel_rfl) (by kernel_rfl) rfl rfl; simp only [q3, q5, q6, q7] at ha; subst ha; clear H hU hS; go_wp2_with fail; (try refine hQ _ _ ?_); refine ⟨Step.refl _ _, ?_, trivial, nofun⟩; exact (rfl : _ = _)
                          case o29_15_8 => obtain ⟨b0, b1, b2, b3, b4, b5_, b6, b7, b8, b9⟩ := FBI.out _ hH; obtain ⟨f0, f4, f6, f7, f8, f9⟩ := FF12.out _ hH; have ez := EZ.out; obtain ⟨cra, _⟩ := RFX.out _ hH a_ OKB.out; obtain ⟨ob1, ob2⟩ := OKC.out; have ha := rd1 ha H (by kernel_rfl) rfl; simp only [q3, q5, q6, q7] at ha; subst ha; clear H hU hS; go_wp2_with fail; (try refine hQ _ _ ?_); refine ⟨Step.refl _ _, ?_, trivial, nofun⟩; exact (rfl : _ = _)
                          case o29_15_9 | o29_15_10 | o29_15_11 => obtain ⟨b0, b1, b2, b3, b4, b5_, b6, b7, b8, b9⟩ := FBI.out _ hH; obtain ⟨f0, f4, f6, f7, f8, f9⟩ := FF12.out _ hH; have ez := EZ.out; obtain ⟨cra, _⟩ := RFX.out _ hH a_ OKB.out; obtain ⟨ob1, ob2⟩ := OKC.out; have ha := rd2 ha H (by kernel_rfl) (by kernel_rfl) rfl rfl; simp only [q3, q5, q6, q7] at ha; subst ha; clear H hU hS; go_wp2_with fail; (try refine hQ _ _ ?_); refine ⟨Step.refl _ _, ?_, trivial, nofun⟩; exact (rfl : _ = _)
                          case o29_15_12 => obtain ⟨b0, b1, b2, b3, b4, b5_, b6, b7, b8, b9⟩ := FBI.out _ hH; obtain ⟨f0, f4, f6, f7, f8, f9⟩ := FF12.out _ hH; have ez := EZ.out; obtain ⟨cra, _⟩ := RFX.out _ hH a_ OKB.out; obtain ⟨ob1, ob2⟩ := OKC.out; have ha := rd1 ha H (by kernel_rfl) rfl; simp only [q3, q5, q6, q7] at ha; subst ha; clear H hU hS; go_wp2_with fail; (try refine hQ _ _ ?_); refine ⟨Step.refl _ _, ?_, trivial, nofun⟩; exact (rfl : _ = _)
                          case o29_15_13 => obtain ⟨b0, b1, b2, b3, b4, b5_, b6, b7, b8, b9⟩ := FBI.out _ hH; obtain ⟨f0, f4, f6, f7, f8, f9⟩ := FF12.out _ hH; have ez := EZ.out; obtain ⟨cra, _⟩ := RFX.out _ hH a_ OKB.out; obtain ⟨ob1, ob2⟩ := OKC.out; have ha := rd2 ha H (by kernel_rfl) (by kernel_rfl) rfl rfl; simp only [q3, q5, q6, q7] at ha; subst ha; clear H hU hS; go_wp2_with fail; (try refine hQ _ _ ?_); refine ⟨Step.refl _ _, ?_, trivial, nofun⟩; exact (rfl : _ = _)
                        intro xv w13 hH hS H hU hsz hF hN
                        have h0 : xv 0 = _ := H 0 (by decide) (by kernel_rfl); have h1 : xv 1 = _ := H 1 (by decide) (by kernel_rfl); have h2 : xv 2 = _ := H 2 (by decide) (by kernel_rfl); have h3 : xv 3 = _ := H 3 (by decide) (by kernel_rfl); have h4 : xv 4 = _ := H 4 (by decide) (by kernel_rfl); have h5 : xv 5 = _ := H 5 (by decide) (by kernel_rfl); have h6 : xv 6 = _ := H 6 (by decide) (by kernel_rfl); have h7 : xv 7 = _ := H 7 (by decide) (by kernel_rfl); have h8 : xv 8 = _ := H 8 (by decide) (by kernel_rfl); have h9 : xv 9 = _ := H 9 (by decide) (by kernel_rfl); have h10 : xv 10 = _ := H 10 (by decide) (by kernel_rfl); have h11 : xv 11 = _ := H 11 (by decide) (by kernel_rfl); have h12 : xv 12 = _ := H 12 (by decide) (by kernel_rfl); have h13 : xv 13 = _ := H 13 (by decide) (by kernel_rfl)
                        simp only [planCl29b, q1, q2, q3, q5, q6, q7, q4, List.drop_succ_cons, List.drop_zero, h0, h1, h2, h3, h4, h5, h6, h7, h8, h9, h10, h11, h12, h13]
                        clear H hF hN hS hU h0 h1 h2 h3 h4 h5 h6 h7 h8 h9 h10 h11 h12 h13
                        have HJ := Lib.hid hH
                        clear hH
                        have NF := Lib.hid (show nextF x ⟨19, dst, a_, b_, n_, size, name, iar, iou, to⟩ at_ = at_ + 1 from by unfold nextF; rw [if_neg (by intro h; rcases h with h | ⟨_, h⟩; exact h18 h; exact h HZ.out)])
                        clear b0 b1 b2 b3 b4 b5_ b6 b7 b8 b9 f0 f4 f6 f7 f8 f9
                        obtain ⟨b0, b1, b2, b3, b4, b5_, b6, b7, b8, b9⟩ := FBI.out _ HJ.out
                        have ez := EZ.out
                        obtain ⟨cra, _⟩ := RFX.out _ HJ.out a_ OKB.out
                        obtain ⟨ob1, ob2⟩ := OKC.out
                        go_upto_region 31 with fail
                        clear ez cra ob1 ob2
                        clear b0 b1 b2 b3 b4 b5_ b6 b7 b8 b9
                        have BX := FBI.out _ HJ.out
                        have DA := Lib.hid (do_all (IH m' (by omega)) hE (HW12.out.still HJ.out) (HF12.out.still HJ.out) GXL.out HI.out HSL.out HG.out HM.out h43 (HA.out.inv.inc hlt) HA.out.finv (by have := HA.out.cost; simp only; omega) (by have := HA.out.gas; simp only; omega))
                        obtain ⟨b0, b1, b2, b3, b4, b5_, b6, b7, b8, b9⟩ := BX
                        go_wp2_with fail
                        refine DA.out.mono ?_
                        rintro e w' hpost
                        cases ho : insOut fns tops m' fr9 { stc with steps := stc.steps + 1 } x ⟨19, dst, a_, b_, n_, size, name, iar, iou, to⟩ with
                        | go st' x' =>
                          rw [ho] at hpost
                          obtain ⟨c', hc', rfl, own', hg', hat', hfr'⟩ := hpost
                          have h1 := insOut_inv HAG.out HG.out HM.out (HA.out.inv.inc hlt) HA.out.finv m' (loopF_inv HAG.out m')
                          rw [ho] at h1
                          have h2 := insOut_lk (fns := fns) (tops := tops) (fr := fr9) (st := { stc with steps := stc.steps + 1 }) (x := x) (i := ⟨19, dst, a_, b_, n_, size, name, iar, iou, to⟩) m' (loopF_lk m')
                          rw [ho] at h2
                          have h3 := HA.out.eq.trans (loopF_step hlt HGI.out h43)
                          rw [ho] at h3
                          have h22 : (19 : Int) ≠ 22 := by decide
                          have NX := Lib.hid (next_in (x := x) HG.out HA.out.at0.1 HGI.out h43 h22)
                          have BK := And.intro (CH12.out.trans (Chg.calm ownc HJ.out)) (hg'.keeps (HJ.out.keeps HB12.out) HA.out.free (show tg ≠ b5 from fun e => LPF.out.2.2.2.1 e.symm))
                          have ATN := Lib.hid (show AtLoop w0 w w' pw own fnv tops fns pf b5 tg (.slice pp g.params.length pcap) (.slice pk g.kinds.length kcap) (.slice ps g.slots.length scap) (.slice (some ac) g.code.length ccap) (.slice (some ⟨b5, 0, none⟩) g.kinds.length g.kinds.length) vl g fr9 st.top (callF fns tops n st g args) st' x' m' (nextF x ⟨19, dst, a_, b_, n_, size, name, iar, iou, to⟩ at_) own' c' from
                            ⟨NX.out, h3, by have := HA.out.gas; have h4 := h1.2.2.1; have h5 := h1.2.2.2; simp only at h4 h5; omega, h1.1, h1.2.1, hc', ((CH12.out.trans (Chg.calm ownc HJ.out)).transG hg' LPF.out.2.2.2.2.1), hat', hfr', BK.2.1, BK.2.2, fun h => Int.lt_of_lt_of_le (HA.out.lockin h) (by have h6 : stc.locks.length ≤ st'.locks.length := h2; omega)⟩)
                          have MS := Lib.hid (show w'.cell? ⟨pw, 12, none⟩ = some (.int .i64 st'.steps) ∧ wr.cell? ⟨pw, 12, none⟩ = some (.int .i64 stc.steps) ∧ stc.steps + 1 ≤ st'.steps ∧ stc.steps < stc.fuel ∧ stc.fuel ≤ 100000 from by
                            obtain ⟨_, _, _, _, _, _, _, _, Pn⟩ := hat'
                            obtain ⟨_, _, _, _, _, _, _, _, Po⟩ := HA.out.mach
                            have h5 := h1.2.2.2
                            simp only at h5
                            exact ⟨Pn.cells.1.2.2.2.2.2.2.2.2.2.2.2.2.1, Po.cells.1.2.2.2.2.2.2.2.2.2.2.2.2.1, h5, hlt, HA.out.inv.steps.2.2⟩)
                          clear hg' hat' hfr' h1 h2 h3 ho BK
                          go_wp2_with fail
                          go_roundw
                          case rel => exact ⟨_, st', x', m', own', c', (by rw [NF.out]), by omega, ATN.out⟩
                          case measure =>
                            obtain ⟨q1, q2, q3, q4, q5⟩ := MS.out
                            rw [stepsLeft_of q1, stepsLeft_of q2]
                            omega
                        | stop st' s code =>
                          rw [ho] at hpost
                          obtain ⟨c', rfl, own', hg', hat'⟩ := hpost
                          refine ⟨rfl, ?_⟩
                          have h3 := HA.out.eq.trans (loopF_step hlt HGI.out h43)
                          rw [ho] at h3
                          rw [h3]
                          exact ⟨rfl, own', c', (CH12.out.trans (Chg.calm ownc HJ.out)).transG hg' LPF.out.2.2.2.2.1, hat'⟩
                      · have ez : (rg x a_ != 0) = true := by simpa using hz
                        have HZ := Lib.hid hz
                        have EZ := Lib.hid ez
                        clear hz ez
                        go_upto_region 29 with fail
                        refine wp_region_each 14 planCl29c (fun _ _ => False) (Step (fun _ => False) w12) (fun _ => True) [Is ?v29_16_0, Is ?v29_16_1, Is ?v29_16_2, Is ?v29_16_3, Is ?v29_16_4, Is ?v29_16_5, Is ?v29_16_6, Is ?v29_16_7, Is ?v29_16_8, Is ?v29_16_9, Is ?v29_16_10, Is ?v29_16_11, Is ?v29_16_12, Is ?v29_16_13] [] (by kernel_rfl) (by kernel_rfl) (fun _ _ h => h.elim) ((Step.refl _ _).drew) (trivial) ?stab29_16 ?stabD29_16 ?obl29_16 ?fin29_16
                        case stab29_16 => exact fun w w' h => ⟨fun k => k.trans h (fun _ x => x.elim), fun _ => trivial, ⟨fun _ k => k, fun _ k => k, fun _ k => k, fun _ k => k, fun _ k => k, fun _ k => k, fun _ k => k, fun _ k => k, fun _ k => k, fun _ k => k, fun _ k => k, fun _ k => k, fun _ k => k, fun _ k => k, trivial⟩, trivial⟩
                        case stabD29_16 => exact fun _ _ h => h.elim
                        case obl29_16 =>
                          refine ⟨?o29_16_0, ?o29_16_1, ?o29_16_2, ?o29_16_3, ?o29_16_4, ?o29_16_5, ?o29_16_6, ?o29_16_7, ?o29_16_8, ?o29_16_9, ?o29_16_10, ?o29_16_11, ?o29_16_12, ?o29_16_13, trivial⟩
                          all_goals intro xv wq hH hS H hU aq ha Q' hQ
                          case o29_16_0 => cases rd0 ha; clear H hU hS; go_wp2_with fail; (try refine hQ _ _ ?_); refine ⟨Step.refl _ _, ?_, trivial, nofun⟩; exact (rfl : _ = _)
                          case o29_16_1 | o29_16_2 => obtain ⟨b0, b1, b2, b3, b4, b5_, b6, b7, b8, b9⟩ := FBI.out _ hH; obtain ⟨f0, f4, f6, f7, f8, f9⟩ := FF12.out _ hH; have ez := EZ.out; obtain ⟨cra, _⟩ := RFX.out _ hH a_ OKB.out; obtain ⟨ob1, ob2⟩ := OKC.out; have ha := rd1 ha H (by kernel_rfl) rfl; simp only [q3, q5, q6, q7] at ha; subst ha; clear H hU hS; go_wp2_with fail; (try refine hQ _ _ ?_); refine ⟨Step.refl _ _, ?_, trivial, nofun⟩; exact (rfl : _ = _)
                          case o29_16_3 => have ha := rd1 ha H (by kernel_rfl) rfl; simp only [q3, q5, q6, q7] at ha; subst ha; clear H hU hS; go_wp2_with fail; (try refine hQ _ _ ?_); refine ⟨Step.refl _ _, ?_, trivial, nofun⟩; exact (rfl : _ = _)
                          case o29_16_4 => obtain ⟨b0, b1, b2, b3, b4, b5_, b6, b7, b8, b9⟩ := FBI.out _ hH; obtain ⟨f0, f4, f6, f7, f8, f9⟩ := FF12.out _ hH; have ez := EZ.out; obtain ⟨cra, _⟩ := RFX.out _ hH a_ OKB.out; obtain ⟨ob1, ob2⟩ := OKC.out; have ha := rd1 ha H (by kernel_rfl) rfl; simp only [q3, q5, q6, q7] at ha; subst ha; clear H hU hS; go_wp2_with fail; (try refine hQ _ _ ?_); refine ⟨Step.refl _ _, ?_, trivial, nofun⟩; exact (rfl : _ = _)
                          case o29_16_5 | o29_16_6 | o29_16_7 => obtain ⟨b0, b1, b2, b3, b4, b5_, b6, b7, b8, b9⟩ := FBI.out _ hH; obtain ⟨f0, f4, f6, f7, f8, f9⟩ := FF12.out _ hH; have ez := EZ.out; obtain ⟨cra, _⟩ := RFX.out _ hH a_ OKB.out; obtain ⟨ob1, ob2⟩ := OKC.out; have ha := rd2 ha H (by kernel_rfl) (by kernel_rfl) rfl rfl; simp only [q3, q5, q6, q7] at ha; subst ha; clear H hU hS; go_wp2_with fail; (try refine hQ _ _ ?_); refine ⟨Step.refl _ _, ?_, trivial, nofun⟩; exact (rfl : _ = _)
                          case o29_16_8 => obtain ⟨b0, b1, b2, b3, b4, b5_, b6, b7, b8, b9⟩ := FBI.out _ hH; obtain ⟨f0, f4, f6, f7, f8, f9⟩ := FF12.out _ hH; have ez := EZ.out; obtain ⟨cra, _⟩ := RFX.out _ hH a_ OKB.out; obtain ⟨ob1, ob2⟩ := OKC.out; have ha := rd1 ha H (by kernel_rfl) rfl; simp only [q3, q5, q6, q7] at ha; subst ha; clear H hU hS; go_wp2_with fail; (try refine hQ _ _ ?_); refine ⟨Step.refl _ _, ?_, trivial, nofun⟩; exact (rfl : _ = _)
                          case o29_16_9 | o29_16_10 | o29_16_11 => obtain ⟨b0, b1, b2, b3, b4, b5_, b6, b7, b8, b9⟩ := FBI.out _ hH; obtain ⟨f0, f4, f6, f7, f8, f9⟩ := FF12.out _ hH; have ez := EZ.out; obtain ⟨cra, _⟩ := RFX.out _ hH a_ OKB.out; obtain ⟨ob1, ob2⟩ := OKC.out; have ha := rd2 ha H (by kernel_rfl) (by kernel_rfl) rfl rfl; simp only [q3, q5, q6, q7] at ha; subst ha; clear H hU hS; go_wp2_with fail; (try refine hQ _ _ ?_); refine ⟨Step.refl _ _, ?_, trivial, nofun⟩; exact (rfl : _ = _)
                          case o29_16_12 => obtain ⟨b0, b1, b2, b3, b4, b5_, b6, b7, b8, b9⟩ := FBI.out _ hH; obtain ⟨f0, f4, f6, f7, f8, f9⟩ := FF12.out _ hH; have ez := EZ.out; obtain ⟨cra, _⟩ := RFX.out _ hH a_ OKB.out; obtain ⟨ob1, ob2⟩ := OKC.out; have ha := rd1 ha H (by kernel_rfl) rfl; simp only [q3, q5, q6, q7] at ha; subst ha; clear H hU hS; go_wp2_with fail; (try refine hQ _ _ ?_); refine ⟨Step.refl _ _, ?_, trivial, nofun⟩; exact (rfl : _ = _)
                          case o29_16_13 => obtain ⟨b0, b1, b2, b3, b4, b5_, b6, b7, b8, b9⟩ := FBI.out _ hH; obtain ⟨f0, f4, f6, f7, f8, f9⟩ := FF12.out _ hH; have ez := EZ.out; obtain ⟨cra, _⟩ := RFX.out _ hH a_ OKB.out; obtain ⟨ob1, ob2⟩ := OKC.out; have ha := rd2 ha H (by kernel_rfl) (by kernel_rfl) rfl rfl; simp only [q3, q5, q6, q7] at ha; subst ha; clear H hU hS; go_wp2_with fail; (try refine hQ _ _ ?_); refine ⟨Step.refl _ _, ?_, trivial, nofun⟩; exact (rfl : _ = _)
                        intro xv w13 hH hS H hU hsz hF hN
                        have h0 : xv 0 = _ := H 0 (by decide) (by kernel_rfl); have h1 : xv 1 = _ := H 1 (by decide) (by kernel_rfl); have h2 : xv 2 = _ := H 2 (by decide) (by kernel_rfl); have h3 : xv 3 = _ := H 3 (by decide) (by kernel_rfl); have h4 : xv 4 = _ := H 4 (by decide) (by kernel_rfl); have h5 : xv 5 = _ := H 5 (by decide) (by kernel_rfl); have h6 : xv 6 = _ := H 6 (by decide) (by kernel_rfl); have h7 : xv 7 = _ := H 7 (by decide) (by kernel_rfl); have h8 : xv 8 = _ := H 8 (by decide) (by kernel_rfl); have h9 : xv 9 = _ := H 9 (by decide) (by kernel_rfl); have h10 : xv 10 = _ := H 10 (by decide) (by kernel_rfl); have h11 : xv 11 = _ := H 11 (by decide) (by kernel_rfl); have h12 : xv 12 = _ := H 12 (by decide) (by kernel_rfl); have h13 : xv 13 = _ := H 13 (by decide) (by kernel_rfl)
                        simp only [planCl29c, q1, q2, q3, q5, q6, q7, q4, List.drop_succ_cons, List.drop_zero, h0, h1, h2, h3, h4, h5, h6, h7, h8, h9, h10, h11, h12, h13]
                        clear H hF hN hS hU h0 h1 h2 h3 h4 h5 h6 h7 h8 h9 h10 h11 h12 h13
                        have HJ := Lib.hid hH
                        clear hH
                        have NF := Lib.hid (show nextF x ⟨19, dst, a_, b_, n_, size, name, iar, iou, to⟩ at_ = to from by unfold nextF; rw [if_pos (.inr ⟨rfl, HZ.out⟩)])
                        clear b0 b1 b2 b3 b4 b5_ b6 b7 b8 b9 f0 f4 f6 f7 f8 f9
                        obtain ⟨b0, b1, b2, b3, b4, b5_, b6, b7, b8, b9⟩ := FBI.out _ HJ.out
                        have ez := EZ.out
                        obtain ⟨cra, _⟩ := RFX.out _ HJ.out a_ OKB.out
                        obtain ⟨ob1, ob2⟩ := OKC.out
                        go_upto_region 31 with fail
                        clear ez cra ob1 ob2
                        clear b0 b1 b2 b3 b4 b5_ b6 b7 b8 b9
                        have BX := FBI.out _ HJ.out
                        have DA := Lib.hid (do_all (IH m' (by omega)) hE (HW12.out.still HJ.out) (HF12.out.still HJ.out) GXL.out HI.out HSL.out HG.out HM.out h43 (HA.out.inv.inc hlt) HA.out.finv (by have := HA.out.cost; simp only; omega) (by have := HA.out.gas; simp only; omega))
                        obtain ⟨b0, b1, b2, b3, b4, b5_, b6, b7, b8, b9⟩ := BX
                        go_wp2_with fail
                        refine DA.out.mono ?_
                        rintro e w' hpost
                        cases ho : insOut fns tops m' fr9 { stc with steps := stc.steps + 1 } x ⟨19, dst, a_, b_, n_, size, name, iar, iou, to⟩ with
                        | go st' x' =>
                          rw [ho] at hpost
                          obtain ⟨c', hc', rfl, own', hg', hat', hfr'⟩ := hpost
                          have h1 := insOut_inv HAG.out HG.out HM.out (HA.out.inv.inc hlt) HA.out.finv m' (loopF_inv HAG.out m')
                          rw [ho] at h1
                          have h2 := insOut_lk (fns := fns) (tops := tops) (fr := fr9) (st := { stc with steps := stc.steps + 1 }) (x := x) (i := ⟨19, dst, a_, b_, n_, size, name, iar, iou, to⟩) m' (loopF_lk m')
                          rw [ho] at h2
                          have h3 := HA.out.eq.trans (loopF_step hlt HGI.out h43)
                          rw [ho] at h3
                          have h22 : (19 : Int) ≠ 22 := by decide
                          have NX := Lib.hid (next_in (x := x) HG.out HA.out.at0.1 HGI.out h43 h22)
                          have BK := And.intro (CH12.out.trans (Chg.calm ownc HJ.out)) (hg'.keeps (HJ.out.keeps HB12.out) HA.out.free (show tg ≠ b5 from fun e => LPF.out.2.2.2.1 e.symm))
                          have ATN := Lib.hid (show AtLoop w0 w w' pw own fnv tops fns pf b5 tg (.slice pp g.params.length pcap) (.slice pk g.kinds.length kcap) (.slice ps g.slots.length scap) (.slice (some ac) g.code.length ccap) (.slice (some ⟨b5, 0, none⟩) g.kinds.length g.kinds.length) vl g fr9 st.top (callF fns tops n st g args) st' x' m' (nextF x ⟨19, dst, a_, b_, n_, size, name, iar, iou, to⟩ at_) own' c' from
                            ⟨NX.out, h3, by have := HA.out.gas; have h4 := h1.2.2.1; have h5 := h1.2.2.2; simp only at h4 h5; omega, h1.1, h1.2.1, hc', ((CH12.out.trans (Chg.calm ownc HJ.out)).transG hg' LPF.out.2.2.2.2.1), hat', hfr', BK.2.1, BK.2.2, fun h => Int.lt_of_lt_of_le (HA.out.lockin h) (by have h6 : stc.locks.length ≤ st'.locks.length := h2; omega)⟩)
                          have MS := Lib.hid (show w'.cell? ⟨pw, 12, none⟩ = some (.int .i64 st'.steps) ∧ wr.cell? ⟨pw, 12, none⟩ = some (.int .i64 stc.steps) ∧ stc.steps + 1 ≤ st'.steps ∧ stc.steps < stc.fuel ∧ stc.fuel ≤ 100000 from by
                            obtain ⟨_, _, _, _, _, _, _, _, Pn⟩ := hat'
                            obtain ⟨_, _, _, _, _, _, _, _, Po⟩ := HA.out.mach
                            have h5 := h1.2.2.2
                            simp only at h5
                            exact ⟨Pn.cells.1.2.2.2.2.2.2.2.2.2.2.2.2.1, Po.cells.1.2.2.2.2.2.2.2.2.2.2.2.2.1, h5, hlt, HA.out.inv.steps.2.2⟩)
                          clear hg' hat' hfr' h1 h2 h3 ho BK
                          go_wp2_with fail
                          go_roundw
                          case rel => exact ⟨_, st', x', m', own', c', (by rw [NF.out]), by omega, ATN.out⟩
                          case measure =>
                            obtain ⟨q1, q2, q3, q4, q5⟩ := MS.out
                            rw [stepsLeft_of q1, stepsLeft_of q2]
                            omega
                        | stop st' s code =>
                          rw [ho] at hpost
                          obtain ⟨c', rfl, own', hg', hat'⟩ := hpost
                          refine ⟨rfl, ?_⟩
                          have h3 := HA.out.eq.trans (loopF_step hlt HGI.out h43)
                          rw [ho] at h3
                          rw [h3]
                          exact ⟨rfl, own', c', (CH12.out.trans (Chg.calm ownc HJ.out)).transG hg' LPF.out.2.2.2.2.1, hat'⟩
                    · have e19 : (op == 19) = false := beq_false_of_ne h19
                      go_upto_region 29 with fail
                      refine wp_region_each 14 planCl29d (fun _ _ => False) (Step (fun _ => False) w12) (fun _ => True) [Is ?v29_17_0, Is ?v29_17_1, Is ?v29_17_2, Is ?v29_17_3, Is ?v29_17_4, Is ?v29_17_5, Is ?v29_17_6, Is ?v29_17_7, Is ?v29_17_8, Is ?v29_17_9, Is ?v29_17_10, Is ?v29_17_11, Is ?v29_17_12, Is ?v29_17_13] [] (by kernel_rfl) (by kernel_rfl) (fun _ _ h => h.elim) ((Step.refl _ _).drew) (trivial) ?stab29_17 ?stabD29_17 ?obl29_17 ?fin29_17
                      case stab29_17 => exact fun w w' h => ⟨fun k => k.trans h (fun _ x => x.elim), fun _ => trivial, ⟨fun _ k => k, fun _ k => k, fun _ k => k, fun _ k => k, fun _ k => k, fun _ k => k, fun _ k => k, fun _ k => k, fun _ k => k, fun _ k => k, fun _ k => k, fun _ k => k, fun _ k => k, fun _ k => k, trivial⟩, trivial⟩
                      case stabD29_17 => exact fun _ _ h => h.elim
                      case obl29_17 =>
                        refine ⟨?o29_17_0, ?o29_17_1, ?o29_17_2, ?o29_17_3, ?o29_17_4, ?o29_17_5, ?o29_17_6, ?o29_17_7, ?o29_17_8, ?o29_17_9, ?o29_17_10, ?o29_17_11, ?o29_17_12, ?o29_17_13, trivial⟩
                        all_goals intro xv wq hH hS H hU aq ha Q' hQ
                        case o29_17_0 => cases rd0 ha; clear H hU hS; go_wp2_with fail; (try refine hQ _ _ ?_); refine ⟨Step.refl _ _, ?_, trivial, nofun⟩; exact (rfl : _ = _)
                        case o29_17_1 | o29_17_2 => obtain ⟨b0, b1, b2, b3, b4, b5_, b6, b7, b8, b9⟩ := FBI.out _ hH; obtain ⟨f0, f4, f6, f7, f8, f9⟩ := FF12.out _ hH; have ha := rd1 ha H (by kernel_rfl) rfl; simp only [q3, q5, q6, q7] at ha; subst ha; clear H hU hS; go_wp2_with fail; (try refine hQ _ _ ?_); refine ⟨Step.refl _ _, ?_, trivial, nofun⟩; exact (rfl : _ = _)
                        case o29_17_3 => have ha := rd1 ha H (by kernel_rfl) rfl; simp only [q3, q5, q6, q7] at ha; subst ha; clear H hU hS; go_wp2_with fail; (try refine hQ _ _ ?_); refine ⟨Step.refl _ _, ?_, trivial, nofun⟩; exact (rfl : _ = _)
                        case o29_17_4 => obtain ⟨b0, b1, b2, b3, b4, b5_, b6, b7, b8, b9⟩ := FBI.out _ hH; obtain ⟨f0, f4, f6, f7, f8, f9⟩ := FF12.out _ hH; have ha := rd1 ha H (by kernel_rfl) rfl; simp only [q3, q5, q6, q7] at ha; subst ha; clear H hU hS; go_wp2_with fail; (try refine hQ _ _ ?_); refine ⟨Step.refl _ _, ?_, trivial, nofun⟩; exact (rfl : _ = _)
                        case o29_17_5 | o29_17_6 | o29_17_7 => obtain ⟨b0, b1, b2, b3, b4, b5_, b6, b7, b8, b9⟩ := FBI.out _ hH; obtain ⟨f0, f4, f6, f7, f8, f9⟩ := FF12.out _ hH; have ha := rd2 ha H (by kernel_rfl) (by kernel_rfl) rfl rfl; simp only [q3, q5, q6, q7] at ha; subst ha; clear H hU hS; go_wp2_with fail; (try refine hQ _ _ ?_); refine ⟨Step.refl _ _, ?_, trivial, nofun⟩; exact (rfl : _ = _)
                        case o29_17_8 => obtain ⟨b0, b1, b2, b3, b4, b5_, b6, b7, b8, b9⟩ := FBI.out _ hH; obtain ⟨f0, f4, f6, f7, f8, f9⟩ := FF12.out _ hH; have ha := rd1 ha H (by kernel_rfl) rfl; simp only [q3, q5, q6, q7] at ha; subst ha; clear H hU hS; go_wp2_with fail; (try refine hQ _ _ ?_); refine ⟨Step.refl _ _, ?_, trivial, nofun⟩; exact (rfl : _ = _)
                        case o29_17_9 | o29_17_10 | o29_17_11 => obtain ⟨b0, b1, b2, b3, b4, b5_, b6, b7, b8, b9⟩ := FBI.out _ hH; obtain ⟨f0, f4, f6, f7, f8, f9⟩ := FF12.out _ hH; have ha := rd2 ha H (by kernel_rfl) (by kernel_rfl) rfl rfl; simp only [q3, q5, q6, q7] at ha; subst ha; clear H hU hS; go_wp2_with fail; (try refine hQ _ _ ?_); refine ⟨Step.refl _ _, ?_, trivial, nofun⟩; exact (rfl : _ = _)
                        case o29_17_12 => obtain ⟨b0, b1, b2, b3, b4, b5_, b6, b7, b8, b9⟩ := FBI.out _ hH; obtain ⟨f0, f4, f6, f7, f8, f9⟩ := FF12.out _ hH; have ha := rd1 ha H (by kernel_rfl) rfl; simp only [q3, q5, q6, q7] at ha; subst ha; clear H hU hS; go_wp2_with fail; (try refine hQ _ _ ?_); refine ⟨Step.refl _ _, ?_, trivial, nofun⟩; exact (rfl : _ = _)
                        case o29_17_13 => obtain ⟨b0, b1, b2, b3, b4, b5_, b6, b7, b8, b9⟩ := FBI.out _ hH; obtain ⟨f0, f4, f6, f7, f8, f9⟩ := FF12.out _ hH; have ha := rd2 ha H (by kernel_rfl) (by kernel_rfl) rfl rfl; simp only [q3, q5, q6, q7] at ha; subst ha; clear H hU hS; go_wp2_with fail; (try refine hQ _ _ ?_); refine ⟨Step.refl _ _, ?_, trivial, nofun⟩; exact (rfl : _ = _)
                      intro xv w13 hH hS H hU hsz hF hN
                      have h0 : xv 0 = _ := H 0 (by decide) (by kernel_rfl); have h1 : xv 1 = _ := H 1 (by decide) (by kernel_rfl); have h2 : xv 2 = _ := H 2 (by decide) (by kernel_rfl); have h3 : xv 3 = _ := H 3 (by decide) (by kernel_rfl); have h4 : xv 4 = _ := H 4 (by decide) (by kernel_rfl); have h5 : xv 5 = _ := H 5 (by decide) (by kernel_rfl); have h6 : xv 6 = _ := H 6 (by decide) (by kernel_rfl); have h7 : xv 7 = _ := H 7 (by decide) (by kernel_rfl); have h8 : xv 8 = _ := H 8 (by decide) (by kernel_rfl); have h9 : xv 9 = _ := H 9 (by decide) (by kernel_rfl); have h10 : xv 10 = _ := H 10 (by decide) (by kernel_rfl); have h11 : xv 11 = _ := H 11 (by decide) (by kernel_rfl); have h12 : xv 12 = _ := H 12 (by decide) (by kernel_rfl); have h13 : xv 13 = _ := H 13 (by decide) (by kernel_rfl)
                      simp only [planCl29d, q1, q2, q3, q5, q6, q7, q4, List.drop_succ_cons, List.drop_zero, h0, h1, h2, h3, h4, h5, h6, h7, h8, h9, h10, h11, h12, h13]
                      clear H hF hN hS hU h0 h1 h2 h3 h4 h5 h6 h7 h8 h9 h10 h11 h12 h13
                      have HJ := Lib.hid hH
                      clear hH
                      have NF := Lib.hid (show nextF x ⟨op, dst, a_, b_, n_, size, name, iar, iou, to⟩ at_ = at_ + 1 from by unfold nextF; rw [if_neg (by intro h; rcases h with h | ⟨h, _⟩; exact h18 h; exact h19 h)])
                      clear b0 b1 b2 b3 b4 b5_ b6 b7 b8 b9 f0 f4 f6 f7 f8 f9
                      obtain ⟨b0, b1, b2, b3, b4, b5_, b6, b7, b8, b9⟩ := FBI.out _ HJ.out
                      go_upto_region 31 with fail
                      clear b0 b1 b2 b3 b4 b5_ b6 b7 b8 b9
                      have BX := FBI.out _ HJ.out
                      have DA := Lib.hid (do_all (IH m' (by omega)) hE (HW12.out.still HJ.out) (HF12.out.still HJ.out) GXL.out HI.out HSL.out HG.out HM.out h43 (HA.out.inv.inc hlt) HA.out.finv (by have := HA.out.cost; simp only; omega) (by have := HA.out.gas; simp only; omega))
                      obtain ⟨b0, b1, b2, b3, b4, b5_, b6, b7, b8, b9⟩ := BX
                      go_wp2_with fail
                      refine DA.out.mono ?_
                      rintro e w' hpost
                      cases ho : insOut fns tops m' fr9 { stc with steps := stc.steps + 1 } x ⟨op, dst, a_, b_, n_, size, name, iar, iou, to⟩ with
                      | go st' x' =>
                        rw [ho] at hpost
                        obtain ⟨c', hc', rfl, own', hg', hat', hfr'⟩ := hpost
                        have h1 := insOut_inv HAG.out HG.out HM.out (HA.out.inv.inc hlt) HA.out.finv m' (loopF_inv HAG.out m')
                        rw [ho] at h1
                        have h2 := insOut_lk (fns := fns) (tops := tops) (fr := fr9) (st := { stc with steps := stc.steps + 1 }) (x := x) (i := ⟨op, dst, a_, b_, n_, size, name, iar, iou, to⟩) m' (loopF_lk m')
                        rw [ho] at h2
                        have h3 := HA.out.eq.trans (loopF_step hlt HGI.out h43)
                        rw [ho] at h3
                        have h22 : op ≠ 22 := fun e => by
                          subst e
                          unfold insOut at ho
                          rw [if_neg (show ¬ (22 : Int) = 42 by decide), instr1_22 rfl] at ho
                          cases ho
                        have NX := Lib.hid (next_in (x := x) HG.out HA.out.at0.1 HGI.out h43 h22)
                        have BK := And.intro (CH12.out.trans (Chg.calm ownc HJ.out)) (hg'.keeps (HJ.out.keeps HB12.out) HA.out.free (show tg ≠ b5 from fun e => LPF.out.2.2.2.1 e.symm))
                        have ATN := Lib.hid (show AtLoop w0 w w' pw own fnv tops fns pf b5 tg (.slice pp g.params.length pcap) (.slice pk g.kinds.length kcap) (.slice ps g.slots.length scap) (.slice (some ac) g.code.length ccap) (.slice (some ⟨b5, 0, none⟩) g.kinds.length g.kinds.length) vl g fr9 st.top (callF fns tops n st g args) st' x' m' (nextF x ⟨op, dst, a_, b_, n_, size, name, iar, iou, to⟩ at_) own' c' from
                          ⟨NX.out, h3, by have := HA.out.gas; have h4 := h1.2.2.1; have h5 := h1.2.2.2; simp only at h4 h5; omega, h1.1, h1.2.1, hc', ((CH12.out.trans (Chg.calm ownc HJ.out)).transG hg' LPF.out.2.2.2.2.1), hat', hfr', BK.2.1, BK.2.2, fun h => Int.lt_of_lt_of_le (HA.out.lockin h) (by have h6 : stc.locks.length ≤ st'.locks.length := h2; omega)⟩)
                        have MS := Lib.hid (show w'.cell? ⟨pw, 12, none⟩ = some (.int .i64 st'.steps) ∧ wr.cell? ⟨pw, 12, none⟩ = some (.int .i64 stc.steps) ∧ stc.steps + 1 ≤ st'.steps ∧ stc.steps < stc.fuel ∧ stc.fuel ≤ 100000 from by
                          obtain ⟨_, _, _, _, _, _, _, _, Pn⟩ := hat'
                          obtain ⟨_, _, _, _, _, _, _, _, Po⟩ := HA.out.mach
                          have h5 := h1.2.2.2
                          simp only at h5
                          exact ⟨Pn.cells.1.2.2.2.2.2.2.2.2.2.2.2.2.1, Po.cells.1.2.2.2.2.2.2.2.2.2.2.2.2.1, h5, hlt, HA.out.inv.steps.2.2⟩)
                        clear hg' hat' hfr' h1 h2 h3 ho BK
                        go_wp2_with fail
                        go_roundw
                        case rel => exact ⟨_, st', x', m', own', c', (by rw [NF.out]), by omega, ATN.out⟩
                        case measure =>
                          obtain ⟨q1, q2, q3, q4, q5⟩ := MS.out
                          rw [stepsLeft_of q1, stepsLeft_of q2]
                          omega
                      | stop st' s code =>
                        rw [ho] at hpost
                        obtain ⟨c', rfl, own', hg', hat'⟩ := hpost
                        refine ⟨rfl, ?_⟩
                        have h3 := HA.out.eq.trans (loopF_step hlt HGI.out h43)
                        rw [ho] at h3
                        rw [h3]
                        exact ⟨rfl, own', c', (CH12.out.trans (Chg.calm ownc HJ.out)).transG hg' LPF.out.2.2.2.2.1, hat'⟩
              · have hd : decide (stc.steps < stc.fuel) = false := decide_eq_false hlt
                have hge : stc.fuel ≤ stc.steps := by omega
                have HRS := Lib.hid (loopF_out (fns := fns) (tops := tops) (m := m) (f := g) (fr := fr9) (was := st.top) (x := x) (a := at_) hlt)
                clear hlt
                go_upto_region 20 with fail
                refine wp_region_each 8 planCl20 (fun _ _ => False) (Step (fun _ => False) wr) (fun _ => True) [Is ?v20_18_0, Is ?v20_18_1, Is ?v20_18_2, Is ?v20_18_3, Is ?v20_18_4, Is ?v20_18_5, Is ?v20_18_6, Is ?v20_18_7] [] (by kernel_rfl) (by kernel_rfl) (fun _ _ h => h.elim) ((Step.refl _ _).drew) (trivial) ?stab20_18 ?stabD20_18 ?obl20_18 ?fin20_18
                case stab20_18 => exact fun w w' h => ⟨fun k => k.trans h (fun _ x => x.elim), fun _ => trivial, ⟨fun _ k => k, fun _ k => k, fun _ k => k, fun _ k => k, fun _ k => k, fun _ k => k, fun _ k => k, fun _ k => k, trivial⟩, trivial⟩
                case stabD20_18 => exact fun _ _ h => h.elim
                case obl20_18 =>
                  refine ⟨?o20_18_0, ?o20_18_1, ?o20_18_2, ?o20_18_3, ?o20_18_4, ?o20_18_5, ?o20_18_6, ?o20_18_7, trivial⟩
                  all_goals intro xv wq hH hS H hU aq ha Q' hQ
                  case o20_18_0 => cases rd0 ha; clear H hU hS; go_wp2_with fail; (try refine hQ _ _ ?_); refine ⟨Step.refl _ _, ?_, trivial, nofun⟩; exact (rfl : _ = _)
                  case o20_18_1 | o20_18_2 => have ha := rd1 ha H (by kernel_rfl) rfl; simp only [q3, q5, q6, q7] at ha; subst ha; clear H hU hS; go_wp2_with fail; (try refine hQ _ _ ?_); refine ⟨Step.refl _ _, ?_, trivial, nofun⟩; exact (rfl : _ = _)
                  case o20_18_3 => obtain ⟨x12, x11⟩ := FAC.out _ hH; have ha := rd1 ha H (by kernel_rfl) rfl; simp only [q3, q5, q6, q7] at ha; subst ha; clear H hU hS; go_wp2_with fail; (try refine hQ _ _ ?_); refine ⟨Step.refl _ _, ?_, trivial, nofun⟩; exact (rfl : _ = _)
                  case o20_18_4 => cases rd0 ha; clear H hU hS; go_wp2_with fail; (try refine hQ _ _ ?_); refine ⟨Step.refl _ _, ?_, trivial, nofun⟩; exact (rfl : _ = _)
                  case o20_18_5 | o20_18_6 => have ha := rd1 ha H (by kernel_rfl) rfl; simp only [q3, q5, q6, q7] at ha; subst ha; clear H hU hS; go_wp2_with fail; (try refine hQ _ _ ?_); refine ⟨Step.refl _ _, ?_, trivial, nofun⟩; exact (rfl : _ = _)
                  case o20_18_7 => obtain ⟨x12, x11⟩ := FAC.out _ hH; have ha := rd1 ha H (by kernel_rfl) rfl; simp only [q3, q5, q6, q7] at ha; subst ha; clear H hU hS; go_wp2_with fail; (try refine hQ _ _ ?_); refine ⟨Step.refl _ _, ?_, trivial, nofun⟩; exact (rfl : _ = _)
                intro xv w10 hH hS H hU hsz hF hN
                have h0 : xv 0 = _ := H 0 (by decide) (by kernel_rfl); have h1 : xv 1 = _ := H 1 (by decide) (by kernel_rfl); have h2 : xv 2 = _ := H 2 (by decide) (by kernel_rfl); have h3 : xv 3 = _ := H 3 (by decide) (by kernel_rfl); have h4 : xv 4 = _ := H 4 (by decide) (by kernel_rfl); have h5 : xv 5 = _ := H 5 (by decide) (by kernel_rfl); have h6 : xv 6 = _ := H 6 (by decide) (by kernel_rfl); have h7 : xv 7 = _ := H 7 (by decide) (by kernel_rfl)
                simp only [planCl20, q1, q2, q3, q5, q6, q7, q4, List.drop_succ_cons, List.drop_zero, h0, h1, h2, h3, h4, h5, h6, h7]
                clear H hF hN hS hU h0 h1 h2 h3 h4 h5 h6 h7
                go_wp2_with fail
                refine (need_no _ _).mono ?_
                rintro e w' ⟨rfl, rfl⟩
                refine ⟨rfl, ?_⟩
                rw [HA.out.eq, HRS.out]
                exact ⟨rfl, ownc, cc, HA.out.chg.trans (Chg.calm ownc hH), HA.out.mach.still hH⟩

end
end Go.Proofs.Ytpmbakhnamlooaa
