/- Package mid's machine in memory. -/
import Derived.Test.YtojfgdoniajmeaaMidH
import Derived.Test.YtojfgdoniajmeaaHeapF
import Derived.Deep.Cut
import Derived.WalkLawsBesides
import Derived.WalkSpells
namespace Go.Proofs.Ytojfgdoniajmeaa
set_option linter.unusedVariables false
set_option linter.unusedSimpArgs false
open Go.RowKit

def HV.cells (v : HV) : List Value := [.int .u64 v.num, .int .i64 v.ptr.block, .int .i64 v.ptr.off, .int .i64 v.ptr.low, .int .i64 v.ptr.high]
def vrow (l : List HV) : List Value := l.flatMap HV.cells
def prow (l : List HP) : List Value := l.flatMap fun p => p.cells.toList
theorem flat_len {α : Type} (f : α → List Value) (k : Nat) (hf : ∀ x, (f x).length = k) : ∀ l : List α, (l.flatMap f).length = l.length * k
  | [] => by simp
  | x :: l => by rw [List.flatMap_cons, List.length_append, hf, flat_len f k hf l, List.length_cons, Nat.succ_mul, Nat.add_comm]
theorem flat_at {α : Type} (f : α → List Value) (k : Nat) (hf : ∀ x, (f x).length = k) : ∀ (l : List α) (i : Nat) (hi : i < l.length) (j : Nat), j < k → (l.flatMap f)[i * k + j]? = (f l[i])[j]?
  | x :: l, 0, _, j, hj => by rw [List.flatMap_cons, List.getElem?_append_left (by rw [hf]; omega)]; simp
  | x :: l, i + 1, hi, j, hj => by
    rw [List.flatMap_cons, List.getElem?_append_right (by rw [hf, Nat.succ_mul]; omega), hf, show (i + 1) * k + j - k = i * k + j by rw [Nat.succ_mul]; omega, flat_at f k hf l i (by simpa using hi) j hj]
    simp
  | [], _, hi, _, _ => absurd hi (Nat.not_lt_zero _)
theorem flat_set {α : Type} (f : α → List Value) (k : Nat) (hf : ∀ x, (f x).length = k) : ∀ (l : List α) (i : Nat) (v : α), i < l.length → (l.set i v).flatMap f = (l.flatMap f).take (i * k) ++ f v ++ (l.flatMap f).drop (i * k + k)
  | x :: l, 0, v, _ => by simp [List.flatMap_cons, List.drop_append_of_le_length (Nat.le_of_eq (hf x).symm), ← hf x]
  | x :: l, i + 1, v, hi => by
    rw [List.set_cons_succ, List.flatMap_cons, flat_set f k hf l i v (by simpa using hi), List.flatMap_cons]
    rw [show (i + 1) * k = (f x).length + i * k by rw [hf, Nat.succ_mul]; omega, show (f x).length + i * k + k = (f x).length + (i * k + k) by omega, List.take_length_add_append, List.drop_length_add_append]
    simp
  | [], _, _, hi => absurd hi (Nat.not_lt_zero _)
theorem cells5 (v : HV) : v.cells.length = 5 := rfl
theorem cells4 (p : HP) : p.cells.toList.length = 4 := rfl

/-- the machine, in memory; own: which block is of which part: 1 its struct, 2 functions, 3 variables, 4 the heap, 8 what is put out -/
structure MParts (w0 w : World) (pw : Nat) (own : Nat → Nat) (fnv : List UInt8 → Option Value) (tops : List UInt8 → Option HP) (st : MSt) (c : Nat) (ph bt bf : Nat) (vi vo : Value) : Prop where
  struct : w.heap[pw]? = some (.cells #[.pointer (some ⟨ph, 0, none⟩), .map (some bt), .map (some bf), vi, vo, .int .i64 st.fuel, .int .i64 st.steps] 70 (0, 0))
  tag : own pw = 1 ∧ own bf = 2 ∧ own bt = 3
  fns : SMap Try.prog 9 w bf c fnv
  tops : SMap Try.prog 9 w bt c (fun s => (tops s).map HP.val)
  heap : HeapAt w ph st.blks st.at_ c (fun b => own b = 4)
  out : RowAt w (fun b => own b = 8) 5 1 vo st.out.length (st.out.map (Value.int .u8))
  input : IntsAt .u8 w0 vi st.input
  low : ∀ b, own b ≠ 0 → w0.heap.size ≤ b ∧ b < w.heap.size
  step : Step (fun b => w0.heap.size ≤ b) w0 w
  lens : 0 < st.blks.length ∧ st.blks.length ≤ c ∧ st.out.length ≤ c

def MWAt (w0 w : World) (pw : Nat) (own : Nat → Nat) (fnv : List UInt8 → Option Value) (tops : List UInt8 → Option HP) (st : MSt) (c : Nat) : Prop :=
  ∃ ph bt bf vi vo, MParts w0 w pw own fnv tops st c ph bt bf vi vo

/-- what a call of the machine's own may change: its blocks, and new ones -/
structure Chg (own own' : Nat → Nat) (w w' : World) : Prop where
  step : Step (fun b => own b ≠ 0) w w'
  same : ∀ b, b < w.heap.size → own' b = own b

section
variable {w0 w w' w'' : World} {pw : Nat} {own own' own'' : Nat → Nat} {fnv : List UInt8 → Option Value} {tops : List UInt8 → Option HP} {st : MSt} {c : Nat} {ph bt bf : Nat} {vi vo : Value}

theorem Chg.refl (own : Nat → Nat) (w : World) : Chg own own w w := ⟨Step.refl _ _, fun _ _ => rfl⟩
theorem Chg.calm (own : Nat → Nat) (s : Step (fun _ => False) w w') : Chg own own w w' := ⟨s.mono fun _ _ x => x.elim, fun _ _ => rfl⟩
theorem Chg.trans (h : Chg own own' w w') (g : Chg own' own'' w' w'') : Chg own own'' w w'' :=
  ⟨h.step.trans g.step fun b hb => by
    by_cases hlt : b < w.heap.size
    · exact .inl (by rw [← h.same b hlt]; exact hb)
    · exact .inr (by omega), fun b hb => (g.same b (Nat.lt_of_lt_of_le hb h.step.size)).trans (h.same b hb)⟩
/-- a block that isn't the machine's stays -/
theorem Chg.keep (h : Chg own own' w w') {b : Nat} (hb : b < w.heap.size) (ho : own b = 0) : w'.heap[b]? = w.heap[b]? := h.step.block b hb (fun x => x ho)
theorem Chg.keeps (h : Chg own own' w w') {b : Nat} {o : Obj} (hb : w.heap[b]? = some o) (ho : own b = 0) : w'.heap[b]? = some o := (h.keep (lt_obj hb) ho).trans hb
theorem Chg.stays0 (h : Chg own own' w w') {b : Nat} {o : Obj} (hb : w.heap[b]? = some o) (ho : own b = 0) : own' b = 0 := (h.same b (lt_obj hb)).trans ho

theorem HeapAt.less {p : Nat} {l : List HB} {f : Lit → Option HV} {n m : Nat} {F : Nat → Prop} (h : HeapAt w p l f n F) (e : n ≤ m) : HeapAt w p l f m F := by
  obtain ⟨⟨sv, mb, h1, h2, h3, h4, h5⟩, h6, h7, h8⟩ := h
  exact ⟨⟨sv, mb, h1, h2, h3.mono e, h4, h5⟩, h6, h7, h8⟩
theorem MParts.whole (h : MParts w0 w pw own fnv tops st c ph bt bf vi vo) : MWAt w0 w pw own fnv tops st c := ⟨_, _, _, _, _, h⟩
theorem MParts.still (h : MParts w0 w pw own fnv tops st c ph bt bf vi vo) (s : Step (fun _ => False) w w') : MParts w0 w' pw own fnv tops st c ph bt bf vi vo := by
  have k : ∀ b, b < w.heap.size → w'.heap[b]? = w.heap[b]? := fun b hb => s.block b hb fun x => x
  have hs := s.size
  exact ⟨(k pw (lt_obj h.struct)).trans h.struct, h.tag, h.fns.same (k _ h.fns.lt), h.tops.same (k _ h.tops.lt), h.heap.same fun b _ hb => k b hb, h.out.same fun b _ hb => k b hb, h.input, fun b hb => by have := h.low b hb; omega, h.step.then s, h.lens⟩
/-- one part of the machine is another one: the rest stays. t: which part (0: none but the struct; 4 the heap; 8 what is put out) -/
theorem MParts.next (h : MParts w0 w pw own fnv tops st c ph bt bf vi vo) (t : Nat) {st' : MSt} {c' : Nat} {vi' vo' : Value} (hcc : c ≤ c') (hs : Step (fun b => own b ≠ 0) w w') (same : ∀ b, b < w.heap.size → own' b = own b) (top : ∀ b, own' b ≠ 0 → b < w'.heap.size)
    (kk : ∀ b, own b ≠ 0 → own b ≠ 1 → own b ≠ t → w'.heap[b]? = w.heap[b]?) (ht : t ≠ 2 ∧ t ≠ 3)
    (struct : w'.heap[pw]? = some (.cells #[.pointer (some ⟨ph, 0, none⟩), .map (some bt), .map (some bf), vi', vo', .int .i64 st'.fuel, .int .i64 st'.steps] 70 (0, 0)))
    (heap : if t = 4 then HeapAt w' ph st'.blks st'.at_ c' (fun b => own' b = 4) ∧ 0 < st'.blks.length ∧ st'.blks.length ≤ c' else st'.blks = st.blks ∧ st'.at_ = st.at_)
    (out : if t = 8 then RowAt w' (fun b => own' b = 8) 5 1 vo' st'.out.length (st'.out.map (Value.int .u8)) ∧ st'.out.length ≤ c' else vo' = vo ∧ st'.out = st.out)
    (input : IntsAt .u8 w0 vi' st'.input) : MParts w0 w' pw own' fnv tops st' c' ph bt bf vi' vo' := by
  obtain ⟨t1, t2, t3⟩ := h.tag
  have hlens := h.lens
  have hsz := hs.size
  have ss : ∀ {b : Nat} {k : Nat}, own b = k → k ≠ 0 → own' b = k := fun {b k} e hk => (same b (h.low b (by omega)).2).trans e
  have sr : ∀ (k : Nat) (b : Nat), own b = k → k ≠ 0 → k ≠ 1 → k ≠ t → b < w.heap.size → w'.heap[b]? = w.heap[b]? := fun k b e h0 h1 h2 _ => kk b (by omega) (by omega) (by omega)
  refine ⟨struct, ⟨ss t1 (by omega), ss t2 (by omega), ss t3 (by omega)⟩, ?_, ?_, ?_, ?_, input, ?_, ?_, ?_⟩
  · exact (h.fns.same (kk _ (by omega) (by omega) (by omega))).le hcc
  · exact (h.tops.same (kk _ (by omega) (by omega) (by omega))).le hcc
  · by_cases e : t = 4
    · rw [if_pos e] at heap; exact heap.1
    · rw [if_neg e] at heap; rw [heap.1, heap.2]
      exact ((h.heap.same fun b hb hlt => sr 4 b hb (by omega) (by omega) (by omega) hlt).mono fun b hb => ss hb (by omega)).less hcc
  · by_cases e : t = 8
    · rw [if_pos e] at out; exact out.1
    · rw [if_neg e] at out; rw [out.1, out.2]
      exact (h.out.same fun b hb hlt => sr 8 b hb (by omega) (by omega) (by omega) hlt).mono fun b hb => ss hb (by omega)
  · intro b hb
    refine ⟨?_, top b hb⟩
    by_cases hlt : b < w.heap.size
    · exact (h.low b (by rw [same b hlt] at hb; exact hb)).1
    · have := h.step.size; omega
  · exact h.step.trans hs fun b hb => .inl (h.low b hb).1
  · refine ⟨?_, ?_, ?_⟩
    · by_cases e : t = 4
      · rw [if_pos e] at heap; exact heap.2.1
      · rw [if_neg e] at heap; rw [heap.1]; exact hlens.1
    · by_cases e : t = 4
      · rw [if_pos e] at heap; exact heap.2.2
      · rw [if_neg e] at heap; rw [heap.1]; omega
    · by_cases e : t = 8
      · rw [if_pos e] at out; exact out.2
      · rw [if_neg e] at out; rw [out.2]; omega
/-- the heap is another one -/
theorem MParts.heapNext (h : MParts w0 w pw own fnv tops st c ph bt bf vi vo) {l : List HB} {f : Lit → Option HV} {c' : Nat} {F : Nat → Prop} (hcc : c ≤ c') (hs : Step (fun b => own b = 4) w w') (hh : HeapAt w' ph l f c' F) (hF : ∀ b, F b → own b = 4 ∨ w.heap.size ≤ b) (hl : 0 < l.length ∧ l.length ≤ c') :
    ∃ own', Chg own own' w w' ∧ MParts w0 w' pw own' fnv tops { st with blks := l, at_ := f } c' ph bt bf vi vo := by
  have hz := hs.size
  obtain ⟨t1, t2, t3⟩ := h.tag
  refine ⟨fun b => if w.heap.size ≤ b ∧ b < w'.heap.size then 4 else if b < w.heap.size then own b else 0, ⟨hs.mono fun b _ e => by rw [e]; decide, fun b hb => by rw [if_neg (by omega), if_pos hb]⟩, ?_⟩
  refine h.next 4 hcc (hs.mono fun b _ e => by rw [e]; decide) (fun b hb => by rw [if_neg (by omega), if_pos hb]) (fun b hb => ?_) (fun b h0 h1 h4 => hs.block b (h.low b h0).2 h4) ⟨by decide, by decide⟩ ((hs.block pw (lt_obj h.struct) (by omega)).trans h.struct) ?_ ?_ h.input
  · by_cases e : w.heap.size ≤ b ∧ b < w'.heap.size
    · exact e.2
    · rw [if_neg e] at hb
      by_cases e2 : b < w.heap.size
      · omega
      · rw [if_neg e2] at hb; exact absurd rfl hb
  · rw [if_pos rfl]
    refine ⟨(hh.now (by exact hl.1)).mono fun b hb => ?_, hl⟩
    by_cases e : w.heap.size ≤ b
    · rw [if_pos ⟨e, hb.2⟩]
    · rw [if_neg (by omega), if_pos (by omega)]
      rcases hF b hb.1 with h1 | h1
      · exact h1
      · exact absurd h1 e
  · rw [if_neg (by decide)]; exact ⟨rfl, rfl⟩
theorem MWAt.still (h : MWAt w0 w pw own fnv tops st c) (s : Step (fun _ => False) w w') : MWAt w0 w' pw own fnv tops st c := by
  obtain ⟨_, _, _, _, _, h⟩ := h
  exact (h.still s).whole
theorem MWAt.le (h : MWAt w0 w pw own fnv tops st c) {d : Nat} (e : c ≤ d) : MWAt w0 w pw own fnv tops st d := by
  obtain ⟨_, _, _, _, _, h⟩ := h
  exact ⟨_, _, _, _, _, h.struct, h.tag, h.fns.le e, h.tops.le e, h.heap.less e, h.out, h.input, h.low, h.step, by have := h.lens; omega⟩
theorem MWAt.low (h : MWAt w0 w pw own fnv tops st c) : ∀ b, own b ≠ 0 → w0.heap.size ≤ b ∧ b < w.heap.size := by
  obtain ⟨_, _, _, _, _, h⟩ := h
  exact h.low
theorem MWAt.since (h : MWAt w0 w pw own fnv tops st c) : Step (fun b => w0.heap.size ≤ b) w0 w := by
  obtain ⟨_, _, _, _, _, h⟩ := h
  exact h.step
theorem MWAt.fresh0 (h : MWAt w0 w pw own fnv tops st c) : own w.heap.size = 0 := by
  by_cases e : own w.heap.size = 0
  · exact e
  · have := (h.low _ e).2; omega
/-- blocks that aren't the machine's may change -/
theorem MWAt.off (h : MWAt w0 w pw own fnv tops st c) (hlow : ∀ b, own b = 0 → b < w.heap.size → w'.heap[b]? ≠ w.heap[b]? → w0.heap.size ≤ b) (s : Step (fun b => own b = 0) w w') : MWAt w0 w' pw own fnv tops st c := by
  obtain ⟨ph, bt, bf, vi, vo, P⟩ := h
  have hz := s.size
  obtain ⟨t1, t2, t3⟩ := P.tag
  have k : ∀ b, own b ≠ 0 → b < w.heap.size → w'.heap[b]? = w.heap[b]? := fun b hb hlt => s.block b hlt hb
  refine ⟨ph, bt, bf, vi, vo, (k pw (by omega) (lt_obj P.struct)).trans P.struct, P.tag, P.fns.same (k _ (by omega) P.fns.lt), P.tops.same (k _ (by omega) P.tops.lt), P.heap.same fun b hb hlt => k b (by omega) hlt, P.out.same fun b hb hlt => k b (by omega) hlt, P.input, fun b hb => by have := P.low b hb; omega, ?_, P.lens⟩
  exact ⟨s.os.trans P.step.os, s.tape.trans P.step.tape, s.output.trans P.step.output, Nat.le_trans P.step.size hz, fun b hb hn => by
    have hlt := Nat.lt_of_lt_of_le hb P.step.size
    have h0 : ¬ own b ≠ 0 := fun e => by have := (P.low b e).1; omega
    by_cases e : w'.heap[b]? = w.heap[b]?
    · rw [e]; exact P.step.block b hb hn
    · exact absurd (hlow b (by omega) hlt e) (by omega)⟩
end

/-- what is thrown: state, code, error -/
def stopV (s code why : Int) : Value := .iface 72 (.agg #[.int .i64 s, .int .u8 code, .int .i64 why])
theorem right_ok (w : World) : Calls Try.prog 65 #[.int .i64 0] w fun e w' => e = .returned (.tuple #[]) ∧ w = w' := by
  go_enter Try.func65, Try.ntmps65
  go_wp2_with fail
  go_end0
  exact ⟨rfl, rfl⟩
theorem right_no {x : Int} (h : (x != 0) = true) (w : World) : Calls Try.prog 65 #[.int .i64 x] w fun e w' => e = .panicked [{ v := stopV 5 0 x, recovered := false }] ∧ w = w' := by
  go_enter Try.func65, Try.ntmps65
  go_wp2_with fail
  exact ⟨rfl, rfl, rfl⟩

/-- a frame: its struct at pf, its registers in block gx -/
structure MFr (w : World) (own : Nat → Nat) (pf pw gx : Nat) (vn vp vk vs vc vr vl : Value) (regs : List HV) (slots : List HP) : Prop where
  struct : w.heap[pf]? = some (.cells #[.pointer (some ⟨pw, 0, none⟩), vn, vp, vk, vs, vc, vr, vl] 119 (0, 0))
  regs : RowAt w (fun b => b = gx) 98 5 vr regs.length (vrow regs)
  slots : RowAt w (fun b => own b = 0 ∧ b ≠ gx ∧ b ≠ pf) 94 4 vl slots.length (prow slots)
  free : own pf = 0 ∧ own gx = 0 ∧ pf ≠ gx ∧ gx < w.heap.size
section
variable {w0 w w' w1 w2 : World} {pf pw gx : Nat} {own own' own'' : Nat → Nat} {vn vp vk vs vc vr vl : Value} {regs : List HV} {slots : List HP} {fnv : List UInt8 → Option Value} {tops : List UInt8 → Option HP} {st : MSt} {c : Nat}
theorem MFr.keep (h : MFr w own pf pw gx vn vp vk vs vc vr vl regs slots) (g : Chg own own' w w') : MFr w' own' pf pw gx vn vp vk vs vc vr vl regs slots := by
  obtain ⟨f1, f2, f3, f4⟩ := h.free
  have hp := lt_known h.struct
  have hz := g.step.size
  refine ⟨g.keeps h.struct f1, h.regs.same fun b hb hlt => g.keep hlt (by rw [hb]; exact f2), ?_, by rw [g.same _ hp, g.same _ f4]; exact ⟨f1, f2, f3, by omega⟩⟩
  obtain ⟨s1, s2 | ⟨b, cap, cur, s2, s3, s4, s5⟩⟩ := h.slots
  · exact ⟨s1, .inl s2⟩
  · exact ⟨s1, .inr ⟨b, cap, cur, s2, ⟨g.stays0 s4 s3.1, s3.2⟩, g.keeps s4 s3.1, s5⟩⟩
theorem MFr.still (h : MFr w own pf pw gx vn vp vk vs vc vr vl regs slots) (s : Step (fun _ => False) w w') : MFr w' own pf pw gx vn vp vk vs vc vr vl regs slots := h.keep (Chg.calm own s)
/-- what an instruction may change: the machine, registers, new blocks -/
structure ChgG (gx : Nat) (own own' : Nat → Nat) (w w' : World) : Prop where
  step : Step (fun b => own b ≠ 0 ∨ b = gx) w w'
  same : ∀ b, b < w.heap.size → own' b = own b
theorem Chg.g (h : Chg own own' w w') (gx : Nat) : ChgG gx own own' w w' := ⟨h.step.mono fun _ _ x => .inl x, h.same⟩
theorem ChgG.trans (h : ChgG gx own own' w w1) (g : ChgG gx own' own'' w1 w2) : ChgG gx own own'' w w2 :=
  ⟨h.step.trans g.step fun b hb => by
    by_cases hlt : b < w.heap.size
    · exact .inl (by rw [← h.same b hlt]; exact hb)
    · exact .inr (by omega), fun b hb => (g.same b (Nat.lt_of_lt_of_le hb h.step.size)).trans (h.same b hb)⟩
/-- five cells are set -/
def setV (w : World) (b k : Nat) (v : HV) : World := ((((w.setCell ⟨b, k, none⟩ (.int .u64 v.num)).setCell ⟨b, k + 1, none⟩ (.int .i64 v.ptr.block)).setCell ⟨b, k + 2, none⟩ (.int .i64 v.ptr.off)).setCell ⟨b, k + 3, none⟩ (.int .i64 v.ptr.low)).setCell ⟨b, k + 4, none⟩ (.int .i64 v.ptr.high)
theorem setV_step {F : Nat → Prop} (w : World) {b : Nat} (hb : F b) (k : Nat) (v : HV) : Step F w (setV w b k v) :=
  ((((((Step.refl F w).set (p := ⟨b, k, none⟩) (.inl hb) _).set (p := ⟨b, k + 1, none⟩) (.inl hb) _).set (p := ⟨b, k + 2, none⟩) (.inl hb) _).set (p := ⟨b, k + 3, none⟩) (.inl hb) _).set (p := ⟨b, k + 4, none⟩) (.inl hb) _)
theorem setV_known {b k : Nat} {cur : Array Value} {T : TypeId} (h : w.heap[b]? = some (.cells cur T (0, 0))) (v : HV) : (setV w b k v).heap[b]? = some (.cells (((((cur.setIfInBounds k (.int .u64 v.num)).setIfInBounds (k + 1) (.int .i64 v.ptr.block)).setIfInBounds (k + 2) (.int .i64 v.ptr.off)).setIfInBounds (k + 3) (.int .i64 v.ptr.low)).setIfInBounds (k + 4) (.int .i64 v.ptr.high)) T (0, 0)) := by
  have h0 := set_known h k (.int .u64 v.num)
  have h1 := set_known h0 (k + 1) (.int .i64 v.ptr.block)
  have h2 := set_known h1 (k + 2) (.int .i64 v.ptr.off)
  have h3 := set_known h2 (k + 3) (.int .i64 v.ptr.low)
  exact set_known h3 (k + 4) (.int .i64 v.ptr.high)
theorem take_set5 : ∀ (l : List Value) (i k : Nat) (v0 v1 v2 v3 v4 : Value), i * 5 + 5 ≤ k → k ≤ l.length → (((((l.set (i * 5) v0).set (i * 5 + 1) v1).set (i * 5 + 2) v2).set (i * 5 + 3) v3).set (i * 5 + 4) v4).take k = (l.take k).take (i * 5) ++ [v0, v1, v2, v3, v4] ++ (l.take k).drop (i * 5 + 5) := by
  intro l i k v0 v1 v2 v3 v4 h1 h2
  apply List.ext_getElem?
  intro j
  by_cases hj : j < k
  · rw [List.getElem?_take_of_lt hj]
    by_cases a : j < i * 5
    · rw [List.append_assoc, List.getElem?_append_left (by simp only [List.length_take]; omega), List.getElem?_take_of_lt a, List.getElem?_take_of_lt hj]
      rw [List.getElem?_set_ne (by omega), List.getElem?_set_ne (by omega), List.getElem?_set_ne (by omega), List.getElem?_set_ne (by omega), List.getElem?_set_ne (by omega)]
    · by_cases b : j < i * 5 + 5
      · rw [List.append_assoc, List.getElem?_append_right (by simp only [List.length_take]; omega), List.getElem?_append_left (by simp only [List.length_take, List.length_cons, List.length_nil]; omega)]
        have e : ((l.take k).take (i * 5)).length = i * 5 := by simp only [List.length_take]; omega
        rw [e]
        rcases (by omega : j = i * 5 ∨ j = i * 5 + 1 ∨ j = i * 5 + 2 ∨ j = i * 5 + 3 ∨ j = i * 5 + 4) with rfl | rfl | rfl | rfl | rfl
        · rw [List.getElem?_set_ne (by omega), List.getElem?_set_ne (by omega), List.getElem?_set_ne (by omega), List.getElem?_set_ne (by omega), List.getElem?_set_self (by omega), Nat.sub_self]; rfl
        · rw [List.getElem?_set_ne (by omega), List.getElem?_set_ne (by omega), List.getElem?_set_ne (by omega), List.getElem?_set_self (by simp only [List.length_set]; omega), Nat.add_sub_cancel_left]; rfl
        · rw [List.getElem?_set_ne (by omega), List.getElem?_set_ne (by omega), List.getElem?_set_self (by simp only [List.length_set]; omega), Nat.add_sub_cancel_left]; rfl
        · rw [List.getElem?_set_ne (by omega), List.getElem?_set_self (by simp only [List.length_set]; omega), Nat.add_sub_cancel_left]; rfl
        · rw [List.getElem?_set_self (by simp only [List.length_set]; omega), Nat.add_sub_cancel_left]; rfl
      · rw [List.getElem?_append_right (by simp only [List.length_append, List.length_take, List.length_cons, List.length_nil]; omega), List.getElem?_drop]
        have e : ((l.take k).take (i * 5) ++ [v0, v1, v2, v3, v4]).length = i * 5 + 5 := by simp only [List.length_append, List.length_take, List.length_cons, List.length_nil]; omega
        rw [e, show i * 5 + 5 + (j - (i * 5 + 5)) = j by omega, List.getElem?_take_of_lt hj]
        rw [List.getElem?_set_ne (by omega), List.getElem?_set_ne (by omega), List.getElem?_set_ne (by omega), List.getElem?_set_ne (by omega), List.getElem?_set_ne (by omega)]
  · rw [List.getElem?_eq_none (by simp only [List.length_take, List.length_set]; omega), List.getElem?_eq_none (by simp only [List.length_append, List.length_take, List.length_drop, List.length_cons, List.length_nil]; omega)]
/-- a value in a row is another one -/
theorem row_setV {F : Nat → Prop} {e : TypeId} {v : Value} {l : List HV} (h : RowAt w F e 5 v l.length (vrow l)) {g cap : Nat} (hv : v = .slice (some ⟨g, 0, none⟩) l.length cap) {i : Nat} (hi : i < l.length) (x : HV) : RowAt (setV w g (i * 5) x) F e 5 v (l.set i x).length (vrow (l.set i x)) := by
  obtain ⟨g', cap', cur, e1, hF, hg, h1, h2, h3, h4⟩ := h.some (by omega)
  rw [hv] at e1
  cases e1
  have hlen : (vrow (l.set i x)).length = (l.set i x).length * 5 := flat_len _ 5 cells5 _
  refine ⟨hlen, .inr ⟨g, cap, _, by rw [List.length_set]; exact hv, hF, setV_known hg x, by rw [List.length_set]; exact h1, h2, by simp only [Array.size_setIfInBounds]; exact h3, ?_⟩⟩
  simp only [Array.toList_setIfInBounds, List.length_set]
  have hc : cur.toList.length = cap * 5 := by rw [Array.length_toList, h3]
  rw [take_set5 _ _ _ _ _ _ _ _ (by have := Nat.mul_le_mul_right 5 (show i + 1 ≤ l.length from hi); omega) (by rw [hc]; exact Nat.mul_le_mul_right 5 h1), h4]
  unfold vrow
  rw [flat_set _ 5 cells5 l i x hi]
  rfl
theorem MFr.set (h : MFr w own pf pw gx vn vp vk vs vc vr vl regs slots) {i cap : Nat} (hv : vr = .slice (some ⟨gx, 0, none⟩) regs.length cap) (hi : i < regs.length) (x : HV) : MFr (setV w gx (i * 5) x) own pf pw gx vn vp vk vs vc vr vl (regs.set i x) slots := by
  obtain ⟨f1, f2, f3, f4⟩ := h.free
  have s := setV_step (F := fun b => b = gx) w rfl (i * 5) x
  have hz := s.size
  refine ⟨(s.block _ (lt_obj h.struct) f3).trans h.struct, row_setV h.regs hv hi x, h.slots.same fun b hb hlt => s.block b hlt hb.2.1, f1, f2, f3, by omega⟩
theorem MWAt.setV (h : MWAt w0 w pw own fnv tops st c) (hg : own gx = 0) (hl : w0.heap.size ≤ gx) (k : Nat) (x : HV) : MWAt w0 (setV w gx k x) pw own fnv tops st c :=
  h.off (fun b _ hlt e => by
    by_cases hb : b = gx
    · rw [hb]; exact hl
    · exact absurd ((setV_step (F := fun b => b = gx) w rfl k x).block b hlt hb) e) (setV_step (F := fun b => own b = 0) w hg k x)

/-- how an instruction ends that goes on -/
def Went (w0 w : World) (pw : Nat) (own : Nat → Nat) (fnv : List UInt8 → Option Value) (tops : List UInt8 → Option HP) (pf gx : Nat) (vn vp vk vs vc vr vl : Value) (slots : List HP) (st : MSt) (c : Nat) (regs : List HV) (w' : World) : Prop :=
  ∃ own', ChgG gx own own' w w' ∧ MWAt w0 w' pw own' fnv tops st c ∧ MFr w' own' pf pw gx vn vp vk vs vc vr vl regs slots
/-- how an instruction ends that stops -/
def Fell (w0 w : World) (pw : Nat) (own : Nat → Nat) (fnv : List UInt8 → Option Value) (tops : List UInt8 → Option HP) (gx : Nat) (s code why : Int) (st : MSt) (c : Nat) (e : Ending) (w' : World) : Prop :=
  e = .panicked [{ v := stopV s code why, recovered := false }] ∧ ∃ own', ChgG gx own own' w w' ∧ MWAt w0 w' pw own' fnv tops st c
theorem Went.still {regs' : List HV} {st' : MSt} {c' : Nat} (h : Went w0 w pw own fnv tops pf gx vn vp vk vs vc vr vl slots st' c' regs' w1) (s : Step (fun _ => False) w1 w2) : Went w0 w pw own fnv tops pf gx vn vp vk vs vc vr vl slots st' c' regs' w2 := by
  obtain ⟨own', h2, h3, h4⟩ := h
  exact ⟨own', h2.trans ((Chg.calm own' s).g gx), h3.still s, h4.still s⟩
theorem went_set (hW : MWAt w0 w1 pw own' fnv tops st c) (hF : MFr w1 own' pf pw gx vn vp vk vs vc vr vl regs slots) (s : ChgG gx own own' w w1) (hl : w0.heap.size ≤ gx) {r cap : Nat} (hv : vr = .slice (some ⟨gx, 0, none⟩) regs.length cap) (hr : r < regs.length) (x : HV) :
    Went w0 w pw own fnv tops pf gx vn vp vk vs vc vr vl slots st c (regs.set r x) (setV w1 gx (r * 5) x) :=
  ⟨own', s.trans ⟨setV_step (F := fun b => own' b ≠ 0 ∨ b = gx) w1 (.inr rfl) _ _, fun _ _ => rfl⟩, hW.setV hF.free.2.1 hl _ _, hF.set hv hr x⟩

/-! ### What a walk reads -/
theorem frame_facts (hF : MFr w own pf pw gx vn vp vk vs vc vr vl regs slots) : ∀ y, Step (fun _ => False) w y → y.cell? ⟨pf, 0, none⟩ = some (.pointer (some ⟨pw, 0, none⟩)) ∧ y.cell? ⟨pf, 3, none⟩ = some vk ∧ y.cell? ⟨pf, 6, none⟩ = some vr ∧ y.cell? ⟨pf, 7, none⟩ = some vl := fun _ hy =>
  have k := hy.keeps hF.struct
  ⟨cell_known k rfl, cell_known k rfl, cell_known k rfl, cell_known k rfl⟩
theorem reg_facts (hF : MFr w own pf pw gx vn vp vk vs vc vr vl regs slots) : ∀ y, Step (fun _ => False) w y → ∀ r : Int, 0 ≤ r ∧ r < regs.length → y.cell? ⟨gx, r.toNat * 5, none⟩ = some (.int .u64 (rgV regs r).num) ∧ y.cell? ⟨gx, r.toNat * 5 + 1, none⟩ = some (.int .i64 (rgV regs r).ptr.block) ∧ y.cell? ⟨gx, r.toNat * 5 + 2, none⟩ = some (.int .i64 (rgV regs r).ptr.off) ∧ y.cell? ⟨gx, r.toNat * 5 + 3, none⟩ = some (.int .i64 (rgV regs r).ptr.low) ∧ y.cell? ⟨gx, r.toNat * 5 + 4, none⟩ = some (.int .i64 (rgV regs r).ptr.high) ∧ ∀ j, y.frozen? ⟨gx, j, none⟩ = false := fun _ hy r hr => by
  obtain ⟨g, rcap, cur, _, hgx, hg, hn1, hn2, hsz, htk⟩ := hF.regs.some (by omega)
  obtain rfl : gx = g := hgx.symm
  have k := hy.keeps hg
  have e : regs[r.toNat]'(by omega) = rgV regs r := by
    unfold rgV
    rw [List.getD_eq_getElem?_getD, List.getElem?_eq_getElem (show r.toNat < regs.length by omega)]; rfl
  have kk := fun (j : Nat) (hj : j < 5) (u : Value) (hu : (rgV regs r).cells[j]? = some u) => row_cell k htk (j := r.toNat * 5 + j) (u := u) (by unfold vrow; rw [flat_at _ 5 cells5 regs r.toNat (by omega) j hj, e]; exact hu)
  exact ⟨kk 0 (by omega) _ rfl, kk 1 (by omega) _ rfl, kk 2 (by omega) _ rfl, kk 3 (by omega) _ rfl, kk 4 (by omega) _ rfl, fun j => free_known k j⟩
theorem regs_slice (hF : MFr w own pf pw gx vn vp vk vs vc vr vl regs slots) (h : 0 < regs.length) : ∃ cap, vr = .slice (some ⟨gx, 0, none⟩) regs.length cap := by
  obtain ⟨g, rcap, cur, e, hgx, _⟩ := hF.regs.some h
  obtain rfl : gx = g := hgx.symm
  exact ⟨_, e⟩
theorem slot_facts (hF : MFr w own pf pw gx vn vp vk vs vc vr vl regs slots) (h : 0 < slots.length) : ∃ g cap, vl = .slice (some ⟨g, 0, none⟩) slots.length cap ∧ ∀ y, Step (fun _ => False) w y → ∀ r : Int, 0 ≤ r ∧ r < slots.length → y.cell? ⟨g, r.toNat * 4, none⟩ = some (.int .i64 (slots.getD r.toNat HP.zero).block) ∧ y.cell? ⟨g, r.toNat * 4 + 1, none⟩ = some (.int .i64 (slots.getD r.toNat HP.zero).off) ∧ y.cell? ⟨g, r.toNat * 4 + 2, none⟩ = some (.int .i64 (slots.getD r.toNat HP.zero).low) ∧ y.cell? ⟨g, r.toNat * 4 + 3, none⟩ = some (.int .i64 (slots.getD r.toNat HP.zero).high) := by
  obtain ⟨g, cap, cur, e, hgx, hg, hn1, hn2, hsz, htk⟩ := hF.slots.some h
  refine ⟨g, cap, e, fun y hy r hr => ?_⟩
  have k := hy.keeps hg
  have e2 : slots[r.toNat]'(by omega) = slots.getD r.toNat HP.zero := by
    rw [List.getD_eq_getElem?_getD, List.getElem?_eq_getElem (show r.toNat < slots.length by omega)]; rfl
  have kk := fun (j : Nat) (hj : j < 4) (u : Value) (hu : (slots.getD r.toNat HP.zero).cells.toList[j]? = some u) => row_cell k htk (j := r.toNat * 4 + j) (u := u) (by unfold prow; rw [flat_at _ 4 cells4 slots r.toNat (by omega) j hj, e2]; exact hu)
  exact ⟨kk 0 (by omega) _ rfl, kk 1 (by omega) _ rfl, kk 2 (by omega) _ rfl, kk 3 (by omega) _ rfl⟩
end
def ok1 (regs : List HV) (r : Int) : Prop := 0 ≤ r ∧ r < regs.length
end Go.Proofs.Ytojfgdoniajmeaa
