/- Package mid: is an instruction well formed? -/
import Derived.Test.YtojfgdoniajmeaaMGooC
namespace Go.Proofs.Ytojfgdoniajmeaa
set_option linter.unusedVariables false
set_option linter.unusedSimpArgs false
open Go.RowKit

theorem zero_form (w : World) : (zeroValue 136).run Try.prog w = .ok (formV {}) w := by kernel_rfl
theorem empty_eq (s : ByteArray) : s.toList.isEmpty = (s.data.toList == []) := by
  rw [ByteArray.toList_eq]
  cases s.data.toList <;> rfl
def IsForms (y : Value) (w : World) : Prop := ∃ b, y = .map (some b) ∧ IMap Try.prog 3 .i64 w b 22 formG
theorem IsForms.stable {y : Value} {w w' : World} (h : Step (fun _ => False) w w') (k : IsForms y w) : IsForms y w' := by
  obtain ⟨b, e, im⟩ := k
  exact ⟨b, e, im.same (h.block _ im.lt fun x => x)⟩
def formD (op : Int) : MForm := (formM op).getD {}
theorem formG_get (op : Int) : (formG op).getD (formV {}) = formV (formD op) := by
  unfold formG formD
  cases formM op <;> rfl
theorem formG_some (op : Int) : (formG op).isSome = (formM op).isSome := by
  unfold formG
  cases formM op <;> rfl
def k03 (x : Int) : Prop := x = 0 ∨ x = 1 ∨ x = 2 ∨ x = 3
instance (x : Int) : Decidable (k03 x) := inferInstanceAs (Decidable (x = 0 ∨ x = 1 ∨ x = 2 ∨ x = 3))
theorem form_kinds (op : Int) : k03 (formD op).dst ∧ k03 (formD op).a ∧ k03 (formD op).b := by
  by_cases h1 : op = 1
  · subst h1; exact ⟨by decide, by decide, by decide⟩
  by_cases h2 : op = 2
  · subst h2; exact ⟨by decide, by decide, by decide⟩
  by_cases h3 : op = 3
  · subst h3; exact ⟨by decide, by decide, by decide⟩
  by_cases h4 : op = 4
  · subst h4; exact ⟨by decide, by decide, by decide⟩
  by_cases h5 : op = 5
  · subst h5; exact ⟨by decide, by decide, by decide⟩
  by_cases h6 : op = 6
  · subst h6; exact ⟨by decide, by decide, by decide⟩
  by_cases h7 : op = 7
  · subst h7; exact ⟨by decide, by decide, by decide⟩
  by_cases h8 : op = 8
  · subst h8; exact ⟨by decide, by decide, by decide⟩
  by_cases h9 : op = 9
  · subst h9; exact ⟨by decide, by decide, by decide⟩
  by_cases h10 : op = 10
  · subst h10; exact ⟨by decide, by decide, by decide⟩
  by_cases h11 : op = 11
  · subst h11; exact ⟨by decide, by decide, by decide⟩
  by_cases h12 : op = 12
  · subst h12; exact ⟨by decide, by decide, by decide⟩
  by_cases h13 : op = 13
  · subst h13; exact ⟨by decide, by decide, by decide⟩
  by_cases h14 : op = 14
  · subst h14; exact ⟨by decide, by decide, by decide⟩
  by_cases h15 : op = 15
  · subst h15; exact ⟨by decide, by decide, by decide⟩
  by_cases h16 : op = 16
  · subst h16; exact ⟨by decide, by decide, by decide⟩
  by_cases h17 : op = 17
  · subst h17; exact ⟨by decide, by decide, by decide⟩
  by_cases h18 : op = 18
  · subst h18; exact ⟨by decide, by decide, by decide⟩
  by_cases h19 : op = 19
  · subst h19; exact ⟨by decide, by decide, by decide⟩
  by_cases h20 : op = 20
  · subst h20; exact ⟨by decide, by decide, by decide⟩
  by_cases h21 : op = 21
  · subst h21; exact ⟨by decide, by decide, by decide⟩
  by_cases h22 : op = 22
  · subst h22; exact ⟨by decide, by decide, by decide⟩
  have e : formD op = {} := by
    unfold formD formM
    simp only [h1, h2, h3, h4, h5, h6, h7, h8, h9, h10, h11, h12, h13, h14, h15, h16, h17, h18, h19, h20, h21, h22, if_false, Option.getD_none]
  rw [e]; exact ⟨by decide, by decide, by decide⟩
theorem sizeM_eq (m : MForm) (i : FIns) : sizeM m i = (!(m.size && !(i.op == 9)) || (i.size == 1 || i.size == 4 || i.size == 8)) := by
  unfold sizeM
  cases (m.size && !(i.op == 9)) <;> simp
theorem goodIM_eq (f : FFn) (i : FIns) : goodIM f i = ((formM i.op).isSome && regM f.kinds i.dst (formD i.op).dst (i.op == 16) && regM f.kinds i.a (formD i.op).a (i.op == 17) && regM f.kinds i.b (formD i.op).b false && i.args.all (fun r => i.op == 16 && regM f.kinds r 3 false) && (i.outs.length == 0) && ((formD i.op).n || i.n == 0) && ((formD i.op).name == !(i.name.data.toList == [])) && decide (0 ≤ i.to) && decide (i.to < f.code.length) && ((formD i.op).far || i.to == 0) && (!((formD i.op).size && !(i.op == 9)) || (i.size == 1 || i.size == 4 || i.size == 8)) && ((formD i.op).size || i.size == 0) && extraM f i) := by
  unfold goodIM formD
  cases formM i.op with
  | none => simp
  | some m => simp [sizeM_eq]
theorem regM_in {ks : List Int} {r kind : Int} (h : regM ks r kind false = true) (hk : kind ≠ 0) : 0 ≤ r ∧ r < ks.length := by
  unfold regM at h
  rw [if_neg hk] at h
  simp only [Bool.false_and, Bool.false_or, Bool.and_eq_true, decide_eq_true_eq] at h
  exact ⟨h.1.1, h.1.2⟩
theorem set7_known {w : World} {b : Nat} {T : TypeId} {u0 u1 u2 u3 u4 u5 u6 : Value} (h : w.heap[b]? = some (.cells #[u0, u1, u2, u3, u4, u5, u6] T (0, 0))) (v0 v1 v2 v3 v4 v5 v6 : Value) : ((((((((w).setCell ⟨b, 0, none⟩ v0).setCell ⟨b, 1, none⟩ v1).setCell ⟨b, 2, none⟩ v2).setCell ⟨b, 3, none⟩ v3).setCell ⟨b, 4, none⟩ v4).setCell ⟨b, 5, none⟩ v5).setCell ⟨b, 6, none⟩ v6).heap[b]? = some (.cells #[v0, v1, v2, v3, v4, v5, v6] T (0, 0)) := by
  have h1 : ((w).setCell ⟨b, 0, none⟩ v0).heap[b]? = some (.cells #[v0, u1, u2, u3, u4, u5, u6] T (0, 0)) := by rw [set_known h]; rfl
  have h2 : (((w).setCell ⟨b, 0, none⟩ v0).setCell ⟨b, 1, none⟩ v1).heap[b]? = some (.cells #[v0, v1, u2, u3, u4, u5, u6] T (0, 0)) := by rw [set_known h1]; rfl
  have h3 : ((((w).setCell ⟨b, 0, none⟩ v0).setCell ⟨b, 1, none⟩ v1).setCell ⟨b, 2, none⟩ v2).heap[b]? = some (.cells #[v0, v1, v2, u3, u4, u5, u6] T (0, 0)) := by rw [set_known h2]; rfl
  have h4 : (((((w).setCell ⟨b, 0, none⟩ v0).setCell ⟨b, 1, none⟩ v1).setCell ⟨b, 2, none⟩ v2).setCell ⟨b, 3, none⟩ v3).heap[b]? = some (.cells #[v0, v1, v2, v3, u4, u5, u6] T (0, 0)) := by rw [set_known h3]; rfl
  have h5 : ((((((w).setCell ⟨b, 0, none⟩ v0).setCell ⟨b, 1, none⟩ v1).setCell ⟨b, 2, none⟩ v2).setCell ⟨b, 3, none⟩ v3).setCell ⟨b, 4, none⟩ v4).heap[b]? = some (.cells #[v0, v1, v2, v3, v4, u5, u6] T (0, 0)) := by rw [set_known h4]; rfl
  have h6 : (((((((w).setCell ⟨b, 0, none⟩ v0).setCell ⟨b, 1, none⟩ v1).setCell ⟨b, 2, none⟩ v2).setCell ⟨b, 3, none⟩ v3).setCell ⟨b, 4, none⟩ v4).setCell ⟨b, 5, none⟩ v5).heap[b]? = some (.cells #[v0, v1, v2, v3, v4, v5, u6] T (0, 0)) := by rw [set_known h5]; rfl
  have h7 : ((((((((w).setCell ⟨b, 0, none⟩ v0).setCell ⟨b, 1, none⟩ v1).setCell ⟨b, 2, none⟩ v2).setCell ⟨b, 3, none⟩ v3).setCell ⟨b, 4, none⟩ v4).setCell ⟨b, 5, none⟩ v5).setCell ⟨b, 6, none⟩ v6).heap[b]? = some (.cells #[v0, v1, v2, v3, v4, v5, v6] T (0, 0)) := by rw [set_known h6]; rfl
  exact h7
theorem set7_step {F : Nat → Prop} {a w : World} {b : Nat} (s : Step F a w) (hb : F b ∨ a.heap.size ≤ b) (v0 v1 v2 v3 v4 v5 v6 : Value) : Step F a ((((((((w).setCell ⟨b, 0, none⟩ v0).setCell ⟨b, 1, none⟩ v1).setCell ⟨b, 2, none⟩ v2).setCell ⟨b, 3, none⟩ v3).setCell ⟨b, 4, none⟩ v4).setCell ⟨b, 5, none⟩ v5).setCell ⟨b, 6, none⟩ v6) :=
  ((((((s.set (p := ⟨b, 0, none⟩) hb v0).set (p := ⟨b, 1, none⟩) hb v1).set (p := ⟨b, 2, none⟩) hb v2).set (p := ⟨b, 3, none⟩) hb v3).set (p := ⟨b, 4, none⟩) hb v4).set (p := ⟨b, 5, none⟩) hb v5).set (p := ⟨b, 6, none⟩) hb v6

section
variable {w0 w w' : World}
def planIns1 : Plan where
  T := [[], [], [1], [0, 1, 2], [0, 1, 2, 3], [0, 1, 2, 3, 4], [0, 1, 2, 3, 4], [], [0, 1, 2, 3, 4, 5, 7], [0, 1, 2, 3, 4, 5, 6, 7, 8]]
  rd := [[], [], [(1, some 11)], [(0, some 10), (2, some 12)], [(3, some 13)], [(4, some 9)], [(4, some 9)], [], [(5, some 14), (7, some 5)]]
  all := [(8, none), (7, some 5), (6, some 15), (5, some 14), (4, some 9), (3, some 13), (2, some 12), (1, some 11), (0, some 10)]
  calm := [true, true, true, true, true, true, true, true, false]
  hard := [false, true, true, true, true, true, true, false, true]
  fresh := [false, false, false, false, false, false, false, true, false]
  ref := [0, 1, 2, 3, 4, 5, 6, 7, 7]

set_option maxHeartbeats 4000000 in
set_option maxRecDepth 100000 in
theorem instruction_any {f : FFn} {pp pk ps pc : Option Addr} {cp ck cs cc : Nat} {v : Value} {i : FIns} (hi : InsAt w0 v i) (hkin : IntsAt .i64 w0 (.slice pk f.kinds.length ck) f.kinds) (h12 : ∀ k ∈ f.kinds, k = 1 ∨ k = 2) (hw : ∀ b, b < w0.heap.size → w.heap[b]? = w0.heap[b]?)
    (hop : (Lit.int .i64 i.op).wf = true) (hk : f.kinds.length ≤ 1000000) (hs : f.slots.length ≤ 1000000) (hc : f.code.length ≤ 1000000) (ha : i.args.length ≤ 1000000) (ho : i.outs.length ≤ 1000000) :
    Calls Try.prog 41 #[fnV f.name pp f.params.length cp pk f.kinds.length ck ps f.slots.length cs pc f.code.length cc, v] w fun e w' => e = .returned (.bool (goodIM f i)) ∧ Step (fun _ => False) w w' := by
  rw [goodIM_eq]
  obtain ⟨va, vo, rfl, iargs, iouts⟩ := hi
  have HARGS := Lib.hid (iargs.old (w' := w) hw)
  have HKIN := Lib.hid (hkin.old (w' := w) hw)
  have H12 := Lib.hid h12
  obtain ⟨⟨pa, ca, rfl, _, _, _⟩, _⟩ := iargs
  obtain ⟨⟨po, co, rfl, _, _, _⟩, _⟩ := iouts
  have EXT := Lib.hid (fun (w : World) h1 h2 h3 h4 => extra_any (w := w) (f := f) (pp := pp) (cp := cp) (pk := pk) (ck := ck) (ps := ps) (cs := cs) (pc := pc) (cc := cc) (pa := pa) (ca := ca) (po := po) (co := co) (i := i) h1 hk hs h2 h3 h4)
  have REGX := Lib.hid (fun (w : World) (hk1 : IntsAt .i64 w (.slice pk f.kinds.length ck) f.kinds) (r kind : Int) (u : Bool) (hkd : k03 kind) => register_any (nm := f.name) (pp := pp) (np := f.params.length) (cp := cp) (pk := pk) (ck := ck) (ps := ps) (ns := f.slots.length) (cs := cs) (pc := pc) (nc := f.code.length) (cc := cc) (w := w) hk1 hk h12 r kind u hkd)
  clear hkin h12
  have PRE := Lib.hid (show ((formM i.op).isSome && regM f.kinds i.dst (formD i.op).dst (i.op == 16) && regM f.kinds i.a (formD i.op).a (i.op == 17) && regM f.kinds i.b (formD i.op).b false) = true → (i.op = 2 → (0 ≤ i.dst ∧ i.dst < f.kinds.length) ∧ (0 ≤ i.a ∧ i.a < f.kinds.length)) ∧ (i.op = 11 → 0 ≤ i.dst ∧ i.dst < f.kinds.length) ∧ (i.op = 12 → 0 ≤ i.b ∧ i.b < f.kinds.length) from fun h => by
    simp only [Bool.and_eq_true] at h
    obtain ⟨⟨⟨_, h1⟩, h2⟩, h3⟩ := h
    refine ⟨fun e => ?_, fun e => ?_, fun e => ?_⟩
    · rw [e] at h1 h2
      exact ⟨regM_in (kind := 3) h1 (by decide), regM_in (kind := 3) h2 (by decide)⟩
    · rw [e] at h1
      exact regM_in (kind := 3) h1 (by decide)
    · rw [e] at h3
      exact regM_in (kind := 3) h3 (by decide))
  obtain ⟨op, dst, a, b, n, size, name, args, outs, tt⟩ := i
  simp only at *
  unfold fnV at *
  generalize hm : formD op = m at *
  have FK := Lib.hid (show k03 m.dst ∧ k03 m.a ∧ k03 m.b from by rw [← hm]; exact form_kinds op)
  have LOOK := Lib.hid (show ∀ y bm, IMap Try.prog 3 .i64 y bm 22 formG → (Instr.lookup 138 (.map (some bm)) (.int .i64 op) true).run Try.prog y = .ok (.tuple #[formV m, .bool (formM op).isSome]) y from fun y bm im => by
    have := im.lookup_ok (t := 138) (e := 136) Try.underlying3 Try.underlying138 (zero_form y) hop
    rw [formG_get, formG_some, hm] at this
    exact this)
  clear hm
  obtain ⟨m1, m2, m3, m4, m5, m6, m7⟩ := m
  simp only [formV] at LOOK FK
  simp only at PRE ⊢
  generalize (formM op).isSome = z0 at *
  generalize hex : extraM f ⟨op, dst, a, b, n, size, name, args, outs, tt⟩ = zx at *
  obtain ⟨zz, hzz⟩ : ∃ zz, zz = (z0 && regM f.kinds dst m1 (op == 16) && regM f.kinds a m2 (op == 17) && regM f.kinds b m3 false && args.all (fun r => op == 16 && regM f.kinds r 3 false) && (outs.length == 0) && (m4 || n == 0) && (m6 == !(name.data.toList == [])) && decide (0 ≤ tt) && decide (tt < (f.code.length : Int)) && (m7 || tt == 0) && (!(m5 && !(op == 9)) || (size == 1 || size == 4 || size == 8)) && (m5 || size == 0) && zx) := ⟨_, rfl⟩
  rw [← hzz]
  have HZ := Lib.hid hzz
  clear hzz hex
  go_enter Try.func41, Try.ntmps41
  go_upto_region 1 with fail
  have k2 := heap_alloc_new w (.cells #[.string f.name, .slice pp f.params.length cp, .slice pk f.kinds.length ck, .slice ps f.slots.length cs, .slice pc f.code.length cc] 46 (0, 0))
  have s2 := Step.alloc (fun _ => False) w (.cells #[.string f.name, .slice pp f.params.length cp, .slice pk f.kinds.length ck, .slice ps f.slots.length cs, .slice pc f.code.length cc] 46 (0, 0))
  generalize hw2 : w.alloc (.cells #[.string f.name, .slice pp f.params.length cp, .slice pk f.kinds.length ck, .slice ps f.slots.length cs, .slice pc f.code.length cc] 46 (0, 0)) = w2 at *
  have hz2 : w2.heap.size = w.heap.size + 1 := by rw [← hw2]; simp
  have k3 := heap_alloc_new w2 (.cells #[.int .i64 op, .int .i64 dst, .int .i64 a, .int .i64 b, .int .u64 n, .int .i64 size, .string name, .slice pa args.length ca, .slice po outs.length co, .int .i64 tt] 42 (0, 0))
  have s3 := s2.then (Step.alloc (fun _ => False) w2 (.cells #[.int .i64 op, .int .i64 dst, .int .i64 a, .int .i64 b, .int .u64 n, .int .i64 size, .string name, .slice pa args.length ca, .slice po outs.length co, .int .i64 tt] 42 (0, 0)))
  have k2' := (heap_alloc_old w2 (.cells #[.int .i64 op, .int .i64 dst, .int .i64 a, .int .i64 b, .int .u64 n, .int .i64 size, .string name, .slice pa args.length ca, .slice po outs.length co, .int .i64 tt] 42 (0, 0)) (lt_obj k2)).trans k2
  rw [hz2] at k3
  have K2 := Lib.hid k2'
  have K3 := Lib.hid k3
  have S3 := Lib.hid s3
  have KI := Lib.hid (show ∀ y, Step (fun x => (w2.alloc (.cells #[.int .i64 op, .int .i64 dst, .int .i64 a, .int .i64 b, .int .u64 n, .int .i64 size, .string name, .slice pa args.length ca, .slice po outs.length co, .int .i64 tt] 42 (0, 0))).heap.size ≤ x) (w2.alloc (.cells #[.int .i64 op, .int .i64 dst, .int .i64 a, .int .i64 b, .int .u64 n, .int .i64 size, .string name, .slice pa args.length ca, .slice po outs.length co, .int .i64 tt] 42 (0, 0))) y → y.cell? ⟨w.heap.size + 1, 0, none⟩ = some (.int .i64 op) ∧ True from fun y hy => ⟨(hy.cell (lt_obj k3) (fun e => Nat.not_le.2 (lt_obj k3) e)).trans (cell_known k3 rfl), trivial⟩)
  clear hw2 k2 k2' k3 s2 s3 hz2
  generalize w2.alloc (.cells #[.int .i64 op, .int .i64 dst, .int .i64 a, .int .i64 b, .int .u64 n, .int .i64 size, .string name, .slice pa args.length ca, .slice po outs.length co, .int .i64 tt] 42 (0, 0)) = w3 at *
  generalize w.heap.size = B2 at *
  refine wp_region_each 9 planIns1 (fun a b => Step (fun x => w3.heap.size ≤ x) a b) (Step (fun x => w3.heap.size ≤ x) w3) (fun x => Step (fun _ => False) w3 x) [IsForms, Is ?v1_1_1, Is ?v1_1_2, Is ?v1_1_3, Is ?v1_1_4, Is ?v1_1_5, Is ?v1_1_6, IsNew w3 (.cells #[.int .i64 0, .int .i64 0, .int .i64 0, .bool false, .bool false, .bool false, .bool false] 136 (0, 0)), fun _ _ => True] [fun _ _ => True, fun _ _ => True, fun _ _ => True, fun _ _ => True, fun _ _ => True, fun _ _ => True, fun _ _ => True, fun _ _ => True, IsNew w3 (.cells #[.int .i64 m1, .int .i64 m2, .int .i64 m3, .bool m4, .bool m5, .bool m6, .bool m7] 136 (0, 0))] (by kernel_rfl) (by kernel_rfl) (fun _ _ h => h.size) ((Step.refl _ _).drew) ((Step.refl _ _).drew) ?stab1_1 ?stabD1_1 ?obl1_1 ?fin1_1
  case stab1_1 => exact fun w w' h => ⟨fun k => k.trans h (fun _ x => x.elim), fun k => k.trans h (fun _ x => x.elim), ⟨fun _ k => IsForms.stable h k, fun _ k => k, fun _ k => k, fun _ k => k, fun _ k => k, fun _ k => k, fun _ k => k, fun _ k => IsNew.stable h k, fun _ k => k, trivial⟩, ⟨fun _ k => k, fun _ k => k, fun _ k => k, fun _ k => k, fun _ k => k, fun _ k => k, fun _ k => k, fun _ k => k, fun _ k => k.stable h, trivial⟩⟩
  case stabD1_1 => exact fun w w' h => ⟨fun k => k.trans h (fun _ x => .inl x), nofun, fun _ _ k => k, fun _ _ k => k, fun _ _ k => k, fun _ _ k => k, fun _ _ k => k, fun _ _ k => k, nofun, fun _ _ k => k, trivial⟩
  case obl1_1 =>
    refine ⟨?o1_1_0, ?o1_1_1, ?o1_1_2, ?o1_1_3, ?o1_1_4, ?o1_1_5, ?o1_1_6, ?o1_1_7, ?o1_1_8, trivial⟩
    all_goals intro xv wq hH hS H hU aq ha Q' hQ
    case o1_1_0 => obtain ⟨i0, _⟩ := KI.out _ hH; change aq = puts _ xv [] at ha; simp only [q1] at ha; subst ha; clear H ; clear hU hS; go_wp2_with fail; refine (forms_any _).mono ?_; rintro e w4 ⟨bm, rfl, im, s4⟩; go_wp2_with fail; all_goals (try refine hQ _ _ ?_); all_goals refine ⟨s4, ?_, trivial, nofun⟩; all_goals exact ⟨_, rfl, im⟩
    case o1_1_1 => cases rd0 ha; clear H hU hS; go_wp2_with fail; (try refine hQ _ _ ?_); refine ⟨Step.refl _ _, ?_, trivial, nofun⟩; exact (rfl : _ = _)
    case o1_1_2 => obtain ⟨i0, _⟩ := KI.out _ hH; have ha := rd1 ha H (by kernel_rfl) rfl; simp only [q3, q5, q6, q7] at ha; subst ha; clear H hU hS; go_wp2_with fail; (try refine hQ _ _ ?_); refine ⟨Step.refl _ _, ?_, trivial, nofun⟩; exact (rfl : _ = _)
    case o1_1_3 => obtain ⟨i0, _⟩ := KI.out _ hH; obtain ⟨b0, h0, im0⟩ : IsForms _ _ := H 0 (by kernel_rfl); have h2 : xv 2 = _ := H 2 (by kernel_rfl); change aq = puts _ xv [(0, some 10), (2, some 12)] at ha; simp only [q1, q2, q3, q5, q6, q7, h0, h2] at ha; subst ha; clear H h0 h2; clear hU hS; have lk := LOOK.out wq b0 im0; clear im0; go_wp2_with fail; (try refine hQ _ _ ?_); refine ⟨Step.refl _ _, ?_, trivial, nofun⟩; exact (rfl : _ = _)
    case o1_1_4 | o1_1_5 | o1_1_6 => have ha := rd1 ha H (by kernel_rfl) rfl; simp only [q3, q5, q6, q7] at ha; subst ha; clear H hU hS; go_wp2_with fail; (try refine hQ _ _ ?_); refine ⟨Step.refl _ _, ?_, trivial, nofun⟩; exact (rfl : _ = _)
    case o1_1_7 => obtain ⟨i0, _⟩ := KI.out _ hH; change aq = puts _ xv [] at ha; simp only [q1] at ha; subst ha; clear H ; clear hU hS; go_wp2_with fail; (try refine hQ _ _ ?_); refine ⟨Step.alloc _ _ _, ?_, trivial, fun _ => ⟨_, rfl, Nat.le_refl _, by simp⟩⟩; exact ⟨_, rfl, hH.size, heap_alloc_new _ _⟩
    case o1_1_8 =>
      obtain ⟨i0, _⟩ := KI.out _ hH; have h5 : xv 5 = _ := H 5 (by kernel_rfl); obtain ⟨b7, h7, l7, k7⟩ : IsNew w3 (.cells #[.int .i64 0, .int .i64 0, .int .i64 0, .bool false, .bool false, .bool false, .bool false] 136 (0, 0)) _ _ := H 7 (by kernel_rfl); change aq = puts _ xv [(5, some 14), (7, some 5)] at ha; simp only [q1, q2, q3, q5, q6, q7, h5, h7] at ha; have HX7 := Lib.hid h7; subst ha; clear H h5 h7
      clear hU hS
      have K7 := Lib.hid k7
      have x0 := cell_known k7 (i := 0) rfl
      have z1 := free_known k7 0
      have x1 := cell_known k7 (i := 1) rfl
      have z2 := free_known k7 1
      have x2 := cell_known k7 (i := 2) rfl
      have z3 := free_known k7 2
      have x3 := cell_known k7 (i := 3) rfl
      have z4 := free_known k7 3
      have x4 := cell_known k7 (i := 4) rfl
      have z5 := free_known k7 4
      have x5 := cell_known k7 (i := 5) rfl
      have z6 := free_known k7 5
      have x6 := cell_known k7 (i := 6) rfl
      have z7 := free_known k7 6
      clear k7
      go_wp2_with fail
      refine hQ (.bool true) _ ?_
      exact ⟨set7_step (Step.refl _ _) (.inl l7) _ _ _ _ _ _ _, trivial, ⟨b7, HX7.out, l7, set7_known K7.out _ _ _ _ _ _ _⟩, nofun⟩
  intro xv w1 hH hS H hU hsz hF hN
  have h1 : xv 1 = _ := H 1 (by decide) (by kernel_rfl); have h2 : xv 2 = _ := H 2 (by decide) (by kernel_rfl); have h3 : xv 3 = _ := H 3 (by decide) (by kernel_rfl); have h4 : xv 4 = _ := H 4 (by decide) (by kernel_rfl); have h5 : xv 5 = _ := H 5 (by decide) (by kernel_rfl); have h6 : xv 6 = _ := H 6 (by decide) (by kernel_rfl)
  simp only [planIns1, q1, q2, q3, q5, q6, q7, q4, List.drop_succ_cons, List.drop_zero, h1, h2, h3, h4, h5, h6]
  have hL := hU 8 (by decide) (by kernel_rfl)
  clear H hF hN hS hU h1 h2 h3 h4 h5 h6
  obtain ⟨b7, h7, l7, k7⟩ : IsNew w3 _ (xv 7) _ := hL
  simp only [h7]
  have K7 := Lib.hid k7
  have L7 := Lib.hid l7
  clear k7 l7 h7
  have s1 : Step (fun x => w3.heap.size ≤ x) w3 w1 := hH
  have k2 := (s1.block _ (lt_obj K2.out) (Nat.not_le.2 (lt_obj K2.out))).trans K2.out
  have k3 := (s1.block _ (lt_obj K3.out) (Nat.not_le.2 (lt_obj K3.out))).trans K3.out
  have BX := Lib.hid (show ∀ y, Step (fun _ => False) w1 y → _ from fun y (hy : Step (fun _ => False) w1 y) => And.intro (cells_known5 (hy.keeps k2)) (And.intro (hy.keeps k3) (hy.keeps K7.out)))
  have SW := Lib.hid (show Step (fun _ => False) w w1 from ⟨s1.os.trans S3.out.os, s1.tape.trans S3.out.tape, s1.output.trans S3.out.output, Nat.le_trans S3.out.size s1.size, fun b hb hf => (s1.block b (Nat.lt_of_lt_of_le hb S3.out.size) (Nat.not_le.2 (Nat.lt_of_lt_of_le hb S3.out.size))).trans (S3.out.block b hb hf)⟩)
  clear hH k2 k3 s1
  have REG := Lib.hid (fun (y : World) (hy : Step (fun _ => False) w1 y) (r kind : Int) (u : Bool) (hkd : k03 kind) => REGX.out y (HKIN.out.step (SW.out.then hy) fun _ h => h.elim) r kind u hkd)
  clear REGX
  go_upto_region 2 with fail
  cases hp : z0 with
  | false =>
    have HP := Lib.hid hp
    clear hp
    clear PRE EXT
    go_wp2_with fail
    go_ret
    exact ⟨by rw [HZ.out, HP.out]; rfl, SW.out⟩
  | true =>
  have HP := Lib.hid hp
  clear hp
  obtain ⟨⟨f0, f1, f2, f3, f4, _⟩, k3, k7⟩ := BX.out w1 (Step.refl (fun _ => False) w1)
  have i0 := cell_known k3 (i := 0) rfl
  have i1 := cell_known k3 (i := 1) rfl
  have i2 := cell_known k3 (i := 2) rfl
  have i3 := cell_known k3 (i := 3) rfl
  have i4 := cell_known k3 (i := 4) rfl
  have i5 := cell_known k3 (i := 5) rfl
  have i6 := cell_known k3 (i := 6) rfl
  have i7 := cell_known k3 (i := 7) rfl
  have i8 := cell_known k3 (i := 8) rfl
  have i9 := cell_known k3 (i := 9) rfl
  have x0 := cell_known k7 (i := 0) rfl
  have x1 := cell_known k7 (i := 1) rfl
  have x2 := cell_known k7 (i := 2) rfl
  have x3 := cell_known k7 (i := 3) rfl
  have x4 := cell_known k7 (i := 4) rfl
  have x5 := cell_known k7 (i := 5) rfl
  have x6 := cell_known k7 (i := 6) rfl
  clear k3 k7
  go_wp2_with fail
  refine (REG.out _ (Step.refl (fun _ => False) w1) dst m1 (op == 16) FK.out.1).mono ?_
  rintro e y1 ⟨rfl, s1⟩
  have SS1 := Lib.hid (Step.then ((Step.refl (fun _ => False) w1)) s1)
  clear s1 f0 f1 f2 f3 f4 i0 i1 i2 i3 i4 i5 i6 i7 i8 i9 x0 x1 x2 x3 x4 x5 x6
  cases hb1 : regM f.kinds dst m1 (op == 16) with
  | false =>
    have HB1 := Lib.hid hb1
    clear hb1
    clear PRE EXT
    go_wp2_with fail
    go_ret
    exact ⟨by rw [HZ.out, HP.out, HB1.out]; rfl, SW.out.then SS1.out⟩
  | true =>
  have HB1 := Lib.hid hb1
  clear hb1
  obtain ⟨⟨f0, f1, f2, f3, f4, _⟩, k3, k7⟩ := BX.out y1 SS1.out
  have i0 := cell_known k3 (i := 0) rfl
  have i1 := cell_known k3 (i := 1) rfl
  have i2 := cell_known k3 (i := 2) rfl
  have i3 := cell_known k3 (i := 3) rfl
  have i4 := cell_known k3 (i := 4) rfl
  have i5 := cell_known k3 (i := 5) rfl
  have i6 := cell_known k3 (i := 6) rfl
  have i7 := cell_known k3 (i := 7) rfl
  have i8 := cell_known k3 (i := 8) rfl
  have i9 := cell_known k3 (i := 9) rfl
  have x0 := cell_known k7 (i := 0) rfl
  have x1 := cell_known k7 (i := 1) rfl
  have x2 := cell_known k7 (i := 2) rfl
  have x3 := cell_known k7 (i := 3) rfl
  have x4 := cell_known k7 (i := 4) rfl
  have x5 := cell_known k7 (i := 5) rfl
  have x6 := cell_known k7 (i := 6) rfl
  clear k3 k7
  go_wp2_with fail
  refine (REG.out _ SS1.out a m2 (op == 17) FK.out.2.1).mono ?_
  rintro e y2 ⟨rfl, s2⟩
  have SS2 := Lib.hid (Step.then (SS1.out) s2)
  clear s2 f0 f1 f2 f3 f4 i0 i1 i2 i3 i4 i5 i6 i7 i8 i9 x0 x1 x2 x3 x4 x5 x6
  cases hb2 : regM f.kinds a m2 (op == 17) with
  | false =>
    have HB2 := Lib.hid hb2
    clear hb2
    clear PRE EXT
    go_wp2_with fail
    go_ret
    exact ⟨by rw [HZ.out, HP.out, HB1.out, HB2.out]; rfl, SW.out.then SS2.out⟩
  | true =>
  have HB2 := Lib.hid hb2
  clear hb2
  obtain ⟨⟨f0, f1, f2, f3, f4, _⟩, k3, k7⟩ := BX.out y2 SS2.out
  have i0 := cell_known k3 (i := 0) rfl
  have i1 := cell_known k3 (i := 1) rfl
  have i2 := cell_known k3 (i := 2) rfl
  have i3 := cell_known k3 (i := 3) rfl
  have i4 := cell_known k3 (i := 4) rfl
  have i5 := cell_known k3 (i := 5) rfl
  have i6 := cell_known k3 (i := 6) rfl
  have i7 := cell_known k3 (i := 7) rfl
  have i8 := cell_known k3 (i := 8) rfl
  have i9 := cell_known k3 (i := 9) rfl
  have x0 := cell_known k7 (i := 0) rfl
  have x1 := cell_known k7 (i := 1) rfl
  have x2 := cell_known k7 (i := 2) rfl
  have x3 := cell_known k7 (i := 3) rfl
  have x4 := cell_known k7 (i := 4) rfl
  have x5 := cell_known k7 (i := 5) rfl
  have x6 := cell_known k7 (i := 6) rfl
  clear k3 k7
  go_wp2_with fail
  refine (REG.out _ SS2.out b m3 false FK.out.2.2).mono ?_
  rintro e y3 ⟨rfl, s3⟩
  have SS3 := Lib.hid (Step.then (SS2.out) s3)
  clear s3 f0 f1 f2 f3 f4 i0 i1 i2 i3 i4 i5 i6 i7 i8 i9 x0 x1 x2 x3 x4 x5 x6
  cases hb3 : regM f.kinds b m3 false with
  | false =>
    have HB3 := Lib.hid hb3
    clear hb3
    clear PRE EXT
    go_wp2_with fail
    go_ret
    exact ⟨by rw [HZ.out, HP.out, HB1.out, HB2.out, HB3.out]; rfl, SW.out.then SS3.out⟩
  | true =>
  have HB3 := Lib.hid hb3
  clear hb3
  have HZ2 := Lib.hid (HZ.out.trans (show _ = (args.all (fun r => op == 16 && regM f.kinds r 3 false) && (outs.length == 0) && (m4 || n == 0) && (m6 == !(name.data.toList == [])) && decide (0 ≤ tt) && decide (tt < (f.code.length : Int)) && (m7 || tt == 0) && (!(m5 && !(op == 9)) || (size == 1 || size == 4 || size == 8)) && (m5 || size == 0) && zx) from by rw [HP.out, HB1.out, HB2.out, HB3.out]; rfl))
  have PRE2 := Lib.hid (PRE.out (by rw [HP.out, HB1.out, HB2.out, HB3.out]; rfl))
  clear PRE HZ HP HB1 HB2 HB3 FK
  obtain ⟨⟨f0, f1, f2, f3, f4, _⟩, k3, k7⟩ := BX.out y3 SS3.out
  have i0 := cell_known k3 (i := 0) rfl
  have i1 := cell_known k3 (i := 1) rfl
  have i2 := cell_known k3 (i := 2) rfl
  have i3 := cell_known k3 (i := 3) rfl
  have i4 := cell_known k3 (i := 4) rfl
  have i5 := cell_known k3 (i := 5) rfl
  have i6 := cell_known k3 (i := 6) rfl
  have i7 := cell_known k3 (i := 7) rfl
  have i8 := cell_known k3 (i := 8) rfl
  have i9 := cell_known k3 (i := 9) rfl
  have x0 := cell_known k7 (i := 0) rfl
  have x1 := cell_known k7 (i := 1) rfl
  have x2 := cell_known k7 (i := 2) rfl
  have x3 := cell_known k7 (i := 3) rfl
  have x4 := cell_known k7 (i := 4) rfl
  have x5 := cell_known k7 (i := 5) rfl
  have x6 := cell_known k7 (i := 6) rfl
  clear k3 k7
  have TAIL := Lib.hid (And.intro PRE2.out EXT.out)
  clear PRE2 EXT
  go_wp2_with fail
  clear f0 f1 f2 f3 f4 i0 i1 i2 i3 i4 i5 i6 i7 i8 i9 x0 x1 x2 x3 x4 x5 x6
  go_loopw [6, 8, 54] (fun s6 _ q wr => ∃ k : Nat, k ≤ args.length ∧ q = .int .i64 k ∧ s6 = .bool ((args.take k).all (fun r => op == 16 && regM f.kinds r 3 false)) ∧ Step (fun _ => False) w1 wr) (fun _ _ q _ => args.length - (intOf q).toNat)
  case atStart => exact ⟨0, by omega, rfl, by simp, SS3.out⟩
  case round =>
  obtain ⟨k, hkk, rfl, rfl, hst⟩ := hrel
  have ST := Lib.hid hst
  clear hst
  by_cases hlt : k < args.length
  · have hd : decide (k < args.length) = true := decide_eq_true hlt
    obtain ⟨ra, rfl, fr⟩ := ints_facts HARGS.out (r := k) (by omega) (by omega)
    have fr := fr wr (SW.out.then ST.out)
    simp only [Int.toNat_natCast] at fr
    have HTK := Lib.hid (show (args.take (k + 1)).all (fun r => op == 16 && regM f.kinds r 3 false) = ((args.take k).all (fun r => op == 16 && regM f.kinds r 3 false) && (op == 16 && regM f.kinds (args.getD k 0) 3 false)) from by
      rw [List.take_succ_eq_append_getElem hlt, List.all_append, List.getD_eq_getElem?_getD, List.getElem?_eq_getElem hlt]; simp)
    generalize args.getD k 0 = r at *
    generalize (args.take k).all (fun r => op == 16 && regM f.kinds r 3 false) = zk at *
    obtain ⟨⟨f0, f1, f2, f3, f4, _⟩, k3, k7⟩ := BX.out wr ST.out
    have i0 := cell_known k3 (i := 0) rfl
    have i1 := cell_known k3 (i := 1) rfl
    have i2 := cell_known k3 (i := 2) rfl
    have i3 := cell_known k3 (i := 3) rfl
    have i4 := cell_known k3 (i := 4) rfl
    have i5 := cell_known k3 (i := 5) rfl
    have i6 := cell_known k3 (i := 6) rfl
    have i7 := cell_known k3 (i := 7) rfl
    have i8 := cell_known k3 (i := 8) rfl
    have i9 := cell_known k3 (i := 9) rfl
    have x0 := cell_known k7 (i := 0) rfl
    have x1 := cell_known k7 (i := 1) rfl
    have x2 := cell_known k7 (i := 2) rfl
    have x3 := cell_known k7 (i := 3) rfl
    have x4 := cell_known k7 (i := 4) rfl
    have x5 := cell_known k7 (i := 5) rfl
    have x6 := cell_known k7 (i := 6) rfl
    clear k3 k7
    cases hzk : zk with
    | false =>
      have HB := Lib.hid hzk
      go_wp2_with fail
      go_roundw
      case rel => exact ⟨k + 1, by omega, by go_num, by rw [HTK.out, HB.out]; rfl, ST.out⟩
      case measure => simp [intOf]; omega
    | true =>
      have HB := Lib.hid hzk
      cases h16 : (op == 16) with
      | false =>
        have HB6 := Lib.hid h16
        go_wp2_with fail
        go_roundw
        case rel => exact ⟨k + 1, by omega, by go_num, by (have h := HTK.out; rw [HB.out, HB6.out] at h; rw [h]; rfl), ST.out⟩
        case measure => simp [intOf]; omega
      | true =>
        have HB6 := Lib.hid h16
        go_wp2_with fail
        refine (REG.out _ ST.out r 3 false (by unfold k03; simp)).mono ?_
        rintro e y4 ⟨rfl, s4⟩
        have SS4 := Lib.hid (ST.out.then s4)
        clear s4 f0 f1 f2 f3 f4 i0 i1 i2 i3 i4 i5 i6 i7 i8 i9 x0 x1 x2 x3 x4 x5 x6
        go_wp2_with fail
        go_roundw
        case rel => exact ⟨k + 1, by omega, by go_num, by (have h := HTK.out; rw [HB.out, HB6.out] at h; rw [h]; rfl), SS4.out⟩
        case measure => simp [intOf]; omega
  · have hd : decide (k < args.length) = false := decide_eq_false hlt
    have e : k = args.length := by omega
    subst e
    rw [List.take_length]
    generalize args.all (fun r => op == 16 && regM f.kinds r 3 false) = zA at *
    clear REG HARGS H12 hlt hkk
    go_upto_region 9 with fail
    go_cut [6] (fun s6 wx => s6 = .bool (zA && (outs.length == 0) && (m4 || n == 0) && (m6 == !(name.data.toList == []))) ∧ Step (fun _ => False) w1 wx)
    case first =>
      obtain ⟨⟨f0, f1, f2, f3, f4, _⟩, k3, k7⟩ := BX.out wr ST.out
      have i0 := cell_known k3 (i := 0) rfl
      have i1 := cell_known k3 (i := 1) rfl
      have i2 := cell_known k3 (i := 2) rfl
      have i3 := cell_known k3 (i := 3) rfl
      have i4 := cell_known k3 (i := 4) rfl
      have i5 := cell_known k3 (i := 5) rfl
      have i6 := cell_known k3 (i := 6) rfl
      have i7 := cell_known k3 (i := 7) rfl
      have i8 := cell_known k3 (i := 8) rfl
      have i9 := cell_known k3 (i := 9) rfl
      have x0 := cell_known k7 (i := 0) rfl
      have x1 := cell_known k7 (i := 1) rfl
      have x2 := cell_known k7 (i := 2) rfl
      have x3 := cell_known k7 (i := 3) rfl
      have x4 := cell_known k7 (i := 4) rfl
      have x5 := cell_known k7 (i := 5) rfl
      have x6 := cell_known k7 (i := 6) rfl
      clear k3 k7
      cases hp : zA with
      | false =>
        have HP := Lib.hid hp
        clear hp
        go_wp2_with fail
        go_meet
        exact ⟨by rw [HP.out]; rfl, ST.out⟩
      | true =>
        have HP := Lib.hid hp
        clear hp
        cases hol : (outs.length == 0) with
        | false =>
          have HO := Lib.hid hol
          have hol' : ((outs.length : Int) == 0) = false := by rw [beq_eq_false_iff_ne] at hol ⊢; omega
          clear hol
          go_wp2_with fail
          go_meet
          exact ⟨by rw [HP.out, HO.out]; rfl, ST.out⟩
        | true =>
          have HO := Lib.hid hol
          have hol' : ((outs.length : Int) == 0) = true := by rw [beq_iff_eq] at hol ⊢; omega
          clear hol
          cases hb : m4 with
          | true =>
            have HB := Lib.hid hb
            go_wp2_with fail
            go_meet
            exact ⟨by rw [HP.out, HO.out, HB.out, empty_eq]; rfl, ST.out⟩
          | false =>
            have HB := Lib.hid hb
            cases hn : (n == 0) with
            | true =>
              have HNN := Lib.hid hn
              go_wp2_with fail
              go_meet
              exact ⟨by rw [HP.out, HO.out, HB.out, HNN.out, empty_eq]; rfl, ST.out⟩
            | false =>
              have HNN := Lib.hid hn
              go_wp2_with fail
              go_meet
              exact ⟨by rw [HP.out, HO.out, HB.out, HNN.out]; rfl, ST.out⟩
    case rest =>
    obtain ⟨rfl, hs4⟩ := hcut
    have T4 := Lib.hid hs4
    clear hs4
    generalize (zA && (outs.length == 0) && (m4 || n == 0) && (m6 == !(name.data.toList == []))) = z4 at *
    go_upto_region 10 with fail
    go_cut [6] (fun s6 wx => s6 = .bool (z4 && decide (0 ≤ tt) && decide (tt < (f.code.length : Int)) && (m7 || tt == 0)) ∧ Step (fun _ => False) w1 wx)
    case first =>
      obtain ⟨⟨f0, f1, f2, f3, f4, _⟩, k3, k7⟩ := BX.out wc T4.out
      have i0 := cell_known k3 (i := 0) rfl
      have i1 := cell_known k3 (i := 1) rfl
      have i2 := cell_known k3 (i := 2) rfl
      have i3 := cell_known k3 (i := 3) rfl
      have i4 := cell_known k3 (i := 4) rfl
      have i5 := cell_known k3 (i := 5) rfl
      have i6 := cell_known k3 (i := 6) rfl
      have i7 := cell_known k3 (i := 7) rfl
      have i8 := cell_known k3 (i := 8) rfl
      have i9 := cell_known k3 (i := 9) rfl
      have x0 := cell_known k7 (i := 0) rfl
      have x1 := cell_known k7 (i := 1) rfl
      have x2 := cell_known k7 (i := 2) rfl
      have x3 := cell_known k7 (i := 3) rfl
      have x4 := cell_known k7 (i := 4) rfl
      have x5 := cell_known k7 (i := 5) rfl
      have x6 := cell_known k7 (i := 6) rfl
      clear k3 k7
      cases hp : z4 with
      | false =>
        have HP := Lib.hid hp
        clear hp
        go_wp2_with fail
        go_meet
        exact ⟨by rw [HP.out]; rfl, T4.out⟩
      | true =>
        have HP := Lib.hid hp
        clear hp
        cases hb1 : decide (0 ≤ tt) with
        | false =>
          have HB1 := Lib.hid hb1
          go_wp2_with fail
          go_meet
          exact ⟨by rw [HP.out, HB1.out]; rfl, T4.out⟩
        | true =>
          have HB1 := Lib.hid hb1
          cases hb2 : decide (tt < (f.code.length : Int)) with
          | false =>
            have HB2 := Lib.hid hb2
            go_wp2_with fail
            go_meet
            exact ⟨by rw [HP.out, HB1.out, HB2.out]; rfl, T4.out⟩
          | true =>
            have HB2 := Lib.hid hb2
            cases hb3 : m7 with
            | true =>
              have HB3 := Lib.hid hb3
              go_wp2_with fail
              go_meet
              exact ⟨by rw [HP.out, HB1.out, HB2.out, HB3.out]; rfl, T4.out⟩
            | false =>
              have HB3 := Lib.hid hb3
              cases hb4 : (tt == 0) with
              | true =>
                have HB4 := Lib.hid hb4
                go_wp2_with fail
                go_meet
                exact ⟨by rw [HP.out, HB1.out, HB2.out, HB3.out, HB4.out]; rfl, T4.out⟩
              | false =>
                have HB4 := Lib.hid hb4
                go_wp2_with fail
                go_meet
                exact ⟨by rw [HP.out, HB1.out, HB2.out, HB3.out, HB4.out]; rfl, T4.out⟩
    case rest =>
    obtain ⟨rfl, hs5⟩ := hcut
    have T5 := Lib.hid hs5
    clear hs5
    generalize (z4 && decide (0 ≤ tt) && decide (tt < (f.code.length : Int)) && (m7 || tt == 0)) = z5 at *
    obtain ⟨⟨f0, f1, f2, f3, f4, _⟩, k3, k7⟩ := BX.out wc T5.out
    have i0 := cell_known k3 (i := 0) rfl
    have i1 := cell_known k3 (i := 1) rfl
    have i2 := cell_known k3 (i := 2) rfl
    have i3 := cell_known k3 (i := 3) rfl
    have i4 := cell_known k3 (i := 4) rfl
    have i5 := cell_known k3 (i := 5) rfl
    have i6 := cell_known k3 (i := 6) rfl
    have i7 := cell_known k3 (i := 7) rfl
    have i8 := cell_known k3 (i := 8) rfl
    have i9 := cell_known k3 (i := 9) rfl
    have x0 := cell_known k7 (i := 0) rfl
    have x1 := cell_known k7 (i := 1) rfl
    have x2 := cell_known k7 (i := 2) rfl
    have x3 := cell_known k7 (i := 3) rfl
    have x4 := cell_known k7 (i := 4) rfl
    have x5 := cell_known k7 (i := 5) rfl
    have x6 := cell_known k7 (i := 6) rfl
    clear k3 k7
    cases hm5 : m5 with
    | false =>
      have HM5 := Lib.hid hm5
      cases hz5 : z5 with
      | false =>
        have HA := Lib.hid hz5
        go_wp2_with fail
        go_ret
        exact ⟨by (rw [HZ2.out, HM5.out, HA.out]; first | rfl | simp), SW.out.then T5.out⟩
      | true =>
        have HA := Lib.hid hz5
        cases hs0 : (size == 0) with
        | false =>
          have HC0 := Lib.hid hs0
          go_wp2_with fail
          go_ret
          exact ⟨by (rw [HZ2.out, HM5.out, HA.out, HC0.out]; first | rfl | simp), SW.out.then T5.out⟩
        | true =>
          have HC0 := Lib.hid hs0
          go_wp2_with fail
          refine (TAIL.out.2 _ (HKIN.out.step (SW.out.then T5.out) fun _ h => h.elim) TAIL.out.1.1 TAIL.out.1.2.1 TAIL.out.1.2.2).mono ?_
          rintro e y5 ⟨rfl, s5⟩
          have SS5 := Lib.hid (T5.out.then s5)
          clear s5 f0 f1 f2 f3 f4 i0 i1 i2 i3 i4 i5 i6 i7 i8 i9 x0 x1 x2 x3 x4 x5 x6
          go_wp2_with fail
          go_ret
          exact ⟨by (rw [HZ2.out, HM5.out, HA.out, HC0.out]; first | rfl | simp), SW.out.then SS5.out⟩
    | true =>
      have HM5 := Lib.hid hm5
      cases h9 : (op == 9) with
      | false =>
        have H9 := Lib.hid h9
        cases hz5 : z5 with
        | false =>
          have HA := Lib.hid hz5
          go_wp2_with fail
          go_ret
          exact ⟨by (rw [HZ2.out, HM5.out, H9.out, HA.out]; first | rfl | simp), SW.out.then T5.out⟩
        | true =>
          have HA := Lib.hid hz5
          cases hs1 : (size == 1) with
          | false =>
            have HC1 := Lib.hid hs1
            cases hs4 : (size == 4) with
            | false =>
              have HC4 := Lib.hid hs4
              cases hs8 : (size == 8) with
              | false =>
                have HC8 := Lib.hid hs8
                go_wp2_with fail
                go_ret
                exact ⟨by (rw [HZ2.out, HM5.out, H9.out, HA.out, HC1.out, HC4.out, HC8.out]; first | rfl | simp), SW.out.then T5.out⟩
              | true =>
                have HC8 := Lib.hid hs8
                go_wp2_with fail
                refine (TAIL.out.2 _ (HKIN.out.step (SW.out.then T5.out) fun _ h => h.elim) TAIL.out.1.1 TAIL.out.1.2.1 TAIL.out.1.2.2).mono ?_
                rintro e y5 ⟨rfl, s5⟩
                have SS5 := Lib.hid (T5.out.then s5)
                clear s5 f0 f1 f2 f3 f4 i0 i1 i2 i3 i4 i5 i6 i7 i8 i9 x0 x1 x2 x3 x4 x5 x6
                go_wp2_with fail
                go_ret
                exact ⟨by (rw [HZ2.out, HM5.out, H9.out, HA.out, HC1.out, HC4.out, HC8.out]; first | rfl | simp), SW.out.then SS5.out⟩
            | true =>
              have HC4 := Lib.hid hs4
              go_wp2_with fail
              refine (TAIL.out.2 _ (HKIN.out.step (SW.out.then T5.out) fun _ h => h.elim) TAIL.out.1.1 TAIL.out.1.2.1 TAIL.out.1.2.2).mono ?_
              rintro e y5 ⟨rfl, s5⟩
              have SS5 := Lib.hid (T5.out.then s5)
              clear s5 f0 f1 f2 f3 f4 i0 i1 i2 i3 i4 i5 i6 i7 i8 i9 x0 x1 x2 x3 x4 x5 x6
              go_wp2_with fail
              go_ret
              exact ⟨by (rw [HZ2.out, HM5.out, H9.out, HA.out, HC1.out, HC4.out]; first | rfl | simp), SW.out.then SS5.out⟩
          | true =>
            have HC1 := Lib.hid hs1
            go_wp2_with fail
            refine (TAIL.out.2 _ (HKIN.out.step (SW.out.then T5.out) fun _ h => h.elim) TAIL.out.1.1 TAIL.out.1.2.1 TAIL.out.1.2.2).mono ?_
            rintro e y5 ⟨rfl, s5⟩
            have SS5 := Lib.hid (T5.out.then s5)
            clear s5 f0 f1 f2 f3 f4 i0 i1 i2 i3 i4 i5 i6 i7 i8 i9 x0 x1 x2 x3 x4 x5 x6
            go_wp2_with fail
            go_ret
            exact ⟨by (rw [HZ2.out, HM5.out, H9.out, HA.out, HC1.out]; first | rfl | simp), SW.out.then SS5.out⟩
      | true =>
        have H9 := Lib.hid h9
        cases hz5 : z5 with
        | false =>
          have HA := Lib.hid hz5
          go_wp2_with fail
          go_ret
          exact ⟨by (rw [HZ2.out, HM5.out, H9.out, HA.out]; first | rfl | simp), SW.out.then T5.out⟩
        | true =>
          have HA := Lib.hid hz5
          go_wp2_with fail
          refine (TAIL.out.2 _ (HKIN.out.step (SW.out.then T5.out) fun _ h => h.elim) TAIL.out.1.1 TAIL.out.1.2.1 TAIL.out.1.2.2).mono ?_
          rintro e y5 ⟨rfl, s5⟩
          have SS5 := Lib.hid (T5.out.then s5)
          clear s5 f0 f1 f2 f3 f4 i0 i1 i2 i3 i4 i5 i6 i7 i8 i9 x0 x1 x2 x3 x4 x5 x6
          go_wp2_with fail
          go_ret
          exact ⟨by (rw [HZ2.out, HM5.out, H9.out, HA.out]; first | rfl | simp), SW.out.then SS5.out⟩
end
end Go.Proofs.Ytojfgdoniajmeaa
