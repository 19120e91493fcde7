/- Package fat: is an instruction well formed? -/
import Derived.Test.YtpmbakhnamlooaaGooC
import Derived.Deep.DeepCutAuto
namespace Go.Proofs.Ytpmbakhnamlooaa
set_option linter.unusedVariables false
set_option linter.unusedSimpArgs false
open Go.RowKit

theorem zero_form (w : World) : (zeroValue 104).run Try.prog w = .ok (formV {}) w := by kernel_rfl
theorem empty_eq (s : ByteArray) : s.toList.isEmpty = (s.data.toList == []) := by
  rw [ByteArray.toList_eq]
  cases s.data.toList <;> rfl
def IsForms (y : Value) (w : World) : Prop := ∃ b, y = .map (some b) ∧ IMap Try.prog 3 .i64 w b 23 formG
theorem IsForms.stable {y : Value} {w w' : World} (h : Step (fun _ => False) w w') (k : IsForms y w) : IsForms y w' := by
  obtain ⟨b, e, im⟩ := k
  exact ⟨b, e, im.same (h.block _ im.lt fun x => x)⟩
def formD (op : Int) : Form := (formF op).getD {}
theorem formG_get (op : Int) : (formG op).getD (formV {}) = formV (formD op) := by
  unfold formG formD
  cases formF op <;> rfl
theorem formG_some (op : Int) : (formG op).isSome = (formF op).isSome := by
  unfold formG
  cases formF op <;> rfl
/-- what some Ops ask of N -/
def lastB (op n : Int) (k : Nat) : Bool := if op = 3 then decide (1 ≤ n) && decide (n ≤ 27) else if op = 31 ∨ op = 39 then decide (n < k) else true
theorem goodI_eq (f : FFn) (i : FIns) : goodI f i = ((formF i.op).isSome && regB f.kinds.length i.dst (formD i.op).dst && regB f.kinds.length i.a (formD i.op).a && regB f.kinds.length i.b (formD i.op).b && listB f.kinds.length i.args (formD i.op).args false && listB f.kinds.length i.outs (formD i.op).outs true && sizeB (formD i.op).size i.size &&
    ((formD i.op).n || i.n == 0) && ((formD i.op).name == !(i.name.data.toList == [])) && decide (0 ≤ i.to) && decide (i.to < f.code.length) && ((formD i.op).far || i.to == 0) &&
    lastB i.op i.n f.slots.length) := by
  unfold goodI formD lastB
  cases formF i.op with
  | none => simp
  | some m => simp

theorem set9_known {w : World} {b : Nat} {T : TypeId} {u0 u1 u2 u3 u4 u5 u6 u7 u8 : Value} (h : w.heap[b]? = some (.cells #[u0, u1, u2, u3, u4, u5, u6, u7, u8] T (0, 0))) (v0 v1 v2 v3 v4 v5 v6 v7 v8 : Value) : ((((((((((w).setCell ⟨b, 0, none⟩ v0).setCell ⟨b, 1, none⟩ v1).setCell ⟨b, 2, none⟩ v2).setCell ⟨b, 3, none⟩ v3).setCell ⟨b, 4, none⟩ v4).setCell ⟨b, 5, none⟩ v5).setCell ⟨b, 6, none⟩ v6).setCell ⟨b, 7, none⟩ v7).setCell ⟨b, 8, none⟩ v8).heap[b]? = some (.cells #[v0, v1, v2, v3, v4, v5, v6, v7, v8] T (0, 0)) := by
  have h0 : ((w).setCell ⟨b, 0, none⟩ v0).heap[b]? = some (.cells #[v0, u1, u2, u3, u4, u5, u6, u7, u8] T (0, 0)) := by rw [set_known h]; rfl
  have h1 : (((w).setCell ⟨b, 0, none⟩ v0).setCell ⟨b, 1, none⟩ v1).heap[b]? = some (.cells #[v0, v1, u2, u3, u4, u5, u6, u7, u8] T (0, 0)) := by rw [set_known h0]; rfl
  have h2 : ((((w).setCell ⟨b, 0, none⟩ v0).setCell ⟨b, 1, none⟩ v1).setCell ⟨b, 2, none⟩ v2).heap[b]? = some (.cells #[v0, v1, v2, u3, u4, u5, u6, u7, u8] T (0, 0)) := by rw [set_known h1]; rfl
  have h3 : (((((w).setCell ⟨b, 0, none⟩ v0).setCell ⟨b, 1, none⟩ v1).setCell ⟨b, 2, none⟩ v2).setCell ⟨b, 3, none⟩ v3).heap[b]? = some (.cells #[v0, v1, v2, v3, u4, u5, u6, u7, u8] T (0, 0)) := by rw [set_known h2]; rfl
  have h4 : ((((((w).setCell ⟨b, 0, none⟩ v0).setCell ⟨b, 1, none⟩ v1).setCell ⟨b, 2, none⟩ v2).setCell ⟨b, 3, none⟩ v3).setCell ⟨b, 4, none⟩ v4).heap[b]? = some (.cells #[v0, v1, v2, v3, v4, u5, u6, u7, u8] T (0, 0)) := by rw [set_known h3]; rfl
  have h5 : (((((((w).setCell ⟨b, 0, none⟩ v0).setCell ⟨b, 1, none⟩ v1).setCell ⟨b, 2, none⟩ v2).setCell ⟨b, 3, none⟩ v3).setCell ⟨b, 4, none⟩ v4).setCell ⟨b, 5, none⟩ v5).heap[b]? = some (.cells #[v0, v1, v2, v3, v4, v5, u6, u7, u8] T (0, 0)) := by rw [set_known h4]; rfl
  have h6 : ((((((((w).setCell ⟨b, 0, none⟩ v0).setCell ⟨b, 1, none⟩ v1).setCell ⟨b, 2, none⟩ v2).setCell ⟨b, 3, none⟩ v3).setCell ⟨b, 4, none⟩ v4).setCell ⟨b, 5, none⟩ v5).setCell ⟨b, 6, none⟩ v6).heap[b]? = some (.cells #[v0, v1, v2, v3, v4, v5, v6, u7, u8] T (0, 0)) := by rw [set_known h5]; rfl
  have h7 : (((((((((w).setCell ⟨b, 0, none⟩ v0).setCell ⟨b, 1, none⟩ v1).setCell ⟨b, 2, none⟩ v2).setCell ⟨b, 3, none⟩ v3).setCell ⟨b, 4, none⟩ v4).setCell ⟨b, 5, none⟩ v5).setCell ⟨b, 6, none⟩ v6).setCell ⟨b, 7, none⟩ v7).heap[b]? = some (.cells #[v0, v1, v2, v3, v4, v5, v6, v7, u8] T (0, 0)) := by rw [set_known h6]; rfl
  have h8 : ((((((((((w).setCell ⟨b, 0, none⟩ v0).setCell ⟨b, 1, none⟩ v1).setCell ⟨b, 2, none⟩ v2).setCell ⟨b, 3, none⟩ v3).setCell ⟨b, 4, none⟩ v4).setCell ⟨b, 5, none⟩ v5).setCell ⟨b, 6, none⟩ v6).setCell ⟨b, 7, none⟩ v7).setCell ⟨b, 8, none⟩ v8).heap[b]? = some (.cells #[v0, v1, v2, v3, v4, v5, v6, v7, v8] T (0, 0)) := by rw [set_known h7]; rfl
  exact h8
theorem set9_step {F : Nat → Prop} {a w : World} {b : Nat} (s : Step F a w) (hb : F b ∨ a.heap.size ≤ b) (v0 v1 v2 v3 v4 v5 v6 v7 v8 : Value) : Step F a ((((((((((w).setCell ⟨b, 0, none⟩ v0).setCell ⟨b, 1, none⟩ v1).setCell ⟨b, 2, none⟩ v2).setCell ⟨b, 3, none⟩ v3).setCell ⟨b, 4, none⟩ v4).setCell ⟨b, 5, none⟩ v5).setCell ⟨b, 6, none⟩ v6).setCell ⟨b, 7, none⟩ v7).setCell ⟨b, 8, none⟩ v8) :=
  ((((((((s.set (p := ⟨b, 0, none⟩) hb v0).set (p := ⟨b, 1, none⟩) hb v1).set (p := ⟨b, 2, none⟩) hb v2).set (p := ⟨b, 3, none⟩) hb v3).set (p := ⟨b, 4, none⟩) hb v4).set (p := ⟨b, 5, none⟩) hb v5).set (p := ⟨b, 6, none⟩) hb v6).set (p := ⟨b, 7, none⟩) hb v7).set (p := ⟨b, 8, none⟩) hb v8

section
variable {w0 w w' : World}
def planIns1 : Plan where
  T := [[], [], [1], [0, 1, 2], [0, 1, 2, 3], [0, 1, 2, 3, 4], [0, 1, 2, 3, 4], [], [0, 1, 2, 3, 4, 5, 7], [0, 1, 2, 3, 4, 5, 6, 7, 8]]
  rd := [[], [], [(1, some 9)], [(0, some 8), (2, some 10)], [(3, some 11)], [(4, some 7)], [(4, some 7)], [], [(5, some 12), (7, some 5)]]
  all := [(8, none), (7, some 5), (6, some 13), (5, some 12), (4, some 7), (3, some 11), (2, some 10), (1, some 9), (0, some 8)]
  calm := [true, true, true, true, true, true, true, true, false]
  hard := [false, true, true, true, true, true, true, false, true]
  fresh := [false, false, false, false, false, false, false, true, false]
  ref := [0, 1, 2, 3, 4, 5, 6, 7, 7]

set_option maxHeartbeats 4000000 in
set_option maxRecDepth 100000 in
theorem instruction_any {f : FFn} {pp pk ps pc : Option Addr} {cp ck cs cc : Nat} {v : Value} {i : FIns} (hi : InsAt w0 v i) (hw : ∀ b, b < w0.heap.size → w.heap[b]? = w0.heap[b]?)
    (hop : (Lit.int .i64 i.op).wf = true) (hk : f.kinds.length ≤ 1000000) (hs : f.slots.length ≤ 1000000) (hc : f.code.length ≤ 1000000) (ha : i.args.length ≤ 1000000) (ho : i.outs.length ≤ 1000000) :
    Calls Try.prog 36 #[fnV f.name pp f.params.length cp pk f.kinds.length ck ps f.slots.length cs pc f.code.length cc, v] w fun e w' => e = .returned (.bool (goodI f i)) ∧ Step (fun _ => False) w w' := by
  rw [goodI_eq]
  obtain ⟨va, vo, rfl, iargs, iouts⟩ := hi
  have HARGS := Lib.hid (iargs.old (w' := w) hw)
  have HOUTS := Lib.hid (iouts.old (w' := w) hw)
  obtain ⟨⟨pa, ca, rfl, _, _, _⟩, _⟩ := iargs
  obtain ⟨⟨po, co, rfl, _, _, _⟩, _⟩ := iouts
  obtain ⟨op, dst, a, b, n, size, name, args, outs, tt⟩ := i
  simp only at *
  have REG := Lib.hid (fun (r : Int) (u : Bool) (w : World) => register_any (nm := f.name) (pp := pp) (np := f.params.length) (cp := cp) (pk := pk) (nk := f.kinds.length) (ck := ck) (ps := ps) (ns := f.slots.length) (cs := cs) (pc := pc) (nc := f.code.length) (cc := cc) r u w)
  have LIST := Lib.hid (fun (w : World) (v : Value) (l : List Int) (hl : IntsAt .i64 w v l) (n : Int) (once : Bool) (h : l.length ≤ 1000000) => list_any (nm := f.name) (pp := pp) (np := f.params.length) (cp := cp) (pk := pk) (nk := f.kinds.length) (ck := ck) (ps := ps) (ns := f.slots.length) (cs := cs) (pc := pc) (nc := f.code.length) (cc := cc) hl n once h)
  unfold fnV at *
  generalize hm : formD op = m
  have LOOK := Lib.hid (show ∀ y bm, IMap Try.prog 3 .i64 y bm 23 formG → (Instr.lookup 106 (.map (some bm)) (.int .i64 op) true).run Try.prog y = .ok (.tuple #[formV m, .bool (formF op).isSome]) y from fun y bm im => by
    have := im.lookup_ok (t := 106) (e := 104) Try.underlying3 Try.underlying106 (zero_form y) hop
    rw [formG_get, formG_some, hm] at this
    exact this)
  clear hm
  obtain ⟨m1, m2, m3, m4, m5, m6, m7, m8, m9⟩ := m
  simp only [formV] at LOOK
  simp only
  generalize (formF op).isSome = z0 at *
  obtain ⟨zz, hzz⟩ : ∃ zz, zz = (z0 && regB f.kinds.length dst m1 && regB f.kinds.length a m2 && regB f.kinds.length b m3 && listB f.kinds.length args m8 false && listB f.kinds.length outs m9 true && sizeB m7 size && (m4 || n == 0) && (m5 == !(name.data.toList == [])) && decide (0 ≤ tt) && decide (tt < (f.code.length : Int)) && (m6 || tt == 0) && lastB op n f.slots.length) := ⟨_, rfl⟩
  rw [← hzz]
  have HZ := Lib.hid hzz
  clear hzz
  go_enter Try.func36, Try.ntmps36
  go_upto_region 1 with fail
  have k2 := heap_alloc_new w (.cells #[.string f.name, .slice pp f.params.length cp, .slice pk f.kinds.length ck, .slice ps f.slots.length cs, .slice pc f.code.length cc] 54 (0, 0))
  have s2 := Step.alloc (fun _ => False) w (.cells #[.string f.name, .slice pp f.params.length cp, .slice pk f.kinds.length ck, .slice ps f.slots.length cs, .slice pc f.code.length cc] 54 (0, 0))
  generalize hw2 : w.alloc (.cells #[.string f.name, .slice pp f.params.length cp, .slice pk f.kinds.length ck, .slice ps f.slots.length cs, .slice pc f.code.length cc] 54 (0, 0)) = w2 at *
  have hz2 : w2.heap.size = w.heap.size + 1 := by rw [← hw2]; simp
  have k3 := heap_alloc_new w2 (.cells #[.int .i64 op, .int .i64 dst, .int .i64 a, .int .i64 b, .int .u64 n, .int .i64 size, .string name, .slice pa args.length ca, .slice po outs.length co, .int .i64 tt] 47 (0, 0))
  have s3 := s2.then (Step.alloc (fun _ => False) w2 (.cells #[.int .i64 op, .int .i64 dst, .int .i64 a, .int .i64 b, .int .u64 n, .int .i64 size, .string name, .slice pa args.length ca, .slice po outs.length co, .int .i64 tt] 47 (0, 0)))
  have k2' := (heap_alloc_old w2 (.cells #[.int .i64 op, .int .i64 dst, .int .i64 a, .int .i64 b, .int .u64 n, .int .i64 size, .string name, .slice pa args.length ca, .slice po outs.length co, .int .i64 tt] 47 (0, 0)) (lt_obj k2)).trans k2
  rw [hz2] at k3
  have K2 := Lib.hid k2'
  have K3 := Lib.hid k3
  have S3 := Lib.hid s3
  have KI := Lib.hid (show ∀ y, Step (fun x => (w2.alloc (.cells #[.int .i64 op, .int .i64 dst, .int .i64 a, .int .i64 b, .int .u64 n, .int .i64 size, .string name, .slice pa args.length ca, .slice po outs.length co, .int .i64 tt] 47 (0, 0))).heap.size ≤ x) (w2.alloc (.cells #[.int .i64 op, .int .i64 dst, .int .i64 a, .int .i64 b, .int .u64 n, .int .i64 size, .string name, .slice pa args.length ca, .slice po outs.length co, .int .i64 tt] 47 (0, 0))) y → y.cell? ⟨w.heap.size + 1, 0, none⟩ = some (.int .i64 op) ∧ True from fun y hy => ⟨(hy.cell (lt_obj k3) (fun e => Nat.not_le.2 (lt_obj k3) e)).trans (cell_known k3 rfl), trivial⟩)
  clear hw2 k2 k2' k3 s2 s3 hz2
  generalize w2.alloc (.cells #[.int .i64 op, .int .i64 dst, .int .i64 a, .int .i64 b, .int .u64 n, .int .i64 size, .string name, .slice pa args.length ca, .slice po outs.length co, .int .i64 tt] 47 (0, 0)) = w3 at *
  generalize w.heap.size = B2 at *
  refine wp_region_each 9 planIns1 (fun a b => Step (fun x => w3.heap.size ≤ x) a b) (Step (fun x => w3.heap.size ≤ x) w3) (fun x => Step (fun _ => False) w3 x) [IsForms, Is ?v1_1_1, Is ?v1_1_2, Is ?v1_1_3, Is ?v1_1_4, Is ?v1_1_5, Is ?v1_1_6, IsNew w3 (.cells #[.bool false, .bool false, .bool false, .bool false, .bool false, .bool false, .int .i64 0, .int .i64 0, .int .i64 0] 104 (0, 0)), fun _ _ => True] [fun _ _ => True, fun _ _ => True, fun _ _ => True, fun _ _ => True, fun _ _ => True, fun _ _ => True, fun _ _ => True, fun _ _ => True, IsNew w3 (.cells #[.bool m1, .bool m2, .bool m3, .bool m4, .bool m5, .bool m6, .int .i64 m7, .int .i64 m8, .int .i64 m9] 104 (0, 0))] (by kernel_rfl) (by kernel_rfl) (fun _ _ h => h.size) ((Step.refl _ _).drew) ((Step.refl _ _).drew) ?stab1_1 ?stabD1_1 ?obl1_1 ?fin1_1
  case stab1_1 => exact fun w w' h => ⟨fun k => k.trans h (fun _ x => x.elim), fun k => k.trans h (fun _ x => x.elim), ⟨fun _ k => IsForms.stable h k, fun _ k => k, fun _ k => k, fun _ k => k, fun _ k => k, fun _ k => k, fun _ k => k, fun _ k => IsNew.stable h k, fun _ k => k, trivial⟩, ⟨fun _ k => k, fun _ k => k, fun _ k => k, fun _ k => k, fun _ k => k, fun _ k => k, fun _ k => k, fun _ k => k, fun _ k => k.stable h, trivial⟩⟩
  case stabD1_1 => exact fun w w' h => ⟨fun k => k.trans h (fun _ x => .inl x), nofun, fun _ _ k => k, fun _ _ k => k, fun _ _ k => k, fun _ _ k => k, fun _ _ k => k, fun _ _ k => k, nofun, fun _ _ k => k, trivial⟩
  case obl1_1 =>
    refine ⟨?o1_1_0, ?o1_1_1, ?o1_1_2, ?o1_1_3, ?o1_1_4, ?o1_1_5, ?o1_1_6, ?o1_1_7, ?o1_1_8, trivial⟩
    all_goals intro xv wq hH hS H hU aq ha Q' hQ
    case o1_1_0 => obtain ⟨i0, _⟩ := KI.out _ hH; change aq = puts _ xv [] at ha; simp only [q1] at ha; subst ha; clear H ; clear hU hS; go_wp2_with fail; refine (forms_any _).mono ?_; rintro e w4 ⟨bm, rfl, im, s4⟩; go_wp2_with fail; all_goals (try refine hQ _ _ ?_); all_goals refine ⟨s4, ?_, trivial, nofun⟩; all_goals exact ⟨_, rfl, im⟩
    case o1_1_1 => cases rd0 ha; clear H hU hS; go_wp2_with fail; (try refine hQ _ _ ?_); refine ⟨Step.refl _ _, ?_, trivial, nofun⟩; exact (rfl : _ = _)
    case o1_1_2 => obtain ⟨i0, _⟩ := KI.out _ hH; have ha := rd1 ha H (by kernel_rfl) rfl; simp only [q3, q5, q6, q7] at ha; subst ha; clear H hU hS; go_wp2_with fail; (try refine hQ _ _ ?_); refine ⟨Step.refl _ _, ?_, trivial, nofun⟩; exact (rfl : _ = _)
    case o1_1_3 => obtain ⟨i0, _⟩ := KI.out _ hH; obtain ⟨b0, h0, im0⟩ : IsForms _ _ := H 0 (by kernel_rfl); have h2 : xv 2 = _ := H 2 (by kernel_rfl); change aq = puts _ xv [(0, some 8), (2, some 10)] at ha; simp only [q1, q2, q3, q5, q6, q7, h0, h2] at ha; subst ha; clear H h0 h2; clear hU hS; have lk := LOOK.out wq b0 im0; clear im0; go_wp2_with fail; (try refine hQ _ _ ?_); refine ⟨Step.refl _ _, ?_, trivial, nofun⟩; exact (rfl : _ = _)
    case o1_1_4 | o1_1_5 | o1_1_6 => have ha := rd1 ha H (by kernel_rfl) rfl; simp only [q3, q5, q6, q7] at ha; subst ha; clear H hU hS; go_wp2_with fail; (try refine hQ _ _ ?_); refine ⟨Step.refl _ _, ?_, trivial, nofun⟩; exact (rfl : _ = _)
    case o1_1_7 => obtain ⟨i0, _⟩ := KI.out _ hH; change aq = puts _ xv [] at ha; simp only [q1] at ha; subst ha; clear H ; clear hU hS; go_wp2_with fail; (try refine hQ _ _ ?_); refine ⟨Step.alloc _ _ _, ?_, trivial, fun _ => ⟨_, rfl, Nat.le_refl _, by simp⟩⟩; exact ⟨_, rfl, hH.size, heap_alloc_new _ _⟩
    case o1_1_8 =>
      obtain ⟨i0, _⟩ := KI.out _ hH; have h5 : xv 5 = _ := H 5 (by kernel_rfl); obtain ⟨b7, h7, l7, k7⟩ : IsNew w3 (.cells #[.bool false, .bool false, .bool false, .bool false, .bool false, .bool false, .int .i64 0, .int .i64 0, .int .i64 0] 104 (0, 0)) _ _ := H 7 (by kernel_rfl); change aq = puts _ xv [(5, some 12), (7, some 5)] at ha; simp only [q1, q2, q3, q5, q6, q7, h5, h7] at ha; have HX7 := Lib.hid h7; subst ha; clear H h5 h7
      clear hU hS
      have K7 := Lib.hid k7
      have x0 := cell_known k7 (i := 0) rfl
      have z1 := free_known k7 0
      have x1 := cell_known k7 (i := 1) rfl
      have z2 := free_known k7 1
      have x2 := cell_known k7 (i := 2) rfl
      have z3 := free_known k7 2
      have x3 := cell_known k7 (i := 3) rfl
      have z4 := free_known k7 3
      have x4 := cell_known k7 (i := 4) rfl
      have z5 := free_known k7 4
      have x5 := cell_known k7 (i := 5) rfl
      have z6 := free_known k7 5
      have x6 := cell_known k7 (i := 6) rfl
      have z7 := free_known k7 6
      have x7 := cell_known k7 (i := 7) rfl
      have z8 := free_known k7 7
      have x8 := cell_known k7 (i := 8) rfl
      have z9 := free_known k7 8
      clear k7
      go_wp2_with fail
      refine hQ (.bool true) _ ?_
      exact ⟨set9_step (Step.refl _ _) (.inl l7) _ _ _ _ _ _ _ _ _, trivial, ⟨b7, HX7.out, l7, set9_known K7.out _ _ _ _ _ _ _ _ _⟩, nofun⟩
  intro xv w1 hH hS H hU hsz hF hN
  have h1 : xv 1 = _ := H 1 (by decide) (by kernel_rfl); have h2 : xv 2 = _ := H 2 (by decide) (by kernel_rfl); have h3 : xv 3 = _ := H 3 (by decide) (by kernel_rfl); have h4 : xv 4 = _ := H 4 (by decide) (by kernel_rfl); have h5 : xv 5 = _ := H 5 (by decide) (by kernel_rfl); have h6 : xv 6 = _ := H 6 (by decide) (by kernel_rfl)
  simp only [planIns1, q1, q2, q3, q5, q6, q7, q4, List.drop_succ_cons, List.drop_zero, h1, h2, h3, h4, h5, h6]
  have hL := hU 8 (by decide) (by kernel_rfl)
  clear H hF hN hS hU h1 h2 h3 h4 h5 h6
  obtain ⟨b7, h7, l7, k7⟩ : IsNew w3 _ (xv 7) _ := hL
  simp only [h7]
  have K7 := Lib.hid k7
  have L7 := Lib.hid l7
  clear k7 l7 h7
  have s1 : Step (fun x => w3.heap.size ≤ x) w3 w1 := hH
  have k2 := (s1.block _ (lt_obj K2.out) (Nat.not_le.2 (lt_obj K2.out))).trans K2.out
  have k3 := (s1.block _ (lt_obj K3.out) (Nat.not_le.2 (lt_obj K3.out))).trans K3.out
  have BX := Lib.hid (show ∀ y, Step (fun _ => False) w1 y → _ from fun y (hy : Step (fun _ => False) w1 y) => And.intro (cells_known5 (hy.keeps k2)) (And.intro (hy.keeps k3) (hy.keeps K7.out)))
  have SW := Lib.hid (show Step (fun _ => False) w w1 from ⟨s1.os.trans S3.out.os, s1.tape.trans S3.out.tape, s1.output.trans S3.out.output, Nat.le_trans S3.out.size s1.size, fun b hb hf => (s1.block b (Nat.lt_of_lt_of_le hb S3.out.size) (Nat.not_le.2 (Nat.lt_of_lt_of_le hb S3.out.size))).trans (S3.out.block b hb hf)⟩)
  clear hH k2 k3 s1
  have SIZ := Lib.hid (show ∀ w, Calls Try.prog 53 #[.agg #[.bool m1, .bool m2, .bool m3, .bool m4, .bool m5, .bool m6, .int .i64 m7, .int .i64 m8, .int .i64 m9], .int .i64 size] w fun e w' => e = .returned (.bool (sizeB m7 size)) ∧ Step (fun _ => False) w w' from fun w => sized_any ⟨m1, m2, m3, m4, m5, m6, m7, m8, m9⟩ size w)
  go_upto_region 2 with fail
  go_cut [6] (fun s6 wx => s6 = .bool (z0 && regB f.kinds.length dst m1 && regB f.kinds.length a m2 && regB f.kinds.length b m3) ∧ Step (fun _ => False) w1 wx)
  case first =>
    cases hp : z0 with
    | false =>
      have HP := Lib.hid hp
      clear hp
      go_wp2_with fail
      go_meet
      exact ⟨by rw [HP.out]; rfl, (Step.refl (fun _ => False) w1)⟩
    | true =>
      have HP := Lib.hid hp
      clear hp
      obtain ⟨⟨f0, f1, f2, f3, f4, _⟩, k3, k7⟩ := BX.out w1 (Step.refl (fun _ => False) w1)
      have i1 := cell_known k3 (i := 1) rfl
      have i2 := cell_known k3 (i := 2) rfl
      have i3 := cell_known k3 (i := 3) rfl
      have x0 := cell_known k7 (i := 0) rfl
      have x1 := cell_known k7 (i := 1) rfl
      have x2 := cell_known k7 (i := 2) rfl
      clear k3 k7
      go_wp2_with fail
      refine (REG.out dst m1 _).mono ?_
      rintro e y1 ⟨rfl, s1⟩
      have SS1 := Lib.hid (Step.then ((Step.refl (fun _ => False) w1)) s1)
      clear s1 f0 f1 f2 f3 f4 i1 i2 i3 x0 x1 x2
      cases hb1 : regB f.kinds.length dst m1 with
      | false =>
        have HB1 := Lib.hid hb1
        clear hb1
        go_wp2_with fail
        go_meet
        exact ⟨by rw [HP.out, HB1.out]; rfl, SS1.out⟩
      | true =>
        have HB1 := Lib.hid hb1
        clear hb1
        obtain ⟨⟨f0, f1, f2, f3, f4, _⟩, k3, k7⟩ := BX.out y1 SS1.out
        have i1 := cell_known k3 (i := 1) rfl
        have i2 := cell_known k3 (i := 2) rfl
        have i3 := cell_known k3 (i := 3) rfl
        have x0 := cell_known k7 (i := 0) rfl
        have x1 := cell_known k7 (i := 1) rfl
        have x2 := cell_known k7 (i := 2) rfl
        clear k3 k7
        go_wp2_with fail
        refine (REG.out a m2 _).mono ?_
        rintro e y2 ⟨rfl, s2⟩
        have SS2 := Lib.hid (Step.then (SS1.out) s2)
        clear s2 f0 f1 f2 f3 f4 i1 i2 i3 x0 x1 x2
        cases hb2 : regB f.kinds.length a m2 with
        | false =>
          have HB2 := Lib.hid hb2
          clear hb2
          go_wp2_with fail
          go_meet
          exact ⟨by rw [HP.out, HB1.out, HB2.out]; rfl, SS2.out⟩
        | true =>
          have HB2 := Lib.hid hb2
          clear hb2
          obtain ⟨⟨f0, f1, f2, f3, f4, _⟩, k3, k7⟩ := BX.out y2 SS2.out
          have i1 := cell_known k3 (i := 1) rfl
          have i2 := cell_known k3 (i := 2) rfl
          have i3 := cell_known k3 (i := 3) rfl
          have x0 := cell_known k7 (i := 0) rfl
          have x1 := cell_known k7 (i := 1) rfl
          have x2 := cell_known k7 (i := 2) rfl
          clear k3 k7
          go_wp2_with fail
          refine (REG.out b m3 _).mono ?_
          rintro e y3 ⟨rfl, s3⟩
          have SS3 := Lib.hid (Step.then (SS2.out) s3)
          clear s3 f0 f1 f2 f3 f4 i1 i2 i3 x0 x1 x2
          cases hb3 : regB f.kinds.length b m3 with
          | false =>
            have HB3 := Lib.hid hb3
            clear hb3
            go_wp2_with fail
            go_meet
            exact ⟨by rw [HP.out, HB1.out, HB2.out, HB3.out]; rfl, SS3.out⟩
          | true =>
            have HB3 := Lib.hid hb3
            clear hb3
            obtain ⟨⟨f0, f1, f2, f3, f4, _⟩, k3, k7⟩ := BX.out y3 SS3.out
            have i1 := cell_known k3 (i := 1) rfl
            have i2 := cell_known k3 (i := 2) rfl
            have i3 := cell_known k3 (i := 3) rfl
            have x0 := cell_known k7 (i := 0) rfl
            have x1 := cell_known k7 (i := 1) rfl
            have x2 := cell_known k7 (i := 2) rfl
            clear k3 k7
            go_wp2_with fail
            go_meet
            exact ⟨by rw [HP.out, HB1.out, HB2.out, HB3.out]; rfl, SS3.out⟩
  case rest =>
  obtain ⟨rfl, hs2⟩ := hcut
  have T2 := Lib.hid hs2
  clear hs2
  generalize (z0 && regB f.kinds.length dst m1 && regB f.kinds.length a m2 && regB f.kinds.length b m3) = z2 at *
  go_upto_region 3 with fail
  go_cut [6] (fun s6 wx => s6 = .bool (z2 && listB f.kinds.length args m8 false && listB f.kinds.length outs m9 true && sizeB m7 size) ∧ Step (fun _ => False) w1 wx)
  case first =>
    cases hp : z2 with
    | false =>
      have HP := Lib.hid hp
      clear hp
      go_wp2_with fail
      go_meet
      exact ⟨by rw [HP.out]; rfl, T2.out⟩
    | true =>
      have HP := Lib.hid hp
      clear hp
      obtain ⟨⟨f0, f1, f2, f3, f4, _⟩, k3, k7⟩ := BX.out wc T2.out
      have i5 := cell_known k3 (i := 5) rfl
      have i7 := cell_known k3 (i := 7) rfl
      have i8 := cell_known k3 (i := 8) rfl
      have x0 := cell_known k7 (i := 0) rfl
      have x1 := cell_known k7 (i := 1) rfl
      have x2 := cell_known k7 (i := 2) rfl
      have x3 := cell_known k7 (i := 3) rfl
      have x4 := cell_known k7 (i := 4) rfl
      have x5 := cell_known k7 (i := 5) rfl
      have x6 := cell_known k7 (i := 6) rfl
      have x7 := cell_known k7 (i := 7) rfl
      have x8 := cell_known k7 (i := 8) rfl
      clear k3 k7
      go_wp2_with fail
      refine (LIST.out wc _ args (HARGS.out.step (SW.out.then T2.out) fun _ h => h.elim) m8 false ha).mono ?_
      rintro e y1 ⟨rfl, s1⟩
      have SS1 := Lib.hid (Step.then (T2.out) s1)
      clear s1 f0 f1 f2 f3 f4 i5 i7 i8 x0 x1 x2 x3 x4 x5 x6 x7 x8
      cases hb1 : listB f.kinds.length args m8 false with
      | false =>
        have HB1 := Lib.hid hb1
        clear hb1
        go_wp2_with fail
        go_meet
        exact ⟨by rw [HP.out, HB1.out]; rfl, SS1.out⟩
      | true =>
        have HB1 := Lib.hid hb1
        clear hb1
        obtain ⟨⟨f0, f1, f2, f3, f4, _⟩, k3, k7⟩ := BX.out y1 SS1.out
        have i5 := cell_known k3 (i := 5) rfl
        have i7 := cell_known k3 (i := 7) rfl
        have i8 := cell_known k3 (i := 8) rfl
        have x0 := cell_known k7 (i := 0) rfl
        have x1 := cell_known k7 (i := 1) rfl
        have x2 := cell_known k7 (i := 2) rfl
        have x3 := cell_known k7 (i := 3) rfl
        have x4 := cell_known k7 (i := 4) rfl
        have x5 := cell_known k7 (i := 5) rfl
        have x6 := cell_known k7 (i := 6) rfl
        have x7 := cell_known k7 (i := 7) rfl
        have x8 := cell_known k7 (i := 8) rfl
        clear k3 k7
        go_wp2_with fail
        refine (LIST.out y1 _ outs (HOUTS.out.step (SW.out.then SS1.out) fun _ h => h.elim) m9 true ho).mono ?_
        rintro e y2 ⟨rfl, s2⟩
        have SS2 := Lib.hid (Step.then (SS1.out) s2)
        clear s2 f0 f1 f2 f3 f4 i5 i7 i8 x0 x1 x2 x3 x4 x5 x6 x7 x8
        cases hb2 : listB f.kinds.length outs m9 true with
        | false =>
          have HB2 := Lib.hid hb2
          clear hb2
          go_wp2_with fail
          go_meet
          exact ⟨by rw [HP.out, HB1.out, HB2.out]; rfl, SS2.out⟩
        | true =>
          have HB2 := Lib.hid hb2
          clear hb2
          obtain ⟨⟨f0, f1, f2, f3, f4, _⟩, k3, k7⟩ := BX.out y2 SS2.out
          have i5 := cell_known k3 (i := 5) rfl
          have i7 := cell_known k3 (i := 7) rfl
          have i8 := cell_known k3 (i := 8) rfl
          have x0 := cell_known k7 (i := 0) rfl
          have x1 := cell_known k7 (i := 1) rfl
          have x2 := cell_known k7 (i := 2) rfl
          have x3 := cell_known k7 (i := 3) rfl
          have x4 := cell_known k7 (i := 4) rfl
          have x5 := cell_known k7 (i := 5) rfl
          have x6 := cell_known k7 (i := 6) rfl
          have x7 := cell_known k7 (i := 7) rfl
          have x8 := cell_known k7 (i := 8) rfl
          clear k3 k7
          go_wp2_with fail
          refine (SIZ.out _).mono ?_
          rintro e y3 ⟨rfl, s3⟩
          have SS3 := Lib.hid (Step.then (SS2.out) s3)
          clear s3 f0 f1 f2 f3 f4 i5 i7 i8 x0 x1 x2 x3 x4 x5 x6 x7 x8
          cases hb3 : sizeB m7 size with
          | false =>
            have HB3 := Lib.hid hb3
            clear hb3
            go_wp2_with fail
            go_meet
            exact ⟨by rw [HP.out, HB1.out, HB2.out, HB3.out]; rfl, SS3.out⟩
          | true =>
            have HB3 := Lib.hid hb3
            clear hb3
            obtain ⟨⟨f0, f1, f2, f3, f4, _⟩, k3, k7⟩ := BX.out y3 SS3.out
            have i5 := cell_known k3 (i := 5) rfl
            have i7 := cell_known k3 (i := 7) rfl
            have i8 := cell_known k3 (i := 8) rfl
            have x0 := cell_known k7 (i := 0) rfl
            have x1 := cell_known k7 (i := 1) rfl
            have x2 := cell_known k7 (i := 2) rfl
            have x3 := cell_known k7 (i := 3) rfl
            have x4 := cell_known k7 (i := 4) rfl
            have x5 := cell_known k7 (i := 5) rfl
            have x6 := cell_known k7 (i := 6) rfl
            have x7 := cell_known k7 (i := 7) rfl
            have x8 := cell_known k7 (i := 8) rfl
            clear k3 k7
            go_wp2_with fail
            go_meet
            exact ⟨by rw [HP.out, HB1.out, HB2.out, HB3.out]; rfl, SS3.out⟩
  case rest =>
  obtain ⟨rfl, hs3⟩ := hcut
  have T3 := Lib.hid hs3
  clear hs3
  generalize (z2 && listB f.kinds.length args m8 false && listB f.kinds.length outs m9 true && sizeB m7 size) = z3 at *
  clear REG LIST SIZ T2
  go_upto_region 4 with fail
  go_cut [6] (fun s6 wx => s6 = .bool (z3 && (m4 || n == 0) && (m5 == !(name.data.toList == []))) ∧ Step (fun _ => False) w1 wx)
  case first =>
    cases hp : z3 with
    | false =>
      have HP := Lib.hid hp
      clear hp
      go_wp2_with fail
      go_meet
      exact ⟨by rw [HP.out]; rfl, T3.out⟩
    | true =>
      have HP := Lib.hid hp
      clear hp
      obtain ⟨⟨f0, f1, f2, f3, f4, _⟩, k3, k7⟩ := BX.out wc T3.out
      have i4 := cell_known k3 (i := 4) rfl
      have i6 := cell_known k3 (i := 6) rfl
      have x3 := cell_known k7 (i := 3) rfl
      have x4 := cell_known k7 (i := 4) rfl
      clear k3 k7
      cases hb : m4 with
      | true =>
        have HB := Lib.hid hb
        go_wp2_with fail
        go_meet
        exact ⟨by rw [HP.out, HB.out, empty_eq]; rfl, T3.out⟩
      | false =>
        have HB := Lib.hid hb
        cases hn : (n == 0) with
        | true =>
          have HNN := Lib.hid hn
          go_wp2_with fail
          go_meet
          exact ⟨by rw [HP.out, HB.out, HNN.out, empty_eq]; rfl, T3.out⟩
        | false =>
          have HNN := Lib.hid hn
          go_wp2_with fail
          go_meet
          exact ⟨by rw [HP.out, HB.out, HNN.out]; rfl, T3.out⟩
  case rest =>
  obtain ⟨rfl, hs4⟩ := hcut
  have T4 := Lib.hid hs4
  clear hs4
  generalize (z3 && (m4 || n == 0) && (m5 == !(name.data.toList == []))) = z4 at *
  clear T3
  go_upto_region 5 with fail
  go_cut [6] (fun s6 wx => s6 = .bool (z4 && decide (0 ≤ tt) && decide (tt < (f.code.length : Int)) && (m6 || tt == 0)) ∧ Step (fun _ => False) w1 wx)
  case first =>
    cases hp : z4 with
    | false =>
      have HP := Lib.hid hp
      clear hp
      go_wp2_with fail
      go_meet
      exact ⟨by rw [HP.out]; rfl, T4.out⟩
    | true =>
      have HP := Lib.hid hp
      clear hp
      obtain ⟨⟨f0, f1, f2, f3, f4, _⟩, k3, k7⟩ := BX.out wc T4.out
      have i9 := cell_known k3 (i := 9) rfl
      have x5 := cell_known k7 (i := 5) rfl
      clear k3 k7
      cases hb1 : decide (0 ≤ tt) with
      | false =>
        have HB1 := Lib.hid hb1
        go_wp2_with fail
        go_meet
        exact ⟨by rw [HP.out, HB1.out]; rfl, T4.out⟩
      | true =>
        have HB1 := Lib.hid hb1
        cases hb2 : decide (tt < (f.code.length : Int)) with
        | false =>
          have HB2 := Lib.hid hb2
          go_wp2_with fail
          go_meet
          exact ⟨by rw [HP.out, HB1.out, HB2.out]; rfl, T4.out⟩
        | true =>
          have HB2 := Lib.hid hb2
          cases hb3 : m6 with
          | true =>
            have HB3 := Lib.hid hb3
            go_wp2_with fail
            go_meet
            exact ⟨by rw [HP.out, HB1.out, HB2.out, HB3.out]; rfl, T4.out⟩
          | false =>
            have HB3 := Lib.hid hb3
            cases hb4 : (tt == 0) with
            | true =>
              have HB4 := Lib.hid hb4
              go_wp2_with fail
              go_meet
              exact ⟨by rw [HP.out, HB1.out, HB2.out, HB3.out, HB4.out]; rfl, T4.out⟩
            | false =>
              have HB4 := Lib.hid hb4
              go_wp2_with fail
              go_meet
              exact ⟨by rw [HP.out, HB1.out, HB2.out, HB3.out, HB4.out]; rfl, T4.out⟩
  case rest =>
  obtain ⟨rfl, hs5⟩ := hcut
  have T5 := Lib.hid hs5
  clear hs5
  generalize (z4 && decide (0 ≤ tt) && decide (tt < (f.code.length : Int)) && (m6 || tt == 0)) = z5 at *
  clear T4
  obtain ⟨⟨f0, f1, f2, f3, f4, _⟩, k3, k7⟩ := BX.out wc T5.out
  have i0 := cell_known k3 (i := 0) rfl
  have i4 := cell_known k3 (i := 4) rfl
  have TW := Lib.hid (SW.out.then T5.out)
  clear k3 k7 T5 BX SW
  by_cases h3 : op = 3
  · subst h3
    cases hp : z5 with
    | false =>
      go_wp2_with fail
      go_ret
      exact ⟨by rw [HZ.out, lastB, if_pos rfl, hp]; first | rfl | simp, TW.out⟩
    | true =>
      cases hb1 : decide (1 ≤ n) with
      | false =>
        have HB1 := Lib.hid hb1
        go_wp2_with fail
        go_ret
        exact ⟨by rw [HZ.out, lastB, if_pos rfl, hp, hb1]; first | rfl | simp, TW.out⟩
      | true =>
        have HB1 := Lib.hid hb1
        cases hb2 : decide (n ≤ 27) with
        | false =>
          go_wp2_with fail
          go_ret
          exact ⟨by rw [HZ.out, lastB, if_pos rfl, hp, hb1, hb2]; first | rfl | simp, TW.out⟩
        | true =>
          go_wp2_with fail
          go_ret
          exact ⟨by rw [HZ.out, lastB, if_pos rfl, hp, hb1, hb2]; first | rfl | simp, TW.out⟩
  · have b3 : (op == 3) = false := beq_false_of_ne h3
    by_cases h31 : op = 31
    · subst h31
      cases hp : z5 with
      | false =>
        go_wp2_with fail
        go_ret
        exact ⟨by rw [HZ.out, lastB, if_neg h3, if_pos (.inl rfl), hp]; first | rfl | simp, TW.out⟩
      | true =>
        cases hb1 : decide (n < (f.slots.length : Int)) with
        | false =>
          go_wp2_with fail
          go_ret
          exact ⟨by rw [HZ.out, lastB, if_neg h3, if_pos (.inl rfl), hp, hb1]; first | rfl | simp, TW.out⟩
        | true =>
          go_wp2_with fail
          go_ret
          exact ⟨by rw [HZ.out, lastB, if_neg h3, if_pos (.inl rfl), hp, hb1]; first | rfl | simp, TW.out⟩
    · have b31 : (op == 31) = false := beq_false_of_ne h31
      by_cases h39 : op = 39
      · subst h39
        cases hp : z5 with
        | false =>
          go_wp2_with fail
          go_ret
          exact ⟨by rw [HZ.out, lastB, if_neg h3, if_pos (.inr rfl), hp]; first | rfl | simp, TW.out⟩
        | true =>
          cases hb1 : decide (n < (f.slots.length : Int)) with
          | false =>
            go_wp2_with fail
            go_ret
            exact ⟨by rw [HZ.out, lastB, if_neg h3, if_pos (.inr rfl), hp, hb1]; first | rfl | simp, TW.out⟩
          | true =>
            go_wp2_with fail
            go_ret
            exact ⟨by rw [HZ.out, lastB, if_neg h3, if_pos (.inr rfl), hp, hb1]; first | rfl | simp, TW.out⟩
      · have b39 : (op == 39) = false := beq_false_of_ne h39
        go_wp2_with fail
        go_ret
        exact ⟨by rw [HZ.out, lastB, if_neg h3, if_neg (fun h => h.elim h31 h39), Bool.and_true]; rfl, TW.out⟩
end
end Go.Proofs.Ytpmbakhnamlooaa
