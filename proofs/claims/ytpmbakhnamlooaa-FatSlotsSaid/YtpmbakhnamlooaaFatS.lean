/- Package fat: a call, as an instruction, by what calls do. -/
import Derived.Test.YtpmbakhnamlooaaFatQ
namespace Go.Proofs.Ytpmbakhnamlooaa
set_option linter.unusedVariables false
set_option linter.unusedSimpArgs false
open Go.RowKit

/-- an instruction's row of code, in memory -/
def CodeAt (w0 : World) (v : Value) (code : List FIns) : Prop :=
  ∃ p cap, v = .slice p code.length cap ∧ code.length ≤ cap ∧ cap ≤ maxLen ∧ ∀ k (hk : k < code.length), ∃ a vi, p = some a ∧ InsAt w0 vi code[k] ∧ ∀ j u, vi.cells[j]? = some u → w0.cell? ((a.add (k * 10)).add j) = some u
/-- a function's value -/
def FnAt (w0 : World) (v : Value) (f : FFn) : Prop :=
  ∃ vp vk vs vc, v = .agg #[.string f.name, vp, vk, vs, vc] ∧ IntsAt .i64 w0 vp f.params ∧ IntsAt .i64 w0 vk f.kinds ∧ IntsAt .i64 w0 vs f.slots ∧ CodeAt w0 vc f.code
/-- a function is as it may be -/
structure GoodFn (fns : List UInt8 → Option FFn) (f : FFn) : Prop where
  kinds : f.kinds.length ≤ 1000
  sizes : goodS f
  params : (∀ r ∈ f.params, 0 ≤ r ∧ r < f.kinds.length) ∧ f.params.length ≤ 1000
  slots : f.slots.length ≤ 1000
  code : f.code ≠ [] ∧ f.code.length ≤ 100000
  ins : ∀ i ∈ f.code, goodI f i = true ∧ i.name.size ≤ maxLen ∧ is64 i.n ∧ i.args.length ≤ 1000 ∧ i.outs.length ≤ 1000
  last : ∀ i, f.code.getLast? = some i → i.op = 43 ∨ i.op = 18 ∨ i.op = 22
  calls : ∀ i ∈ f.code, i.op = 42 → ∃ g, fns i.name.data.toList = some g ∧ i.args.length = g.params.length ∧ ∀ j ∈ g.code, j.op = 43 → j.args.length = i.outs.length
/-- the functions' values are those of the functions -/
def UEnv (w0 : World) (fnv : List UInt8 → Option Value) (fns : List UInt8 → Option FFn) : Prop := ∀ s f, fns s = some f → ∃ v, fnv s = some v ∧ FnAt w0 v f ∧ GoodFn fns f

/-- how a call ends -/
def CallPost (w0 w : World) (pw : Nat) (own : Nat → Nat) (fnv : List UInt8 → Option Value) (tops : List UInt8 → Option Int) (r : Res) (e : Ending) (w' : World) : Prop :=
  match r with
  | .ret st v => ∃ vo, e = .returned vo ∧ ∃ own' c, Chg own own' w w' ∧ FWAt w0 w' pw own' fnv tops st c ∧ (c : Int) ≤ 1000 + 20 * st.steps ∧ RowAt w' (fun b => w.heap.size ≤ b ∧ own' b = 0) 38 1 vo v.length (v.map (Value.int .u64))
  | .stop st s code => e = .panicked [{ v := stopV s code, recovered := false }] ∧ ∃ own' c, Chg own own' w w' ∧ FWAt w0 w' pw own' fnv tops st c
/-- what calls do, with so much to go -/
def CallC (w0 : World) (pw : Nat) (fnv : List UInt8 → Option Value) (fns : List UInt8 → Option FFn) (tops : List UInt8 → Option Int) (n : Nat) : Prop :=
  ∀ (w : World) (own : Nat → Nat) (st : FSt) (c : Nat) (g : FFn) (gv : Value) (args : List Int) (va : Value) (F : Nat → Prop), FWAt w0 w pw own fnv tops st c → SInv tops st 2 → (c : Int) + 12 ≤ 1000 + 20 * st.steps → FnAt w0 gv g → GoodFn fns g →
    args.length = g.params.length → (∀ y ∈ args, is64 y) → RowAt w F 38 1 va args.length (args.map (Value.int .u64)) → (∀ b, F b → own b = 0) → (st.fuel - st.steps).toNat ≤ n →
    Calls Try.prog 41 #[.pointer (some ⟨pw, 0, none⟩), gv, va] w (CallPost w0 w pw own fnv tops (callF fns tops n st g args))

section
variable {w0 w w' w1 w2 : World} {pf pw gx : Nat} {own own' own'' : Nat → Nat} {vn vp vk vs vc vr vl : Value} {regs slots : List Int} {lock key : Int} {fnv : List UInt8 → Option Value} {tops : List UInt8 → Option Int} {st : FSt} {c : Nat} {fns : List UInt8 → Option FFn}

theorem zero_fn (w : World) : (zeroValue 54).run Try.prog w = .ok (.agg #[.string ⟨#[]⟩, .slice none 0 0, .slice none 0 0, .slice none 0 0, .slice none 0 0]) w := by kernel_rfl
theorem fn_facts (hW : FWAt w0 w pw own fnv tops st c) {nm : ByteArray} (hn : nm.size ≤ maxLen) {gv : Value} (hg : fnv nm.data.toList = some gv) : ∃ bf, ∀ y, Step (fun _ => False) w y → y.cell? ⟨pw, 0, none⟩ = some (.map (some bf)) ∧ (Instr.lookup 57 (.map (some bf)) (.string nm) false).run Try.prog y = .ok gv y := by
  obtain ⟨bf, bt, bm, bs, bb, vl, vi, vo, P⟩ := hW
  refine ⟨bf, fun y hy => ⟨cell_known (hy.keeps P.struct) rfl, ?_⟩⟩
  have := (P.still hy).fns.lookup (t := 57) (e := 54) Try.underlying9 Try.underlying57 (zero_fn y) hn
  rw [hg] at this
  exact this

def planCall42 : Plan where
  T := [[], [], [1], [], [3], [3, 4], [3, 4, 5], [], [7], [7, 8], [7, 8, 9], [7, 8, 9, 10], [7, 8, 9, 10, 11], [7, 8, 9, 10, 11, 12], [], [14], [7, 8, 9, 10, 11, 12, 13, 14, 15], [], [], [18], [17, 18, 19], [3, 4, 5, 6, 7, 8, 9, 10, 11, 12, 13, 14, 15, 16, 17, 18, 19, 20], [0, 1, 2, 3, 4, 5, 6, 7, 8, 9, 10, 11, 12, 13, 14, 15, 16, 17, 18, 19, 20, 21]]
  rd := [[], [], [(1, some 178)], [], [(3, some 180)], [(4, some 181)], [(5, some 182)], [], [(7, some 184)], [(8, some 185)], [(9, some 186)], [(10, some 187)], [(11, some 188)], [(12, some 189)], [], [(14, some 191)], [(13, some 190), (15, some 192)], [], [], [(18, some 195)], [(17, some 194), (19, some 196)], [(6, some 183), (16, some 193), (20, some 197)]]
  all := [(21, some 198), (20, some 197), (19, some 196), (18, some 195), (17, some 194), (16, some 193), (15, some 192), (14, some 191), (13, some 190), (12, some 189), (11, some 188), (10, some 187), (9, some 186), (8, some 185), (7, some 184), (6, some 183), (5, some 182), (4, some 181), (3, some 180), (2, some 179), (1, some 178), (0, some 177)]
  calm := [true, true, true, true, true, true, true, true, true, true, true, true, true, true, true, true, true, true, true, true, true, false]
  hard := [true, true, true, true, true, true, true, true, true, true, true, true, true, true, true, true, true, true, true, true, false, true]
  fresh := [false, false, false, false, false, false, false, false, false, false, false, false, false, false, false, false, false, false, false, false, false, false]

def planCall42n : Plan where
  T := [[], [], [1], [], [3], [3, 4], [3, 4, 5], [], [7], [7, 8], [7, 8, 9], [7, 8, 9, 10], [7, 8, 9, 10, 11], [7, 8, 9, 10, 11, 12], [], [14], [7, 8, 9, 10, 11, 12, 13, 14, 15], [], [], [18], [17, 18, 19], [3, 4, 5, 6, 7, 8, 9, 10, 11, 12, 13, 14, 15, 16, 17, 18, 19, 20], [0, 1, 2, 3, 4, 5, 6, 7, 8, 9, 10, 11, 12, 13, 14, 15, 16, 17, 18, 19, 20, 21]]
  rd := [[], [], [(1, some 178)], [], [(3, some 180)], [(4, some 181)], [(5, some 182)], [], [(7, some 184)], [(8, some 185)], [(9, some 186)], [(10, some 187)], [(11, some 188)], [(12, some 189)], [], [(14, some 191)], [(13, some 190), (15, some 192)], [], [], [(18, some 195)], [(17, some 194), (19, some 196)], [(6, some 183), (16, some 193), (20, some 197)]]
  all := [(21, some 198), (20, some 197), (19, some 196), (18, some 195), (17, some 194), (16, some 193), (15, some 192), (14, some 191), (13, some 190), (12, some 189), (11, some 188), (10, some 187), (9, some 186), (8, some 185), (7, some 184), (6, some 183), (5, some 182), (4, some 181), (3, some 180), (2, some 179), (1, some 178), (0, some 177)]
  calm := [true, true, true, true, true, true, true, true, true, true, true, true, true, true, true, true, true, true, true, true, true, true]
  hard := []
  fresh := [false, false, false, false, false, false, false, false, false, false, false, false, false, false, false, false, false, false, false, false, false, false]

set_option maxHeartbeats 4000000 in
set_option maxRecDepth 100000 in
theorem mem_42ok (hW : FWAt w0 w pw own fnv tops st c) (hF : FrAt w own pf pw gx vn vp vk vs vc vr vl regs slots lock key) (hl : w0.heap.size ≤ gx) {v : Value} {i : FIns} (hi : InsAt w0 v i) (ho : i.op = 42) {n_ : Nat} (hC : CallC w0 pw fnv fns tops n_) {g : FFn} {gv : Value} (hfn : fnv i.name.data.toList = some gv) (hgv : FnAt w0 gv g) (hgg : GoodFn fns g) (hS : SInv tops st 2) (hc : (c : Int) + 12 ≤ 1000 + 20 * st.steps) (h64 : regs64 regs) (hnm : i.name.size ≤ maxLen) (hla : i.args.length = g.params.length) (hr : ∀ r ∈ i.args, ok1 regs r) (hfuel : (st.fuel - st.steps).toNat ≤ n_) (hro : ∀ r ∈ i.outs, ok1 regs r) (hlo : i.outs.length ≤ 1000) {st' : FSt} {xs : List Int} (hlv : i.outs.length ≤ xs.length) (hres : callF fns tops n_ st g (pick regs i.args) = .ret st' xs) :
    Calls Try.prog 72 #[.pointer (some ⟨pf, 0, none⟩), v] w (fun e w' => ∃ c' : Nat, (c' : Int) ≤ 1000 + 20 * st'.steps ∧ Went w0 w pw own fnv tops pf gx vn vp vk vs vc vr vl slots lock key st' c' (writeAcc regs i.outs xs i.outs.length) e w') := by
  obtain ⟨va, vo, rfl, iargs, iouts⟩ := hi
  obtain ⟨op, dst, a, b, n, size, name, args, outs, to⟩ := i
  simp only at *
  subst ho
  have HW := Lib.hid hW
  have HF := Lib.hid hF
  have HL := Lib.hid hl
  have FF := Lib.hid (frame_facts hF)
  have FR := Lib.hid (reg_facts hF)
  clear hW hF hl
  obtain ⟨f0, f4, f6, f7, f8, f9⟩ := FF.out _ (Step.refl _ _)
  have hpf := block_lt f6
  simp only at hpf
  go_enter Try.func72, Try.ntmps72
  go_upto_region 28 with fail
  have kb := heap_alloc_new w (.cells #[.int .i64 42, .int .i64 dst, .int .i64 a, .int .i64 b, .int .u64 n, .int .i64 size, .string name, va, vo, .int .i64 to] 47 (0, 0))
  have S1 := Lib.hid (Step.alloc (fun _ => False) w (.cells #[.int .i64 42, .int .i64 dst, .int .i64 a, .int .i64 b, .int .u64 n, .int .i64 size, .string name, va, vo, .int .i64 to] 47 (0, 0)))
  clear f0 f4 f6 f7 f8 f9 hpf
  have HT := Lib.hid (show gx < w.heap.size ∧ own w.heap.size = 0 from ⟨HF.out.free.2.2.2, HW.out.fresh0⟩)
  generalize w.alloc (.cells #[.int .i64 42, .int .i64 dst, .int .i64 a, .int .i64 b, .int .u64 n, .int .i64 size, .string name, va, vo, .int .i64 to] 47 (0, 0)) = w1 at kb S1 ⊢
  generalize w.heap.size = tb at kb HT ⊢
  have KB := Lib.hid kb
  have FB := Lib.hid (box_facts kb)
  clear kb
  have HW1 := Lib.hid (HW.out.still S1.out)
  have HF1 := Lib.hid (HF.out.still S1.out)
  have FBO := Lib.hid (box_facts_of (F := fun b => own b ≠ 0) KB.out (fun h => h HT.out.2))
  obtain ⟨bf, fnf⟩ := fn_facts HW1.out hnm hfn
  have FN := Lib.hid fnf
  have HO := Lib.hid iouts
  have VAL := Lib.hid (show ∀ y, Step (fun _ => False) w1 y → _ from fun y hy => values_any (HF1.out.still hy) (iargs.step (HW1.out.still hy).since fun b h => h) hr (by have := hgg.params.2; omega))
  have CA := Lib.hid (show ∀ y vv, Step (fun _ => False) w1 y → RowAt y (fun b => w1.heap.size ≤ b) 38 1 vv (pick regs args).length ((pick regs args).map (Value.int .u64)) → _ from fun y vv hy hv => hC y own st c g gv (pick regs args) vv _ (HW1.out.still hy) hS hc hgv hgg (by rw [pick_length]; exact hla) (pick_64 h64 _) hv (fun b hb => by
    by_cases e : own b = 0
    · exact e
    · have := (HW1.out.low b e).2; omega) hfuel)
  rw [hres] at CA
  have HRO := Lib.hid hro
  have HLO := Lib.hid hlo
  have HLV := Lib.hid hlv
  clear hC hfn hgv hgg hS hc h64 hnm hla hr hfuel hro hlo hlv hres fnf iargs iouts
  refine wp_region_each 22 planCall42 (fun a b => Step (fun x => own x ≠ 0 ∨ w1.heap.size ≤ x) a b) (Step (fun x => own x ≠ 0) w1) (fun x => Step (fun _ => False) w1 x) [Is ?v28_1_0, Is ?v28_1_1, Is ?v28_1_2, Is ?v28_1_3, Is ?v28_1_4, Is ?v28_1_5, Is ?v28_1_6, Is ?v28_1_7, Is ?v28_1_8, Is ?v28_1_9, Is ?v28_1_10, Is ?v28_1_11, Is ?v28_1_12, Is ?v28_1_13, Is ?v28_1_14, Is ?v28_1_15, Is ?v28_1_16, Is ?v28_1_17, Is ?v28_1_18, Is ?v28_1_19, IsVals w1 (pick regs args), fun _ _ => True] [fun _ _ => True, fun _ _ => True, fun _ _ => True, fun _ _ => True, fun _ _ => True, fun _ _ => True, fun _ _ => True, fun _ _ => True, fun _ _ => True, fun _ _ => True, fun _ _ => True, fun _ _ => True, fun _ _ => True, fun _ _ => True, fun _ _ => True, fun _ _ => True, fun _ _ => True, fun _ _ => True, fun _ _ => True, fun _ _ => True, fun _ _ => True, fun y w => ∃ c' : Nat, (c' : Int) ≤ 1000 + 20 * st'.steps ∧ AfterRow w0 w1 own pw fnv tops st' c' xs y w] (by kernel_rfl) (by kernel_rfl) (fun _ _ h => h.size) ((Step.refl _ _).drew) ((Step.refl _ _).drew) ?stab28_1 ?stabD28_1 ?obl28_1 ?fin28_1
  case stab28_1 => exact fun w w' h => ⟨fun k => k.trans h (fun _ x => x.elim), fun k => k.trans h (fun _ x => x.elim), ⟨fun _ k => k, fun _ k => k, fun _ k => k, fun _ k => k, fun _ k => k, fun _ k => k, fun _ k => k, fun _ k => k, fun _ k => k, fun _ k => k, fun _ k => k, fun _ k => k, fun _ k => k, fun _ k => k, fun _ k => k, fun _ k => k, fun _ k => k, fun _ k => k, fun _ k => k, fun _ k => k, fun _ k => IsVals.stable h k, fun _ k => k, trivial⟩, ⟨fun _ k => k, fun _ k => k, fun _ k => k, fun _ k => k, fun _ k => k, fun _ k => k, fun _ k => k, fun _ k => k, fun _ k => k, fun _ k => k, fun _ k => k, fun _ k => k, fun _ k => k, fun _ k => k, fun _ k => k, fun _ k => k, fun _ k => k, fun _ k => k, fun _ k => k, fun _ k => k, fun _ k => k, fun _ k => k.imp fun _ k => ⟨k.1, k.2.stable h⟩, trivial⟩⟩
  case stabD28_1 => exact fun w w' h => ⟨fun k => k.trans h (fun _ x => x), fun _ _ k => k, fun _ _ k => k, fun _ _ k => k, fun _ _ k => k, fun _ _ k => k, fun _ _ k => k, fun _ _ k => k, fun _ _ k => k, fun _ _ k => k, fun _ _ k => k, fun _ _ k => k, fun _ _ k => k, fun _ _ k => k, fun _ _ k => k, fun _ _ k => k, fun _ _ k => k, fun _ _ k => k, fun _ _ k => k, fun _ _ k => k, fun _ _ k => k, nofun, fun _ _ k => k, trivial⟩
  case obl28_1 =>
    refine ⟨?o28_1_0, ?o28_1_1, ?o28_1_2, ?o28_1_3, ?o28_1_4, ?o28_1_5, ?o28_1_6, ?o28_1_7, ?o28_1_8, ?o28_1_9, ?o28_1_10, ?o28_1_11, ?o28_1_12, ?o28_1_13, ?o28_1_14, ?o28_1_15, ?o28_1_16, ?o28_1_17, ?o28_1_18, ?o28_1_19, ?o28_1_20, ?o28_1_21, trivial⟩
    all_goals intro xv wq hH hS H hU aq ha Q' hQ
    case o28_1_0 | o28_1_1 => cases rd0 ha; clear H hU hS; go_wp2_with fail; (try refine hQ _ _ ?_); refine ⟨Step.refl _ _, ?_, trivial, nofun⟩; exact (rfl : _ = _)
    case o28_1_2 => (try (have LS := Lib.hid (hS (by decide)))); (try (have hHs := hH; have hH := hS (by decide); obtain ⟨f0, f4, f6, f7, f8, f9⟩ := FF.out _ (S1.out.then hH); obtain ⟨b0, b1, b2, b3, b4, b5, b6, b7, b8, b9⟩ := FB.out _ hH; obtain ⟨m0, lk⟩ := FN.out _ hH; clear hH; have hH := hHs; clear hHs; clear b0 b1 b2 b3 b4 b5 b6 b7 b8 b9)); obtain ⟨b0, b1, b2, b3, b4, b5, b6, b7, b8, b9⟩ := FBO.out _ hH; have ha := rd1 ha H (by kernel_rfl) rfl; simp only [q3, q5, q6, q7] at ha; subst ha; clear H hU hS; go_wp2_with fail; (try refine hQ _ _ ?_); refine ⟨Step.refl _ _, ?_, trivial, nofun⟩; exact (rfl : _ = _)
    case o28_1_3 => cases rd0 ha; clear H hU hS; go_wp2_with fail; (try refine hQ _ _ ?_); refine ⟨Step.refl _ _, ?_, trivial, nofun⟩; exact (rfl : _ = _)
    case o28_1_4 | o28_1_5 => have ha := rd1 ha H (by kernel_rfl) rfl; simp only [q3, q5, q6, q7] at ha; subst ha; clear H hU hS; go_wp2_with fail; (try refine hQ _ _ ?_); refine ⟨Step.refl _ _, ?_, trivial, nofun⟩; exact (rfl : _ = _)
    case o28_1_6 => (try (have LS := Lib.hid (hS (by decide)))); (try (have hHs := hH; have hH := hS (by decide); obtain ⟨f0, f4, f6, f7, f8, f9⟩ := FF.out _ (S1.out.then hH); obtain ⟨b0, b1, b2, b3, b4, b5, b6, b7, b8, b9⟩ := FB.out _ hH; obtain ⟨m0, lk⟩ := FN.out _ hH; clear hH; have hH := hHs; clear hHs; clear b0 b1 b2 b3 b4 b5 b6 b7 b8 b9)); obtain ⟨b0, b1, b2, b3, b4, b5, b6, b7, b8, b9⟩ := FBO.out _ hH; have ha := rd1 ha H (by kernel_rfl) rfl; simp only [q3, q5, q6, q7] at ha; subst ha; clear H hU hS; go_wp2_with fail; (try refine hQ _ _ ?_); refine ⟨Step.refl _ _, ?_, trivial, nofun⟩; exact (rfl : _ = _)
    case o28_1_7 => cases rd0 ha; clear H hU hS; go_wp2_with fail; (try refine hQ _ _ ?_); refine ⟨Step.refl _ _, ?_, trivial, nofun⟩; exact (rfl : _ = _)
    case o28_1_8 | o28_1_9 => have ha := rd1 ha H (by kernel_rfl) rfl; simp only [q3, q5, q6, q7] at ha; subst ha; clear H hU hS; go_wp2_with fail; (try refine hQ _ _ ?_); refine ⟨Step.refl _ _, ?_, trivial, nofun⟩; exact (rfl : _ = _)
    case o28_1_10 => (try (have LS := Lib.hid (hS (by decide)))); (try (have hHs := hH; have hH := hS (by decide); obtain ⟨f0, f4, f6, f7, f8, f9⟩ := FF.out _ (S1.out.then hH); obtain ⟨b0, b1, b2, b3, b4, b5, b6, b7, b8, b9⟩ := FB.out _ hH; obtain ⟨m0, lk⟩ := FN.out _ hH; clear hH; have hH := hHs; clear hHs; clear b0 b1 b2 b3 b4 b5 b6 b7 b8 b9)); obtain ⟨b0, b1, b2, b3, b4, b5, b6, b7, b8, b9⟩ := FBO.out _ hH; have ha := rd1 ha H (by kernel_rfl) rfl; simp only [q3, q5, q6, q7] at ha; subst ha; clear H hU hS; go_wp2_with fail; (try refine hQ _ _ ?_); refine ⟨Step.refl _ _, ?_, trivial, nofun⟩; exact (rfl : _ = _)
    case o28_1_11 | o28_1_12 => have ha := rd1 ha H (by kernel_rfl) rfl; simp only [q3, q5, q6, q7] at ha; subst ha; clear H hU hS; go_wp2_with fail; (try refine hQ _ _ ?_); refine ⟨Step.refl _ _, ?_, trivial, nofun⟩; exact (rfl : _ = _)
    case o28_1_13 => (try (have LS := Lib.hid (hS (by decide)))); (try (have hHs := hH; have hH := hS (by decide); obtain ⟨f0, f4, f6, f7, f8, f9⟩ := FF.out _ (S1.out.then hH); obtain ⟨b0, b1, b2, b3, b4, b5, b6, b7, b8, b9⟩ := FB.out _ hH; obtain ⟨m0, lk⟩ := FN.out _ hH; clear hH; have hH := hHs; clear hHs; clear b0 b1 b2 b3 b4 b5 b6 b7 b8 b9)); obtain ⟨b0, b1, b2, b3, b4, b5, b6, b7, b8, b9⟩ := FBO.out _ hH; have ha := rd1 ha H (by kernel_rfl) rfl; simp only [q3, q5, q6, q7] at ha; subst ha; clear H hU hS; go_wp2_with fail; (try refine hQ _ _ ?_); refine ⟨Step.refl _ _, ?_, trivial, nofun⟩; exact (rfl : _ = _)
    case o28_1_14 => cases rd0 ha; clear H hU hS; go_wp2_with fail; (try refine hQ _ _ ?_); refine ⟨Step.refl _ _, ?_, trivial, nofun⟩; exact (rfl : _ = _)
    case o28_1_15 => (try (have LS := Lib.hid (hS (by decide)))); (try (have hHs := hH; have hH := hS (by decide); obtain ⟨f0, f4, f6, f7, f8, f9⟩ := FF.out _ (S1.out.then hH); obtain ⟨b0, b1, b2, b3, b4, b5, b6, b7, b8, b9⟩ := FB.out _ hH; obtain ⟨m0, lk⟩ := FN.out _ hH; clear hH; have hH := hHs; clear hHs; clear b0 b1 b2 b3 b4 b5 b6 b7 b8 b9)); obtain ⟨b0, b1, b2, b3, b4, b5, b6, b7, b8, b9⟩ := FBO.out _ hH; have ha := rd1 ha H (by kernel_rfl) rfl; simp only [q3, q5, q6, q7] at ha; subst ha; clear H hU hS; go_wp2_with fail; (try refine hQ _ _ ?_); refine ⟨Step.refl _ _, ?_, trivial, nofun⟩; exact (rfl : _ = _)
    case o28_1_16 => (try (have LS := Lib.hid (hS (by decide)))); (try (have hHs := hH; have hH := hS (by decide); obtain ⟨f0, f4, f6, f7, f8, f9⟩ := FF.out _ (S1.out.then hH); obtain ⟨b0, b1, b2, b3, b4, b5, b6, b7, b8, b9⟩ := FB.out _ hH; obtain ⟨m0, lk⟩ := FN.out _ hH; clear hH; have hH := hHs; clear hHs; clear b0 b1 b2 b3 b4 b5 b6 b7 b8 b9)); obtain ⟨b0, b1, b2, b3, b4, b5, b6, b7, b8, b9⟩ := FBO.out _ hH; have ha := rd2 ha H (by kernel_rfl) (by kernel_rfl) rfl rfl; simp only [q3, q5, q6, q7] at ha; subst ha; clear H hU hS; go_wp2_with fail; (try refine hQ _ _ ?_); refine ⟨Step.refl _ _, ?_, trivial, nofun⟩; exact (rfl : _ = _)
    case o28_1_17 | o28_1_18 => cases rd0 ha; clear H hU hS; go_wp2_with fail; (try refine hQ _ _ ?_); refine ⟨Step.refl _ _, ?_, trivial, nofun⟩; exact (rfl : _ = _)
    case o28_1_19 => (try (have LS := Lib.hid (hS (by decide)))); (try (have hHs := hH; have hH := hS (by decide); obtain ⟨f0, f4, f6, f7, f8, f9⟩ := FF.out _ (S1.out.then hH); obtain ⟨b0, b1, b2, b3, b4, b5, b6, b7, b8, b9⟩ := FB.out _ hH; obtain ⟨m0, lk⟩ := FN.out _ hH; clear hH; have hH := hHs; clear hHs; clear b0 b1 b2 b3 b4 b5 b6 b7 b8 b9)); obtain ⟨b0, b1, b2, b3, b4, b5, b6, b7, b8, b9⟩ := FBO.out _ hH; have ha := rd1 ha H (by kernel_rfl) rfl; simp only [q3, q5, q6, q7] at ha; subst ha; clear H hU hS; go_wp2_with fail; (try refine hQ _ _ ?_); refine ⟨Step.refl _ _, ?_, trivial, nofun⟩; exact (rfl : _ = _)
    case o28_1_20 => (try (have LS := Lib.hid (hS (by decide)))); (try (have hHs := hH; have hH := hS (by decide); obtain ⟨f0, f4, f6, f7, f8, f9⟩ := FF.out _ (S1.out.then hH); obtain ⟨b0, b1, b2, b3, b4, b5, b6, b7, b8, b9⟩ := FB.out _ hH; obtain ⟨m0, lk⟩ := FN.out _ hH; clear hH; have hH := hHs; clear hHs; clear b0 b1 b2 b3 b4 b5 b6 b7 b8 b9)); obtain ⟨b0, b1, b2, b3, b4, b5, b6, b7, b8, b9⟩ := FBO.out _ hH; have h17 : xv 17 = _ := H 17 (by kernel_rfl); have h19 : xv 19 = _ := H 19 (by kernel_rfl); change aq = puts _ xv [(17, some 194), (19, some 196)] at ha; simp only [q1, q2, q3, q5, q6, q7, h17, h19] at ha; subst ha; clear H h17 h19; clear hU hS; go_wp2_with fail; refine (VAL.out _ LS.out).mono ?_; rintro e w4 ⟨vo20, rfl, r20, s4⟩; go_wp2_with fail; all_goals (try refine hQ _ _ ?_); all_goals refine ⟨s4, ?_, trivial, nofun⟩; all_goals exact IsVals.of hH.size (by rw [pick_length]; exact r20)
    case o28_1_21 =>
      (try (have LS := Lib.hid (hS (by decide)))); (try (have hHs := hH; have hH := hS (by decide); obtain ⟨f0, f4, f6, f7, f8, f9⟩ := FF.out _ (S1.out.then hH); obtain ⟨b0, b1, b2, b3, b4, b5, b6, b7, b8, b9⟩ := FB.out _ hH; obtain ⟨m0, lk⟩ := FN.out _ hH; clear hH; have hH := hHs; clear hHs; clear b0 b1 b2 b3 b4 b5 b6 b7 b8 b9)); obtain ⟨b0, b1, b2, b3, b4, b5, b6, b7, b8, b9⟩ := FBO.out _ hH; have h6 : xv 6 = _ := H 6 (by kernel_rfl); have h16 : xv 16 = _ := H 16 (by kernel_rfl); obtain ⟨a20, cap20, h20, r20⟩ : IsVals w1 (pick regs args) _ _ := H 20 (by kernel_rfl); change aq = puts _ xv [(6, some 183), (16, some 193), (20, some 197)] at ha; simp only [q1, q2, q3, q5, q6, q7, h6, h16, h20] at ha; subst ha; clear H h6 h16 h20
      have L := hS (by kernel_rfl)
      clear hU hS
      go_wp2_with fail
      refine (CA.out _ _ L r20).mono ?_
      rintro e w4 ⟨vo4, rfl, own1, c', hch, hat, hcb, hrow⟩
      go_wp2_with fail
      (try refine hQ _ _ ?_)
      obtain ⟨ra, rcap4, er⟩ := hrow.slice
      have hz := L.size
      refine ⟨hch.step.mono fun _ _ x => .inl x, trivial, ?_, nofun⟩
      exact ⟨c', hcb, ra, rcap4, er, own1, (Chg.calm own L).trans hch, hat, by
        subst er
        exact hrow.mono fun b hb => ⟨by omega, hb.2⟩⟩
  intro xv w2 hH hS H hU hsz hF hN
  have h0 : xv 0 = _ := H 0 (by decide) (by kernel_rfl); have h1 : xv 1 = _ := H 1 (by decide) (by kernel_rfl); have h2 : xv 2 = _ := H 2 (by decide) (by kernel_rfl); have h3 : xv 3 = _ := H 3 (by decide) (by kernel_rfl); have h4 : xv 4 = _ := H 4 (by decide) (by kernel_rfl); have h5 : xv 5 = _ := H 5 (by decide) (by kernel_rfl); have h6 : xv 6 = _ := H 6 (by decide) (by kernel_rfl); have h7 : xv 7 = _ := H 7 (by decide) (by kernel_rfl); have h8 : xv 8 = _ := H 8 (by decide) (by kernel_rfl); have h9 : xv 9 = _ := H 9 (by decide) (by kernel_rfl); have h10 : xv 10 = _ := H 10 (by decide) (by kernel_rfl); have h11 : xv 11 = _ := H 11 (by decide) (by kernel_rfl); have h12 : xv 12 = _ := H 12 (by decide) (by kernel_rfl); have h13 : xv 13 = _ := H 13 (by decide) (by kernel_rfl); have h14 : xv 14 = _ := H 14 (by decide) (by kernel_rfl); have h15 : xv 15 = _ := H 15 (by decide) (by kernel_rfl); have h16 : xv 16 = _ := H 16 (by decide) (by kernel_rfl); have h17 : xv 17 = _ := H 17 (by decide) (by kernel_rfl); have h18 : xv 18 = _ := H 18 (by decide) (by kernel_rfl); have h19 : xv 19 = _ := H 19 (by decide) (by kernel_rfl); obtain ⟨c', hc', a21, cap21, h21, own1, ch1, at1, r21⟩ : (fun y w => ∃ c' : Nat, (c' : Int) ≤ 1000 + 20 * st'.steps ∧ AfterRow w0 w1 own pw fnv tops st' c' xs y w) (xv 21) _ := hU 21 (by decide) (by kernel_rfl)
  simp only [planCall42, q1, q2, q3, q5, q6, q7, q4, List.drop_succ_cons, List.drop_zero, h0, h1, h2, h3, h4, h5, h6, h7, h8, h9, h10, h11, h12, h13, h14, h15, h16, h17, h18, h19, h21]
  have hL := hU 21 (by decide) (by kernel_rfl)
  clear H hF hN hS hU h0 h1 h2 h3 h4 h5 h6 h7 h8 h9 h10 h11 h12 h13 h14 h15 h16 h17 h18 h19 h21
  have HH := Lib.hid ch1
  have F2 := HF1.out.keep ch1
  have NG := Lib.hid (show NumsAt w2 gx (.slice a21 xs.length cap21) xs from NumsAt.of_row r21 fun b hb e => by have := HF1.out.free.2.2.2; omega)
  have WR := Lib.hid (write_any F2 (HO.out.step at1.since fun b h => h) (ints_old HO.out HL.out) HRO.out NG.out HLV.out (by have := HLO.out; omega))
  have AT1 := Lib.hid at1
  have G0 := Lib.hid F2.free.2.1
  have HCB := Lib.hid hc'
  clear hH ch1 at1 r21 F2 hc'
  go_wp2_with fail
  refine WR.out.mono ?_
  rintro e w5 ⟨rfl, fr5, s5⟩
  have FR5 := Lib.hid fr5
  have S5 := Lib.hid s5
  clear fr5 s5
  go_wp2_with fail
  go_end0
  exact ⟨c', HCB.out, rfl, own1, (((Chg.calm own S1.out).trans HH.out).g gx).trans ⟨S5.out.mono fun _ _ x => .inr x, fun _ _ => rfl⟩, AT1.out.offReg G0.out HL.out S5.out, FR5.out⟩
set_option maxHeartbeats 4000000 in
set_option maxRecDepth 100000 in
theorem mem_42no (hW : FWAt w0 w pw own fnv tops st c) (hF : FrAt w own pf pw gx vn vp vk vs vc vr vl regs slots lock key) (hl : w0.heap.size ≤ gx) {v : Value} {i : FIns} (hi : InsAt w0 v i) (ho : i.op = 42) {n_ : Nat} (hC : CallC w0 pw fnv fns tops n_) {g : FFn} {gv : Value} (hfn : fnv i.name.data.toList = some gv) (hgv : FnAt w0 gv g) (hgg : GoodFn fns g) (hS : SInv tops st 2) (hc : (c : Int) + 12 ≤ 1000 + 20 * st.steps) (h64 : regs64 regs) (hnm : i.name.size ≤ maxLen) (hla : i.args.length = g.params.length) (hr : ∀ r ∈ i.args, ok1 regs r) (hfuel : (st.fuel - st.steps).toNat ≤ n_) {st' : FSt} {s code : Int} (hres : callF fns tops n_ st g (pick regs i.args) = .stop st' s code) :
    Calls Try.prog 72 #[.pointer (some ⟨pf, 0, none⟩), v] w (fun e w' => ∃ c' : Nat, Fell w0 w pw own fnv tops gx s code st' c' e w') := by
  obtain ⟨va, vo, rfl, iargs, iouts⟩ := hi
  obtain ⟨op, dst, a, b, n, size, name, args, outs, to⟩ := i
  simp only at *
  subst ho
  have HW := Lib.hid hW
  have HF := Lib.hid hF
  have HL := Lib.hid hl
  have FF := Lib.hid (frame_facts hF)
  have FR := Lib.hid (reg_facts hF)
  clear hW hF hl
  obtain ⟨f0, f4, f6, f7, f8, f9⟩ := FF.out _ (Step.refl _ _)
  have hpf := block_lt f6
  simp only at hpf
  go_enter Try.func72, Try.ntmps72
  go_upto_region 28 with fail
  have kb := heap_alloc_new w (.cells #[.int .i64 42, .int .i64 dst, .int .i64 a, .int .i64 b, .int .u64 n, .int .i64 size, .string name, va, vo, .int .i64 to] 47 (0, 0))
  have S1 := Lib.hid (Step.alloc (fun _ => False) w (.cells #[.int .i64 42, .int .i64 dst, .int .i64 a, .int .i64 b, .int .u64 n, .int .i64 size, .string name, va, vo, .int .i64 to] 47 (0, 0)))
  clear f0 f4 f6 f7 f8 f9 hpf
  have HT := Lib.hid (show gx < w.heap.size ∧ own w.heap.size = 0 from ⟨HF.out.free.2.2.2, HW.out.fresh0⟩)
  generalize w.alloc (.cells #[.int .i64 42, .int .i64 dst, .int .i64 a, .int .i64 b, .int .u64 n, .int .i64 size, .string name, va, vo, .int .i64 to] 47 (0, 0)) = w1 at kb S1 ⊢
  generalize w.heap.size = tb at kb HT ⊢
  have KB := Lib.hid kb
  have FB := Lib.hid (box_facts kb)
  clear kb
  have HW1 := Lib.hid (HW.out.still S1.out)
  have HF1 := Lib.hid (HF.out.still S1.out)
  have FBO := Lib.hid (box_facts_of (F := fun b => own b ≠ 0) KB.out (fun h => h HT.out.2))
  obtain ⟨bf, fnf⟩ := fn_facts HW1.out hnm hfn
  have FN := Lib.hid fnf
  have HO := Lib.hid iouts
  have VAL := Lib.hid (show ∀ y, Step (fun _ => False) w1 y → _ from fun y hy => values_any (HF1.out.still hy) (iargs.step (HW1.out.still hy).since fun b h => h) hr (by have := hgg.params.2; omega))
  have CA := Lib.hid (show ∀ y vv, Step (fun _ => False) w1 y → RowAt y (fun b => w1.heap.size ≤ b) 38 1 vv (pick regs args).length ((pick regs args).map (Value.int .u64)) → _ from fun y vv hy hv => hC y own st c g gv (pick regs args) vv _ (HW1.out.still hy) hS hc hgv hgg (by rw [pick_length]; exact hla) (pick_64 h64 _) hv (fun b hb => by
    by_cases e : own b = 0
    · exact e
    · have := (HW1.out.low b e).2; omega) hfuel)
  rw [hres] at CA
  clear hC hfn hgv hgg hS hc h64 hnm hla hr hfuel hres fnf iargs iouts
  refine wp_region_eachX 22 planCall42n (fun _ _ => False) (Step (fun _ => False) w1) (fun _ => True) [Is ?v28_2_0, Is ?v28_2_1, Is ?v28_2_2, Is ?v28_2_3, Is ?v28_2_4, Is ?v28_2_5, Is ?v28_2_6, Is ?v28_2_7, Is ?v28_2_8, Is ?v28_2_9, Is ?v28_2_10, Is ?v28_2_11, Is ?v28_2_12, Is ?v28_2_13, Is ?v28_2_14, Is ?v28_2_15, Is ?v28_2_16, Is ?v28_2_17, Is ?v28_2_18, Is ?v28_2_19, IsVals w1 (pick regs args), fun _ _ => False] [] (by kernel_rfl) (by kernel_rfl) (fun _ _ h => h.elim) ((Step.refl _ _).drew) (trivial) ?stab28_2 ?stabD28_2 (X := fun ch w' => ch = [{ v := stopV s code, recovered := false }] ∧ ∃ own' c', Chg own own' w1 w' ∧ FWAt w0 w' pw own' fnv tops st' c') ?hx28_2 ?obl28_2 ?fin28_2
  case hx28_2 => (rintro ch a' w' hd ⟨rfl, own', c', s1, s2⟩; exact ⟨hd, c', rfl, own', ((Chg.calm own S1.out).trans s1).g gx, s2⟩)
  case stab28_2 => exact fun w w' h => ⟨fun k => k.trans h (fun _ x => x.elim), fun _ => trivial, ⟨fun _ k => k, fun _ k => k, fun _ k => k, fun _ k => k, fun _ k => k, fun _ k => k, fun _ k => k, fun _ k => k, fun _ k => k, fun _ k => k, fun _ k => k, fun _ k => k, fun _ k => k, fun _ k => k, fun _ k => k, fun _ k => k, fun _ k => k, fun _ k => k, fun _ k => k, fun _ k => k, fun _ k => IsVals.stable h k, fun _ k => k, trivial⟩, trivial⟩
  case stabD28_2 => exact fun _ _ h => h.elim
  case obl28_2 =>
    refine ⟨?o28_2_0, ?o28_2_1, ?o28_2_2, ?o28_2_3, ?o28_2_4, ?o28_2_5, ?o28_2_6, ?o28_2_7, ?o28_2_8, ?o28_2_9, ?o28_2_10, ?o28_2_11, ?o28_2_12, ?o28_2_13, ?o28_2_14, ?o28_2_15, ?o28_2_16, ?o28_2_17, ?o28_2_18, ?o28_2_19, ?o28_2_20, ?o28_2_21, trivial⟩
    all_goals intro xv wq hH hS H hU aq ha Q' hX hQ
    case o28_2_0 | o28_2_1 => cases rd0 ha; clear H hU hS; go_wp2_with fail; (try refine hQ _ _ ?_); refine ⟨Step.refl _ _, ?_, trivial, nofun⟩; exact (rfl : _ = _)
    case o28_2_2 => obtain ⟨f0, f4, f6, f7, f8, f9⟩ := FF.out _ (S1.out.then hH); obtain ⟨b0, b1, b2, b3, b4, b5, b6, b7, b8, b9⟩ := FB.out _ hH; obtain ⟨m0, lk⟩ := FN.out _ hH; have ha := rd1 ha H (by kernel_rfl) rfl; simp only [q3, q5, q6, q7] at ha; subst ha; clear H hU hS; go_wp2_with fail; (try refine hQ _ _ ?_); refine ⟨Step.refl _ _, ?_, trivial, nofun⟩; exact (rfl : _ = _)
    case o28_2_3 => cases rd0 ha; clear H hU hS; go_wp2_with fail; (try refine hQ _ _ ?_); refine ⟨Step.refl _ _, ?_, trivial, nofun⟩; exact (rfl : _ = _)
    case o28_2_4 | o28_2_5 => have ha := rd1 ha H (by kernel_rfl) rfl; simp only [q3, q5, q6, q7] at ha; subst ha; clear H hU hS; go_wp2_with fail; (try refine hQ _ _ ?_); refine ⟨Step.refl _ _, ?_, trivial, nofun⟩; exact (rfl : _ = _)
    case o28_2_6 => obtain ⟨f0, f4, f6, f7, f8, f9⟩ := FF.out _ (S1.out.then hH); obtain ⟨b0, b1, b2, b3, b4, b5, b6, b7, b8, b9⟩ := FB.out _ hH; obtain ⟨m0, lk⟩ := FN.out _ hH; have ha := rd1 ha H (by kernel_rfl) rfl; simp only [q3, q5, q6, q7] at ha; subst ha; clear H hU hS; go_wp2_with fail; (try refine hQ _ _ ?_); refine ⟨Step.refl _ _, ?_, trivial, nofun⟩; exact (rfl : _ = _)
    case o28_2_7 => cases rd0 ha; clear H hU hS; go_wp2_with fail; (try refine hQ _ _ ?_); refine ⟨Step.refl _ _, ?_, trivial, nofun⟩; exact (rfl : _ = _)
    case o28_2_8 | o28_2_9 => have ha := rd1 ha H (by kernel_rfl) rfl; simp only [q3, q5, q6, q7] at ha; subst ha; clear H hU hS; go_wp2_with fail; (try refine hQ _ _ ?_); refine ⟨Step.refl _ _, ?_, trivial, nofun⟩; exact (rfl : _ = _)
    case o28_2_10 => obtain ⟨f0, f4, f6, f7, f8, f9⟩ := FF.out _ (S1.out.then hH); obtain ⟨b0, b1, b2, b3, b4, b5, b6, b7, b8, b9⟩ := FB.out _ hH; obtain ⟨m0, lk⟩ := FN.out _ hH; have ha := rd1 ha H (by kernel_rfl) rfl; simp only [q3, q5, q6, q7] at ha; subst ha; clear H hU hS; go_wp2_with fail; (try refine hQ _ _ ?_); refine ⟨Step.refl _ _, ?_, trivial, nofun⟩; exact (rfl : _ = _)
    case o28_2_11 | o28_2_12 => have ha := rd1 ha H (by kernel_rfl) rfl; simp only [q3, q5, q6, q7] at ha; subst ha; clear H hU hS; go_wp2_with fail; (try refine hQ _ _ ?_); refine ⟨Step.refl _ _, ?_, trivial, nofun⟩; exact (rfl : _ = _)
    case o28_2_13 => obtain ⟨f0, f4, f6, f7, f8, f9⟩ := FF.out _ (S1.out.then hH); obtain ⟨b0, b1, b2, b3, b4, b5, b6, b7, b8, b9⟩ := FB.out _ hH; obtain ⟨m0, lk⟩ := FN.out _ hH; have ha := rd1 ha H (by kernel_rfl) rfl; simp only [q3, q5, q6, q7] at ha; subst ha; clear H hU hS; go_wp2_with fail; (try refine hQ _ _ ?_); refine ⟨Step.refl _ _, ?_, trivial, nofun⟩; exact (rfl : _ = _)
    case o28_2_14 => cases rd0 ha; clear H hU hS; go_wp2_with fail; (try refine hQ _ _ ?_); refine ⟨Step.refl _ _, ?_, trivial, nofun⟩; exact (rfl : _ = _)
    case o28_2_15 => obtain ⟨f0, f4, f6, f7, f8, f9⟩ := FF.out _ (S1.out.then hH); obtain ⟨b0, b1, b2, b3, b4, b5, b6, b7, b8, b9⟩ := FB.out _ hH; obtain ⟨m0, lk⟩ := FN.out _ hH; have ha := rd1 ha H (by kernel_rfl) rfl; simp only [q3, q5, q6, q7] at ha; subst ha; clear H hU hS; go_wp2_with fail; (try refine hQ _ _ ?_); refine ⟨Step.refl _ _, ?_, trivial, nofun⟩; exact (rfl : _ = _)
    case o28_2_16 => obtain ⟨f0, f4, f6, f7, f8, f9⟩ := FF.out _ (S1.out.then hH); obtain ⟨b0, b1, b2, b3, b4, b5, b6, b7, b8, b9⟩ := FB.out _ hH; obtain ⟨m0, lk⟩ := FN.out _ hH; have ha := rd2 ha H (by kernel_rfl) (by kernel_rfl) rfl rfl; simp only [q3, q5, q6, q7] at ha; subst ha; clear H hU hS; go_wp2_with fail; (try refine hQ _ _ ?_); refine ⟨Step.refl _ _, ?_, trivial, nofun⟩; exact (rfl : _ = _)
    case o28_2_17 | o28_2_18 => cases rd0 ha; clear H hU hS; go_wp2_with fail; (try refine hQ _ _ ?_); refine ⟨Step.refl _ _, ?_, trivial, nofun⟩; exact (rfl : _ = _)
    case o28_2_19 => obtain ⟨f0, f4, f6, f7, f8, f9⟩ := FF.out _ (S1.out.then hH); obtain ⟨b0, b1, b2, b3, b4, b5, b6, b7, b8, b9⟩ := FB.out _ hH; obtain ⟨m0, lk⟩ := FN.out _ hH; have ha := rd1 ha H (by kernel_rfl) rfl; simp only [q3, q5, q6, q7] at ha; subst ha; clear H hU hS; go_wp2_with fail; (try refine hQ _ _ ?_); refine ⟨Step.refl _ _, ?_, trivial, nofun⟩; exact (rfl : _ = _)
    case o28_2_20 => obtain ⟨f0, f4, f6, f7, f8, f9⟩ := FF.out _ (S1.out.then hH); obtain ⟨b0, b1, b2, b3, b4, b5, b6, b7, b8, b9⟩ := FB.out _ hH; obtain ⟨m0, lk⟩ := FN.out _ hH; have h17 : xv 17 = _ := H 17 (by kernel_rfl); have h19 : xv 19 = _ := H 19 (by kernel_rfl); change aq = puts _ xv [(17, some 194), (19, some 196)] at ha; simp only [q1, q2, q3, q5, q6, q7, h17, h19] at ha; subst ha; clear H h17 h19; clear hU hS; go_wp2_with fail; refine (VAL.out _ hH).mono ?_; rintro e w4 ⟨vo20, rfl, r20, s4⟩; go_wp2_with fail; all_goals (try refine hQ _ _ ?_); all_goals refine ⟨s4, ?_, trivial, nofun⟩; all_goals exact IsVals.of hH.size (by rw [pick_length]; exact r20)
    case o28_2_21 =>
      obtain ⟨f0, f4, f6, f7, f8, f9⟩ := FF.out _ (S1.out.then hH); obtain ⟨b0, b1, b2, b3, b4, b5, b6, b7, b8, b9⟩ := FB.out _ hH; obtain ⟨m0, lk⟩ := FN.out _ hH; have h6 : xv 6 = _ := H 6 (by kernel_rfl); have h16 : xv 16 = _ := H 16 (by kernel_rfl); obtain ⟨a20, cap20, h20, r20⟩ : IsVals w1 (pick regs args) _ _ := H 20 (by kernel_rfl); change aq = puts _ xv [(6, some 183), (16, some 193), (20, some 197)] at ha; simp only [q1, q2, q3, q5, q6, q7, h6, h16, h20] at ha; subst ha; clear H h6 h16 h20
      clear hU hS
      go_wp2_with fail
      refine (CA.out _ _ hH r20).mono ?_
      rintro e w4 ⟨rfl, own1, c', hch, hat⟩
      exact hX _ _ ⟨rfl, own1, c', (Chg.calm own hH).trans hch, hat⟩
  intro xv w2 hH hS H hU hsz hF hN
  exact (H 21 (by decide) (by kernel_rfl) : False).elim
end
end Go.Proofs.Ytpmbakhnamlooaa
