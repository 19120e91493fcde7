/- Package mid: is a function well formed? What does it answer? -/
import Derived.Test.YtojfgdoniajmeaaMGooD
import Derived.IntWalk
namespace Go.Proofs.Ytojfgdoniajmeaa
set_option linter.unusedVariables false
set_option linter.unusedSimpArgs false
open Go.RowKit

/-- is none of them twice -/
def onceB : List Int → Bool
  | [] => true
  | x :: l => !l.contains x && onceB l
theorem onceB_snoc (x : Int) : ∀ l : List Int, onceB (l ++ [x]) = (onceB l && !l.contains x)
  | [] => by simp [onceB]
  | y :: l => by
    have ih := onceB_snoc x l
    simp only [List.cons_append, onceB, ih, List.contains_append, List.contains_cons]
    by_cases e : x = y
    · subst e
      simp
    · have h1 : (x == y) = false := beq_false_of_ne e
      have h2 : (y == x) = false := beq_false_of_ne fun h => e h.symm
      simp [h1, h2, Bool.and_assoc]
def kindsM (f : FFn) : Bool := f.kinds.all fun k => k == 1 || k == 2
def sizesM (f : FFn) : Bool := f.slots.all fun n => decide (1 ≤ n) && decide (n ≤ 65536)
def lastOpM (f : FFn) : Bool := match f.code.getLast? with
  | none => false
  | some i => i.op == 17 || i.op == 18 || i.op == 22
/-- is a function well formed -/
def funM (f : FFn) : Bool := !(f.name.data.toList == []) && decide (0 < f.code.length) && kindsM f && sizesM f && f.params.all (fun r => regM f.kinds r 3 false) && onceB f.params && !f.code.any (fun i => !goodIM f i) && lastOpM f
/-- do two kinds clash -/
def clash (k x : Int) : Bool := (k == 1 && x == 2) || (k == 2 && x == 1)
/-- which kind instructions answer -/
def ansK (ks : List Int) : List FIns → Int → Int × Bool
  | [], k => (k, true)
  | i :: l, k => if i.op = 17 ∧ 0 ≤ i.a then if clash k (ks.getD i.a.toNat 0) then (0, false) else ansK ks l (ks.getD i.a.toNat 0) else ansK ks l k
def oneM (f : FFn) : Int × Bool := if funM f then ansK f.kinds f.code 0 else (0, false)
/-- what is so of a function's parts, that it may be looked at -/
structure FnOk (f : FFn) : Prop where
  params : f.params.length ≤ 1000000
  kinds : f.kinds.length ≤ 1000000
  slots : f.slots.length ≤ 1000000
  code : f.code.length ≤ 1000000
  ins : ∀ i ∈ f.code, (Lit.int .i64 i.op).wf = true ∧ i.args.length ≤ 1000000 ∧ i.outs.length ≤ 1000000
  name : f.name.size ≤ maxLen
/-- that its answers may be looked at -/
structure AnsOk (f : FFn) : Prop where
  k12 : ∀ k ∈ f.kinds, k = 1 ∨ k = 2
  rets : ∀ i ∈ f.code, i.op = 17 → i.a < 0 ∨ i.a < f.kinds.length
theorem kindsM_12 {f : FFn} (h : kindsM f = true) : ∀ k ∈ f.kinds, k = 1 ∨ k = 2 := fun k hk => by
  have := List.all_eq_true.1 h k hk
  simpa using this
theorem funM_parts {f : FFn} (h : funM f = true) : kindsM f = true ∧ sizesM f = true ∧ (∀ r ∈ f.params, regM f.kinds r 3 false = true) ∧ onceB f.params = true ∧ (∀ i ∈ f.code, goodIM f i = true) ∧ lastOpM f = true ∧ f.code ≠ [] := by
  simp only [funM, Bool.and_eq_true, Bool.not_eq_true', List.all_eq_true, List.any_eq_false, Bool.not_eq_eq_eq_not, Bool.not_true, Bool.not_eq_false, decide_eq_true_eq] at h
  obtain ⟨⟨⟨⟨⟨⟨⟨h1, h2⟩, h3⟩, h4⟩, h5⟩, h6⟩, h7⟩, h8⟩ := h
  refine ⟨h3, h4, h5, h6, fun i hi => ?_, h8, fun e => ?_⟩
  · have := h7 i hi
    simpa using this
  · rw [e] at h2; simp at h2
theorem ansOk_of {f : FFn} (h : funM f = true) : AnsOk f := by
  obtain ⟨h1, _, _, _, h5, _⟩ := funM_parts h
  refine ⟨kindsM_12 h1, fun i hi e => ?_⟩
  have g := h5 i hi
  rw [goodIM_eq, e] at g
  simp only [Bool.and_eq_true] at g
  have g := g.1.1.1.1.1.1.1.1.1.1.1.2
  have e3 : (formD 17).a = 3 := rfl
  rw [e3] at g
  unfold regM at g
  rw [if_neg (by decide)] at g
  simp only [Bool.or_eq_true, Bool.and_eq_true, decide_eq_true_eq, beq_iff_eq] at g
  omega
theorem bits_or : Go.bits BinOp.or .i64 0 1 = 1 ∧ Go.bits BinOp.or .i64 0 2 = 2 ∧ Go.bits BinOp.or .i64 1 1 = 1 ∧ Go.bits BinOp.or .i64 1 2 = 3 ∧ Go.bits BinOp.or .i64 2 1 = 3 ∧ Go.bits BinOp.or .i64 2 2 = 2 := ⟨by kernel_rfl, by kernel_rfl, by kernel_rfl, by kernel_rfl, by kernel_rfl, by kernel_rfl⟩
theorem or3 {k x : Int} (hk : k = 0 ∨ k = 1 ∨ k = 2) (hx : x = 1 ∨ x = 2) : (Go.bits BinOp.or .i64 k x == 3) = clash k x := by
  obtain ⟨h1, h2, h3, h4, h5, h6⟩ := bits_or
  rcases hk with rfl | rfl | rfl <;> rcases hx with rfl | rfl <;> simp [h1, h2, h3, h4, h5, h6, clash]

section
variable {w0 w w' : World}
set_option maxHeartbeats 1000000 in
set_option maxRecDepth 100000 in
theorem fun1_any {f : FFn} {pp pk ps pc : Option Addr} {cp ck cs cc B : Nat} {v : Value} {i : FIns} (hB : w.heap[B]? = some (.cells #[.string f.name, .slice pp f.params.length cp, .slice pk f.kinds.length ck, .slice ps f.slots.length cs, .slice pc f.code.length cc] 46 (0, 0))) (hi : InsAt w0 v i) (hkin : IntsAt .i64 w0 (.slice pk f.kinds.length ck) f.kinds) (h12 : ∀ k ∈ f.kinds, k = 1 ∨ k = 2) (hw : ∀ b, b < w0.heap.size → w.heap[b]? = w0.heap[b]?) (hz : w0.heap.size ≤ w.heap.size)
    (hop : (Lit.int .i64 i.op).wf = true) (hk : f.kinds.length ≤ 1000000) (hs : f.slots.length ≤ 1000000) (hc : f.code.length ≤ 1000000) (ha : i.args.length ≤ 1000000) (ho : i.outs.length ≤ 1000000) :
    Calls Try.prog 40 #[v, .pointer (some ⟨B, 0, none⟩)] w fun e w' => e = .returned (.bool (!goodIM f i)) ∧ Step (fun _ => False) w w' := by
  have CA := Lib.hid (show ∀ y, Step (fun _ => False) w y → _ from fun y (hy : Step (fun _ => False) w y) => instruction_any (w := y) (f := f) (pp := pp) (cp := cp) (pk := pk) (ck := ck) (ps := ps) (cs := cs) (pc := pc) (cc := cc) hi hkin h12 (fun b hb => (hy.block b (Nat.lt_of_lt_of_le hb hz) fun x => x).trans (hw b hb)) hop hk hs hc ha ho)
  unfold fnV at CA
  obtain ⟨va, vo, rfl, ⟨⟨pa, ca, rfl, _, _, _⟩, _⟩, ⟨⟨po, co, rfl, _, _, _⟩, _⟩⟩ := hi
  generalize goodIM f i = bg at *
  obtain ⟨op, dst, a, b, n, size, name, args, outs, tt⟩ := i
  simp only at CA ⊢
  have sa := Step.alloc (fun _ => False) w (.cells #[.int .i64 op, .int .i64 dst, .int .i64 a, .int .i64 b, .int .u64 n, .int .i64 size, .string name, .slice pa args.length ca, .slice po outs.length co, .int .i64 tt] 42 (0, 0))
  have kb := heap_alloc_new w (.cells #[.int .i64 op, .int .i64 dst, .int .i64 a, .int .i64 b, .int .u64 n, .int .i64 size, .string name, .slice pa args.length ca, .slice po outs.length co, .int .i64 tt] 42 (0, 0))
  have hB' := sa.keeps hB
  go_enter Try.func40, Try.ntmps40
  go_upto_region 1 with fail
  generalize w.alloc (.cells #[.int .i64 op, .int .i64 dst, .int .i64 a, .int .i64 b, .int .u64 n, .int .i64 size, .string name, .slice pa args.length ca, .slice po outs.length co, .int .i64 tt] 42 (0, 0)) = w1 at *
  obtain ⟨f0, f1, f2, f3, f4, _⟩ := cells_known5 hB'
  have i0 := cell_known kb (i := 0) rfl
  have i1 := cell_known kb (i := 1) rfl
  have i2 := cell_known kb (i := 2) rfl
  have i3 := cell_known kb (i := 3) rfl
  have i4 := cell_known kb (i := 4) rfl
  have i5 := cell_known kb (i := 5) rfl
  have i6 := cell_known kb (i := 6) rfl
  have i7 := cell_known kb (i := 7) rfl
  have i8 := cell_known kb (i := 8) rfl
  have i9 := cell_known kb (i := 9) rfl
  have SA := Lib.hid sa
  clear hB hB' kb sa hkin h12
  go_wp2_with fail
  refine (CA.out _ SA.out).mono ?_
  rintro e w2 ⟨rfl, s2⟩
  have S2 := Lib.hid (SA.out.then s2)
  clear s2 f0 f1 f2 f3 f4 i0 i1 i2 i3 i4 i5 i6 i7 i8 i9
  go_wp2_with fail
  go_ret
  exact ⟨rfl, S2.out⟩
theorem take_all {l : List Int} {P : Int → Bool} {k : Nat} (h : k < l.length) : (l.take (k + 1)).all P = ((l.take k).all P && P (l.getD k 0)) := by
  rw [List.take_succ_eq_append_getElem h, List.all_append, List.getD_eq_getElem?_getD, List.getElem?_eq_getElem h]; simp
theorem take_once {l : List Int} {k : Nat} (h : k < l.length) : onceB (l.take (k + 1)) = (onceB (l.take k) && !(l.take k).contains (l.getD k 0)) := by
  rw [List.take_succ_eq_append_getElem h, onceB_snoc, List.getD_eq_getElem?_getD, List.getElem?_eq_getElem h]; rfl
theorem par_step {z A B c d : Bool} : (z && (A && c) && (B && d)) = ((z && A && B) && (c && d)) := by
  cases z <;> cases A <;> cases B <;> cases c <;> cases d <;> rfl
set_option maxHeartbeats 4000000 in
set_option maxRecDepth 100000 in
theorem function_any {v : Value} {f : FFn} (hf : FnAt w0 v f) (hok : FnOk f) (hw : ∀ b, b < w0.heap.size → w.heap[b]? = w0.heap[b]?) (hz : w0.heap.size ≤ w.heap.size) :
    Calls Try.prog 29 #[v] w fun e w' => e = .returned (.bool (funM f)) ∧ Step (fun _ => False) w w' := by
  obtain ⟨vp, vk, vs, vc, rfl, hpar, hkin, hslo, hcode⟩ := hf
  have HKIN0 := Lib.hid hkin
  have hpar := hpar.old hw
  have hkin := hkin.old hw
  have hslo := hslo.old hw
  have hcode0 := hcode
  obtain ⟨pp, cp, rfl, _, _, _⟩ := hpar.ex
  obtain ⟨pk, ck, rfl, _, _, _⟩ := hkin.ex
  obtain ⟨ps, cs, rfl, _, _, _⟩ := hslo.ex
  obtain ⟨pc, cc, rfl, hcc, hcm, hcl⟩ := hcode
  have hmf := makeFunc_run
  have HOK := Lib.hid hok
  obtain ⟨zz, hzz⟩ : ∃ zz, zz = funM f := ⟨_, rfl⟩
  rw [← hzz]
  unfold funM at hzz
  rw [← empty_eq] at hzz
  have k1 := heap_alloc_new w (.cells #[.string f.name, .slice pp f.params.length cp, .slice pk f.kinds.length ck, .slice ps f.slots.length cs, .slice pc f.code.length cc] 46 (0, 0))
  have s1 := Step.alloc (fun _ => False) w (.cells #[.string f.name, .slice pp f.params.length cp, .slice pk f.kinds.length ck, .slice ps f.slots.length cs, .slice pc f.code.length cc] 46 (0, 0))
  go_enter Try.func29, Try.ntmps29
  go_upto_region 1 with fail
  generalize w.alloc (.cells #[.string f.name, .slice pp f.params.length cp, .slice pk f.kinds.length ck, .slice ps f.slots.length cs, .slice pc f.code.length cc] 46 (0, 0)) = w1 at *
  have K1 := Lib.hid (show ∀ y, Step (fun _ => False) w1 y → _ from fun y (hy : Step (fun _ => False) w1 y) => cells_known5 (hy.keeps k1))
  have S1 := Lib.hid s1
  have REG := Lib.hid (show (∀ k ∈ f.kinds, k = 1 ∨ k = 2) → ∀ (y : World) (hy : Step (fun _ => False) w1 y) (r : Int), _ from fun h12 y hy r => register_any (nm := f.name) (pp := pp) (np := f.params.length) (cp := cp) (pk := pk) (ck := ck) (ps := ps) (cs := cs) (ns := f.slots.length) (pc := pc) (nc := f.code.length) (cc := cc) (w := y) (hkin.step (s1.then hy) fun _ h => h.elim) hok.kinds h12 r 3 false (.inr (.inr (.inr rfl))))
  unfold fnV at REG
  have CI := Lib.hid (show (∀ k ∈ f.kinds, k = 1 ∨ k = 2) → ∀ y, Step (fun _ => False) w1 y → _ from fun h12 y (hy : Step (fun _ => False) w1 y) => containsFunc_ins (w := y) (g := 40) (lb := #[.pointer (some ⟨w.heap.size, 0, none⟩)]) hcode0 (fun b hb => ((s1.then hy).block b (Nat.lt_of_lt_of_le hb hz) fun x => x).trans (hw b hb)) hok.code (enters_of Try.func40 (by kernel_rfl) rfl) (fun i => !goodIM f i)
    (fun y2 hy2 x hx vi hvi => fun1_any ((hy.then hy2).keeps k1) hvi HKIN0.out h12 (fun b hb => (((s1.then hy).then hy2).block b (Nat.lt_of_lt_of_le hb hz) fun x => x).trans (hw b hb)) (Nat.le_trans hz ((s1.then hy).then hy2).size) (hok.ins x hx).1 hok.kinds hok.slots hok.code (hok.ins x hx).2.1 (hok.ins x hx).2.2))
  have HCL := Lib.hid (show ∀ y, Step (fun _ => False) w1 y → ∀ k (hk : k < f.code.length), ∃ a, pc = some a ∧ y.cell? (a.add (k * 10)) = some (.int .i64 f.code[k].op) from fun y hy k hk => by
    obtain ⟨a, vi, ha, ⟨va, vo, hvi, _, _⟩, hcells⟩ := hcl k hk
    refine ⟨a, ha, ?_⟩
    have h1 := hcells 0 (.int .i64 f.code[k].op) (by rw [hvi]; rfl)
    have h2 := (cell_of (hw _ (block_lt h1))).trans h1
    have h3 := ((s1.then hy).cell (block_lt h2) fun x => x).trans h2
    simpa [Addr.add] using h3)
  have HK := Lib.hid (show ∀ y, Step (fun _ => False) w1 y → IntsAt .i64 y (.slice pk f.kinds.length ck) f.kinds from fun y hy => hkin.step (s1.then hy) fun _ h => h.elim)
  have HS := Lib.hid (show ∀ y, Step (fun _ => False) w1 y → IntsAt .i64 y (.slice ps f.slots.length cs) f.slots from fun y hy => hslo.step (s1.then hy) fun _ h => h.elim)
  have HP := Lib.hid (show ∀ y, Step (fun _ => False) w1 y → IntsAt .i64 y (.slice pp f.params.length cp) f.params from fun y hy => hpar.step (s1.then hy) fun _ h => h.elim)
  have HZ := Lib.hid hzz
  have hkl := hok.kinds
  have hsl := hok.slots
  have hpl := hok.params
  obtain ⟨f0, f1, f2, f3, f4, _⟩ := K1.out w1 (Step.refl _ _)
  clear k1 s1 hcl hcode0 hpar hkin hslo hzz hok
  go_cut [3] (fun s3 wx => s3 = .bool (!(f.name.toList.isEmpty) && decide (0 < f.code.length)) ∧ Step (fun _ => False) w1 wx)
  case first =>
    cases hb1 : f.name.toList.isEmpty with
    | true =>
      have HB1 := Lib.hid hb1
      go_wp2_with fail
      go_meet
      exact ⟨by (try rw [HB1.out]); rfl, Step.refl _ _⟩
    | false =>
      have HB1 := Lib.hid hb1
      go_wp2_with fail
      go_meet
      exact ⟨by (try rw [HB1.out]); rfl, Step.refl _ _⟩
  case rest =>
  obtain ⟨rfl, hs1⟩ := hcut
  have T1 := Lib.hid hs1
  clear hs1 f0 f1 f2 f3 f4
  generalize hz1 : (!(f.name.toList.isEmpty) && decide (0 < f.code.length)) = z1 at *
  have HZ1 := Lib.hid hz1
  clear hz1
  obtain ⟨f0, f1, f2, f3, f4, _⟩ := K1.out wc T1.out
  go_wp2_with fail
  clear f0 f1 f2 f3 f4
  go_loopw [3, 5, 23] (fun s3 _ q wr => ∃ k : Nat, k ≤ f.kinds.length ∧ q = .int .i64 k ∧ s3 = .bool (z1 && (f.kinds.take k).all fun k => k == 1 || k == 2) ∧ Step (fun _ => False) w1 wr) (fun _ _ q _ => f.kinds.length - (intOf q).toNat)
  case atStart => exact ⟨0, by omega, rfl, by simp, T1.out⟩
  case round =>
  obtain ⟨k, hkk, rfl, rfl, hst⟩ := hrel
  have ST := Lib.hid hst
  clear hst
  by_cases hlt : k < f.kinds.length
  · have hd : decide (k < f.kinds.length) = true := decide_eq_true hlt
    obtain ⟨ra, rfl, fr⟩ := ints_facts (HK.out wr ST.out) (r := k) (by omega) (by omega)
    have fr := fr wr (Step.refl _ _)
    simp only [Int.toNat_natCast] at fr
    have HTK := Lib.hid (show (z1 && (f.kinds.take (k + 1)).all fun k => k == 1 || k == 2) = ((z1 && (f.kinds.take k).all fun k => k == 1 || k == 2) && (f.kinds.getD k 0 == 1 || f.kinds.getD k 0 == 2)) from by rw [take_all hlt, Bool.and_assoc])
    generalize f.kinds.getD k 0 = r at *
    generalize (z1 && (f.kinds.take k).all fun k => k == 1 || k == 2) = zk at *
    cases hzk : zk with
    | false =>
      have HB := Lib.hid hzk
      go_wp2_with fail
      go_roundw
      case rel => exact ⟨k + 1, by omega, by go_num, by rw [HTK.out, HB.out]; rfl, ST.out⟩
      case measure => simp [intOf]; omega
    | true =>
      have HB := Lib.hid hzk
      cases hr1 : (r == 1) with
      | true =>
        have HR1 := Lib.hid hr1
        go_wp2_with fail
        go_roundw
        case rel => exact ⟨k + 1, by omega, by go_num, by rw [HTK.out, HB.out, HR1.out]; rfl, ST.out⟩
        case measure => simp [intOf]; omega
      | false =>
        have HR1 := Lib.hid hr1
        go_wp2_with fail
        go_roundw
        case rel => exact ⟨k + 1, by omega, by go_num, by rw [HTK.out, HB.out, HR1.out]; rfl, ST.out⟩
        case measure => simp [intOf]; omega
  · have hd : decide (k < f.kinds.length) = false := decide_eq_false hlt
    have e : k = f.kinds.length := by omega
    subst e
    rw [List.take_length]
    generalize hz2 : (z1 && f.kinds.all fun k => k == 1 || k == 2) = z2 at *
    have HZ2 := Lib.hid (show z2 = (z1 && kindsM f) from hz2.symm)
    have T2 := Lib.hid ST.out
    clear hz2 hlt hkk ST HK
    obtain ⟨f0, f1, f2, f3, f4, _⟩ := K1.out wr T2.out
    go_wp2_with fail
    clear f0 f1 f2 f3 f4
    go_loopw [3, 7, 40] (fun s3 _ q wr => ∃ k : Nat, k ≤ f.slots.length ∧ q = .int .i64 k ∧ s3 = .bool (z2 && (f.slots.take k).all fun n => decide (1 ≤ n) && decide (n ≤ 65536)) ∧ Step (fun _ => False) w1 wr) (fun _ _ q _ => f.slots.length - (intOf q).toNat)
    case atStart => exact ⟨0, by omega, rfl, by simp, T2.out⟩
    case round =>
    obtain ⟨k, hkk, rfl, rfl, hst⟩ := hrel
    have ST := Lib.hid hst
    clear hst
    by_cases hlt : k < f.slots.length
    · have hd : decide (k < f.slots.length) = true := decide_eq_true hlt
      obtain ⟨ra, rfl, fr⟩ := ints_facts (HS.out wr ST.out) (r := k) (by omega) (by omega)
      have fr := fr wr (Step.refl _ _)
      simp only [Int.toNat_natCast] at fr
      have HTK := Lib.hid (show (z2 && (f.slots.take (k + 1)).all fun n => decide (1 ≤ n) && decide (n ≤ 65536)) = ((z2 && (f.slots.take k).all fun n => decide (1 ≤ n) && decide (n ≤ 65536)) && (decide (1 ≤ f.slots.getD k 0) && decide (f.slots.getD k 0 ≤ 65536))) from by rw [take_all hlt, Bool.and_assoc])
      generalize f.slots.getD k 0 = r at *
      generalize (z2 && (f.slots.take k).all fun n => decide (1 ≤ n) && decide (n ≤ 65536)) = zk at *
      cases hzk : zk with
      | false =>
        have HB := Lib.hid hzk
        go_wp2_with fail
        go_roundw
        case rel => exact ⟨k + 1, by omega, by go_num, by rw [HTK.out, HB.out]; rfl, ST.out⟩
        case measure => simp [intOf]; omega
      | true =>
        have HB := Lib.hid hzk
        cases hr1 : decide (1 ≤ r) with
        | true =>
          have HR1 := Lib.hid hr1
          go_wp2_with fail
          go_roundw
          case rel => exact ⟨k + 1, by omega, by go_num, by rw [HTK.out, HB.out, HR1.out]; rfl, ST.out⟩
          case measure => simp [intOf]; omega
        | false =>
          have HR1 := Lib.hid hr1
          go_wp2_with fail
          go_roundw
          case rel => exact ⟨k + 1, by omega, by go_num, by rw [HTK.out, HB.out, HR1.out]; rfl, ST.out⟩
          case measure => simp [intOf]; omega
    · have hd : decide (k < f.slots.length) = false := decide_eq_false hlt
      have e : k = f.slots.length := by omega
      subst e
      rw [List.take_length]
      generalize hz3 : (z2 && f.slots.all fun n => decide (1 ≤ n) && decide (n ≤ 65536)) = z3 at *
      have HZ3 := Lib.hid (show z3 = (z2 && sizesM f) from hz3.symm)
      have T3 := Lib.hid ST.out
      clear hz3 hlt hkk ST HS
      obtain ⟨f0, f1, f2, f3, f4, _⟩ := K1.out wr T3.out
      go_wp2_with fail
      clear f0 f1 f2 f3 f4
      go_loopw [3, 8, 9, 57] (fun s3 _ _ q wr => ∃ k : Nat, k ≤ f.params.length ∧ q = .int .i64 k ∧ s3 = .bool (z3 && (f.params.take k).all (fun r => regM f.kinds r 3 false) && onceB (f.params.take k)) ∧ Step (fun _ => False) w1 wr) (fun _ _ _ q _ => f.params.length - (intOf q).toNat)
      case atStart => exact ⟨0, by omega, rfl, by simp [onceB], T3.out⟩
      case round =>
      obtain ⟨k, hkk, rfl, rfl, hst⟩ := hrel
      have ST := Lib.hid hst
      clear hst
      by_cases hlt : k < f.params.length
      · have hd : decide (k < f.params.length) = true := decide_eq_true hlt
        obtain ⟨ra, rfl, fr⟩ := ints_facts (HP.out wr ST.out) (r := k) (by omega) (by omega)
        have fr := fr wr (Step.refl _ _)
        simp only [Int.toNat_natCast] at fr
        have HTK := Lib.hid (show (z3 && (f.params.take (k + 1)).all (fun r => regM f.kinds r 3 false) && onceB (f.params.take (k + 1))) = ((z3 && (f.params.take k).all (fun r => regM f.kinds r 3 false) && onceB (f.params.take k)) && (regM f.kinds (f.params.getD k 0) 3 false && !(f.params.take k).contains (f.params.getD k 0))) from by rw [take_all hlt, take_once hlt, par_step])
        have HCT := Lib.hid (fun (y : World) (hy : Step (fun _ => False) wr y) (x : Int) => contains_any ((HP.out y (ST.out.then hy)).take (Nat.le_of_lt hlt)) x (by simp; omega))
        generalize f.params.getD k 0 = r at *
        have H3 := Lib.hid (show (z3 && (f.params.take k).all (fun r => regM f.kinds r 3 false) && onceB (f.params.take k)) = true → ∀ k ∈ f.kinds, k = 1 ∨ k = 2 from fun h => by
          simp only [Bool.and_eq_true] at h
          have h3 := HZ3.out
          have h2 := HZ2.out
          rw [h.1.1] at h3
          have h4 := (Bool.and_eq_true_iff.1 h3.symm).1
          rw [h4] at h2
          exact kindsM_12 (Bool.and_eq_true_iff.1 h2.symm).2)
        generalize (z3 && (f.params.take k).all (fun r => regM f.kinds r 3 false) && onceB (f.params.take k)) = zk at *
        obtain ⟨f0, f1, f2, f3, f4, _⟩ := K1.out wr ST.out
        cases hzk : zk with
        | false =>
          have HB := Lib.hid hzk
          clear H3
          go_wp2_with fail
          go_roundw
          case rel => exact ⟨k + 1, by omega, by go_num, by rw [HTK.out, HB.out]; rfl, ST.out⟩
          case measure => simp [intOf]; omega
        | true =>
          have HB := Lib.hid hzk
          have REG2 := Lib.hid (REG.out (H3.out hzk))
          clear H3
          go_wp2_with fail
          refine (REG2.out wr ST.out r).mono ?_
          rintro e w2 ⟨rfl, hs2⟩
          have HS2 := Lib.hid hs2
          clear hs2 f0 f1 f2 f3 f4
          obtain ⟨f0, f1, f2, f3, f4, _⟩ := K1.out w2 (ST.out.then HS2.out)
          cases hreg : regM f.kinds r 3 false with
          | false =>
            have HR := Lib.hid hreg
            go_wp2_with fail
            go_roundw
            case rel => exact ⟨k + 1, by omega, by go_num, by rw [HTK.out, HB.out, HR.out]; rfl, ST.out.then HS2.out⟩
            case measure => simp [intOf]; omega
          | true =>
            have HR := Lib.hid hreg
            go_wp2_with fail
            refine (HCT.out w2 HS2.out r).mono ?_
            rintro e w3 ⟨rfl, rfl⟩
            go_wp2_with fail
            go_roundw
            case rel => exact ⟨k + 1, by omega, by go_num, by (rw [HTK.out, HB.out, HR.out]; simp), ST.out.then HS2.out⟩
            case measure => simp [intOf]; omega
      · have hd : decide (k < f.params.length) = false := decide_eq_false hlt
        have e : k = f.params.length := by omega
        subst e
        rw [List.take_length]
        generalize hz4 : (z3 && f.params.all (fun r => regM f.kinds r 3 false) && onceB f.params) = z4 at *
        have HZ4 := Lib.hid (show zz = (z4 && !f.code.any (fun i => !goodIM f i) && lastOpM f) from by rw [HZ.out, ← hz4, HZ3.out, HZ2.out])
        have H4 := Lib.hid (show z4 = true → (∀ k ∈ f.kinds, k = 1 ∨ k = 2) ∧ 0 < f.code.length from fun h => by
          rw [← hz4] at h
          simp only [Bool.and_eq_true] at h
          have h3 := HZ3.out
          have h2 := HZ2.out
          rw [h.1.1] at h3
          have h4 := (Bool.and_eq_true_iff.1 h3.symm).1
          rw [h4] at h2
          have h5 := HZ1.out
          rw [(Bool.and_eq_true_iff.1 h2.symm).1] at h5
          have h6 := of_decide_eq_true (Bool.and_eq_true_iff.1 h5).2
          exact ⟨kindsM_12 (Bool.and_eq_true_iff.1 h2.symm).2, by omega⟩)
        have T4 := Lib.hid ST.out
        clear hz4 hlt hkk ST HP HZ HZ1 HZ2 HZ3 REG HKIN0
        cases hz4 : z4 with
        | false =>
          have HB := Lib.hid hz4
          clear H4 CI HCL
          obtain ⟨f0, f1, f2, f3, f4, _⟩ := K1.out wr T4.out
          go_wp2_with fail
          go_ret
          exact ⟨by rw [HZ4.out, HB.out]; rfl, S1.out.then T4.out⟩
        | true =>
          have HB := Lib.hid hz4
          obtain ⟨h12, hpos⟩ := H4.out hz4
          have CI2 := Lib.hid (CI.out h12)
          clear H4 CI h12
          obtain ⟨f0, f1, f2, f3, f4, _⟩ := K1.out wr T4.out
          go_wp2_with fail
          refine (CI2.out _ T4.out).mono ?_
          rintro e w5 ⟨rfl, s5⟩
          have S5 := Lib.hid (T4.out.then s5)
          clear s5 f0 f1 f2 f3 f4
          obtain ⟨f0, f1, f2, f3, f4, _⟩ := K1.out w5 S5.out
          cases hb6 : f.code.any (fun i => !goodIM f i) with
          | true =>
            have HB6 := Lib.hid hb6
            clear hb6
            go_wp2_with fail
            go_ret
            exact ⟨by rw [HZ4.out, HB.out, HB6.out]; rfl, S1.out.then S5.out⟩
          | false =>
            have HB6 := Lib.hid hb6
            clear hb6
            obtain ⟨m, hm⟩ : ∃ m, f.code.length = m + 1 := ⟨f.code.length - 1, by omega⟩
            obtain ⟨a, rfl, hca⟩ := HCL.out w5 S5.out m (by omega)
            have hlast : lastOpM f = (f.code[m].op == 17 || f.code[m].op == 18 || f.code[m].op == 22) := by
              unfold lastOpM
              rw [List.getLast?_eq_getElem?, show f.code.length - 1 = m by omega, List.getElem?_eq_getElem (by omega)]
            have HLAST := Lib.hid hlast
            generalize f.code[m].op = o at *
            have h1 : (f.code.length : Int) - 1 = (m : Int) := by omega
            have h2 : (m : Int) < (f.code.length : Int) := by omega
            have h5 : m < 1000000 := by have := HOK.out.code; omega
            have h3 : wrap64 (m : Int) = m := Go.IntWalk.wrap64_in _ ⟨by omega, by omega⟩
            clear h5
            have h4 : (0 : Int) ≤ (m : Int) := Int.natCast_nonneg m
            clear hlast hm hpos
            have HZ5 := Lib.hid (show zz = (o == 17 || o == 18 || o == 22) from by rw [HZ4.out, HB.out, HB6.out, HLAST.out]; rfl)
            cases o1 : (o == 17) with
            | true =>
              have O1 := Lib.hid o1
              go_wp2_with fail
              go_ret
              exact ⟨by rw [HZ5.out, O1.out]; rfl, S1.out.then S5.out⟩
            | false =>
              have O1 := Lib.hid o1
              cases o2 : (o == 18) with
              | true =>
                have O2 := Lib.hid o2
                go_wp2_with fail
                go_ret
                exact ⟨by rw [HZ5.out, O1.out, O2.out]; rfl, S1.out.then S5.out⟩
              | false =>
                have O2 := Lib.hid o2
                go_wp2_with fail
                go_ret
                exact ⟨by rw [HZ5.out, O1.out, O2.out]; rfl, S1.out.then S5.out⟩
end
end Go.Proofs.Ytojfgdoniajmeaa
