/- Package fat: is a function well formed? -/
import Derived.Test.YtpmbakhnamlooaaGooD
import Derived.IntWalk
namespace Go.Proofs.Ytpmbakhnamlooaa
set_option linter.unusedVariables false
set_option linter.unusedSimpArgs false
open Go.RowKit

def kindsB (f : FFn) : Bool := f.kinds.any fun k => k != 1
def slotsB (f : FFn) : Bool := f.slots.any fun n => decide (n < 1) || decide (65536 < n)
def lastOpB (f : FFn) : Bool := match f.code.getLast? with
  | none => false
  | some i => i.op == 43 || i.op == 18 || i.op == 22
/-- is a function well formed -/
def funB (f : FFn) : Bool := !(f.name.data.toList == []) && !(f.code.length == 0) && !kindsB f && listB f.kinds.length f.params (-1) true && !slotsB f && !f.code.any (fun i => !goodI f i) && lastOpB f
def ansB (f : FFn) (n : Int) : Bool := !f.code.any fun i => i.op == 43 && (i.args.length : Int) != n

section
variable {w0 w w' : World}
theorem makeFunc_run : ∀ (fn : Fn) (first cap : Array Value) (w : World), (Instr.makeFunc fn first cap).run Try.prog w = .ok (.func fn first cap) w := fun _ _ _ _ => rfl
set_option maxRecDepth 100000 in
theorem fun1_any (k : Int) (w : World) : Calls Try.prog 31 #[.int .i64 k] w fun e w' => e = .returned (.bool (k != 1)) ∧ Step (fun _ => False) w w' := by
  go_enter Try.func31, Try.ntmps31
  go_wp2_with fail
  go_ret
  exact ⟨rfl, Step.refl _ _⟩
set_option maxRecDepth 100000 in
theorem fun2_any (k : Int) (w : World) : Calls Try.prog 33 #[.int .i64 k] w fun e w' => e = .returned (.bool (decide (k < 1) || decide (65536 < k))) ∧ Step (fun _ => False) w w' := by
  cases h : decide (k < 1) with
  | true =>
    go_enter Try.func33, Try.ntmps33
    go_wp2_with fail
    go_ret
    exact ⟨rfl, Step.refl _ _⟩
  | false =>
    go_enter Try.func33, Try.ntmps33
    go_wp2_with fail
    go_ret
    exact ⟨rfl, Step.refl _ _⟩
set_option maxHeartbeats 1000000 in
set_option maxRecDepth 100000 in
theorem fun3_any {f : FFn} {pp pk ps pc : Option Addr} {cp ck cs cc B : Nat} {v : Value} {i : FIns} (hB : w.heap[B]? = some (.cells #[.string f.name, .slice pp f.params.length cp, .slice pk f.kinds.length ck, .slice ps f.slots.length cs, .slice pc f.code.length cc] 54 (0, 0))) (hi : InsAt w0 v i) (hw : ∀ b, b < w0.heap.size → w.heap[b]? = w0.heap[b]?) (hz : w0.heap.size ≤ w.heap.size)
    (hop : (Lit.int .i64 i.op).wf = true) (hk : f.kinds.length ≤ 1000000) (hs : f.slots.length ≤ 1000000) (hc : f.code.length ≤ 1000000) (ha : i.args.length ≤ 1000000) (ho : i.outs.length ≤ 1000000) :
    Calls Try.prog 35 #[v, .pointer (some ⟨B, 0, none⟩)] w fun e w' => e = .returned (.bool (!goodI f i)) ∧ Step (fun _ => False) w w' := by
  have CA := Lib.hid (show ∀ y, Step (fun _ => False) w y → _ from fun y (hy : Step (fun _ => False) w y) => instruction_any (w := y) (f := f) (pp := pp) (cp := cp) (pk := pk) (ck := ck) (ps := ps) (cs := cs) (pc := pc) (cc := cc) hi (fun b hb => (hy.block b (Nat.lt_of_lt_of_le hb hz) fun x => x).trans (hw b hb)) hop hk hs hc ha ho)
  unfold fnV at CA
  obtain ⟨va, vo, rfl, ⟨⟨pa, ca, rfl, _, _, _⟩, _⟩, ⟨⟨po, co, rfl, _, _, _⟩, _⟩⟩ := hi
  generalize goodI f i = bg at *
  obtain ⟨op, dst, a, b, n, size, name, args, outs, tt⟩ := i
  simp only at CA ⊢
  have sa := Step.alloc (fun _ => False) w (.cells #[.int .i64 op, .int .i64 dst, .int .i64 a, .int .i64 b, .int .u64 n, .int .i64 size, .string name, .slice pa args.length ca, .slice po outs.length co, .int .i64 tt] 47 (0, 0))
  have kb := heap_alloc_new w (.cells #[.int .i64 op, .int .i64 dst, .int .i64 a, .int .i64 b, .int .u64 n, .int .i64 size, .string name, .slice pa args.length ca, .slice po outs.length co, .int .i64 tt] 47 (0, 0))
  have hB' := sa.keeps hB
  go_enter Try.func35, Try.ntmps35
  go_upto_region 1 with fail
  generalize w.alloc (.cells #[.int .i64 op, .int .i64 dst, .int .i64 a, .int .i64 b, .int .u64 n, .int .i64 size, .string name, .slice pa args.length ca, .slice po outs.length co, .int .i64 tt] 47 (0, 0)) = w1 at *
  obtain ⟨f0, f1, f2, f3, f4, _⟩ := cells_known5 hB'
  have i0 := cell_known kb (i := 0) rfl
  have i1 := cell_known kb (i := 1) rfl
  have i2 := cell_known kb (i := 2) rfl
  have i3 := cell_known kb (i := 3) rfl
  have i4 := cell_known kb (i := 4) rfl
  have i5 := cell_known kb (i := 5) rfl
  have i6 := cell_known kb (i := 6) rfl
  have i7 := cell_known kb (i := 7) rfl
  have i8 := cell_known kb (i := 8) rfl
  have i9 := cell_known kb (i := 9) rfl
  have SA := Lib.hid sa
  clear hB hB' kb sa
  go_wp2_with fail
  refine (CA.out _ SA.out).mono ?_
  rintro e w2 ⟨rfl, s2⟩
  have S2 := Lib.hid (SA.out.then s2)
  clear s2 f0 f1 f2 f3 f4 i0 i1 i2 i3 i4 i5 i6 i7 i8 i9
  go_wp2_with fail
  go_ret
  exact ⟨rfl, S2.out⟩
set_option maxHeartbeats 1000000 in
set_option maxRecDepth 100000 in
theorem ans1_any {v : Value} {i : FIns} (hi : InsAt w0 v i) {B : Nat} {n : Int} (hB : w.heap[B]? = some (.cells #[.int .i64 n] 3 (0, 0))) (ha : i.args.length ≤ 1000000) :
    Calls Try.prog 37 #[v, .pointer (some ⟨B, 0, none⟩)] w fun e w' => e = .returned (.bool (i.op == 43 && (i.args.length : Int) != n)) ∧ Step (fun _ => False) w w' := by
  obtain ⟨va, vo, rfl, ⟨⟨pa, ca, rfl, _, _, _⟩, _⟩, ⟨⟨po, co, rfl, _, _, _⟩, _⟩⟩ := hi
  obtain ⟨op, dst, a, b, nn, size, name, args, outs, tt⟩ := i
  simp only at *
  have SA := Lib.hid (Step.alloc (fun _ => False) w (.cells #[.int .i64 op, .int .i64 dst, .int .i64 a, .int .i64 b, .int .u64 nn, .int .i64 size, .string name, .slice pa args.length ca, .slice po outs.length co, .int .i64 tt] 47 (0, 0)))
  have c0 := cell_known hB (i := 0) rfl
  have c1 := (SA.out.cell (block_lt c0) fun x => x).trans c0
  clear hB
  cases h : (op == 43) with
  | true =>
    go_enter Try.func37, Try.ntmps37
    go_wp2_with fail
    go_ret
    exact ⟨rfl, SA.out⟩
  | false =>
    go_enter Try.func37, Try.ntmps37
    go_wp2_with fail
    go_ret
    exact ⟨rfl, SA.out⟩
/-- what is so of a function's parts, that it may be looked at -/
structure FnOk (f : FFn) : Prop where
  params : f.params.length ≤ 1000000
  kinds : f.kinds.length ≤ 1000000
  slots : f.slots.length ≤ 1000000
  code : f.code.length ≤ 1000000
  ins : ∀ i ∈ f.code, (Lit.int .i64 i.op).wf = true ∧ i.args.length ≤ 1000000 ∧ i.outs.length ≤ 1000000
  name : f.name.size ≤ maxLen
set_option maxHeartbeats 1000000 in
set_option maxRecDepth 100000 in
theorem answers_any {v : Value} {f : FFn} (hf : FnAt w0 v f) (hok : FnOk f) (n : Int) (hw : ∀ b, b < w0.heap.size → w.heap[b]? = w0.heap[b]?) (hz : w0.heap.size ≤ w.heap.size) :
    Calls Try.prog 22 #[v, .int .i64 n] w fun e w' => e = .returned (.bool (ansB f n)) ∧ Step (fun _ => False) w w' := by
  obtain ⟨vp, vk, vs, vc, rfl, ⟨⟨pp, cp, rfl, _, _, _⟩, _⟩, ⟨⟨pk, ck, rfl, _, _, _⟩, _⟩, ⟨⟨ps, cs, rfl, _, _, _⟩, _⟩, hcode⟩ := hf
  have hcode0 := hcode
  obtain ⟨pc, cc, rfl, _, _, _⟩ := hcode
  have hmf := makeFunc_run
  unfold ansB
  have k0 := heap_alloc_new w (.cells #[.string f.name, .slice pp f.params.length cp, .slice pk f.kinds.length ck, .slice ps f.slots.length cs, .slice pc f.code.length cc] 54 (0, 0))
  have s0 := Step.alloc (fun _ => False) w (.cells #[.string f.name, .slice pp f.params.length cp, .slice pk f.kinds.length ck, .slice ps f.slots.length cs, .slice pc f.code.length cc] 54 (0, 0))
  generalize hw1 : w.alloc (.cells #[.string f.name, .slice pp f.params.length cp, .slice pk f.kinds.length ck, .slice ps f.slots.length cs, .slice pc f.code.length cc] 54 (0, 0)) = w1 at *
  have hz1 : w1.heap.size = w.heap.size + 1 := by rw [← hw1]; simp
  have k1 := heap_alloc_new w1 (.cells #[.int .i64 n] 3 (0, 0))
  have s1 := s0.then (Step.alloc (fun _ => False) w1 (.cells #[.int .i64 n] 3 (0, 0)))
  have k0' := (Step.alloc (fun _ => False) w1 (.cells #[.int .i64 n] 3 (0, 0))).keeps k0
  rw [hz1] at k1
  go_enter Try.func22, Try.ntmps22
  go_upto_region 1 with fail
  have HW1 := Lib.hid hw1
  clear hw1
  generalize w1.alloc (.cells #[.int .i64 n] 3 (0, 0)) = w2 at *
  have c4 := cell_known k0' (i := 4) rfl
  have S1 := Lib.hid s1
  have CF := Lib.hid (containsFunc_ins (w := w2) (g := 37) (lb := #[.pointer (some ⟨w.heap.size + 1, 0, none⟩)]) hcode0 (fun b hb => (s1.block b (Nat.lt_of_lt_of_le hb hz) fun x => x).trans (hw b hb)) hok.code (enters_of Try.func37 (by kernel_rfl) rfl) (fun i => i.op == 43 && (i.args.length : Int) != n) (fun y hy x hx vi hvi => ans1_any hvi (hy.keeps k1) (hok.ins x hx).2.1))
  clear k0 k0' k1 s0 s1 hcode0
  go_wp2_with fail
  refine CF.out.mono ?_
  rintro e w3 ⟨rfl, s3⟩
  have S3 := Lib.hid (S1.out.then s3)
  clear s3 CF
  go_wp2_with fail
  go_ret
  exact ⟨rfl, S3.out⟩
set_option maxHeartbeats 4000000 in
set_option maxRecDepth 100000 in
theorem function_any {v : Value} {f : FFn} (hf : FnAt w0 v f) (hok : FnOk f) (hw : ∀ b, b < w0.heap.size → w.heap[b]? = w0.heap[b]?) (hz : w0.heap.size ≤ w.heap.size) :
    Calls Try.prog 21 #[v] w fun e w' => e = .returned (.bool (funB f)) ∧ Step (fun _ => False) w w' := by
  obtain ⟨vp, vk, vs, vc, rfl, hpar, hkin, hslo, hcode⟩ := hf
  have hpar := hpar.old hw
  have hkin := hkin.old hw
  have hslo := hslo.old hw
  have hcode0 := hcode
  obtain ⟨pp, cp, rfl, _, _, _⟩ := hpar.ex
  obtain ⟨pk, ck, rfl, _, _, _⟩ := hkin.ex
  obtain ⟨ps, cs, rfl, _, _, _⟩ := hslo.ex
  obtain ⟨pc, cc, rfl, hcc, hcm, hcl⟩ := hcode
  have hmf := makeFunc_run
  have HOK := Lib.hid hok
  obtain ⟨zz, hzz⟩ : ∃ zz, zz = funB f := ⟨_, rfl⟩
  rw [← hzz]
  unfold funB at hzz
  rw [← empty_eq] at hzz
  have k1 := heap_alloc_new w (.cells #[.string f.name, .slice pp f.params.length cp, .slice pk f.kinds.length ck, .slice ps f.slots.length cs, .slice pc f.code.length cc] 54 (0, 0))
  have s1 := Step.alloc (fun _ => False) w (.cells #[.string f.name, .slice pp f.params.length cp, .slice pk f.kinds.length ck, .slice ps f.slots.length cs, .slice pc f.code.length cc] 54 (0, 0))
  go_enter Try.func21, Try.ntmps21
  go_upto_region 1 with fail
  generalize w.alloc (.cells #[.string f.name, .slice pp f.params.length cp, .slice pk f.kinds.length ck, .slice ps f.slots.length cs, .slice pc f.code.length cc] 54 (0, 0)) = w1 at *
  have K1 := Lib.hid (show ∀ y, Step (fun _ => False) w1 y → _ from fun y (hy : Step (fun _ => False) w1 y) => cells_known5 (hy.keeps k1))
  have S1 := Lib.hid s1
  have CK := Lib.hid (show ∀ y, Step (fun _ => False) w1 y → _ from fun y (hy : Step (fun _ => False) w1 y) => containsFunc_int (w := y) (hkin.step (s1.then hy) fun _ h => h.elim) hok.kinds (lb := #[]) (enters_of Try.func31 (by kernel_rfl) rfl) (fun k => k != 1) fun y2 _ x _ => fun1_any x y2)
  have CS := Lib.hid (show ∀ y, Step (fun _ => False) w1 y → _ from fun y (hy : Step (fun _ => False) w1 y) => containsFunc_int (w := y) (hslo.step (s1.then hy) fun _ h => h.elim) hok.slots (lb := #[]) (enters_of Try.func33 (by kernel_rfl) rfl) (fun k => decide (k < 1) || decide (65536 < k)) fun y2 _ x _ => fun2_any x y2)
  have CL := Lib.hid (show ∀ y, Step (fun _ => False) w1 y → _ from fun y (hy : Step (fun _ => False) w1 y) => list_any (nm := f.name) (pp := pp) (np := f.params.length) (cp := cp) (pk := pk) (nk := f.kinds.length) (ck := ck) (ps := ps) (ns := f.slots.length) (cs := cs) (pc := pc) (nc := f.code.length) (cc := cc) (w := y) (hpar.step (s1.then hy) fun _ h => h.elim) (-1) true hok.params)
  have CI := Lib.hid (show ∀ y, Step (fun _ => False) w1 y → _ from fun y (hy : Step (fun _ => False) w1 y) => containsFunc_ins (w := y) (g := 35) (lb := #[.pointer (some ⟨w.heap.size, 0, none⟩)]) hcode0 (fun b hb => ((s1.then hy).block b (Nat.lt_of_lt_of_le hb hz) fun x => x).trans (hw b hb)) hok.code (enters_of Try.func35 (by kernel_rfl) rfl) (fun i => !goodI f i)
    (fun y2 hy2 x hx vi hvi => fun3_any ((hy.then hy2).keeps k1) hvi (fun b hb => (((s1.then hy).then hy2).block b (Nat.lt_of_lt_of_le hb hz) fun x => x).trans (hw b hb)) (Nat.le_trans hz ((s1.then hy).then hy2).size) (hok.ins x hx).1 hok.kinds hok.slots hok.code (hok.ins x hx).2.1 (hok.ins x hx).2.2))
  have HCL := Lib.hid (show ∀ y, Step (fun _ => False) w1 y → ∀ k (hk : k < f.code.length), ∃ a, pc = some a ∧ y.cell? (a.add (k * 10)) = some (.int .i64 f.code[k].op) from fun y hy k hk => by
    obtain ⟨a, vi, ha, ⟨va, vo, hvi, _, _⟩, hcells⟩ := hcl k hk
    refine ⟨a, ha, ?_⟩
    have h1 := hcells 0 (.int .i64 f.code[k].op) (by rw [hvi]; rfl)
    have h2 := (cell_of (hw _ (block_lt h1))).trans h1
    have h3 := ((s1.then hy).cell (block_lt h2) fun x => x).trans h2
    simpa [Addr.add] using h3)
  unfold fnV at CL
  have HZ := Lib.hid hzz
  obtain ⟨f0, f1, f2, f3, f4, _⟩ := K1.out w1 (Step.refl _ _)
  clear k1 s1 hcl hcode0 hpar hkin hslo hzz hok
  cases hb1 : f.name.toList.isEmpty with
  | true =>
    have HB1 := Lib.hid hb1
    go_wp2_with fail
    go_ret
    exact ⟨by rw [HZ.out, HB1.out]; rfl, S1.out⟩
  | false =>
    cases hb2 : (f.code.length == 0) with
    | true =>
      have HB1 := Lib.hid hb1
      have HB2 := Lib.hid hb2
      have hb2' : ((f.code.length : Int) == 0) = true := by rw [beq_iff_eq] at hb2 ⊢; omega
      clear hb2
      go_wp2_with fail
      go_ret
      exact ⟨by rw [HZ.out, HB1.out, HB2.out]; rfl, S1.out⟩
    | false =>
      have HB1 := Lib.hid hb1
      have HB2 := Lib.hid hb2
      have hb2' : ((f.code.length : Int) == 0) = false := by rw [beq_eq_false_iff_ne] at hb2 ⊢; omega
      clear hb2
      go_wp2_with fail
      refine (CK.out _ (Step.refl _ _)).mono ?_
      rintro e w2 ⟨rfl, s2⟩
      have S2 := Lib.hid s2
      clear s2 f0 f1 f2 f3 f4
      obtain ⟨f0, f1, f2, f3, f4, _⟩ := K1.out w2 S2.out
      cases hb3 : f.kinds.any (fun k => k != 1) with
      | true =>
        have HB3 := Lib.hid (show kindsB f = true from hb3)
        clear hb3
        go_wp2_with fail
        go_ret
        exact ⟨by rw [HZ.out, HB1.out, HB2.out, HB3.out]; rfl, S1.out.then S2.out⟩
      | false =>
        have HB3 := Lib.hid (show kindsB f = false from hb3)
        clear hb3
        go_wp2_with fail
        refine (CL.out _ S2.out).mono ?_
        rintro e w3 ⟨rfl, s3⟩
        have S3 := Lib.hid (S2.out.then s3)
        clear s3 f0 f1 f2 f3 f4
        obtain ⟨f0, f1, f2, f3, f4, _⟩ := K1.out w3 S3.out
        cases hb4 : listB f.kinds.length f.params (-1) true with
        | false =>
          have HB4 := Lib.hid hb4
          clear hb4
          go_wp2_with fail
          go_ret
          exact ⟨by rw [HZ.out, HB1.out, HB2.out, HB3.out, HB4.out]; rfl, S1.out.then S3.out⟩
        | true =>
          have HB4 := Lib.hid hb4
          clear hb4
          go_wp2_with fail
          refine (CS.out _ S3.out).mono ?_
          rintro e w4 ⟨rfl, s4⟩
          have S4 := Lib.hid (S3.out.then s4)
          clear s4 f0 f1 f2 f3 f4
          obtain ⟨f0, f1, f2, f3, f4, _⟩ := K1.out w4 S4.out
          cases hb5 : f.slots.any (fun k => decide (k < 1) || decide (65536 < k)) with
          | true =>
            have HB5 := Lib.hid (show slotsB f = true from hb5)
            clear hb5
            go_wp2_with fail
            go_ret
            exact ⟨by rw [HZ.out, HB1.out, HB2.out, HB3.out, HB4.out, HB5.out]; rfl, S1.out.then S4.out⟩
          | false =>
            have HB5 := Lib.hid (show slotsB f = false from hb5)
            clear hb5
            go_wp2_with fail
            refine (CI.out _ S4.out).mono ?_
            rintro e w5 ⟨rfl, s5⟩
            have S5 := Lib.hid (S4.out.then s5)
            clear s5 f0 f1 f2 f3 f4
            obtain ⟨f0, f1, f2, f3, f4, _⟩ := K1.out w5 S5.out
            cases hb6 : f.code.any (fun i => !goodI f i) with
            | true =>
              have HB6 := Lib.hid hb6
              clear hb6
              go_wp2_with fail
              go_ret
              exact ⟨by rw [HZ.out, HB1.out, HB2.out, HB3.out, HB4.out, HB5.out, HB6.out]; rfl, S1.out.then S5.out⟩
            | false =>
              have HB6 := Lib.hid hb6
              clear hb6
              have hpos : 0 < f.code.length := by have := HB2.out; rw [beq_eq_false_iff_ne] at this; omega
              obtain ⟨m, hm⟩ : ∃ m, f.code.length = m + 1 := ⟨f.code.length - 1, by omega⟩
              obtain ⟨a, rfl, hca⟩ := HCL.out w5 S5.out m (by omega)
              have hlast : lastOpB f = (f.code[m].op == 43 || f.code[m].op == 18 || f.code[m].op == 22) := by
                unfold lastOpB
                rw [List.getLast?_eq_getElem?, show f.code.length - 1 = m by omega, List.getElem?_eq_getElem (by omega)]
              have HLAST := Lib.hid hlast
              generalize f.code[m].op = o at *
              have h1 : (f.code.length : Int) - 1 = (m : Int) := by omega
              have h2 : (m : Int) < (f.code.length : Int) := by omega
              have h5 : m < 1000000 := by have := HOK.out.code; omega
              have h3 : wrap64 (m : Int) = m := Go.IntWalk.wrap64_in _ ⟨by omega, by omega⟩
              clear h5
              have h4 : (0 : Int) ≤ (m : Int) := Int.natCast_nonneg m
              clear hlast hm hpos
              have hz1 : zz = lastOpB f := by rw [HZ.out, HB1.out, HB2.out, HB3.out, HB4.out, HB5.out, HB6.out]; rfl
              have HZ1 := Lib.hid (hz1.trans HLAST.out)
              clear hz1
              cases o1 : (o == 43) with
              | true =>
                have O1 := Lib.hid o1
                go_wp2_with fail
                go_ret
                exact ⟨by rw [HZ1.out, O1.out]; rfl, S1.out.then S5.out⟩
              | false =>
                cases o2 : (o == 18) with
                | true =>
                  have O1 := Lib.hid o1
                  have O2 := Lib.hid o2
                  go_wp2_with fail
                  go_ret
                  exact ⟨by rw [HZ1.out, O1.out, O2.out]; rfl, S1.out.then S5.out⟩
                | false =>
                  have O1 := Lib.hid o1
                  have O2 := Lib.hid o2
                  go_wp2_with fail
                  go_ret
                  exact ⟨by rw [HZ1.out, O1.out, O2.out]; rfl, S1.out.then S5.out⟩
end
end Go.Proofs.Ytpmbakhnamlooaa
