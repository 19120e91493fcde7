/- Package fat: is a unit well formed? In plain Lean, and what the code's loops tell. -/
import Derived.Test.YtpmbakhnamlooaaGooE
import Derived.Test.YtpmbakhnamlooaaFatX
namespace Go.Proofs.Ytpmbakhnamlooaa
set_option linter.unusedVariables false
set_option linter.unusedSimpArgs false
open Go.RowKit

abbrev Tp := ByteArray × Int
def hasTop (l : List Tp) (s : List UInt8) : Bool := l.any fun t => t.1.data.toList == s
def okTop (pre : List Tp) (t : Tp) : Bool := !(t.1.data.toList == []) && !hasTop pre t.1.data.toList && !decide (t.2 < 0) && !decide (4194304 < t.2)
def topsB (pre : List Tp) : List Tp → Bool
  | [] => true
  | t :: l => okTop pre t && topsB (pre ++ [t]) l
def okFn (pre : List FFn) (f : FFn) : Bool := !(fnOf pre f.name.data.toList).isSome && funB f
def fnsB (pre : List FFn) : List FFn → Bool
  | [] => true
  | f :: l => okFn pre f && fnsB (pre ++ [f]) l
/-- of an instruction, the names -/
def insB (ts : List Tp) (fs : List FFn) (i : FIns) : Bool :=
  !(i.op == 30 && !hasTop ts i.name.data.toList) && !(i.op == 42 && (match fnOf fs i.name.data.toList with
    | none => true
    | some g => (i.args.length : Int) != g.params.length || !ansB g i.outs.length))
def mainB (fs : List FFn) : Bool := match fnOf fs [109, 97, 105, 110] with
  | none => false
  | some g => g.params.length == 0
def goodU (ts : List Tp) (fs : List FFn) : Bool := topsB [] ts && fnsB [] fs && fs.all (fun f => f.code.all (insB ts fs)) && mainB fs

theorem topsB_cut (ts : List Tp) {k : Nat} (h : k < ts.length) : topsB (ts.take k) (ts.drop k) = (okTop (ts.take k) ts[k] && topsB (ts.take (k + 1)) (ts.drop (k + 1))) := by
  rw [List.drop_eq_getElem_cons h, List.take_succ_eq_append_getElem h]
  rfl
theorem fnsB_cut (fs : List FFn) {k : Nat} (h : k < fs.length) : fnsB (fs.take k) (fs.drop k) = (okFn (fs.take k) fs[k] && fnsB (fs.take (k + 1)) (fs.drop (k + 1))) := by
  rw [List.drop_eq_getElem_cons h, List.take_succ_eq_append_getElem h]
  rfl
/-- the map of the variables' names -/
def topSet (l : List Tp) (s : List UInt8) : Option Value := if hasTop l s then some (.bool true) else none
theorem topSet_get (l : List Tp) (s : List UInt8) : (topSet l s).getD (.bool false) = .bool (hasTop l s) := by
  unfold topSet
  cases hasTop l s <;> rfl
theorem topSet_snoc (l : List Tp) (t : Tp) (s : List UInt8) : (if s = t.1.data.toList then some (Value.bool true) else topSet l s) = topSet (l ++ [t]) s := by
  unfold topSet hasTop
  rw [List.any_append]
  by_cases e : s = t.1.data.toList
  · subst e; simp
  · rw [if_neg e]
    have : (t.1.data.toList == s) = false := beq_false_of_ne fun h => e h.symm
    rw [List.any_cons, List.any_nil, this, Bool.or_false, Bool.or_false]
theorem zero_bool (w : World) : (zeroValue 4).run Try.prog w = .ok (.bool false) w := by kernel_rfl

/-- what Good's walk knows: the unit's box, its two maps -/
structure GoodAt (w0 w wr : World) (B : Nat) (vt vf : Value) (bt bf : Nat) (ts : List Tp) (fv : List UInt8 → Option Value) (c : Nat) : Prop where
  box : wr.heap[B]? = some (.cells #[vt, vf] 25 (0, 0))
  apart : w.heap.size ≤ B ∧ w.heap.size ≤ bt ∧ w.heap.size ≤ bf ∧ B ≠ bt ∧ B ≠ bf ∧ bt ≠ bf
  tops : SMap Try.prog 9 wr bt c (topSet ts)
  fns : SMap Try.prog 9 wr bf c fv
  step : Step (fun _ => False) w wr
theorem GoodAt.still {w0 w wr w' : World} {B : Nat} {vt vf : Value} {bt bf : Nat} {ts : List Tp} {fv : List UInt8 → Option Value} {c : Nat} (h : GoodAt w0 w wr B vt vf bt bf ts fv c) (s : Step (fun _ => False) wr w') : GoodAt w0 w w' B vt vf bt bf ts fv c :=
  ⟨s.keeps h.box, h.apart, h.tops.same (s.block _ h.tops.lt fun x => x), h.fns.same (s.block _ h.fns.lt fun x => x), h.step.then s⟩
theorem SMap.congr {P : Program} {k : TypeId} {w : World} {b n : Nat} {g g' : List UInt8 → Option Value} (h : SMap P k w b n g) (e : ∀ s, g s = g' s) : SMap P k w b n g' := by
  have : g = g' := funext e
  rw [← this]; exact h

theorem FnvOk.snoc {w0 : World} {l : List FFn} {fv : List UInt8 → Option Value} {f : FFn} {v : Value} (h : FnvOk w0 l fv) (hf : FnAt w0 v f) : FnvOk w0 (l ++ [f]) (fun x => if x = f.name.data.toList then some v else fv x) := by
  intro s
  unfold fnOf
  rw [List.reverse_append, List.reverse_singleton, List.singleton_append, List.find?_cons]
  by_cases e : f.name.data.toList = s
  · have eb : (f.name.data.toList == s) = true := beq_iff_eq.2 e
    rw [eb]
    simp only
    refine ⟨fun f' h => ?_, fun h => by cases h⟩
    cases h
    exact ⟨_, by rw [if_pos e.symm], hf⟩
  · have eb : (f.name.data.toList == s) = false := beq_false_of_ne e
    rw [eb]
    simp only
    rw [if_neg (fun h => e h.symm)]
    exact h s
def zeroFn : FFn := ⟨⟨#[]⟩, [], [], [], []⟩
def getFn (fs : List FFn) (s : List UInt8) : FFn := (fnOf fs s).getD zeroFn
theorem ints_nil (k : IntKind) (w : World) : IntsAt k w (.slice none 0 0) [] := ⟨⟨none, 0, rfl, by simp, by simp, fun i hi => absurd hi (Nat.not_lt_zero _)⟩, fun z hz => by cases hz⟩
theorem fnAt_zero (w0 : World) : FnAt w0 (.agg #[.string ⟨#[]⟩, .slice none 0 0, .slice none 0 0, .slice none 0 0, .slice none 0 0]) zeroFn :=
  ⟨_, _, _, _, rfl, ints_nil _ _, ints_nil _ _, ints_nil _ _, ⟨none, 0, rfl, by simp [zeroFn], by simp, fun k hk => absurd hk (Nat.not_lt_zero _)⟩⟩
theorem fnv_get {w0 : World} {fs : List FFn} {fv : List UInt8 → Option Value} (h : FnvOk w0 fs fv) (s : List UInt8) : ∃ v, (fv s).getD (.agg #[.string ⟨#[]⟩, .slice none 0 0, .slice none 0 0, .slice none 0 0, .slice none 0 0]) = v ∧ FnAt w0 v (getFn fs s) ∧ (fv s).isSome = (fnOf fs s).isSome := by
  cases hf : fnOf fs s with
  | none =>
    rw [(h s).2 hf]
    exact ⟨_, rfl, by rw [getFn, hf]; exact fnAt_zero w0, rfl⟩
  | some g =>
    obtain ⟨v, hv, ha⟩ := (h s).1 g hf
    rw [hv]
    exact ⟨_, rfl, by rw [getFn, hf]; exact ha, rfl⟩
theorem fnOf_mem {fs : List FFn} {s : List UInt8} {g : FFn} (h : fnOf fs s = some g) : g ∈ fs := List.mem_reverse.1 (List.mem_of_find?_eq_some h)
theorem getFn_ok {fs : List FFn} (h : ∀ f ∈ fs, FnOk f) (s : List UInt8) : FnOk (getFn fs s) := by
  unfold getFn
  cases hf : fnOf fs s with
  | none => exact ⟨by simp [zeroFn], by simp [zeroFn], by simp [zeroFn], by simp [zeroFn], fun i hi => by simp [zeroFn] at hi, by simp [zeroFn, ByteArray.size, maxLen]⟩
  | some g => exact h g (fnOf_mem hf)
theorem insB_eq (ts : List Tp) (fs : List FFn) (i : FIns) : insB ts fs i = (!(i.op == 30 && !hasTop ts i.name.data.toList) && !(i.op == 42 && (!(fnOf fs i.name.data.toList).isSome || (i.args.length : Int) != (getFn fs i.name.data.toList).params.length || !ansB (getFn fs i.name.data.toList) i.outs.length))) := by
  unfold insB getFn
  cases fnOf fs i.name.data.toList <;> simp
theorem mainB_eq (fs : List FFn) : mainB fs = ((fnOf fs [109, 97, 105, 110]).isSome && ((getFn fs [109, 97, 105, 110]).params.length == 0)) := by
  unfold mainB getFn
  cases fnOf fs [109, 97, 105, 110] <;> simp

theorem all_false_of {ts : List Tp} {fs : List FFn} {f : FFn} {x : FIns} (hf : f ∈ fs) (hx : x ∈ f.code) (h : insB ts fs x = false) : fs.all (fun f => f.code.all (insB ts fs)) = false := by
  rw [List.all_eq_false]
  refine ⟨f, hf, ?_⟩
  have : f.code.all (insB ts fs) = false := by
    rw [List.all_eq_false]
    exact ⟨x, hx, by rw [h]; simp⟩
  rw [this]; simp

section
variable {w0 w w' : World}
--@PLANS
set_option maxHeartbeats 4000000 in
set_option maxRecDepth 100000 in
theorem good_any {vt vf : Value} {ts : List Tp} {fs : List FFn} (ht : TopsAt w0 vt ts) (hf : FnsAt w0 vf fs) (htl : ts.length ≤ 100000) (hfl : fs.length ≤ 1000) (hok : ∀ f ∈ fs, FnOk f ∧ ∀ i ∈ f.code, i.name.size ≤ maxLen)
    (hw : ∀ b, b < w0.heap.size → w.heap[b]? = w0.heap[b]?) (hz : w0.heap.size ≤ w.heap.size) :
    Calls Try.prog 12 #[.agg #[vt, vf]] w fun e w' => e = .returned (.bool (goodU ts fs)) ∧ Step (fun _ => False) w w' := by
  obtain ⟨pt, ct, rfl, ht1, ht2, htc⟩ := ht
  obtain ⟨pf, cf, rfl, hf1, hf2, hfc⟩ := hf
  have hmm := @run_makeMap Try.prog
  obtain ⟨zz, hzz⟩ : ∃ zz, zz = goodU ts fs := ⟨_, rfl⟩
  rw [← hzz]
  have HZ := Lib.hid hzz
  have HOK := Lib.hid hok
  have HW := Lib.hid hw
  have HTC := Lib.hid htc
  have HFC := Lib.hid hfc
  clear hzz hok hw htc hfc
  have k1 := heap_alloc_new w (.cells #[.slice pt ts.length ct, .slice pf fs.length cf] 25 (0, 0))
  have s1 := Step.alloc (fun _ => False) w (.cells #[.slice pt ts.length ct, .slice pf fs.length cf] 25 (0, 0))
  generalize hw1 : w.alloc (.cells #[.slice pt ts.length ct, .slice pf fs.length cf] 25 (0, 0)) = w1 at *
  have hz1 : w1.heap.size = w.heap.size + 1 := by rw [← hw1]; simp
  have im1 := smap_made w1 Try.prog 9
  have s2 := s1.then (Step.alloc (fun _ => False) w1 (.map #[] 0))
  have k2 := (Step.alloc (fun _ => False) w1 (.map #[] 0)).keeps k1
  generalize hw2 : w1.alloc (.map #[] 0) = w2 at *
  have hz2 : w2.heap.size = w.heap.size + 2 := by rw [← hw2]; simp [hz1]
  have im2 := smap_made w2 Try.prog 9
  have sa := Step.alloc (fun _ => False) w2 (.map #[] 0)
  have k3 := sa.keeps k2
  have im1' := SMap.same im1 (sa.block _ im1.lt fun x => x)
  have s3 := s2.then sa
  rw [hz1] at im1'
  rw [hz2] at im2
  have G0 := Lib.hid (show GoodAt w0 w (w2.alloc (.map #[] 0)) w.heap.size (.slice pt ts.length ct) (.slice pf fs.length cf) (w.heap.size + 1) (w.heap.size + 2) [] (fun _ => none) 0 from
    ⟨k3, by omega, im1'.congr fun _ => rfl, im2, s3⟩)
  clear k1 s1 im1 s2 k2 im2 sa k3 im1' s3
  go_enter Try.func12, Try.ntmps12
  go_upto_region 2 with fail
  generalize w2.alloc (.map #[] 0) = w3 at *
  clear hw1 hw2 hz1 hz2
  generalize hB : w.heap.size = B at *
  have hbx : World.cell? w3 ⟨B, 0, none⟩ = some (.slice pt ts.length ct) := cell_known G0.out.box rfl
  go_wp2_with fail
  go_loopw [6, 24] (fun _ i wr => ∃ k : Nat, k ≤ ts.length ∧ i = .int .i64 k ∧ topsB [] ts = topsB (ts.take k) (ts.drop k) ∧ GoodAt w0 w wr B (.slice pt ts.length ct) (.slice pf fs.length cf) (B + 1) (B + 2) (ts.take k) (fun _ => none) k) (fun _ i _ => ts.length - (intOf i).toNat)
  case atStart => exact ⟨0, by omega, rfl, rfl, G0.out⟩
  case round =>
    obtain ⟨k, hk, rfl, htb, hgo⟩ := hrel
    have HTB := Lib.hid htb
    have HG := Lib.hid hgo
    clear htb hgo hbx
    by_cases hlt : k < ts.length
    · have hd : decide (k < ts.length) = true := decide_eq_true hlt
      obtain ⟨a, rfl, hc0, hc1, hns, hwf⟩ := HTC.out k hlt
      have hc0 := ((HG.out.step.cell (by rw [hB]; exact Nat.lt_of_lt_of_le (block_lt hc0) hz) fun x => x)).trans ((cell_of (HW.out _ (block_lt hc0))).trans hc0)
      have hc1 := ((HG.out.step.cell (by rw [hB]; exact Nat.lt_of_lt_of_le (block_lt hc1) hz) fun x => x)).trans ((cell_of (HW.out _ (block_lt hc1))).trans hc1)
      have hc1 : wr.cell? ⟨(a.add (k * 2)).block, (a.add (k * 2)).off + 1, none⟩ = some (.int .i64 ts[k].2) := hc1
      have HCUT := Lib.hid (HTB.out.trans (topsB_cut ts hlt))
      have HTK := Lib.hid (List.take_succ_eq_append_getElem hlt)
      have HOKT := Lib.hid (show okTop (ts.take k) ts[k] = (!(ts[k].1.toList.isEmpty) && !hasTop (ts.take k) ts[k].1.data.toList && !decide (ts[k].2 < 0) && !decide (4194304 < ts[k].2)) from by rw [empty_eq]; rfl)
      have hsn := topSet_snoc (ts.take k) ts[k]
      have HSN := Lib.hid hsn
      clear hsn
      generalize ts[k] = t at *
      obtain ⟨nm, sz⟩ := t
      simp only at hc0 hc1 hns HOKT HSN hwf
      go_upto_region 5 with fail
      have kb := heap_alloc_new wr (.cells #[.string nm, .int .i64 sz] 59 (0, 0))
      have HG4 := Lib.hid (HG.out.still (Step.alloc _ wr (.cells #[.string nm, .int .i64 sz] 59 (0, 0))))
      clear hc0 hc1
      generalize wr.alloc (.cells #[.string nm, .int .i64 sz] 59 (0, 0)) = w4 at *
      have hz4 := kb
      obtain ⟨c0, c1, _, _⟩ := cells_known2 kb
      have lk : (Instr.lookup 56 (.map (some (B + 1))) (.string nm) false).run Try.prog w4 = .ok (.bool (hasTop (ts.take k) nm.data.toList)) w4 := by
        have := HG4.out.tops.lookup (t := 56) (e := 4) Try.underlying9 Try.underlying56 (zero_bool w4) hns
        rw [topSet_get] at this
        exact this
      have hmax : k < maxLen := by simp only [maxLen]; omega
      obtain ⟨w5, run, im, gr, _⟩ := HG4.out.tops.update (t := 56) (e := 4) Try.underlying9 Try.underlying56 hmax (s := nm) hns (.bool true)
      have IM := Lib.hid im
      have GR := Lib.hid gr
      clear im gr kb hz4
      cases hb1 : nm.toList.isEmpty with
      | true =>
        have HB1 := Lib.hid hb1
        go_wp2_with fail
        go_ret
        exact ⟨by rw [HZ.out, goodU, HCUT.out, HOKT.out, HB1.out]; rfl, HG4.out.step⟩
      | false =>
        have HB1 := Lib.hid hb1
        cases hb2 : hasTop (ts.take k) nm.data.toList with
        | true =>
          have HB2 := Lib.hid hb2
          rw [hb2] at lk
          go_wp2_with fail
          go_ret
          exact ⟨by rw [HZ.out, goodU, HCUT.out, HOKT.out, HB1.out, HB2.out]; rfl, HG4.out.step⟩
        | false =>
          have HB2 := Lib.hid hb2
          rw [hb2] at lk
          cases hb3 : decide (sz < 0) with
          | true =>
            have HB3 := Lib.hid hb3
            go_wp2_with fail
            go_ret
            exact ⟨by rw [HZ.out, goodU, HCUT.out, HOKT.out, HB1.out, HB2.out, HB3.out]; rfl, HG4.out.step⟩
          | false =>
            have HB3 := Lib.hid hb3
            cases hb4 : decide (4194304 < sz) with
            | true =>
              have HB4 := Lib.hid hb4
              go_wp2_with fail
              go_ret
              exact ⟨by rw [HZ.out, goodU, HCUT.out, HOKT.out, HB1.out, HB2.out, HB3.out, HB4.out]; rfl, HG4.out.step⟩
            | false =>
              have HB4 := Lib.hid hb4
              go_wp2_with fail
              go_roundw
              case rel =>
                have s5 : Step (fun b => b = B + 1) w4 w5 := Step.of_grown GR.out
                refine ⟨k + 1, by omega, by go_num, ?_, ⟨(s5.block B (lt_obj HG4.out.box) (by omega)).trans HG4.out.box, HG4.out.apart, ?_, (HG4.out.fns.same (s5.block _ HG4.out.fns.lt (by omega))).le (by omega), HG4.out.step.trans s5 fun x hx => .inr (by omega)⟩⟩
                · rw [HCUT.out, HOKT.out, HB1.out, HB2.out, HB3.out, HB4.out]; rfl
                · rw [HTK.out]
                  exact IM.out.congr HSN.out
              case measure => simp [intOf]; omega
    · have hd : decide (k < ts.length) = false := decide_eq_false hlt
      have e : k = ts.length := by omega
      subst e
      have h1 := HTB.out
      have h2 := HG.out
      rw [List.take_length, List.drop_length] at h1
      rw [List.take_length] at h2
      have T1 := Lib.hid (show topsB [] ts = true from h1)
      have G1 := Lib.hid h2
      clear h1 h2 HTB HG hk hlt
      have hbx : World.cell? wr ⟨B, 1, none⟩ = some (.slice pf fs.length cf) := cell_known G1.out.box rfl
      go_wp2_with fail
      go_loopw [8, 9, 10, 54] (fun _ _ _ i wr => ∃ (k : Nat) (fv : List UInt8 → Option Value), k ≤ fs.length ∧ i = .int .i64 k ∧ fnsB [] fs = fnsB (fs.take k) (fs.drop k) ∧ FnvOk w0 (fs.take k) fv ∧ GoodAt w0 w wr B (.slice pt ts.length ct) (.slice pf fs.length cf) (B + 1) (B + 2) ts fv (ts.length + k)) (fun _ _ _ i _ => fs.length - (intOf i).toNat)
      case atStart => exact ⟨0, _, by omega, rfl, rfl, fun s => ⟨fun f h => by simp [fnOf] at h, fun _ => rfl⟩, G1.out⟩
      case round =>
        clear hbx
        clear G1
        obtain ⟨k, fv, hk, rfl, hfb, hfv, hgo⟩ := hrel
        have HFB := Lib.hid hfb
        have HFV := Lib.hid hfv
        have HG := Lib.hid hgo
        clear hfb hfv hgo
        by_cases hlt : k < fs.length
        · have hd : decide (k < fs.length) = true := decide_eq_true hlt
          obtain ⟨a, fval, rfl, hfn, hcells⟩ := HFC.out k hlt
          have HFN := Lib.hid hfn
          obtain ⟨vp, vk, vs, vc, efv, ⟨⟨pp, pc, rfl, _, _, _⟩, _⟩, ⟨⟨pk, kc, rfl, _, _, _⟩, _⟩, ⟨⟨ps, sc, rfl, _, _, _⟩, _⟩, ⟨pcd, cc, rfl, _, _, _⟩⟩ := hfn
          subst efv
          have HCUT := Lib.hid (HFB.out.trans (fnsB_cut fs hlt))
          have HTK := Lib.hid (List.take_succ_eq_append_getElem hlt)
          have HOKF := Lib.hid (HOK.out _ (List.getElem_mem hlt))
          generalize fs[k] = f at *
          have ce : ∀ j u, (#[.string f.name, .slice pp f.params.length pc, .slice pk f.kinds.length kc, .slice ps f.slots.length sc, .slice pcd f.code.length cc] : Array Value)[j]? = some u → wr.cell? ((a.add (k * 5)).add j) = some u := fun j u h => by
            have h1 := hcells j u h
            exact (HG.out.step.cell (by rw [hB]; exact Nat.lt_of_lt_of_le (block_lt h1) hz) fun x => x).trans ((cell_of (HW.out _ (block_lt h1))).trans h1)
          have e0 : wr.cell? (a.add (k * 5)) = some (.string f.name) := by have := ce 0 _ rfl; simpa [Addr.add] using this
          have e1 : wr.cell? ⟨(a.add (k * 5)).block, (a.add (k * 5)).off + 1, none⟩ = some (.slice pp f.params.length pc) := ce 1 _ rfl
          have e2 : wr.cell? ⟨(a.add (k * 5)).block, (a.add (k * 5)).off + 2, none⟩ = some (.slice pk f.kinds.length kc) := ce 2 _ rfl
          have e3 : wr.cell? ⟨(a.add (k * 5)).block, (a.add (k * 5)).off + 3, none⟩ = some (.slice ps f.slots.length sc) := ce 3 _ rfl
          have e4 : wr.cell? ⟨(a.add (k * 5)).block, (a.add (k * 5)).off + 4, none⟩ = some (.slice pcd f.code.length cc) := ce 4 _ rfl
          clear ce hcells
          go_upto_region 12 with fail
          have kb := heap_alloc_new wr (.cells #[.string f.name, .slice pp f.params.length pc, .slice pk f.kinds.length kc, .slice ps f.slots.length sc, .slice pcd f.code.length cc] 54 (0, 0))
          have HG4 := Lib.hid (HG.out.still (Step.alloc _ wr (.cells #[.string f.name, .slice pp f.params.length pc, .slice pk f.kinds.length kc, .slice ps f.slots.length sc, .slice pcd f.code.length cc] 54 (0, 0))))
          have hzw : (wr.alloc (.cells #[.string f.name, .slice pp f.params.length pc, .slice pk f.kinds.length kc, .slice ps f.slots.length sc, .slice pcd f.code.length cc] 54 (0, 0))).heap.size = wr.heap.size + 1 := by simp
          clear e0 e1 e2 e3 e4
          generalize wr.alloc (.cells #[.string f.name, .slice pp f.params.length pc, .slice pk f.kinds.length kc, .slice ps f.slots.length sc, .slice pcd f.code.length cc] 54 (0, 0)) = w4 at *
          have lk := HG4.out.fns.lookup_ok (t := 57) (e := 54) Try.underlying9 Try.underlying57 (zero_fn w4) HOKF.out.1.name
          have hfvs := HFV.out f.name.data.toList
          have KB := Lib.hid kb
          obtain ⟨c0, c1, c2, c3, c4, _⟩ := cells_known5 kb
          cases hfo : fnOf (fs.take k) f.name.data.toList with
          | some g =>
            obtain ⟨gv, hgv, hga⟩ := hfvs.1 g hfo
            obtain ⟨wp, wk, ws, wc', egv, ⟨⟨qp, rp, rfl, _, _, _⟩, _⟩, ⟨⟨qk, rk, rfl, _, _, _⟩, _⟩, ⟨⟨qs, rs, rfl, _, _, _⟩, _⟩, ⟨qcd, rc, rfl, _, _, _⟩⟩ := hga
            subst egv
            rw [hgv] at lk
            simp only [Option.getD_some, Option.isSome_some] at lk
            have HFO := Lib.hid hfo
            clear hfvs hgv hfo kb
            have SX := Lib.hid (HG4.out.step.then (Step.alloc _ w4 (.cells #[.string g.name, .slice qp g.params.length rp, .slice qk g.kinds.length rk, .slice qs g.slots.length rs, .slice qcd g.code.length rc] 54 (0, 0))))
            go_wp2_with fail
            go_ret
            exact ⟨by rw [HZ.out, goodU, T1.out, HCUT.out, okFn, HFO.out]; rfl, SX.out⟩
          | none =>
            rw [hfvs.2 hfo] at lk
            simp only [Option.getD_none, Option.isSome_none] at lk
            have HFO := Lib.hid hfo
            clear hfvs hfo kb
            have HG5 := Lib.hid (HG4.out.still (Step.alloc _ w4 (.cells #[.string ⟨#[]⟩, .slice none 0 0, .slice none 0 0, .slice none 0 0, .slice none 0 0] 54 (0, 0))))
            have KB5 := Lib.hid ((Step.alloc (fun _ => False) w4 (.cells #[.string ⟨#[]⟩, .slice none 0 0, .slice none 0 0, .slice none 0 0, .slice none 0 0] 54 (0, 0))).keeps KB.out)
            go_upto_region 13 with fail
            clear c0 c1 c2 c3 c4
            generalize w4.alloc (.cells #[.string ⟨#[]⟩, .slice none 0 0, .slice none 0 0, .slice none 0 0, .slice none 0 0] 54 (0, 0)) = w5 at *
            obtain ⟨c0, c1, c2, c3, c4, _⟩ := cells_known5 KB5.out
            go_wp2_with fail
            refine (function_any (w0 := w0) HFN.out HOKF.out.1 (fun b hb => (HG5.out.step.block b (by rw [hB]; exact Nat.lt_of_lt_of_le hb hz) fun x => x).trans (HW.out b hb)) (Nat.le_trans (by rw [← hB] at hz; exact hz) HG5.out.step.size)).mono ?_
            rintro e w6 ⟨rfl, s6⟩
            have HG6 := Lib.hid (HG5.out.still s6)
            clear c0 c1 c2 c3 c4
            obtain ⟨c0, c1, c2, c3, c4, _⟩ := cells_known5 (s6.keeps KB5.out)
            clear s6
            cases hfb : funB f with
            | false =>
              have HB := Lib.hid hfb
              go_wp2_with fail
              go_ret
              exact ⟨by rw [HZ.out, goodU, T1.out, HCUT.out, okFn, HFO.out, HB.out]; rfl, HG6.out.step⟩
            | true =>
              have HB := Lib.hid hfb
              have hmax : ts.length + k < maxLen := by simp only [maxLen]; omega
              have hbx : w6.cell? ⟨B, 1, none⟩ = some (.slice (some a) fs.length cf) := cell_known HG6.out.box rfl
              obtain ⟨w7, run, im, gr, _⟩ := HG6.out.fns.update (t := 57) (e := 54) Try.underlying9 Try.underlying57 hmax (s := f.name) HOKF.out.1.name (.agg #[.string f.name, .slice pp f.params.length pc, .slice pk f.kinds.length kc, .slice ps f.slots.length sc, .slice pcd f.code.length cc])
              have IM := Lib.hid im
              have GR := Lib.hid gr
              clear im gr hfb
              go_wp2_with fail
              go_roundw
              case rel =>
                have s7 : Step (fun b => b = B + 2) w6 w7 := Step.of_grown GR.out
                refine ⟨k + 1, _, by omega, by go_num, ?_, ?_, ⟨(s7.block B (lt_obj HG6.out.box) (by omega)).trans HG6.out.box, HG6.out.apart, (HG6.out.tops.same (s7.block _ HG6.out.tops.lt (by omega))).le (by omega), IM.out, HG6.out.step.trans s7 fun x hx => .inr (by have := HG6.out.apart; omega)⟩⟩
                · rw [HCUT.out, okFn, HFO.out, HB.out]; rfl
                · rw [HTK.out]
                  exact HFV.out.snoc HFN.out
              case measure => simp [intOf]; omega
        · have hd : decide (k < fs.length) = false := decide_eq_false hlt
          have e : k = fs.length := by omega
          subst e
          have h1 := HFB.out
          have h2 := HG.out
          have h3 := HFV.out
          rw [List.take_length, List.drop_length] at h1
          rw [List.take_length] at h3
          have T2 := Lib.hid (show fnsB [] fs = true from h1)
          have G2 := Lib.hid h2
          have FV := Lib.hid h3
          clear h1 h2 h3 HFB HG HFV hk hlt
          have hbx : World.cell? wr ⟨B, 1, none⟩ = some (.slice pf fs.length cf) := cell_known G2.out.box rfl
          go_wp2_with fail
          go_loopw [12, 14, 15, 16, 79] (fun _ _ _ _ i wr => ∃ (k : Nat), k ≤ fs.length ∧ i = .int .i64 k ∧ (fs.take k).all (fun f => f.code.all (insB ts fs)) = true ∧ GoodAt w0 w wr B (.slice pt ts.length ct) (.slice pf fs.length cf) (B + 1) (B + 2) ts fv (ts.length + fs.length)) (fun _ _ _ _ i _ => fs.length - (intOf i).toNat)
          case atStart => exact ⟨0, by omega, rfl, by simp, G2.out⟩
          case round =>
            clear hbx G2
            obtain ⟨k, hk, rfl, hib, hgo⟩ := hrel
            have HIB := Lib.hid hib
            have HG := Lib.hid hgo
            clear hib hgo
            by_cases hlt : k < fs.length
            · have hd : decide (k < fs.length) = true := decide_eq_true hlt
              obtain ⟨a, fval, rfl, hfn, hcells⟩ := HFC.out k hlt
              obtain ⟨vp, vk, vs, vc, efv, ⟨⟨pp, pc, rfl, _, _, _⟩, _⟩, ⟨⟨pk, kc, rfl, _, _, _⟩, _⟩, ⟨⟨ps, sc, rfl, _, _, _⟩, _⟩, ⟨pcd, cc, rfl, hcc, hcm, hcl⟩⟩ := hfn
              subst efv
              have HTK := Lib.hid (List.take_succ_eq_append_getElem hlt)
              have HOKF := Lib.hid (HOK.out _ (List.getElem_mem hlt))
              have HMEM := Lib.hid (List.getElem_mem hlt)
              have HCL := Lib.hid hcl
              clear hcl
              generalize fs[k] = f at *
              have ce : ∀ j u, (#[.string f.name, .slice pp f.params.length pc, .slice pk f.kinds.length kc, .slice ps f.slots.length sc, .slice pcd f.code.length cc] : Array Value)[j]? = some u → wr.cell? ((a.add (k * 5)).add j) = some u := fun j u h => by
                have h1 := hcells j u h
                exact (HG.out.step.cell (by rw [hB]; exact Nat.lt_of_lt_of_le (block_lt h1) hz) fun x => x).trans ((cell_of (HW.out _ (block_lt h1))).trans h1)
              have e0 : wr.cell? (a.add (k * 5)) = some (.string f.name) := by have := ce 0 _ rfl; simpa [Addr.add] using this
              have e1 : wr.cell? ⟨(a.add (k * 5)).block, (a.add (k * 5)).off + 1, none⟩ = some (.slice pp f.params.length pc) := ce 1 _ rfl
              have e2 : wr.cell? ⟨(a.add (k * 5)).block, (a.add (k * 5)).off + 2, none⟩ = some (.slice pk f.kinds.length kc) := ce 2 _ rfl
              have e3 : wr.cell? ⟨(a.add (k * 5)).block, (a.add (k * 5)).off + 3, none⟩ = some (.slice ps f.slots.length sc) := ce 3 _ rfl
              have e4 : wr.cell? ⟨(a.add (k * 5)).block, (a.add (k * 5)).off + 4, none⟩ = some (.slice pcd f.code.length cc) := ce 4 _ rfl
              clear ce hcells
              go_upto_region 20 with fail
              have kb := heap_alloc_new wr (.cells #[.string f.name, .slice pp f.params.length pc, .slice pk f.kinds.length kc, .slice ps f.slots.length sc, .slice pcd f.code.length cc] 54 (0, 0))
              have HG4 := Lib.hid (HG.out.still (Step.alloc _ wr (.cells #[.string f.name, .slice pp f.params.length pc, .slice pk f.kinds.length kc, .slice ps f.slots.length sc, .slice pcd f.code.length cc] 54 (0, 0))))
              clear e0 e1 e2 e3 e4
              generalize wr.alloc (.cells #[.string f.name, .slice pp f.params.length pc, .slice pk f.kinds.length kc, .slice ps f.slots.length sc, .slice pcd f.code.length cc] 54 (0, 0)) = w4 at *
              have c4 := cell_known kb (i := 4) rfl
              clear kb
              have hfcl := HOKF.out.1.code
              go_wp2_with fail
              go_loopw [14, 15, 16, 86] (fun _ _ _ i wr => ∃ (j : Nat), j ≤ f.code.length ∧ i = .int .i64 j ∧ (f.code.take j).all (insB ts fs) = true ∧ GoodAt w0 w wr B (.slice pt ts.length ct) (.slice (some a) fs.length cf) (B + 1) (B + 2) ts fv (ts.length + fs.length)) (fun _ _ _ i _ => f.code.length - (intOf i).toNat)
              case atStart => exact ⟨0, by omega, rfl, by simp, HG4.out⟩
              case round =>
                clear c4 HG4
                obtain ⟨j, hj, rfl, hjb, hgo⟩ := hrel
                have HJB := Lib.hid hjb
                have HG5 := Lib.hid hgo
                clear hjb hgo
                by_cases hjl : j < f.code.length
                · have hdj : decide (j < f.code.length) = true := decide_eq_true hjl
                  obtain ⟨b, vi, rfl, hins, hcells⟩ := HCL.out j hjl
                  have HTJ := Lib.hid (List.take_succ_eq_append_getElem hjl)
                  have HNM := Lib.hid (HOKF.out.2 _ (List.getElem_mem hjl))
                  have HIM := Lib.hid (List.getElem_mem hjl)
                  have hib := insB_eq ts fs f.code[j]
                  have HIN := Lib.hid hins
                  obtain ⟨va, vo, rfl, ⟨⟨pa, ca, rfl, _, _, _⟩, _⟩, ⟨⟨po, co, rfl, _, _, _⟩, _⟩⟩ := hins
                  generalize hx : f.code[j] = x at *
                  obtain ⟨op, dst, ra, rb, n, size, name, args, outs, tt⟩ := x
                  simp only at hcells hib HNM
                  have HIB2 := Lib.hid hib
                  have ce : ∀ i u, (#[.int .i64 op, .int .i64 dst, .int .i64 ra, .int .i64 rb, .int .u64 n, .int .i64 size, .string name, .slice pa args.length ca, .slice po outs.length co, .int .i64 tt] : Array Value)[i]? = some u → wr.cell? ((b.add (j * 10)).add i) = some u := fun i u h => by
                    have h1 := hcells i u h
                    exact (HG5.out.step.cell (by rw [hB]; exact Nat.lt_of_lt_of_le (block_lt h1) hz) fun x => x).trans ((cell_of (HW.out _ (block_lt h1))).trans h1)
                  have e0 : wr.cell? (b.add (j * 10)) = some (.int .i64 op) := by have := ce 0 _ rfl; simpa [Addr.add] using this
                  have e1 : wr.cell? ⟨(b.add (j * 10)).block, (b.add (j * 10)).off + 1, none⟩ = some (.int .i64 dst) := ce 1 _ rfl
                  have e2 : wr.cell? ⟨(b.add (j * 10)).block, (b.add (j * 10)).off + 2, none⟩ = some (.int .i64 ra) := ce 2 _ rfl
                  have e3 : wr.cell? ⟨(b.add (j * 10)).block, (b.add (j * 10)).off + 3, none⟩ = some (.int .i64 rb) := ce 3 _ rfl
                  have e4 : wr.cell? ⟨(b.add (j * 10)).block, (b.add (j * 10)).off + 4, none⟩ = some (.int .u64 n) := ce 4 _ rfl
                  have e5 : wr.cell? ⟨(b.add (j * 10)).block, (b.add (j * 10)).off + 5, none⟩ = some (.int .i64 size) := ce 5 _ rfl
                  have e6 : wr.cell? ⟨(b.add (j * 10)).block, (b.add (j * 10)).off + 6, none⟩ = some (.string name) := ce 6 _ rfl
                  have e7 : wr.cell? ⟨(b.add (j * 10)).block, (b.add (j * 10)).off + 7, none⟩ = some (.slice pa args.length ca) := ce 7 _ rfl
                  have e8 : wr.cell? ⟨(b.add (j * 10)).block, (b.add (j * 10)).off + 8, none⟩ = some (.slice po outs.length co) := ce 8 _ rfl
                  have e9 : wr.cell? ⟨(b.add (j * 10)).block, (b.add (j * 10)).off + 9, none⟩ = some (.int .i64 tt) := ce 9 _ rfl
                  clear ce hcells hib
                  go_upto_region 23 with fail
                  have kb := heap_alloc_new wr (.cells #[.int .i64 op, .int .i64 dst, .int .i64 ra, .int .i64 rb, .int .u64 n, .int .i64 size, .string name, .slice pa args.length ca, .slice po outs.length co, .int .i64 tt] 47 (0, 0))
                  have HG6 := Lib.hid (HG5.out.still (Step.alloc _ wr (.cells #[.int .i64 op, .int .i64 dst, .int .i64 ra, .int .i64 rb, .int .u64 n, .int .i64 size, .string name, .slice pa args.length ca, .slice po outs.length co, .int .i64 tt] 47 (0, 0))))
                  clear e0 e1 e2 e3 e4 e5 e6 e7 e8 e9
                  generalize wr.alloc (.cells #[.int .i64 op, .int .i64 dst, .int .i64 ra, .int .i64 rb, .int .u64 n, .int .i64 size, .string name, .slice pa args.length ca, .slice po outs.length co, .int .i64 tt] 47 (0, 0)) = w6 at *
                  have lk := HG6.out.fns.lookup_ok (t := 57) (e := 54) Try.underlying9 Try.underlying57 (zero_fn w6) HNM.out
                  obtain ⟨gv, hg1, hga, hgb⟩ := fnv_get FV.out name.data.toList
                  rw [hg1, hgb] at lk
                  clear hg1 hgb
                  have HGA := Lib.hid hga
                  have HGK := Lib.hid (getFn_ok (fun f h => (HOK.out f h).1) name.data.toList)
                  obtain ⟨wp, wk, ws, wc', egv, ⟨⟨qp, rp, rfl, _, _, _⟩, _⟩, ⟨⟨qk, rk, rfl, _, _, _⟩, _⟩, ⟨⟨qs, rs, rfl, _, _, _⟩, _⟩, ⟨qcd, rc, rfl, _, _, _⟩⟩ := hga
                  subst egv
                  generalize getFn fs name.data.toList = g at *
                  generalize (fnOf fs name.data.toList).isSome = gb at *
                  have KB6 := Lib.hid kb
                  have i6 := cell_known kb (i := 6) rfl
                  clear kb
                  go_upto_region 24 with fail
                  have kg := heap_alloc_new w6 (.cells #[.string g.name, .slice qp g.params.length rp, .slice qk g.kinds.length rk, .slice qs g.slots.length rs, .slice qcd g.code.length rc] 54 (0, 0))
                  have HG7 := Lib.hid (HG6.out.still (Step.alloc _ w6 (.cells #[.string g.name, .slice qp g.params.length rp, .slice qk g.kinds.length rk, .slice qs g.slots.length rs, .slice qcd g.code.length rc] 54 (0, 0))))
                  have KB7 := Lib.hid ((Step.alloc (fun _ => False) w6 (.cells #[.string g.name, .slice qp g.params.length rp, .slice qk g.kinds.length rk, .slice qs g.slots.length rs, .slice qcd g.code.length rc] 54 (0, 0))).keeps KB6.out)
                  clear i6 lk
                  generalize w6.alloc (.cells #[.string g.name, .slice qp g.params.length rp, .slice qk g.kinds.length rk, .slice qs g.slots.length rs, .slice qcd g.code.length rc] 54 (0, 0)) = w7 at *
                  have i0 := cell_known KB7.out (i := 0) rfl
                  have i6 := cell_known KB7.out (i := 6) rfl
                  have i7 := cell_known KB7.out (i := 7) rfl
                  have i8 := cell_known KB7.out (i := 8) rfl
                  obtain ⟨g0, g1, g2, g3, g4, _⟩ := cells_known5 kg
                  clear kg
                  have c4 := cell_known HG7.out.box (i := 1) rfl
                  cases h30 : (op == 30) with
                  | true =>
                    have e30 : op = 30 := beq_iff_eq.1 h30
                    subst e30
                    have lk : (Instr.lookup 56 (.map (some (B + 1))) (.string name) false).run Try.prog w7 = .ok (.bool (hasTop ts name.data.toList)) w7 := by
                      have := HG7.out.tops.lookup (t := 56) (e := 4) Try.underlying9 Try.underlying56 (zero_bool w7) HNM.out
                      rw [topSet_get] at this
                      exact this
                    clear h30
                    cases hht : hasTop ts name.data.toList with
                    | false =>
                      have HHT := Lib.hid hht
                      rw [hht] at lk
                      go_wp2_with fail
                      go_ret
                      exact ⟨by rw [HZ.out, goodU, T1.out, T2.out, all_false_of HMEM.out HIM.out (by rw [HIB2.out, HHT.out]; rfl)]; rfl, HG7.out.step⟩
                    | true =>
                      have HHT := Lib.hid hht
                      rw [hht] at lk
                      go_wp2_with fail
                      go_roundw
                      case rel =>
                        refine ⟨j + 1, by omega, by go_num, ?_, HG7.out⟩
                        rw [HTJ.out, List.all_append, HJB.out, List.all_cons, List.all_nil, HIB2.out, HHT.out]; rfl
                      case measure => simp [intOf]; omega
                  | false =>
                    cases h42 : (op == 42) with
                    | false =>
                      have H30 := Lib.hid h30
                      have H42 := Lib.hid h42
                      go_wp2_with fail
                      go_roundw
                      case rel =>
                        refine ⟨j + 1, by omega, by go_num, ?_, HG7.out⟩
                        rw [HTJ.out, List.all_append, HJB.out, List.all_cons, List.all_nil, HIB2.out, H30.out, H42.out]; rfl
                      case measure => simp [intOf]; omega
                    | true =>
                      have e42 : op = 42 := beq_iff_eq.1 h42
                      subst e42
                      clear h42 h30
                      cases hgb : gb with
                      | false =>
                        have HGB := Lib.hid hgb
                        go_wp2_with fail
                        go_ret
                        exact ⟨by rw [HZ.out, goodU, T1.out, T2.out, all_false_of HMEM.out HIM.out (by rw [HIB2.out, HGB.out]; rfl)]; rfl, HG7.out.step⟩
                      | true =>
                        have HGB := Lib.hid hgb
                        cases hln : ((args.length : Int) != g.params.length) with
                        | true =>
                          have HLN := Lib.hid hln
                          go_wp2_with fail
                          go_ret
                          exact ⟨by rw [HZ.out, goodU, T1.out, T2.out, all_false_of HMEM.out HIM.out (by rw [HIB2.out, HGB.out, HLN.out]; rfl)]; rfl, HG7.out.step⟩
                        | false =>
                          have HLN := Lib.hid hln
                          go_wp2_with fail
                          refine (answers_any (w0 := w0) HGA.out HGK.out outs.length (fun b hb => (HG7.out.step.block b (by rw [hB]; exact Nat.lt_of_lt_of_le hb hz) fun x => x).trans (HW.out b hb)) (Nat.le_trans (by rw [← hB] at hz; exact hz) HG7.out.step.size)).mono ?_
                          rintro e w8 ⟨rfl, s8⟩
                          have HG8 := Lib.hid (HG7.out.still s8)
                          clear s8 i0 i6 i7 i8 g0 g1 g2 g3 g4 c4
                          cases hab : ansB g outs.length with
                          | false =>
                            have HAB := Lib.hid hab
                            go_wp2_with fail
                            go_ret
                            exact ⟨by rw [HZ.out, goodU, T1.out, T2.out, all_false_of HMEM.out HIM.out (by rw [HIB2.out, HGB.out, HLN.out, HAB.out]; rfl)]; rfl, HG8.out.step⟩
                          | true =>
                            have HAB := Lib.hid hab
                            go_wp2_with fail
                            go_roundw
                            case rel =>
                              refine ⟨j + 1, by omega, by go_num, ?_, HG8.out⟩
                              rw [HTJ.out, List.all_append, HJB.out, List.all_cons, List.all_nil, HIB2.out, HGB.out, HLN.out, HAB.out]; rfl
                            case measure => simp [intOf]; omega
                · have hdj : decide (j < f.code.length) = false := decide_eq_false hjl
                  have e : j = f.code.length := by omega
                  subst e
                  have c4 := cell_known HG5.out.box (i := 1) rfl
                  go_wp2_with fail
                  go_roundw
                  case rel =>
                    refine ⟨k + 1, by omega, by go_num, ?_, HG5.out⟩
                    have h9 := HJB.out
                    rw [List.take_length] at h9
                    rw [HTK.out, List.all_append, HIB.out, List.all_cons, List.all_nil, h9]; rfl
                  case measure => simp [intOf]; omega
            · have hd : decide (k < fs.length) = false := decide_eq_false hlt
              have e : k = fs.length := by omega
              subst e
              have h1 := HIB.out
              rw [List.take_length] at h1
              have T3 := Lib.hid h1
              clear h1 HIB
              have lk := HG.out.fns.lookup_ok (t := 57) (e := 54) Try.underlying9 Try.underlying57 (zero_fn wr) (s := ⟨#[109, 97, 105, 110]⟩) (by decide)
              obtain ⟨gv, hg1, hga, hgb⟩ := fnv_get FV.out [109, 97, 105, 110]
              have lk2 : (Instr.lookup 57 (.map (some (B + 2))) (.string ⟨#[109, 97, 105, 110]⟩) true).run Try.prog wr = .ok (.tuple #[gv, .bool (fnOf fs [109, 97, 105, 110]).isSome]) wr := by
                rw [← hg1, ← hgb]; exact lk
              have HM := Lib.hid (mainB_eq fs)
              clear lk hg1 hgb
              obtain ⟨wp, wk, ws, wc', egv, ⟨⟨qp, rp, rfl, _, _, _⟩, _⟩, ⟨⟨qk, rk, rfl, _, _, _⟩, _⟩, ⟨⟨qs, rs, rfl, _, _, _⟩, _⟩, ⟨qcd, rc, rfl, _, _, _⟩⟩ := hga
              subst egv
              generalize getFn fs [109, 97, 105, 110] = g at *
              generalize (fnOf fs [109, 97, 105, 110]).isSome = gb at *
              have SX := Lib.hid (HG.out.step.then (Step.alloc _ wr (.cells #[.string g.name, .slice qp g.params.length rp, .slice qk g.kinds.length rk, .slice qs g.slots.length rs, .slice qcd g.code.length rc] 54 (0, 0))))
              cases hgb : gb with
              | false =>
                have HGB := Lib.hid hgb
                go_wp2_with fail
                go_ret
                exact ⟨by rw [HZ.out, goodU, T1.out, T2.out, T3.out, HM.out, HGB.out]; rfl, SX.out⟩
              | true =>
                have HGB := Lib.hid hgb
                cases hpl : ((g.params.length : Int) == 0) with
                | false =>
                  have HPL := Lib.hid (show (g.params.length == 0) = false from by rw [beq_eq_false_iff_ne] at hpl ⊢; omega)
                  go_wp2_with fail
                  go_ret
                  exact ⟨by rw [HZ.out, goodU, T1.out, T2.out, T3.out, HM.out, HGB.out, HPL.out]; rfl, SX.out⟩
                | true =>
                  have HPL := Lib.hid (show (g.params.length == 0) = true from by rw [beq_iff_eq] at hpl ⊢; omega)
                  go_wp2_with fail
                  go_ret
                  exact ⟨by rw [HZ.out, goodU, T1.out, T2.out, T3.out, HM.out, HGB.out, HPL.out]; rfl, SX.out⟩
end
end Go.Proofs.Ytpmbakhnamlooaa
