/- Package mid: is a unit well formed? In plain Lean, and what the code's loops tell. -/
import Derived.Test.YtojfgdoniajmeaaMGooG
namespace Go.Proofs.Ytojfgdoniajmeaa
set_option linter.unusedVariables false
set_option linter.unusedSimpArgs false
open Go.RowKit

def okFnM (pre : List FFn) (f : FFn) : Bool := !(fnOf pre f.name.data.toList).isSome && (oneM f).2
def fnsMB (pre : List FFn) : List FFn → Bool
  | [] => true
  | f :: l => okFnM pre f && fnsMB (pre ++ [f]) l
def goodUM (ts : List Tp) (fs : List FFn) : Bool := topsB [] ts && fnsMB [] fs && fs.all (fun f => f.code.all (insMB ts fs f)) && mainB fs
theorem fnsMB_cut (fs : List FFn) {k : Nat} (h : k < fs.length) : fnsMB (fs.take k) (fs.drop k) = (okFnM (fs.take k) fs[k] && fnsMB (fs.take (k + 1)) (fs.drop (k + 1))) := by
  rw [List.drop_eq_getElem_cons h, List.take_succ_eq_append_getElem h]
  rfl
theorem oneM_fun {f : FFn} (h : (oneM f).2 = true) : funM f = true := by
  unfold oneM at h
  split at h
  · assumption
  · simp at h
theorem fnsMB_fun : ∀ (l pre : List FFn), fnsMB pre l = true → ∀ f ∈ l, funM f = true
  | [], _, _, f, hf => by cases hf
  | g :: l, pre, h, f, hf => by
    simp only [fnsMB, okFnM, Bool.and_eq_true] at h
    rcases List.mem_cons.1 hf with e | e
    · rw [e]; exact oneM_fun h.1.2
    · exact fnsMB_fun l _ h.2 f e
theorem all_falseM {ts : List Tp} {fs : List FFn} {f : FFn} (hf : f ∈ fs) (h : f.code.all (insMB ts fs f) = false) : fs.all (fun f => f.code.all (insMB ts fs f)) = false := by
  rw [List.all_eq_false]
  exact ⟨f, hf, by rw [h]; simp⟩
/-- what Good's walk knows: the unit's box, its two maps -/
structure GoodAt (w0 w wr : World) (B : Nat) (vt vf : Value) (bt bf : Nat) (ts : List Tp) (fv : List UInt8 → Option Value) (c : Nat) : Prop where
  box : wr.heap[B]? = some (.cells #[vt, vf] 25 (0, 0))
  apart : w.heap.size ≤ B ∧ w.heap.size ≤ bt ∧ w.heap.size ≤ bf ∧ B ≠ bt ∧ B ≠ bf ∧ bt ≠ bf
  tops : SMap Try.prog 9 wr bt c (topSet ts)
  fns : SMap Try.prog 9 wr bf c fv
  step : Step (fun _ => False) w wr
theorem GoodAt.still {w0 w wr w' : World} {B : Nat} {vt vf : Value} {bt bf : Nat} {ts : List Tp} {fv : List UInt8 → Option Value} {c : Nat} (h : GoodAt w0 w wr B vt vf bt bf ts fv c) (s : Step (fun _ => False) wr w') : GoodAt w0 w w' B vt vf bt bf ts fv c :=
  ⟨s.keeps h.box, h.apart, h.tops.same (s.block _ h.tops.lt fun x => x), h.fns.same (s.block _ h.fns.lt fun x => x), h.step.then s⟩

section
variable {w0 w w' : World}
--@PLANS
set_option maxHeartbeats 4000000 in
set_option maxRecDepth 100000 in
theorem good_any {vt vf : Value} {ts : List Tp} {fs : List FFn} (ht : TopsAt w0 vt ts) (hf : FnsAt w0 vf fs) (htl : ts.length ≤ 100000) (hfl : fs.length ≤ 1000) (hok : ∀ f ∈ fs, FnOk f ∧ ∀ i ∈ f.code, i.name.size ≤ maxLen)
    (hw : ∀ b, b < w0.heap.size → w.heap[b]? = w0.heap[b]?) (hz : w0.heap.size ≤ w.heap.size) :
    Calls Try.prog 12 #[.agg #[vt, vf]] w fun e w' => e = .returned (.bool (goodUM ts fs)) ∧ Step (fun _ => False) w w' := by
  obtain ⟨pt, ct, rfl, ht1, ht2, htc⟩ := ht
  obtain ⟨pf, cf, rfl, hf1, hf2, hfc⟩ := hf
  have hmm := @run_makeMap Try.prog
  obtain ⟨zz, hzz⟩ : ∃ zz, zz = goodUM ts fs := ⟨_, rfl⟩
  rw [← hzz]
  have HZ := Lib.hid hzz
  have HOK := Lib.hid hok
  have HW := Lib.hid hw
  have HTC := Lib.hid htc
  have HFC := Lib.hid hfc
  clear hzz hok hw htc hfc
  have k1 := heap_alloc_new w (.cells #[.slice pt ts.length ct, .slice pf fs.length cf] 25 (0, 0))
  have s1 := Step.alloc (fun _ => False) w (.cells #[.slice pt ts.length ct, .slice pf fs.length cf] 25 (0, 0))
  generalize hw1 : w.alloc (.cells #[.slice pt ts.length ct, .slice pf fs.length cf] 25 (0, 0)) = w1 at *
  have hz1 : w1.heap.size = w.heap.size + 1 := by rw [← hw1]; simp
  have im1 := smap_made w1 Try.prog 9
  have s2 := s1.then (Step.alloc (fun _ => False) w1 (.map #[] 0))
  have k2 := (Step.alloc (fun _ => False) w1 (.map #[] 0)).keeps k1
  generalize hw2 : w1.alloc (.map #[] 0) = w2 at *
  have hz2 : w2.heap.size = w.heap.size + 2 := by rw [← hw2]; simp [hz1]
  have im2 := smap_made w2 Try.prog 9
  have sa := Step.alloc (fun _ => False) w2 (.map #[] 0)
  have k3 := sa.keeps k2
  have im1' := SMap.same im1 (sa.block _ im1.lt fun x => x)
  have s3 := s2.then sa
  rw [hz1] at im1'
  rw [hz2] at im2
  have G0 := Lib.hid (show GoodAt w0 w (w2.alloc (.map #[] 0)) w.heap.size (.slice pt ts.length ct) (.slice pf fs.length cf) (w.heap.size + 1) (w.heap.size + 2) [] (fun _ => none) 0 from
    ⟨k3, by omega, im1'.congr fun _ => rfl, im2, s3⟩)
  clear k1 s1 im1 s2 k2 im2 sa k3 im1' s3
  go_enter Try.func12, Try.ntmps12
  go_upto_region 2 with fail
  generalize w2.alloc (.map #[] 0) = w3 at *
  clear hw1 hw2 hz1 hz2
  generalize hB : w.heap.size = B at *
  have hbx : World.cell? w3 ⟨B, 0, none⟩ = some (.slice pt ts.length ct) := cell_known G0.out.box rfl
  go_wp2_with fail
  go_loopw [6, 22] (fun _ i wr => ∃ k : Nat, k ≤ ts.length ∧ i = .int .i64 k ∧ topsB [] ts = topsB (ts.take k) (ts.drop k) ∧ GoodAt w0 w wr B (.slice pt ts.length ct) (.slice pf fs.length cf) (B + 1) (B + 2) (ts.take k) (fun _ => none) k) (fun _ i _ => ts.length - (intOf i).toNat)
  case atStart => exact ⟨0, by omega, rfl, rfl, G0.out⟩
  case round =>
    obtain ⟨k, hk, rfl, htb, hgo⟩ := hrel
    have HTB := Lib.hid htb
    have HG := Lib.hid hgo
    clear htb hgo hbx
    by_cases hlt : k < ts.length
    · have hd : decide (k < ts.length) = true := decide_eq_true hlt
      obtain ⟨a, rfl, hc0, hc1, hns, hwf⟩ := HTC.out k hlt
      have hc0 := ((HG.out.step.cell (by rw [hB]; exact Nat.lt_of_lt_of_le (block_lt hc0) hz) fun x => x)).trans ((cell_of (HW.out _ (block_lt hc0))).trans hc0)
      have hc1 := ((HG.out.step.cell (by rw [hB]; exact Nat.lt_of_lt_of_le (block_lt hc1) hz) fun x => x)).trans ((cell_of (HW.out _ (block_lt hc1))).trans hc1)
      have hc1 : wr.cell? ⟨(a.add (k * 2)).block, (a.add (k * 2)).off + 1, none⟩ = some (.int .i64 ts[k].2) := hc1
      have HCUT := Lib.hid (HTB.out.trans (topsB_cut ts hlt))
      have HTK := Lib.hid (List.take_succ_eq_append_getElem hlt)
      have HOKT := Lib.hid (show okTop (ts.take k) ts[k] = (!(ts[k].1.toList.isEmpty) && !hasTop (ts.take k) ts[k].1.data.toList && !decide (ts[k].2 < 0) && !decide (4194304 < ts[k].2)) from by rw [empty_eq]; rfl)
      have hsn := topSet_snoc (ts.take k) ts[k]
      have HSN := Lib.hid hsn
      clear hsn
      generalize ts[k] = t at *
      obtain ⟨nm, sz⟩ := t
      simp only at hc0 hc1 hns HOKT HSN hwf
      go_upto_region 5 with fail
      have kb := heap_alloc_new wr (.cells #[.string nm, .int .i64 sz] 52 (0, 0))
      have HG4 := Lib.hid (HG.out.still (Step.alloc _ wr (.cells #[.string nm, .int .i64 sz] 52 (0, 0))))
      clear hc0 hc1
      generalize wr.alloc (.cells #[.string nm, .int .i64 sz] 52 (0, 0)) = w4 at *
      have hz4 := kb
      obtain ⟨c0, c1, _, _⟩ := cells_known2 kb
      have lk : (Instr.lookup 54 (.map (some (B + 1))) (.string nm) false).run Try.prog w4 = .ok (.bool (hasTop (ts.take k) nm.data.toList)) w4 := by
        have := HG4.out.tops.lookup (t := 54) (e := 4) Try.underlying9 Try.underlying54 (zero_bool w4) hns
        rw [topSet_get] at this
        exact this
      have hmax : k < maxLen := by simp only [maxLen]; omega
      obtain ⟨w5, run, im, gr, _⟩ := HG4.out.tops.update (t := 54) (e := 4) Try.underlying9 Try.underlying54 hmax (s := nm) hns (.bool true)
      have IM := Lib.hid im
      have GR := Lib.hid gr
      clear im gr kb hz4
      cases hb1 : nm.toList.isEmpty with
      | true =>
        have HB1 := Lib.hid hb1
        go_wp2_with fail
        go_ret
        exact ⟨by rw [HZ.out, goodUM, HCUT.out, HOKT.out, HB1.out]; rfl, HG4.out.step⟩
      | false =>
        have HB1 := Lib.hid hb1
        cases hb2 : hasTop (ts.take k) nm.data.toList with
        | true =>
          have HB2 := Lib.hid hb2
          rw [hb2] at lk
          go_wp2_with fail
          go_ret
          exact ⟨by rw [HZ.out, goodUM, HCUT.out, HOKT.out, HB1.out, HB2.out]; rfl, HG4.out.step⟩
        | false =>
          have HB2 := Lib.hid hb2
          rw [hb2] at lk
          cases hb3 : decide (sz < 0) with
          | true =>
            have HB3 := Lib.hid hb3
            go_wp2_with fail
            go_ret
            exact ⟨by rw [HZ.out, goodUM, HCUT.out, HOKT.out, HB1.out, HB2.out, HB3.out]; rfl, HG4.out.step⟩
          | false =>
            have HB3 := Lib.hid hb3
            cases hb4 : decide (4194304 < sz) with
            | true =>
              have HB4 := Lib.hid hb4
              go_wp2_with fail
              go_ret
              exact ⟨by rw [HZ.out, goodUM, HCUT.out, HOKT.out, HB1.out, HB2.out, HB3.out, HB4.out]; rfl, HG4.out.step⟩
            | false =>
              have HB4 := Lib.hid hb4
              go_wp2_with fail
              go_roundw
              case rel =>
                have s5 : Step (fun b => b = B + 1) w4 w5 := Step.of_grown GR.out
                refine ⟨k + 1, by omega, by go_num, ?_, ⟨(s5.block B (lt_obj HG4.out.box) (by omega)).trans HG4.out.box, HG4.out.apart, ?_, (HG4.out.fns.same (s5.block _ HG4.out.fns.lt (by omega))).le (by omega), HG4.out.step.trans s5 fun x hx => .inr (by omega)⟩⟩
                · rw [HCUT.out, HOKT.out, HB1.out, HB2.out, HB3.out, HB4.out]; rfl
                · rw [HTK.out]
                  exact IM.out.congr HSN.out
              case measure => simp [intOf]; omega
    · have hd : decide (k < ts.length) = false := decide_eq_false hlt
      have e : k = ts.length := by omega
      subst e
      have h1 := HTB.out
      have h2 := HG.out
      rw [List.take_length, List.drop_length] at h1
      rw [List.take_length] at h2
      have T1 := Lib.hid (show topsB [] ts = true from h1)
      have G1 := Lib.hid h2
      clear h1 h2 HTB HG hk hlt
      have hbx : World.cell? wr ⟨B, 1, none⟩ = some (.slice pf fs.length cf) := cell_known G1.out.box rfl
      go_wp2_with fail
      go_loopw [8, 9, 10, 11, 12, 52] (fun _ _ _ _ _ i wr => ∃ (k : Nat) (fv : List UInt8 → Option Value), k ≤ fs.length ∧ i = .int .i64 k ∧ fnsMB [] fs = fnsMB (fs.take k) (fs.drop k) ∧ FnvOk w0 (fs.take k) fv ∧ GoodAt w0 w wr B (.slice pt ts.length ct) (.slice pf fs.length cf) (B + 1) (B + 2) ts fv (ts.length + k)) (fun _ _ _ _ _ i _ => fs.length - (intOf i).toNat)
      case atStart => exact ⟨0, _, by omega, rfl, rfl, fun s => ⟨fun f h => by simp [fnOf] at h, fun _ => rfl⟩, G1.out⟩
      case round =>
        clear hbx
        clear G1
        obtain ⟨k, fv, hk, rfl, hfb, hfv, hgo⟩ := hrel
        have HFB := Lib.hid hfb
        have HFV := Lib.hid hfv
        have HG := Lib.hid hgo
        clear hfb hfv hgo
        by_cases hlt : k < fs.length
        · have hd : decide (k < fs.length) = true := decide_eq_true hlt
          obtain ⟨a, fval, rfl, hfn, hcells⟩ := HFC.out k hlt
          have HFN := Lib.hid hfn
          obtain ⟨vp, vk, vs, vc, efv, ⟨⟨pp, pc, rfl, _, _, _⟩, _⟩, ⟨⟨pk, kc, rfl, _, _, _⟩, _⟩, ⟨⟨ps, sc, rfl, _, _, _⟩, _⟩, ⟨pcd, cc, rfl, _, _, _⟩⟩ := hfn
          subst efv
          have HCUT := Lib.hid (HFB.out.trans (fnsMB_cut fs hlt))
          have HTK := Lib.hid (List.take_succ_eq_append_getElem hlt)
          have HOKF := Lib.hid (HOK.out _ (List.getElem_mem hlt))
          generalize fs[k] = f at *
          have HOF := Lib.hid (show okFnM (fs.take k) f = (!(fnOf (fs.take k) f.name.data.toList).isSome && (oneM f).2) from rfl)
          have ce : ∀ j u, (#[.string f.name, .slice pp f.params.length pc, .slice pk f.kinds.length kc, .slice ps f.slots.length sc, .slice pcd f.code.length cc] : Array Value)[j]? = some u → wr.cell? ((a.add (k * 5)).add j) = some u := fun j u h => by
            have h1 := hcells j u h
            exact (HG.out.step.cell (by rw [hB]; exact Nat.lt_of_lt_of_le (block_lt h1) hz) fun x => x).trans ((cell_of (HW.out _ (block_lt h1))).trans h1)
          have e0 : wr.cell? (a.add (k * 5)) = some (.string f.name) := by have := ce 0 _ rfl; simpa [Addr.add] using this
          have e1 : wr.cell? ⟨(a.add (k * 5)).block, (a.add (k * 5)).off + 1, none⟩ = some (.slice pp f.params.length pc) := ce 1 _ rfl
          have e2 : wr.cell? ⟨(a.add (k * 5)).block, (a.add (k * 5)).off + 2, none⟩ = some (.slice pk f.kinds.length kc) := ce 2 _ rfl
          have e3 : wr.cell? ⟨(a.add (k * 5)).block, (a.add (k * 5)).off + 3, none⟩ = some (.slice ps f.slots.length sc) := ce 3 _ rfl
          have e4 : wr.cell? ⟨(a.add (k * 5)).block, (a.add (k * 5)).off + 4, none⟩ = some (.slice pcd f.code.length cc) := ce 4 _ rfl
          clear ce hcells
          go_upto_region 12 with fail
          have kb := heap_alloc_new wr (.cells #[.string f.name, .slice pp f.params.length pc, .slice pk f.kinds.length kc, .slice ps f.slots.length sc, .slice pcd f.code.length cc] 46 (0, 0))
          have HG4 := Lib.hid (HG.out.still (Step.alloc _ wr (.cells #[.string f.name, .slice pp f.params.length pc, .slice pk f.kinds.length kc, .slice ps f.slots.length sc, .slice pcd f.code.length cc] 46 (0, 0))))
          clear e0 e1 e2 e3 e4
          generalize wr.alloc (.cells #[.string f.name, .slice pp f.params.length pc, .slice pk f.kinds.length kc, .slice ps f.slots.length sc, .slice pcd f.code.length cc] 46 (0, 0)) = w4 at *
          have KB := Lib.hid kb
          generalize wr.heap.size = tb at *
          obtain ⟨c0, c1, c2, c3, c4, _⟩ := cells_known5 KB.out
          clear kb
          go_wp2_with fail
          refine (one_any (w0 := w0) HFN.out HOKF.out.1 (fun b hb => (HG4.out.step.block b (by rw [hB]; exact Nat.lt_of_lt_of_le hb hz) fun x => x).trans (HW.out b hb)) (Nat.le_trans (by rw [← hB] at hz; exact hz) HG4.out.step.size)).mono ?_
          rintro e w5 ⟨rfl, s5⟩
          have HG5 := Lib.hid (HG4.out.still s5)
          have KB5 := Lib.hid (s5.keeps KB.out)
          clear s5 c0 c1 c2 c3 c4
          generalize oneM f = one at *
          obtain ⟨r1, r2⟩ := one
          simp only at HOF ⊢
          have lk := HG5.out.fns.lookup_ok (t := 55) (e := 46) Try.underlying9 Try.underlying55 (zero_fn w5) HOKF.out.1.name
          have hfvs := HFV.out f.name.data.toList
          obtain ⟨c0, c1, c2, c3, c4, _⟩ := cells_known5 KB5.out
          cases hfo : fnOf (fs.take k) f.name.data.toList with
          | some g =>
            obtain ⟨gv, hgv, hga⟩ := hfvs.1 g hfo
            obtain ⟨wp, wk, ws, wc', egv, ⟨⟨qp, rp, rfl, _, _, _⟩, _⟩, ⟨⟨qk, rk, rfl, _, _, _⟩, _⟩, ⟨⟨qs, rs, rfl, _, _, _⟩, _⟩, ⟨qcd, rc, rfl, _, _, _⟩⟩ := hga
            subst egv
            rw [hgv] at lk
            simp only [Option.getD_some, Option.isSome_some] at lk
            have HF := Lib.hid (show okFnM (fs.take k) f = false from by rw [HOF.out, hfo]; rfl)
            clear hfvs hgv hfo HOF
            have SX := Lib.hid (HG5.out.step.then (Step.alloc _ w5 (.cells #[.string g.name, .slice qp g.params.length rp, .slice qk g.kinds.length rk, .slice qs g.slots.length rs, .slice qcd g.code.length rc] 46 (0, 0))))
            go_wp2_with fail
            go_ret
            exact ⟨by (rw [HZ.out, goodUM, T1.out, HCUT.out, HF.out]; try rfl), SX.out⟩
          | none =>
            rw [hfvs.2 hfo] at lk
            simp only [Option.getD_none, Option.isSome_none] at lk
            have HOF2 := Lib.hid (show okFnM (fs.take k) f = r2 from by rw [HOF.out, hfo]; rfl)
            clear hfvs hfo HOF
            have HG6 := Lib.hid (HG5.out.still (Step.alloc _ w5 (.cells #[.string ⟨#[]⟩, .slice none 0 0, .slice none 0 0, .slice none 0 0, .slice none 0 0] 46 (0, 0))))
            have KB6 := Lib.hid ((Step.alloc (fun _ => False) w5 (.cells #[.string ⟨#[]⟩, .slice none 0 0, .slice none 0 0, .slice none 0 0, .slice none 0 0] 46 (0, 0))).keeps KB5.out)
            go_upto_region 14 with fail
            clear c0 c1 c2 c3 c4 lk
            generalize w5.alloc (.cells #[.string ⟨#[]⟩, .slice none 0 0, .slice none 0 0, .slice none 0 0, .slice none 0 0] 46 (0, 0)) = w6 at *
            obtain ⟨c0, c1, c2, c3, c4, _⟩ := cells_known5 KB6.out
            cases hr2 : r2 with
            | false =>
              have HF := Lib.hid (show okFnM (fs.take k) f = false from by rw [HOF2.out, hr2])
              clear HOF2
              go_wp2_with fail
              go_ret
              exact ⟨by (rw [HZ.out, goodUM, T1.out, HCUT.out, HF.out]; try rfl), HG6.out.step⟩
            | true =>
              have HT := Lib.hid (show okFnM (fs.take k) f = true from by rw [HOF2.out, hr2])
              clear HOF2
              have hmax : ts.length + k < maxLen := by simp only [maxLen]; omega
              have hbx : w6.cell? ⟨B, 1, none⟩ = some (.slice (some a) fs.length cf) := cell_known HG6.out.box rfl
              obtain ⟨w7, run, im, gr, _⟩ := HG6.out.fns.update (t := 55) (e := 46) Try.underlying9 Try.underlying55 hmax (s := f.name) HOKF.out.1.name (.agg #[.string f.name, .slice pp f.params.length pc, .slice pk f.kinds.length kc, .slice ps f.slots.length sc, .slice pcd f.code.length cc])
              have IM := Lib.hid im
              have GR := Lib.hid gr
              clear im gr hr2
              go_wp2_with fail
              go_roundw
              case rel =>
                have s7 : Step (fun b => b = B + 2) w6 w7 := Step.of_grown GR.out
                refine ⟨k + 1, _, by omega, by go_num, ?_, ?_, ⟨(s7.block B (lt_obj HG6.out.box) (by omega)).trans HG6.out.box, HG6.out.apart, (HG6.out.tops.same (s7.block _ HG6.out.tops.lt (by omega))).le (by omega), IM.out, HG6.out.step.trans s7 fun x hx => .inr (by have := HG6.out.apart; omega)⟩⟩
                · rw [HCUT.out, HT.out]; rfl
                · rw [HTK.out]
                  exact HFV.out.snoc HFN.out
              case measure => simp [intOf]; omega
        · have hd : decide (k < fs.length) = false := decide_eq_false hlt
          have e : k = fs.length := by omega
          subst e
          have h1 := HFB.out
          have h2 := HG.out
          have h3 := HFV.out
          rw [List.take_length, List.drop_length] at h1
          rw [List.take_length] at h3
          have T2 := Lib.hid (show fnsMB [] fs = true from h1)
          have G2 := Lib.hid h2
          have FV := Lib.hid h3
          have HFM := Lib.hid (show ∀ g ∈ fs, FnOk g ∧ funM g = true from fun g hg => ⟨(HOK.out g hg).1, fnsMB_fun fs [] T2.out g hg⟩)
          clear h1 h2 h3 HFB HG HFV hk hlt
          have hbx : World.cell? wr ⟨B, 1, none⟩ = some (.slice pf fs.length cf) := cell_known G2.out.box rfl
          go_wp2_with fail
          go_loopw [14, 81] (fun _ i wr => ∃ (k : Nat), k ≤ fs.length ∧ i = .int .i64 k ∧ (fs.take k).all (fun f => f.code.all (insMB ts fs f)) = true ∧ GoodAt w0 w wr B (.slice pt ts.length ct) (.slice pf fs.length cf) (B + 1) (B + 2) ts fv (ts.length + fs.length)) (fun _ i _ => fs.length - (intOf i).toNat)
          case atStart => exact ⟨0, by omega, rfl, by simp, G2.out⟩
          case round =>
            clear hbx G2
            obtain ⟨k, hk, rfl, hib, hgo⟩ := hrel
            have HIB := Lib.hid hib
            have HG := Lib.hid hgo
            clear hib hgo
            by_cases hlt : k < fs.length
            · have hd : decide (k < fs.length) = true := decide_eq_true hlt
              obtain ⟨a, fval, rfl, hfn, hcells⟩ := HFC.out k hlt
              have HFN := Lib.hid hfn
              obtain ⟨vp, vk, vs, vc, efv, ⟨⟨pp, pc, rfl, _, _, _⟩, _⟩, ⟨⟨pk, kc, rfl, _, _, _⟩, _⟩, ⟨⟨ps, sc, rfl, _, _, _⟩, _⟩, ⟨pcd, cc, rfl, _, _, _⟩⟩ := hfn
              subst efv
              have HTK := Lib.hid (List.take_succ_eq_append_getElem hlt)
              have HMEM := Lib.hid (List.getElem_mem hlt)
              have HOKF := Lib.hid (HOK.out _ (List.getElem_mem hlt))
              have HFF := Lib.hid (HFM.out _ (List.getElem_mem hlt)).2
              generalize fs[k] = f at *
              have ce : ∀ j u, (#[.string f.name, .slice pp f.params.length pc, .slice pk f.kinds.length kc, .slice ps f.slots.length sc, .slice pcd f.code.length cc] : Array Value)[j]? = some u → wr.cell? ((a.add (k * 5)).add j) = some u := fun j u h => by
                have h1 := hcells j u h
                exact (HG.out.step.cell (by rw [hB]; exact Nat.lt_of_lt_of_le (block_lt h1) hz) fun x => x).trans ((cell_of (HW.out _ (block_lt h1))).trans h1)
              have e0 : wr.cell? (a.add (k * 5)) = some (.string f.name) := by have := ce 0 _ rfl; simpa [Addr.add] using this
              have e1 : wr.cell? ⟨(a.add (k * 5)).block, (a.add (k * 5)).off + 1, none⟩ = some (.slice pp f.params.length pc) := ce 1 _ rfl
              have e2 : wr.cell? ⟨(a.add (k * 5)).block, (a.add (k * 5)).off + 2, none⟩ = some (.slice pk f.kinds.length kc) := ce 2 _ rfl
              have e3 : wr.cell? ⟨(a.add (k * 5)).block, (a.add (k * 5)).off + 3, none⟩ = some (.slice ps f.slots.length sc) := ce 3 _ rfl
              have e4 : wr.cell? ⟨(a.add (k * 5)).block, (a.add (k * 5)).off + 4, none⟩ = some (.slice pcd f.code.length cc) := ce 4 _ rfl
              clear ce hcells
              go_upto_region 21 with fail
              have kb := heap_alloc_new wr (.cells #[.string f.name, .slice pp f.params.length pc, .slice pk f.kinds.length kc, .slice ps f.slots.length sc, .slice pcd f.code.length cc] 46 (0, 0))
              have HG4 := Lib.hid (HG.out.still (Step.alloc _ wr (.cells #[.string f.name, .slice pp f.params.length pc, .slice pk f.kinds.length kc, .slice ps f.slots.length sc, .slice pcd f.code.length cc] 46 (0, 0))))
              clear e0 e1 e2 e3 e4
              generalize wr.alloc (.cells #[.string f.name, .slice pp f.params.length pc, .slice pk f.kinds.length kc, .slice ps f.slots.length sc, .slice pcd f.code.length cc] 46 (0, 0)) = w4 at *
              obtain ⟨c0, c1, c2, c3, c4, _⟩ := cells_known5 kb
              clear kb
              go_wp2_with fail
              refine (calls_any (w0 := w0) HFN.out HOKF.out.1 HOKF.out.2 HFF.out HFM.out FV.out HG4.out.tops HG4.out.fns (fun b hb => (HG4.out.step.block b (by rw [hB]; exact Nat.lt_of_lt_of_le hb hz) fun x => x).trans (HW.out b hb)) (Nat.le_trans (by rw [← hB] at hz; exact hz) HG4.out.step.size)).mono ?_
              rintro e w5 ⟨rfl, s5⟩
              have HG5 := Lib.hid (HG4.out.still s5)
              clear s5 c0 c1 c2 c3 c4
              have hbx : w5.cell? ⟨B, 1, none⟩ = some (.slice (some a) fs.length cf) := cell_known HG5.out.box rfl
              cases hca : f.code.all (insMB ts fs f) with
              | false =>
                have HF := Lib.hid hca
                clear hca
                go_wp2_with fail
                go_ret
                exact ⟨by (rw [HZ.out, goodUM, T1.out, T2.out, all_falseM HMEM.out HF.out]; try rfl), HG5.out.step⟩
              | true =>
                have HT := Lib.hid hca
                clear hca
                go_wp2_with fail
                go_roundw
                case rel =>
                  refine ⟨k + 1, by omega, by go_num, ?_, HG5.out⟩
                  rw [HTK.out, List.all_append, HIB.out, List.all_cons, List.all_nil, HT.out]; rfl
                case measure => simp [intOf]; omega
            · have hd : decide (k < fs.length) = false := decide_eq_false hlt
              have e : k = fs.length := by omega
              subst e
              have h1 := HIB.out
              rw [List.take_length] at h1
              have T3 := Lib.hid h1
              clear h1 HIB
              have lk := HG.out.fns.lookup_ok (t := 55) (e := 46) Try.underlying9 Try.underlying55 (zero_fn wr) (s := ⟨#[109, 97, 105, 110]⟩) (by decide)
              obtain ⟨gv, hg1, hga, hgb⟩ := fnv_get FV.out [109, 97, 105, 110]
              have lk2 : (Instr.lookup 55 (.map (some (B + 2))) (.string ⟨#[109, 97, 105, 110]⟩) true).run Try.prog wr = .ok (.tuple #[gv, .bool (fnOf fs [109, 97, 105, 110]).isSome]) wr := by
                rw [← hg1, ← hgb]; exact lk
              have HM := Lib.hid (mainB_eq fs)
              clear lk hg1 hgb
              obtain ⟨wp, wk, ws, wc', egv, ⟨⟨qp, rp, rfl, _, _, _⟩, _⟩, ⟨⟨qk, rk, rfl, _, _, _⟩, _⟩, ⟨⟨qs, rs, rfl, _, _, _⟩, _⟩, ⟨qcd, rc, rfl, _, _, _⟩⟩ := hga
              subst egv
              generalize getFn fs [109, 97, 105, 110] = g at *
              generalize (fnOf fs [109, 97, 105, 110]).isSome = gb at *
              have SX := Lib.hid (HG.out.step.then (Step.alloc _ wr (.cells #[.string g.name, .slice qp g.params.length rp, .slice qk g.kinds.length rk, .slice qs g.slots.length rs, .slice qcd g.code.length rc] 46 (0, 0))))
              cases hgb : gb with
              | false =>
                have HGB := Lib.hid hgb
                go_wp2_with fail
                go_ret
                exact ⟨by rw [HZ.out, goodUM, T1.out, T2.out, T3.out, HM.out, HGB.out]; rfl, SX.out⟩
              | true =>
                have HGB := Lib.hid hgb
                cases hpl : ((g.params.length : Int) == 0) with
                | false =>
                  have HPL := Lib.hid (show (g.params.length == 0) = false from by rw [beq_eq_false_iff_ne] at hpl ⊢; omega)
                  go_wp2_with fail
                  go_ret
                  exact ⟨by rw [HZ.out, goodUM, T1.out, T2.out, T3.out, HM.out, HGB.out, HPL.out]; rfl, SX.out⟩
                | true =>
                  have HPL := Lib.hid (show (g.params.length == 0) = true from by rw [beq_iff_eq] at hpl ⊢; omega)
                  go_wp2_with fail
                  go_ret
                  exact ⟨by rw [HZ.out, goodUM, T1.out, T2.out, T3.out, HM.out, HGB.out, HPL.out]; rfl, SX.out⟩
end
end Go.Proofs.Ytojfgdoniajmeaa
