/- An argument that is a unit of instructions, as a walk reads it. -/
import Derived.Test.YtpmbakhnamlooaaRunA
import Derived.OpenShut
import Derived.Deep.Slices
namespace Go.Proofs.Ytpmbakhnamlooaa
set_option linter.unusedVariables false
set_option linter.unusedSimpArgs false
open Go.ChangeShapes Go.WideShapes Go.ChangeAt Go.RowKit

section
variable {H : Type} {enc : TypeId × Value → H} {w : World} {base : Nat} {spare : Nat → Bool} {held : Bool}
theorem ints_field {n : Nat} {cs : List Value} {y : DataW H × List MemPlace} (h : DataW.trod enc Try.prog w base spare held n 45 cs = some y) : ∃ v zs, cs = [v] ∧ IntsAt .i64 w v zs := by
  rcases open_ints Try.underlying45 Try.underlying3 (by kernel_rfl) h with ⟨rfl, _⟩ | ⟨a, len, cap, zs, rfl, _, hle, hmax, hlen, _, hcell, hwf⟩
  · exact ⟨_, [], rfl, ints_nil _ _⟩
  · have hl : len ≤ zs.length := by rw [hlen]; split <;> omega
    have hz : (zs.take len).length = len := by simp; omega
    refine ⟨_, zs.take len, rfl, ⟨some a, cap, by rw [hz], by omega, hmax, fun i hi => ⟨a, rfl, ?_⟩⟩, fun z hz => hwf z (List.mem_of_mem_take hz)⟩
    have hi' : i < len := by omega
    rw [hcell i (by omega)]
    simp [List.getD_eq_getElem?_getD, List.getElem?_take_of_lt hi']
theorem str_field {n : Nat} {cs : List Value} {y : DataW H × List MemPlace} (h : DataW.trod enc Try.prog w base spare held n 9 cs = some y) : ∃ s : ByteArray, cs = [.string s] ∧ s.size ≤ maxLen := by
  obtain ⟨s, e, _, hs⟩ := DataW.trod_string Try.underlying9 h
  exact ⟨s, e, hs⟩
theorem int_field {n : Nat} {cs : List Value} {y : DataW H × List MemPlace} (h : DataW.trod enc Try.prog w base spare held n 3 cs = some y) : ∃ x : Int, cs = [.int .i64 x] ∧ (Lit.int .i64 x).wf = true := by
  obtain ⟨x, e, _, hs⟩ := DataW.trod_int Try.underlying3 h
  exact ⟨x, e, hs⟩
theorem u64_field {n : Nat} {cs : List Value} {y : DataW H × List MemPlace} (h : DataW.trod enc Try.prog w base spare held n 38 cs = some y) : ∃ x : Int, cs = [.int .u64 x] ∧ (Lit.int .u64 x).wf = true := by
  obtain ⟨x, e, _, hs⟩ := DataW.trod_int Try.underlying38 h
  exact ⟨x, e, hs⟩
theorem take1 (l : List Value) (k : Nat) (v : Value) (h : (l.drop k).take 1 = [v]) : l[k]? = some v := by
  have : ((l.drop k).take 1)[0]? = some v := by rw [h]; rfl
  rw [List.getElem?_take_of_lt (by omega), List.getElem?_drop] at this
  simpa using this
theorem ten_of {α : Type} (l : List α) (h : l.length = 10) : ∃ a b c d e f g i j k, l = [a, b, c, d, e, f, g, i, j, k] := by
  match l, h with
  | [a, b, c, d, e, f, g, i, j, k], _ => exact ⟨a, b, c, d, e, f, g, i, j, k, rfl⟩
theorem u64_wf' {x : Int} (h : (Lit.int .u64 x).wf = true) : is64 x := by
  have := wfu64 h
  unfold is64; omega
/-- what is so of an instruction that was read -/
def InsWf (i : FIns) : Prop := i.name.size ≤ maxLen ∧ is64 i.n ∧ (Lit.int .i64 i.op).wf = true ∧ (Lit.int .i64 i.dst).wf = true ∧ (Lit.int .i64 i.a).wf = true ∧ (Lit.int .i64 i.b).wf = true ∧ (Lit.int .i64 i.size).wf = true ∧ (Lit.int .i64 i.to).wf = true
set_option maxRecDepth 100000 in
theorem ins_cells {n : Nat} {cs : List Value} {y : DataW H × List MemPlace} (h : DataW.trod enc Try.prog w base spare held n 47 cs = some y) : ∃ (v : Value) (i : FIns), cs = v.cells.toList ∧ InsAt w v i ∧ InsWf i := by
  obtain ⟨xs, m, _, _, hl, hlen, hf⟩ := DataW.trod_struct Try.underlying47 h
  have c3 : Try.prog.cellsOf 3 = 1 := by kernel_rfl
  have c38 : Try.prog.cellsOf 38 = 1 := by kernel_rfl
  have c9 : Try.prog.cellsOf 9 = 1 := by kernel_rfl
  have c45 : Try.prog.cellsOf 45 = 1 := by kernel_rfl
  have c47 : Try.prog.cellsOf 47 = 10 := by kernel_rfl
  rw [c47] at hl
  have hx : ∀ k, k < 10 → ∃ y, xs[k]? = some y := fun k hk => ⟨xs[k]'(by rw [hlen]; exact hk), List.getElem?_eq_getElem _⟩
  obtain ⟨dd0, dd1, dd2, dd3, dd4, dd5, dd6, dd7, dd8, dd9, rfl⟩ := ten_of cs hl
  obtain ⟨y0, e0⟩ := hx 0 (by omega)
  have f0 : DataW.trod enc Try.prog w base spare held m 3 (([dd0, dd1, dd2, dd3, dd4, dd5, dd6, dd7, dd8, dd9].drop 0).take (Try.prog.cellsOf 3)) = some y0 := (hf 0 _ rfl).trans e0
  rw [c3] at f0
  simp only [List.drop_zero, List.take_succ_cons, List.take_zero] at f0
  obtain ⟨op, g0, h0⟩ := int_field f0
  simp only [List.cons.injEq, and_true] at g0
  obtain ⟨y1, e1⟩ := hx 1 (by omega)
  have f1 : DataW.trod enc Try.prog w base spare held m 3 (([dd0, dd1, dd2, dd3, dd4, dd5, dd6, dd7, dd8, dd9].drop 1).take (Try.prog.cellsOf 3)) = some y1 := (hf 1 _ rfl).trans e1
  rw [c3] at f1
  simp only [List.drop_succ_cons, List.drop_zero, List.take_succ_cons, List.take_zero] at f1
  obtain ⟨dst, g1, h1⟩ := int_field f1
  simp only [List.cons.injEq, and_true] at g1
  obtain ⟨y2, e2⟩ := hx 2 (by omega)
  have f2 : DataW.trod enc Try.prog w base spare held m 3 (([dd0, dd1, dd2, dd3, dd4, dd5, dd6, dd7, dd8, dd9].drop 2).take (Try.prog.cellsOf 3)) = some y2 := (hf 2 _ rfl).trans e2
  rw [c3] at f2
  simp only [List.drop_succ_cons, List.drop_zero, List.take_succ_cons, List.take_zero] at f2
  obtain ⟨ra, g2, h2⟩ := int_field f2
  simp only [List.cons.injEq, and_true] at g2
  obtain ⟨y3, e3⟩ := hx 3 (by omega)
  have f3 : DataW.trod enc Try.prog w base spare held m 3 (([dd0, dd1, dd2, dd3, dd4, dd5, dd6, dd7, dd8, dd9].drop 3).take (Try.prog.cellsOf 3)) = some y3 := (hf 3 _ rfl).trans e3
  rw [c3] at f3
  simp only [List.drop_succ_cons, List.drop_zero, List.take_succ_cons, List.take_zero] at f3
  obtain ⟨rb, g3, h3⟩ := int_field f3
  simp only [List.cons.injEq, and_true] at g3
  obtain ⟨y4, e4⟩ := hx 4 (by omega)
  have f4 : DataW.trod enc Try.prog w base spare held m 38 (([dd0, dd1, dd2, dd3, dd4, dd5, dd6, dd7, dd8, dd9].drop 4).take (Try.prog.cellsOf 38)) = some y4 := (hf 4 _ rfl).trans e4
  rw [c38] at f4
  simp only [List.drop_succ_cons, List.drop_zero, List.take_succ_cons, List.take_zero] at f4
  obtain ⟨n, g4, h4⟩ := u64_field f4
  simp only [List.cons.injEq, and_true] at g4
  obtain ⟨y5, e5⟩ := hx 5 (by omega)
  have f5 : DataW.trod enc Try.prog w base spare held m 3 (([dd0, dd1, dd2, dd3, dd4, dd5, dd6, dd7, dd8, dd9].drop 5).take (Try.prog.cellsOf 3)) = some y5 := (hf 5 _ rfl).trans e5
  rw [c3] at f5
  simp only [List.drop_succ_cons, List.drop_zero, List.take_succ_cons, List.take_zero] at f5
  obtain ⟨size, g5, h5⟩ := int_field f5
  simp only [List.cons.injEq, and_true] at g5
  obtain ⟨y6, e6⟩ := hx 6 (by omega)
  have f6 : DataW.trod enc Try.prog w base spare held m 9 (([dd0, dd1, dd2, dd3, dd4, dd5, dd6, dd7, dd8, dd9].drop 6).take (Try.prog.cellsOf 9)) = some y6 := (hf 6 _ rfl).trans e6
  rw [c9] at f6
  simp only [List.drop_succ_cons, List.drop_zero, List.take_succ_cons, List.take_zero] at f6
  obtain ⟨name, g6, h6⟩ := str_field f6
  simp only [List.cons.injEq, and_true] at g6
  obtain ⟨y7, e7⟩ := hx 7 (by omega)
  have f7 : DataW.trod enc Try.prog w base spare held m 45 (([dd0, dd1, dd2, dd3, dd4, dd5, dd6, dd7, dd8, dd9].drop 7).take (Try.prog.cellsOf 45)) = some y7 := (hf 7 _ rfl).trans e7
  rw [c45] at f7
  simp only [List.drop_succ_cons, List.drop_zero, List.take_succ_cons, List.take_zero] at f7
  obtain ⟨v7, args, g7, h7⟩ := ints_field f7
  simp only [List.cons.injEq, and_true] at g7
  obtain ⟨y8, e8⟩ := hx 8 (by omega)
  have f8 : DataW.trod enc Try.prog w base spare held m 45 (([dd0, dd1, dd2, dd3, dd4, dd5, dd6, dd7, dd8, dd9].drop 8).take (Try.prog.cellsOf 45)) = some y8 := (hf 8 _ rfl).trans e8
  rw [c45] at f8
  simp only [List.drop_succ_cons, List.drop_zero, List.take_succ_cons, List.take_zero] at f8
  obtain ⟨v8, outs, g8, h8⟩ := ints_field f8
  simp only [List.cons.injEq, and_true] at g8
  obtain ⟨y9, e9⟩ := hx 9 (by omega)
  have f9 : DataW.trod enc Try.prog w base spare held m 3 (([dd0, dd1, dd2, dd3, dd4, dd5, dd6, dd7, dd8, dd9].drop 9).take (Try.prog.cellsOf 3)) = some y9 := (hf 9 _ rfl).trans e9
  rw [c3] at f9
  simp only [List.drop_succ_cons, List.drop_zero, List.take_succ_cons, List.take_zero] at f9
  obtain ⟨far, g9, h9⟩ := int_field f9
  simp only [List.cons.injEq, and_true] at g9
  subst g0 g1 g2 g3 g4 g5 g6 g7 g8 g9
  refine ⟨_, ⟨op, dst, ra, rb, n, size, name, args, outs, far⟩, ?_, ⟨_, _, rfl, h7, h8⟩, h6, ?_, h0, h1, h2, h3, h5, h9⟩
  · rfl
  · have := u64_wf' h4
    exact this
set_option maxRecDepth 100000 in
theorem tops_open {n : Nat} {cs : List Value} {y : DataW H × List MemPlace} (h : DataW.trod enc Try.prog w base spare held n 22 cs = some y) : ∃ v ts, cs = [v] ∧ TopsAt w v ts := by
  have c59 : Try.prog.cellsOf 59 = 2 := by kernel_rfl
  have c3 : Try.prog.cellsOf 3 = 1 := by kernel_rfl
  have c9 : Try.prog.cellsOf 9 = 1 := by kernel_rfl
  rcases Deep.open_slice Try.underlying22 h with ⟨rfl, _⟩ | ⟨a, len, cap, m, k, D, Pl, rfl, _, hle, hmax, hm, _, hcell⟩
  · exact ⟨_, [], rfl, none, 0, rfl, by simp, by simp, fun k hk => absurd hk (Nat.not_lt_zero _)⟩
  · have hlm : len ≤ m := by rw [hm]; split <;> omega
    obtain ⟨ts, hz, hr⟩ := pairs_list len (fun j (t : Tp) => w.cell? (a.add (j * 2)) = some (.string t.1) ∧ w.cell? ((a.add (j * 2)).add 1) = some (.int .i64 t.2) ∧ t.1.size ≤ maxLen ∧ (Lit.int .i64 t.2).wf = true) fun j hj => by
      obtain ⟨cs', h1, h2⟩ := hcell j (by omega)
      rw [c59] at h1
      obtain ⟨_, hcl, hat⟩ := World.cells?_some h1
      obtain ⟨xs, m', _, _, _, hlen, hf⟩ := DataW.trod_struct Try.underlying59 h2
      match cs', hcl with
      | [d0, d1], _ =>
        obtain ⟨z0, e0⟩ : ∃ z, xs[0]? = some z := ⟨xs[0]'(by rw [hlen]; decide), List.getElem?_eq_getElem _⟩
        obtain ⟨z1, e1⟩ : ∃ z, xs[1]? = some z := ⟨xs[1]'(by rw [hlen]; decide), List.getElem?_eq_getElem _⟩
        have f0 : DataW.trod enc Try.prog w base spare held m' 9 (([d0, d1].drop 0).take (Try.prog.cellsOf 9)) = some z0 := (hf 0 _ rfl).trans e0
        have f1 : DataW.trod enc Try.prog w base spare held m' 3 (([d0, d1].drop 1).take (Try.prog.cellsOf 3)) = some z1 := (hf 1 _ rfl).trans e1
        rw [c9] at f0
        rw [c3] at f1
        simp only [List.drop_succ_cons, List.drop_zero, List.take_succ_cons, List.take_zero] at f0 f1
        obtain ⟨s, g0, hs⟩ := str_field f0
        obtain ⟨x, g1, hx⟩ := int_field f1
        simp only [List.cons.injEq, and_true] at g0 g1
        subst g0 g1
        have b0 := hat (i := 0) (by simp)
        have b1 := hat (i := 1) (by simp)
        refine ⟨(s, x), ?_, ?_, hs, hx⟩
        · simpa [Addr.add] using b0
        · simpa using b1
    refine ⟨_, ts, rfl, some a, cap, by rw [hz], by omega, hmax, fun j hj => ?_⟩
    have := hr j ts[j] (List.getElem?_eq_getElem hj)
    exact ⟨a, rfl, this.1, this.2.1, this.2.2.1, this.2.2.2⟩
set_option maxRecDepth 100000 in
theorem code_open {n : Nat} {cs : List Value} {y : DataW H × List MemPlace} (h : DataW.trod enc Try.prog w base spare held n 42 cs = some y) : ∃ v code, cs = [v] ∧ CodeAt w v code ∧ ∀ i ∈ code, InsWf i := by
  have c47 : Try.prog.cellsOf 47 = 10 := by kernel_rfl
  rcases Deep.open_slice Try.underlying42 h with ⟨rfl, _⟩ | ⟨a, len, cap, m, k, D, Pl, rfl, _, hle, hmax, hm, _, hcell⟩
  · exact ⟨_, [], rfl, ⟨none, 0, rfl, by simp, by simp, fun k hk => absurd hk (Nat.not_lt_zero _)⟩, fun i hi => by cases hi⟩
  · have hlm : len ≤ m := by rw [hm]; split <;> omega
    obtain ⟨l, hz, hr⟩ := pairs_list len (fun j (t : Value × FIns) => InsAt w t.1 t.2 ∧ InsWf t.2 ∧ ∀ i u, t.1.cells[i]? = some u → w.cell? ((a.add (j * 10)).add i) = some u) fun j hj => by
      obtain ⟨cs', h1, h2⟩ := hcell j (by omega)
      rw [c47] at h1
      obtain ⟨_, hcl, hat⟩ := World.cells?_some h1
      obtain ⟨v, i, e, hi, hwf⟩ := ins_cells h2
      subst e
      refine ⟨(v, i), hi, hwf, fun q u hq => ?_⟩
      have hlt : q < v.cells.toList.length := by
        have := (Array.getElem?_eq_some_iff.1 hq).1
        simpa using this
      have := hat (i := q) (by rw [hcl] at hlt; exact hlt)
      have hq2 : v.cells.toList[q]? = some u := by simpa using hq
      rw [List.getElem?_eq_getElem hlt] at hq2
      cases hq2
      exact this.trans (List.getElem?_eq_getElem hlt)
    refine ⟨_, l.map (·.2), rfl, ⟨some a, cap, by rw [List.length_map, hz], by rw [List.length_map]; omega, hmax, fun j hj => ?_⟩, fun i hi => ?_⟩
    · have hjl : j < l.length := by simpa using hj
      have := hr j l[j] (List.getElem?_eq_getElem hjl)
      exact ⟨a, l[j].1, rfl, by rw [List.getElem_map]; exact this.1, this.2.2⟩
    · obtain ⟨t, ht, rfl⟩ := List.mem_map.1 hi
      obtain ⟨j, hj⟩ := List.getElem?_of_mem ht
      exact (hr j t hj).2.1
/-- what is so of a function that was read -/
def FnWf (f : FFn) : Prop := f.name.size ≤ maxLen ∧ ∀ i ∈ f.code, InsWf i
set_option maxRecDepth 100000 in
theorem fn_cells {n : Nat} {cs : List Value} {y : DataW H × List MemPlace} (h : DataW.trod enc Try.prog w base spare held n 54 cs = some y) : ∃ (v : Value) (f : FFn), cs = v.cells.toList ∧ FnAt w v f ∧ FnWf f := by
  obtain ⟨xs, m, _, _, hl, hlen, hf⟩ := DataW.trod_struct Try.underlying54 h
  have c9 : Try.prog.cellsOf 9 = 1 := by kernel_rfl
  have c45 : Try.prog.cellsOf 45 = 1 := by kernel_rfl
  have c42 : Try.prog.cellsOf 42 = 1 := by kernel_rfl
  have c54 : Try.prog.cellsOf 54 = 5 := by kernel_rfl
  rw [c54] at hl
  have hx : ∀ k, k < 5 → ∃ y, xs[k]? = some y := fun k hk => ⟨xs[k]'(by rw [hlen]; exact hk), List.getElem?_eq_getElem _⟩
  obtain ⟨dd0, dd1, dd2, dd3, dd4, rfl⟩ := five_of cs hl
  obtain ⟨y0, e0⟩ := hx 0 (by omega)
  obtain ⟨y1, e1⟩ := hx 1 (by omega)
  obtain ⟨y2, e2⟩ := hx 2 (by omega)
  obtain ⟨y3, e3⟩ := hx 3 (by omega)
  obtain ⟨y4, e4⟩ := hx 4 (by omega)
  have f0 : DataW.trod enc Try.prog w base spare held m 9 (([dd0, dd1, dd2, dd3, dd4].drop 0).take (Try.prog.cellsOf 9)) = some y0 := (hf 0 _ rfl).trans e0
  have f1 : DataW.trod enc Try.prog w base spare held m 45 (([dd0, dd1, dd2, dd3, dd4].drop 1).take (Try.prog.cellsOf 45)) = some y1 := (hf 1 _ rfl).trans e1
  have f2 : DataW.trod enc Try.prog w base spare held m 45 (([dd0, dd1, dd2, dd3, dd4].drop 2).take (Try.prog.cellsOf 45)) = some y2 := (hf 2 _ rfl).trans e2
  have f3 : DataW.trod enc Try.prog w base spare held m 45 (([dd0, dd1, dd2, dd3, dd4].drop 3).take (Try.prog.cellsOf 45)) = some y3 := (hf 3 _ rfl).trans e3
  have f4 : DataW.trod enc Try.prog w base spare held m 42 (([dd0, dd1, dd2, dd3, dd4].drop 4).take (Try.prog.cellsOf 42)) = some y4 := (hf 4 _ rfl).trans e4
  rw [c9] at f0
  rw [c45] at f1 f2 f3
  rw [c42] at f4
  simp only [List.drop_succ_cons, List.drop_zero, List.take_succ_cons, List.take_zero] at f0 f1 f2 f3 f4
  obtain ⟨name, g0, h0⟩ := str_field f0
  obtain ⟨v1, params, g1, h1⟩ := ints_field f1
  obtain ⟨v2, kinds, g2, h2⟩ := ints_field f2
  obtain ⟨v3, slots, g3, h3⟩ := ints_field f3
  obtain ⟨v4, code, g4, h4, h5⟩ := code_open f4
  simp only [List.cons.injEq, and_true] at g0 g1 g2 g3 g4
  subst g0 g1 g2 g3 g4
  exact ⟨_, ⟨name, params, kinds, slots, code⟩, rfl, ⟨_, _, _, _, rfl, h1, h2, h3, h4⟩, h0, h5⟩
set_option maxRecDepth 100000 in
theorem fns_open {n : Nat} {cs : List Value} {y : DataW H × List MemPlace} (h : DataW.trod enc Try.prog w base spare held n 23 cs = some y) : ∃ v fs, cs = [v] ∧ FnsAt w v fs ∧ ∀ f ∈ fs, FnWf f := by
  have c54 : Try.prog.cellsOf 54 = 5 := by kernel_rfl
  rcases Deep.open_slice Try.underlying23 h with ⟨rfl, _⟩ | ⟨a, len, cap, m, k, D, Pl, rfl, _, hle, hmax, hm, _, hcell⟩
  · exact ⟨_, [], rfl, ⟨none, 0, rfl, by simp, by simp, fun k hk => absurd hk (Nat.not_lt_zero _)⟩, fun i hi => by cases hi⟩
  · have hlm : len ≤ m := by rw [hm]; split <;> omega
    obtain ⟨l, hz, hr⟩ := pairs_list len (fun j (t : Value × FFn) => FnAt w t.1 t.2 ∧ FnWf t.2 ∧ ∀ i u, t.1.cells[i]? = some u → w.cell? ((a.add (j * 5)).add i) = some u) fun j hj => by
      obtain ⟨cs', h1, h2⟩ := hcell j (by omega)
      rw [c54] at h1
      obtain ⟨_, hcl, hat⟩ := World.cells?_some h1
      obtain ⟨v, i, e, hi, hwf⟩ := fn_cells h2
      subst e
      refine ⟨(v, i), hi, hwf, fun q u hq => ?_⟩
      have hlt : q < v.cells.toList.length := by
        have := (Array.getElem?_eq_some_iff.1 hq).1
        simpa using this
      have := hat (i := q) (by rw [hcl] at hlt; exact hlt)
      have hq2 : v.cells.toList[q]? = some u := by simpa using hq
      rw [List.getElem?_eq_getElem hlt] at hq2
      cases hq2
      exact this.trans (List.getElem?_eq_getElem hlt)
    refine ⟨_, l.map (·.2), rfl, ⟨some a, cap, by rw [List.length_map, hz], by rw [List.length_map]; omega, hmax, fun j hj => ?_⟩, fun i hi => ?_⟩
    · have hjl : j < l.length := by simpa using hj
      have := hr j l[j] (List.getElem?_eq_getElem hjl)
      exact ⟨a, l[j].1, rfl, by rw [List.getElem_map]; exact this.1, this.2.2⟩
    · obtain ⟨t, ht, rfl⟩ := List.mem_map.1 hi
      obtain ⟨j, hj⟩ := List.getElem?_of_mem ht
      exact (hr j t hj).2.1
set_option maxRecDepth 100000 in
/-- a unit that came in -/
theorem unit_in {r : Reach} {b0 : Nat} {v : Value} {d : DataW H} {p : List MemPlace} (hv : Value.okWide Try.prog w r b0 25 v) (h : DataW.Trod enc Try.prog w base spare held 25 v d p) : ∃ vt vf ts fs, v = .agg #[vt, vf] ∧ TopsAt w vt ts ∧ FnsAt w vf fs ∧ ∀ f ∈ fs, FnWf f := by
  have c25 : Try.prog.cellsOf 25 = 2 := by kernel_rfl
  have c22 : Try.prog.cellsOf 22 = 1 := by kernel_rfl
  have c23 : Try.prog.cellsOf 23 = 1 := by kernel_rfl
  obtain ⟨⟨cs⟩, rfl, hsz⟩ := okWide_struct Try.underlying25 hv
  rw [c25] at hsz
  obtain ⟨fuel, hf0⟩ := h
  obtain ⟨xs, m, _, _, hl, hlen, hf⟩ := DataW.trod_struct Try.underlying25 hf0
  obtain ⟨dd0, dd1, rfl⟩ := two_of cs (by simpa using hsz)
  obtain ⟨y0, e0⟩ : ∃ z, xs[0]? = some z := ⟨xs[0]'(by rw [hlen]; decide), List.getElem?_eq_getElem _⟩
  obtain ⟨y1, e1⟩ : ∃ z, xs[1]? = some z := ⟨xs[1]'(by rw [hlen]; decide), List.getElem?_eq_getElem _⟩
  have f0 : DataW.trod enc Try.prog w base spare held m 22 (([dd0, dd1].drop 0).take (Try.prog.cellsOf 22)) = some y0 := (hf 0 _ rfl).trans e0
  have f1 : DataW.trod enc Try.prog w base spare held m 23 (([dd0, dd1].drop 1).take (Try.prog.cellsOf 23)) = some y1 := (hf 1 _ rfl).trans e1
  rw [c22] at f0
  rw [c23] at f1
  simp only [List.drop_succ_cons, List.drop_zero, List.take_succ_cons, List.take_zero] at f0 f1
  obtain ⟨vt, ts, g0, h0⟩ := tops_open f0
  obtain ⟨vf, fs, g1, h1, h2⟩ := fns_open f1
  simp only [List.cons.injEq, and_true] at g0 g1
  subst g0 g1
  exact ⟨_, _, ts, fs, rfl, h0, h1, h2⟩
end
end Go.Proofs.Ytpmbakhnamlooaa
