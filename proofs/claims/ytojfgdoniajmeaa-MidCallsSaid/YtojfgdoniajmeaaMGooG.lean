/- Package mid: are all names of a function known, and its calls as they must? -/
import Derived.Test.YtojfgdoniajmeaaMGooF
namespace Go.Proofs.Ytojfgdoniajmeaa
set_option linter.unusedVariables false
set_option linter.unusedSimpArgs false
open Go.RowKit

def hasTop (l : List Tp) (s : List UInt8) : Bool := l.any fun t => t.1.data.toList == s
def okTop (pre : List Tp) (t : Tp) : Bool := !(t.1.data.toList == []) && !hasTop pre t.1.data.toList && !decide (t.2 < 0) && !decide (4194304 < t.2)
def topsB (pre : List Tp) : List Tp → Bool
  | [] => true
  | t :: l => okTop pre t && topsB (pre ++ [t]) l
def mainB (fs : List FFn) : Bool := match fnOf fs [109, 97, 105, 110] with
  | none => false
  | some g => g.params.length == 0
theorem topsB_cut (ts : List Tp) {k : Nat} (h : k < ts.length) : topsB (ts.take k) (ts.drop k) = (okTop (ts.take k) ts[k] && topsB (ts.take (k + 1)) (ts.drop (k + 1))) := by
  rw [List.drop_eq_getElem_cons h, List.take_succ_eq_append_getElem h]
  rfl
/-- the map of the variables' names -/
def topSet (l : List Tp) (s : List UInt8) : Option Value := if hasTop l s then some (.bool true) else none
theorem topSet_get (l : List Tp) (s : List UInt8) : (topSet l s).getD (.bool false) = .bool (hasTop l s) := by
  unfold topSet
  cases hasTop l s <;> rfl
theorem topSet_snoc (l : List Tp) (t : Tp) (s : List UInt8) : (if s = t.1.data.toList then some (Value.bool true) else topSet l s) = topSet (l ++ [t]) s := by
  unfold topSet hasTop
  rw [List.any_append]
  by_cases e : s = t.1.data.toList
  · subst e; simp
  · rw [if_neg e]
    have : (t.1.data.toList == s) = false := beq_false_of_ne fun h => e h.symm
    rw [List.any_cons, List.any_nil, this, Bool.or_false, Bool.or_false]
theorem zero_bool (w : World) : (zeroValue 4).run Try.prog w = .ok (.bool false) w := by kernel_rfl
theorem SMap.congr {P : Program} {k : TypeId} {w : World} {b n : Nat} {g g' : List UInt8 → Option Value} (h : SMap P k w b n g) (e : ∀ s, g s = g' s) : SMap P k w b n g' := by
  have : g = g' := funext e
  rw [← this]; exact h
/-- each name's last function stands there -/
def FnvOk (w0 : World) (fs : List FFn) (fv : List UInt8 → Option Value) : Prop := ∀ s, (∀ f, fnOf fs s = some f → ∃ v, fv s = some v ∧ FnAt w0 v f) ∧ (fnOf fs s = none → fv s = none)
theorem FnvOk.snoc {w0 : World} {l : List FFn} {fv : List UInt8 → Option Value} {f : FFn} {v : Value} (h : FnvOk w0 l fv) (hf : FnAt w0 v f) : FnvOk w0 (l ++ [f]) (fun x => if x = f.name.data.toList then some v else fv x) := by
  intro s
  unfold fnOf
  rw [List.reverse_append, List.reverse_singleton, List.singleton_append, List.find?_cons]
  by_cases e : f.name.data.toList = s
  · have eb : (f.name.data.toList == s) = true := beq_iff_eq.2 e
    rw [eb]
    simp only
    refine ⟨fun f' h => ?_, fun h => by cases h⟩
    cases h
    exact ⟨_, by rw [if_pos e.symm], hf⟩
  · have eb : (f.name.data.toList == s) = false := beq_false_of_ne e
    rw [eb]
    simp only
    rw [if_neg (fun h => e h.symm)]
    exact h s
theorem fnv_get {w0 : World} {fs : List FFn} {fv : List UInt8 → Option Value} (h : FnvOk w0 fs fv) (s : List UInt8) : ∃ v, (fv s).getD (.agg #[.string ⟨#[]⟩, .slice none 0 0, .slice none 0 0, .slice none 0 0, .slice none 0 0]) = v ∧ FnAt w0 v (getFn fs s) ∧ (fv s).isSome = (fnOf fs s).isSome := by
  cases hf : fnOf fs s with
  | none =>
    rw [(h s).2 hf]
    exact ⟨_, rfl, by rw [getFn, hf]; exact fnAt_zero w0, rfl⟩
  | some g =>
    obtain ⟨v, hv, ha⟩ := (h s).1 g hf
    rw [hv]
    exact ⟨_, rfl, by rw [getFn, hf]; exact ha, rfl⟩
theorem fnOf_mem {fs : List FFn} {s : List UInt8} {g : FFn} (h : fnOf fs s = some g) : g ∈ fs := List.mem_reverse.1 (List.mem_of_find?_eq_some h)
theorem getFn_ok {fs : List FFn} (h : ∀ f ∈ fs, FnOk f) (s : List UInt8) : FnOk (getFn fs s) := by
  unfold getFn
  cases hf : fnOf fs s with
  | none => exact ⟨by simp [zeroFn], by simp [zeroFn], by simp [zeroFn], by simp [zeroFn], fun i hi => by simp [zeroFn] at hi, by simp [zeroFn, ByteArray.size, maxLen]⟩
  | some g => exact h g (fnOf_mem hf)
theorem mainB_eq (fs : List FFn) : mainB fs = ((fnOf fs [109, 97, 105, 110]).isSome && ((getFn fs [109, 97, 105, 110]).params.length == 0)) := by
  unfold mainB getFn
  cases fnOf fs [109, 97, 105, 110] <;> simp
def argsM (kf kg : List Int) (l m : List Int) : Bool := (l.zip m).all fun p => kf.getD p.1.toNat 0 == kg.getD p.2.toNat 0
/-- of an instruction, the names -/
def insMB (ts : List Tp) (fs : List FFn) (f : FFn) (i : FIns) : Bool :=
  !(i.op == 6 && !hasTop ts i.name.data.toList) && !(i.op == 16 && (!(fnOf fs i.name.data.toList).isSome || (i.args.length : Int) != (getFn fs i.name.data.toList).params.length || (decide (0 ≤ i.dst) && clash (ansK (getFn fs i.name.data.toList).kinds (getFn fs i.name.data.toList).code 0).1 (f.kinds.getD i.dst.toNat 0)) || !argsM f.kinds (getFn fs i.name.data.toList).kinds i.args (getFn fs i.name.data.toList).params))
theorem good16 {f : FFn} {i : FIns} (h : goodIM f i = true) (e : i.op = 16) : (i.dst < 0 ∨ (0 ≤ i.dst ∧ i.dst < f.kinds.length)) ∧ ∀ r ∈ i.args, 0 ≤ r ∧ r < f.kinds.length := by
  rw [goodIM_eq, e] at h
  simp only [Bool.and_eq_true, List.all_eq_true] at h
  have h2 := h.1.1.1.1.1.1.1.1.1.2
  have h1 := h.1.1.1.1.1.1.1.1.1.1.1.1.2
  have e3 : (formD 16).dst = 3 := rfl
  rw [e3] at h1
  constructor
  · unfold regM at h1
    rw [if_neg (by decide)] at h1
    simp only [Bool.or_eq_true, Bool.and_eq_true, decide_eq_true_eq, beq_iff_eq] at h1
    omega
  · intro r hr
    exact regM_in (h2 r hr).2 (by decide)
theorem ansK_range {ks : List Int} (h12 : ∀ k ∈ ks, k = 1 ∨ k = 2) : ∀ (l : List FIns) (kd : Int), (∀ i ∈ l, i.op = 17 → i.a < 0 ∨ i.a < ks.length) → (kd = 0 ∨ kd = 1 ∨ kd = 2) → ((ansK ks l kd).1 = 0 ∨ (ansK ks l kd).1 = 1 ∨ (ansK ks l kd).1 = 2)
  | [], kd, _, h => h
  | i :: l, kd, hr, h => by
    rw [ansK]
    have hr2 := fun j hj => hr j (List.mem_cons_of_mem _ hj)
    split
    · rename_i hc
      split
      · exact .inl rfl
      · refine ansK_range h12 l _ hr2 (.inr (h12 _ ?_))
        have := hr i (List.mem_cons_self ..) hc.1
        rw [List.getD_eq_getElem?_getD, List.getElem?_eq_getElem (show i.a.toNat < ks.length by omega)]
        exact List.getElem_mem _
    · exact ansK_range h12 l _ hr2 h
theorem getFn_ans {fs : List FFn} (h : ∀ f ∈ fs, funM f = true) (s : List UInt8) : AnsOk (getFn fs s) := by
  unfold getFn
  cases hf : fnOf fs s with
  | none => exact ⟨fun k hk => by simp [zeroFn] at hk, fun i hi => by simp [zeroFn] at hi⟩
  | some g => exact ansOk_of (h g (fnOf_mem hf))
theorem getFn_par {fs : List FFn} (h : ∀ f ∈ fs, funM f = true) (s : List UInt8) : ∀ r ∈ (getFn fs s).params, 0 ≤ r ∧ r < (getFn fs s).kinds.length := by
  unfold getFn
  cases hf : fnOf fs s with
  | none => intro r hr; simp [zeroFn] at hr
  | some g => exact fun r hr => regM_in ((funM_parts (h g (fnOf_mem hf))).2.2.1 r hr) (by decide)
theorem zip_step {kf kg l m : List Int} {j : Nat} (h1 : j < l.length) (h2 : j < m.length) : ((l.zip m).take (j + 1)).all (fun p => kf.getD p.1.toNat 0 == kg.getD p.2.toNat 0) = (((l.zip m).take j).all (fun p => kf.getD p.1.toNat 0 == kg.getD p.2.toNat 0) && (kf.getD (l.getD j 0).toNat 0 == kg.getD (m.getD j 0).toNat 0)) := by
  have hz : j < (l.zip m).length := by rw [List.length_zip]; omega
  rw [List.take_succ_eq_append_getElem hz, List.all_append, List.getElem_zip]
  rw [List.getD_eq_getElem?_getD (l := l), List.getElem?_eq_getElem h1, List.getD_eq_getElem?_getD (l := m), List.getElem?_eq_getElem h2]
  simp
theorem ins_false {ts : List Tp} {fs : List FFn} {f : FFn} {x : FIns} (hx : x ∈ f.code) (h : insMB ts fs f x = false) : f.code.all (insMB ts fs f) = false := by
  rw [List.all_eq_false]
  exact ⟨x, hx, by rw [h]; simp⟩

section
variable {w0 w w' : World}
def planCa14 : Plan where
  T := [[], [0], [], [0, 1, 2], [0, 1, 2, 3], [], [5], [], [7], [], [7, 8, 9], [7, 8, 9, 10], [5, 6, 7, 8, 9, 10, 11], [5, 6, 7, 8, 9, 10, 11, 12], [0, 1, 2, 3, 4, 5, 6, 7, 8, 9, 10, 11, 12, 13]]
  rd := [[], [(0, some 82)], [], [(1, some 83), (2, some 84)], [(3, some 85)], [], [(5, some 87)], [], [(7, some 89)], [], [(8, some 90), (9, some 91)], [(10, some 92)], [(6, some 88), (11, some 93)], [(12, some 94)]]
  all := [(13, some 95), (12, some 94), (11, some 93), (10, some 92), (9, some 91), (8, some 90), (7, some 89), (6, some 88), (5, some 87), (4, some 86), (3, some 85), (2, some 84), (1, some 83), (0, some 82)]
  calm := [true, true, true, true, true, true, true, true, true, true, true, true, true, true]
  hard := []
  fresh := [false, false, false, false, false, false, false, false, false, false, false, false, false, false]

set_option maxHeartbeats 4000000 in
set_option maxRecDepth 100000 in
theorem calls_any {v : Value} {f : FFn} {ts : List Tp} {fs : List FFn} {fv : List UInt8 → Option Value} {bt bf c d : Nat} (hf : FnAt w0 v f) (hok : FnOk f) (hnm : ∀ i ∈ f.code, i.name.size ≤ maxLen) (hfm : funM f = true) (hfs : ∀ g ∈ fs, FnOk g ∧ funM g = true) (hfv : FnvOk w0 fs fv)
    (mt : SMap Try.prog 9 w bt c (topSet ts)) (mf : SMap Try.prog 9 w bf d fv) (hw : ∀ b, b < w0.heap.size → w.heap[b]? = w0.heap[b]?) (hz : w0.heap.size ≤ w.heap.size) :
    Calls Try.prog 19 #[v, .map (some bt), .map (some bf)] w fun e w' => e = .returned (.bool (f.code.all (insMB ts fs f))) ∧ Step (fun _ => False) w w' := by
  obtain ⟨vp, vk, vs, vc, rfl, hpar, hkin, hslo, hcode⟩ := hf
  have hkin := hkin.old hw
  obtain ⟨⟨pp, cp, rfl, _, _, _⟩, _⟩ := hpar
  obtain ⟨pk, ck, rfl, _, _, _⟩ := hkin.ex
  obtain ⟨⟨ps, cs, rfl, _, _, _⟩, _⟩ := hslo
  obtain ⟨pc, cc, rfl, hcc, hcm, hcl⟩ := hcode
  have HW := Lib.hid hw
  have HCL := Lib.hid hcl
  have HFS := Lib.hid hfs
  have HFV := Lib.hid hfv
  have HNM := Lib.hid hnm
  have HK12 := Lib.hid (ansOk_of hfm).k12
  have HGI := Lib.hid (funM_parts hfm).2.2.2.2.1
  have HOK := Lib.hid hok
  have hfcl := hok.code
  obtain ⟨zz, hzz⟩ : ∃ zz, zz = f.code.all (insMB ts fs f) := ⟨_, rfl⟩
  rw [← hzz]
  have k1 := heap_alloc_new w (.cells #[.string f.name, .slice pp f.params.length cp, .slice pk f.kinds.length ck, .slice ps f.slots.length cs, .slice pc f.code.length cc] 46 (0, 0))
  have s1 := Step.alloc (fun _ => False) w (.cells #[.string f.name, .slice pp f.params.length cp, .slice pk f.kinds.length ck, .slice ps f.slots.length cs, .slice pc f.code.length cc] 46 (0, 0))
  go_enter Try.func19, Try.ntmps19
  go_upto_region 1 with fail
  generalize w.alloc (.cells #[.string f.name, .slice pp f.params.length cp, .slice pk f.kinds.length ck, .slice ps f.slots.length cs, .slice pc f.code.length cc] 46 (0, 0)) = w1 at *
  have S1 := Lib.hid s1
  have K1 := Lib.hid (show ∀ y, Step (fun _ => False) w1 y → _ from fun y (hy : Step (fun _ => False) w1 y) => cells_known5 (hy.keeps k1))
  have HKI := Lib.hid (show ∀ y, Step (fun _ => False) w1 y → IntsAt .i64 y (.slice pk f.kinds.length ck) f.kinds from fun y hy => hkin.step (s1.then hy) fun _ h => h.elim)
  have LT := Lib.hid (show ∀ y, Step (fun _ => False) w1 y → ∀ nm : ByteArray, nm.size ≤ maxLen → (Instr.lookup 54 (.map (some bt)) (.string nm) false).run Try.prog y = .ok (.bool (hasTop ts nm.data.toList)) y from fun y hy nm hn => by
    have := (mt.same ((s1.then hy).block _ mt.lt fun x => x)).lookup (t := 54) (e := 4) Try.underlying9 Try.underlying54 (zero_bool y) hn
    rw [topSet_get] at this
    exact this)
  have LF := Lib.hid (show ∀ y, Step (fun _ => False) w1 y → ∀ nm : ByteArray, nm.size ≤ maxLen → _ from fun y (hy : Step (fun _ => False) w1 y) nm hn => (mf.same ((s1.then hy).block _ mf.lt fun x => x)).lookup_ok (t := 55) (e := 46) Try.underlying9 Try.underlying55 (zero_fn y) hn)
  have HZ := Lib.hid hzz
  obtain ⟨f0, f1, f2, f3, f4, _⟩ := K1.out w1 (Step.refl _ _)
  clear k1 s1 hw hcl hkin hzz hfs hfv hnm hfm hok mt mf
  go_wp2_with fail
  clear f0 f1 f2 f3 f4
  go_loopw [8, 9, 10, 11, 12, 13, 14, 18] (fun _ _ _ _ _ _ _ q wr => ∃ (k : Nat), k ≤ f.code.length ∧ q = .int .i64 k ∧ (f.code.take k).all (insMB ts fs f) = true ∧ Step (fun _ => False) w1 wr) (fun _ _ _ _ _ _ _ q _ => f.code.length - (intOf q).toNat)
  case atStart => exact ⟨0, by omega, rfl, by simp, Step.refl _ _⟩
  case round =>
  obtain ⟨k, hk, rfl, hall, hst⟩ := hrel
  have HALL := Lib.hid hall
  have ST := Lib.hid hst
  clear hall hst
  have HS := Lib.hid (S1.out.then ST.out)
  by_cases hlt : k < f.code.length
  · have hd : decide (k < f.code.length) = true := decide_eq_true hlt
    obtain ⟨ac, vi, rfl, hins, hcells⟩ := HCL.out k hlt
    obtain ⟨va, vo, rfl, hargs, ⟨⟨po, co, rfl, _, _, _⟩, _⟩⟩ := hins
    have HARGS := Lib.hid (show ∀ y, Step (fun _ => False) w1 y → IntsAt .i64 y va f.code[k].args from fun y hy => (hargs.old (w' := w) HW.out).step (S1.out.then hy) fun _ h => h.elim)
    obtain ⟨⟨pa, ca, rfl, _, _, _⟩, _⟩ := hargs
    have HTK := Lib.hid (show (f.code.take (k + 1)).all (insMB ts fs f) = insMB ts fs f f.code[k] from by
      rw [List.take_succ_eq_append_getElem hlt, List.all_append, HALL.out]; simp)
    have HMEM := Lib.hid (List.getElem_mem hlt)
    generalize hfi : f.code[k] = i at *
    have HBAD := Lib.hid (show insMB ts fs f i = false → zz = false from fun h => by rw [HZ.out]; exact ins_false HMEM.out h)
    have HN := Lib.hid (HNM.out i HMEM.out)
    have HG := Lib.hid (HGI.out i HMEM.out)
    have hal : i.args.length ≤ 1000000 := (HOK.out.ins i HMEM.out).2.1
    obtain ⟨op, dst, a, b, n, size, name, args, outs, tt⟩ := i
    simp only at hcells HN HARGS hal
    have HIB := Lib.hid (show insMB ts fs f ⟨op, dst, a, b, n, size, name, args, outs, tt⟩ = (!(op == 6 && !hasTop ts name.data.toList) && !(op == 16 && (!(fnOf fs name.data.toList).isSome || (args.length : Int) != (getFn fs name.data.toList).params.length || (decide (0 ≤ dst) && clash (ansK (getFn fs name.data.toList).kinds (getFn fs name.data.toList).code 0).1 (f.kinds.getD dst.toNat 0)) || !argsM f.kinds (getFn fs name.data.toList).kinds args (getFn fs name.data.toList).params))) from rfl)
    have HG16 := Lib.hid (show op = 16 → _ from fun e => good16 HG.out e)
    generalize insMB ts fs f ⟨op, dst, a, b, n, size, name, args, outs, tt⟩ = zi at *
    clear hfi HG
    have ce : ∀ j u, (#[.int .i64 op, .int .i64 dst, .int .i64 a, .int .i64 b, .int .u64 n, .int .i64 size, .string name, .slice pa args.length ca, .slice po outs.length co, .int .i64 tt] : Array Value)[j]? = some u → wr.cell? ((ac.add (k * 10)).add j) = some u := fun j u h => by
      have h1 := hcells j u h
      exact (HS.out.cell (Nat.lt_of_lt_of_le (block_lt h1) hz) fun x => x).trans ((cell_of (HW.out _ (block_lt h1))).trans h1)
    have e0 : wr.cell? (ac.add (k * 10)) = some (.int .i64 op) := by have := ce 0 _ rfl; simpa [Addr.add] using this
    have e1 : wr.cell? ⟨(ac.add (k * 10)).block, (ac.add (k * 10)).off + 1, none⟩ = some (.int .i64 dst) := ce 1 _ rfl
    have e2 : wr.cell? ⟨(ac.add (k * 10)).block, (ac.add (k * 10)).off + 2, none⟩ = some (.int .i64 a) := ce 2 _ rfl
    have e3 : wr.cell? ⟨(ac.add (k * 10)).block, (ac.add (k * 10)).off + 3, none⟩ = some (.int .i64 b) := ce 3 _ rfl
    have e4 : wr.cell? ⟨(ac.add (k * 10)).block, (ac.add (k * 10)).off + 4, none⟩ = some (.int .u64 n) := ce 4 _ rfl
    have e5 : wr.cell? ⟨(ac.add (k * 10)).block, (ac.add (k * 10)).off + 5, none⟩ = some (.int .i64 size) := ce 5 _ rfl
    have e6 : wr.cell? ⟨(ac.add (k * 10)).block, (ac.add (k * 10)).off + 6, none⟩ = some (.string name) := ce 6 _ rfl
    have e7 : wr.cell? ⟨(ac.add (k * 10)).block, (ac.add (k * 10)).off + 7, none⟩ = some (.slice pa args.length ca) := ce 7 _ rfl
    have e8 : wr.cell? ⟨(ac.add (k * 10)).block, (ac.add (k * 10)).off + 8, none⟩ = some (.slice po outs.length co) := ce 8 _ rfl
    have e9 : wr.cell? ⟨(ac.add (k * 10)).block, (ac.add (k * 10)).off + 9, none⟩ = some (.int .i64 tt) := ce 9 _ rfl
    clear ce hcells
    go_upto_region 4 with fail
    clear e0 e1 e2 e3 e4 e5 e6 e7 e8 e9
    have kb := heap_alloc_new wr (.cells #[.int .i64 op, .int .i64 dst, .int .i64 a, .int .i64 b, .int .u64 n, .int .i64 size, .string name, .slice pa args.length ca, .slice po outs.length co, .int .i64 tt] 42 (0, 0))
    have S5 := Lib.hid (Step.alloc (fun _ => False) wr (.cells #[.int .i64 op, .int .i64 dst, .int .i64 a, .int .i64 b, .int .u64 n, .int .i64 size, .string name, .slice pa args.length ca, .slice po outs.length co, .int .i64 tt] 42 (0, 0)))
    generalize wr.alloc (.cells #[.int .i64 op, .int .i64 dst, .int .i64 a, .int .i64 b, .int .u64 n, .int .i64 size, .string name, .slice pa args.length ca, .slice po outs.length co, .int .i64 tt] 42 (0, 0)) = w5 at *
    have KB := Lib.hid kb
    generalize wr.heap.size = tb at *
    have b0 := cell_known kb (i := 0) rfl
    have b6 := cell_known kb (i := 6) rfl
    clear kb
    have T5 := Lib.hid (ST.out.then S5.out)
    by_cases h6 : op = 6
    · subst h6
      have lk := LT.out w5 T5.out name HN.out
      have HIB2 := Lib.hid (show zi = hasTop ts name.data.toList from by rw [HIB.out]; simp)
      generalize hasTop ts name.data.toList = ht at *
      clear HIB HG16
      cases hht : ht with
      | false =>
        have HF := Lib.hid (HBAD.out (by rw [HIB2.out, hht]))
        rw [hht] at lk
        go_wp2_with fail
        go_ret
        exact ⟨by (rw [HF.out]; try rfl), S1.out.then T5.out⟩
      | true =>
        have HT := Lib.hid (show zi = true from by rw [HIB2.out, hht])
        rw [hht] at lk
        go_wp2_with fail
        go_roundw
        case rel => exact ⟨k + 1, by omega, by go_num, by rw [HTK.out, HT.out], T5.out⟩
        case measure => simp [intOf]; omega
    · have e6 : (op == 6) = false := beq_false_of_ne h6
      by_cases h16 : op = 16
      · subst h16
        obtain ⟨hdst, har⟩ := HG16.out rfl
        have HAR := Lib.hid har
        have HIB2 := Lib.hid (show zi = !(!(fnOf fs name.data.toList).isSome || (args.length : Int) != (getFn fs name.data.toList).params.length || (decide (0 ≤ dst) && clash (ansK (getFn fs name.data.toList).kinds (getFn fs name.data.toList).code 0).1 (f.kinds.getD dst.toNat 0)) || !argsM f.kinds (getFn fs name.data.toList).kinds args (getFn fs name.data.toList).params) from by rw [HIB.out]; simp)
        clear HIB HG16 har h6
        have lk := LF.out w5 T5.out name HN.out
        obtain ⟨gv, hg1, hga, hgb⟩ := fnv_get HFV.out name.data.toList
        rw [hg1, hgb] at lk
        clear hg1 hgb
        have GOK := Lib.hid (getFn_ok (fun g h => (HFS.out g h).1) name.data.toList)
        have GANS := Lib.hid (getFn_ans (fun g h => (HFS.out g h).2) name.data.toList)
        have GPAR := Lib.hid (getFn_par (fun g h => (HFS.out g h).2) name.data.toList)
        have HGA := Lib.hid hga
        obtain ⟨wp, wk, ws, wc', egv, hgp, hgk, ⟨⟨qs, rs, rfl, _, _, _⟩, _⟩, ⟨qcd, rc, rfl, _, _, _⟩⟩ := hga
        subst egv
        have HGP := Lib.hid (show ∀ y, Step (fun _ => False) w1 y → IntsAt .i64 y wp (getFn fs name.data.toList).params from fun y hy => (hgp.old (w' := w) HW.out).step (S1.out.then hy) fun _ h => h.elim)
        have HGK := Lib.hid (show ∀ y, Step (fun _ => False) w1 y → IntsAt .i64 y wk (getFn fs name.data.toList).kinds from fun y hy => (hgk.old (w' := w) HW.out).step (S1.out.then hy) fun _ h => h.elim)
        obtain ⟨⟨qp, rp, rfl, _, _, _⟩, _⟩ := hgp
        obtain ⟨⟨qk, rk, rfl, _, _, _⟩, _⟩ := hgk
        generalize getFn fs name.data.toList = g at *
        generalize (fnOf fs name.data.toList).isSome = gb at *
        go_upto_region 8 with fail
        clear lk b0 b6
        have kg := heap_alloc_new w5 (.cells #[.string g.name, .slice qp g.params.length rp, .slice qk g.kinds.length rk, .slice qs g.slots.length rs, .slice qcd g.code.length rc] 46 (0, 0))
        have S7 := Lib.hid (Step.alloc (fun _ => False) w5 (.cells #[.string g.name, .slice qp g.params.length rp, .slice qk g.kinds.length rk, .slice qs g.slots.length rs, .slice qcd g.code.length rc] 46 (0, 0)))
        generalize w5.alloc (.cells #[.string g.name, .slice qp g.params.length rp, .slice qk g.kinds.length rk, .slice qs g.slots.length rs, .slice qcd g.code.length rc] 46 (0, 0)) = w7 at *
        have KG := Lib.hid kg
        generalize w5.heap.size = tg at *
        clear kg
        have T7 := Lib.hid (T5.out.then S7.out)
        obtain ⟨g0, g1, g2, g3, g4, _⟩ := cells_known5 KG.out
        go_wp2_with fail
        refine (answers_any (w0 := w0) HGA.out GOK.out GANS.out (fun b hb => ((S1.out.then T7.out).block b (Nat.lt_of_lt_of_le hb hz) fun x => x).trans (HW.out b hb)) (Nat.le_trans hz (S1.out.then T7.out).size)).mono ?_
        rintro e w8 ⟨rfl, s8⟩
        have S8 := Lib.hid s8
        have T8 := Lib.hid (T7.out.then s8)
        have hkr := ansK_range GANS.out.k12 g.code 0 GANS.out.rets (.inl rfl)
        clear s8 g0 g1 g2 g3 g4
        generalize (ansK g.kinds g.code 0) = ak at *
        obtain ⟨kd, kb_⟩ := ak
        simp only at hkr HIB2
        have HKR := Lib.hid hkr
        clear hkr
        obtain ⟨g0, g1, g2, g3, g4, _⟩ := cells_known5 (S8.out.keeps KG.out)
        obtain ⟨f0, f1, f2, f3, f4, _⟩ := K1.out w8 T8.out
        have kb8 := (S7.out.then S8.out).keeps KB.out
        have b1 := cell_known kb8 (i := 1) rfl
        have b7 := cell_known kb8 (i := 7) rfl
        clear kb8
        cases hgb : gb with
        | false =>
          have HF := Lib.hid (HBAD.out (by rw [HIB2.out, hgb]; rfl))
          clear HIB2
          go_wp2_with fail
          go_ret
          exact ⟨by (rw [HF.out]; try rfl), S1.out.then T8.out⟩
        | true =>
          have HGB := Lib.hid hgb
          clear hgb
          cases hln : ((args.length : Int) != g.params.length) with
          | true =>
            have HF := Lib.hid (HBAD.out (by rw [HIB2.out, HGB.out, hln]; rfl))
            clear HIB2 HGB
            go_wp2_with fail
            go_ret
            exact ⟨by (rw [HF.out]; try rfl), S1.out.then T8.out⟩
          | false =>
            have HLN := Lib.hid hln
            have HIB3 := Lib.hid (show zi = !((decide (0 ≤ dst) && clash kd (f.kinds.getD dst.toNat 0)) || !argsM f.kinds g.kinds args g.params) from by rw [HIB2.out, HGB.out, hln]; rfl)
            clear HIB2 HGB
            have hgl : args.length = g.params.length := by have := HLN.out; simp at this; omega
            have HGL := Lib.hid hgl
            clear hgl
            by_cases hd0 : 0 ≤ dst
            · have d0 : decide (0 ≤ dst) = true := decide_eq_true hd0
              have hdr : 0 ≤ dst ∧ dst < (f.kinds.length : Int) := by omega
              obtain ⟨akk, rfl, fk⟩ := ints_facts (HKI.out w8 T8.out) hdr.1 hdr.2
              have fk := fk w8 (Step.refl _ _)
              have hx := HK12.out (f.kinds.getD dst.toNat 0) (by rw [List.getD_eq_getElem?_getD, List.getElem?_eq_getElem (show dst.toNat < f.kinds.length by omega)]; exact List.getElem_mem _)
              have hor := or3 HKR.out hx
              generalize hx_ : f.kinds.getD dst.toNat 0 = x at *
              clear hx hdst hx_
              cases hcl : clash kd x with
              | true =>
                have HF := Lib.hid (HBAD.out (by rw [HIB3.out, d0, hcl]; rfl))
                rw [hcl] at hor
                clear HIB3 hcl
                go_wp2_with fail
                go_ret
                exact ⟨by (rw [HF.out]; try rfl), S1.out.then T8.out⟩
              | false =>
                have HIB4 := Lib.hid (show zi = !!argsM f.kinds g.kinds args g.params from by rw [HIB3.out, hcl]; simp)
                rw [hcl] at hor
                clear HIB3 hcl
                go_wp2_with fail
                clear fk hor
                have HIB5 := Lib.hid (show zi = argsM f.kinds g.kinds args g.params from by rw [HIB4.out]; simp)
                clear HIB4
                go_loopw [13, 14, 77] (fun _ _ q wr => ∃ j : Nat, j ≤ args.length ∧ q = .int .i64 j ∧ ((args.zip g.params).take j).all (fun p => f.kinds.getD p.1.toNat 0 == g.kinds.getD p.2.toNat 0) = true ∧ Step (fun _ => False) w8 wr) (fun _ _ q _ => args.length - (intOf q).toNat)
                case atStart => exact ⟨0, by omega, rfl, by simp, Step.refl _ _⟩
                case round =>
                obtain ⟨j, hj, rfl, hja, hst⟩ := hrel
                have HJ := Lib.hid hja
                have SJ := Lib.hid hst
                clear hja hst f0 f1 f2 f3 f4 g0 g1 g2 g3 g4 b1 b7
                have TJ := Lib.hid (T8.out.then SJ.out)
                by_cases hjl : j < args.length
                · have hdj : decide (j < args.length) = true := decide_eq_true hjl
                  have hjg : j < g.params.length := by have := HGL.out; omega
                  have HTJ := Lib.hid (zip_step (kf := f.kinds) (kg := g.kinds) (l := args) (m := g.params) hjl hjg)
                  obtain ⟨pa', rfl, fa⟩ := ints_facts (HARGS.out w1 (Step.refl _ _)) (r := j) (by omega) (by omega)
                  obtain ⟨qp', rfl, fp⟩ := ints_facts (HGP.out w1 (Step.refl _ _)) (r := j) (by omega) (by omega)
                  simp only [Int.toNat_natCast] at fa fp
                  have hr1 := HAR.out (args.getD j 0) (by rw [List.getD_eq_getElem?_getD, List.getElem?_eq_getElem hjl]; exact List.getElem_mem _)
                  have hr2 := GPAR.out (g.params.getD j 0) (by rw [List.getD_eq_getElem?_getD, List.getElem?_eq_getElem hjg]; exact List.getElem_mem _)
                  generalize args.getD j 0 = r1 at *
                  generalize g.params.getD j 0 = r2 at *
                  obtain ⟨pk', epk, fk⟩ := ints_facts (HKI.out w1 (Step.refl _ _)) hr1.1 hr1.2
                  cases epk
                  obtain ⟨qk', rfl, gk⟩ := ints_facts (HGK.out w1 (Step.refl _ _)) hr2.1 hr2.2
                  generalize f.kinds.getD r1.toNat 0 = x1 at *
                  generalize g.kinds.getD r2.toNat 0 = x2 at *
                  have FACT := Lib.hid (show ∀ y, Step (fun _ => False) wr y → _ from fun y (hy : Step (fun _ => False) wr y) => And.intro (fk y (TJ.out.then hy)) (And.intro (gk y (TJ.out.then hy)) (And.intro (fp y (TJ.out.then hy)) (And.intro (K1.out y (TJ.out.then hy)) (cells_known5 ((SJ.out.then hy).keeps (S8.out.keeps KG.out)))))))
                  have fa := fa wr TJ.out
                  clear fk gk fp
                  go_upto_region 14 with fail
                  clear fa
                  refine wp_region_each 14 planCa14 (fun _ _ => False) (Step (fun _ => False) wr) (fun _ => True) [Is ?v14_1_0, Is ?v14_1_1, Is ?v14_1_2, Is ?v14_1_3, Is ?v14_1_4, Is ?v14_1_5, Is ?v14_1_6, Is ?v14_1_7, Is ?v14_1_8, Is ?v14_1_9, Is ?v14_1_10, Is ?v14_1_11, Is ?v14_1_12, Is ?v14_1_13] [] (by kernel_rfl) (by kernel_rfl) (fun _ _ h => h.elim) ((Step.refl _ _).drew) (trivial) ?stab14_1 ?stabD14_1 ?obl14_1 ?fin14_1
                  case stab14_1 => exact fun w w' h => ⟨fun k => k.trans h (fun _ x => x.elim), fun _ => trivial, ⟨fun _ k => k, fun _ k => k, fun _ k => k, fun _ k => k, fun _ k => k, fun _ k => k, fun _ k => k, fun _ k => k, fun _ k => k, fun _ k => k, fun _ k => k, fun _ k => k, fun _ k => k, fun _ k => k, trivial⟩, trivial⟩
                  case stabD14_1 => exact fun _ _ h => h.elim
                  case obl14_1 =>
                    refine ⟨?o14_1_0, ?o14_1_1, ?o14_1_2, ?o14_1_3, ?o14_1_4, ?o14_1_5, ?o14_1_6, ?o14_1_7, ?o14_1_8, ?o14_1_9, ?o14_1_10, ?o14_1_11, ?o14_1_12, ?o14_1_13, trivial⟩
                    all_goals intro xv wq hH hS H hU aq ha Q' hQ
                    case o14_1_0 => cases rd0 ha; clear H hU hS; go_wp2_with fail; (try refine hQ _ _ ?_); refine ⟨Step.refl _ _, ?_, trivial, nofun⟩; exact (rfl : _ = _)
                    case o14_1_1 => obtain ⟨fk, gk, fp, ⟨f0, f1, f2, f3, f4, _⟩, ⟨g0, g1, g2, g3, g4, _⟩⟩ := FACT.out _ hH; have ha := rd1 ha H (by kernel_rfl) rfl; simp only [q3, q5, q6, q7] at ha; subst ha; clear H hU hS; go_wp2_with fail; (try refine hQ _ _ ?_); refine ⟨Step.refl _ _, ?_, trivial, nofun⟩; exact (rfl : _ = _)
                    case o14_1_2 => cases rd0 ha; clear H hU hS; go_wp2_with fail; (try refine hQ _ _ ?_); refine ⟨Step.refl _ _, ?_, trivial, nofun⟩; exact (rfl : _ = _)
                    case o14_1_3 => obtain ⟨fk, gk, fp, ⟨f0, f1, f2, f3, f4, _⟩, ⟨g0, g1, g2, g3, g4, _⟩⟩ := FACT.out _ hH; have ha := rd2 ha H (by kernel_rfl) (by kernel_rfl) rfl rfl; simp only [q3, q5, q6, q7] at ha; subst ha; clear H hU hS; go_wp2_with fail; (try refine hQ _ _ ?_); refine ⟨Step.refl _ _, ?_, trivial, nofun⟩; exact (rfl : _ = _)
                    case o14_1_4 => obtain ⟨fk, gk, fp, ⟨f0, f1, f2, f3, f4, _⟩, ⟨g0, g1, g2, g3, g4, _⟩⟩ := FACT.out _ hH; have ha := rd1 ha H (by kernel_rfl) rfl; simp only [q3, q5, q6, q7] at ha; subst ha; clear H hU hS; go_wp2_with fail; (try refine hQ _ _ ?_); refine ⟨Step.refl _ _, ?_, trivial, nofun⟩; exact (rfl : _ = _)
                    case o14_1_5 => cases rd0 ha; clear H hU hS; go_wp2_with fail; (try refine hQ _ _ ?_); refine ⟨Step.refl _ _, ?_, trivial, nofun⟩; exact (rfl : _ = _)
                    case o14_1_6 => obtain ⟨fk, gk, fp, ⟨f0, f1, f2, f3, f4, _⟩, ⟨g0, g1, g2, g3, g4, _⟩⟩ := FACT.out _ hH; have ha := rd1 ha H (by kernel_rfl) rfl; simp only [q3, q5, q6, q7] at ha; subst ha; clear H hU hS; go_wp2_with fail; (try refine hQ _ _ ?_); refine ⟨Step.refl _ _, ?_, trivial, nofun⟩; exact (rfl : _ = _)
                    case o14_1_7 => cases rd0 ha; clear H hU hS; go_wp2_with fail; (try refine hQ _ _ ?_); refine ⟨Step.refl _ _, ?_, trivial, nofun⟩; exact (rfl : _ = _)
                    case o14_1_8 => obtain ⟨fk, gk, fp, ⟨f0, f1, f2, f3, f4, _⟩, ⟨g0, g1, g2, g3, g4, _⟩⟩ := FACT.out _ hH; have ha := rd1 ha H (by kernel_rfl) rfl; simp only [q3, q5, q6, q7] at ha; subst ha; clear H hU hS; go_wp2_with fail; (try refine hQ _ _ ?_); refine ⟨Step.refl _ _, ?_, trivial, nofun⟩; exact (rfl : _ = _)
                    case o14_1_9 => cases rd0 ha; clear H hU hS; go_wp2_with fail; (try refine hQ _ _ ?_); refine ⟨Step.refl _ _, ?_, trivial, nofun⟩; exact (rfl : _ = _)
                    case o14_1_10 => obtain ⟨fk, gk, fp, ⟨f0, f1, f2, f3, f4, _⟩, ⟨g0, g1, g2, g3, g4, _⟩⟩ := FACT.out _ hH; have ha := rd2 ha H (by kernel_rfl) (by kernel_rfl) rfl rfl; simp only [q3, q5, q6, q7] at ha; subst ha; clear H hU hS; go_wp2_with fail; (try refine hQ _ _ ?_); refine ⟨Step.refl _ _, ?_, trivial, nofun⟩; exact (rfl : _ = _)
                    case o14_1_11 => obtain ⟨fk, gk, fp, ⟨f0, f1, f2, f3, f4, _⟩, ⟨g0, g1, g2, g3, g4, _⟩⟩ := FACT.out _ hH; have ha := rd1 ha H (by kernel_rfl) rfl; simp only [q3, q5, q6, q7] at ha; subst ha; clear H hU hS; go_wp2_with fail; (try refine hQ _ _ ?_); refine ⟨Step.refl _ _, ?_, trivial, nofun⟩; exact (rfl : _ = _)
                    case o14_1_12 => obtain ⟨fk, gk, fp, ⟨f0, f1, f2, f3, f4, _⟩, ⟨g0, g1, g2, g3, g4, _⟩⟩ := FACT.out _ hH; have ha := rd2 ha H (by kernel_rfl) (by kernel_rfl) rfl rfl; simp only [q3, q5, q6, q7] at ha; subst ha; clear H hU hS; go_wp2_with fail; (try refine hQ _ _ ?_); refine ⟨Step.refl _ _, ?_, trivial, nofun⟩; exact (rfl : _ = _)
                    case o14_1_13 => obtain ⟨fk, gk, fp, ⟨f0, f1, f2, f3, f4, _⟩, ⟨g0, g1, g2, g3, g4, _⟩⟩ := FACT.out _ hH; have ha := rd1 ha H (by kernel_rfl) rfl; simp only [q3, q5, q6, q7] at ha; subst ha; clear H hU hS; go_wp2_with fail; (try refine hQ _ _ ?_); refine ⟨Step.refl _ _, ?_, trivial, nofun⟩; exact (rfl : _ = _)
                  intro xv w9 hH hS H hU hsz hF hN
                  have h0 : xv 0 = _ := H 0 (by decide) (by kernel_rfl); have h1 : xv 1 = _ := H 1 (by decide) (by kernel_rfl); have h2 : xv 2 = _ := H 2 (by decide) (by kernel_rfl); have h3 : xv 3 = _ := H 3 (by decide) (by kernel_rfl); have h4 : xv 4 = _ := H 4 (by decide) (by kernel_rfl); have h5 : xv 5 = _ := H 5 (by decide) (by kernel_rfl); have h6 : xv 6 = _ := H 6 (by decide) (by kernel_rfl); have h7 : xv 7 = _ := H 7 (by decide) (by kernel_rfl); have h8 : xv 8 = _ := H 8 (by decide) (by kernel_rfl); have h9 : xv 9 = _ := H 9 (by decide) (by kernel_rfl); have h10 : xv 10 = _ := H 10 (by decide) (by kernel_rfl); have h11 : xv 11 = _ := H 11 (by decide) (by kernel_rfl); have h12 : xv 12 = _ := H 12 (by decide) (by kernel_rfl); have h13 : xv 13 = _ := H 13 (by decide) (by kernel_rfl)
                  simp only [planCa14, q1, q2, q3, q5, q6, q7, q4, List.drop_succ_cons, List.drop_zero, h0, h1, h2, h3, h4, h5, h6, h7, h8, h9, h10, h11, h12, h13]
                  clear H hF hN hS hU h0 h1 h2 h3 h4 h5 h6 h7 h8 h9 h10 h11 h12 h13
                  have S9 := Lib.hid (SJ.out.then hH)
                  clear hH
                  cases hx : (x1 == x2) with
                  | true =>
                    have HX := Lib.hid hx
                    have hx2 : (x1 != x2) = false := by rw [bne, hx]; rfl
                    go_wp2_with fail
                    go_roundw
                    case rel => exact ⟨j + 1, by omega, by go_num, by rw [HTJ.out, HJ.out, HX.out]; rfl, S9.out⟩
                    case measure => simp [intOf]; omega
                  | false =>
                    have hx2 : (x1 != x2) = true := by rw [bne, hx]; rfl
                    have HF := Lib.hid (HBAD.out (by
                      rw [HIB5.out]
                      unfold argsM
                      have h := HTJ.out
                      rw [HJ.out, hx] at h
                      rw [← List.take_append_drop (j + 1) (args.zip g.params), List.all_append, h]; rfl))
                    go_wp2_with fail
                    go_ret
                    exact ⟨by (rw [HF.out]; try rfl), S1.out.then (T8.out.then S9.out)⟩
                · have hdj : decide (j < args.length) = false := decide_eq_false hjl
                  have e : j = args.length := by omega
                  subst e
                  have HT := Lib.hid (show zi = true from by
                    rw [HIB5.out]
                    unfold argsM
                    have h := HJ.out
                    rw [List.take_of_length_le (by rw [List.length_zip]; omega)] at h
                    exact h)
                  clear hj hjl
                  go_wp2_with fail
                  go_roundw
                  case rel => exact ⟨k + 1, by omega, by go_num, by rw [HTK.out, HT.out], TJ.out⟩
                  case measure => simp [intOf]; omega
            · have d0 : decide (0 ≤ dst) = false := decide_eq_false hd0
              have HIB4 := Lib.hid (show zi = !!argsM f.kinds g.kinds args g.params from by rw [HIB3.out, d0]; simp)
              clear HIB3 hdst
              go_wp2_with fail
              have HIB5 := Lib.hid (show zi = argsM f.kinds g.kinds args g.params from by rw [HIB4.out]; simp)
              clear HIB4
              go_loopw [13, 14, 77] (fun _ _ q wr => ∃ j : Nat, j ≤ args.length ∧ q = .int .i64 j ∧ ((args.zip g.params).take j).all (fun p => f.kinds.getD p.1.toNat 0 == g.kinds.getD p.2.toNat 0) = true ∧ Step (fun _ => False) w8 wr) (fun _ _ q _ => args.length - (intOf q).toNat)
              case atStart => exact ⟨0, by omega, rfl, by simp, Step.refl _ _⟩
              case round =>
              obtain ⟨j, hj, rfl, hja, hst⟩ := hrel
              have HJ := Lib.hid hja
              have SJ := Lib.hid hst
              clear hja hst f0 f1 f2 f3 f4 g0 g1 g2 g3 g4 b1 b7
              have TJ := Lib.hid (T8.out.then SJ.out)
              by_cases hjl : j < args.length
              · have hdj : decide (j < args.length) = true := decide_eq_true hjl
                have hjg : j < g.params.length := by have := HGL.out; omega
                have HTJ := Lib.hid (zip_step (kf := f.kinds) (kg := g.kinds) (l := args) (m := g.params) hjl hjg)
                obtain ⟨pa', rfl, fa⟩ := ints_facts (HARGS.out w1 (Step.refl _ _)) (r := j) (by omega) (by omega)
                obtain ⟨qp', rfl, fp⟩ := ints_facts (HGP.out w1 (Step.refl _ _)) (r := j) (by omega) (by omega)
                simp only [Int.toNat_natCast] at fa fp
                have hr1 := HAR.out (args.getD j 0) (by rw [List.getD_eq_getElem?_getD, List.getElem?_eq_getElem hjl]; exact List.getElem_mem _)
                have hr2 := GPAR.out (g.params.getD j 0) (by rw [List.getD_eq_getElem?_getD, List.getElem?_eq_getElem hjg]; exact List.getElem_mem _)
                generalize args.getD j 0 = r1 at *
                generalize g.params.getD j 0 = r2 at *
                obtain ⟨pk', epk, fk⟩ := ints_facts (HKI.out w1 (Step.refl _ _)) hr1.1 hr1.2
                cases epk
                obtain ⟨qk', rfl, gk⟩ := ints_facts (HGK.out w1 (Step.refl _ _)) hr2.1 hr2.2
                generalize f.kinds.getD r1.toNat 0 = x1 at *
                generalize g.kinds.getD r2.toNat 0 = x2 at *
                have FACT := Lib.hid (show ∀ y, Step (fun _ => False) wr y → _ from fun y (hy : Step (fun _ => False) wr y) => And.intro (fk y (TJ.out.then hy)) (And.intro (gk y (TJ.out.then hy)) (And.intro (fp y (TJ.out.then hy)) (And.intro (K1.out y (TJ.out.then hy)) (cells_known5 ((SJ.out.then hy).keeps (S8.out.keeps KG.out)))))))
                have fa := fa wr TJ.out
                clear fk gk fp
                go_upto_region 14 with fail
                clear fa
                refine wp_region_each 14 planCa14 (fun _ _ => False) (Step (fun _ => False) wr) (fun _ => True) [Is ?v14_2_0, Is ?v14_2_1, Is ?v14_2_2, Is ?v14_2_3, Is ?v14_2_4, Is ?v14_2_5, Is ?v14_2_6, Is ?v14_2_7, Is ?v14_2_8, Is ?v14_2_9, Is ?v14_2_10, Is ?v14_2_11, Is ?v14_2_12, Is ?v14_2_13] [] (by kernel_rfl) (by kernel_rfl) (fun _ _ h => h.elim) ((Step.refl _ _).drew) (trivial) ?stab14_2 ?stabD14_2 ?obl14_2 ?fin14_2
                case stab14_2 => exact fun w w' h => ⟨fun k => k.trans h (fun _ x => x.elim), fun _ => trivial, ⟨fun _ k => k, fun _ k => k, fun _ k => k, fun _ k => k, fun _ k => k, fun _ k => k, fun _ k => k, fun _ k => k, fun _ k => k, fun _ k => k, fun _ k => k, fun _ k => k, fun _ k => k, fun _ k => k, trivial⟩, trivial⟩
                case stabD14_2 => exact fun _ _ h => h.elim
                case obl14_2 =>
                  refine ⟨?o14_2_0, ?o14_2_1, ?o14_2_2, ?o14_2_3, ?o14_2_4, ?o14_2_5, ?o14_2_6, ?o14_2_7, ?o14_2_8, ?o14_2_9, ?o14_2_10, ?o14_2_11, ?o14_2_12, ?o14_2_13, trivial⟩
                  all_goals intro xv wq hH hS H hU aq ha Q' hQ
                  case o14_2_0 => cases rd0 ha; clear H hU hS; go_wp2_with fail; (try refine hQ _ _ ?_); refine ⟨Step.refl _ _, ?_, trivial, nofun⟩; exact (rfl : _ = _)
                  case o14_2_1 => obtain ⟨fk, gk, fp, ⟨f0, f1, f2, f3, f4, _⟩, ⟨g0, g1, g2, g3, g4, _⟩⟩ := FACT.out _ hH; have ha := rd1 ha H (by kernel_rfl) rfl; simp only [q3, q5, q6, q7] at ha; subst ha; clear H hU hS; go_wp2_with fail; (try refine hQ _ _ ?_); refine ⟨Step.refl _ _, ?_, trivial, nofun⟩; exact (rfl : _ = _)
                  case o14_2_2 => cases rd0 ha; clear H hU hS; go_wp2_with fail; (try refine hQ _ _ ?_); refine ⟨Step.refl _ _, ?_, trivial, nofun⟩; exact (rfl : _ = _)
                  case o14_2_3 => obtain ⟨fk, gk, fp, ⟨f0, f1, f2, f3, f4, _⟩, ⟨g0, g1, g2, g3, g4, _⟩⟩ := FACT.out _ hH; have ha := rd2 ha H (by kernel_rfl) (by kernel_rfl) rfl rfl; simp only [q3, q5, q6, q7] at ha; subst ha; clear H hU hS; go_wp2_with fail; (try refine hQ _ _ ?_); refine ⟨Step.refl _ _, ?_, trivial, nofun⟩; exact (rfl : _ = _)
                  case o14_2_4 => obtain ⟨fk, gk, fp, ⟨f0, f1, f2, f3, f4, _⟩, ⟨g0, g1, g2, g3, g4, _⟩⟩ := FACT.out _ hH; have ha := rd1 ha H (by kernel_rfl) rfl; simp only [q3, q5, q6, q7] at ha; subst ha; clear H hU hS; go_wp2_with fail; (try refine hQ _ _ ?_); refine ⟨Step.refl _ _, ?_, trivial, nofun⟩; exact (rfl : _ = _)
                  case o14_2_5 => cases rd0 ha; clear H hU hS; go_wp2_with fail; (try refine hQ _ _ ?_); refine ⟨Step.refl _ _, ?_, trivial, nofun⟩; exact (rfl : _ = _)
                  case o14_2_6 => obtain ⟨fk, gk, fp, ⟨f0, f1, f2, f3, f4, _⟩, ⟨g0, g1, g2, g3, g4, _⟩⟩ := FACT.out _ hH; have ha := rd1 ha H (by kernel_rfl) rfl; simp only [q3, q5, q6, q7] at ha; subst ha; clear H hU hS; go_wp2_with fail; (try refine hQ _ _ ?_); refine ⟨Step.refl _ _, ?_, trivial, nofun⟩; exact (rfl : _ = _)
                  case o14_2_7 => cases rd0 ha; clear H hU hS; go_wp2_with fail; (try refine hQ _ _ ?_); refine ⟨Step.refl _ _, ?_, trivial, nofun⟩; exact (rfl : _ = _)
                  case o14_2_8 => obtain ⟨fk, gk, fp, ⟨f0, f1, f2, f3, f4, _⟩, ⟨g0, g1, g2, g3, g4, _⟩⟩ := FACT.out _ hH; have ha := rd1 ha H (by kernel_rfl) rfl; simp only [q3, q5, q6, q7] at ha; subst ha; clear H hU hS; go_wp2_with fail; (try refine hQ _ _ ?_); refine ⟨Step.refl _ _, ?_, trivial, nofun⟩; exact (rfl : _ = _)
                  case o14_2_9 => cases rd0 ha; clear H hU hS; go_wp2_with fail; (try refine hQ _ _ ?_); refine ⟨Step.refl _ _, ?_, trivial, nofun⟩; exact (rfl : _ = _)
                  case o14_2_10 => obtain ⟨fk, gk, fp, ⟨f0, f1, f2, f3, f4, _⟩, ⟨g0, g1, g2, g3, g4, _⟩⟩ := FACT.out _ hH; have ha := rd2 ha H (by kernel_rfl) (by kernel_rfl) rfl rfl; simp only [q3, q5, q6, q7] at ha; subst ha; clear H hU hS; go_wp2_with fail; (try refine hQ _ _ ?_); refine ⟨Step.refl _ _, ?_, trivial, nofun⟩; exact (rfl : _ = _)
                  case o14_2_11 => obtain ⟨fk, gk, fp, ⟨f0, f1, f2, f3, f4, _⟩, ⟨g0, g1, g2, g3, g4, _⟩⟩ := FACT.out _ hH; have ha := rd1 ha H (by kernel_rfl) rfl; simp only [q3, q5, q6, q7] at ha; subst ha; clear H hU hS; go_wp2_with fail; (try refine hQ _ _ ?_); refine ⟨Step.refl _ _, ?_, trivial, nofun⟩; exact (rfl : _ = _)
                  case o14_2_12 => obtain ⟨fk, gk, fp, ⟨f0, f1, f2, f3, f4, _⟩, ⟨g0, g1, g2, g3, g4, _⟩⟩ := FACT.out _ hH; have ha := rd2 ha H (by kernel_rfl) (by kernel_rfl) rfl rfl; simp only [q3, q5, q6, q7] at ha; subst ha; clear H hU hS; go_wp2_with fail; (try refine hQ _ _ ?_); refine ⟨Step.refl _ _, ?_, trivial, nofun⟩; exact (rfl : _ = _)
                  case o14_2_13 => obtain ⟨fk, gk, fp, ⟨f0, f1, f2, f3, f4, _⟩, ⟨g0, g1, g2, g3, g4, _⟩⟩ := FACT.out _ hH; have ha := rd1 ha H (by kernel_rfl) rfl; simp only [q3, q5, q6, q7] at ha; subst ha; clear H hU hS; go_wp2_with fail; (try refine hQ _ _ ?_); refine ⟨Step.refl _ _, ?_, trivial, nofun⟩; exact (rfl : _ = _)
                intro xv w9 hH hS H hU hsz hF hN
                have h0 : xv 0 = _ := H 0 (by decide) (by kernel_rfl); have h1 : xv 1 = _ := H 1 (by decide) (by kernel_rfl); have h2 : xv 2 = _ := H 2 (by decide) (by kernel_rfl); have h3 : xv 3 = _ := H 3 (by decide) (by kernel_rfl); have h4 : xv 4 = _ := H 4 (by decide) (by kernel_rfl); have h5 : xv 5 = _ := H 5 (by decide) (by kernel_rfl); have h6 : xv 6 = _ := H 6 (by decide) (by kernel_rfl); have h7 : xv 7 = _ := H 7 (by decide) (by kernel_rfl); have h8 : xv 8 = _ := H 8 (by decide) (by kernel_rfl); have h9 : xv 9 = _ := H 9 (by decide) (by kernel_rfl); have h10 : xv 10 = _ := H 10 (by decide) (by kernel_rfl); have h11 : xv 11 = _ := H 11 (by decide) (by kernel_rfl); have h12 : xv 12 = _ := H 12 (by decide) (by kernel_rfl); have h13 : xv 13 = _ := H 13 (by decide) (by kernel_rfl)
                simp only [planCa14, q1, q2, q3, q5, q6, q7, q4, List.drop_succ_cons, List.drop_zero, h0, h1, h2, h3, h4, h5, h6, h7, h8, h9, h10, h11, h12, h13]
                clear H hF hN hS hU h0 h1 h2 h3 h4 h5 h6 h7 h8 h9 h10 h11 h12 h13
                have S9 := Lib.hid (SJ.out.then hH)
                clear hH
                cases hx : (x1 == x2) with
                | true =>
                  have HX := Lib.hid hx
                  have hx2 : (x1 != x2) = false := by rw [bne, hx]; rfl
                  go_wp2_with fail
                  go_roundw
                  case rel => exact ⟨j + 1, by omega, by go_num, by rw [HTJ.out, HJ.out, HX.out]; rfl, S9.out⟩
                  case measure => simp [intOf]; omega
                | false =>
                  have hx2 : (x1 != x2) = true := by rw [bne, hx]; rfl
                  have HF := Lib.hid (HBAD.out (by
                    rw [HIB5.out]
                    unfold argsM
                    have h := HTJ.out
                    rw [HJ.out, hx] at h
                    rw [← List.take_append_drop (j + 1) (args.zip g.params), List.all_append, h]; rfl))
                  go_wp2_with fail
                  go_ret
                  exact ⟨by (rw [HF.out]; try rfl), S1.out.then (T8.out.then S9.out)⟩
              · have hdj : decide (j < args.length) = false := decide_eq_false hjl
                have e : j = args.length := by omega
                subst e
                have HT := Lib.hid (show zi = true from by
                  rw [HIB5.out]
                  unfold argsM
                  have h := HJ.out
                  rw [List.take_of_length_le (by rw [List.length_zip]; omega)] at h
                  exact h)
                clear hj hjl
                go_wp2_with fail
                go_roundw
                case rel => exact ⟨k + 1, by omega, by go_num, by rw [HTK.out, HT.out], TJ.out⟩
                case measure => simp [intOf]; omega
      · have e16 : (op != 16) = true := by simpa using h16
        have HT := Lib.hid (show zi = true from by rw [HIB.out, e6, beq_false_of_ne h16]; rfl)
        clear HIB HG16
        go_wp2_with fail
        go_roundw
        case rel => exact ⟨k + 1, by omega, by go_num, by rw [HTK.out, HT.out], T5.out⟩
        case measure => simp [intOf]; omega
  · have hd : decide (k < f.code.length) = false := decide_eq_false hlt
    have e : k = f.code.length := by omega
    subst e
    have h1 := HALL.out
    rw [List.take_length] at h1
    have HT := Lib.hid (show zz = true from HZ.out.trans h1)
    clear h1 hlt hk
    go_wp2_with fail
    go_ret
    exact ⟨by (rw [HT.out]; try rfl), HS.out⟩
end
end Go.Proofs.Ytojfgdoniajmeaa
