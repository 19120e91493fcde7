/- A unit as it stands in memory: its instructions, functions, variables. -/
import Derived.Test.YtojfgdoniajmeaaRows
import Derived.Test.YtojfgdoniajmeaaLibR
import Derived.Test.YtojfgdoniajmeaaLibE
import Derived.Test.YtojfgdoniajmeaaLibS
import Derived.Test.YtojfgdoniajmeaaLibI
import Derived.Test.YtojfgdoniajmeaaLibK
import Derived.OpenShut
import Derived.Deep.Slices
import Derived.Deep.LoopGhost
import Derived.Laws.BytesArg
import Derived.RegionTactic
namespace Go.Proofs.Ytojfgdoniajmeaa
set_option linter.unusedVariables false
set_option linter.unusedSimpArgs false
open Go.ChangeShapes Go.WideShapes Go.ChangeAt Go.RowKit

def is64 (x : Int) : Prop := 0 ≤ x ∧ x < 18446744073709551616
/-- an instruction, plain -/
structure FIns where
  op : Int
  dst : Int
  a : Int
  b : Int
  n : Int
  size : Int
  name : ByteArray
  args : List Int
  outs : List Int
  to : Int
def InsAt (w : World) (v : Value) (i : FIns) : Prop :=
  ∃ va vo, v = .agg #[.int .i64 i.op, .int .i64 i.dst, .int .i64 i.a, .int .i64 i.b, .int .u64 i.n, .int .i64 i.size, .string i.name, va, vo, .int .i64 i.to] ∧ IntsAt .i64 w va i.args ∧ IntsAt .i64 w vo i.outs
/-- a function, plain -/
structure FFn where
  name : ByteArray
  params : List Int
  kinds : List Int
  slots : List Int
  code : List FIns
theorem IntsAt.old {k : IntKind} {w w' : World} {v : Value} {zs : List Int} (h : IntsAt k w v zs) (s : ∀ b, b < w.heap.size → w'.heap[b]? = w.heap[b]?) : IntsAt k w' v zs := by
  obtain ⟨⟨p, cap, e, h1, h2, h3⟩, h4⟩ := h
  refine ⟨⟨p, cap, e, h1, h2, fun i hi => ?_⟩, h4⟩
  obtain ⟨a, ha, hc⟩ := h3 i hi
  have hb : (a.add i).block < w.heap.size := block_lt hc
  exact ⟨a, ha, (cell_of (s _ hb)).trans hc⟩
theorem IntsAt.step {k : IntKind} {w w' : World} {v : Value} {zs : List Int} {F : Nat → Prop} (h : IntsAt k w v zs) (s : Step F w w') (g : ∀ b, F b → w.heap.size ≤ b) : IntsAt k w' v zs :=
  h.old fun b hb => s.block b hb fun e => by have := g b e; omega
/-- an instruction's row of code, in memory -/
def CodeAt (w0 : World) (v : Value) (code : List FIns) : Prop :=
  ∃ p cap, v = .slice p code.length cap ∧ code.length ≤ cap ∧ cap ≤ maxLen ∧ ∀ k (hk : k < code.length), ∃ a vi, p = some a ∧ InsAt w0 vi code[k] ∧ ∀ j u, vi.cells[j]? = some u → w0.cell? ((a.add (k * 10)).add j) = some u
/-- a function's value -/
def FnAt (w0 : World) (v : Value) (f : FFn) : Prop :=
  ∃ vp vk vs vc, v = .agg #[.string f.name, vp, vk, vs, vc] ∧ IntsAt .i64 w0 vp f.params ∧ IntsAt .i64 w0 vk f.kinds ∧ IntsAt .i64 w0 vs f.slots ∧ CodeAt w0 vc f.code
abbrev Tp := ByteArray × Int
/-- a unit's functions, in memory -/
def FnsAt (w0 : World) (v : Value) (fs : List FFn) : Prop :=
  ∃ p cap, v = .slice p fs.length cap ∧ fs.length ≤ cap ∧ cap ≤ maxLen ∧ ∀ k (hk : k < fs.length), ∃ a fv, p = some a ∧ FnAt w0 fv fs[k] ∧ ∀ j u, fv.cells[j]? = some u → w0.cell? ((a.add (k * 5)).add j) = some u
/-- a unit's variables, in memory -/
def TopsAt (w0 : World) (v : Value) (ts : List (ByteArray × Int)) : Prop :=
  ∃ p cap, v = .slice p ts.length cap ∧ ts.length ≤ cap ∧ cap ≤ maxLen ∧ ∀ k (hk : k < ts.length), ∃ a, p = some a ∧ w0.cell? (a.add (k * 2)) = some (.string ts[k].1) ∧ w0.cell? ((a.add (k * 2)).add 1) = some (.int .i64 ts[k].2) ∧ ts[k].1.size ≤ maxLen ∧ (Lit.int .i64 ts[k].2).wf = true
/-- the last function of a name among the first k -/
def fnOf (fs : List FFn) (s : List UInt8) : Option FFn := fs.reverse.find? fun f => f.name.data.toList == s
theorem zero_fn (w : World) : (zeroValue 46).run Try.prog w = .ok (.agg #[.string ⟨#[]⟩, .slice none 0 0, .slice none 0 0, .slice none 0 0, .slice none 0 0]) w := by kernel_rfl
def zeroFn : FFn := ⟨⟨#[]⟩, [], [], [], []⟩
def getFn (fs : List FFn) (s : List UInt8) : FFn := (fnOf fs s).getD zeroFn
theorem ints_nil (k : IntKind) (w : World) : IntsAt k w (.slice none 0 0) [] := ⟨⟨none, 0, rfl, by simp, by simp, fun i hi => absurd hi (Nat.not_lt_zero _)⟩, fun z hz => by cases hz⟩
theorem fnAt_zero (w0 : World) : FnAt w0 (.agg #[.string ⟨#[]⟩, .slice none 0 0, .slice none 0 0, .slice none 0 0, .slice none 0 0]) zeroFn :=
  ⟨_, _, _, _, rfl, ints_nil _ _, ints_nil _ _, ints_nil _ _, ⟨none, 0, rfl, by simp [zeroFn], by simp, fun k hk => absurd hk (Nat.not_lt_zero _)⟩⟩
section
variable {w w' : World}
theorem insAt_old {v : Value} {i : FIns} (h : InsAt w v i) (s : ∀ b, b < w.heap.size → w'.heap[b]? = w.heap[b]?) : InsAt w' v i := by
  obtain ⟨va, vo, e, h1, h2⟩ := h
  exact ⟨va, vo, e, h1.old s, h2.old s⟩
theorem codeAt_old {v : Value} {code : List FIns} (h : CodeAt w v code) (s : ∀ b, b < w.heap.size → w'.heap[b]? = w.heap[b]?) : CodeAt w' v code := by
  obtain ⟨p, cap, e, h1, h2, h3⟩ := h
  refine ⟨p, cap, e, h1, h2, fun k hk => ?_⟩
  obtain ⟨a, vi, ha, hv, hc⟩ := h3 k hk
  exact ⟨a, vi, ha, insAt_old hv s, fun j u hj => (cell_of (s _ (block_lt (hc j u hj)))).trans (hc j u hj)⟩
theorem fnAt_old {v : Value} {f : FFn} (h : FnAt w v f) (s : ∀ b, b < w.heap.size → w'.heap[b]? = w.heap[b]?) : FnAt w' v f := by
  obtain ⟨vp, vk, vs, vc, e, h1, h2, h3, h4⟩ := h
  exact ⟨vp, vk, vs, vc, e, h1.old s, h2.old s, h3.old s, codeAt_old h4 s⟩
theorem insAt_step {v : Value} {i : FIns} (h : InsAt w v i) (s : Step (fun _ => False) w w') : InsAt w' v i := by
  obtain ⟨va, vo, e, h1, h2⟩ := h
  exact ⟨va, vo, e, h1.step s fun _ x => x.elim, h2.step s fun _ x => x.elim⟩
theorem insAt_len {v : Value} {i : FIns} (h : InsAt w v i) : v.cells.toList.length = 10 := by
  obtain ⟨va, vo, rfl, _, _⟩ := h
  rfl
/-- an instruction's value stays so, whatever becomes of the blocks of F -/
def Keeps (F : Nat → Prop) (w : World) (v : Value) (i : FIns) : Prop := ∀ w', Step F w w' → InsAt w' v i
theorem Keeps.now {F : Nat → Prop} {v : Value} {i : FIns} (h : Keeps F w v i) : InsAt w v i := h w (Step.refl _ _)
theorem Keeps.go {F G : Nat → Prop} {v : Value} {i : FIns} (h : Keeps F w v i) (s : Step F w w') (g : ∀ b, G b → F b ∨ w.heap.size ≤ b) : Keeps G w' v i := fun w'' t => h w'' (s.trans t g)
def KeepAll (F : Nat → Prop) (w : World) : List Value → List FIns → Prop
  | [], [] => True
  | v :: vs, i :: is => Keeps F w v i ∧ KeepAll F w vs is
  | _, _ => False
theorem KeepAll.len {F : Nat → Prop} : ∀ {vs : List Value} {is : List FIns}, KeepAll F w vs is → vs.length = is.length
  | [], [], _ => rfl
  | _ :: _, _ :: _, h => by simpa using KeepAll.len h.2
  | [], _ :: _, h => h.elim
  | _ :: _, [], h => h.elim
theorem KeepAll.get {F : Nat → Prop} : ∀ {vs : List Value} {is : List FIns}, KeepAll F w vs is → ∀ k (hk : k < is.length) (hk' : k < vs.length), InsAt w vs[k] is[k]
  | _ :: _, _ :: _, h, 0, _, _ => h.1.now
  | _ :: _, _ :: _, h, k + 1, hk, hk' => KeepAll.get h.2 k (by simpa using hk) (by simpa using hk')
  | [], [], _, k, hk, _ => absurd hk (Nat.not_lt_zero _)
  | [], _ :: _, h, _, _, _ => h.elim
  | _ :: _, [], h, _, _, _ => h.elim
theorem KeepAll.go {F G : Nat → Prop} (s : Step F w w') (g : ∀ b, G b → F b ∨ w.heap.size ≤ b) : ∀ {vs : List Value} {is : List FIns}, KeepAll F w vs is → KeepAll G w' vs is
  | [], [], _ => trivial
  | _ :: _, _ :: _, h => ⟨h.1.go s g, KeepAll.go s g h.2⟩
  | [], _ :: _, h => h.elim
  | _ :: _, [], h => h.elim
theorem KeepAll.append {F : Nat → Prop} {vs' : List Value} {is' : List FIns} (h' : KeepAll F w vs' is') : ∀ {vs : List Value} {is : List FIns}, KeepAll F w vs is → KeepAll F w (vs ++ vs') (is ++ is')
  | [], [], _ => h'
  | _ :: _, _ :: _, h => ⟨h.1, KeepAll.append h' h.2⟩
  | [], _ :: _, h => h.elim
  | _ :: _, [], h => h.elim
/-- v is a row of instructions, of one's own -/
def CodeRow (w : World) (F : Nat → Prop) (v : Value) (code : List FIns) : Prop :=
  ∃ vis : List Value, RowAt w F 42 10 v code.length (vis.flatMap fun v => v.cells.toList) ∧ KeepAll F w vis code
theorem CodeRow.still {F : Nat → Prop} {v : Value} {code : List FIns} (h : CodeRow w F v code) (s : Step (fun _ => False) w w') : CodeRow w' F v code := by
  obtain ⟨vis, h2, h3⟩ := h
  exact ⟨vis, h2.same fun b _ hlt => s.block b hlt fun x => x, h3.go (s.mono fun _ _ x => x.elim) fun b hb => .inl hb⟩
theorem codeRow_nil (w : World) (F : Nat → Prop) : CodeRow w F (.slice none 0 0) [] := ⟨[], rowAt_nil _ _ _ _, trivial⟩
theorem flat_get {vis : List Value} (h : ∀ v ∈ vis, v.cells.toList.length = 10) : ∀ (k : Nat) (hk : k < vis.length) (j : Nat) (hj : j < 10), (vis.flatMap fun v => v.cells.toList)[k * 10 + j]? = vis[k].cells.toList[j]? := by
  induction vis with
  | nil => intro k hk; exact absurd hk (Nat.not_lt_zero _)
  | cons x l ih =>
    intro k hk j hj
    have hx := h x (by simp)
    rw [List.flatMap_cons]
    cases k with
    | zero => rw [List.getElem?_append_left (by omega)]; simp
    | succ k =>
      rw [List.getElem?_append_right (by omega), hx, show (k + 1) * 10 + j - 10 = k * 10 + j by omega, ih (fun v hv => h v (by simp [hv])) k (by simpa using hk) j hj]
      rfl
theorem CodeRow.code {F : Nat → Prop} {v : Value} {code : List FIns} (h : CodeRow w F v code) : CodeAt w v code := by
  obtain ⟨vis, h2, h3'⟩ := h
  have h1 := h3'.len
  have h3 := h3'.get
  obtain ⟨hl, ⟨rfl, hn⟩ | ⟨g, cap, cur, rfl, hF, hg, hn1, hn2, hsz, htk⟩⟩ := h2
  · exact ⟨none, 0, by rw [hn], by omega, by simp, fun k hk => by omega⟩
  · refine ⟨_, cap, rfl, hn1, hn2, fun k hk => ⟨_, vis[k], rfl, h3 k hk (by omega), fun j u hj => ?_⟩⟩
    have hall : ∀ v ∈ vis, v.cells.toList.length = 10 := fun v hv => by
      obtain ⟨m, hm, e⟩ := List.mem_iff_getElem.1 hv
      rw [← e]; exact insAt_len (h3 m (by omega) hm)
    have hj10 : j < 10 := by
      have := insAt_len (h3 k hk (by omega))
      have hlt := (Array.getElem?_eq_some_iff.1 hj).1
      simp only [Array.length_toList] at this
      omega
    have hc := row_cell hg htk (j := k * 10 + j) (u := u) (by rw [flat_get hall k (by omega) j hj10]; simpa using hj)
    have e : (((⟨g, 0, none⟩ : Addr).add (k * 10)).add j) = ⟨g, k * 10 + j, none⟩ := by
      unfold Addr.add
      by_cases h0 : k * 10 = 0
      · by_cases h9 : j = 0
        · simp [h0, h9]
        · simp [h0, h9]
      · by_cases h9 : j = 0
        · simp [h0, h9]
        · simp [h0, h9]
    rw [e]; exact hc
theorem ints_of_row {q : IntKind} {F : Nat → Prop} {e : TypeId} {v : Value} {zs : List Int} (h : RowAt w F e 1 v zs.length (zs.map (Value.int q))) (hw : ∀ z ∈ zs, (Lit.int q z).wf = true) : IntsAt q w v zs := by
  obtain ⟨hl, ⟨rfl, hn⟩ | ⟨g, cap, cur, rfl, hF, hg, hn1, hn2, hsz, htk⟩⟩ := h
  · exact ⟨⟨none, 0, by rw [hn], by omega, by simp, fun i hi => by omega⟩, hw⟩
  · refine ⟨⟨_, cap, rfl, hn1, hn2, fun i hi => ⟨_, rfl, ?_⟩⟩, hw⟩
    have hc := row_cell (size := 1) hg htk (j := i) (u := .int q (zs.getD i 0)) (by
      rw [List.getElem?_map, List.getElem?_eq_getElem hi, List.getD_eq_getElem?_getD, List.getElem?_eq_getElem hi]; rfl)
    have e : (⟨g, 0, none⟩ : Addr).add i = ⟨g, i, none⟩ := by
      unfold Addr.add
      by_cases h0 : i = 0 <;> simp [h0]
    rw [e]; exact hc
theorem codeAt_step {v : Value} {code : List FIns} (h : CodeAt w v code) (s : Step (fun _ => False) w w') : CodeAt w' v code := by
  obtain ⟨p, cap, e, h1, h2, h3⟩ := h
  refine ⟨p, cap, e, h1, h2, fun k hk => ?_⟩
  obtain ⟨a, vi, ha, hv, hc⟩ := h3 k hk
  exact ⟨a, vi, ha, insAt_step hv s, fun j u hj => (s.cell (block_lt (hc j u hj)) fun x => x).trans (hc j u hj)⟩
/-- an instruction's value -/
def insV (i : FIns) (va vo : Value) : Value := .agg #[.int .i64 i.op, .int .i64 i.dst, .int .i64 i.a, .int .i64 i.b, .int .u64 i.n, .int .i64 i.size, .string i.name, va, vo, .int .i64 i.to]
def mainN : ByteArray := ⟨#[109, 97, 105, 110]⟩
theorem ins_info : (Try.prog.info? 42).map (fun i => (i.zero, i.size, i.bytes)) = some (some (.agg #[.int .i64 0, .int .i64 0, .int .i64 0, .int .i64 0, .int .u64 0, .int .i64 0, .string ⟨#[]⟩, .slice none 0 0, .slice none 0 0, .int .i64 0]), 10, 120) := by kernel_rfl
theorem row_of_block {b : Nat} {cur : Array Value} {e : TypeId} {size n : Nat} (h : w.heap[b]? = some (.cells cur e (0, 0))) (hn : cur.size = n * size) (hm : n ≤ maxLen) : RowAt w (fun x => x = b) e size (.slice (some ⟨b, 0, none⟩) n n) n cur.toList :=
  ⟨by rw [Array.length_toList, hn], .inr ⟨b, n, cur, rfl, rfl, h, Nat.le_refl _, hm, hn, by rw [List.take_of_length_le (by rw [Array.length_toList, hn]; exact Nat.le_refl _)]⟩⟩
theorem keepAll_flat {F : Nat → Prop} : ∀ {l : List Value} {c : List FIns}, KeepAll F w l c → (l.flatMap fun v => v.cells.toList).length = c.length * 10
  | [], [], _ => rfl
  | x :: l, y :: c, h => by rw [List.flatMap_cons, List.length_append, insAt_len h.1.now, keepAll_flat h.2, List.length_cons]; omega
  | [], _ :: _, h => h.elim
  | _ :: _, [], h => h.elim
theorem codeRow_of_block {b : Nat} {vis : List Value} {code : List FIns} (h : w.heap[b]? = some (.cells (vis.flatMap fun v => v.cells.toList).toArray 42 (0, 0))) (hv : KeepAll (fun x => x = b) w vis code) (hm : code.length ≤ maxLen) : CodeRow w (fun x => x = b) (.slice (some ⟨b, 0, none⟩) code.length code.length) code := by
  have hr := row_of_block (size := 10) (n := code.length) h (by rw [List.size_toArray, keepAll_flat hv]) hm
  exact ⟨vis, by simpa using hr, hv⟩
/-- a row of instructions got some more -/
theorem CodeRow.app {F : Nat → Prop} {v' : Value} {vis nvis : List Value} {code ncode : List FIns} (hk : KeepAll F w vis code) (hn : KeepAll F w nvis ncode) (st : Step F w w') (hr : RowAt w' (fun g => F g ∨ g = w.heap.size) 42 10 v' (code.length + ncode.length) ((vis.flatMap fun v => v.cells.toList) ++ (nvis.flatMap fun v => v.cells.toList))) : CodeRow w' (fun g => F g ∨ g = w.heap.size) v' (code ++ ncode) := by
  refine ⟨vis ++ nvis, by rw [List.length_append, List.flatMap_append]; exact hr, ?_⟩
  exact KeepAll.append (hn.go st fun b hb => by rcases hb with h | h; exact .inl h; exact .inr (by omega)) (hk.go st fun b hb => by rcases hb with h | h; exact .inl h; exact .inr (by omega))
/-- integers in a block that stays -/
theorem ints_keep {F : Nat → Prop} {q : IntKind} {b n : Nat} {T : TypeId} {cs : Array Value} {zs : List Int} (h : w.heap[b]? = some (.cells cs T (0, 0))) (hc : cs.toList = zs.map (Value.int q)) (hf : ¬ F b) (hn : zs.length = n) (hm : n ≤ maxLen) (hw : ∀ z ∈ zs, (Lit.int q z).wf = true) : ∀ w', Step F w w' → IntsAt q w' (.slice (some ⟨b, 0, none⟩) n n) zs := fun w' s => by
  subst hn
  have h' := (s.block b (lt_obj h) hf).trans h
  have hr := row_of_block (size := 1) (n := zs.length) h' (by rw [← Array.length_toList, hc]; simp) hm
  rw [hc] at hr
  exact ints_of_row hr hw
theorem keeps_bare {F : Nat → Prop} {i : FIns} (ha : i.args = []) (ho : i.outs = []) : Keeps F w (insV i (.slice none 0 0) (.slice none 0 0)) i := fun w' _ => ⟨_, _, rfl, by rw [ha]; exact ints_nil _ _, by rw [ho]; exact ints_nil _ _⟩
def insOf (op dst a b n size : Int) (args outs : List Int) (far : Int) : FIns := ⟨op, dst, a, b, n, size, ⟨#[]⟩, args, outs, far⟩
theorem KeepAll.sub {F G : Nat → Prop} (g : ∀ b, G b → F b ∨ w.heap.size ≤ b) {vs : List Value} {is : List FIns} (h : KeepAll F w vs is) : KeepAll G w vs is := h.go (Step.refl _ _) g
/-- just the row's own block -/
theorem CodeRow.narrow {F : Nat → Prop} {v : Value} {code : List FIns} (h : CodeRow w F v code) : ∃ G, CodeRow w G v code ∧ (∀ b, G b → F b) ∧ ∀ b, G b → b < w.heap.size := by
  obtain ⟨vis, ⟨hl, ⟨rfl, hn⟩ | ⟨g, cap, cur, rfl, hF, hg, h1, h2, h3, h4⟩⟩, hk⟩ := h
  · exact ⟨fun _ => False, ⟨vis, ⟨hl, .inl ⟨rfl, hn⟩⟩, hk.sub fun _ h => h.elim⟩, fun _ h => h.elim, fun _ h => h.elim⟩
  · exact ⟨fun b => b = g, ⟨vis, ⟨hl, .inr ⟨g, cap, cur, rfl, rfl, hg, h1, h2, h3, h4⟩⟩, hk.sub fun b e => .inl (by rw [e]; exact hF)⟩, fun b e => by rw [e]; exact hF, fun b e => by rw [e]; exact lt_obj hg⟩
theorem cells_one {F : Nat → Prop} : ∀ {vs : List Value} {is : List FIns}, KeepAll F w vs is → ∀ u ∈ (vs.flatMap fun v => v.cells.toList), u.oneCell' = true
  | [], [], _, u, hu => by cases hu
  | v :: vs, i :: is, h, u, hu => by
    rw [List.flatMap_cons] at hu
    rcases List.mem_append.1 hu with h1 | h1
    · obtain ⟨va, vo, rfl, ha, ho⟩ := h.1.now
      obtain ⟨⟨p, c, rfl, _⟩, _⟩ := ha
      obtain ⟨⟨q, d, rfl, _⟩, _⟩ := ho
      simp only [Value.cells, List.mem_cons, List.not_mem_nil, or_false] at h1
      rcases h1 with rfl | rfl | rfl | rfl | rfl | rfl | rfl | rfl | rfl | rfl <;> rfl
    · exact cells_one h.2 u h1
  | [], _ :: _, h, _, _ => h.elim
  | _ :: _, [], h, _, _ => h.elim
/-- append(code, ..): a row of instructions gets some more -/
theorem wpList_append_code {ops : Array Oper} {rest : List Oper} {o : Oper} {a : Act} {Q : Exit → Act → World → Prop} (hgd : o.guard = none) (s x : Operand)
    (ho : o.op = .call { callee := .builtin .append, args := #[s, x], argTypes := #[43, 43] })
    {F : Nat → Prop} {v : Value} {code ncode : List FIns} {nvis : List Value} {b m : Nat} (hs : a.eval s = v) (hrow : CodeRow w F v code) (hx : a.eval x = .slice (some ⟨b, 0, none⟩) m m)
    (hblk : w.heap[b]? = some (.cells (nvis.flatMap fun v => v.cells.toList).toArray 42 (0, 0))) (hn : KeepAll F w nvis ncode) (hm : ncode.length = m) (h0 : 0 < m) (hb : code.length + m ≤ 1000000)
    (h : ∀ g cap w' F', CodeRow w' F' (.slice (some ⟨g, 0, none⟩) (code.length + m) cap) (code ++ ncode) → (∀ b, F' b → F b ∨ w.heap.size ≤ b) → (∀ b, F' b → b < w'.heap.size) → Step F w w' → wpList Try.prog ops Q rest (a.put o.dst (.slice (some ⟨g, 0, none⟩) (code.length + m) cap)) w') : wpList Try.prog ops Q (o :: rest) a w := by
  obtain ⟨i0, hi, hz0, hz1, hz2⟩ := info_parts ins_info
  obtain ⟨vis, hr, hk⟩ := hrow
  refine wpList_append_row hgd s x 43 ho F 42 i0 _ 10 120 Try.underlying43 hi hz0 hz1 hz2 rfl v code.length _ hs hr ⟨b, 0, none⟩ m m (nvis.flatMap fun v => v.cells.toList) hx h0 (by rw [keepAll_flat hn, hm]) (fun j u hj => ?_) (cells_one hn) (by simp only [maxLen]; omega) (by omega) fun g cap w' hr' st hz => ?_
  · have e : (⟨b, 0, none⟩ : Addr).add j = ⟨b, j, none⟩ := by
      unfold Addr.add
      by_cases h0 : j = 0 <;> simp [h0]
    rw [e]
    exact cell_known hblk (by simpa using hj)
  · obtain ⟨G, hG, hGF, hGl⟩ := (CodeRow.app hk hn st (by rw [hm]; exact hr')).narrow
    exact h g cap w' G hG (fun b hb => by rcases hGF b hb with h1 | h1; exact .inl h1; exact .inr (by omega)) hGl st
theorem CodeRow.slice {F : Nat → Prop} {v : Value} {code : List FIns} (h : CodeRow w F v code) : ∃ p c, v = .slice p code.length c := by
  obtain ⟨vis, hrow, _⟩ := h
  exact hrow.slice
theorem wpList_append_codeN {ops : Array Oper} {rest : List Oper} {o : Oper} {a : Act} {Q : Exit → Act → World → Prop} (hgd : o.guard = none) (s x : Operand)
    (ho : o.op = .call { callee := .builtin .append, args := #[s, x], argTypes := #[43, 43] })
    {F : Nat → Prop} {v : Value} {code ncode code2 : List FIns} {nvis : List Value} {b m : Nat} (N : Nat) (hs : a.eval s = v) (hrow : CodeRow w F v code) (hx : a.eval x = .slice (some ⟨b, 0, none⟩) m m)
    (hblk : w.heap[b]? = some (.cells (nvis.flatMap fun v => v.cells.toList).toArray 42 (0, 0))) (hn : KeepAll F w nvis ncode) (hm : ncode.length = m) (h0 : 0 < m) (hb : code.length + m ≤ 1000000) (hN : code.length + m = N) (h2 : code ++ ncode = code2)
    (h : ∀ g cap w' F', CodeRow w' F' (.slice (some ⟨g, 0, none⟩) N cap) code2 → (∀ b, F' b → F b ∨ w.heap.size ≤ b) → (∀ b, F' b → b < w'.heap.size) → Step F w w' → wpList Try.prog ops Q rest (a.put o.dst (.slice (some ⟨g, 0, none⟩) N cap)) w') : wpList Try.prog ops Q (o :: rest) a w := by
  subst hN
  subst h2
  exact wpList_append_code hgd s x ho hs hrow hx hblk hn hm h0 hb h
/-- a row of instructions of one's own: of one block, behind where the walk began -/
structure Code (w0 w : World) (F : Nat → Prop) (v : Value) (code : List FIns) : Prop where
  row : CodeRow w F v code
  old : ∀ b, F b → w0.heap.size ≤ b
  lt : ∀ b, F b → b < w.heap.size
  step : Step (fun _ => False) w0 w
theorem Code.go {w0 : World} {F : Nat → Prop} {v : Value} {code : List FIns} (h : Code w0 w F v code) (s : Step (fun _ => False) w w') : Code w0 w' F v code := ⟨h.row.still s, h.old, fun b hb => Nat.lt_of_lt_of_le (h.lt b hb) s.size, h.step.then s⟩
theorem Code.app {w0 : World} {F F' : Nat → Prop} {v v' : Value} {code code' : List FIns} (h : Code w0 w F v code) (hr : CodeRow w' F' v' code') (hF : ∀ b, F' b → F b ∨ w.heap.size ≤ b) (hl : ∀ b, F' b → b < w'.heap.size) (s : Step F w w') : Code w0 w' F' v' code' :=
  ⟨hr, fun b hb => by
    have hz := h.step.size
    rcases hF b hb with h1 | h1
    · exact h.old b h1
    · omega, hl, h.step.trans s fun b hb => .inr (h.old b hb)⟩
theorem code_nil (w : World) : Code w w (fun _ => False) (.slice none 0 0) [] := ⟨codeRow_nil _ _, fun _ h => h.elim, fun _ h => h.elim, Step.refl _ _⟩
/-- the blocks that were there stay -/
theorem Code.keeps {w0 : World} {F : Nat → Prop} {v : Value} {code : List FIns} (h : Code w0 w F v code) {b : Nat} {o : Obj} (hb : w0.heap[b]? = some o) : w.heap[b]? = some o := h.step.keeps hb
theorem Code.fresh {w0 : World} {F : Nat → Prop} {v : Value} {code : List FIns} (h : Code w0 w F v code) (j : Nat) : ¬ F (w.heap.size + j) := fun hb => by have := h.lt _ hb; omega
/-- of any beginning -/
theorem Code.narrow {w0 : World} {F : Nat → Prop} {v : Value} {code : List FIns} (h : CodeRow w F v code) (h0 : ∀ b, F b → w0.heap.size ≤ b) (s : Step (fun _ => False) w0 w) : ∃ G, Code w0 w G v code := by
  obtain ⟨G, h1, h2, h3⟩ := h.narrow
  exact ⟨G, h1, fun b hb => h0 b (h2 b hb), h3, s⟩
/-- a row of instructions in a block that stays -/
theorem codeAt_keep {F G : Nat → Prop} {b : Nat} {vis : List Value} {code : List FIns} (h : w.heap[b]? = some (.cells (vis.flatMap fun v => v.cells.toList).toArray 42 (0, 0))) (hv : KeepAll F w vis code) (hm : code.length ≤ maxLen) (hFb : F b) (hb : ¬ G b) (s : Step G w w') (hg : ∀ x, G x → F x ∨ w.heap.size ≤ x) : CodeAt w' (.slice (some ⟨b, 0, none⟩) code.length code.length) code := by
  have hk : KeepAll F w' vis code := hv.go (s.mono fun x hx h => (hg x h).resolve_right (by omega)) fun _ h => .inl h
  exact (codeRow_of_block ((s.block b (lt_obj h) hb).trans h) (hk.sub fun x (e : x = b) => .inl (by rw [e]; exact hFb)) hm).code
theorem topsAt_step {v : Value} {ts : List Tp} (h : TopsAt w v ts) (s : Step (fun _ => False) w w') : TopsAt w' v ts := by
  obtain ⟨p, cap, e, h1, h2, h3⟩ := h
  refine ⟨p, cap, e, h1, h2, fun k hk => ?_⟩
  obtain ⟨a, ha, c0, c1, h4, h5⟩ := h3 k hk
  exact ⟨a, ha, (s.cell (block_lt c0) fun x => x).trans c0, (s.cell (block_lt c1) fun x => x).trans c1, h4, h5⟩
theorem fnAt_step {v : Value} {f : FFn} (h : FnAt w v f) (s : Step (fun _ => False) w w') : FnAt w' v f := by
  obtain ⟨vp, vk, vs, vc, e, h1, h2, h3, h4⟩ := h
  exact ⟨vp, vk, vs, vc, e, h1.step s fun _ x => x.elim, h2.step s fun _ x => x.elim, h3.step s fun _ x => x.elim, codeAt_step h4 s⟩
theorem fnsAt_step {v : Value} {fs : List FFn} (h : FnsAt w v fs) (s : Step (fun _ => False) w w') : FnsAt w' v fs := by
  obtain ⟨p, cap, e, h1, h2, h3⟩ := h
  refine ⟨p, cap, e, h1, h2, fun k hk => ?_⟩
  obtain ⟨a, fv, ha, hf, hc⟩ := h3 k hk
  exact ⟨a, fv, ha, fnAt_step hf s, fun j u hj => (s.cell (block_lt (hc j u hj)) fun x => x).trans (hc j u hj)⟩
/-- string(bytes) of the first n of a row -/
theorem conv_row {F : Nat → Prop} {p : Option Addr} {N cap n : Nat} {xs : List Int} (h : RowAt w F 5 1 (.slice p N cap) N (xs.map (Value.int .u8))) (hn : n ≤ N) : (convert 28 9 (.slice p n cap)).run Try.prog w = .ok (.string (strOfNums (xs.take n))) w := by
  obtain ⟨hl, ⟨e, hN⟩ | ⟨g, c, cur, e, hF, hg, h1, h2, h3, h4⟩⟩ := h
  · cases e
    have h0 : n = 0 := by omega
    subst h0
    exact run_convert_bytes_nil w 28 5 Try.underlying28 Try.underlying5 0 0 9 Try.underlying9
  · cases e
    have hxl : xs.length = N := by rw [List.length_map] at hl; omega
    exact run_convert_bytes_arg w 28 5 Try.underlying28 Try.underlying5 g 0 n cap (xs.take n) (by rw [List.length_take]; omega) (fun i hi => by
      have hc := row_cell (size := 1) hg h4 (j := i) (u := .int .u8 (xs.getD i 0)) (by
        rw [List.getElem?_map, List.getElem?_eq_getElem (by omega), List.getD_eq_getElem?_getD, List.getElem?_eq_getElem (by omega)]; rfl)
      rw [Nat.zero_add, hc, List.getD_eq_getElem?_getD, List.getD_eq_getElem?_getD, List.getElem?_take_of_lt hi]) 9 Try.underlying9
end
section
variable {H : Type} {enc : TypeId × Value → H} {w : World} {base : Nat} {spare : Nat → Bool} {held : Bool}
theorem ints_field {n : Nat} {cs : List Value} {y : DataW H × List MemPlace} (h : DataW.trod enc Try.prog w base spare held n 39 cs = some y) : ∃ v zs, cs = [v] ∧ IntsAt .i64 w v zs := by
  rcases open_ints Try.underlying39 Try.underlying3 (by kernel_rfl) h with ⟨rfl, _⟩ | ⟨a, len, cap, zs, rfl, _, hle, hmax, hlen, _, hcell, hwf⟩
  · exact ⟨_, [], rfl, ints_nil _ _⟩
  · have hl : len ≤ zs.length := by rw [hlen]; split <;> omega
    have hz : (zs.take len).length = len := by simp; omega
    refine ⟨_, zs.take len, rfl, ⟨some a, cap, by rw [hz], by omega, hmax, fun i hi => ⟨a, rfl, ?_⟩⟩, fun z hz => hwf z (List.mem_of_mem_take hz)⟩
    have hi' : i < len := by omega
    rw [hcell i (by omega)]
    simp [List.getD_eq_getElem?_getD, List.getElem?_take_of_lt hi']
theorem str_field {n : Nat} {cs : List Value} {y : DataW H × List MemPlace} (h : DataW.trod enc Try.prog w base spare held n 9 cs = some y) : ∃ s : ByteArray, cs = [.string s] ∧ s.size ≤ maxLen := by
  obtain ⟨s, e, _, hs⟩ := DataW.trod_string Try.underlying9 h
  exact ⟨s, e, hs⟩
theorem int_field {n : Nat} {cs : List Value} {y : DataW H × List MemPlace} (h : DataW.trod enc Try.prog w base spare held n 3 cs = some y) : ∃ x : Int, cs = [.int .i64 x] ∧ (Lit.int .i64 x).wf = true := by
  obtain ⟨x, e, _, hs⟩ := DataW.trod_int Try.underlying3 h
  exact ⟨x, e, hs⟩
theorem u64_field {n : Nat} {cs : List Value} {y : DataW H × List MemPlace} (h : DataW.trod enc Try.prog w base spare held n 40 cs = some y) : ∃ x : Int, cs = [.int .u64 x] ∧ (Lit.int .u64 x).wf = true := by
  obtain ⟨x, e, _, hs⟩ := DataW.trod_int Try.underlying40 h
  exact ⟨x, e, hs⟩
theorem take1 (l : List Value) (k : Nat) (v : Value) (h : (l.drop k).take 1 = [v]) : l[k]? = some v := by
  have : ((l.drop k).take 1)[0]? = some v := by rw [h]; rfl
  rw [List.getElem?_take_of_lt (by omega), List.getElem?_drop] at this
  simpa using this
theorem ten_of {α : Type} (l : List α) (h : l.length = 10) : ∃ a b c d e f g i j k, l = [a, b, c, d, e, f, g, i, j, k] := by
  match l, h with
  | [a, b, c, d, e, f, g, i, j, k], _ => exact ⟨a, b, c, d, e, f, g, i, j, k, rfl⟩
theorem u64_wf' {x : Int} (h : (Lit.int .u64 x).wf = true) : is64 x := by
  have := wfu64 h
  unfold is64; omega
/-- what is so of an instruction that was read -/
def InsWf (i : FIns) : Prop := i.name.size ≤ maxLen ∧ is64 i.n ∧ (Lit.int .i64 i.op).wf = true ∧ (Lit.int .i64 i.dst).wf = true ∧ (Lit.int .i64 i.a).wf = true ∧ (Lit.int .i64 i.b).wf = true ∧ (Lit.int .i64 i.size).wf = true ∧ (Lit.int .i64 i.to).wf = true
set_option maxRecDepth 100000 in
theorem ins_cells {n : Nat} {cs : List Value} {y : DataW H × List MemPlace} (h : DataW.trod enc Try.prog w base spare held n 42 cs = some y) : ∃ (v : Value) (i : FIns), cs = v.cells.toList ∧ InsAt w v i ∧ InsWf i := by
  obtain ⟨xs, m, _, _, hl, hlen, hf⟩ := DataW.trod_struct Try.underlying42 h
  have c3 : Try.prog.cellsOf 3 = 1 := by kernel_rfl
  have c38 : Try.prog.cellsOf 40 = 1 := by kernel_rfl
  have c9 : Try.prog.cellsOf 9 = 1 := by kernel_rfl
  have c45 : Try.prog.cellsOf 39 = 1 := by kernel_rfl
  have c47 : Try.prog.cellsOf 42 = 10 := by kernel_rfl
  rw [c47] at hl
  have hx : ∀ k, k < 10 → ∃ y, xs[k]? = some y := fun k hk => ⟨xs[k]'(by rw [hlen]; exact hk), List.getElem?_eq_getElem _⟩
  obtain ⟨dd0, dd1, dd2, dd3, dd4, dd5, dd6, dd7, dd8, dd9, rfl⟩ := ten_of cs hl
  obtain ⟨y0, e0⟩ := hx 0 (by omega)
  have f0 : DataW.trod enc Try.prog w base spare held m 3 (([dd0, dd1, dd2, dd3, dd4, dd5, dd6, dd7, dd8, dd9].drop 0).take (Try.prog.cellsOf 3)) = some y0 := (hf 0 _ rfl).trans e0
  rw [c3] at f0
  simp only [List.drop_zero, List.take_succ_cons, List.take_zero] at f0
  obtain ⟨op, g0, h0⟩ := int_field f0
  simp only [List.cons.injEq, and_true] at g0
  obtain ⟨y1, e1⟩ := hx 1 (by omega)
  have f1 : DataW.trod enc Try.prog w base spare held m 3 (([dd0, dd1, dd2, dd3, dd4, dd5, dd6, dd7, dd8, dd9].drop 1).take (Try.prog.cellsOf 3)) = some y1 := (hf 1 _ rfl).trans e1
  rw [c3] at f1
  simp only [List.drop_succ_cons, List.drop_zero, List.take_succ_cons, List.take_zero] at f1
  obtain ⟨dst, g1, h1⟩ := int_field f1
  simp only [List.cons.injEq, and_true] at g1
  obtain ⟨y2, e2⟩ := hx 2 (by omega)
  have f2 : DataW.trod enc Try.prog w base spare held m 3 (([dd0, dd1, dd2, dd3, dd4, dd5, dd6, dd7, dd8, dd9].drop 2).take (Try.prog.cellsOf 3)) = some y2 := (hf 2 _ rfl).trans e2
  rw [c3] at f2
  simp only [List.drop_succ_cons, List.drop_zero, List.take_succ_cons, List.take_zero] at f2
  obtain ⟨ra, g2, h2⟩ := int_field f2
  simp only [List.cons.injEq, and_true] at g2
  obtain ⟨y3, e3⟩ := hx 3 (by omega)
  have f3 : DataW.trod enc Try.prog w base spare held m 3 (([dd0, dd1, dd2, dd3, dd4, dd5, dd6, dd7, dd8, dd9].drop 3).take (Try.prog.cellsOf 3)) = some y3 := (hf 3 _ rfl).trans e3
  rw [c3] at f3
  simp only [List.drop_succ_cons, List.drop_zero, List.take_succ_cons, List.take_zero] at f3
  obtain ⟨rb, g3, h3⟩ := int_field f3
  simp only [List.cons.injEq, and_true] at g3
  obtain ⟨y4, e4⟩ := hx 4 (by omega)
  have f4 : DataW.trod enc Try.prog w base spare held m 40 (([dd0, dd1, dd2, dd3, dd4, dd5, dd6, dd7, dd8, dd9].drop 4).take (Try.prog.cellsOf 40)) = some y4 := (hf 4 _ rfl).trans e4
  rw [c38] at f4
  simp only [List.drop_succ_cons, List.drop_zero, List.take_succ_cons, List.take_zero] at f4
  obtain ⟨n, g4, h4⟩ := u64_field f4
  simp only [List.cons.injEq, and_true] at g4
  obtain ⟨y5, e5⟩ := hx 5 (by omega)
  have f5 : DataW.trod enc Try.prog w base spare held m 3 (([dd0, dd1, dd2, dd3, dd4, dd5, dd6, dd7, dd8, dd9].drop 5).take (Try.prog.cellsOf 3)) = some y5 := (hf 5 _ rfl).trans e5
  rw [c3] at f5
  simp only [List.drop_succ_cons, List.drop_zero, List.take_succ_cons, List.take_zero] at f5
  obtain ⟨size, g5, h5⟩ := int_field f5
  simp only [List.cons.injEq, and_true] at g5
  obtain ⟨y6, e6⟩ := hx 6 (by omega)
  have f6 : DataW.trod enc Try.prog w base spare held m 9 (([dd0, dd1, dd2, dd3, dd4, dd5, dd6, dd7, dd8, dd9].drop 6).take (Try.prog.cellsOf 9)) = some y6 := (hf 6 _ rfl).trans e6
  rw [c9] at f6
  simp only [List.drop_succ_cons, List.drop_zero, List.take_succ_cons, List.take_zero] at f6
  obtain ⟨name, g6, h6⟩ := str_field f6
  simp only [List.cons.injEq, and_true] at g6
  obtain ⟨y7, e7⟩ := hx 7 (by omega)
  have f7 : DataW.trod enc Try.prog w base spare held m 39 (([dd0, dd1, dd2, dd3, dd4, dd5, dd6, dd7, dd8, dd9].drop 7).take (Try.prog.cellsOf 39)) = some y7 := (hf 7 _ rfl).trans e7
  rw [c45] at f7
  simp only [List.drop_succ_cons, List.drop_zero, List.take_succ_cons, List.take_zero] at f7
  obtain ⟨v7, args, g7, h7⟩ := ints_field f7
  simp only [List.cons.injEq, and_true] at g7
  obtain ⟨y8, e8⟩ := hx 8 (by omega)
  have f8 : DataW.trod enc Try.prog w base spare held m 39 (([dd0, dd1, dd2, dd3, dd4, dd5, dd6, dd7, dd8, dd9].drop 8).take (Try.prog.cellsOf 39)) = some y8 := (hf 8 _ rfl).trans e8
  rw [c45] at f8
  simp only [List.drop_succ_cons, List.drop_zero, List.take_succ_cons, List.take_zero] at f8
  obtain ⟨v8, outs, g8, h8⟩ := ints_field f8
  simp only [List.cons.injEq, and_true] at g8
  obtain ⟨y9, e9⟩ := hx 9 (by omega)
  have f9 : DataW.trod enc Try.prog w base spare held m 3 (([dd0, dd1, dd2, dd3, dd4, dd5, dd6, dd7, dd8, dd9].drop 9).take (Try.prog.cellsOf 3)) = some y9 := (hf 9 _ rfl).trans e9
  rw [c3] at f9
  simp only [List.drop_succ_cons, List.drop_zero, List.take_succ_cons, List.take_zero] at f9
  obtain ⟨far, g9, h9⟩ := int_field f9
  simp only [List.cons.injEq, and_true] at g9
  subst g0 g1 g2 g3 g4 g5 g6 g7 g8 g9
  refine ⟨_, ⟨op, dst, ra, rb, n, size, name, args, outs, far⟩, ?_, ⟨_, _, rfl, h7, h8⟩, h6, ?_, h0, h1, h2, h3, h5, h9⟩
  · rfl
  · have := u64_wf' h4
    exact this
set_option maxRecDepth 100000 in
theorem tops_open {n : Nat} {cs : List Value} {y : DataW H × List MemPlace} (h : DataW.trod enc Try.prog w base spare held n 22 cs = some y) : ∃ v ts, cs = [v] ∧ TopsAt w v ts := by
  have c59 : Try.prog.cellsOf 52 = 2 := by kernel_rfl
  have c3 : Try.prog.cellsOf 3 = 1 := by kernel_rfl
  have c9 : Try.prog.cellsOf 9 = 1 := by kernel_rfl
  rcases Deep.open_slice Try.underlying22 h with ⟨rfl, _⟩ | ⟨a, len, cap, m, k, D, Pl, rfl, _, hle, hmax, hm, _, hcell⟩
  · exact ⟨_, [], rfl, none, 0, rfl, by simp, by simp, fun k hk => absurd hk (Nat.not_lt_zero _)⟩
  · have hlm : len ≤ m := by rw [hm]; split <;> omega
    obtain ⟨ts, hz, hr⟩ := pairs_list len (fun j (t : Tp) => w.cell? (a.add (j * 2)) = some (.string t.1) ∧ w.cell? ((a.add (j * 2)).add 1) = some (.int .i64 t.2) ∧ t.1.size ≤ maxLen ∧ (Lit.int .i64 t.2).wf = true) fun j hj => by
      obtain ⟨cs', h1, h2⟩ := hcell j (by omega)
      rw [c59] at h1
      obtain ⟨_, hcl, hat⟩ := World.cells?_some h1
      obtain ⟨xs, m', _, _, _, hlen, hf⟩ := DataW.trod_struct Try.underlying52 h2
      match cs', hcl with
      | [d0, d1], _ =>
        obtain ⟨z0, e0⟩ : ∃ z, xs[0]? = some z := ⟨xs[0]'(by rw [hlen]; decide), List.getElem?_eq_getElem _⟩
        obtain ⟨z1, e1⟩ : ∃ z, xs[1]? = some z := ⟨xs[1]'(by rw [hlen]; decide), List.getElem?_eq_getElem _⟩
        have f0 : DataW.trod enc Try.prog w base spare held m' 9 (([d0, d1].drop 0).take (Try.prog.cellsOf 9)) = some z0 := (hf 0 _ rfl).trans e0
        have f1 : DataW.trod enc Try.prog w base spare held m' 3 (([d0, d1].drop 1).take (Try.prog.cellsOf 3)) = some z1 := (hf 1 _ rfl).trans e1
        rw [c9] at f0
        rw [c3] at f1
        simp only [List.drop_succ_cons, List.drop_zero, List.take_succ_cons, List.take_zero] at f0 f1
        obtain ⟨s, g0, hs⟩ := str_field f0
        obtain ⟨x, g1, hx⟩ := int_field f1
        simp only [List.cons.injEq, and_true] at g0 g1
        subst g0 g1
        have b0 := hat (i := 0) (by simp)
        have b1 := hat (i := 1) (by simp)
        refine ⟨(s, x), ?_, ?_, hs, hx⟩
        · simpa [Addr.add] using b0
        · simpa using b1
    refine ⟨_, ts, rfl, some a, cap, by rw [hz], by omega, hmax, fun j hj => ?_⟩
    have := hr j ts[j] (List.getElem?_eq_getElem hj)
    exact ⟨a, rfl, this.1, this.2.1, this.2.2.1, this.2.2.2⟩
set_option maxRecDepth 100000 in
theorem code_open {n : Nat} {cs : List Value} {y : DataW H × List MemPlace} (h : DataW.trod enc Try.prog w base spare held n 43 cs = some y) : ∃ v code, cs = [v] ∧ CodeAt w v code ∧ ∀ i ∈ code, InsWf i := by
  have c47 : Try.prog.cellsOf 42 = 10 := by kernel_rfl
  rcases Deep.open_slice Try.underlying43 h with ⟨rfl, _⟩ | ⟨a, len, cap, m, k, D, Pl, rfl, _, hle, hmax, hm, _, hcell⟩
  · exact ⟨_, [], rfl, ⟨none, 0, rfl, by simp, by simp, fun k hk => absurd hk (Nat.not_lt_zero _)⟩, fun i hi => by cases hi⟩
  · have hlm : len ≤ m := by rw [hm]; split <;> omega
    obtain ⟨l, hz, hr⟩ := pairs_list len (fun j (t : Value × FIns) => InsAt w t.1 t.2 ∧ InsWf t.2 ∧ ∀ i u, t.1.cells[i]? = some u → w.cell? ((a.add (j * 10)).add i) = some u) fun j hj => by
      obtain ⟨cs', h1, h2⟩ := hcell j (by omega)
      rw [c47] at h1
      obtain ⟨_, hcl, hat⟩ := World.cells?_some h1
      obtain ⟨v, i, e, hi, hwf⟩ := ins_cells h2
      subst e
      refine ⟨(v, i), hi, hwf, fun q u hq => ?_⟩
      have hlt : q < v.cells.toList.length := by
        have := (Array.getElem?_eq_some_iff.1 hq).1
        simpa using this
      have := hat (i := q) (by rw [hcl] at hlt; exact hlt)
      have hq2 : v.cells.toList[q]? = some u := by simpa using hq
      rw [List.getElem?_eq_getElem hlt] at hq2
      cases hq2
      exact this.trans (List.getElem?_eq_getElem hlt)
    refine ⟨_, l.map (·.2), rfl, ⟨some a, cap, by rw [List.length_map, hz], by rw [List.length_map]; omega, hmax, fun j hj => ?_⟩, fun i hi => ?_⟩
    · have hjl : j < l.length := by simpa using hj
      have := hr j l[j] (List.getElem?_eq_getElem hjl)
      exact ⟨a, l[j].1, rfl, by rw [List.getElem_map]; exact this.1, this.2.2⟩
    · obtain ⟨t, ht, rfl⟩ := List.mem_map.1 hi
      obtain ⟨j, hj⟩ := List.getElem?_of_mem ht
      exact (hr j t hj).2.1
/-- what is so of a function that was read -/
def FnWf (f : FFn) : Prop := f.name.size ≤ maxLen ∧ ∀ i ∈ f.code, InsWf i
set_option maxRecDepth 100000 in
theorem fn_cells {n : Nat} {cs : List Value} {y : DataW H × List MemPlace} (h : DataW.trod enc Try.prog w base spare held n 46 cs = some y) : ∃ (v : Value) (f : FFn), cs = v.cells.toList ∧ FnAt w v f ∧ FnWf f := by
  obtain ⟨xs, m, _, _, hl, hlen, hf⟩ := DataW.trod_struct Try.underlying46 h
  have c9 : Try.prog.cellsOf 9 = 1 := by kernel_rfl
  have c45 : Try.prog.cellsOf 39 = 1 := by kernel_rfl
  have c42 : Try.prog.cellsOf 43 = 1 := by kernel_rfl
  have c54 : Try.prog.cellsOf 46 = 5 := by kernel_rfl
  rw [c54] at hl
  have hx : ∀ k, k < 5 → ∃ y, xs[k]? = some y := fun k hk => ⟨xs[k]'(by rw [hlen]; exact hk), List.getElem?_eq_getElem _⟩
  obtain ⟨dd0, dd1, dd2, dd3, dd4, rfl⟩ := five_of cs hl
  obtain ⟨y0, e0⟩ := hx 0 (by omega)
  obtain ⟨y1, e1⟩ := hx 1 (by omega)
  obtain ⟨y2, e2⟩ := hx 2 (by omega)
  obtain ⟨y3, e3⟩ := hx 3 (by omega)
  obtain ⟨y4, e4⟩ := hx 4 (by omega)
  have f0 : DataW.trod enc Try.prog w base spare held m 9 (([dd0, dd1, dd2, dd3, dd4].drop 0).take (Try.prog.cellsOf 9)) = some y0 := (hf 0 _ rfl).trans e0
  have f1 : DataW.trod enc Try.prog w base spare held m 39 (([dd0, dd1, dd2, dd3, dd4].drop 1).take (Try.prog.cellsOf 39)) = some y1 := (hf 1 _ rfl).trans e1
  have f2 : DataW.trod enc Try.prog w base spare held m 39 (([dd0, dd1, dd2, dd3, dd4].drop 2).take (Try.prog.cellsOf 39)) = some y2 := (hf 2 _ rfl).trans e2
  have f3 : DataW.trod enc Try.prog w base spare held m 39 (([dd0, dd1, dd2, dd3, dd4].drop 3).take (Try.prog.cellsOf 39)) = some y3 := (hf 3 _ rfl).trans e3
  have f4 : DataW.trod enc Try.prog w base spare held m 43 (([dd0, dd1, dd2, dd3, dd4].drop 4).take (Try.prog.cellsOf 43)) = some y4 := (hf 4 _ rfl).trans e4
  rw [c9] at f0
  rw [c45] at f1 f2 f3
  rw [c42] at f4
  simp only [List.drop_succ_cons, List.drop_zero, List.take_succ_cons, List.take_zero] at f0 f1 f2 f3 f4
  obtain ⟨name, g0, h0⟩ := str_field f0
  obtain ⟨v1, params, g1, h1⟩ := ints_field f1
  obtain ⟨v2, kinds, g2, h2⟩ := ints_field f2
  obtain ⟨v3, slots, g3, h3⟩ := ints_field f3
  obtain ⟨v4, code, g4, h4, h5⟩ := code_open f4
  simp only [List.cons.injEq, and_true] at g0 g1 g2 g3 g4
  subst g0 g1 g2 g3 g4
  exact ⟨_, ⟨name, params, kinds, slots, code⟩, rfl, ⟨_, _, _, _, rfl, h1, h2, h3, h4⟩, h0, h5⟩
set_option maxRecDepth 100000 in
theorem fns_open {n : Nat} {cs : List Value} {y : DataW H × List MemPlace} (h : DataW.trod enc Try.prog w base spare held n 23 cs = some y) : ∃ v fs, cs = [v] ∧ FnsAt w v fs ∧ ∀ f ∈ fs, FnWf f := by
  have c54 : Try.prog.cellsOf 46 = 5 := by kernel_rfl
  rcases Deep.open_slice Try.underlying23 h with ⟨rfl, _⟩ | ⟨a, len, cap, m, k, D, Pl, rfl, _, hle, hmax, hm, _, hcell⟩
  · exact ⟨_, [], rfl, ⟨none, 0, rfl, by simp, by simp, fun k hk => absurd hk (Nat.not_lt_zero _)⟩, fun i hi => by cases hi⟩
  · have hlm : len ≤ m := by rw [hm]; split <;> omega
    obtain ⟨l, hz, hr⟩ := pairs_list len (fun j (t : Value × FFn) => FnAt w t.1 t.2 ∧ FnWf t.2 ∧ ∀ i u, t.1.cells[i]? = some u → w.cell? ((a.add (j * 5)).add i) = some u) fun j hj => by
      obtain ⟨cs', h1, h2⟩ := hcell j (by omega)
      rw [c54] at h1
      obtain ⟨_, hcl, hat⟩ := World.cells?_some h1
      obtain ⟨v, i, e, hi, hwf⟩ := fn_cells h2
      subst e
      refine ⟨(v, i), hi, hwf, fun q u hq => ?_⟩
      have hlt : q < v.cells.toList.length := by
        have := (Array.getElem?_eq_some_iff.1 hq).1
        simpa using this
      have := hat (i := q) (by rw [hcl] at hlt; exact hlt)
      have hq2 : v.cells.toList[q]? = some u := by simpa using hq
      rw [List.getElem?_eq_getElem hlt] at hq2
      cases hq2
      exact this.trans (List.getElem?_eq_getElem hlt)
    refine ⟨_, l.map (·.2), rfl, ⟨some a, cap, by rw [List.length_map, hz], by rw [List.length_map]; omega, hmax, fun j hj => ?_⟩, fun i hi => ?_⟩
    · have hjl : j < l.length := by simpa using hj
      have := hr j l[j] (List.getElem?_eq_getElem hjl)
      exact ⟨a, l[j].1, rfl, by rw [List.getElem_map]; exact this.1, this.2.2⟩
    · obtain ⟨t, ht, rfl⟩ := List.mem_map.1 hi
      obtain ⟨j, hj⟩ := List.getElem?_of_mem ht
      exact (hr j t hj).2.1
set_option maxRecDepth 100000 in
/-- a unit that came in -/
theorem unit_in {r : Reach} {b0 : Nat} {v : Value} {d : DataW H} {p : List MemPlace} (hv : Value.okWide Try.prog w r b0 25 v) (h : DataW.Trod enc Try.prog w base spare held 25 v d p) : ∃ vt vf ts fs, v = .agg #[vt, vf] ∧ TopsAt w vt ts ∧ FnsAt w vf fs ∧ ∀ f ∈ fs, FnWf f := by
  have c25 : Try.prog.cellsOf 25 = 2 := by kernel_rfl
  have c22 : Try.prog.cellsOf 22 = 1 := by kernel_rfl
  have c23 : Try.prog.cellsOf 23 = 1 := by kernel_rfl
  obtain ⟨⟨cs⟩, rfl, hsz⟩ := okWide_struct Try.underlying25 hv
  rw [c25] at hsz
  obtain ⟨fuel, hf0⟩ := h
  obtain ⟨xs, m, _, _, hl, hlen, hf⟩ := DataW.trod_struct Try.underlying25 hf0
  obtain ⟨dd0, dd1, rfl⟩ := two_of cs (by simpa using hsz)
  obtain ⟨y0, e0⟩ : ∃ z, xs[0]? = some z := ⟨xs[0]'(by rw [hlen]; decide), List.getElem?_eq_getElem _⟩
  obtain ⟨y1, e1⟩ : ∃ z, xs[1]? = some z := ⟨xs[1]'(by rw [hlen]; decide), List.getElem?_eq_getElem _⟩
  have f0 : DataW.trod enc Try.prog w base spare held m 22 (([dd0, dd1].drop 0).take (Try.prog.cellsOf 22)) = some y0 := (hf 0 _ rfl).trans e0
  have f1 : DataW.trod enc Try.prog w base spare held m 23 (([dd0, dd1].drop 1).take (Try.prog.cellsOf 23)) = some y1 := (hf 1 _ rfl).trans e1
  rw [c22] at f0
  rw [c23] at f1
  simp only [List.drop_succ_cons, List.drop_zero, List.take_succ_cons, List.take_zero] at f0 f1
  obtain ⟨vt, ts, g0, h0⟩ := tops_open f0
  obtain ⟨vf, fs, g1, h1, h2⟩ := fns_open f1
  simp only [List.cons.injEq, and_true] at g0 g1
  subst g0 g1
  exact ⟨_, _, ts, fs, rfl, h0, h1, h2⟩
end

end Go.Proofs.Ytojfgdoniajmeaa
