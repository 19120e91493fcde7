/- The laws' helpers: rows of instructions; a unit of one function. -/
import Derived.Test.YtpmbakhnamlooaaRunB
import Derived.Deep.LoopGhost
namespace Go.Proofs.Ytpmbakhnamlooaa
set_option linter.unusedVariables false
set_option linter.unusedSimpArgs false
open Go.RowKit

section
variable {w w' : World}
theorem insAt_step {v : Value} {i : FIns} (h : InsAt w v i) (s : Step (fun _ => False) w w') : InsAt w' v i := by
  obtain ⟨va, vo, e, h1, h2⟩ := h
  exact ⟨va, vo, e, h1.step s fun _ x => x.elim, h2.step s fun _ x => x.elim⟩
theorem insAt_len {v : Value} {i : FIns} (h : InsAt w v i) : v.cells.toList.length = 10 := by
  obtain ⟨va, vo, rfl, _, _⟩ := h
  rfl
/-- an instruction's value stays so, whatever becomes of the blocks of F -/
def Keeps (F : Nat → Prop) (w : World) (v : Value) (i : FIns) : Prop := ∀ w', Step F w w' → InsAt w' v i
theorem Keeps.now {F : Nat → Prop} {v : Value} {i : FIns} (h : Keeps F w v i) : InsAt w v i := h w (Step.refl _ _)
theorem Keeps.go {F G : Nat → Prop} {v : Value} {i : FIns} (h : Keeps F w v i) (s : Step F w w') (g : ∀ b, G b → F b ∨ w.heap.size ≤ b) : Keeps G w' v i := fun w'' t => h w'' (s.trans t g)
def KeepAll (F : Nat → Prop) (w : World) : List Value → List FIns → Prop
  | [], [] => True
  | v :: vs, i :: is => Keeps F w v i ∧ KeepAll F w vs is
  | _, _ => False
theorem KeepAll.len {F : Nat → Prop} : ∀ {vs : List Value} {is : List FIns}, KeepAll F w vs is → vs.length = is.length
  | [], [], _ => rfl
  | _ :: _, _ :: _, h => by simpa using KeepAll.len h.2
  | [], _ :: _, h => h.elim
  | _ :: _, [], h => h.elim
theorem KeepAll.get {F : Nat → Prop} : ∀ {vs : List Value} {is : List FIns}, KeepAll F w vs is → ∀ k (hk : k < is.length) (hk' : k < vs.length), InsAt w vs[k] is[k]
  | _ :: _, _ :: _, h, 0, _, _ => h.1.now
  | _ :: _, _ :: _, h, k + 1, hk, hk' => KeepAll.get h.2 k (by simpa using hk) (by simpa using hk')
  | [], [], _, k, hk, _ => absurd hk (Nat.not_lt_zero _)
  | [], _ :: _, h, _, _, _ => h.elim
  | _ :: _, [], h, _, _, _ => h.elim
theorem KeepAll.go {F G : Nat → Prop} (s : Step F w w') (g : ∀ b, G b → F b ∨ w.heap.size ≤ b) : ∀ {vs : List Value} {is : List FIns}, KeepAll F w vs is → KeepAll G w' vs is
  | [], [], _ => trivial
  | _ :: _, _ :: _, h => ⟨h.1.go s g, KeepAll.go s g h.2⟩
  | [], _ :: _, h => h.elim
  | _ :: _, [], h => h.elim
theorem KeepAll.append {F : Nat → Prop} {vs' : List Value} {is' : List FIns} (h' : KeepAll F w vs' is') : ∀ {vs : List Value} {is : List FIns}, KeepAll F w vs is → KeepAll F w (vs ++ vs') (is ++ is')
  | [], [], _ => h'
  | _ :: _, _ :: _, h => ⟨h.1, KeepAll.append h' h.2⟩
  | [], _ :: _, h => h.elim
  | _ :: _, [], h => h.elim
/-- v is a row of instructions, of one's own -/
def CodeRow (w : World) (F : Nat → Prop) (v : Value) (code : List FIns) : Prop :=
  ∃ vis : List Value, RowAt w F 47 10 v code.length (vis.flatMap fun v => v.cells.toList) ∧ KeepAll F w vis code
theorem CodeRow.still {F : Nat → Prop} {v : Value} {code : List FIns} (h : CodeRow w F v code) (s : Step (fun _ => False) w w') : CodeRow w' F v code := by
  obtain ⟨vis, h2, h3⟩ := h
  exact ⟨vis, h2.same fun b _ hlt => s.block b hlt fun x => x, h3.go (s.mono fun _ _ x => x.elim) fun b hb => .inl hb⟩
theorem codeRow_nil (w : World) (F : Nat → Prop) : CodeRow w F (.slice none 0 0) [] := ⟨[], rowAt_nil _ _ _ _, trivial⟩
theorem flat_get {vis : List Value} (h : ∀ v ∈ vis, v.cells.toList.length = 10) : ∀ (k : Nat) (hk : k < vis.length) (j : Nat) (hj : j < 10), (vis.flatMap fun v => v.cells.toList)[k * 10 + j]? = vis[k].cells.toList[j]? := by
  induction vis with
  | nil => intro k hk; exact absurd hk (Nat.not_lt_zero _)
  | cons x l ih =>
    intro k hk j hj
    have hx := h x (by simp)
    rw [List.flatMap_cons]
    cases k with
    | zero => rw [List.getElem?_append_left (by omega)]; simp
    | succ k =>
      rw [List.getElem?_append_right (by omega), hx, show (k + 1) * 10 + j - 10 = k * 10 + j by omega, ih (fun v hv => h v (by simp [hv])) k (by simpa using hk) j hj]
      rfl
theorem CodeRow.code {F : Nat → Prop} {v : Value} {code : List FIns} (h : CodeRow w F v code) : CodeAt w v code := by
  obtain ⟨vis, h2, h3'⟩ := h
  have h1 := h3'.len
  have h3 := h3'.get
  obtain ⟨hl, ⟨rfl, hn⟩ | ⟨g, cap, cur, rfl, hF, hg, hn1, hn2, hsz, htk⟩⟩ := h2
  · exact ⟨none, 0, by rw [hn], by omega, by simp, fun k hk => by omega⟩
  · refine ⟨_, cap, rfl, hn1, hn2, fun k hk => ⟨_, vis[k], rfl, h3 k hk (by omega), fun j u hj => ?_⟩⟩
    have hall : ∀ v ∈ vis, v.cells.toList.length = 10 := fun v hv => by
      obtain ⟨m, hm, e⟩ := List.mem_iff_getElem.1 hv
      rw [← e]; exact insAt_len (h3 m (by omega) hm)
    have hj10 : j < 10 := by
      have := insAt_len (h3 k hk (by omega))
      have hlt := (Array.getElem?_eq_some_iff.1 hj).1
      simp only [Array.length_toList] at this
      omega
    have hc := row_cell hg htk (j := k * 10 + j) (u := u) (by rw [flat_get hall k (by omega) j hj10]; simpa using hj)
    have e : (((⟨g, 0, none⟩ : Addr).add (k * 10)).add j) = ⟨g, k * 10 + j, none⟩ := by
      unfold Addr.add
      by_cases h0 : k * 10 = 0
      · by_cases h9 : j = 0
        · simp [h0, h9]
        · simp [h0, h9]
      · by_cases h9 : j = 0
        · simp [h0, h9]
        · simp [h0, h9]
    rw [e]; exact hc
theorem ints_of_row {q : IntKind} {F : Nat → Prop} {e : TypeId} {v : Value} {zs : List Int} (h : RowAt w F e 1 v zs.length (zs.map (Value.int q))) (hw : ∀ z ∈ zs, (Lit.int q z).wf = true) : IntsAt q w v zs := by
  obtain ⟨hl, ⟨rfl, hn⟩ | ⟨g, cap, cur, rfl, hF, hg, hn1, hn2, hsz, htk⟩⟩ := h
  · exact ⟨⟨none, 0, by rw [hn], by omega, by simp, fun i hi => by omega⟩, hw⟩
  · refine ⟨⟨_, cap, rfl, hn1, hn2, fun i hi => ⟨_, rfl, ?_⟩⟩, hw⟩
    have hc := row_cell (size := 1) hg htk (j := i) (u := .int q (zs.getD i 0)) (by
      rw [List.getElem?_map, List.getElem?_eq_getElem hi, List.getD_eq_getElem?_getD, List.getElem?_eq_getElem hi]; rfl)
    have e : (⟨g, 0, none⟩ : Addr).add i = ⟨g, i, none⟩ := by
      unfold Addr.add
      by_cases h0 : i = 0 <;> simp [h0]
    rw [e]; exact hc
theorem codeAt_step {v : Value} {code : List FIns} (h : CodeAt w v code) (s : Step (fun _ => False) w w') : CodeAt w' v code := by
  obtain ⟨p, cap, e, h1, h2, h3⟩ := h
  refine ⟨p, cap, e, h1, h2, fun k hk => ?_⟩
  obtain ⟨a, vi, ha, hv, hc⟩ := h3 k hk
  exact ⟨a, vi, ha, insAt_step hv s, fun j u hj => (s.cell (block_lt (hc j u hj)) fun x => x).trans (hc j u hj)⟩
theorem add_zero_add (b j : Nat) : ((⟨b, 0, none⟩ : Addr).add (0 * 5)).add j = ⟨b, j, none⟩ := by
  unfold Addr.add
  by_cases h0 : j = 0 <;> simp [h0]
/-- an instruction's value -/
def insV (i : FIns) (va vo : Value) : Value := .agg #[.int .i64 i.op, .int .i64 i.dst, .int .i64 i.a, .int .i64 i.b, .int .u64 i.n, .int .i64 i.size, .string i.name, va, vo, .int .i64 i.to]

def mainN : ByteArray := ⟨#[109, 97, 105, 110]⟩
/-- a unit of one function -/
def aloneF (regs : Nat) (slots : List Int) (code : List FIns) : FFn := ⟨mainN, [], List.replicate regs 1, slots, code⟩
def topsV : List Tp := [(⟨#[118]⟩, 24)]
theorem ins_info : (Try.prog.info? 47).map (fun i => (i.zero, i.size, i.bytes)) = some (some (.agg #[.int .i64 0, .int .i64 0, .int .i64 0, .int .i64 0, .int .u64 0, .int .i64 0, .string ⟨#[]⟩, .slice none 0 0, .slice none 0 0, .int .i64 0]), 10, 120) := by kernel_rfl
--@PLANS
set_option maxHeartbeats 1000000 in
set_option maxRecDepth 100000 in
theorem alone_any {regs : Nat} {vs vc : Value} {sl : List Int} {code : List FIns} (hr : regs ≤ 1000) (hs : IntsAt .i64 w vs sl) (hc : CodeAt w vc code) :
    Calls Try.prog 18 #[.int .i64 regs, vs, vc] w fun e w' => ∃ vt vf, e = .returned (.agg #[vt, vf]) ∧ TopsAt w' vt topsV ∧ FnsAt w' vf [aloneF regs sl code] ∧ Step (fun _ => False) w w' := by
  have hs0 := hs
  have hc0 := hc
  obtain ⟨⟨ps, cs, rfl, _, _, _⟩, _⟩ := hs
  obtain ⟨pc, cc, rfl, _, _, _⟩ := hc
  have HS := Lib.hid hs0
  have HC := Lib.hid hc0
  obtain ⟨i0, hi, hz0, hz1, hz2⟩ := info_parts int_info
  clear hs0 hc0
  generalize hB : w.heap.size = B
  have hmn : (⟨#[109, 97, 105, 110]⟩ : ByteArray) = mainN := rfl
  have kk1 := heap_alloc_new w (.cells #[.slice none 0 0, .slice none 0 0] 25 (0, 0))
  have s1 := Step.alloc (fun _ => False) w (.cells #[.slice none 0 0, .slice none 0 0] 25 (0, 0))
  generalize hw1 : w.alloc (.cells #[.slice none 0 0, .slice none 0 0] 25 (0, 0)) = w1 at *
  have hz1' : w1.heap.size = B + 1 := by rw [← hw1]; simp [hB]
  have kk2 := heap_alloc_new w1 (.cells #[.string mainN, .slice none 0 0, .slice none 0 0, .slice ps sl.length cs, .slice pc code.length cc] 54 (0, 0))
  have s2 := Step.alloc (fun _ => False) w1 (.cells #[.string mainN, .slice none 0 0, .slice none 0 0, .slice ps sl.length cs, .slice pc code.length cc] 54 (0, 0))
  replace kk1 := s2.keeps kk1
  replace s2 := s1.then s2
  rw [hz1'] at kk2
  rw [hB] at kk1
  go_enter Try.func18, Try.ntmps18
  go_wp2_with fail
  generalize hw2 : w1.alloc (.cells #[.string mainN, .slice none 0 0, .slice none 0 0, .slice ps sl.length cs, .slice pc code.length cc] 54 (0, 0)) = w2 at *
  have hz2' : w2.heap.size = B + 2 := by rw [← hw2]; simp [hz1']
  have K1 := Lib.hid kk1
  have K2 := Lib.hid kk2
  have S2 := Lib.hid s2
  clear kk1 kk2 s1 s2 hw1 hw2
  go_loopg [] regs (fun gg wr => ∃ (k : Nat) (pk : Option Addr) (ck : Nat), k ≤ regs ∧ regs - k ≤ gg ∧ wr.heap[B]? = some (.cells #[.slice none 0 0, .slice none 0 0] 25 (0, 0)) ∧ wr.heap[B + 1]? = some (.cells #[.string mainN, .slice none 0 0, .slice pk k ck, .slice ps sl.length cs, .slice pc code.length cc] 54 (0, 0)) ∧ RowAt wr (fun b => B + 2 ≤ b) 3 1 (.slice pk k ck) k (List.replicate k (.int .i64 1)) ∧ Step (fun _ => False) w wr)
  case atStart => exact ⟨0, none, 0, by omega, by omega, K1.out, K2.out, rowAt_nil _ _ _ _, S2.out⟩
  case round =>
    obtain ⟨k, pk, ck, hk, hgk, hk1, hk2, hrow, hst⟩ := hrel
    have K1 := Lib.hid hk1
    have K2 := Lib.hid hk2
    have ROW := Lib.hid hrow
    have ST := Lib.hid hst
    obtain ⟨f0, f1, f2, f3, f4, z0, z1, z2, z3, z4⟩ := cells_known5 hk2
    clear hk1 hk2 hrow hst
    by_cases hlt : k < regs
    · have hd : decide ((k : Int) < (regs : Int)) = true := decide_eq_true (by omega)
      go_wp2_with (first | (at_builtin; refine wpList_append_row rfl (.tmp 17) (.tmp 18) 45 rfl (fun b => B + 2 ≤ b) 3 i0 _ 1 8 Try.underlying45 hi hz0 hz1 hz2 rfl _ _ _ rfl (ROW.out.al _) ⟨wr.heap.size, 0, none⟩ 1 1 [.int .i64 1] rfl (by omega) rfl ?c1 ?c2 ?c3 ?c4 ?_))
      case c1 => exact new_cells rfl [_] _
      case c2 => exact fun u hu => by rw [List.mem_singleton.1 hu]; rfl
      case c3 => simp only [maxLen]; omega
      case c4 => omega
      intro g3 cap3 w3 hrow3 hst3 hz3
      have hlt1 := lt_obj K2.out
      have k1' := (hst3.block _ (by rw [show (wr.alloc (.cells #[.int .i64 1] 3)).heap.size = wr.heap.size + 1 by simp]; omega) (by omega)).trans ((Step.alloc (fun _ => False) wr (.cells #[.int .i64 1] 3 (0, 0))).keeps K1.out)
      have k2' := (hst3.block _ (by rw [show (wr.alloc (.cells #[.int .i64 1] 3)).heap.size = wr.heap.size + 1 by simp]; omega) (by omega)).trans ((Step.alloc (fun _ => False) wr (.cells #[.int .i64 1] 3 (0, 0))).keeps K2.out)
      have em : List.replicate k (Value.int .i64 1) ++ [Value.int .i64 1] = List.replicate (k + 1) (.int .i64 1) := by rw [List.replicate_succ']
      rw [em] at hrow3
      have K13 := Lib.hid k1'
      have K23 := Lib.hid k2'
      have ROW3 := Lib.hid hrow3
      have ST3 := Lib.hid ((ST.out.then (Step.alloc (fun _ => False) wr (.cells #[.int .i64 1] 3 (0, 0)))).trans hst3 fun x hx => .inr (by omega))
      obtain ⟨e0, e1, e2, e3, e4, x0, x1, x2, x3, x4⟩ := cells_known5 k2'
      clear k1' k2' hrow3 hst3 em f0 f1 f2 f3 f4 z0 z1 z2 z3 z4
      go_wp2_with fail
      go_roundg (regs - (k + 1))
      case measure => omega
      case rel =>
        have sset : Step (fun b => b = B + 1) w3 (w3.setCell ⟨B + 1, 2, none⟩ (.slice (some ⟨g3, 0, none⟩) (k + 1) cap3)) := Step.setCell _ _ _ _ rfl
        refine ⟨k + 1, some ⟨g3, 0, none⟩, cap3, by omega, by omega, (sset.block _ (lt_obj K13.out) (by omega)).trans K13.out, ?_, ?_, ST3.out.trans sset fun x hx => .inr (by omega)⟩
        · rw [set_known K23.out]; rfl
        · have hwz := ST.out.size
          exact (ROW3.out.same fun b hb hlt => sset.block b hlt (by omega)).mono fun b hb => by omega
    · have hd : decide ((k : Int) < (regs : Int)) = false := decide_eq_false (by omega)
      have e : k = regs := by omega
      subst e
      have hlt1 : B + 1 < wr.heap.size := lt_obj K2.out
      have hlt0 : B < wr.heap.size := lt_obj K1.out
      obtain ⟨g0, g1, y0, y1⟩ := cells_known2 K1.out
      have hset := set2_known K1.out (.slice (some ⟨wr.heap.size, 0, none⟩) 1 1) (.slice (some ⟨wr.heap.size + 1, 0, none⟩) 1 1)
      have sset := ((Step.refl (fun b => b = B) wr).set (p := ⟨B, 0, none⟩) (.inl rfl) (.slice (some ⟨wr.heap.size, 0, none⟩) 1 1)).set (p := ⟨B, 1, none⟩) (.inl rfl) (.slice (some ⟨wr.heap.size + 1, 0, none⟩) 1 1)
      have hsz : ((wr.setCell ⟨B, 0, none⟩ (.slice (some ⟨wr.heap.size, 0, none⟩) 1 1)).setCell ⟨B, 1, none⟩ (.slice (some ⟨wr.heap.size + 1, 0, none⟩) 1 1)).heap.size = wr.heap.size := by simp
      go_wp2_with fail
      generalize (wr.setCell ⟨B, 0, none⟩ (.slice (some ⟨wr.heap.size, 0, none⟩) 1 1)).setCell ⟨B, 1, none⟩ (.slice (some ⟨wr.heap.size + 1, 0, none⟩) 1 1) = ws at *
      have kt := heap_alloc_new ws (.cells #[.string ⟨#[118]⟩, .int .i64 24] 59 (0, 0))
      have st := Step.alloc (fun _ => False) ws (.cells #[.string ⟨#[118]⟩, .int .i64 24] 59 (0, 0))
      have kf := heap_alloc_new (ws.alloc (.cells #[.string ⟨#[118]⟩, .int .i64 24] 59 (0, 0))) (.cells #[.string mainN, .slice none 0 0, .slice pk k ck, .slice ps sl.length cs, .slice pc code.length cc] 54 (0, 0))
      have sf := st.then (Step.alloc (fun _ => False) (ws.alloc (.cells #[.string ⟨#[118]⟩, .int .i64 24] 59 (0, 0))) (.cells #[.string mainN, .slice none 0 0, .slice pk k ck, .slice ps sl.length cs, .slice pc code.length cc] 54 (0, 0)))
      replace kt := (Step.alloc (fun _ => False) (ws.alloc (.cells #[.string ⟨#[118]⟩, .int .i64 24] 59 (0, 0))) (.cells #[.string mainN, .slice none 0 0, .slice pk k ck, .slice ps sl.length cs, .slice pc code.length cc] 54 (0, 0))).keeps kt
      rw [show (ws.alloc (.cells #[.string ⟨#[118]⟩, .int .i64 24] 59 (0, 0))).heap.size = wr.heap.size + 1 by simp [hsz]] at kf
      rw [hsz] at kt
      have kb := sf.keeps hset
      have SS := Lib.hid (sset.then sf)
      generalize (ws.alloc (.cells #[.string ⟨#[118]⟩, .int .i64 24] 59 (0, 0))).alloc (.cells #[.string mainN, .slice none 0 0, .slice pk k ck, .slice ps sl.length cs, .slice pc code.length cc] 54 (0, 0)) = w5 at *
      have hkt := kt
      have hkf := kf
      obtain ⟨q0', q1', _, _⟩ := cells_known2 kb
      clear hset kb sset sf st kt kf g0 g1 y0 y1 f0 f1 f2 f3 f4 z0 z1 z2 z3 z4
      simp [bodyPost, results, Try.results18, go_sem, q0', q1']
      have s5 : Step (fun _ => False) w w5 := ST.out.trans SS.out fun x hx => .inr (by omega)
      have srow : ∀ b, B + 2 ≤ b → b < wr.heap.size → w5.heap[b]? = wr.heap[b]? := fun b hb hlt => SS.out.block b hlt (by omega)
      refine ⟨_, _, ⟨rfl, rfl⟩, ⟨_, 1, rfl, by simp [topsV], by simp [maxLen], fun j hj => ?_⟩, ⟨_, 1, rfl, by simp, by simp [maxLen], fun j hj => ?_⟩, s5⟩
      · have e : j = 0 := by simp [topsV] at hj; omega
        subst e
        exact ⟨_, rfl, cell_known (i := 0) hkt rfl, cell_known (i := 1) hkt rfl, by simp [topsV, ByteArray.size, maxLen], rfl⟩
      · have e : j = 0 := by simp at hj; omega
        subst e
        refine ⟨_, .agg #[.string mainN, .slice none 0 0, .slice pk k ck, .slice ps sl.length cs, .slice pc code.length cc], rfl, ⟨_, _, _, _, rfl, ints_nil _ _, ?_, HS.out.step s5 (fun _ x => x.elim), ?_⟩, fun j u hj => ?_⟩
        · have hrow := ROW.out.same (w' := w5) fun b hb hlt => srow b hb hlt
          have e : List.replicate k (Value.int .i64 1) = (List.replicate k (1 : Int)).map (Value.int .i64) := by rw [List.map_replicate]
          rw [e] at hrow
          have := ints_of_row (zs := List.replicate k 1) (by simpa using hrow) fun z hz => by rw [(List.mem_replicate.1 hz).2]; rfl
          simpa [aloneF] using this
        · exact codeAt_step HC.out s5
        · rw [add_zero_add]
          exact cell_known hkf hj
theorem row_of_block {b : Nat} {cur : Array Value} {e : TypeId} {size n : Nat} (h : w.heap[b]? = some (.cells cur e (0, 0))) (hn : cur.size = n * size) (hm : n ≤ maxLen) : RowAt w (fun x => x = b) e size (.slice (some ⟨b, 0, none⟩) n n) n cur.toList :=
  ⟨by rw [Array.length_toList, hn], .inr ⟨b, n, cur, rfl, rfl, h, Nat.le_refl _, hm, hn, by rw [List.take_of_length_le (by rw [Array.length_toList, hn]; exact Nat.le_refl _)]⟩⟩
theorem keepAll_flat {F : Nat → Prop} : ∀ {l : List Value} {c : List FIns}, KeepAll F w l c → (l.flatMap fun v => v.cells.toList).length = c.length * 10
  | [], [], _ => rfl
  | x :: l, y :: c, h => by rw [List.flatMap_cons, List.length_append, insAt_len h.1.now, keepAll_flat h.2, List.length_cons]; omega
  | [], _ :: _, h => h.elim
  | _ :: _, [], h => h.elim
theorem codeRow_of_block {b : Nat} {vis : List Value} {code : List FIns} (h : w.heap[b]? = some (.cells (vis.flatMap fun v => v.cells.toList).toArray 47 (0, 0))) (hv : KeepAll (fun x => x = b) w vis code) (hm : code.length ≤ maxLen) : CodeRow w (fun x => x = b) (.slice (some ⟨b, 0, none⟩) code.length code.length) code := by
  have hr := row_of_block (size := 10) (n := code.length) h (by rw [List.size_toArray, keepAll_flat hv]) hm
  exact ⟨vis, by simpa using hr, hv⟩
/-- a row of instructions got some more -/
theorem CodeRow.app {F : Nat → Prop} {v' : Value} {vis nvis : List Value} {code ncode : List FIns} (hk : KeepAll F w vis code) (hn : KeepAll F w nvis ncode) (st : Step F w w') (hr : RowAt w' (fun g => F g ∨ g = w.heap.size) 47 10 v' (code.length + ncode.length) ((vis.flatMap fun v => v.cells.toList) ++ (nvis.flatMap fun v => v.cells.toList))) : CodeRow w' (fun g => F g ∨ g = w.heap.size) v' (code ++ ncode) := by
  refine ⟨vis ++ nvis, by rw [List.length_append, List.flatMap_append]; exact hr, ?_⟩
  exact KeepAll.append (hn.go st fun b hb => by rcases hb with h | h; exact .inl h; exact .inr (by omega)) (hk.go st fun b hb => by rcases hb with h | h; exact .inl h; exact .inr (by omega))
/-- integers in a block that stays -/
theorem ints_keep {F : Nat → Prop} {q : IntKind} {b n : Nat} {T : TypeId} {cs : Array Value} {zs : List Int} (h : w.heap[b]? = some (.cells cs T (0, 0))) (hc : cs.toList = zs.map (Value.int q)) (hf : ¬ F b) (hn : zs.length = n) (hm : n ≤ maxLen) (hw : ∀ z ∈ zs, (Lit.int q z).wf = true) : ∀ w', Step F w w' → IntsAt q w' (.slice (some ⟨b, 0, none⟩) n n) zs := fun w' s => by
  subst hn
  have h' := (s.block b (lt_obj h) hf).trans h
  have hr := row_of_block (size := 1) (n := zs.length) h' (by rw [← Array.length_toList, hc]; simp) hm
  rw [hc] at hr
  exact ints_of_row hr hw
theorem keeps_bare {F : Nat → Prop} {i : FIns} (ha : i.args = []) (ho : i.outs = []) : Keeps F w (insV i (.slice none 0 0) (.slice none 0 0)) i := fun w' _ => ⟨_, _, rfl, by rw [ha]; exact ints_nil _ _, by rw [ho]; exact ints_nil _ _⟩
def insOf (op dst a b n size : Int) (args outs : List Int) (far : Int) : FIns := ⟨op, dst, a, b, n, size, ⟨#[]⟩, args, outs, far⟩
def insOkB (i : FIns) : Bool := decide (i.name.size ≤ 100) && decide (0 ≤ i.n) && decide (i.n < 18446744073709551616) && decide (i.args.length ≤ 1000) && decide (i.outs.length ≤ 1000) && decide (0 ≤ i.op) && decide (i.op ≤ 100)
theorem insOk_of {i : FIns} (h : insOkB i = true) : i.name.size ≤ maxLen ∧ is64 i.n ∧ i.args.length ≤ 1000 ∧ i.outs.length ≤ 1000 ∧ (Lit.int .i64 i.op).wf = true := by
  unfold insOkB at h
  simp only [Bool.and_eq_true, decide_eq_true_eq] at h
  refine ⟨by simp only [maxLen]; omega, ⟨by omega, by omega⟩, by omega, by omega, ?_⟩
  simp only [Lit.wf, Bool.and_eq_true, decide_eq_true_eq]
  have e1 : IntKind.i64.min = -9223372036854775808 := rfl
  have e2 : IntKind.i64.max = 9223372036854775807 := rfl
  omega
theorem unitOk_alone {regs : Nat} {sl : List Int} {code : List FIns} (hr : regs ≤ 1000) (hs : sl.length ≤ 1000) (hc : code.length ≤ 100000) (hi : code.all insOkB = true) : UnitOk topsV [aloneF regs sl code] := by
  rw [List.all_eq_true] at hi
  refine ⟨by simp [topsV], by simp, fun f hf => ?_, fun f hf i hm => ?_⟩
  · rw [List.mem_singleton.1 hf]
    simp only [aloneF, List.length_replicate, List.length_nil, mainN]
    exact ⟨by omega, by omega, by omega, by omega, by simp [ByteArray.size, maxLen]⟩
  · rw [List.mem_singleton.1 hf] at hm
    exact insOk_of (hi i hm)
/-- the document's example -/
def awakeC : List FIns := [insOf 34 0 0 0 0 1 [0, 1, 2, 3, 4] [] 0, insOf 43 0 0 0 0 0 [] [] 0]
theorem awake_runs : runU topsV [aloneF 5 [] awakeC] [] 9 = ⟨2, 0, [], 1, 1⟩ := by kernel_rfl
set_option maxHeartbeats 1000000 in
set_option maxRecDepth 100000 in
theorem awake_any (w : World) : Calls Try.prog 10 #[] w fun e w' => e = .returned (.bool true) ∧ Step (fun _ => False) w w' := by
  have k1 := heap_alloc_new w (.cells #[.int .i64 0, .int .i64 1, .int .i64 2, .int .i64 3, .int .i64 4] 3 (0, 0))
  have s1 := Step.alloc (fun _ => False) w (.cells #[.int .i64 0, .int .i64 1, .int .i64 2, .int .i64 3, .int .i64 4] 3 (0, 0))
  have k2 := heap_alloc_new (w.alloc (.cells #[.int .i64 0, .int .i64 1, .int .i64 2, .int .i64 3, .int .i64 4] 3 (0, 0))) (.cells #[.int .i64 34, .int .i64 0, .int .i64 0, .int .i64 0, .int .u64 0, .int .i64 1, .string ⟨#[]⟩, .slice (some ⟨w.heap.size, 0, none⟩) 5 5, .slice none 0 0, .int .i64 0, .int .i64 43, .int .i64 0, .int .i64 0, .int .i64 0, .int .u64 0, .int .i64 0, .string ⟨#[]⟩, .slice none 0 0, .slice none 0 0, .int .i64 0] 47 (0, 0))
  have s2 := Step.alloc (fun _ => False) (w.alloc (.cells #[.int .i64 0, .int .i64 1, .int .i64 2, .int .i64 3, .int .i64 4] 3 (0, 0))) (.cells #[.int .i64 34, .int .i64 0, .int .i64 0, .int .i64 0, .int .u64 0, .int .i64 1, .string ⟨#[]⟩, .slice (some ⟨w.heap.size, 0, none⟩) 5 5, .slice none 0 0, .int .i64 0, .int .i64 43, .int .i64 0, .int .i64 0, .int .i64 0, .int .u64 0, .int .i64 0, .string ⟨#[]⟩, .slice none 0 0, .slice none 0 0, .int .i64 0] 47 (0, 0))
  rw [show (w.alloc (.cells #[.int .i64 0, .int .i64 1, .int .i64 2, .int .i64 3, .int .i64 4] 3 (0, 0))).heap.size = w.heap.size + 1 by simp] at k2
  go_enter Try.func10, Try.ntmps10
  go_wp2_with fail
  replace k1 := s2.keeps k1
  have S2 := Lib.hid (s1.then s2)
  generalize (w.alloc (.cells #[.int .i64 0, .int .i64 1, .int .i64 2, .int .i64 3, .int .i64 4] 3 (0, 0))).alloc (.cells #[.int .i64 34, .int .i64 0, .int .i64 0, .int .i64 0, .int .u64 0, .int .i64 1, .string ⟨#[]⟩, .slice (some ⟨w.heap.size, 0, none⟩) 5 5, .slice none 0 0, .int .i64 0, .int .i64 43, .int .i64 0, .int .i64 0, .int .i64 0, .int .u64 0, .int .i64 0, .string ⟨#[]⟩, .slice none 0 0, .slice none 0 0, .int .i64 0] 47 (0, 0)) = w2 at *
  have hargs := ints_keep (F := fun x => x = w.heap.size + 1) (q := .i64) (zs := [0, 1, 2, 3, 4]) k1 rfl (by omega) rfl (by simp [maxLen]) (by decide)
  have hrow : CodeRow w2 _ _ awakeC := codeRow_of_block (vis := [insV (insOf 34 0 0 0 0 1 [0, 1, 2, 3, 4] [] 0) (.slice (some ⟨w.heap.size, 0, none⟩) 5 5) (.slice none 0 0), insV (insOf 43 0 0 0 0 0 [] [] 0) (.slice none 0 0) (.slice none 0 0)]) k2 ⟨fun y hy => ⟨_, _, rfl, hargs y hy, ints_nil _ _⟩, keeps_bare rfl rfl, trivial⟩ (by simp [awakeC, maxLen])
  refine (alone_any (regs := 5) (sl := []) (by omega) (ints_nil _ _) hrow.code).mono ?_
  rintro e w3 ⟨vt, vf, rfl, htops, hfns, s3⟩
  have RUN := Lib.hid (Run_any (w := w3) (fuel := 9) htops hfns (ints_nil .u8 w3) (unitOk_alone (by omega) (by simp) (by simp [awakeC]) (by decide)) (by omega))
  rw [awake_runs] at RUN
  have S3 := Lib.hid (S2.out.then s3)
  clear k1 k2 s1 s2 hargs hrow s3 htops hfns
  go_wp2_with fail
  refine RUN.out.mono ?_
  rintro e w4 ⟨vo, rfl, hrow, s4⟩
  obtain ⟨oa, oc, rfl⟩ := hrow.slice
  have S4 := Lib.hid ((S3.out.then s4).then (Step.alloc (fun _ => False) w4 (.cells #[.int .i64 2, .int .u8 0, .int .i64 0, .slice oa 0 oc, .int .i64 1, .int .i64 1] 31 (0, 0))))
  clear hrow s4
  unfold resV
  go_wp2_with fail
  go_ret
  exact ⟨rfl, S4.out⟩
end
end Go.Proofs.Ytpmbakhnamlooaa
