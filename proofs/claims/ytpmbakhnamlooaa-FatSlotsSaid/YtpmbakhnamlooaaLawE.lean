/- The laws' helpers: a unit of one function, whose functions' row may be appended to. -/
import Derived.Test.YtpmbakhnamlooaaLawD
namespace Go.Proofs.Ytpmbakhnamlooaa
set_option linter.unusedVariables false
set_option linter.unusedSimpArgs false
open Go.RowKit

section
variable {w w' : World}
theorem insAt_old {v : Value} {i : FIns} (h : InsAt w v i) (s : ∀ b, b < w.heap.size → w'.heap[b]? = w.heap[b]?) : InsAt w' v i := by
  obtain ⟨va, vo, e, h1, h2⟩ := h
  exact ⟨va, vo, e, h1.old s, h2.old s⟩
theorem codeAt_old {v : Value} {code : List FIns} (h : CodeAt w v code) (s : ∀ b, b < w.heap.size → w'.heap[b]? = w.heap[b]?) : CodeAt w' v code := by
  obtain ⟨p, cap, e, h1, h2, h3⟩ := h
  refine ⟨p, cap, e, h1, h2, fun k hk => ?_⟩
  obtain ⟨a, vi, ha, hv, hc⟩ := h3 k hk
  exact ⟨a, vi, ha, insAt_old hv s, fun j u hj => (cell_of (s _ (block_lt (hc j u hj)))).trans (hc j u hj)⟩
theorem fnAt_old {v : Value} {f : FFn} (h : FnAt w v f) (s : ∀ b, b < w.heap.size → w'.heap[b]? = w.heap[b]?) : FnAt w' v f := by
  obtain ⟨vp, vk, vs, vc, e, h1, h2, h3, h4⟩ := h
  exact ⟨vp, vk, vs, vc, e, h1.old s, h2.old s, h3.old s, codeAt_old h4 s⟩
/-- a row of instructions in a block that stays -/
theorem codeAt_keep {F G : Nat → Prop} {b : Nat} {vis : List Value} {code : List FIns} (h : w.heap[b]? = some (.cells (vis.flatMap fun v => v.cells.toList).toArray 47 (0, 0))) (hv : KeepAll F w vis code) (hm : code.length ≤ maxLen) (hFb : F b) (hb : ¬ G b) (s : Step G w w') (hg : ∀ x, G x → F x ∨ w.heap.size ≤ x) : CodeAt w' (.slice (some ⟨b, 0, none⟩) code.length code.length) code := by
  have hk : KeepAll F w' vis code := hv.go (s.mono fun x hx h => (hg x h).resolve_right (by omega)) fun _ h => .inl h
  exact (codeRow_of_block ((s.block b (lt_obj h) hb).trans h) (hk.sub fun x (e : x = b) => .inl (by rw [e]; exact hFb)) hm).code
theorem fn_info : (Try.prog.info? 54).map (fun i => (i.zero, i.size, i.bytes)) = some (some (.agg #[.string ⟨#[]⟩, .slice none 0 0, .slice none 0 0, .slice none 0 0, .slice none 0 0]), 5, 112) := by kernel_rfl
/-- functions in a row of two -/
theorem fns_two {F : Nat → Prop} {p : Option Addr} {c : Nat} {c1 c2 : Array Value} {f1 f2 : FFn} (hs1 : c1.size = 5) (hs2 : c2.size = 5) (hr : RowAt w F 54 5 (.slice p 2 c) 2 (c1.toList ++ c2.toList)) (h1 : FnAt w (.agg c1) f1) (h2 : FnAt w (.agg c2) f2) : FnsAt w (.slice p 2 c) [f1, f2] := by
  obtain ⟨g, cap, cur, e, hF, hg, hn1, hn2, hsz, htk⟩ := hr.some (by omega)
  cases e
  refine ⟨_, c, rfl, hn1, hn2, fun k hk => ?_⟩
  have ad : ∀ k j : Nat, (((⟨g, 0, none⟩ : Addr).add (k * 5)).add j) = ⟨g, k * 5 + j, none⟩ := fun k j => by
    unfold Addr.add
    by_cases h0 : k * 5 = 0
    · by_cases h9 : j = 0
      · simp [h0, h9]
      · simp [h0, h9]
    · by_cases h9 : j = 0
      · simp [h0, h9]
      · simp [h0, h9]
  have hk2 : k < 2 := by simpa using hk
  rcases (by omega : k = 0 ∨ k = 1) with rfl | rfl
  · refine ⟨_, .agg c1, rfl, h1, fun j u hj => ?_⟩
    have hj : c1[j]? = some u := hj
    have hj5 : j < 5 := by rw [← hs1]; exact (Array.getElem?_eq_some_iff.1 hj).1
    rw [ad]
    exact row_cell hg htk (by rw [List.getElem?_append_left (by rw [Array.length_toList, hs1]; omega), show 0 * 5 + j = j by omega, Array.getElem?_toList]; exact hj)
  · refine ⟨_, .agg c2, rfl, h2, fun j u hj => ?_⟩
    have hj : c2[j]? = some u := hj
    rw [ad]
    exact row_cell hg htk (by rw [List.getElem?_append_right (by rw [Array.length_toList, hs1]; omega), Array.length_toList, hs1, show 1 * 5 + j - 5 = j by omega, Array.getElem?_toList]; exact hj)
set_option maxHeartbeats 1000000 in
set_option maxRecDepth 100000 in
theorem alone2_any {regs : Nat} {vs vc : Value} {sl : List Int} {code : List FIns} (hr : regs ≤ 1000) (hs : IntsAt .i64 w vs sl) (hc : CodeAt w vc code) :
    Calls Try.prog 18 #[.int .i64 regs, vs, vc] w fun e w' => ∃ vt b cells, e = .returned (.agg #[vt, .slice (some ⟨b, 0, none⟩) 1 1]) ∧ cells.size = 5 ∧ w'.heap[b]? = some (.cells cells 54 (0, 0)) ∧ w.heap.size ≤ b ∧ (∀ w'', Step (fun x => x = b) w' w'' → TopsAt w'' vt topsV ∧ FnAt w'' (.agg cells) (aloneF regs sl code)) ∧ Step (fun _ => False) w w' := by
  have hs0 := hs
  have hc0 := hc
  obtain ⟨⟨ps, cs, rfl, _, _, _⟩, _⟩ := hs
  obtain ⟨pc, cc, rfl, _, _, _⟩ := hc
  have HS := Lib.hid hs0
  have HC := Lib.hid hc0
  obtain ⟨i0, hi, hz0, hz1, hz2⟩ := info_parts int_info
  clear hs0 hc0
  generalize hB : w.heap.size = B
  have hmn : (⟨#[109, 97, 105, 110]⟩ : ByteArray) = mainN := rfl
  have kk1 := heap_alloc_new w (.cells #[.slice none 0 0, .slice none 0 0] 25 (0, 0))
  have s1 := Step.alloc (fun _ => False) w (.cells #[.slice none 0 0, .slice none 0 0] 25 (0, 0))
  generalize hw1 : w.alloc (.cells #[.slice none 0 0, .slice none 0 0] 25 (0, 0)) = w1 at *
  have hz1' : w1.heap.size = B + 1 := by rw [← hw1]; simp [hB]
  have kk2 := heap_alloc_new w1 (.cells #[.string mainN, .slice none 0 0, .slice none 0 0, .slice ps sl.length cs, .slice pc code.length cc] 54 (0, 0))
  have s2 := Step.alloc (fun _ => False) w1 (.cells #[.string mainN, .slice none 0 0, .slice none 0 0, .slice ps sl.length cs, .slice pc code.length cc] 54 (0, 0))
  replace kk1 := s2.keeps kk1
  replace s2 := s1.then s2
  rw [hz1'] at kk2
  rw [hB] at kk1
  go_enter Try.func18, Try.ntmps18
  go_wp2_with fail
  generalize hw2 : w1.alloc (.cells #[.string mainN, .slice none 0 0, .slice none 0 0, .slice ps sl.length cs, .slice pc code.length cc] 54 (0, 0)) = w2 at *
  have hz2' : w2.heap.size = B + 2 := by rw [← hw2]; simp [hz1']
  have K1 := Lib.hid kk1
  have K2 := Lib.hid kk2
  have S2 := Lib.hid s2
  clear kk1 kk2 s1 s2 hw1 hw2
  go_loopg [] regs (fun gg wr => ∃ (k : Nat) (pk : Option Addr) (ck : Nat), k ≤ regs ∧ regs - k ≤ gg ∧ wr.heap[B]? = some (.cells #[.slice none 0 0, .slice none 0 0] 25 (0, 0)) ∧ wr.heap[B + 1]? = some (.cells #[.string mainN, .slice none 0 0, .slice pk k ck, .slice ps sl.length cs, .slice pc code.length cc] 54 (0, 0)) ∧ RowAt wr (fun b => B + 2 ≤ b) 3 1 (.slice pk k ck) k (List.replicate k (.int .i64 1)) ∧ Step (fun _ => False) w wr)
  case atStart => exact ⟨0, none, 0, by omega, by omega, K1.out, K2.out, rowAt_nil _ _ _ _, S2.out⟩
  case round =>
    obtain ⟨k, pk, ck, hk, hgk, hk1, hk2, hrow, hst⟩ := hrel
    have K1 := Lib.hid hk1
    have K2 := Lib.hid hk2
    have ROW := Lib.hid hrow
    have ST := Lib.hid hst
    obtain ⟨f0, f1, f2, f3, f4, z0, z1, z2, z3, z4⟩ := cells_known5 hk2
    clear hk1 hk2 hrow hst
    by_cases hlt : k < regs
    · have hd : decide ((k : Int) < (regs : Int)) = true := decide_eq_true (by omega)
      go_wp2_with (first | (at_builtin; refine wpList_append_row rfl (.tmp 17) (.tmp 18) 45 rfl (fun b => B + 2 ≤ b) 3 i0 _ 1 8 Try.underlying45 hi hz0 hz1 hz2 rfl _ _ _ rfl (ROW.out.al _) ⟨wr.heap.size, 0, none⟩ 1 1 [.int .i64 1] rfl (by omega) rfl ?c1 ?c2 ?c3 ?c4 ?_))
      case c1 => exact new_cells rfl [_] _
      case c2 => exact fun u hu => by rw [List.mem_singleton.1 hu]; rfl
      case c3 => simp only [maxLen]; omega
      case c4 => omega
      intro g3 cap3 w3 hrow3 hst3 hz3
      have hlt1 := lt_obj K2.out
      have k1' := (hst3.block _ (by rw [show (wr.alloc (.cells #[.int .i64 1] 3)).heap.size = wr.heap.size + 1 by simp]; omega) (by omega)).trans ((Step.alloc (fun _ => False) wr (.cells #[.int .i64 1] 3 (0, 0))).keeps K1.out)
      have k2' := (hst3.block _ (by rw [show (wr.alloc (.cells #[.int .i64 1] 3)).heap.size = wr.heap.size + 1 by simp]; omega) (by omega)).trans ((Step.alloc (fun _ => False) wr (.cells #[.int .i64 1] 3 (0, 0))).keeps K2.out)
      have em : List.replicate k (Value.int .i64 1) ++ [Value.int .i64 1] = List.replicate (k + 1) (.int .i64 1) := by rw [List.replicate_succ']
      rw [em] at hrow3
      have K13 := Lib.hid k1'
      have K23 := Lib.hid k2'
      have ROW3 := Lib.hid hrow3
      have ST3 := Lib.hid ((ST.out.then (Step.alloc (fun _ => False) wr (.cells #[.int .i64 1] 3 (0, 0)))).trans hst3 fun x hx => .inr (by omega))
      obtain ⟨e0, e1, e2, e3, e4, x0, x1, x2, x3, x4⟩ := cells_known5 k2'
      clear k1' k2' hrow3 hst3 em f0 f1 f2 f3 f4 z0 z1 z2 z3 z4
      go_wp2_with fail
      go_roundg (regs - (k + 1))
      case measure => omega
      case rel =>
        have sset : Step (fun b => b = B + 1) w3 (w3.setCell ⟨B + 1, 2, none⟩ (.slice (some ⟨g3, 0, none⟩) (k + 1) cap3)) := Step.setCell _ _ _ _ rfl
        refine ⟨k + 1, some ⟨g3, 0, none⟩, cap3, by omega, by omega, (sset.block _ (lt_obj K13.out) (by omega)).trans K13.out, ?_, ?_, ST3.out.trans sset fun x hx => .inr (by omega)⟩
        · rw [set_known K23.out]; rfl
        · have hwz := ST.out.size
          exact (ROW3.out.same fun b hb hlt => sset.block b hlt (by omega)).mono fun b hb => by omega
    · have hd : decide ((k : Int) < (regs : Int)) = false := decide_eq_false (by omega)
      have e : k = regs := by omega
      subst e
      have hlt1 : B + 1 < wr.heap.size := lt_obj K2.out
      have hlt0 : B < wr.heap.size := lt_obj K1.out
      obtain ⟨g0, g1, y0, y1⟩ := cells_known2 K1.out
      have hset := set2_known K1.out (.slice (some ⟨wr.heap.size, 0, none⟩) 1 1) (.slice (some ⟨wr.heap.size + 1, 0, none⟩) 1 1)
      have sset := ((Step.refl (fun b => b = B) wr).set (p := ⟨B, 0, none⟩) (.inl rfl) (.slice (some ⟨wr.heap.size, 0, none⟩) 1 1)).set (p := ⟨B, 1, none⟩) (.inl rfl) (.slice (some ⟨wr.heap.size + 1, 0, none⟩) 1 1)
      have hsz : ((wr.setCell ⟨B, 0, none⟩ (.slice (some ⟨wr.heap.size, 0, none⟩) 1 1)).setCell ⟨B, 1, none⟩ (.slice (some ⟨wr.heap.size + 1, 0, none⟩) 1 1)).heap.size = wr.heap.size := by simp
      go_wp2_with fail
      generalize (wr.setCell ⟨B, 0, none⟩ (.slice (some ⟨wr.heap.size, 0, none⟩) 1 1)).setCell ⟨B, 1, none⟩ (.slice (some ⟨wr.heap.size + 1, 0, none⟩) 1 1) = ws at *
      have kt := heap_alloc_new ws (.cells #[.string ⟨#[118]⟩, .int .i64 24] 59 (0, 0))
      have st := Step.alloc (fun _ => False) ws (.cells #[.string ⟨#[118]⟩, .int .i64 24] 59 (0, 0))
      have kf := heap_alloc_new (ws.alloc (.cells #[.string ⟨#[118]⟩, .int .i64 24] 59 (0, 0))) (.cells #[.string mainN, .slice none 0 0, .slice pk k ck, .slice ps sl.length cs, .slice pc code.length cc] 54 (0, 0))
      have sf := st.then (Step.alloc (fun _ => False) (ws.alloc (.cells #[.string ⟨#[118]⟩, .int .i64 24] 59 (0, 0))) (.cells #[.string mainN, .slice none 0 0, .slice pk k ck, .slice ps sl.length cs, .slice pc code.length cc] 54 (0, 0)))
      replace kt := (Step.alloc (fun _ => False) (ws.alloc (.cells #[.string ⟨#[118]⟩, .int .i64 24] 59 (0, 0))) (.cells #[.string mainN, .slice none 0 0, .slice pk k ck, .slice ps sl.length cs, .slice pc code.length cc] 54 (0, 0))).keeps kt
      rw [show (ws.alloc (.cells #[.string ⟨#[118]⟩, .int .i64 24] 59 (0, 0))).heap.size = wr.heap.size + 1 by simp [hsz]] at kf
      rw [hsz] at kt
      have kb := sf.keeps hset
      have SS := Lib.hid (sset.then sf)
      generalize (ws.alloc (.cells #[.string ⟨#[118]⟩, .int .i64 24] 59 (0, 0))).alloc (.cells #[.string mainN, .slice none 0 0, .slice pk k ck, .slice ps sl.length cs, .slice pc code.length cc] 54 (0, 0)) = w5 at *
      have hkt := kt
      have hkf := kf
      obtain ⟨q0', q1', _, _⟩ := cells_known2 kb
      clear hset kb sset sf st kt kf g0 g1 y0 y1 f0 f1 f2 f3 f4 z0 z1 z2 z3 z4
      simp [bodyPost, results, Try.results18, go_sem, q0', q1']
      have s5 : Step (fun _ => False) w w5 := ST.out.trans SS.out fun x hx => .inr (by omega)
      have srow : ∀ b, B + 2 ≤ b → b < wr.heap.size → w5.heap[b]? = wr.heap[b]? := fun b hb hlt => SS.out.block b hlt (by omega)
      have hwz := ST.out.size
      refine ⟨_, _, ⟨rfl, rfl⟩, #[.string mainN, .slice none 0 0, .slice pk k ck, .slice ps sl.length cs, .slice pc code.length cc], rfl, hkf, by omega, fun w6 s6 => ⟨⟨_, 1, rfl, by simp [topsV], by simp [maxLen], fun j hj => ?_⟩, ?_⟩, s5⟩
      · have e : j = 0 := by simp [topsV] at hj; omega
        subst e
        have hkt6 := (s6.block _ (lt_obj hkt) (show ¬ wr.heap.size = wr.heap.size + 1 by omega)).trans hkt
        exact ⟨_, rfl, cell_known (i := 0) hkt6 rfl, cell_known (i := 1) hkt6 rfl, by simp [topsV, ByteArray.size, maxLen], rfl⟩
      · have sall : ∀ b, b < w.heap.size → w6.heap[b]? = w.heap[b]? := fun b hb => (s6.block b (Nat.lt_of_lt_of_le hb s5.size) (by have := hwz; omega)).trans (s5.block b hb fun x => x)
        refine ⟨_, _, _, _, rfl, ints_nil _ _, ?_, HS.out.old sall, codeAt_old HC.out sall⟩
        have hrow := ROW.out.same (w' := w6) fun b hb hlt => (s6.block b (Nat.lt_of_lt_of_le hlt SS.out.size) (by omega)).trans (srow b hb hlt)
        have e : List.replicate k (Value.int .i64 1) = (List.replicate k (1 : Int)).map (Value.int .i64) := by rw [List.map_replicate]
        rw [e] at hrow
        have := ints_of_row (zs := List.replicate k 1) (by simpa using hrow) fun z hz => by rw [(List.mem_replicate.1 hz).2]; rfl
        simpa [aloneF] using this
end
end Go.Proofs.Ytpmbakhnamlooaa
