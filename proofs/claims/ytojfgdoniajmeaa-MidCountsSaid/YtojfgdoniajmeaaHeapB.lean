/- The heap's calls Make, Load, Store: what they answer, and what the heap stands for behind them. -/
import Derived.Test.YtojfgdoniajmeaaHeapA
import Derived.BigRegion
namespace Go.Proofs.Ytojfgdoniajmeaa
set_option linter.unusedVariables false
set_option linter.unusedSimpArgs false
set_option maxRecDepth 100000
open Go.RowKit

theorem blockOf_modify (l : List HB) (b : Int) (g : HB → HB) (h0 : 0 ≤ b) (h1 : b < l.length) (x : Int) : blockOf (l.modify b.toNat g) x = if x = b then g (blockOf l b) else blockOf l x := by
  have hb : b.toNat < l.length := by omega
  unfold blockOf
  by_cases hx : x = b
  · subst hx
    simp [h0, hb]
  · rw [if_neg hx]
    by_cases h : 0 ≤ x
    · have hn : b.toNat ≠ x.toNat := by omega
      simp [h, hn]
    · simp [h]
theorem blockOf_snoc (l : List HB) (y : HB) (x : Int) : blockOf (l ++ [y]) x = if x = l.length then y else blockOf l x := by
  unfold blockOf
  by_cases hx : x = l.length
  · subst hx; simp
  · rw [if_neg hx]
    by_cases h : 0 ≤ x
    · rw [if_pos h, if_pos h]
      by_cases hl : x.toNat < l.length
      · simp [List.getElem?_append_left hl]
      · have h2 : l.length + 1 ≤ x.toNat := by omega
        simp only [List.getD_eq_getElem?_getD]
        rw [List.getElem?_eq_none (by simpa using h2), List.getElem?_eq_none (by omega)]
    · rw [if_neg h, if_neg h]
theorem clean_snoc {l : List HB} {f : Lit → Option HV} (h : Swept l f) (y : HB) : Swept (l ++ [y]) f := by
  intro b o hb ho hu
  rw [blockOf_snoc] at hu
  refine h b o hb ho ?_
  by_cases hx : b = l.length
  · subst hx; unfold blockOf; simp
  · rwa [if_neg hx] at hu

/-- a heap in memory, laid open: its struct's block, its row's, its map's -/
structure Parts (w : World) (p g cap mb : Nat) (cur : Array Value) (l : List HB) (f : Lit → Option HV) (n : Nat) (F : Nat → Prop) : Prop where
  struct : w.heap[p]? = some (.cells #[.slice (some ⟨g, 0, none⟩) l.length cap, .map (some mb)] 92 (0, 0))
  row : w.heap[g]? = some (.cells cur 114 (0, 0))
  room : l.length ≤ cap
  top : cap ≤ maxLen
  size : cur.size = cap * 4
  cells : cur.toList.take (l.length * 4) = rows l
  map : MapAt Try.prog 164 w mb n (fun kl => (f kl).map HV.val)
  hg : F g
  hm : F mb
  hp : F p
  gp : g ≠ p
  gm : g ≠ mb
  mp : mb ≠ p
  dom : Places f
  clean : Swept l f

section
variable {w : World} {p g cap mb n : Nat} {cur : Array Value} {l : List HB} {f : Lit → Option HV} {F : Nat → Prop}
theorem HeapAt.parts (h : HeapAt w p l f n F) (hl : 0 < l.length) : ∃ g cap mb cur, Parts w p g cap mb cur l f n F := by
  obtain ⟨⟨sv, mb, h1, h2, h3, h4, h5⟩, h6, h7, h8⟩ := h
  obtain ⟨g, cap, cur, rfl, ⟨g1, g2, g3⟩, hg, hc, hm, hs, ht⟩ := h2.some hl
  exact ⟨g, cap, mb, cur, h1, hg, hc, hm, hs, ht, h3, g1, h4, h6, g2, g3, h5, h7, h8⟩
theorem Parts.whole (h : Parts w p g cap mb cur l f n F) : HeapAt w p l f n F :=
  ⟨⟨_, mb, h.struct, ⟨rows_length l, .inr ⟨g, cap, cur, rfl, ⟨h.hg, h.gp, h.gm⟩, h.row, h.room, h.top, h.size, h.cells⟩⟩, h.map, h.hm, h.mp⟩, h.hp, h.dom, h.clean⟩
theorem Parts.rowAt (h : Parts w p g cap mb cur l f n F) : RowAt w (fun x => x = g) 114 4 (.slice (some ⟨g, 0, none⟩) l.length cap) l.length (rows l) :=
  ⟨rows_length l, .inr ⟨g, cap, cur, rfl, rfl, h.row, h.room, h.top, h.size, h.cells⟩⟩
theorem Parts.cell (h : Parts w p g cap mb cur l f n F) (i : Nat) (hi : i < l.length) :
    w.cell? ⟨g, i * 4, none⟩ = some (.int .i64 l[i].size) ∧ w.cell? ⟨g, i * 4 + 1, none⟩ = some (.bool l[i].free) ∧ w.cell? ⟨g, i * 4 + 2, none⟩ = some (.bool l[i].live) ∧ w.cell? ⟨g, i * 4 + 3, none⟩ = some (.bool l[i].used) := by
  have k := fun j (hj : j < 4) (u : Value) (hu : (l[i].cells)[j]? = some u) => row_cell h.row h.cells (j := i * 4 + j) (u := u) (by rw [rows_get l i hi j hj]; exact hu)
  exact ⟨k 0 (by omega) _ rfl, k 1 (by omega) _ rfl, k 2 (by omega) _ rfl, k 3 (by omega) _ rfl⟩
end

theorem rows_cons (x : HB) (l : List HB) : rows (x :: l) = x.cells ++ rows l := rfl
theorem rows_modify (upd : HB → HB) (j : Nat) (u : Value) (hj : j < 4) (hu : ∀ y : HB, (upd y).cells = y.cells.set j u) : ∀ (l : List HB) (i : Nat), i < l.length → rows (l.modify i upd) = (rows l).set (i * 4 + j) u
  | [], i, h => by simp at h
  | x :: l, 0, _ => by
    rw [List.modify_zero_cons, rows_cons, rows_cons, hu, List.set_append_left _ _ (by simpa [HB.cells] using hj)]; simp
  | x :: l, i + 1, h => by
    rw [List.modify_succ_cons, rows_cons, rows_cons, rows_modify upd j u hj hu l i (by simpa using h), List.set_append_right _ _ (by simp [HB.cells]; omega)]
    congr 2
    simp [HB.cells]; omega

/-- a field of block i is written; the map may be another one -/
theorem Parts.field {w w' : World} {p g cap mb n n' : Nat} {cur : Array Value} {l : List HB} {f f' : Lit → Option HV} {F : Nat → Prop} (P : Parts w p g cap mb cur l f n F) (upd : HB → HB) (i j : Nat) (u : Value) (hj : j < 4)
    (hu : ∀ y : HB, (upd y).cells = y.cells.set j u) (hi : i < l.length) (hp : w'.heap[p]? = w.heap[p]?) (hg : w'.heap[g]? = some (.cells (cur.setIfInBounds (i * 4 + j) u) 114 (0, 0)))
    (hm : MapAt Try.prog 164 w' mb n' (fun kl => (f' kl).map HV.val)) (hd : Places f') (hc : Swept (l.modify i upd) f') : Parts w' p g cap mb (cur.setIfInBounds (i * 4 + j) u) (l.modify i upd) f' n' F := by
  refine ⟨?_, hg, by simpa using P.room, P.top, by simpa using P.size, ?_, hm, P.hg, P.hm, P.hp, P.gp, P.gm, P.mp, hd, hc⟩
  · rw [hp, P.struct]; simp
  · have hsz := P.size
    have hr := P.room
    rw [List.length_modify, rows_modify upd j u hj hu l i hi, ← P.cells]
    rw [Array.toList_setIfInBounds, List.take_set]

theorem setCell_known {w : World} {b : Nat} {c : Array Value} {T : TypeId} (h : w.heap[b]? = some (.cells c T (0, 0))) (i : Nat) (u : Value) : (w.setCell ⟨b, i, none⟩ u).heap[b]? = some (.cells (c.setIfInBounds i u) T (0, 0)) := by
  unfold World.setCell
  simp [Array.getElem?_modify, h]
theorem setCell_other {w : World} {b : Nat} (a : Addr) (u : Value) (h : b ≠ a.block) : (w.setCell a u).heap[b]? = w.heap[b]? := Below.heap_setCell w a u b h

theorem block_info : (Try.prog.info? 114).map (fun i => (i.zero, i.size, i.bytes)) = some (some (.agg #[.int .i64 0, .bool false, .bool false, .bool false]), 4, 16) := by kernel_rfl

set_option maxHeartbeats 4000000 in
theorem make_any (p : Nat) (s : Int) (free : Bool) (l : List HB) (f : Lit → Option HV) (m : Nat) (F : Nat → Prop) (w : World) (h : HeapAt w p l f m F) (hl : 0 < l.length) (hlen : l.length < 4294967296) :
    Calls Try.prog 33 #[.pointer (some ⟨p, 0, none⟩), .int .i64 s, .bool free] w fun e w' =>
      if s < 0 ∨ 4194304 < s then e = .returned (.tuple #[.agg #[.int .i64 0, .int .i64 0, .int .i64 0, .int .i64 0], .int .i64 1]) ∧ Step (fun _ => False) w w'
      else e = .returned (.tuple #[.agg #[.int .i64 l.length, .int .i64 0, .int .i64 0, .int .i64 s], .int .i64 0]) ∧ Step F w w' ∧ HeapAt w' p (l ++ [⟨s, free, true, false⟩]) f m (fun b => F b ∨ w.heap.size ≤ b) := by
  by_cases hs : s < 0 ∨ 4194304 < s
  · simp only [if_pos hs]
    by_cases h0 : s < 0
    all_goals
      go_enter Try.func33, Try.ntmps33
      go_wp2_with fail
      refine bodyPost_ret (v := .tuple #[.agg #[.int .i64 0, .int .i64 0, .int .i64 0, .int .i64 0], .int .i64 1]) (by simp [results, Try.results33, go_sem]) rfl ⟨rfl, ((Step.refl _ w).al _)⟩
  · simp only [if_neg hs]
    obtain ⟨i0, hi, hz0, hz1, hz2⟩ := info_parts block_info
    obtain ⟨g, cap, mb, cur, P⟩ := h.parts hl
    have hs0 : 0 ≤ s := by omega
    have hs1 : s ≤ 4194304 := by omega
    have c0 := cell_known P.struct (i := 0) rfl
    have f0 := free_known P.struct 0
    have hpw := lt_known P.struct
    have hgw := lt_known P.row
    have PP := Lib.hid P
    clear P h hs hl
    go_enter Try.func33, Try.ntmps33
    go_wp2_with (first | (at_builtin; refine wpList_append_row rfl (.tmp 19) (.tmp 23) 89 rfl (fun x => x = g) 114 i0 _ 4 16 Try.underlying89 hi hz0 hz1 hz2 rfl _ _ _ rfl ((PP.out.rowAt.al _).al _) ⟨w.heap.size + 1, 0, none⟩ 1 1 [.int .i64 s, .bool free, .bool true, .bool false] rfl (by omega) rfl ?c1 ?c2 ?c3 ?c4 ?_))
    case c1 => exact new_cells (by simp) [_, _, _, _] _
    case c2 => intro u hu; simp at hu; rcases hu with rfl | rfl | rfl | rfl <;> rfl
    case c3 => simp only [maxLen]; omega
    case c4 => omega
    intro g' cap' w1 hr1 hst1 hz
    have P := PP.out
    have e1 : ∀ b, b < w.heap.size → b ≠ g → w1.heap[b]? = w.heap[b]? := fun b hb hn => by
      rw [hst1.block b (by simp; omega) hn, heap_alloc_old _ _ (by simp; omega), heap_alloc_old _ _ hb]
    have kp : w1.heap[p]? = some (.cells #[.slice (some ⟨g, 0, none⟩) l.length cap, .map (some mb)] 92 (0, 0)) := (e1 p hpw P.gp.symm).trans P.struct
    have kr : w1.heap[w.heap.size]? = some (.cells #[.int .i64 0, .int .i64 0, .int .i64 0, .int .i64 0] 94 (0, 0)) := by
      rw [hst1.block _ (by simp; omega) (by omega), heap_alloc_old _ _ (by simp)]; exact heap_alloc_new w _
    have c1 := cell_known kp (i := 0) rfl
    have f1 := free_known kp 0
    have r0 := cell_known kr (i := 0) rfl
    have r1 := cell_known kr (i := 1) rfl
    have r2 := cell_known kr (i := 2) rfl
    have r3 := cell_known kr (i := 3) rfl
    have q0 := free_known kr 0
    have q1 := free_known kr 1
    have q2 := free_known kr 2
    have q3 := free_known kr 3
    have KP := Lib.hid kp
    have KR := Lib.hid kr
    have E1 := Lib.hid e1
    have HR := Lib.hid hr1
    have HS := Lib.hid hst1
    clear P kp kr e1 hr1 hst1 c0 f0
    go_wp2_with fail
    refine bodyPost_ret (v := .tuple #[.agg #[.int .i64 l.length, .int .i64 0, .int .i64 0, .int .i64 s], .int .i64 0]) (by simp [results, Try.results33, go_sem, r0, r1, r2, r3]) rfl ⟨rfl, ?_, ?_⟩
    · have P := PP.out
      have hst : Step F w w1 := by
        refine ((((Step.refl F w).al _).al _)).trans (G := fun x => x = g) HS.out ?_
        intro x hx; subst hx; exact Or.inl P.hg
      exact ((((hst.set (Or.inl P.hp) _).set (Or.inr (Nat.le_refl _)) _).set (Or.inr (Nat.le_refl _)) _).set (Or.inr (Nat.le_refl _)) _).set (Or.inr (Nat.le_refl _)) _
    · have P := PP.out
      obtain ⟨g0, cap0, cur0, e0, hg0, hrow, hroom, htop, hsz, hcells⟩ := HR.out.some (by omega)
      simp only [Value.slice.injEq, Option.some.injEq, Addr.mk.injEq] at e0
      obtain ⟨⟨rfl, _, _⟩, _, rfl⟩ := e0
      have hg0 : g' = g ∨ g' = w.heap.size + 1 + 1 := by simpa using hg0
      have hmw := P.map.lt
      have hgp : g' ≠ p := by have := P.gp; rcases hg0 with h | h <;> omega
      have hgr : g' ≠ w.heap.size := by rcases hg0 with h | h <;> omega
      have keep : ∀ b, b ≠ p → b ≠ w.heap.size → ∀ u0 u1 u2 u3 u4 : Value, (((((w1.setCell ⟨p, 0, none⟩ u0).setCell ⟨w.heap.size, 0, none⟩ u1).setCell ⟨w.heap.size, 1, none⟩ u2).setCell ⟨w.heap.size, 2, none⟩ u3).setCell ⟨w.heap.size, 3, none⟩ u4).heap[b]? = w1.heap[b]? := by
        intro b h1 h2 u0 u1 u2 u3 u4
        rw [setCell_other _ _ h2, setCell_other _ _ h2, setCell_other _ _ h2, setCell_other _ _ h2, setCell_other _ _ h1]
      have hpr : p ≠ w.heap.size := by omega
      refine Parts.whole (g := g') (cap := cap') (mb := mb) (cur := cur0) ⟨?_, ?_, ?_, htop, hsz, ?_, ?_, ?_, Or.inl P.hm, Or.inl P.hp, hgp, ?_, P.mp, P.dom, clean_snoc P.clean _⟩
      · rw [setCell_other _ _ hpr, setCell_other _ _ hpr, setCell_other _ _ hpr, setCell_other _ _ hpr, setCell_known KP.out]; simp
      · rw [keep _ hgp hgr]; exact hrow
      · simpa using hroom
      · rw [show (l ++ [(⟨s, free, true, false⟩ : HB)]).length = l.length + 1 from by simp, hcells]
        simp [rows, HB.cells]
      · refine P.map.same ?_
        rw [keep _ P.mp (by omega)]
        exact E1.out _ hmw P.gm.symm
      · rcases hg0 with h | h
        · exact Or.inl (h ▸ P.hg)
        · exact Or.inr (by omega)
      · have := P.gm; rcases hg0 with h | h <;> omega

end Go.Proofs.Ytojfgdoniajmeaa
