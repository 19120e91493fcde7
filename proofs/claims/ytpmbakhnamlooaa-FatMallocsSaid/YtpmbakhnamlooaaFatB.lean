/- Package fat's functions of locks and bytes: held, fresh, load, store. -/
import Derived.Test.YtpmbakhnamlooaaFatA
namespace Go.Proofs.Ytpmbakhnamlooaa
set_option linter.unusedVariables false
set_option linter.unusedSimpArgs false
open Go.RowKit

section
variable {w0 w w' w'' : World} {pw : Nat} {own own' own'' : Nat → Nat} {fnv : List UInt8 → Option Value} {tops : List UInt8 → Option Int} {st : FSt} {c : Nat} {bf bt bm bs bb : Nat} {vl vi vo : Value}

theorem FParts.cells (h : FParts w0 w pw own fnv tops st c bf bt bm bs bb vl vi vo) :
    (w.cell? ⟨pw, 0, none⟩ = some (.map (some bf)) ∧ w.cell? ⟨pw, 1, none⟩ = some (.map (some bt)) ∧ w.cell? ⟨pw, 2, none⟩ = some (.map (some bm)) ∧ w.cell? ⟨pw, 3, none⟩ = some (.map (some bs)) ∧ w.cell? ⟨pw, 4, none⟩ = some vl
    ∧ w.cell? ⟨pw, 5, none⟩ = some (.int .u64 st.keys) ∧ w.cell? ⟨pw, 6, none⟩ = some (.map (some bb)) ∧ w.cell? ⟨pw, 7, none⟩ = some (.int .i64 st.free) ∧ w.cell? ⟨pw, 8, none⟩ = some (.int .i64 st.top) ∧ w.cell? ⟨pw, 9, none⟩ = some vi
    ∧ w.cell? ⟨pw, 10, none⟩ = some vo ∧ w.cell? ⟨pw, 11, none⟩ = some (.int .i64 st.fuel) ∧ w.cell? ⟨pw, 12, none⟩ = some (.int .i64 st.steps) ∧ w.cell? ⟨pw, 13, none⟩ = some (.int .i64 st.checks)) ∧ ∀ i, w.frozen? ⟨pw, i, none⟩ = false :=
  ⟨⟨cell_known h.struct rfl, cell_known h.struct rfl, cell_known h.struct rfl, cell_known h.struct rfl, cell_known h.struct rfl, cell_known h.struct rfl, cell_known h.struct rfl, cell_known h.struct rfl, cell_known h.struct rfl, cell_known h.struct rfl, cell_known h.struct rfl, cell_known h.struct rfl, cell_known h.struct rfl, cell_known h.struct rfl⟩, fun i => free_known h.struct i⟩

set_option maxRecDepth 100000 in
theorem held_any (h : FWAt w0 w pw own fnv tops st c) (hc : c ≤ 1000000000) (lock key : Int) (h0 : 0 ≤ lock) (h1 : lock < 18446744073709551616) :
    Calls Try.prog 95 #[.pointer (some ⟨pw, 0, none⟩), .int .u64 lock, .int .u64 key] w fun e w' => e = .returned (.bool (heldF st.locks lock key)) ∧ w = w' := by
  obtain ⟨bf, bt, bm, bs, bb, vl, vi, vo, h⟩ := h
  obtain ⟨a, lcap, ev⟩ := h.locks.slice
  subst ev
  have hlen := h.lens
  have c4 := h.cells.1.2.2.2.2.1
  by_cases hk : key = 0
  · have e1 : (key == 0) = true := beq_iff_eq.2 hk
    unfold heldF
    rw [e1]
    go_enter Try.func95, Try.ntmps95
    go_wp2_with fail
    go_ret
    exact ⟨by simp, rfl⟩
  · have e1 : (key == 0) = false := beq_false_of_ne hk
    by_cases hl : lock < st.locks.length
    · have hl1 : decide (lock < (st.locks.length : Int)) = true := decide_eq_true hl
      obtain ⟨g, cap, cur, eq, hF, hg, hn1, hn2, hsz, htk⟩ := h.locks.some (by omega)
      cases eq
      have hcell : w.cell? ⟨g, lock.toNat, none⟩ = some (.int .u64 (st.locks.getD lock.toNat 0)) := row_cell hg htk (by
        rw [List.getElem?_map, List.getD_eq_getElem?_getD, List.getElem?_eq_getElem (by omega)]; rfl)
      unfold heldF
      rw [e1, hl1]
      go_enter Try.func95, Try.ntmps95
      go_wp2_with fail
      go_ret
      exact ⟨by simp [bne, e1, List.getElem?_eq_getElem (show lock.toNat < st.locks.length by omega)], rfl⟩
    · have hl1 : decide (lock < (st.locks.length : Int)) = false := decide_eq_false hl
      unfold heldF
      rw [e1, hl1]
      go_enter Try.func95, Try.ntmps95
      go_wp2_with fail
      go_ret
      exact ⟨by simp, rfl⟩

theorem u64_info : (Try.prog.info? 38).map (fun i => (i.zero, i.size, i.bytes)) = some (some (.int .u64 0), 1, 8) := by kernel_rfl

/-- after a row got one more: what stands there -/
def Grew (w : World) (own : Nat → Nat) (o : Nat) (T : TypeId) (xs : List Value) (y : Value) (w' : World) : Prop :=
  ∃ g cap, y = .slice (some ⟨g, 0, none⟩) xs.length cap ∧ RowAt w' (fun b => own b = o ∨ w.heap.size ≤ b) T 1 (.slice (some ⟨g, 0, none⟩) xs.length cap) xs.length xs ∧ Step (fun b => own b = o) w w'
theorem Grew.stable {w : World} {own : Nat → Nat} {o : Nat} {T : TypeId} {xs : List Value} {y : Value} {w' w'' : World} (h : Step (fun _ => False) w' w'') (k : Grew w own o T xs y w') : Grew w own o T xs y w'' := by
  obtain ⟨g, cap, rfl, k1, k2⟩ := k
  exact ⟨g, cap, rfl, k1.same fun b _ hb => h.block b hb fun x => x, k2.trans h fun _ x => x.elim⟩

/-- a slice of its own, just made -/
def IsRow (W : World) (o : Obj) (n : Nat) (y : Value) (w : World) : Prop := ∃ b, y = .slice (some ⟨b, 0, none⟩) n n ∧ W.heap.size ≤ b ∧ w.heap[b]? = some o
theorem IsRow.stable {W : World} {o : Obj} {n : Nat} {y : Value} {w w' : World} (h : Step (fun _ => False) w w') (k : IsRow W o n y w) : IsRow W o n y w' := by
  obtain ⟨b, e, l, k⟩ := k
  exact ⟨b, e, l, (h.block b (lt_obj k) (fun x => x)).trans k⟩

/-- the cells of a block, as those of a slice that begins it -/
theorem row_add {w : World} {b : Nat} {c : Array Value} {T : TypeId} (h : w.heap[b]? = some (.cells c T (0, 0))) : ∀ (j : Nat) (u : Value), c.toList[j]? = some u → w.cell? ((⟨b, 0, none⟩ : Addr).add j) = some u := by
  intro j u hj
  have hadd : (⟨b, 0, none⟩ : Addr).add j = ⟨b, j, none⟩ := by unfold Addr.add; split <;> simp_all
  rw [hadd]
  exact cell_known h (by simpa using hj)

def planFresh : Plan where
  T := [[], [], [1], [1, 2], [1, 2, 3], [], [5], [5, 6], [5, 6, 7], [5, 6, 7, 8], [1, 2, 3, 4, 5, 6, 7, 8, 9], [0, 1, 2, 3, 4, 5, 6, 7, 8, 9, 10], [0, 1, 2, 3, 4, 5, 6, 7, 8, 9, 10, 11], [0, 1, 2, 3, 4, 5, 6, 7, 8, 9, 10, 11, 12]]
  rd := [[], [], [(1, some 11)], [(2, some 12)], [(3, some 13)], [], [(5, some 15)], [(6, some 16)], [(7, some 17)], [(8, some 18)], [(4, some 14), (9, some 19)]]
  all := [(10, some 20), (9, some 19), (8, some 18), (7, some 17), (6, some 16), (5, some 15), (4, some 14), (3, some 13), (2, some 12), (1, some 11), (0, some 10)]
  calm := [true, true, true, true, true, true, true, true, true, true, false]
  hard := [true, true, true, true, true, true, true, true, true, false, true]
  fresh := [false, false, false, false, false, false, false, false, false, true, false]

set_option maxHeartbeats 4000000 in
theorem fresh_any (h : FWAt w0 w pw own fnv tops st c) (hc : c ≤ 1000000000) (hk : 0 ≤ st.keys ∧ st.keys ≤ 1000000000) :
    Calls Try.prog 59 #[.pointer (some ⟨pw, 0, none⟩)] w fun e w' =>
      e = .returned (.int .i64 st.locks.length) ∧ ∃ own', Chg own own' w w' ∧ FWAt w0 w' pw own' fnv tops { st with keys := st.keys + 1, locks := st.locks ++ [st.keys + 1] } (c + 1) := by
  obtain ⟨bf, bt, bm, bs, bb, vl, vi, vo, h⟩ := h
  obtain ⟨i0, hi, hz0, hz1, hz2⟩ := info_parts u64_info
  have hlen := h.lens
  obtain ⟨a, lcap, ev⟩ := h.locks.slice
  subst ev
  have c5 := h.cells.1.2.2.2.2.2.1
  have f5 := h.cells.2 5
  have hpw := lt_known h.struct
  have hw : IntKind.u64.wrap (st.keys + 1) = st.keys + 1 := by rw [IntKind.wrap_u64]; omega
  have hkw : 0 ≤ st.keys + 1 ∧ st.keys + 1 < 18446744073709551616 := by omega
  have PH := Lib.hid h
  clear h
  go_enter Try.func59, Try.ntmps59
  go_wp2_with fail
  have k1 := set_known PH.out.struct 5 (.int .u64 (st.keys + 1))
  have o1 : ∀ b, b ≠ pw → (w.setCell ⟨pw, 5, none⟩ (.int .u64 (st.keys + 1))).heap[b]? = w.heap[b]? := fun b hb => set_other _ _ hb
  have z1 : (w.setCell ⟨pw, 5, none⟩ (.int .u64 (st.keys + 1))).heap.size = w.heap.size := by simp
  have s1 : Step (fun b => own b ≠ 0) w (w.setCell ⟨pw, 5, none⟩ (.int .u64 (st.keys + 1))) := Step.setCell _ _ _ _ (by have := PH.out.tag.1; simp [this])
  clear c5 f5
  simp only [hw] at *
  generalize w.setCell ⟨pw, 5, none⟩ (.int .u64 (st.keys + 1)) = w1 at *
  have LR : RowAt w1 (fun b => own b = 6) 38 1 (.slice a st.locks.length lcap) st.locks.length (st.locks.map (Value.int .u64)) := PH.out.locks.same fun b hb hlt => o1 b fun e => by subst e; have := PH.out.tag.1; omega
  have FACTS := Lib.hid (show ∀ x, Step (fun b => own b = 6) w1 x → x.cell? ⟨pw, 4, none⟩ = some (.slice a st.locks.length lcap) ∧ x.cell? ⟨pw, 5, none⟩ = some (.int .u64 (st.keys + 1)) ∧ (∀ i, x.frozen? ⟨pw, i, none⟩ = false) from fun x hx => by
    have k2 := (hx.block pw (lt_known k1) (fun e => by have := PH.out.tag.1; omega)).trans k1
    exact ⟨cell_known k2 rfl, cell_known k2 rfl, fun i => free_known k2 i⟩)
  have K1 := Lib.hid k1
  have O1 := Lib.hid o1
  have S1 := Lib.hid s1
  have HR := Lib.hid LR
  clear k1 o1 s1 LR
  refine wp_region_each 11 planFresh (fun a b => Step (fun x => own x = 6) a b) (Step (fun x => own x = 6) w1) (fun x => RowAt x (fun b => own b = 6) 38 1 (.slice a st.locks.length lcap) st.locks.length (st.locks.map (Value.int .u64))) [Is ?v2_1_0, Is ?v2_1_1, Is ?v2_1_2, Is ?v2_1_3, Is ?v2_1_4, Is ?v2_1_5, Is ?v2_1_6, Is ?v2_1_7, Is ?v2_1_8, IsRow w1 (.cells #[.int .u64 (st.keys + 1)] 38 (0, 0)) 1, fun _ _ => True] [fun _ _ => True, fun _ _ => True, fun _ _ => True, fun _ _ => True, fun _ _ => True, fun _ _ => True, fun _ _ => True, fun _ _ => True, fun _ _ => True, fun _ _ => True, Grew w1 own 6 38 ((st.locks ++ [st.keys + 1]).map (Value.int .u64))] (by kernel_rfl) (by kernel_rfl) (fun _ _ h => h.size) ((Step.refl _ _).drew) (HR.out) ?stab2_1 ?stabD2_1 ?obl2_1 ?fin2_1
  case stab2_1 => exact fun w w' h => ⟨fun k => k.trans h (fun _ x => x.elim), fun k => k.same fun b _ hb => h.block b hb fun x => x, ⟨fun _ k => k, fun _ k => k, fun _ k => k, fun _ k => k, fun _ k => k, fun _ k => k, fun _ k => k, fun _ k => k, fun _ k => k, fun _ k => IsRow.stable h k, fun _ k => k, trivial⟩, ⟨fun _ k => k, fun _ k => k, fun _ k => k, fun _ k => k, fun _ k => k, fun _ k => k, fun _ k => k, fun _ k => k, fun _ k => k, fun _ k => k, fun _ k => k.stable h, trivial⟩⟩
  case stabD2_1 => exact fun w w' h => ⟨fun k => k.trans h (fun _ x => .inl x), fun _ _ k => k, fun _ _ k => k, fun _ _ k => k, fun _ _ k => k, fun _ _ k => k, fun _ _ k => k, fun _ _ k => k, fun _ _ k => k, fun _ _ k => k, nofun, fun _ _ k => k, trivial⟩
  case obl2_1 =>
    refine ⟨?o2_1_0, ?o2_1_1, ?o2_1_2, ?o2_1_3, ?o2_1_4, ?o2_1_5, ?o2_1_6, ?o2_1_7, ?o2_1_8, ?o2_1_9, ?o2_1_10, trivial⟩
    all_goals intro xv wq hH hS H hU aq ha Q' hQ
    case o2_1_0 | o2_1_1 => cases rd0 ha; clear H hU hS; go_wp2_with fail; (try refine hQ _ _ ?_); refine ⟨Step.refl _ _, ?_, trivial, nofun⟩; exact (rfl : _ = _)
    case o2_1_2 | o2_1_3 => have ha := rd1 ha H (by kernel_rfl) rfl; simp only [q3, q5, q6, q7] at ha; subst ha; clear H hU hS; go_wp2_with fail; (try refine hQ _ _ ?_); refine ⟨Step.refl _ _, ?_, trivial, nofun⟩; exact (rfl : _ = _)
    case o2_1_4 => obtain ⟨c4, c5, f4⟩ := FACTS.out _ hH; have ha := rd1 ha H (by kernel_rfl) rfl; simp only [q3, q5, q6, q7] at ha; subst ha; clear H hU hS; go_wp2_with fail; (try refine hQ _ _ ?_); refine ⟨Step.refl _ _, ?_, trivial, nofun⟩; exact (rfl : _ = _)
    case o2_1_5 => cases rd0 ha; clear H hU hS; go_wp2_with fail; (try refine hQ _ _ ?_); refine ⟨Step.refl _ _, ?_, trivial, nofun⟩; exact (rfl : _ = _)
    case o2_1_6 | o2_1_7 => have ha := rd1 ha H (by kernel_rfl) rfl; simp only [q3, q5, q6, q7] at ha; subst ha; clear H hU hS; go_wp2_with fail; (try refine hQ _ _ ?_); refine ⟨Step.refl _ _, ?_, trivial, nofun⟩; exact (rfl : _ = _)
    case o2_1_8 => obtain ⟨c4, c5, f4⟩ := FACTS.out _ hH; have ha := rd1 ha H (by kernel_rfl) rfl; simp only [q3, q5, q6, q7] at ha; subst ha; clear H hU hS; go_wp2_with fail; (try refine hQ _ _ ?_); refine ⟨Step.refl _ _, ?_, trivial, nofun⟩; exact (rfl : _ = _)
    case o2_1_9 => obtain ⟨c4, c5, f4⟩ := FACTS.out _ hH; have h8 : xv 8 = _ := H 8 (by kernel_rfl); change aq = puts _ xv [(8, some 18)] at ha; simp only [q1, q2, q3, q5, q6, q7, h8] at ha; subst ha; clear H h8; clear hU hS; go_wp2_with fail; (try refine hQ _ _ ?_); refine ⟨Step.alloc _ _ _, ?_, trivial, fun _ => ⟨_, rfl, Nat.le_refl _, by simp⟩⟩; exact ⟨_, rfl, hH.size, heap_alloc_new _ _⟩
    case o2_1_10 =>
      obtain ⟨c4, c5, f4⟩ := FACTS.out _ hH; have h4 : xv 4 = _ := H 4 (by kernel_rfl); obtain ⟨b9, h9, l9, k9⟩ : IsRow w1 (.cells #[.int .u64 (st.keys + 1)] 38 (0, 0)) 1 _ _ := H 9 (by kernel_rfl); change aq = puts _ xv [(4, some 14), (9, some 19)] at ha; simp only [q1, q2, q3, q5, q6, q7, h4, h9] at ha; have HX9 := Lib.hid h9; subst ha; clear H h4 h9
      have L := hS (by kernel_rfl)
      clear hU hS
      refine wpList_append_row rfl (.tmp 14) (.tmp 19) 44 rfl (fun b => own b = 6) 38 i0 _ 1 8 Try.underlying44 hi hz0 hz1 hz2 rfl _ _ _ rfl L ⟨b9, 0, none⟩ 1 1 [.int .u64 (st.keys + 1)] rfl (by omega) rfl ?c1 ?c2 ?c3 ?c4 ?_
      case c1 => intro j u hj; exact row_add k9 j u hj
      case c2 => intro u hu; simp at hu; subst hu; rfl
      case c3 => simp only [maxLen]; omega
      case c4 => omega
      intro g cap w2 r2 s2 z2
      go_wp2_with fail
      (try refine hQ _ _ ?_)
      refine ⟨s2, trivial, ⟨g, cap, ?_, ?_, ?_⟩, nofun⟩
      · rw [show planFresh.refOf 10 = 10 from rfl, if_pos rfl]; simp
      · have el : (st.locks.map (Value.int .u64) ++ [Value.int .u64 (st.keys + 1)]).length = st.locks.length + 1 := by simp
        rw [el]
        refine r2.mono fun b hb => ?_
        have := hH.size
        rcases hb with hb | hb
        · exact .inl hb
        · exact .inr (by omega)
      · exact hH.trans s2 fun _ x => .inl x
  intro xv w2 hH hS H hU hsz hF hN
  have h0 : xv 0 = _ := H 0 (by decide) (by kernel_rfl); have h1 : xv 1 = _ := H 1 (by decide) (by kernel_rfl); have h2 : xv 2 = _ := H 2 (by decide) (by kernel_rfl); have h3 : xv 3 = _ := H 3 (by decide) (by kernel_rfl); have h4 : xv 4 = _ := H 4 (by decide) (by kernel_rfl); have h5 : xv 5 = _ := H 5 (by decide) (by kernel_rfl); have h6 : xv 6 = _ := H 6 (by decide) (by kernel_rfl); have h7 : xv 7 = _ := H 7 (by decide) (by kernel_rfl); have h8 : xv 8 = _ := H 8 (by decide) (by kernel_rfl); obtain ⟨g10, cap10, h10, r10, s10⟩ : (Grew w1 own 6 38 ((st.locks ++ [st.keys + 1]).map (Value.int .u64))) (xv 10) _ := hU 10 (by decide) (by kernel_rfl)
  simp only [planFresh, q1, q2, q3, q5, q6, q7, q4, List.drop_succ_cons, List.drop_zero, h0, h1, h2, h3, h4, h5, h6, h7, h8, h10]
  have hL := hU 10 (by decide) (by kernel_rfl)
  clear H hF hN hS hU h0 h1 h2 h3 h4 h5 h6 h7 h8 h10
  obtain ⟨c4, c5, f4⟩ := FACTS.out _ hH
  have k2 : w2.heap[pw]? = _ := (hH.block pw (lt_known K1.out) (fun e => by have := PH.out.tag.1; omega)).trans K1.out
  have H2 := Lib.hid hH
  have R10 := Lib.hid r10
  have K2 := Lib.hid k2
  clear hH r10 s10 k2
  go_wp2_with fail
  go_ret
  refine ⟨rfl, fun b => if b = g10 then 6 else own b, ?_⟩
  have P := PH.out
  have H := H2.out
  have hz := H.size
  obtain ⟨g0, cap0, cur0, e0, hg0, hrow, _⟩ := R10.out.some (by simp)
  cases e0
  have hg : g10 < w2.heap.size := lt_known hrow
  have tp := P.tag.1
  have hgp : g10 ≠ pw := fun e => by
    subst e
    rcases hg0 with hg0 | hg0 <;> omega
  have hs : Step (fun b => own b ≠ 0) w (w2.setCell ⟨pw, 4, none⟩ (.slice (some ⟨g10, 0, none⟩) (st.locks.length + 1) cap10)) :=
    (S1.out.trans H fun b hb => .inl (by rw [hb]; decide)).set (.inl (by simp [tp])) _
  have same : ∀ b, b < w.heap.size → (if b = g10 then 6 else own b) = own b := fun b hb => by
    by_cases e : b = g10
    · subst e
      rw [if_pos rfl]
      rcases hg0 with hg0 | hg0 <;> omega
    · rw [if_neg e]
  refine ⟨⟨hs, same⟩, ⟨bf, bt, bm, bs, bb, .slice (some ⟨g10, 0, none⟩) (st.locks.length + 1) cap10, vi, vo, P.next 6 (vl' := .slice (some ⟨g10, 0, none⟩) (st.locks.length + 1) cap10) (Nat.le_succ c) hs same ?_ ?_ (by decide) ?_ (by simp) (by simp) ?_ (by simp) (by simp) P.input⟩⟩
  · intro b hb
    have e : (w2.setCell ⟨pw, 4, none⟩ (.slice (some ⟨g10, 0, none⟩) (st.locks.length + 1) cap10)).heap.size = w2.heap.size := by simp
    rw [e]
    by_cases hbg : b = g10
    · rw [hbg]; exact hg
    · simp only [if_neg hbg] at hb
      have := (P.low b hb).2
      omega
  · intro b h0 h1 h6
    have hb := (P.low b h0).2
    have hp : b ≠ pw := fun e => by subst e; exact h1 tp
    rw [set_other _ _ hp, H.block b (by omega) h6]
    exact O1.out b hp
  · rw [set_known K2.out]; simp
  · rw [if_pos rfl]
    refine ⟨?_, by simp; omega⟩
    have r := R10.out
    have el : ((st.locks ++ [st.keys + 1]).map (Value.int .u64)).length = (st.locks ++ [st.keys + 1]).length := by simp
    rw [el] at r
    have el2 : (st.locks ++ [st.keys + 1]).length = st.locks.length + 1 := by simp
    rw [el2] at r ⊢
    obtain ⟨r1, ⟨_, r2⟩ | ⟨g1, c1, cu1, e1, _, q1, q2⟩⟩ := r
    · omega
    · cases e1
      exact ⟨r1, .inr ⟨g10, cap10, cu1, rfl, by simp, (set_other _ _ hgp).trans q1, q2⟩⟩
end
end Go.Proofs.Ytpmbakhnamlooaa
