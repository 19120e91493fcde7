/- Arguments that are slices of integers, as a walk reads them. Over any program. -/
import Derived.Test.YtojfgdoniajmeaaLibM
import Derived.OpenShut
import Derived.Deep.Slices
namespace Go.Proofs.Ytojfgdoniajmeaa
set_option linter.unusedVariables false
set_option linter.unusedSimpArgs false
open Go.ChangeShapes Go.WideShapes Go.ChangeAt Go.RowKit

/-- v is a slice that reads as these integers -/
structure IntsAt (k : IntKind) (w : World) (v : Value) (zs : List Int) : Prop where
  ex : ∃ (p : Option Addr) (cap : Nat), v = .slice p zs.length cap ∧ zs.length ≤ cap ∧ cap ≤ maxLen ∧ ∀ i, i < zs.length → ∃ a, p = some a ∧ w.cell? (a.add i) = some (.int k (zs.getD i 0))
  wf : ∀ z ∈ zs, (Lit.int k z).wf = true

theorem ints_in {H : Type} {enc : TypeId × Value → H} {P : Program} {w : World} {base : Nat} {spare : Nat → Bool} {held : Bool} {r : Reach} {b0 : Nat} {t e : TypeId} {k : IntKind} {v : Value} {d : DataW H} {ps : List MemPlace}
    (ht : P.underlying t = some (.slice e)) (he : P.underlying e = some (.int k)) (hc : P.cellsOf e = 1) (hv : Value.okWide P w r b0 t v) (h : DataW.Trod enc P w base spare held t v d ps) : ∃ zs, IntsAt k w v zs := by
  obtain ⟨a0, len, cap, rfl⟩ := okWide_slice ht hv
  obtain ⟨fuel, hf⟩ := h
  rcases open_ints ht he hc hf with ⟨hcs, _⟩ | ⟨a, len', cap', zs, hcs, _, hle, hmax, hlen, _, hcell, hwf⟩
  · simp [Value.cells] at hcs
    obtain ⟨rfl, rfl, rfl⟩ := hcs
    exact ⟨[], ⟨none, 0, rfl, by simp, by simp [maxLen], fun i hi => by simp at hi⟩, by simp⟩
  · simp [Value.cells] at hcs
    obtain ⟨rfl, rfl, rfl⟩ := hcs
    have hl : len ≤ zs.length := by rw [hlen]; split <;> omega
    have hz : (zs.take len).length = len := by simp; omega
    refine ⟨zs.take len, ⟨some a, cap, by rw [hz], by omega, hmax, fun i hi => ⟨a, rfl, ?_⟩⟩, fun z hz => hwf z (List.mem_of_mem_take hz)⟩
    have hi' : i < len := by omega
    rw [hcell i (by omega)]
    simp [List.getD_eq_getElem?_getD, List.getElem?_take_of_lt hi']

/-- v is a slice of pairs of integers that reads as these -/
structure PairsAt (k : IntKind) (w : World) (v : Value) (zs : List (Int × Int)) : Prop where
  ex : ∃ (p : Option Addr) (cap : Nat), v = .slice p zs.length cap ∧ zs.length ≤ cap ∧ cap ≤ maxLen ∧
    ∀ i, i < zs.length → ∃ a, p = some a ∧ w.cell? (a.add (i * 2)) = some (.int k (zs.getD i (0, 0)).1) ∧ w.cell? (a.add (i * 2 + 1)) = some (.int k (zs.getD i (0, 0)).2)
  wf : ∀ z ∈ zs, (Lit.int k z.1).wf = true ∧ (Lit.int k z.2).wf = true

theorem pairs_list {α : Type} (m : Nat) (R : Nat → α → Prop) (h : ∀ i, i < m → ∃ x, R i x) : ∃ l : List α, l.length = m ∧ ∀ i x, l[i]? = some x → R i x := by
  induction m with
  | zero => exact ⟨[], rfl, fun i x h => by simp at h⟩
  | succ m ih =>
    obtain ⟨l, hl, hr⟩ := ih fun i hi => h i (by omega)
    obtain ⟨x, hx⟩ := h m (by omega)
    refine ⟨l ++ [x], by simp [hl], fun i y hy => ?_⟩
    by_cases hi : i < m
    · rw [List.getElem?_append_left (by omega)] at hy; exact hr i y hy
    · have hlt := (List.getElem?_eq_some_iff.1 hy).1
      have : i = m := by simp [hl] at hlt; omega
      subst this
      rw [List.getElem?_append_right (by omega)] at hy
      simp [hl] at hy
      subst hy; exact hx

theorem pairs_in {H : Type} {enc : TypeId × Value → H} {P : Program} {w : World} {base : Nat} {spare : Nat → Bool} {held : Bool} {r : Reach} {b0 : Nat} {t e i : TypeId} {k : IntKind} {v : Value} {d : DataW H} {ps : List MemPlace}
    (ht : P.underlying t = some (.slice e)) (he : P.underlying e = some (.array 2 i)) (hi : P.underlying i = some (.int k)) (hc : P.cellsOf e = 2) (hci : P.cellsOf i = 1)
    (hv : Value.okWide P w r b0 t v) (h : DataW.Trod enc P w base spare held t v d ps) : ∃ zs, PairsAt k w v zs := by
  obtain ⟨a0, len, cap, rfl⟩ := okWide_slice ht hv
  obtain ⟨fuel, hf⟩ := h
  rcases Deep.open_slice ht hf with ⟨hcs, _⟩ | ⟨a, len', cap', m, n, D, Pl, hcs, _, hle, hmax, hm, _, hcell⟩
  · simp [Value.cells] at hcs
    obtain ⟨rfl, rfl, rfl⟩ := hcs
    exact ⟨[], ⟨none, 0, rfl, by simp, by simp [maxLen], fun i hi => by simp at hi⟩, by simp⟩
  · simp [Value.cells] at hcs
    obtain ⟨rfl, rfl, rfl⟩ := hcs
    have hlm : len ≤ m := by rw [hm]; split <;> omega
    obtain ⟨zs, hz, hr⟩ := pairs_list len (fun j (z : Int × Int) => w.cell? (a.add (j * 2)) = some (.int k z.1) ∧ w.cell? (a.add (j * 2 + 1)) = some (.int k z.2) ∧ (Lit.int k z.1).wf = true ∧ (Lit.int k z.2).wf = true) fun j hj => by
      obtain ⟨cs', h1, h2⟩ := hcell j (by omega)
      rw [hc] at h1
      obtain ⟨_, hcl, hat⟩ := World.cells?_some h1
      obtain ⟨ys, m', _, _, _, hl, hy⟩ := DataW.trod_array he h2
      rw [hci] at hy
      match cs', hcl with
      | [c0, c1], _ =>
        have y0 := hy 0 (by omega)
        have y1 := hy 1 (by omega)
        match ys, hl with
        | [q0, q1], _ =>
          simp at y0 y1
          obtain ⟨x0, e0, _, w0⟩ := DataW.trod_int hi y0
          obtain ⟨x1, e1, _, w1⟩ := DataW.trod_int hi y1
          simp at e0 e1
          subst e0 e1
          have g0 := hat (i := 0) (by simp)
          have g1 := hat (i := 1) (by simp)
          refine ⟨(x0, x1), ?_, ?_, w0, w1⟩
          · simpa [Go.Deep.add_add] using g0
          · simpa [Go.Deep.add_add] using g1
    refine ⟨zs, ⟨some a, cap, by rw [hz], by omega, hmax, fun j hj => ?_⟩, fun z hzm => ?_⟩
    · have := hr j (zs.getD j (0, 0)) (by rw [List.getD_eq_getElem?_getD, List.getElem?_eq_getElem hj]; rfl)
      exact ⟨a, rfl, this.1, this.2.1⟩
    · obtain ⟨j, hj⟩ := List.getElem?_of_mem hzm
      exact (hr j z hj).2.2
theorem add_next (a : Addr) (n : Nat) : a.add (n + 1) = ⟨(a.add n).block, (a.add n).off + 1, none⟩ := by
  unfold Addr.add
  rw [if_neg (by omega)]
  split
  · rename_i h; subst h; rfl
  · rfl
theorem block_lt {w : World} {a : Addr} {v : Value} (h : w.cell? a = some v) : a.block < w.heap.size := World.block_lt_of_cell? w a h
end Go.Proofs.Ytojfgdoniajmeaa
