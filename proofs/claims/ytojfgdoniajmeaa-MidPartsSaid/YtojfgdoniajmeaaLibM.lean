/- Maps whose elements are any values, read by their keys; what a call may change, by blocks: over any program. -/
import Derived.WalkKit
import Derived.ProofKit
import Derived.Maps.Own
import Derived.Maps.OwnSet
import Derived.Maps.Ext
import Derived.Maps.OwnOps
import Derived.Shelf.SlMaps.DeleteFunc
import Derived.Lib.Hide
import Derived.Deep.QuietTactic
import Derived.BigQuiet
namespace Go.Proofs.Ytojfgdoniajmeaa
set_option linter.unusedVariables false
set_option linter.unusedSimpArgs false
open Go.RowKit

/-- an element reads as itself -/
def rv (v : Value) : Option (DataW Value × List MemPlace) := some (.held v, [])

/-- what stands at a key -/
def outOf (o : Option Value) (z : DataW Value) : DataW Value := match o with
  | some v => .held v
  | none => z

/-- block b of w is a map of at most n entries that has f kl at each key kl -/
def MapAt (P : Program) (k : TypeId) (w : World) (b n : Nat) (f : Lit → Option Value) : Prop :=
  ∃ D : DataW Value, w.ownsMap P k rv b n D ∧ ∀ kl, WideAt.IsKeyLit kl → ∀ z, D.atKey kl z = outOf (f kl) z

section
variable {P : Program} {k : TypeId} {w : World} {b n : Nat} {f : Lit → Option Value}

theorem MapAt.lt (h : MapAt P k w b n f) : b < w.heap.size := by obtain ⟨D, h, _⟩ := h; exact h.lt
theorem MapAt.mono (h : MapAt P k w b n f) {n' : Nat} (hn : n ≤ n') : MapAt P k w b n' f := by obtain ⟨D, h, g⟩ := h; exact ⟨D, h.mono hn, g⟩
theorem MapAt.congr (h : MapAt P k w b n f) {g : Lit → Option Value} (e : ∀ kl, WideAt.IsKeyLit kl → f kl = g kl) : MapAt P k w b n g := by
  obtain ⟨D, h, hg⟩ := h
  exact ⟨D, h, fun kl hk z => by rw [hg kl hk z, e kl hk]⟩
/-- the block stays: so does the map -/
theorem MapAt.same (h : MapAt P k w b n f) {w' : World} (e : w'.heap[b]? = w.heap[b]?) : MapAt P k w' b n f := by
  obtain ⟨D, ⟨es, clock, hb, F, hs, hD⟩, g⟩ := h
  exact ⟨D, ⟨es, clock, e.trans hb, F, hs, hD⟩, g⟩

theorem mapAt_made (w : World) (P : Program) (k : TypeId) : MapAt P k (w.alloc (.map #[] 0)) w.heap.size 0 (fun _ => none) :=
  ⟨_, World.ownsMap_made w P k rv, fun _ _ _ => rfl⟩

theorem outOf_held {o : Option Value} {v z : Value} (h : outOf o (.held z) = .held v) : v = o.getD z := by
  cases o with
  | none => simpa [outOf] using h.symm
  | some x => simpa [outOf] using h.symm

/-- m[k] -/
theorem MapAt.lookup (h : MapAt P k w b n f) (K : Maps.Keyed P k) {t e : TypeId} (ht : P.underlying t = some (.map k e)) {z : Value} (hz : (zeroValue e).run P w = .ok z w)
    {key : Value} {kl : Lit} (hkey : keyOf P k key = some kl) : (Instr.lookup t (.map (some b)) key false).run P w = .ok ((f kl).getD z) w := by
  obtain ⟨D, h, g⟩ := h
  obtain ⟨v, ps, hrun, hr⟩ := h.lookup K ht hz (zd := .held z) (zp := []) rfl hkey
  have := g kl (K.key hkey) (.held z)
  rw [hrun]
  have e1 : DataW.held v = D.atKey kl (.held z) := by simpa [rv] using congrArg (fun o => (o.getD (.nil, [])).1) hr
  rw [outOf_held (this.symm.trans e1.symm)]

/-- v, ok := m[k] -/
theorem MapAt.lookup_ok (h : MapAt P k w b n f) (K : Maps.Keyed P k) {t e : TypeId} (ht : P.underlying t = some (.map k e)) {z : Value} (hz : (zeroValue e).run P w = .ok z w)
    {key : Value} {kl : Lit} (hkey : keyOf P k key = some kl) : (Instr.lookup t (.map (some b)) key true).run P w = .ok (.tuple #[(f kl).getD z, .bool (f kl).isSome]) w := by
  obtain ⟨D, ⟨es, clock, hb, F, hs, rfl⟩, g⟩ := h
  have g0 := g kl (K.key hkey)
  rcases Maps.fit_look true K ht hz hb F hkey with ⟨hrun, _, hat⟩ | ⟨e0, y, _, _, hrun, hRv, hat, _⟩
  · rw [hrun]
    have hn : f kl = none := by
      cases hf : f kl with
      | none => rfl
      | some v =>
        have h1 := (g0 .nil).symm.trans (hat .nil)
        rw [hf] at h1; cases h1
    rw [hn]; rfl
  · rw [hrun]
    have hy : y.1 = .held e0.val := by simpa [rv] using (congrArg (fun o => (o.getD (.nil, [])).1) hRv).symm
    have hv : f kl = some e0.val := by
      cases hf : f kl with
      | none =>
        have h1 := (g0 .nil).symm.trans (hat .nil)
        rw [hf, hy] at h1; cases h1
      | some v =>
        have h1 := (g0 .nil).symm.trans (hat .nil)
        rw [hf, hy] at h1
        simp only [outOf, DataW.held.injEq] at h1
        rw [h1]
    rw [hv]; rfl

/-- m[k] = v -/
theorem MapAt.update (h : MapAt P k w b n f) (K : Maps.Keyed P k) {t e : TypeId} (ht : P.underlying t = some (.map k e)) (hn : n < maxLen) {key : Value} {kl : Lit} (hkey : keyOf P k key = some kl) (val : Value) :
    ∃ w', (Instr.mapUpdate t (.map (some b)) key val).run P w = .ok () w' ∧ MapAt P k w' b (n + 1) (fun x => if x.sameKey kl then some val else f x) ∧ w.grownBy w' (some b) ∧ w'.heap.size = w.heap.size := by
  obtain ⟨D, h, g⟩ := h
  have hm := (h.canon K)
  have hI : Maps.IsMap D := by obtain ⟨es, hD, _, _⟩ := hm; exact ⟨es, hD⟩
  obtain ⟨es, clock, hb, F, hs, hD⟩ := h
  obtain ⟨es', clock', hrun, _⟩ := Maps.fit_store (R' := rv) K ht hb F (Nat.lt_of_le_of_lt hs hn) (fun _ _ _ _ hz => hz) hkey (yv := (.held val, [])) (val := val) rfl
  obtain ⟨w', hrun', r1, r2⟩ := World.ownsMap.update (D := D) ⟨es, clock, hb, F, hs, hD⟩ K ht hn hkey (val := val) (d := .held val) (ps := []) rfl
  have hw : w' = ChangeMaps.setBlock w b (Obj.map es' clock') := by
    have := hrun'.symm.trans hrun
    simpa using this
  refine ⟨w', hrun', ⟨_, r1, fun x hx z => ?_⟩, r2, by rw [hw]; simp [ChangeMaps.setBlock]⟩
  by_cases hk : x = kl
  · subst hk
    rw [Maps.atKey_put_same hI (K.key hkey)]
    show _ = outOf (if _ then _ else _) z
    rw [if_pos (WideAt.sameKey_self (K.key hkey))]; rfl
  · rw [Maps.atKey_put_other hk, g x hx z]
    show _ = outOf (if _ then _ else _) z
    rw [if_neg (by rw [Maps.sameKey_ne hk]; simp)]

/-- delete(m, k) -/
theorem MapAt.delete (h : MapAt P k w b n f) (K : Maps.Keyed P k) {t e ty : TypeId} (ht : P.underlying t = some (.map k e)) {key : Value} {kl : Lit} (hkey : keyOf P k key = some kl) :
    ∃ w', (Builtin.delete_ #[t, k] ty #[.map (some b), key]).run P w = .ok (.tuple #[]) w' ∧ MapAt P k w' b n (fun x => if x.sameKey kl then none else f x) ∧ w.grownBy w' (some b) ∧ w'.heap.size = w.heap.size := by
  obtain ⟨D, ⟨es, clock, hb, F, hs, rfl⟩, g⟩ := h
  obtain ⟨es', hrun, F', hle, hdel, _⟩ := Maps.fit_drop (ty := ty) K ht hb F hkey
  refine ⟨_, hrun, ⟨_, ⟨es', clock, ChangeMaps.heap_setBlock_same hb _, F', Nat.le_trans hle hs, rfl⟩, fun x hx z => ?_⟩, ⟨rfl, rfl, rfl, by simp [ChangeMaps.setBlock], fun i _ hi => ChangeMaps.heap_setBlock_other hb _ (fun e => hi (by rw [e]))⟩, by simp [ChangeMaps.setBlock]⟩
  have hd : (DataW.map (List.foldr DataW.insert [] (List.map (WideElems.rg P k rv) es'.toList))) = (DataW.map (List.foldr DataW.insert [] (List.map (WideElems.rg P k rv) es.toList))).del kl := by
    rw [hdel]; rfl
  rw [hd]
  by_cases hk : x = kl
  · subst hk
    rw [Maps.atKey_del_same]
    show _ = outOf (if _ then _ else _) z
    rw [if_pos (WideAt.sameKey_self (K.key hkey))]; rfl
  · rw [Maps.atKey_del_other hk, g x hx z]
    show _ = outOf (if _ then _ else _) z
    rw [if_neg (by rw [Maps.sameKey_ne hk]; simp)]

end

theorem find_filter {pd : Lit → DataW Value → Bool} {kl : Lit} : ∀ (es : List (Lit × DataW Value)), es.Pairwise (fun p q => p.1 ≠ q.1) → (∀ p ∈ es, WideAt.IsKeyLit p.1) → WideAt.IsKeyLit kl →
    (es.filter (fun p => !pd p.1 p.2)).find? (fun p => p.1.sameKey kl) = match es.find? (fun p => p.1.sameKey kl) with
      | some p => if pd p.1 p.2 then none else some p
      | none => none := by
  intro es
  induction es with
  | nil => intro _ _ _; rfl
  | cons p r ih =>
    intro hp hk hl
    obtain ⟨h1, h2⟩ := List.pairwise_cons.1 hp
    have ih := ih h2 (fun q hq => hk q (List.mem_cons_of_mem _ hq)) hl
    by_cases hs : p.1.sameKey kl = true
    · have e : p.1 = kl := (WideAt.sameKey_iff hl).1 hs
      have hn : r.find? (fun p => p.1.sameKey kl) = none := by
        rw [List.find?_eq_none]
        intro q hq hqs
        exact h1 q hq (e.trans ((WideAt.sameKey_iff hl).1 hqs).symm)
      by_cases hpd : pd p.1 p.2 = true
      · simp [hs, hpd, ih, hn]
      · simp [hs, hpd]
    · by_cases hpd : pd p.1 p.2 = true
      · simp [hs, hpd, ih]
      · simp [hs, hpd, ih]

/-- maps.DeleteFunc, on what a map has at its keys -/
theorem deleted {P : Program} {k : TypeId} {w : World} {b n : Nat} {f : Lit → Option Value} {D : DataW Value} (pd : Lit → DataW Value → Bool) (h0 : Maps.Canon D)
    (g : ∀ kl, WideAt.IsKeyLit kl → ∀ z, D.atKey kl z = outOf (f kl) z) (h : w.ownsMap P k rv b n (Lib.deleteFuncD pd D)) :
    MapAt P k w b n (fun x => match f x with
      | some v => if pd x (.held v) then none else some v
      | none => none) := by
  refine ⟨_, h, fun kl hk z => ?_⟩
  obtain ⟨es, rfl, hp, hks⟩ := h0
  have gk := g kl hk
  simp only [DataW.atKey] at gk
  simp only [Lib.deleteFuncD, DataW.atKey]
  rw [find_filter es (Maps.apart_of_rising hp) hks hk]
  cases hf : es.find? (fun p => p.1.sameKey kl) with
  | none =>
    have := gk .nil
    rw [hf] at this
    cases hfk : f kl with
    | none => rfl
    | some v => rw [hfk] at this; cases this
  | some p =>
    have hpk : p.1 = kl := (WideAt.sameKey_iff hk).1 (by have := List.find?_some hf; simpa using this)
    have := gk .nil
    rw [hf] at this
    cases hfk : f kl with
    | none =>
      have h2 := gk (.lit (.bool true))
      rw [hf, hfk] at h2
      rw [hfk] at this
      simp only [outOf] at this h2
      rw [this] at h2; cases h2
    | some v =>
      rw [hfk] at this
      simp only [outOf] at this
      simp only [hpk, this]
      by_cases hpd : pd kl (.held v) = true
      · simp [hpd, outOf]
      · simp [hpd, outOf, this]

/-! ### What a call may change: blocks of F, and new ones -/

/-- nothing but blocks of F has changed; blocks may be new -/
structure Step (F : Nat → Prop) (w w' : World) : Prop where
  os : w'.os = w.os
  tape : w'.tape = w.tape
  output : w'.output = w.output
  size : w.heap.size ≤ w'.heap.size
  block : ∀ b, b < w.heap.size → ¬ F b → w'.heap[b]? = w.heap[b]?

theorem Step.refl (F : Nat → Prop) (w : World) : Step F w w := ⟨rfl, rfl, rfl, Nat.le_refl _, fun _ _ _ => rfl⟩
theorem Step.trans {F G : Nat → Prop} {a b c : World} (h : Step F a b) (g : Step G b c) (e : ∀ x, G x → F x ∨ a.heap.size ≤ x) : Step F a c :=
  ⟨g.os.trans h.os, g.tape.trans h.tape, g.output.trans h.output, Nat.le_trans h.size g.size, fun x hx hn => by
    rw [g.block x (Nat.lt_of_lt_of_le hx h.size) (fun k => by rcases e x k with k | k; exact hn k; omega), h.block x hx hn]⟩
theorem Step.mono {F G : Nat → Prop} {a b : World} (h : Step F a b) (e : ∀ x, x < a.heap.size → F x → G x) : Step G a b :=
  ⟨h.os, h.tape, h.output, h.size, fun x hx hn => h.block x hx (fun k => hn (e x hx k))⟩
theorem Step.below {F : Nat → Prop} {B : Nat} {a b : World} (h : Step F a b) (hB : B ≤ a.heap.size) (e : ∀ x, F x → B ≤ x) : Below B a b :=
  ⟨h.os, h.tape, h.output, h.size, fun x hx => h.block x (by omega) (fun k => by have := e x k; omega)⟩
theorem Step.of_below {B : Nat} {a b : World} (h : Below B a b) : Step (fun x => B ≤ x) a b :=
  ⟨h.os, h.tape, h.output, h.size, fun x _ hn => h.block x (by omega)⟩
theorem Step.of_grown {row : Nat} {a b : World} (h : a.grownBy b (some row)) : Step (fun x => x = row) a b :=
  ⟨h.os, h.tape, h.output, h.size, fun x hx hn => h.block x hx (fun e => hn (Option.some.inj e))⟩
theorem Step.of_grown_none {F : Nat → Prop} {a b : World} (h : a.grownBy b none) : Step F a b :=
  ⟨h.os, h.tape, h.output, h.size, fun x hx _ => h.block x hx (by simp)⟩
theorem Step.none {a b : World} (h : Step (fun _ => False) a b) : a.grownBy b none :=
  ⟨h.os, h.tape, h.output, h.size, fun x hx _ => h.block x hx (fun k => k)⟩
theorem Step.grown {row : Nat} {a b : World} (h : Step (fun x => x = row) a b) : a.grownBy b (some row) :=
  ⟨h.os, h.tape, h.output, h.size, fun x hx hn => h.block x hx (fun e => hn (by rw [e]))⟩
theorem Step.alloc (F : Nat → Prop) (w : World) (o : Obj) : Step F w (w.alloc o) :=
  ⟨rfl, rfl, rfl, by simp, fun x hx _ => Below.heap_alloc w o x hx⟩
theorem Step.al {F : Nat → Prop} {a b : World} (h : Step F a b) (o : Obj) : Step F a (b.alloc o) :=
  ⟨h.os, h.tape, h.output, Nat.le_trans h.size (by simp), fun x hx hn => by rw [Below.heap_alloc b o x (Nat.lt_of_lt_of_le hx h.size)]; exact h.block x hx hn⟩
theorem Step.set {F : Nat → Prop} {a b : World} (h : Step F a b) {p : Addr} (hp : F p.block ∨ a.heap.size ≤ p.block) (u : Value) : Step F a (b.setCell p u) :=
  have s := (Below.refl 0 b).setCell (p := p) (Nat.zero_le _) u
  ⟨s.os.trans h.os, s.tape.trans h.tape, s.output.trans h.output, Nat.le_trans h.size s.size, fun x hx hn => by
    rw [Below.heap_setCell b p u x (fun e => by subst e; rcases hp with k | k; exact hn k; omega)]; exact h.block x hx hn⟩
theorem Step.setCell (F : Nat → Prop) (w : World) (a : Addr) (u : Value) (h : F a.block) : Step F w (w.setCell a u) :=
  ((Below.refl 0 w).setCell (p := a) (Nat.zero_le _) u) |> fun b => ⟨b.os, b.tape, b.output, b.size, fun x _ hn => Below.heap_setCell w a u x (fun e => hn (e ▸ h))⟩
theorem Step.drew {F : Nat → Prop} {a b : World} (h : Step F a b) : Step F a b.drew := ⟨h.os, h.tape, h.output, h.size, h.block⟩
theorem Step.drewN {F : Nat → Prop} {a b : World} (h : Step F a b) (n : Nat) : Step F a (b.drewN n) := ⟨h.os, h.tape, h.output, h.size, h.block⟩
theorem Step.from_drewN {F : Nat → Prop} {a b : World} {n : Nat} (h : Step F (a.drewN n) b) : Step F a b := ⟨h.os, h.tape, h.output, h.size, h.block⟩
/-- a cell of a block that stays -/
theorem cell_of {a b : World} {p : Addr} (e : b.heap[p.block]? = a.heap[p.block]?) : b.cell? p = a.cell? p := by unfold World.cell?; rw [e]
theorem frozen_of {a b : World} {p : Addr} (e : b.heap[p.block]? = a.heap[p.block]?) : b.frozen? p = a.frozen? p := by unfold World.frozen?; rw [e]
theorem Step.cell {F : Nat → Prop} {a b : World} (h : Step F a b) {p : Addr} (hp : p.block < a.heap.size) (hn : ¬ F p.block) : b.cell? p = a.cell? p := cell_of (h.block _ hp hn)
theorem Step.frozen {F : Nat → Prop} {a b : World} (h : Step F a b) {p : Addr} (hp : p.block < a.heap.size) (hn : ¬ F p.block) : b.frozen? p = a.frozen? p := frozen_of (h.block _ hp hn)
/-- for a walk: behind a call that changes nothing that was there, all old cells read as before -/
theorem scell {W w1 : World} (h : Step (fun _ => False) W w1) : (∀ b o, b < W.heap.size → w1.cell? ⟨b, o, none⟩ = W.cell? ⟨b, o, none⟩) ∧ (∀ b o, b < W.heap.size → w1.frozen? ⟨b, o, none⟩ = W.frozen? ⟨b, o, none⟩) :=
  ⟨fun b o hb => h.cell (p := ⟨b, o, none⟩) hb (fun k => k), fun b o hb => h.frozen (p := ⟨b, o, none⟩) hb (fun k => k)⟩
/-- a block known whole -/
theorem cell_known {w : World} {b : Nat} {c : Array Value} {T : TypeId} (h : w.heap[b]? = some (.cells c T (0, 0))) {i : Nat} {v : Value} (hv : c[i]? = some v) : w.cell? ⟨b, i, none⟩ = some v := by
  unfold World.cell?; simp [h, hv]
theorem free_known {w : World} {b : Nat} {c : Array Value} {T : TypeId} (h : w.heap[b]? = some (.cells c T (0, 0))) (i : Nat) : w.frozen? ⟨b, i, none⟩ = false := by
  unfold World.frozen?; simp [h]
theorem cells_known1 {w : World} {b : Nat} {v0 : Value} {T : TypeId} (h : w.heap[b]? = some (.cells #[v0] T (0, 0))) : w.cell? ⟨b, 0, none⟩ = some v0 ∧ w.frozen? ⟨b, 0, none⟩ = false :=
  ⟨cell_known h rfl, free_known h 0⟩
theorem cells_known2 {w : World} {b : Nat} {v0 v1 : Value} {T : TypeId} (h : w.heap[b]? = some (.cells #[v0, v1] T (0, 0))) : w.cell? ⟨b, 0, none⟩ = some v0 ∧ w.cell? ⟨b, 1, none⟩ = some v1 ∧ w.frozen? ⟨b, 0, none⟩ = false ∧ w.frozen? ⟨b, 1, none⟩ = false :=
  ⟨cell_known h rfl, cell_known h rfl, free_known h 0, free_known h 1⟩
theorem cells_known3 {w : World} {b : Nat} {v0 v1 v2 : Value} {T : TypeId} (h : w.heap[b]? = some (.cells #[v0, v1, v2] T (0, 0))) : w.cell? ⟨b, 0, none⟩ = some v0 ∧ w.cell? ⟨b, 1, none⟩ = some v1 ∧ w.cell? ⟨b, 2, none⟩ = some v2 ∧ w.frozen? ⟨b, 0, none⟩ = false ∧ w.frozen? ⟨b, 1, none⟩ = false ∧ w.frozen? ⟨b, 2, none⟩ = false :=
  ⟨cell_known h rfl, cell_known h rfl, cell_known h rfl, free_known h 0, free_known h 1, free_known h 2⟩
theorem cells_known4 {w : World} {b : Nat} {v0 v1 v2 v3 : Value} {T : TypeId} (h : w.heap[b]? = some (.cells #[v0, v1, v2, v3] T (0, 0))) : w.cell? ⟨b, 0, none⟩ = some v0 ∧ w.cell? ⟨b, 1, none⟩ = some v1 ∧ w.cell? ⟨b, 2, none⟩ = some v2 ∧ w.cell? ⟨b, 3, none⟩ = some v3 ∧ w.frozen? ⟨b, 0, none⟩ = false ∧ w.frozen? ⟨b, 1, none⟩ = false ∧ w.frozen? ⟨b, 2, none⟩ = false ∧ w.frozen? ⟨b, 3, none⟩ = false :=
  ⟨cell_known h rfl, cell_known h rfl, cell_known h rfl, cell_known h rfl, free_known h 0, free_known h 1, free_known h 2, free_known h 3⟩
theorem cells_known5 {w : World} {b : Nat} {v0 v1 v2 v3 v4 : Value} {T : TypeId} (h : w.heap[b]? = some (.cells #[v0, v1, v2, v3, v4] T (0, 0))) : w.cell? ⟨b, 0, none⟩ = some v0 ∧ w.cell? ⟨b, 1, none⟩ = some v1 ∧ w.cell? ⟨b, 2, none⟩ = some v2 ∧ w.cell? ⟨b, 3, none⟩ = some v3 ∧ w.cell? ⟨b, 4, none⟩ = some v4 ∧ w.frozen? ⟨b, 0, none⟩ = false ∧ w.frozen? ⟨b, 1, none⟩ = false ∧ w.frozen? ⟨b, 2, none⟩ = false ∧ w.frozen? ⟨b, 3, none⟩ = false ∧ w.frozen? ⟨b, 4, none⟩ = false :=
  ⟨cell_known h rfl, cell_known h rfl, cell_known h rfl, cell_known h rfl, cell_known h rfl, free_known h 0, free_known h 1, free_known h 2, free_known h 3, free_known h 4⟩
theorem new_cells {w : World} {b : Nat} (hb : b = w.heap.size) (c : List Value) (T : TypeId) : ∀ (j : Nat) (u : Value), c[j]? = some u → (w.alloc (.cells c.toArray T)).cell? ((⟨b, 0, none⟩ : Addr).add j) = some u := by
  intro j u hu
  subst hb
  have hadd : (⟨w.heap.size, 0, none⟩ : Addr).add j = ⟨w.heap.size, j, none⟩ := by unfold Addr.add; split <;> simp_all
  rw [hadd]
  exact cell_known (c := c.toArray) (T := T) ((MapKept.heap_alloc w _).1) (by simpa using hu)
theorem lt_known {w : World} {b : Nat} {o : Obj} (h : w.heap[b]? = some o) : b < w.heap.size := (Array.getElem?_eq_some_iff.1 h).1

end Go.Proofs.Ytojfgdoniajmeaa
