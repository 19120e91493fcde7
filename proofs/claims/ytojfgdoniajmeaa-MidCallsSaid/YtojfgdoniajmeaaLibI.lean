/- Maps whose keys are integers of one kind, and maps whose keys are strings. Over any program. -/
import Derived.Test.YtojfgdoniajmeaaLibM
namespace Go.Proofs.Ytojfgdoniajmeaa
set_option linter.unusedVariables false
set_option linter.unusedSimpArgs false
open Go.RowKit

def byInt (q : IntKind) (g : Int → Option Value) : Lit → Option Value := fun kl => match kl with
  | .int q' a => if q' = q then g a else none
  | _ => none
def byStr (g : List UInt8 → Option Value) : Lit → Option Value := fun kl => match kl with
  | .string s => g s
  | _ => none

/-- block b is a map of at most n entries, with keys of kind q, that has g a at a -/
def IMap (P : Program) (k : TypeId) (q : IntKind) (w : World) (b n : Nat) (g : Int → Option Value) : Prop := MapAt P k w b n (byInt q g)
def SMap (P : Program) (k : TypeId) (w : World) (b n : Nat) (g : List UInt8 → Option Value) : Prop := MapAt P k w b n (byStr g)

section
variable {P : Program} {k t e : TypeId} {q : IntKind} {w : World} {b n : Nat} {g : Int → Option Value}

theorem key_int (hk : P.underlying k = some (.int q)) {a : Int} (ha : (Lit.int q a).wf = true) : keyOf P k (.int q a) = some (.int q a) := by
  unfold keyOf
  rw [hk]
  simp [mapKey, hk, ha]
theorem IMap.lt (h : IMap P k q w b n g) : b < w.heap.size := MapAt.lt h
theorem IMap.same (h : IMap P k q w b n g) {w' : World} (e : w'.heap[b]? = w.heap[b]?) : IMap P k q w' b n g := MapAt.same h e
theorem IMap.le (h : IMap P k q w b n g) {m : Nat} (e : n ≤ m) : IMap P k q w b m g := MapAt.mono h e
theorem IMap.congr (h : IMap P k q w b n g) {g' : Int → Option Value} (e : ∀ a, g a = g' a) : IMap P k q w b n g' := by
  have : g = g' := funext e
  rw [← this]; exact h
theorem imap_made (w : World) (P : Program) (k : TypeId) (q : IntKind) : IMap P k q (w.alloc (.map #[] 0)) w.heap.size 0 (fun _ => none) :=
  (mapAt_made w P k).congr fun kl _ => by cases kl <;> simp [byInt]
theorem IMap.lookup (h : IMap P k q w b n g) (hk : P.underlying k = some (.int q)) (ht : P.underlying t = some (.map k e)) {z : Value} (hz : (zeroValue e).run P w = .ok z w) {a : Int} (ha : (Lit.int q a).wf = true) :
    (Instr.lookup t (.map (some b)) (.int q a) false).run P w = .ok ((g a).getD z) w := by
  have := MapAt.lookup h (Maps.int_keyed hk) ht hz (key_int hk ha)
  simpa [byInt] using this
theorem IMap.lookup_ok (h : IMap P k q w b n g) (hk : P.underlying k = some (.int q)) (ht : P.underlying t = some (.map k e)) {z : Value} (hz : (zeroValue e).run P w = .ok z w) {a : Int} (ha : (Lit.int q a).wf = true) :
    (Instr.lookup t (.map (some b)) (.int q a) true).run P w = .ok (.tuple #[(g a).getD z, .bool (g a).isSome]) w := by
  have := MapAt.lookup_ok h (Maps.int_keyed hk) ht hz (key_int hk ha)
  simpa [byInt] using this
theorem IMap.update (h : IMap P k q w b n g) (hk : P.underlying k = some (.int q)) (ht : P.underlying t = some (.map k e)) (hn : n < maxLen) {a : Int} (ha : (Lit.int q a).wf = true) (val : Value) :
    ∃ w', (Instr.mapUpdate t (.map (some b)) (.int q a) val).run P w = .ok () w' ∧ IMap P k q w' b (n + 1) (fun x => if x = a then some val else g x) ∧ w.grownBy w' (some b) ∧ w'.heap.size = w.heap.size := by
  obtain ⟨w', r1, r2, r3, r4⟩ := MapAt.update h (Maps.int_keyed hk) ht hn (key_int hk ha) val
  refine ⟨w', r1, r2.congr fun kl _ => ?_, r3, r4⟩
  cases kl with
  | int q' x =>
    by_cases hq : q' = q
    · subst hq
      by_cases hx : x = a
      · subst hx; simp [byInt, Lit.sameKey]
      · simp [byInt, Lit.sameKey, hx]
    · simp [byInt, Lit.sameKey, hq]
  | _ => simp [byInt, Lit.sameKey]
theorem IMap.delete (h : IMap P k q w b n g) (hk : P.underlying k = some (.int q)) {ty : TypeId} (ht : P.underlying t = some (.map k e)) {a : Int} (ha : (Lit.int q a).wf = true) :
    ∃ w', (Builtin.delete_ #[t, k] ty #[.map (some b), .int q a]).run P w = .ok (.tuple #[]) w' ∧ IMap P k q w' b n (fun x => if x = a then none else g x) ∧ w.grownBy w' (some b) ∧ w'.heap.size = w.heap.size := by
  obtain ⟨w', r1, r2, r3, r4⟩ := MapAt.delete (ty := ty) h (Maps.int_keyed hk) ht (key_int hk ha)
  refine ⟨w', r1, r2.congr fun kl _ => ?_, r3, r4⟩
  cases kl with
  | int q' x =>
    by_cases hq : q' = q
    · subst hq
      by_cases hx : x = a
      · subst hx; simp [byInt, Lit.sameKey]
      · simp [byInt, Lit.sameKey, hx]
    · simp [byInt, Lit.sameKey, hq]
  | _ => simp [byInt, Lit.sameKey]
end

section
variable {P : Program} {k t e : TypeId} {w : World} {b n : Nat} {g : List UInt8 → Option Value}
theorem key_str (hk : P.underlying k = some .string) {s : ByteArray} (hs : s.size ≤ maxLen) : keyOf P k (.string s) = some (.string s.data.toList) := by
  unfold keyOf
  rw [hk]
  simp [mapKey, hk, hs]
theorem SMap.lt (h : SMap P k w b n g) : b < w.heap.size := MapAt.lt h
theorem SMap.same (h : SMap P k w b n g) {w' : World} (e : w'.heap[b]? = w.heap[b]?) : SMap P k w' b n g := MapAt.same h e
theorem SMap.le (h : SMap P k w b n g) {m : Nat} (e : n ≤ m) : SMap P k w b m g := MapAt.mono h e
theorem smap_made (w : World) (P : Program) (k : TypeId) : SMap P k (w.alloc (.map #[] 0)) w.heap.size 0 (fun _ => none) :=
  (mapAt_made w P k).congr fun kl _ => by cases kl <;> simp [byStr]
theorem SMap.lookup (h : SMap P k w b n g) (hk : P.underlying k = some .string) (ht : P.underlying t = some (.map k e)) {z : Value} (hz : (zeroValue e).run P w = .ok z w) {s : ByteArray} (hs : s.size ≤ maxLen) :
    (Instr.lookup t (.map (some b)) (.string s) false).run P w = .ok ((g s.data.toList).getD z) w := by
  have := MapAt.lookup h (Maps.string_keyed hk) ht hz (key_str hk hs)
  simpa [byStr] using this
theorem SMap.lookup_ok (h : SMap P k w b n g) (hk : P.underlying k = some .string) (ht : P.underlying t = some (.map k e)) {z : Value} (hz : (zeroValue e).run P w = .ok z w) {s : ByteArray} (hs : s.size ≤ maxLen) :
    (Instr.lookup t (.map (some b)) (.string s) true).run P w = .ok (.tuple #[(g s.data.toList).getD z, .bool (g s.data.toList).isSome]) w := by
  have := MapAt.lookup_ok h (Maps.string_keyed hk) ht hz (key_str hk hs)
  simpa [byStr] using this
theorem SMap.update (h : SMap P k w b n g) (hk : P.underlying k = some .string) (ht : P.underlying t = some (.map k e)) (hn : n < maxLen) {s : ByteArray} (hs : s.size ≤ maxLen) (val : Value) :
    ∃ w', (Instr.mapUpdate t (.map (some b)) (.string s) val).run P w = .ok () w' ∧ SMap P k w' b (n + 1) (fun x => if x = s.data.toList then some val else g x) ∧ w.grownBy w' (some b) ∧ w'.heap.size = w.heap.size := by
  obtain ⟨w', r1, r2, r3, r4⟩ := MapAt.update h (Maps.string_keyed hk) ht hn (key_str hk hs) val
  refine ⟨w', r1, r2.congr fun kl _ => ?_, r3, r4⟩
  cases kl with
  | string x =>
    by_cases hx : x = s.data.toList
    · subst hx; simp [byStr, Lit.sameKey]
    · simp [byStr, Lit.sameKey, hx]
  | _ => simp [byStr, Lit.sameKey]
end
end Go.Proofs.Ytojfgdoniajmeaa
