/- The laws' helpers: append of instructions, its length told. -/
import Derived.Test.YtpmbakhnamlooaaLawB
namespace Go.Proofs.Ytpmbakhnamlooaa
set_option linter.unusedVariables false
set_option linter.unusedSimpArgs false
open Go.RowKit
section
variable {w w' : World}
theorem CodeRow.slice {F : Nat → Prop} {v : Value} {code : List FIns} (h : CodeRow w F v code) : ∃ p c, v = .slice p code.length c := by
  obtain ⟨vis, hrow, _⟩ := h
  exact hrow.slice
theorem wpList_append_codeN {ops : Array Oper} {rest : List Oper} {o : Oper} {a : Act} {Q : Exit → Act → World → Prop} (hgd : o.guard = none) (s x : Operand)
    (ho : o.op = .call { callee := .builtin .append, args := #[s, x], argTypes := #[42, 42] })
    {F : Nat → Prop} {v : Value} {code ncode code2 : List FIns} {nvis : List Value} {b m : Nat} (N : Nat) (hs : a.eval s = v) (hrow : CodeRow w F v code) (hx : a.eval x = .slice (some ⟨b, 0, none⟩) m m)
    (hblk : w.heap[b]? = some (.cells (nvis.flatMap fun v => v.cells.toList).toArray 47 (0, 0))) (hn : KeepAll F w nvis ncode) (hm : ncode.length = m) (h0 : 0 < m) (hb : code.length + m ≤ 1000000) (hN : code.length + m = N) (h2 : code ++ ncode = code2)
    (h : ∀ g cap w' F', CodeRow w' F' (.slice (some ⟨g, 0, none⟩) N cap) code2 → (∀ b, F' b → F b ∨ w.heap.size ≤ b) → (∀ b, F' b → b < w'.heap.size) → Step F w w' → wpList Try.prog ops Q rest (a.put o.dst (.slice (some ⟨g, 0, none⟩) N cap)) w') : wpList Try.prog ops Q (o :: rest) a w := by
  subst hN
  subst h2
  exact wpList_append_code hgd s x ho hs hrow hx hblk hn hm h0 hb h
/-- a row of instructions of one's own: of one block, behind where the walk began -/
structure Code (w0 w : World) (F : Nat → Prop) (v : Value) (code : List FIns) : Prop where
  row : CodeRow w F v code
  old : ∀ b, F b → w0.heap.size ≤ b
  lt : ∀ b, F b → b < w.heap.size
  step : Step (fun _ => False) w0 w
theorem Code.go {w0 : World} {F : Nat → Prop} {v : Value} {code : List FIns} (h : Code w0 w F v code) (s : Step (fun _ => False) w w') : Code w0 w' F v code := ⟨h.row.still s, h.old, fun b hb => Nat.lt_of_lt_of_le (h.lt b hb) s.size, h.step.then s⟩
theorem Code.app {w0 : World} {F F' : Nat → Prop} {v v' : Value} {code code' : List FIns} (h : Code w0 w F v code) (hr : CodeRow w' F' v' code') (hF : ∀ b, F' b → F b ∨ w.heap.size ≤ b) (hl : ∀ b, F' b → b < w'.heap.size) (s : Step F w w') : Code w0 w' F' v' code' :=
  ⟨hr, fun b hb => by
    have hz := h.step.size
    rcases hF b hb with h1 | h1
    · exact h.old b h1
    · omega, hl, h.step.trans s fun b hb => .inr (h.old b hb)⟩
theorem code_nil (w : World) : Code w w (fun _ => False) (.slice none 0 0) [] := ⟨codeRow_nil _ _, fun _ h => h.elim, fun _ h => h.elim, Step.refl _ _⟩
/-- the blocks that were there stay -/
theorem Code.keeps {w0 : World} {F : Nat → Prop} {v : Value} {code : List FIns} (h : Code w0 w F v code) {b : Nat} {o : Obj} (hb : w0.heap[b]? = some o) : w.heap[b]? = some o := h.step.keeps hb
theorem Code.fresh {w0 : World} {F : Nat → Prop} {v : Value} {code : List FIns} (h : Code w0 w F v code) (j : Nat) : ¬ F (w.heap.size + j) := fun hb => by have := h.lt _ hb; omega
/-- of any beginning -/
theorem Code.narrow {w0 : World} {F : Nat → Prop} {v : Value} {code : List FIns} (h : CodeRow w F v code) (h0 : ∀ b, F b → w0.heap.size ≤ b) (s : Step (fun _ => False) w0 w) : ∃ G, Code w0 w G v code := by
  obtain ⟨G, h1, h2, h3⟩ := h.narrow
  exact ⟨G, h1, fun b hb => h0 b (h2 b hb), h3, s⟩
end
end Go.Proofs.Ytpmbakhnamlooaa
