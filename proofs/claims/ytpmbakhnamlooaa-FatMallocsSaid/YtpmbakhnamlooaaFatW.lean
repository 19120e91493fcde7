/- Package fat: calls, with any fuel; a unit's run. -/
import Derived.Test.YtpmbakhnamlooaaFatU
import Derived.Test.YtpmbakhnamlooaaFatV
namespace Go.Proofs.Ytpmbakhnamlooaa
set_option linter.unusedVariables false
set_option linter.unusedSimpArgs false
open Go.RowKit

section
variable {w0 w w' w1 w2 : World} {pw : Nat} {own own' : Nat → Nat} {fnv : List UInt8 → Option Value} {tops : List UInt8 → Option Int} {st : FSt} {c : Nat} {fns : List UInt8 → Option FFn}

theorem callC_all (hE : UEnv w0 fnv fns) (n : Nat) : CallC w0 pw fnv fns tops n := by
  induction n using Nat.strongRecOn with
  | ind n ih => exact call_any n hE ih

/-- a unit's functions, in memory -/
def FnsAt (w0 : World) (v : Value) (fs : List FFn) : Prop :=
  ∃ p cap, v = .slice p fs.length cap ∧ fs.length ≤ cap ∧ cap ≤ maxLen ∧ ∀ k (hk : k < fs.length), ∃ a fv, p = some a ∧ FnAt w0 fv fs[k] ∧ ∀ j u, fv.cells[j]? = some u → w0.cell? ((a.add (k * 5)).add j) = some u
/-- a unit's variables, in memory -/
def TopsAt (w0 : World) (v : Value) (ts : List (ByteArray × Int)) : Prop :=
  ∃ p cap, v = .slice p ts.length cap ∧ ts.length ≤ cap ∧ cap ≤ maxLen ∧ ∀ k (hk : k < ts.length), ∃ a, p = some a ∧ w0.cell? (a.add (k * 2)) = some (.string ts[k].1) ∧ w0.cell? ((a.add (k * 2)).add 1) = some (.int .i64 ts[k].2) ∧ ts[k].1.size ≤ maxLen ∧ (Lit.int .i64 ts[k].2).wf = true
/-- the last function of a name among the first k -/
def fnOf (fs : List FFn) (s : List UInt8) : Option FFn := fs.reverse.find? fun f => f.name.data.toList == s
end
end Go.Proofs.Ytpmbakhnamlooaa
