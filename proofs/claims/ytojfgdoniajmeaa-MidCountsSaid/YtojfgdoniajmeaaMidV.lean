/- Package mid: a run's end is caught. -/
import Derived.Test.YtojfgdoniajmeaaMidA
import Derived.Defers
import Derived.Recover
import Derived.Laws.Pointers
namespace Go.Proofs.Ytojfgdoniajmeaa
set_option linter.unusedVariables false
set_option linter.unusedSimpArgs false
open Go.RowKit

theorem assert_stop (s code why : Int) (w : World) : (Instr.typeAssert (.iface 72 (.agg #[.int .i64 s, .int .u8 code, .int .i64 why])) 20 72 true).run Try.prog w = .ok (.tuple #[.agg #[.int .i64 s, .int .u8 code, .int .i64 why], .bool true]) w := by kernel_rfl
theorem assert_nil (w : World) : (Instr.typeAssert .nilIface 20 72 true).run Try.prog w = .ok (.tuple #[.agg #[.int .i64 0, .int .u8 0, .int .i64 0], .bool false]) w := by kernel_rfl
theorem set3_known {w : World} {b : Nat} {T : TypeId} {u0 u1 u2 : Value} (h : w.heap[b]? = some (.cells #[u0, u1, u2] T (0, 0))) (v0 v1 v2 : Value) : (((w.setCell ⟨b, 0, none⟩ v0).setCell ⟨b, 1, none⟩ v1).setCell ⟨b, 2, none⟩ v2).heap[b]? = some (.cells #[v0, v1, v2] T (0, 0)) := by
  have h0 : (w.setCell ⟨b, 0, none⟩ v0).heap[b]? = some (.cells #[v0, u1, u2] T (0, 0)) := by rw [set_known h]; rfl
  have h1 : ((w.setCell ⟨b, 0, none⟩ v0).setCell ⟨b, 1, none⟩ v1).heap[b]? = some (.cells #[v0, v1, u2] T (0, 0)) := by rw [set_known h0]; rfl
  rw [set_known h1]; rfl
set_option maxHeartbeats 1000000 in
set_option maxRecDepth 100000 in
theorem catch_panic (p : Nat) (s code why s0 c0 y0 : Int) (older : List PanicEntry) (w : World) (h0 : w.cell? ⟨p, 0, none⟩ = some (.int .i64 s0)) (h1 : w.cell? ⟨p, 1, none⟩ = some (.int .u8 c0)) (h2 : w.cell? ⟨p, 2, none⟩ = some (.int .i64 y0)) (z0 : w.frozen? ⟨p, 0, none⟩ = false) (z1 : w.frozen? ⟨p, 1, none⟩ = false) (z2 : w.frozen? ⟨p, 2, none⟩ = false) :
    CallsD Try.prog 32 #[.pointer (some ⟨p, 0, none⟩)] (.panicking ({ v := stopV s code why, recovered := false } :: older)) w fun e u' w' =>
      e = .returned (.tuple #[]) ∧ u' = .panicking ({ v := stopV s code why, recovered := true } :: older) ∧ w' = (((w.alloc (.cells #[.int .i64 s, .int .u8 code, .int .i64 why] 72)).setCell ⟨p, 0, none⟩ (.int .i64 s)).setCell ⟨p, 1, none⟩ (.int .u8 code)).setCell ⟨p, 2, none⟩ (.int .i64 why) := by
  have sa := Step.alloc (fun _ => False) w (.cells #[.int .i64 s, .int .u8 code, .int .i64 why] 72)
  have a0 := (sa.cell (block_lt h0) fun x => x).trans h0
  have a1 := (sa.cell (block_lt h1) fun x => x).trans h1
  have a2 := (sa.cell (block_lt h2) fun x => x).trans h2
  have y0 := (sa.frozen (block_lt h0) fun x => x).trans z0
  have y1 := (sa.frozen (block_lt h1) fun x => x).trans z1
  have y2 := (sa.frozen (block_lt h2) fun x => x).trans z2
  clear sa
  refine callsD_of_wpS Try.func32 rfl fun c₀ cs hu => ?_
  apply wpS_seq
  apply wpS_region
  simp [wpOpsS, go_sem, recoverD, hu, Try.ntmps32, Exit.thenS, stopV, assert_stop]
  apply wpS_seq
  apply wpS_region
  simp [wpOpsS, go_sem, Exit.thenS, Array.replicate]
  refine wpS_cond (t := true) (by simp [Act.eval, Array.replicate]) ?_
  simp only [if_true]
  apply wpS_region
  simp [wpOpsS, go_sem, a0, a1, a2, y0, y1, y2, bodyPostS, results, Try.results32]
set_option maxHeartbeats 1000000 in
set_option maxRecDepth 100000 in
theorem catch_idle (p : Nat) (w : World) :
    CallsD Try.prog 32 #[.pointer (some ⟨p, 0, none⟩)] .returning w fun e u' w' => e = .returned (.tuple #[]) ∧ u' = .returning ∧ w' = w.alloc (.cells #[.int .i64 0, .int .u8 0, .int .i64 0] 72) := by
  refine callsD_of_wpS Try.func32 rfl fun c₀ cs hu => ?_
  apply wpS_seq
  apply wpS_region
  simp [wpOpsS, go_sem, recoverD, hu, Try.ntmps32, Exit.thenS, assert_nil]
  apply wpS_seq
  apply wpS_region
  simp [wpOpsS, go_sem, Exit.thenS, Array.replicate]
  refine wpS_cond (t := false) (by simp [Act.eval, Array.replicate]) ?_
  simp only [Bool.false_eq_true, if_false]
  refine wpS_of_wp (wp_skip ?_)
  cases c₀
  simp_all [bodyPostS, results, Try.results32]
end Go.Proofs.Ytojfgdoniajmeaa
