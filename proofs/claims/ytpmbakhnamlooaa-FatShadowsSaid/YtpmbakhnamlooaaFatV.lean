/- Package fat: a run's end is caught. -/
import Derived.Test.YtpmbakhnamlooaaFatT
import Derived.Defers
import Derived.Recover
import Derived.Laws.Pointers
namespace Go.Proofs.Ytpmbakhnamlooaa
set_option linter.unusedVariables false
set_option linter.unusedSimpArgs false
open Go.RowKit

theorem assert_stop (s code : Int) (w : World) : (Instr.typeAssert (.iface 74 (.agg #[.int .i64 s, .int .u8 code])) 20 74 true).run Try.prog w = .ok (.tuple #[.agg #[.int .i64 s, .int .u8 code], .bool true]) w := by kernel_rfl
theorem assert_nil (w : World) : (Instr.typeAssert .nilIface 20 74 true).run Try.prog w = .ok (.tuple #[.agg #[.int .i64 0, .int .u8 0], .bool false]) w := by kernel_rfl
set_option maxHeartbeats 1000000 in
set_option maxRecDepth 100000 in
theorem catch_panic (p : Nat) (s code s0 c0 : Int) (older : List PanicEntry) (w : World) (h0 : w.cell? ⟨p, 0, none⟩ = some (.int .i64 s0)) (h1 : w.cell? ⟨p, 1, none⟩ = some (.int .u8 c0)) (z0 : w.frozen? ⟨p, 0, none⟩ = false) (z1 : w.frozen? ⟨p, 1, none⟩ = false) :
    CallsD Try.prog 40 #[.pointer (some ⟨p, 0, none⟩)] (.panicking ({ v := stopV s code, recovered := false } :: older)) w fun e u' w' =>
      e = .returned (.tuple #[]) ∧ u' = .panicking ({ v := stopV s code, recovered := true } :: older) ∧ w' = ((w.alloc (.cells #[.int .i64 s, .int .u8 code] 74)).setCell ⟨p, 0, none⟩ (.int .i64 s)).setCell ⟨p, 1, none⟩ (.int .u8 code) := by
  have sa := Step.alloc (fun _ => False) w (.cells #[.int .i64 s, .int .u8 code] 74)
  have a0 := (sa.cell (block_lt h0) fun x => x).trans h0
  have a1 := (sa.cell (block_lt h1) fun x => x).trans h1
  have y0 := (sa.frozen (block_lt h0) fun x => x).trans z0
  have y1 := (sa.frozen (block_lt h1) fun x => x).trans z1
  clear sa
  refine callsD_of_wpS Try.func40 rfl fun c₀ cs hu => ?_
  apply wpS_seq
  apply wpS_region
  simp [wpOpsS, go_sem, recoverD, hu, Try.ntmps40, Exit.thenS, stopV, assert_stop]
  apply wpS_seq
  apply wpS_region
  simp [wpOpsS, go_sem, Exit.thenS, Array.replicate]
  refine wpS_cond (t := true) (by simp [Act.eval, Array.replicate]) ?_
  simp only [if_true]
  apply wpS_region
  simp [wpOpsS, go_sem, a0, a1, y0, y1, bodyPostS, results, Try.results40]
set_option maxHeartbeats 1000000 in
set_option maxRecDepth 100000 in
theorem catch_idle (p : Nat) (w : World) :
    CallsD Try.prog 40 #[.pointer (some ⟨p, 0, none⟩)] .returning w fun e u' w' => e = .returned (.tuple #[]) ∧ u' = .returning ∧ w' = w.alloc (.cells #[.int .i64 0, .int .u8 0] 74) := by
  refine callsD_of_wpS Try.func40 rfl fun c₀ cs hu => ?_
  apply wpS_seq
  apply wpS_region
  simp [wpOpsS, go_sem, recoverD, hu, Try.ntmps40, Exit.thenS, assert_nil]
  apply wpS_seq
  apply wpS_region
  simp [wpOpsS, go_sem, Exit.thenS, Array.replicate]
  refine wpS_cond (t := false) (by simp [Act.eval, Array.replicate]) ?_
  simp only [Bool.false_eq_true, if_false]
  refine wpS_of_wp (wp_skip ?_)
  cases c₀
  simp_all [bodyPostS, results, Try.results40]
end Go.Proofs.Ytpmbakhnamlooaa
