/- Package mid's laws: results that are the same. -/
import Derived.Test.YtojfgdoniajmeaaMLawA
namespace Go.Proofs.Ytojfgdoniajmeaa
set_option linter.unusedVariables false
set_option linter.unusedSimpArgs false
open Go.RowKit
section
variable {w w' : World}
set_option maxHeartbeats 1000000 in
set_option maxRecDepth 100000 in
theorem same_any {F1 F2 : Nat → Prop} {r : RunR} {p1 p2 : Option Addr} {c1 c2 : Nat} (h1 : RowAt w F1 5 1 (.slice p1 r.out.length c1) r.out.length (r.out.map (Value.int .u8))) (h2 : RowAt w F2 5 1 (.slice p2 r.out.length c2) r.out.length (r.out.map (Value.int .u8))) :
    Calls Try.prog 15 #[resV r (.slice p1 r.out.length c1), resV r (.slice p2 r.out.length c2)] w fun e w' => e = .returned (.bool true) ∧ Step (fun _ => False) w w' := by
  obtain ⟨st, code, why, out, steps⟩ := r
  unfold resV
  simp only at h1 h2 ⊢
  have cv1 : ∀ y, Step (fun _ => False) w y → (convert 28 9 (.slice p1 out.length c1)).run Try.prog y = .ok (.string (strOfNums out)) y := fun y hy => by
    have := conv_row (h1.same (w' := y) fun b _ hlt => hy.block b hlt fun x => x) (Nat.le_refl _)
    rwa [List.take_length] at this
  have cv2 : ∀ y, Step (fun _ => False) w y → (convert 28 9 (.slice p2 out.length c2)).run Try.prog y = .ok (.string (strOfNums out)) y := fun y hy => by
    have := conv_row (h2.same (w' := y) fun b _ hlt => hy.block b hlt fun x => x) (Nat.le_refl _)
    rwa [List.take_length] at this
  have k1 := heap_alloc_new w (.cells #[.int .i64 st, .int .u8 code, .int .i64 why, .slice p1 out.length c1, .int .i64 steps, .int .i64 0] 31 (0, 0))
  have s1 := Step.alloc (fun _ => False) w (.cells #[.int .i64 st, .int .u8 code, .int .i64 why, .slice p1 out.length c1, .int .i64 steps, .int .i64 0] 31 (0, 0))
  have s2 := s1.then (Step.alloc (fun _ => False) (w.alloc (.cells #[.int .i64 st, .int .u8 code, .int .i64 why, .slice p1 out.length c1, .int .i64 steps, .int .i64 0] 31 (0, 0))) (.cells #[.int .i64 st, .int .u8 code, .int .i64 why, .slice p2 out.length c2, .int .i64 steps, .int .i64 0] 31 (0, 0)))
  have e1 := cv1 _ s2
  have e2 := cv2 _ s2
  have S2 := Lib.hid s2
  clear cv1 cv2 h1 h2 k1 s1 s2
  go_enter Try.func15, Try.ntmps15
  go_wp2_with fail
  go_ret
  exact ⟨by simp, S2.out⟩
end
end Go.Proofs.Ytojfgdoniajmeaa
