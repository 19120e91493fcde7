/- Package fat: Run's walk. -/
import Derived.Test.YtpmbakhnamlooaaRunA
namespace Go.Proofs.Ytpmbakhnamlooaa
set_option linter.unusedVariables false
set_option linter.unusedSimpArgs false
open Go.RowKit

/-- which block is of which part, of a new machine -/
def ownN (B : Nat) (b : Nat) : Nat := if b = B + 8 then 1 else if b = B + 2 then 2 else if b = B + 3 then 3 else if b = B + 4 then 4 else if b = B + 5 then 5 else if b = B + 6 then 6 else if b = B + 7 then 7 else 0
section
variable {w w9 : World} {B : Nat} {vi : Value} {input : List Int} {fuel : Int}
theorem fw_new (hB : w.heap.size = B) (hz : w9.heap.size = B + 9) (s : Step (fun _ => False) w w9)
    (hs : w9.heap[B + 8]? = some (.cells #[.map (some (B + 2)), .map (some (B + 3)), .map (some (B + 4)), .map (some (B + 5)), .slice (some ⟨B + 6, 0, none⟩) 1 1, .int .u64 1, .map (some (B + 7)), .int .i64 4096, .int .i64 2097152, vi, .slice none 0 0, .int .i64 fuel, .int .i64 0, .int .i64 0] 71 (0, 0)))
    (h2 : w9.heap[B + 2]? = some (.map #[] 0)) (h3 : w9.heap[B + 3]? = some (.map #[] 0)) (h4 : w9.heap[B + 4]? = some (.map #[] 0)) (h5 : w9.heap[B + 5]? = some (.map #[] 0)) (h7 : w9.heap[B + 7]? = some (.map #[] 0))
    (h6 : w9.heap[B + 6]? = some (.cells #[.int .u64 1] 38 (0, 0))) (hi : IntsAt .u8 w vi input) :
    FParts w w9 (B + 8) (ownN B) (fun _ => none) (fun _ => none) (st0 4096 fuel input) 1 (B + 2) (B + 3) (B + 4) (B + 5) (B + 7) (.slice (some ⟨B + 6, 0, none⟩) 1 1) vi (.slice none 0 0) := by
  have mk : ∀ {k : TypeId} {b : Nat}, w9.heap[b]? = some (.map #[] 0) → MapAt Try.prog k w9 b 0 (fun _ => none) := fun {k b} h => by
    obtain ⟨D, ⟨es, clock, hb, F, hs, hD⟩, g⟩ := mapAt_made w Try.prog k
    have e := hb.symm.trans (heap_alloc_new w (.map #[] 0))
    simp only [Option.some.injEq, Obj.map.injEq] at e
    obtain ⟨rfl, rfl⟩ := e
    exact ⟨D, ⟨#[], 0, h, F, hs, hD⟩, g⟩
  have o8 : ownN B (B + 8) = 1 := by simp [ownN]
  have o2 : ownN B (B + 2) = 2 := by simp [ownN]
  have o3 : ownN B (B + 3) = 3 := by simp [ownN]
  have o4 : ownN B (B + 4) = 4 := by simp [ownN]
  have o5 : ownN B (B + 5) = 5 := by simp [ownN]
  have o6 : ownN B (B + 6) = 6 := by simp [ownN]
  have o7 : ownN B (B + 7) = 7 := by simp [ownN]
  have low : ∀ b, ownN B b ≠ 0 → B + 2 ≤ b ∧ b ≤ B + 8 := fun b hb => by
    unfold ownN at hb
    repeat' (split at hb)
    all_goals omega
  refine ⟨hs, ⟨o8, o2, o3, o4, o5, o7⟩, ((mk h2).mono (by omega)).congr (fun kl _ => by cases kl <;> rfl), ((mk h3).mono (by omega)).congr (fun kl _ => by cases kl <;> rfl), ((mk h4).mono (by omega)).congr (fun kl _ => by cases kl <;> simp [byInt, st0]), ((mk h5).mono (by omega)).congr (fun kl _ => by cases kl <;> simp [byInt, st0]), ((mk h7).mono (by omega)).congr (fun kl _ => by cases kl <;> simp [byInt, st0]), ?_, rowAt_nil _ _ _ _, hi, fun b hb => by have := low b hb; omega, s.mono fun b _ x => x.elim, by simp [st0]⟩
  exact ⟨rfl, .inr ⟨B + 6, 1, _, rfl, o6, h6, by simp [st0], by simp [maxLen], rfl, rfl⟩⟩
theorem topsB_size {ts : List Tp} : ∀ {pre : List Tp}, topsB pre ts = true → ∀ t ∈ ts, 0 ≤ t.2 ∧ t.2 ≤ 4194304 := by
  induction ts with
  | nil => intro pre _ t h; cases h
  | cons x l ih =>
    intro pre h t ht
    simp only [topsB, okTop, Bool.and_eq_true, Bool.not_eq_true', decide_eq_false_iff_not, Int.not_lt] at h
    rcases List.mem_cons.1 ht with e | e
    · rw [e]; exact ⟨h.1.1.2, h.1.2⟩
    · exact ih h.2 t e
theorem topsF_cut (ts : List Tp) {k : Nat} (h : k < ts.length) (fr : Int) (m : List UInt8 → Option Int) : topsF (ts.drop k) fr m = if (fr + 15) / 16 * 16 + ts[k].2 ≤ 2097152 then topsF (ts.drop (k + 1)) ((fr + 15) / 16 * 16 + ts[k].2) (fun s => if s = ts[k].1.data.toList then some ((fr + 15) / 16 * 16) else m s) else none := by
  rw [List.drop_eq_getElem_cons h]
  rfl
/-- what Run's walk knows while variables are given their places -/
structure RunAt (w wr : World) (B : Nat) (vt vf : Value) (k : Nat) (fr fuel : Int) (input : List Int) (tops : List UInt8 → Option Int) : Prop where
  mach : FWAt w wr (B + 8) (ownN B) (fun _ => none) tops (st0 fr fuel input) (k + 1)
  unit : wr.heap[B]? = some (.cells #[vt, vf] 25 (0, 0))
  res : wr.heap[B + 1]? = some (.cells #[.int .i64 0, .int .u8 0, .int .i64 0, .slice none 0 0, .int .i64 0, .int .i64 0] 31 (0, 0))
  step : Step (fun _ => False) w wr
  old : w.heap.size = B
  tops64 : ∀ s x, tops s = some x → is64 x
theorem ownN_hi {B b : Nat} (h : B + 8 < b) : ownN B b = 0 := by
  unfold ownN
  rw [if_neg (by omega), if_neg (by omega), if_neg (by omega), if_neg (by omega), if_neg (by omega), if_neg (by omega), if_neg (by omega)]
theorem ownN_01 (B : Nat) : ownN B B = 0 ∧ ownN B (B + 1) = 0 := by
  constructor <;> simp [ownN]
/-- the machine has gone on: so has the walk -/
theorem RunAt.next {w wr w' : World} {B : Nat} {vt vf : Value} {k k' : Nat} {fr fr' fuel : Int} {input : List Int} {tops tops' : List UInt8 → Option Int} (h : RunAt w wr B vt vf k fr fuel input tops) (c : Chg (ownN B) (ownN B) wr w') (m : FWAt w w' (B + 8) (ownN B) (fun _ => none) tops' (st0 fr' fuel input) (k' + 1)) (t64 : ∀ s x, tops' s = some x → is64 x) : RunAt w w' B vt vf k' fr' fuel input tops' :=
  ⟨m, c.keeps h.unit (ownN_01 B).1, c.keeps h.res (ownN_01 B).2, h.step.trans c.step fun b hb => .inr (by
    have := (h.mach.low b hb).1
    exact this), h.old, t64⟩
theorem set6_known {w : World} {b : Nat} {T : TypeId} {u0 u1 u2 u3 u4 u5 : Value} (h : w.heap[b]? = some (.cells #[u0, u1, u2, u3, u4, u5] T (0, 0))) (v0 v1 v2 v3 v4 v5 : Value) : (((((((w).setCell ⟨b, 0, none⟩ v0).setCell ⟨b, 1, none⟩ v1).setCell ⟨b, 2, none⟩ v2).setCell ⟨b, 3, none⟩ v3).setCell ⟨b, 4, none⟩ v4).setCell ⟨b, 5, none⟩ v5).heap[b]? = some (.cells #[v0, v1, v2, v3, v4, v5] T (0, 0)) := by
  have h0 : ((w).setCell ⟨b, 0, none⟩ v0).heap[b]? = some (.cells #[v0, u1, u2, u3, u4, u5] T (0, 0)) := by rw [set_known h]; rfl
  have h1 : (((w).setCell ⟨b, 0, none⟩ v0).setCell ⟨b, 1, none⟩ v1).heap[b]? = some (.cells #[v0, v1, u2, u3, u4, u5] T (0, 0)) := by rw [set_known h0]; rfl
  have h2 : ((((w).setCell ⟨b, 0, none⟩ v0).setCell ⟨b, 1, none⟩ v1).setCell ⟨b, 2, none⟩ v2).heap[b]? = some (.cells #[v0, v1, v2, u3, u4, u5] T (0, 0)) := by rw [set_known h1]; rfl
  have h3 : (((((w).setCell ⟨b, 0, none⟩ v0).setCell ⟨b, 1, none⟩ v1).setCell ⟨b, 2, none⟩ v2).setCell ⟨b, 3, none⟩ v3).heap[b]? = some (.cells #[v0, v1, v2, v3, u4, u5] T (0, 0)) := by rw [set_known h2]; rfl
  have h4 : ((((((w).setCell ⟨b, 0, none⟩ v0).setCell ⟨b, 1, none⟩ v1).setCell ⟨b, 2, none⟩ v2).setCell ⟨b, 3, none⟩ v3).setCell ⟨b, 4, none⟩ v4).heap[b]? = some (.cells #[v0, v1, v2, v3, v4, u5] T (0, 0)) := by rw [set_known h3]; rfl
  have h5 : (((((((w).setCell ⟨b, 0, none⟩ v0).setCell ⟨b, 1, none⟩ v1).setCell ⟨b, 2, none⟩ v2).setCell ⟨b, 3, none⟩ v3).setCell ⟨b, 4, none⟩ v4).setCell ⟨b, 5, none⟩ v5).heap[b]? = some (.cells #[v0, v1, v2, v3, v4, v5] T (0, 0)) := by rw [set_known h4]; rfl
  exact h5
theorem set6_step {F : Nat → Prop} {a w : World} {b : Nat} (s : Step F a w) (hb : F b ∨ a.heap.size ≤ b) (v0 v1 v2 v3 v4 v5 : Value) : Step F a (((((((w).setCell ⟨b, 0, none⟩ v0).setCell ⟨b, 1, none⟩ v1).setCell ⟨b, 2, none⟩ v2).setCell ⟨b, 3, none⟩ v3).setCell ⟨b, 4, none⟩ v4).setCell ⟨b, 5, none⟩ v5) :=
  (((((s.set (p := ⟨b, 0, none⟩) hb v0).set (p := ⟨b, 1, none⟩) hb v1).set (p := ⟨b, 2, none⟩) hb v2).set (p := ⟨b, 3, none⟩) hb v3).set (p := ⟨b, 4, none⟩) hb v4).set (p := ⟨b, 5, none⟩) hb v5
theorem cells_known6 {w : World} {b : Nat} {v0 v1 v2 v3 v4 v5 : Value} {T : TypeId} (h : w.heap[b]? = some (.cells #[v0, v1, v2, v3, v4, v5] T (0, 0))) : w.cell? ⟨b, 0, none⟩ = some v0 ∧ w.cell? ⟨b, 1, none⟩ = some v1 ∧ w.cell? ⟨b, 2, none⟩ = some v2 ∧ w.cell? ⟨b, 3, none⟩ = some v3 ∧ w.cell? ⟨b, 4, none⟩ = some v4 ∧ w.cell? ⟨b, 5, none⟩ = some v5 :=
  ⟨cell_known h rfl, cell_known h rfl, cell_known h rfl, cell_known h rfl, cell_known h rfl, cell_known h rfl⟩
theorem zero_result (w : World) : (zeroValue 31).run Try.prog w = .ok (.agg #[.int .i64 0, .int .u8 0, .int .i64 0, .slice none 0 0, .int .i64 0, .int .i64 0]) w := by kernel_rfl
/-- what Run answers -/
def resV (r : RunR) (vo : Value) : Value := .agg #[.int .i64 r.state, .int .u8 r.code, .int .i64 0, vo, .int .i64 r.steps, .int .i64 r.checks]
def RunPost (w : World) (r : RunR) (e : Ending) (w' : World) : Prop := ∃ vo, e = .returned (resV r vo) ∧ RowAt w' (fun b => w.heap.size ≤ b) 5 1 vo r.out.length (r.out.map (Value.int .u8)) ∧ Step (fun _ => False) w w'
theorem fault_post {w w' : World} (s : Step (fun _ => False) w w') : RunPost w faultR (.returned (.agg #[.int .i64 4, .int .u8 0, .int .i64 0, .slice none 0 0, .int .i64 0, .int .i64 0])) w' := ⟨.slice none 0 0, rfl, rowAt_nil _ _ _ _, s⟩
def planRun7 : Plan where
  T := [[], [0], [0, 1], [0, 1, 2], [], [4], [], [6], [6, 7], [6, 7, 8], [6, 7, 8, 9], [0, 1, 2, 3, 4, 5, 6, 7, 8, 9, 10]]
  rd := [[], [(0, some 39)], [(1, some 40)], [(2, some 41)], [], [(4, some 43)], [], [(6, some 45)], [(7, some 46)], [(8, some 47)], [(9, some 48)]]
  all := [(10, some 49), (9, some 48), (8, some 47), (7, some 46), (6, some 45), (5, some 44), (4, some 43), (3, some 42), (2, some 41), (1, some 40), (0, some 39)]
  calm := [true, true, true, true, true, true, true, true, true, true, true]
  hard := []
  fresh := [false, false, false, false, false, false, false, false, false, false, false]

def planRun8 : Plan where
  T := [[], [0], [0, 1], [0, 1, 2], [], [4], [0, 1, 2, 3, 4, 5], [0, 1, 2, 3, 4, 5, 6], [0, 1, 2, 3, 4, 5, 6, 7], [0, 1, 2, 3, 4, 5, 6, 7, 8]]
  rd := [[], [(0, some 50)], [(1, some 51)], [(2, some 52)], [], [(4, some 54)]]
  all := [(5, some 55), (4, some 54), (3, some 53), (2, some 52), (1, some 51), (0, some 50)]
  calm := [true, true, true, true, true, true]
  hard := []
  fresh := [false, false, false, false, false, false]

def planRun16 : Plan where
  T := [[], [0], [], [2], [], [4], [4, 5], [4, 5, 6], [], [8], [8, 9], [8, 9, 10], [], [12], [12, 13], [12, 13, 14], [0, 1, 2, 3, 4, 5, 6, 7, 8, 9, 10, 11, 12, 13, 14, 15], [0, 1, 2, 3, 4, 5, 6, 7, 8, 9, 10, 11, 12, 13, 14, 15, 16]]
  rd := [[], [(0, some 84)], [], [(2, some 86)], [], [(4, some 88)], [(5, some 89)], [(6, some 90)], [], [(8, some 92)], [(9, some 93)], [(10, some 94)], [], [(12, some 96)], [(13, some 97)], [(14, some 98)]]
  all := [(15, some 99), (14, some 98), (13, some 97), (12, some 96), (11, some 95), (10, some 94), (9, some 93), (8, some 92), (7, some 91), (6, some 90), (5, some 89), (4, some 88), (3, some 87), (2, some 86), (1, some 85), (0, some 84)]
  calm := [true, true, true, true, true, true, true, true, true, true, true, true, true, true, true, true]
  hard := []
  fresh := [false, false, false, false, false, false, false, false, false, false, false, false, false, false, false, false]

set_option maxHeartbeats 4000000 in
set_option maxRecDepth 100000 in
theorem Run_any {vt vf vi : Value} {ts : List Tp} {fs : List FFn} {input : List Int} {fuel : Int} (ht : TopsAt w vt ts) (hf : FnsAt w vf fs) (hi : IntsAt .u8 w vi input) (hok : UnitOk ts fs) (hfu : fuel ≤ 100000) :
    Calls Try.prog 15 #[.agg #[vt, vf], vi, .int .i64 fuel] w (RunPost w (runU ts fs input fuel)) := by
  have hti := ht
  have hfi := hf
  have hii := hi
  obtain ⟨pt, ct, rfl, ht1, ht2, htc⟩ := ht
  obtain ⟨pf, cf, rfl, hf1, hf2, hfc⟩ := hf
  obtain ⟨⟨pi, ci, rfl, hi1, hi2, hi3⟩, hi4⟩ := hi
  have hmm := @run_makeMap Try.prog
  have HTC := Lib.hid htc
  have HTI := Lib.hid hti
  have HFI := Lib.hid hfi
  have HOK := Lib.hid hok
  have HII := Lib.hid hii
  clear htc hfc hi3 hi4 hti hfi hok hii
  generalize hB : w.heap.size = B at *
  have kk1 := heap_alloc_new w (.cells #[.slice pt ts.length ct, .slice pf fs.length cf] 25 (0, 0))
  have st1 := Step.alloc (fun _ => False) w (.cells #[.slice pt ts.length ct, .slice pf fs.length cf] 25 (0, 0))
  have sall := st1
  generalize hw1 : w.alloc (.cells #[.slice pt ts.length ct, .slice pf fs.length cf] 25 (0, 0)) = w1 at *
  have hz1 : w1.heap.size = B + 1 := by rw [← hw1]; simp [hB]
  rw [hB] at kk1
  clear st1
  have kk2 := heap_alloc_new w1 (.cells #[.int .i64 0, .int .u8 0, .int .i64 0, .slice none 0 0, .int .i64 0, .int .i64 0] 31 (0, 0))
  have st2 := Step.alloc (fun _ => False) w1 (.cells #[.int .i64 0, .int .u8 0, .int .i64 0, .slice none 0 0, .int .i64 0, .int .i64 0] 31 (0, 0))
  replace kk1 := st2.keeps kk1
  replace sall := sall.then st2
  generalize hw2 : w1.alloc (.cells #[.int .i64 0, .int .u8 0, .int .i64 0, .slice none 0 0, .int .i64 0, .int .i64 0] 31 (0, 0)) = w2 at *
  have hz2 : w2.heap.size = B + 2 := by rw [← hw2]; simp [hz1]
  rw [hz1] at kk2
  clear st2
  have kk3 := heap_alloc_new w2 (.map #[] 0)
  have st3 := Step.alloc (fun _ => False) w2 (.map #[] 0)
  replace kk1 := st3.keeps kk1
  replace kk2 := st3.keeps kk2
  replace sall := sall.then st3
  generalize hw3 : w2.alloc (.map #[] 0) = w3 at *
  have hz3 : w3.heap.size = B + 3 := by rw [← hw3]; simp [hz2]
  rw [hz2] at kk3
  clear st3
  have kk4 := heap_alloc_new w3 (.map #[] 0)
  have st4 := Step.alloc (fun _ => False) w3 (.map #[] 0)
  replace kk1 := st4.keeps kk1
  replace kk2 := st4.keeps kk2
  replace kk3 := st4.keeps kk3
  replace sall := sall.then st4
  generalize hw4 : w3.alloc (.map #[] 0) = w4 at *
  have hz4 : w4.heap.size = B + 4 := by rw [← hw4]; simp [hz3]
  rw [hz3] at kk4
  clear st4
  have kk5 := heap_alloc_new w4 (.map #[] 0)
  have st5 := Step.alloc (fun _ => False) w4 (.map #[] 0)
  replace kk1 := st5.keeps kk1
  replace kk2 := st5.keeps kk2
  replace kk3 := st5.keeps kk3
  replace kk4 := st5.keeps kk4
  replace sall := sall.then st5
  generalize hw5 : w4.alloc (.map #[] 0) = w5 at *
  have hz5 : w5.heap.size = B + 5 := by rw [← hw5]; simp [hz4]
  rw [hz4] at kk5
  clear st5
  have kk6 := heap_alloc_new w5 (.map #[] 0)
  have st6 := Step.alloc (fun _ => False) w5 (.map #[] 0)
  replace kk1 := st6.keeps kk1
  replace kk2 := st6.keeps kk2
  replace kk3 := st6.keeps kk3
  replace kk4 := st6.keeps kk4
  replace kk5 := st6.keeps kk5
  replace sall := sall.then st6
  generalize hw6 : w5.alloc (.map #[] 0) = w6 at *
  have hz6 : w6.heap.size = B + 6 := by rw [← hw6]; simp [hz5]
  rw [hz5] at kk6
  clear st6
  have kk7 := heap_alloc_new w6 (.cells #[.int .u64 1] 38 (0, 0))
  have st7 := Step.alloc (fun _ => False) w6 (.cells #[.int .u64 1] 38 (0, 0))
  replace kk1 := st7.keeps kk1
  replace kk2 := st7.keeps kk2
  replace kk3 := st7.keeps kk3
  replace kk4 := st7.keeps kk4
  replace kk5 := st7.keeps kk5
  replace kk6 := st7.keeps kk6
  replace sall := sall.then st7
  generalize hw7 : w6.alloc (.cells #[.int .u64 1] 38 (0, 0)) = w7 at *
  have hz7 : w7.heap.size = B + 7 := by rw [← hw7]; simp [hz6]
  rw [hz6] at kk7
  clear st7
  have kk8 := heap_alloc_new w7 (.map #[] 0)
  have st8 := Step.alloc (fun _ => False) w7 (.map #[] 0)
  replace kk1 := st8.keeps kk1
  replace kk2 := st8.keeps kk2
  replace kk3 := st8.keeps kk3
  replace kk4 := st8.keeps kk4
  replace kk5 := st8.keeps kk5
  replace kk6 := st8.keeps kk6
  replace kk7 := st8.keeps kk7
  replace sall := sall.then st8
  generalize hw8 : w7.alloc (.map #[] 0) = w8 at *
  have hz8 : w8.heap.size = B + 8 := by rw [← hw8]; simp [hz7]
  rw [hz7] at kk8
  clear st8
  have kk9 := heap_alloc_new w8 (.cells #[.map (some (B + 2)), .map (some (B + 3)), .map (some (B + 4)), .map (some (B + 5)), .slice (some ⟨B + 6, 0, none⟩) 1 1, .int .u64 1, .map (some (B + 7)), .int .i64 4096, .int .i64 2097152, .slice pi input.length ci, .slice none 0 0, .int .i64 fuel, .int .i64 0, .int .i64 0] 71 (0, 0))
  have st9 := Step.alloc (fun _ => False) w8 (.cells #[.map (some (B + 2)), .map (some (B + 3)), .map (some (B + 4)), .map (some (B + 5)), .slice (some ⟨B + 6, 0, none⟩) 1 1, .int .u64 1, .map (some (B + 7)), .int .i64 4096, .int .i64 2097152, .slice pi input.length ci, .slice none 0 0, .int .i64 fuel, .int .i64 0, .int .i64 0] 71 (0, 0))
  replace kk1 := st9.keeps kk1
  replace kk2 := st9.keeps kk2
  replace kk3 := st9.keeps kk3
  replace kk4 := st9.keeps kk4
  replace kk5 := st9.keeps kk5
  replace kk6 := st9.keeps kk6
  replace kk7 := st9.keeps kk7
  replace kk8 := st9.keeps kk8
  replace sall := sall.then st9
  generalize hw9 : w8.alloc (.cells #[.map (some (B + 2)), .map (some (B + 3)), .map (some (B + 4)), .map (some (B + 5)), .slice (some ⟨B + 6, 0, none⟩) 1 1, .int .u64 1, .map (some (B + 7)), .int .i64 4096, .int .i64 2097152, .slice pi input.length ci, .slice none 0 0, .int .i64 fuel, .int .i64 0, .int .i64 0] 71 (0, 0)) = w9 at *
  have hz9 : w9.heap.size = B + 9 := by rw [← hw9]; simp [hz8]
  rw [hz8] at kk9
  clear st9
  have HP := Lib.hid (fw_new (input := input) (fuel := fuel) hB hz9 sall kk9 kk3 kk4 kk5 kk6 kk8 kk7 HII.out)
  have HU := Lib.hid kk1
  have HR := Lib.hid kk2
  have HS := Lib.hid sall
  clear kk1 kk2 kk3 kk4 kk5 kk6 kk7 kk8 kk9 sall
  go_enter Try.func15, Try.ntmps15
  go_upto_region 2 with fail
  clear hw1 hw2 hw3 hw4 hw5 hw6 hw7 hw8 hw9 hz1 hz2 hz3 hz4 hz5 hz6 hz7 hz8
  obtain ⟨u0, u1, _, _⟩ := cells_known2 HU.out
  have GA := Lib.hid (good_any (w0 := w) (w := w9) HTI.out HFI.out (by have := HOK.out.tops; omega) (by have := HOK.out.fns; omega) HOK.out.fnOk (fun b hb => HS.out.block b hb fun x => x) HS.out.size)
  obtain ⟨R, hR⟩ : ∃ R, R = runU ts fs input fuel := ⟨_, rfl⟩
  have HRR0 := Lib.hid hR
  have HR2 := Lib.hid hR.symm
  have HOKB := Lib.hid (show goodU ts fs = true → ∀ t ∈ ts, 0 ≤ t.2 ∧ t.2 ≤ 4194304 from fun h => topsB_size (pre := []) (by simp only [goodU, Bool.and_eq_true] at h; exact h.1.1.1))
  have HGF := Lib.hid (show goodU ts fs = true → _ from fun h => goodFn_of HOK.out h)
  have HMAIN := Lib.hid (show goodU ts fs = true → mainB fs = true from fun h => by simp only [goodU, Bool.and_eq_true] at h; exact h.2)
  clear hR
  go_wp2_with fail
  refine GA.out.mono ?_
  rintro e w10 ⟨rfl, s10⟩
  have HRR := Lib.hid (HRR0.out.trans (by unfold runU; rfl))
  have HRT := Lib.hid (show goodU ts fs = true → R = _ from fun h => HRR.out.trans (if_pos h))
  have HRF := Lib.hid (show goodU ts fs = false → R = faultR from fun h => HRR.out.trans (if_neg (by rw [h]; decide)))
  clear HRR
  generalize goodU ts fs = ok at *
  have RA := Lib.hid (show RunAt w w10 B (.slice pt ts.length ct) (.slice pf fs.length cf) 0 4096 fuel input (fun _ => none) from ⟨(HP.out.still s10).whole, s10.keeps HU.out, s10.keeps HR.out, HS.out.then s10, hB, nofun⟩)
  have u0 := (s10.cell (block_lt u0) fun x => x).trans u0
  clear u1 s10 GA HP HU HR HS
  go_wp2_with fail
  have htl : ts.length ≤ 400 := HOK.out.tops
  go_loopw [10, 27] (fun _ i wr => ∃ (k : Nat) (fr : Int) (tops : List UInt8 → Option Int), k ≤ ts.length ∧ i = .int .i64 k ∧ (ok = false → k = 0) ∧ (ok = true → topsF ts 4096 (fun _ => none) = topsF (ts.drop k) fr tops) ∧ 0 ≤ fr ∧ fr ≤ 2097152 ∧ RunAt w wr B (.slice pt ts.length ct) (.slice pf fs.length cf) k fr fuel input tops) (fun _ i _ => ts.length - (intOf i).toNat)
  case atStart => exact ⟨0, 4096, _, by omega, rfl, fun _ => rfl, fun _ => rfl, by omega, by omega, RA.out⟩
  case round =>
    clear u0 RA
    obtain ⟨k, fr, tops, hk, rfl, hk0, htf, hf0, hf9, hra⟩ := hrel
    have HK0 := Lib.hid hk0
    have HTF := Lib.hid htf
    have RA := Lib.hid hra
    clear hk0 htf hra
    by_cases hlt : k < ts.length
    · have hd : decide (k < ts.length) = true := decide_eq_true hlt
      obtain ⟨ad, rfl, hc0, hc1, hns, hwf⟩ := HTC.out k hlt
      have hc0 := (RA.out.step.cell (block_lt hc0) fun x => x).trans hc0
      have hc1 := (RA.out.step.cell (block_lt hc1) fun x => x).trans hc1
      have hc1 : wr.cell? ⟨(ad.add (k * 2)).block, (ad.add (k * 2)).off + 1, none⟩ = some (.int .i64 ts[k].2) := hc1
      have HCUT := Lib.hid (topsF_cut ts hlt fr tops)
      have HSZ := Lib.hid (fun h => HOKB.out h _ (List.getElem_mem hlt))
      generalize ts[k] = t at *
      obtain ⟨nm, sz⟩ := t
      simp only at hc0 hc1 hns hwf HCUT HSZ
      have hsz := wfi64 hwf
      clear hwf
      go_upto_region 6 with fail
      have kb := heap_alloc_new wr (.cells #[.string nm, .int .i64 sz] 59 (0, 0))
      have s1 := Step.alloc (fun _ => False) wr (.cells #[.string nm, .int .i64 sz] 59 (0, 0))
      obtain ⟨bf, bt, bm, bs, bb, vl, vi, vo, P⟩ := RA.out.mach
      have hlt8 := lt_obj P.struct
      have P1 := P.still s1
      have C1 := Lib.hid (Chg.calm (ownN B) s1)
      clear hc0 hc1 s1 P
      generalize wr.alloc (.cells #[.string nm, .int .i64 sz] 59 (0, 0)) = w1 at *
      have c7 := cell_known P1.struct (i := 7) rfl
      have z7 := free_known P1.struct 7
      have UP := Lib.hid (up_any fr hf0 (by omega) w1)
      obtain ⟨a, ha⟩ : ∃ a, (fr + 15) / 16 * 16 = a := ⟨_, rfl⟩
      rw [ha] at UP HCUT
      have ha0 : 0 ≤ a := by omega
      have ha1 : a ≤ 2097160 := by omega
      obtain ⟨P2, C2⟩ := P1.scalar 7 (.int .i64 a) (st' := st0 a fuel input) rfl rfl rfl rfl rfl rfl P1.input
      have htb : ownN B wr.heap.size = 0 := ownN_hi hlt8
      have kb2 := C2.keeps kb htb
      have HTB := Lib.hid htb
      go_wp2_with fail
      refine UP.out.mono ?_
      rintro e w' ⟨rfl, rfl⟩
      go_upto_region 7 with fail
      have CC2 := Lib.hid (C1.out.trans C2)
      clear P1 C1 C2 kb UP htb c7 z7 hlt8
      generalize w1.setCell ⟨B + 8, 7, none⟩ (.int .i64 a) = w2 at *
      generalize wr.heap.size = tb at *
      have KB2 := Lib.hid kb2
      have PP2 := Lib.hid P2
      have FX7 := Lib.hid (show ∀ y, Step (fun _ => False) w2 y → y.cell? ⟨B + 8, 1, none⟩ = some (.map (some bt)) ∧ y.cell? ⟨B + 8, 7, none⟩ = some (.int .i64 a) ∧ y.cell? ⟨tb, 0, none⟩ = some (.string nm) from fun y hy => ⟨cell_known (hy.keeps PP2.out.struct) rfl, cell_known (hy.keeps PP2.out.struct) rfl, cell_known (hy.keeps KB2.out) rfl⟩)
      clear kb2 P2 hc0 hc1
      refine wp_region_each 11 planRun7 (fun _ _ => False) (Step (fun _ => False) w2) (fun _ => True) [Is ?v7_1_0, Is ?v7_1_1, Is ?v7_1_2, Is ?v7_1_3, Is ?v7_1_4, Is ?v7_1_5, Is ?v7_1_6, Is ?v7_1_7, Is ?v7_1_8, Is ?v7_1_9, Is ?v7_1_10] [] (by kernel_rfl) (by kernel_rfl) (fun _ _ h => h.elim) ((Step.refl _ _).drew) (trivial) ?stab7_1 ?stabD7_1 ?obl7_1 ?fin7_1
      case stab7_1 => exact fun w w' h => ⟨fun k => k.trans h (fun _ x => x.elim), fun _ => trivial, ⟨fun _ k => k, fun _ k => k, fun _ k => k, fun _ k => k, fun _ k => k, fun _ k => k, fun _ k => k, fun _ k => k, fun _ k => k, fun _ k => k, fun _ k => k, trivial⟩, trivial⟩
      case stabD7_1 => exact fun _ _ h => h.elim
      case obl7_1 =>
        refine ⟨?o7_1_0, ?o7_1_1, ?o7_1_2, ?o7_1_3, ?o7_1_4, ?o7_1_5, ?o7_1_6, ?o7_1_7, ?o7_1_8, ?o7_1_9, ?o7_1_10, trivial⟩
        all_goals intro xv wq hH hS H hU aq ha Q' hQ
        case o7_1_0 => cases rd0 ha; clear H hU hS; go_wp2_with fail; (try refine hQ _ _ ?_); refine ⟨Step.refl _ _, ?_, trivial, nofun⟩; exact (rfl : _ = _)
        case o7_1_1 | o7_1_2 => have ha := rd1 ha H (by kernel_rfl) rfl; simp only [q3, q5, q6, q7] at ha; subst ha; clear H hU hS; go_wp2_with fail; (try refine hQ _ _ ?_); refine ⟨Step.refl _ _, ?_, trivial, nofun⟩; exact (rfl : _ = _)
        case o7_1_3 => obtain ⟨m1, m7, t0⟩ := FX7.out _ hH; have ha := rd1 ha H (by kernel_rfl) rfl; simp only [q3, q5, q6, q7] at ha; subst ha; clear H hU hS; go_wp2_with fail; (try refine hQ _ _ ?_); refine ⟨Step.refl _ _, ?_, trivial, nofun⟩; exact (rfl : _ = _)
        case o7_1_4 => cases rd0 ha; clear H hU hS; go_wp2_with fail; (try refine hQ _ _ ?_); refine ⟨Step.refl _ _, ?_, trivial, nofun⟩; exact (rfl : _ = _)
        case o7_1_5 => obtain ⟨m1, m7, t0⟩ := FX7.out _ hH; have ha := rd1 ha H (by kernel_rfl) rfl; simp only [q3, q5, q6, q7] at ha; subst ha; clear H hU hS; go_wp2_with fail; (try refine hQ _ _ ?_); refine ⟨Step.refl _ _, ?_, trivial, nofun⟩; exact (rfl : _ = _)
        case o7_1_6 => cases rd0 ha; clear H hU hS; go_wp2_with fail; (try refine hQ _ _ ?_); refine ⟨Step.refl _ _, ?_, trivial, nofun⟩; exact (rfl : _ = _)
        case o7_1_7 | o7_1_8 => have ha := rd1 ha H (by kernel_rfl) rfl; simp only [q3, q5, q6, q7] at ha; subst ha; clear H hU hS; go_wp2_with fail; (try refine hQ _ _ ?_); refine ⟨Step.refl _ _, ?_, trivial, nofun⟩; exact (rfl : _ = _)
        case o7_1_9 | o7_1_10 => obtain ⟨m1, m7, t0⟩ := FX7.out _ hH; have ha := rd1 ha H (by kernel_rfl) rfl; simp only [q3, q5, q6, q7] at ha; subst ha; clear H hU hS; go_wp2_with fail; (try refine hQ _ _ ?_); refine ⟨Step.refl _ _, ?_, trivial, nofun⟩; exact (rfl : _ = _)
      intro xv w3 hH hS H hU hsz hF hN
      have h0 : xv 0 = _ := H 0 (by decide) (by kernel_rfl); have h1 : xv 1 = _ := H 1 (by decide) (by kernel_rfl); have h2 : xv 2 = _ := H 2 (by decide) (by kernel_rfl); have h3 : xv 3 = _ := H 3 (by decide) (by kernel_rfl); have h4 : xv 4 = _ := H 4 (by decide) (by kernel_rfl); have h5 : xv 5 = _ := H 5 (by decide) (by kernel_rfl); have h6 : xv 6 = _ := H 6 (by decide) (by kernel_rfl); have h7 : xv 7 = _ := H 7 (by decide) (by kernel_rfl); have h8 : xv 8 = _ := H 8 (by decide) (by kernel_rfl); have h9 : xv 9 = _ := H 9 (by decide) (by kernel_rfl); have h10 : xv 10 = _ := H 10 (by decide) (by kernel_rfl)
      simp only [planRun7, q1, q2, q3, q5, q6, q7, q4, List.drop_succ_cons, List.drop_zero, h0, h1, h2, h3, h4, h5, h6, h7, h8, h9, h10]
      clear H hF hN hS hU h0 h1 h2 h3 h4 h5 h6 h7 h8 h9 h10
      obtain ⟨m1, m7, t0⟩ := FX7.out _ hH
      have hmax : k + 1 < maxLen := by simp only [maxLen]; omega
      have P3 := PP2.out.still hH
      obtain ⟨w4, run, im, gr, _⟩ := P3.tops.update (t := 66) (e := 38) Try.underlying9 Try.underlying66 hmax (s := nm) hns (.int .u64 a)
      obtain ⟨P4, C4⟩ := P3.topsNext (tops' := fun s => if s = nm.data.toList then some a else tops s) (Step.of_grown gr) (im.congr fun s => by by_cases e : s = nm.data.toList <;> simp [e])
      have CC4 := Lib.hid ((CC2.out.trans (Chg.calm _ hH)).trans C4)
      have KB4 := Lib.hid (C4.keeps (hH.keeps KB2.out) HTB.out)
      have PP4 := Lib.hid P4
      clear P3 P4 im gr C4 hH
      go_upto_region 8 with fail
      clear run m1 m7 t0
      have FX8 := Lib.hid (show ∀ y, Step (fun _ => False) w4 y → y.cell? ⟨B + 8, 7, none⟩ = some (.int .i64 a) ∧ y.cell? ⟨tb, 1, none⟩ = some (.int .i64 sz) from fun y hy => ⟨cell_known (hy.keeps PP4.out.struct) rfl, cell_known (hy.keeps KB4.out) rfl⟩)
      refine wp_region_each 6 planRun8 (fun _ _ => False) (Step (fun _ => False) w4) (fun _ => True) [Is ?v8_2_0, Is ?v8_2_1, Is ?v8_2_2, Is ?v8_2_3, Is ?v8_2_4, Is ?v8_2_5] [] (by kernel_rfl) (by kernel_rfl) (fun _ _ h => h.elim) ((Step.refl _ _).drew) (trivial) ?stab8_2 ?stabD8_2 ?obl8_2 ?fin8_2
      case stab8_2 => exact fun w w' h => ⟨fun k => k.trans h (fun _ x => x.elim), fun _ => trivial, ⟨fun _ k => k, fun _ k => k, fun _ k => k, fun _ k => k, fun _ k => k, fun _ k => k, trivial⟩, trivial⟩
      case stabD8_2 => exact fun _ _ h => h.elim
      case obl8_2 =>
        refine ⟨?o8_2_0, ?o8_2_1, ?o8_2_2, ?o8_2_3, ?o8_2_4, ?o8_2_5, trivial⟩
        all_goals intro xv wq hH hS H hU aq ha Q' hQ
        case o8_2_0 => cases rd0 ha; clear H hU hS; go_wp2_with fail; (try refine hQ _ _ ?_); refine ⟨Step.refl _ _, ?_, trivial, nofun⟩; exact (rfl : _ = _)
        case o8_2_1 | o8_2_2 => have ha := rd1 ha H (by kernel_rfl) rfl; simp only [q3, q5, q6, q7] at ha; subst ha; clear H hU hS; go_wp2_with fail; (try refine hQ _ _ ?_); refine ⟨Step.refl _ _, ?_, trivial, nofun⟩; exact (rfl : _ = _)
        case o8_2_3 => obtain ⟨m7, t1⟩ := FX8.out _ hH; have ha := rd1 ha H (by kernel_rfl) rfl; simp only [q3, q5, q6, q7] at ha; subst ha; clear H hU hS; go_wp2_with fail; (try refine hQ _ _ ?_); refine ⟨Step.refl _ _, ?_, trivial, nofun⟩; exact (rfl : _ = _)
        case o8_2_4 => cases rd0 ha; clear H hU hS; go_wp2_with fail; (try refine hQ _ _ ?_); refine ⟨Step.refl _ _, ?_, trivial, nofun⟩; exact (rfl : _ = _)
        case o8_2_5 => obtain ⟨m7, t1⟩ := FX8.out _ hH; have ha := rd1 ha H (by kernel_rfl) rfl; simp only [q3, q5, q6, q7] at ha; subst ha; clear H hU hS; go_wp2_with fail; (try refine hQ _ _ ?_); refine ⟨Step.refl _ _, ?_, trivial, nofun⟩; exact (rfl : _ = _)
      intro xv w5 hH hS H hU hsz hF hN
      have h0 : xv 0 = _ := H 0 (by decide) (by kernel_rfl); have h1 : xv 1 = _ := H 1 (by decide) (by kernel_rfl); have h2 : xv 2 = _ := H 2 (by decide) (by kernel_rfl); have h3 : xv 3 = _ := H 3 (by decide) (by kernel_rfl); have h4 : xv 4 = _ := H 4 (by decide) (by kernel_rfl); have h5 : xv 5 = _ := H 5 (by decide) (by kernel_rfl)
      simp only [planRun8, q1, q2, q3, q5, q6, q7, q4, List.drop_succ_cons, List.drop_zero, h0, h1, h2, h3, h4, h5]
      clear H hF hN hS hU h0 h1 h2 h3 h4 h5
      obtain ⟨m7, t1⟩ := FX8.out _ hH
      have P5 := PP4.out.still hH
      have z7 := free_known P5.struct 7
      obtain ⟨x, hx⟩ : ∃ x, wrap64 (a + sz) = x := ⟨_, rfl⟩
      obtain ⟨P6, C6⟩ := P5.scalar 7 (.int .i64 x) (st' := st0 x fuel input) rfl rfl rfl rfl rfl rfl P5.input
      have CC6 := Lib.hid ((CC4.out.trans (Chg.calm _ hH)).trans C6)
      have PP6 := Lib.hid P6
      clear P5 P6 C6
      go_upto_region 9 with fail
      rw [hx]
      clear m7 t1 z7 hH
      generalize w5.setCell ⟨B + 8, 7, none⟩ (.int .i64 x) = w6 at *
      have c7 : w6.cell? ⟨B + 8, 7, none⟩ = some (.int .i64 x) := cell_known PP6.out.struct (i := 7) rfl
      have hres := CC6.out.keeps RA.out.res (ownN_01 B).2
      have hunit := CC6.out.keeps RA.out.unit (ownN_01 B).1
      have r0 := cell_known hres (i := 0) rfl
      have r1 := cell_known hres (i := 1) rfl
      have r2 := cell_known hres (i := 2) rfl
      have r3 := cell_known hres (i := 3) rfl
      have r4 := cell_known hres (i := 4) rfl
      have r5 := cell_known hres (i := 5) rfl
      have y0 := free_known hres 0
      have y1 := free_known hres 1
      have y2 := free_known hres 2
      have y3 := free_known hres 3
      have y4 := free_known hres 4
      have y5 := free_known hres 5
      have HRES := Lib.hid hres
      have SW := Lib.hid (RA.out.step.trans CC6.out.step fun b hb => .inr (RA.out.mach.low b hb).1)
      clear hres hunit
      cases hok : ok with
      | false =>
        have HOKF := Lib.hid hok
        go_wp2_with fail
        have hk7 := set6_known HRES.out (.int .i64 4) (.int .u8 0) (.int .i64 0) (.slice none 0 0) (.int .i64 0) (.int .i64 0)
        have S7 := Lib.hid (set6_step SW.out (.inr (show w.heap.size ≤ B + 1 by omega)) (.int .i64 4) (.int .u8 0) (.int .i64 0) (.slice none 0 0) (.int .i64 0) (.int .i64 0))
        generalize ((((((w6).setCell ⟨B + 1, 0, none⟩ (.int .i64 4)).setCell ⟨B + 1, 1, none⟩ (.int .u8 0)).setCell ⟨B + 1, 2, none⟩ (.int .i64 0)).setCell ⟨B + 1, 3, none⟩ (.slice none 0 0)).setCell ⟨B + 1, 4, none⟩ (.int .i64 0)).setCell ⟨B + 1, 5, none⟩ (.int .i64 0) = w7 at *
        obtain ⟨q0', q1', q2', q3', q4', q5'⟩ := cells_known6 hk7
        clear hk7 r0 r1 r2 r3 r4 r5 y0 y1 y2 y3 y4 y5
        simp [bodyPost, results, Try.results15, go_sem, q0', q1', q2', q3', q4', q5']
        rw [HR2.out, HRF.out HOKF.out]
        exact fault_post S7.out
      | true =>
        obtain ⟨sz0, sz1⟩ := HSZ.out hok
        have HTF1 := Lib.hid (HTF.out hok)
        have HRT1 := Lib.hid (HRT.out hok)
        clear HTF HSZ HK0 HOKB HGF HMAIN HRT HRF
        subst hok
        have hxe : x = a + sz := by rw [← hx]; exact Go.IntWalk.wrap64_in _ ⟨by omega, by omega⟩
        subst hxe
        cases hbig : decide (2097152 < a + sz) with
        | true =>
          have hgt := of_decide_eq_true hbig
          have HNONE := Lib.hid (show topsF ts 4096 (fun _ => none) = none from by rw [HTF1.out, HCUT.out, if_neg (by omega)])
          clear hgt hx
          go_wp2_with fail
          have hk7 := set6_known HRES.out (.int .i64 4) (.int .u8 0) (.int .i64 0) (.slice none 0 0) (.int .i64 0) (.int .i64 0)
          have S7 := Lib.hid (set6_step SW.out (.inr (show w.heap.size ≤ B + 1 by omega)) (.int .i64 4) (.int .u8 0) (.int .i64 0) (.slice none 0 0) (.int .i64 0) (.int .i64 0))
          generalize ((((((w6).setCell ⟨B + 1, 0, none⟩ (.int .i64 4)).setCell ⟨B + 1, 1, none⟩ (.int .u8 0)).setCell ⟨B + 1, 2, none⟩ (.int .i64 0)).setCell ⟨B + 1, 3, none⟩ (.slice none 0 0)).setCell ⟨B + 1, 4, none⟩ (.int .i64 0)).setCell ⟨B + 1, 5, none⟩ (.int .i64 0) = w7 at *
          obtain ⟨q0', q1', q2', q3', q4', q5'⟩ := cells_known6 hk7
          clear hk7 r0 r1 r2 r3 r4 r5 y0 y1 y2 y3 y4 y5
          simp [bodyPost, results, Try.results15, go_sem, q0', q1', q2', q3', q4', q5']
          rw [HR2.out, HRT1.out, HNONE.out]
          exact fault_post S7.out
        | false =>
          have hle : a + sz ≤ 2097152 := by have := of_decide_eq_false hbig; omega
          have HNX := Lib.hid (show topsF ts 4096 (fun _ => none) = _ from HTF1.out.trans (HCUT.out.trans (if_pos hle)))
          clear hx r0 r1 r2 r3 r4 r5 y0 y1 y2 y3 y4 y5
          go_wp2_with fail
          go_roundw
          case rel =>
            have htf := HNX.out
            refine ⟨k + 1, a + sz, fun s => if s = nm.data.toList then some a else tops s, by omega, by go_num, ?_, fun _ => htf, by omega, by omega, RA.out.next CC6.out PP6.out.whole fun s y e => ?_⟩
            · nofun
            · by_cases e1 : s = nm.data.toList
              · rw [if_pos e1] at e
                cases e
                unfold is64; omega
              · rw [if_neg e1] at e
                exact RA.out.tops64 _ _ e
          case measure => simp [intOf]; omega
    · have hd : decide (k < ts.length) = false := decide_eq_false hlt
      have e : k = ts.length := by omega
      subst e
      obtain ⟨bf, bt, bm, bs, bb, vl, vi, vo, P⟩ := RA.out.mach
      have c7 : wr.cell? ⟨B + 8, 7, none⟩ = some (.int .i64 fr) := cell_known P.struct (i := 7) rfl
      have z7 := free_known P.struct 7
      have UP := Lib.hid (up_any fr hf0 (by omega) wr)
      obtain ⟨a, ha⟩ : ∃ a, (fr + 15) / 16 * 16 = a := ⟨_, rfl⟩
      have HA := Lib.hid ha
      rw [ha] at UP
      have ha0 : 0 ≤ a := by omega
      have ha1 : a ≤ 2097160 := by omega
      obtain ⟨P2, C2⟩ := P.scalar 7 (.int .i64 a) (st' := st0 a fuel input) rfl rfl rfl rfl rfl rfl P.input
      have PP2 := Lib.hid P2
      have CC2 := Lib.hid C2
      clear P P2 C2 ha hlt
      go_wp2_with fail
      refine UP.out.mono ?_
      rintro e w' ⟨rfl, rfl⟩
      go_upto_region 13 with fail
      clear UP c7 z7
      have hres := CC2.out.keeps RA.out.res (ownN_01 B).2
      have hunit := CC2.out.keeps RA.out.unit (ownN_01 B).1
      have SW := Lib.hid (RA.out.step.trans CC2.out.step fun b hb => .inr (RA.out.mach.low b hb).1)
      generalize wr.setCell ⟨B + 8, 7, none⟩ (.int .i64 a) = w6 at *
      obtain ⟨g0, g1, _, _⟩ := cells_known2 hunit
      have HRES := Lib.hid hres
      clear hres hunit
      cases hok : ok with
      | false =>
        have HOKF := Lib.hid hok
        have r0 := cell_known HRES.out (i := 0) rfl
        have r1 := cell_known HRES.out (i := 1) rfl
        have r2 := cell_known HRES.out (i := 2) rfl
        have r3 := cell_known HRES.out (i := 3) rfl
        have r4 := cell_known HRES.out (i := 4) rfl
        have r5 := cell_known HRES.out (i := 5) rfl
        have y0 := free_known HRES.out 0
        have y1 := free_known HRES.out 1
        have y2 := free_known HRES.out 2
        have y3 := free_known HRES.out 3
        have y4 := free_known HRES.out 4
        have y5 := free_known HRES.out 5
        go_wp2_with fail
        have hk7 := set6_known HRES.out (.int .i64 4) (.int .u8 0) (.int .i64 0) (.slice none 0 0) (.int .i64 0) (.int .i64 0)
        have S7 := Lib.hid (set6_step SW.out (.inr (show w.heap.size ≤ B + 1 by omega)) (.int .i64 4) (.int .u8 0) (.int .i64 0) (.slice none 0 0) (.int .i64 0) (.int .i64 0))
        generalize ((((((w6).setCell ⟨B + 1, 0, none⟩ (.int .i64 4)).setCell ⟨B + 1, 1, none⟩ (.int .u8 0)).setCell ⟨B + 1, 2, none⟩ (.int .i64 0)).setCell ⟨B + 1, 3, none⟩ (.slice none 0 0)).setCell ⟨B + 1, 4, none⟩ (.int .i64 0)).setCell ⟨B + 1, 5, none⟩ (.int .i64 0) = w7 at *
        obtain ⟨q0', q1', q2', q3', q4', q5'⟩ := cells_known6 hk7
        clear hk7 r0 r1 r2 r3 r4 r5 y0 y1 y2 y3 y4 y5
        simp [bodyPost, results, Try.results15, go_sem, q0', q1', q2', q3', q4', q5']
        rw [HR2.out, HRF.out HOKF.out]
        exact fault_post S7.out
      | true =>
        have HRT1 := Lib.hid (HRT.out hok)
        have hmb := HMAIN.out hok
        rw [mainB_eq, Bool.and_eq_true] at hmb
        obtain ⟨gm, hgm⟩ := Option.isSome_iff_exists.1 hmb.1
        have hgp : gm.params = [] := by
          have := hmb.2
          rw [getFn, hgm, beq_iff_eq] at this
          exact List.length_eq_zero_iff.1 this
        have HTOP := Lib.hid (show topsF ts 4096 (fun _ => none) = some (fr, tops) from by
          rw [HTF.out hok, List.drop_length]; rfl)
        have S0 : SInv tops (st0 a fuel input) 2 := ⟨nofun, nofun, by simp only [st0]; omega, by simp only [st0]; omega, by simp only [st0, List.length_cons, List.length_nil]; omega, ⟨by simp only [st0]; omega, .inr rfl, hfu⟩, by simp only [st0]; omega, by simp only [st0]; omega, fun b hb => wfu8 (HII.out.wf b hb), nofun, RA.out.tops64⟩
        have RUN := Lib.hid (run_any (w0 := w) (w := w6) (pw := B + 8) (own := ownN B) (tops := tops) (st := st0 a fuel input) (c := ts.length + 1) (vt := .slice pt ts.length ct) HFI.out (by have := HOK.out.fns; omega) (fun f hf => (HOK.out.fn f hf).2.2.2.2) (by omega) (HGF.out hok) hgm hgp S0 (by have := HOK.out.fns; simp only [st0]; omega) (N := fuel.toNat) (by simp only [st0]; omega) PP2.out.whole)
        clear S0 hmb
        go_wp2_with fail
        refine RUN.out.mono ?_
        rintro e w7 ⟨r, hr, rfl, own', fv, c', hch, hat⟩
        have hRR : R = ⟨(runE r).1, (runE r).2, (runS r).out, (runS r).steps, (runS r).checks⟩ := by
          rw [HRT1.out, HTOP.out, hr]
          simp only
          rw [HA.out, getFn, hgm]
          rfl
        have HQ := Lib.hid hRR
        generalize (runE r).1 = rs at *
        generalize (runE r).2 = rc at *
        generalize runS r = stt at *
        have hres7 := hch.keeps HRES.out (ownN_01 B).2
        have ho7 := hch.stays0 HRES.out (ownN_01 B).2
        have HRES7 := Lib.hid hres7
        have HO7 := Lib.hid ho7
        have SW7 := Lib.hid (SW.out.trans hch.step fun b hb => .inr (by
          have := PP2.out.whole.low b hb
          exact this.1))
        clear hRR hr hres7 ho7 hch hgm hgp g0 g1 RUN
        obtain ⟨bf, bt, bm, bs, bb, vl, vi, vo, P⟩ := hat
        obtain ⟨oa, oc, evo⟩ := P.out.slice
        subst evo
        have P8 := P.still (Step.alloc (fun _ => False) w7 (.cells #[.int .i64 rs, .int .u8 rc] 74 (0, 0)))
        have kb := heap_alloc_new w7 (.cells #[.int .i64 rs, .int .u8 rc] 74 (0, 0))
        have HRES8 := Lib.hid ((Step.alloc (fun _ => False) w7 (.cells #[.int .i64 rs, .int .u8 rc] 74 (0, 0))).keeps HRES7.out)
        have SW8 := Lib.hid (SW7.out.then (Step.alloc (fun _ => False) w7 (.cells #[.int .i64 rs, .int .u8 rc] 74 (0, 0))))
        clear P
        go_upto_region 16 with fail
        generalize w7.alloc (.cells #[.int .i64 rs, .int .u8 rc] 74 (0, 0)) = w8 at *
        generalize w7.heap.size = tb at *
        have PP8 := Lib.hid P8
        have FX := Lib.hid (show ∀ y, Step (fun _ => False) w8 y → y.cell? ⟨tb, 0, none⟩ = some (.int .i64 rs) ∧ y.cell? ⟨tb, 1, none⟩ = some (.int .u8 rc) ∧ y.cell? ⟨B + 8, 10, none⟩ = some (.slice oa stt.out.length oc) ∧ y.cell? ⟨B + 8, 12, none⟩ = some (.int .i64 stt.steps) ∧ y.cell? ⟨B + 8, 13, none⟩ = some (.int .i64 stt.checks) from fun y hy => ⟨cell_known (hy.keeps kb) rfl, cell_known (hy.keeps kb) rfl, cell_known (hy.keeps P8.struct) rfl, cell_known (hy.keeps P8.struct) rfl, cell_known (hy.keeps P8.struct) rfl⟩)
        clear kb P8
        refine wp_region_each 16 planRun16 (fun _ _ => False) (Step (fun _ => False) w8) (fun _ => True) [Is ?v16_3_0, Is ?v16_3_1, Is ?v16_3_2, Is ?v16_3_3, Is ?v16_3_4, Is ?v16_3_5, Is ?v16_3_6, Is ?v16_3_7, Is ?v16_3_8, Is ?v16_3_9, Is ?v16_3_10, Is ?v16_3_11, Is ?v16_3_12, Is ?v16_3_13, Is ?v16_3_14, Is ?v16_3_15] [] (by kernel_rfl) (by kernel_rfl) (fun _ _ h => h.elim) ((Step.refl _ _).drew) (trivial) ?stab16_3 ?stabD16_3 ?obl16_3 ?fin16_3
        case stab16_3 => exact fun w w' h => ⟨fun k => k.trans h (fun _ x => x.elim), fun _ => trivial, ⟨fun _ k => k, fun _ k => k, fun _ k => k, fun _ k => k, fun _ k => k, fun _ k => k, fun _ k => k, fun _ k => k, fun _ k => k, fun _ k => k, fun _ k => k, fun _ k => k, fun _ k => k, fun _ k => k, fun _ k => k, fun _ k => k, trivial⟩, trivial⟩
        case stabD16_3 => exact fun _ _ h => h.elim
        case obl16_3 =>
          refine ⟨?o16_3_0, ?o16_3_1, ?o16_3_2, ?o16_3_3, ?o16_3_4, ?o16_3_5, ?o16_3_6, ?o16_3_7, ?o16_3_8, ?o16_3_9, ?o16_3_10, ?o16_3_11, ?o16_3_12, ?o16_3_13, ?o16_3_14, ?o16_3_15, trivial⟩
          all_goals intro xv wq hH hS H hU aq ha Q' hQ
          case o16_3_0 => cases rd0 ha; clear H hU hS; go_wp2_with fail; (try refine hQ _ _ ?_); refine ⟨Step.refl _ _, ?_, trivial, nofun⟩; exact (rfl : _ = _)
          case o16_3_1 => obtain ⟨t0, t1, m10, m12, m13⟩ := FX.out _ hH; have ha := rd1 ha H (by kernel_rfl) rfl; simp only [q3, q5, q6, q7] at ha; subst ha; clear H hU hS; go_wp2_with fail; (try refine hQ _ _ ?_); refine ⟨Step.refl _ _, ?_, trivial, nofun⟩; exact (rfl : _ = _)
          case o16_3_2 => cases rd0 ha; clear H hU hS; go_wp2_with fail; (try refine hQ _ _ ?_); refine ⟨Step.refl _ _, ?_, trivial, nofun⟩; exact (rfl : _ = _)
          case o16_3_3 => obtain ⟨t0, t1, m10, m12, m13⟩ := FX.out _ hH; have ha := rd1 ha H (by kernel_rfl) rfl; simp only [q3, q5, q6, q7] at ha; subst ha; clear H hU hS; go_wp2_with fail; (try refine hQ _ _ ?_); refine ⟨Step.refl _ _, ?_, trivial, nofun⟩; exact (rfl : _ = _)
          case o16_3_4 => cases rd0 ha; clear H hU hS; go_wp2_with fail; (try refine hQ _ _ ?_); refine ⟨Step.refl _ _, ?_, trivial, nofun⟩; exact (rfl : _ = _)
          case o16_3_5 | o16_3_6 => have ha := rd1 ha H (by kernel_rfl) rfl; simp only [q3, q5, q6, q7] at ha; subst ha; clear H hU hS; go_wp2_with fail; (try refine hQ _ _ ?_); refine ⟨Step.refl _ _, ?_, trivial, nofun⟩; exact (rfl : _ = _)
          case o16_3_7 => obtain ⟨t0, t1, m10, m12, m13⟩ := FX.out _ hH; have ha := rd1 ha H (by kernel_rfl) rfl; simp only [q3, q5, q6, q7] at ha; subst ha; clear H hU hS; go_wp2_with fail; (try refine hQ _ _ ?_); refine ⟨Step.refl _ _, ?_, trivial, nofun⟩; exact (rfl : _ = _)
          case o16_3_8 => cases rd0 ha; clear H hU hS; go_wp2_with fail; (try refine hQ _ _ ?_); refine ⟨Step.refl _ _, ?_, trivial, nofun⟩; exact (rfl : _ = _)
          case o16_3_9 | o16_3_10 => have ha := rd1 ha H (by kernel_rfl) rfl; simp only [q3, q5, q6, q7] at ha; subst ha; clear H hU hS; go_wp2_with fail; (try refine hQ _ _ ?_); refine ⟨Step.refl _ _, ?_, trivial, nofun⟩; exact (rfl : _ = _)
          case o16_3_11 => obtain ⟨t0, t1, m10, m12, m13⟩ := FX.out _ hH; have ha := rd1 ha H (by kernel_rfl) rfl; simp only [q3, q5, q6, q7] at ha; subst ha; clear H hU hS; go_wp2_with fail; (try refine hQ _ _ ?_); refine ⟨Step.refl _ _, ?_, trivial, nofun⟩; exact (rfl : _ = _)
          case o16_3_12 => cases rd0 ha; clear H hU hS; go_wp2_with fail; (try refine hQ _ _ ?_); refine ⟨Step.refl _ _, ?_, trivial, nofun⟩; exact (rfl : _ = _)
          case o16_3_13 | o16_3_14 => have ha := rd1 ha H (by kernel_rfl) rfl; simp only [q3, q5, q6, q7] at ha; subst ha; clear H hU hS; go_wp2_with fail; (try refine hQ _ _ ?_); refine ⟨Step.refl _ _, ?_, trivial, nofun⟩; exact (rfl : _ = _)
          case o16_3_15 => obtain ⟨t0, t1, m10, m12, m13⟩ := FX.out _ hH; have ha := rd1 ha H (by kernel_rfl) rfl; simp only [q3, q5, q6, q7] at ha; subst ha; clear H hU hS; go_wp2_with fail; (try refine hQ _ _ ?_); refine ⟨Step.refl _ _, ?_, trivial, nofun⟩; exact (rfl : _ = _)
        intro xv w9 hH hS H hU hsz hF hN
        have h0 : xv 0 = _ := H 0 (by decide) (by kernel_rfl); have h1 : xv 1 = _ := H 1 (by decide) (by kernel_rfl); have h2 : xv 2 = _ := H 2 (by decide) (by kernel_rfl); have h3 : xv 3 = _ := H 3 (by decide) (by kernel_rfl); have h4 : xv 4 = _ := H 4 (by decide) (by kernel_rfl); have h5 : xv 5 = _ := H 5 (by decide) (by kernel_rfl); have h6 : xv 6 = _ := H 6 (by decide) (by kernel_rfl); have h7 : xv 7 = _ := H 7 (by decide) (by kernel_rfl); have h8 : xv 8 = _ := H 8 (by decide) (by kernel_rfl); have h9 : xv 9 = _ := H 9 (by decide) (by kernel_rfl); have h10 : xv 10 = _ := H 10 (by decide) (by kernel_rfl); have h11 : xv 11 = _ := H 11 (by decide) (by kernel_rfl); have h12 : xv 12 = _ := H 12 (by decide) (by kernel_rfl); have h13 : xv 13 = _ := H 13 (by decide) (by kernel_rfl); have h14 : xv 14 = _ := H 14 (by decide) (by kernel_rfl); have h15 : xv 15 = _ := H 15 (by decide) (by kernel_rfl)
        simp only [planRun16, q1, q2, q3, q5, q6, q7, q4, List.drop_succ_cons, List.drop_zero, h0, h1, h2, h3, h4, h5, h6, h7, h8, h9, h10, h11, h12, h13, h14, h15]
        clear H hF hN hS hU h0 h1 h2 h3 h4 h5 h6 h7 h8 h9 h10 h11 h12 h13 h14 h15
        have HRES9 := Lib.hid (hH.keeps HRES8.out)
        have r0 := cell_known HRES9.out (i := 0) rfl
        have r1 := cell_known HRES9.out (i := 1) rfl
        have r2 := cell_known HRES9.out (i := 2) rfl
        have r3 := cell_known HRES9.out (i := 3) rfl
        have r4 := cell_known HRES9.out (i := 4) rfl
        have r5 := cell_known HRES9.out (i := 5) rfl
        have y0 := free_known HRES9.out 0
        have y1 := free_known HRES9.out 1
        have y2 := free_known HRES9.out 2
        have y3 := free_known HRES9.out 3
        have y4 := free_known HRES9.out 4
        have y5 := free_known HRES9.out 5
        have SW9 := Lib.hid (SW8.out.then hH)
        have OUT9 := Lib.hid (PP8.out.still hH).out
        clear hH
        go_wp2_with fail
        have hk7 := set6_known HRES9.out (.int .i64 rs) (.int .u8 rc) (.int .i64 0) (.slice oa stt.out.length oc) (.int .i64 stt.steps) (.int .i64 stt.checks)
        have S7 := Lib.hid (set6_step SW9.out (.inr (show w.heap.size ≤ B + 1 by omega)) (.int .i64 rs) (.int .u8 rc) (.int .i64 0) (.slice oa stt.out.length oc) (.int .i64 stt.steps) (.int .i64 stt.checks))
        have S8 := Lib.hid (set6_step (Step.refl (fun b => b = B + 1) w9) (.inl rfl) (.int .i64 rs) (.int .u8 rc) (.int .i64 0) (.slice oa stt.out.length oc) (.int .i64 stt.steps) (.int .i64 stt.checks))
        generalize ((((((w9).setCell ⟨B + 1, 0, none⟩ (.int .i64 rs)).setCell ⟨B + 1, 1, none⟩ (.int .u8 rc)).setCell ⟨B + 1, 2, none⟩ (.int .i64 0)).setCell ⟨B + 1, 3, none⟩ (.slice oa stt.out.length oc)).setCell ⟨B + 1, 4, none⟩ (.int .i64 stt.steps)).setCell ⟨B + 1, 5, none⟩ (.int .i64 stt.checks) = w10 at *
        obtain ⟨q0', q1', q2', q3', q4', q5'⟩ := cells_known6 hk7
        clear hk7 r0 r1 r2 r3 r4 r5 y0 y1 y2 y3 y4 y5
        simp [bodyPost, results, Try.results15, go_sem, q0', q1', q2', q3', q4', q5']
        rw [HR2.out, HQ.out]
        refine ⟨.slice oa stt.out.length oc, rfl, ?_, S7.out⟩
        have ho := HO7.out
        exact (OUT9.out.same fun b hb hlt => S8.out.block b hlt fun e => by rw [e] at hb; omega).mono fun b hb => (PP8.out.low b (by omega)).1
end
end Go.Proofs.Ytpmbakhnamlooaa
