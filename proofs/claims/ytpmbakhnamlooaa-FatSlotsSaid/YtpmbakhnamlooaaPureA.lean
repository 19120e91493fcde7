/- Plain laws of package fat's machine: how a unit of one function runs. -/
import Derived.Test.YtpmbakhnamlooaaLawB
namespace Go.Proofs.Ytpmbakhnamlooaa
set_option linter.unusedVariables false
set_option linter.unusedSimpArgs false
open Go.RowKit

section
variable {fns : List UInt8 → Option FFn} {tops : List UInt8 → Option Int} {f : FFn} {fr : Frm} {st st' : FSt} {x x' : List Int} {i : FIns} {was : Int} {a n : Nat}
/-- neither a call nor its end, nor a jump -/
def plainB (op : Int) : Bool := !(op == 43) && !(op == 42) && !(op == 18) && !(op == 19)
theorem plainB_ne {op : Int} (h : plainB op = true) : op ≠ 43 ∧ op ≠ 42 ∧ op ≠ 18 ∧ op ≠ 19 := by
  unfold plainB at h
  simp only [Bool.and_eq_true, Bool.not_eq_true', beq_eq_false_iff_ne] at h
  exact ⟨h.1.1.1, h.1.1.2, h.1.2, h.2⟩
theorem loop_go (hs : decide (st.steps < st.fuel) = true) (hi : f.code[a]? = some i) (hp : plainB i.op = true) (h : instr1 tops fr { st with steps := st.steps + 1 } x i = .go st' x') :
    loopF fns tops (n + 1) f fr was st x (a : Nat) = loopF fns tops n f fr was st' x' ((a + 1 : Nat) : Int) := by
  have hs := of_decide_eq_true hs
  obtain ⟨h43, h42, hj, hj2⟩ := plainB_ne hp
  rw [loopF, if_pos hs, show ((a : Nat) : Int).toNat = a by omega, hi]
  simp only
  rw [if_neg h43, if_neg h42, h]
  simp only
  rw [if_neg (by omega)]
  rfl
theorem loop_stop {s code : Int} (hs : decide (st.steps < st.fuel) = true) (hi : f.code[a]? = some i) (hp : plainB i.op = true) (h : instr1 tops fr { st with steps := st.steps + 1 } x i = .stop st' s code) :
    loopF fns tops (n + 1) f fr was st x (a : Nat) = .stop st' s code := by
  have hs := of_decide_eq_true hs
  obtain ⟨h43, h42, hj, hj2⟩ := plainB_ne hp
  rw [loopF, if_pos hs, show ((a : Nat) : Int).toNat = a by omega, hi]
  simp only
  rw [if_neg h43, if_neg h42, h]
theorem loop_ret (hs : decide (st.steps < st.fuel) = true) (hi : f.code[a]? = some i) (h43 : i.op = 43) :
    loopF fns tops (n + 1) f fr was st x (a : Nat) = .ret { st with steps := st.steps + 1, locks := if 0 < fr.lock then st.locks.set fr.lock.toNat 0 else st.locks, top := was } (pick x i.args) := by
  have hs := of_decide_eq_true hs
  rw [loopF, if_pos hs, show ((a : Nat) : Int).toNat = a by omega, hi]
  simp only
  rw [if_pos h43]
end

section
variable {fns : List UInt8 → Option FFn} {tops : List UInt8 → Option Int} {f : FFn} {fr : Frm} {st : FSt} {x : List Int} {was : Int} {a n : Nat}
def tick (st : FSt) : FSt := { st with steps := st.steps + 1 }
theorem instr1_1 {i : FIns} (h : i.op = 1) : instr1 tops fr st x i = .go st (x.set i.dst.toNat i.n) := by
  unfold instr1
  rw [if_pos h]
theorem step_const {d v : Int} (hs : decide (st.steps < st.fuel) = true) (hi : f.code[a]? = some (insOf 1 d 0 0 v 0 [] [] 0)) : loopF fns tops (n + 1) f fr was st x (a : Nat) = loopF fns tops n f fr was (tick st) (x.set d.toNat v) ((a + 1 : Nat) : Int) :=
  loop_go hs hi rfl (instr1_1 rfl)
theorem instr1_34 {i : FIns} (h : i.op = 34) : instr1 tops fr st x i = if checkF st.locks (pick x i.args) i.size then .go { st with checks := st.checks + 1 } x else .stop { st with checks := st.checks + 1 } 2 0 := by
  unfold instr1
  rw [h]
  simp only [show ¬ (34 : Int) = 1 by decide, show ¬ (34 : Int) = 2 by decide, show ¬ (34 : Int) = 3 by decide, show ¬ (34 : Int) = 4 by decide, show ¬ (34 : Int) = 20 by decide, show ¬ (34 : Int) = 21 by decide, show ¬ (34 : Int) = 22 by decide, show ¬ (34 : Int) = 30 by decide, show ¬ (34 : Int) = 31 by decide, show ¬ (34 : Int) = 32 by decide, show ¬ (34 : Int) = 33 by decide, if_false, if_true]
def tickC (st : FSt) : FSt := { st with steps := st.steps + 1, checks := st.checks + 1 }
theorem step_check {args : List Int} {z : Int} (hs : decide (st.steps < st.fuel) = true) (hi : f.code[a]? = some (insOf 34 0 0 0 0 z args [] 0)) (hc : checkF st.locks (pick x args) z = true) : loopF fns tops (n + 1) f fr was st x (a : Nat) = loopF fns tops n f fr was (tickC st) x ((a + 1 : Nat) : Int) :=
  loop_go hs hi rfl ((instr1_34 rfl).trans (if_pos hc))
theorem stop_check {args : List Int} {z : Int} (hs : decide (st.steps < st.fuel) = true) (hi : f.code[a]? = some (insOf 34 0 0 0 0 z args [] 0)) (hc : checkF st.locks (pick x args) z = false) : loopF fns tops (n + 1) f fr was st x (a : Nat) = .stop (tickC st) 2 0 :=
  loop_stop hs hi rfl ((instr1_34 rfl).trans (if_neg fun h => by
    have h : checkF st.locks (pick x args) z = true := h
    rw [hc] at h; cases h))
def setAll (x : List Int) : Nat → List Int → List Int
  | _, [] => x
  | i, v :: l => setAll (x.set i v) (i + 1) l
def ticks (st : FSt) (n : Nat) : FSt := { st with steps := st.steps + n }
/-- numbers are put into registers -/
theorem run_consts : ∀ (l : List Int) (i a : Nat) (st : FSt) (x : List Int), (∀ j (hj : j < l.length), f.code[a + j]? = some (insOf 1 ((i + j : Nat) : Int) 0 0 l[j] 0 [] [] 0)) → st.steps + l.length ≤ st.fuel →
    loopF fns tops (n + l.length) f fr was st x (a : Nat) = loopF fns tops n f fr was (ticks st l.length) (setAll x i l) ((a + l.length : Nat) : Int)
  | [], i, a, st, x, _, _ => by simp [ticks, setAll]
  | v :: l, i, a, st, x, h, hs => by
    have h0 := h 0 (by simp)
    simp only [List.length_cons] at hs
    have e1 : n + (v :: l).length = (n + l.length) + 1 := by simp only [List.length_cons]; omega
    rw [e1, step_const (decide_eq_true (by omega)) (by simpa using h0)]
    have ih := run_consts l (i + 1) (a + 1) (tick st) (x.set i v) (fun j hj => by
      have := h (j + 1) (by simpa using hj)
      rw [show a + 1 + j = a + (j + 1) by omega, this, show i + 1 + j = i + (j + 1) by omega]
      rfl) (by simp only [tick]; omega)
    rw [show ((i : Nat) : Int).toNat = i by omega, ih]
    have e2 : ticks (tick st) l.length = ticks st (v :: l).length := by
      simp only [ticks, tick, List.length_cons]
      congr 1
      omega
    rw [e2, show a + 1 + l.length = a + (v :: l).length by simp only [List.length_cons]; omega]
    rfl
end

/-- a unit of one function, well formed -/
theorem goodU_alone {regs : Nat} {sl : List Int} {code : List FIns} (hsl : ∀ n ∈ sl, 1 ≤ n ∧ n ≤ 65536) (hne : code ≠ []) (hgood : ∀ i ∈ code, goodI (aloneF regs sl code) i = true) (hlast : lastOpB (aloneF regs sl code) = true) (hop : ∀ i ∈ code, i.op ≠ 42 ∧ (i.op = 30 → hasTop topsV i.name.data.toList = true)) : goodU topsV [aloneF regs sl code] = true := by
  have h1 : topsB [] topsV = true := by decide
  have hk : kindsB (aloneF regs sl code) = false := by
    unfold kindsB aloneF
    rw [List.any_eq_false]
    intro k hk
    rw [(List.mem_replicate.1 hk).2]
    simp
  have hs : slotsB (aloneF regs sl code) = false := by
    unfold slotsB aloneF
    rw [List.any_eq_false]
    intro k hk
    have := hsl k hk
    simp only [Bool.or_eq_true, decide_eq_true_eq, not_or]
    omega
  have hc : (aloneF regs sl code).code.any (fun i => !goodI (aloneF regs sl code) i) = false := by
    rw [List.any_eq_false]
    intro i hi
    rw [hgood i hi]; simp
  have hlen : ((aloneF regs sl code).code.length == 0) = false := by
    rw [beq_eq_false_iff_ne]
    intro e
    exact hne (List.length_eq_zero_iff.1 e)
  have hf : funB (aloneF regs sl code) = true := by
    unfold funB
    rw [hk, hs, hc, hlen, hlast]
    have e1 : ((aloneF regs sl code).name.data.toList == []) = false := rfl
    have e2 : listB (aloneF regs sl code).kinds.length (aloneF regs sl code).params (-1) true = true := by unfold aloneF listB; simp [onceB]
    rw [e1, e2]; rfl
  have h2 : fnsB [] [aloneF regs sl code] = true := by
    unfold fnsB okFn
    rw [hf]; rfl
  have h3 : [aloneF regs sl code].all (fun f => f.code.all (insB topsV [aloneF regs sl code])) = true := by
    rw [List.all_cons, List.all_nil, Bool.and_true, List.all_eq_true]
    intro i hi
    obtain ⟨a, b⟩ := hop i hi
    unfold insB
    have ha : (i.op == 42) = false := beq_false_of_ne a
    rw [ha]
    by_cases e : i.op = 30
    · rw [b e]; simp
    · have : (i.op == 30) = false := beq_false_of_ne e
      rw [this]; simp
  have h4 : mainB [aloneF regs sl code] = true := rfl
  unfold goodU
  rw [h1, h2, h3, h4]; rfl
/-- what a unit of one function does -/
theorem runU_alone {regs : Nat} {sl : List Int} {code : List FIns} {input : List Int} {fuel : Int} (hg : goodU topsV [aloneF regs sl code] = true) : runU topsV [aloneF regs sl code] input fuel =
    (let r := callF (fnOf [aloneF regs sl code]) (fun s => if s = [118] then some 4096 else none) fuel.toNat (st0 4128 fuel input) (aloneF regs sl code) []
     ⟨(runE r).1, (runE r).2, (runS r).out, (runS r).steps, (runS r).checks⟩) := by
  unfold runU
  rw [if_pos hg]
  have e : topsF topsV 4096 (fun _ => none) = some (4120, fun s => if s = [118] then some 4096 else none) := rfl
  rw [e]
  rfl

theorem callF_alone {fns : List UInt8 → Option FFn} {tops : List UInt8 → Option Int} {st : FSt} {n regs : Nat} {code : List FIns} : callF fns tops n st (aloneF regs [] code) [] = loopF fns tops n (aloneF regs [] code) ⟨[], [], 0, 0⟩ st.top st (List.replicate regs 0) ((0 : Nat) : Int) := by
  unfold callF enterF
  simp only [aloneF, placesF, List.length_replicate, List.length_nil, writeAcc, if_true]
  rfl
/-- FatChecks' code -/
def checksC (v0 v1 v2 v3 v4 n : Int) : List FIns := constsC 0 [v0, v1, v2, v3, v4] ++ [insOf 34 0 0 0 0 n [0, 1, 2, 3, 4] [] 0, insOf 43 0 0 0 0 0 [] [] 0]
theorem checks_good {v0 v1 v2 v3 v4 n : Int} (h1 : 1 ≤ n) (h2 : n ≤ 4194304) : goodU topsV [aloneF 5 [] (checksC v0 v1 v2 v3 v4 n)] = true := by
  refine goodU_alone (by simp) (by simp [checksC, constsC]) ?_ rfl ?_
  · intro i hi
    simp only [checksC, constsC, List.cons_append, List.nil_append, List.mem_cons, List.not_mem_nil, or_false] at hi
    rcases hi with rfl | rfl | rfl | rfl | rfl | rfl | rfl
    · rfl
    · rfl
    · rfl
    · rfl
    · rfl
    · have e : sizeB 2 n = true := by unfold sizeB; simp [h1, h2]
      unfold goodI
      simp only [insOf, formF]
      simp [e, regB, listB, onceB, aloneF, checksC, constsC]
    · rfl
  · intro i hi
    simp only [checksC, constsC, List.cons_append, List.nil_append, List.mem_cons, List.not_mem_nil, or_false] at hi
    rcases hi with rfl | rfl | rfl | rfl | rfl | rfl | rfl <;> exact ⟨by simp [insOf], by simp [insOf]⟩
theorem checks_run {v0 v1 v2 v3 v4 n : Int} (h1 : 1 ≤ n) (h2 : n ≤ 4194304) : runU topsV [aloneF 5 [] (checksC v0 v1 v2 v3 v4 n)] [] 20 = if checkF [1] [v0, v1, v2, v3, v4] n then ⟨1, 0, [], 7, 1⟩ else ⟨2, 0, [], 6, 1⟩ := by
  rw [runU_alone (checks_good h1 h2)]
  have e : callF (fnOf [aloneF 5 [] (checksC v0 v1 v2 v3 v4 n)]) (fun s => if s = [118] then some 4096 else none) (20 : Int).toNat (st0 4128 20 []) (aloneF 5 [] (checksC v0 v1 v2 v3 v4 n)) [] =
      if checkF [1] [v0, v1, v2, v3, v4] n then .ret { st0 4128 20 [] with steps := 7, checks := 1 } [] else .stop { st0 4128 20 [] with steps := 6, checks := 1 } 2 0 := by
    rw [callF_alone]
    have hst : (st0 4128 20 []).top = 2097152 := rfl
    have hr := run_consts (fns := fnOf [aloneF 5 [] (checksC v0 v1 v2 v3 v4 n)]) (tops := fun s => if s = [118] then some 4096 else none) (f := aloneF 5 [] (checksC v0 v1 v2 v3 v4 n)) (fr := ⟨[], [], 0, 0⟩) (was := (st0 4128 20 []).top) (n := 15) [v0, v1, v2, v3, v4] 0 0 (st0 4128 20 []) (List.replicate 5 0) (fun j hj => by
      have hj : j < 5 := hj
      rcases (by omega : j = 0 ∨ j = 1 ∨ j = 2 ∨ j = 3 ∨ j = 4) with rfl | rfl | rfl | rfl | rfl <;> rfl) (by simp [st0])
    refine hr.trans ?_
    have hx : setAll (List.replicate 5 0) 0 [v0, v1, v2, v3, v4] = [v0, v1, v2, v3, v4] := rfl
    have hs5 : ticks (st0 4128 20 []) ([v0, v1, v2, v3, v4] : List Int).length = { st0 4128 20 [] with steps := 5 } := rfl
    rw [hx, hs5]
    have hpk : pick [v0, v1, v2, v3, v4] [0, 1, 2, 3, 4] = [v0, v1, v2, v3, v4] := rfl
    cases hb : checkF [1] [v0, v1, v2, v3, v4] n with
    | true =>
      refine (step_check rfl rfl (by rw [hpk]; exact hb)).trans ?_
      exact loop_ret (i := insOf 43 0 0 0 0 0 [] [] 0) rfl rfl rfl
    | false => exact stop_check rfl rfl (by rw [hpk]; exact hb)
  rw [e]
  cases checkF [1] [v0, v1, v2, v3, v4] n <;> rfl
end Go.Proofs.Ytpmbakhnamlooaa
