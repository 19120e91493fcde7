/- Package fat's machine, plain: with more fuel. -/
import Derived.Test.YtpmbakhnamlooaaRunA
namespace Go.Proofs.Ytpmbakhnamlooaa
set_option linter.unusedVariables false
set_option linter.unusedSimpArgs false
open Go.RowKit

def setB (st : FSt) (b : Int) : FSt := { st with fuel := b }
def Out.setB : Out → Int → Out
  | .go st x, b => .go (Go.Proofs.Ytpmbakhnamlooaa.setB st b) x
  | .stop st s c, b => .stop (Go.Proofs.Ytpmbakhnamlooaa.setB st b) s c
theorem ite_setB {p : Prop} [Decidable p] {x y x' y' : Out} {b : Int} (h1 : x' = x.setB b) (h2 : y' = y.setB b) : (if p then x' else y') = (if p then x else y).setB b := by
  split
  · exact h1
  · exact h2
theorem instr1_setB (tops : List UInt8 → Option Int) (fr : Frm) (st : FSt) (x : List Int) (i : FIns) (b : Int) : instr1 tops fr (setB st b) x i = (instr1 tops fr st x i).setB b := by
  obtain ⟨mem, sh, locks, keys, blocks, free, top, input, out, fuel, steps, checks⟩ := st
  unfold instr1
  repeat' (refine ite_setB ?_ ?_)
  all_goals first
    | rfl
    | (cases input <;> rfl)
theorem enterF_setB (st : FSt) (g : FFn) (args : List Int) (b : Int) : enterF (setB st b) g args = (setB (enterF st g args).1 b, (enterF st g args).2) := by
  unfold enterF
  simp only [setB]
  by_cases h1 : g.slots = []
  · rw [if_pos h1, if_pos h1]
  · rw [if_neg h1, if_neg h1]
    by_cases h2 : (placesF g.slots st.top).2.2 = true
    · simp [h2]
    · simp [h2]

theorem OutGrow_ite {p : Prop} [Decidable p] {x y : Out} {P : Out → Prop} (h1 : P x) (h2 : P y) : P (if p then x else y) := by split <;> assumption
/-- what is put out only grows -/
def OutG (st : FSt) : Out → Prop
  | .go st' _ => (∃ r, st'.out = st.out ++ r) ∧ st'.fuel = st.fuel ∧ st'.steps = st.steps
  | .stop st' s _ => (∃ r, st'.out = st.out ++ r) ∧ st'.fuel = st.fuel ∧ st'.steps = st.steps ∧ s ≠ 0
theorem instr1_out (tops : List UInt8 → Option Int) (fr : Frm) (st : FSt) (x : List Int) (i : FIns) : OutG st (instr1 tops fr st x i) := by
  unfold instr1
  repeat' (refine OutGrow_ite ?_ ?_)
  all_goals first
    | exact ⟨⟨[], (List.append_nil _).symm⟩, rfl, rfl⟩
    | exact ⟨⟨[], (List.append_nil _).symm⟩, rfl, rfl, nofun⟩
    | exact ⟨⟨_, rfl⟩, rfl, rfl⟩
    | (unfold getF; cases st.input <;> exact ⟨⟨[], (List.append_nil _).symm⟩, rfl, rfl⟩)
theorem enterF_out (st : FSt) (g : FFn) (args : List Int) : (enterF st g args).1.out = st.out ∧ (enterF st g args).1.fuel = st.fuel ∧ (enterF st g args).1.steps = st.steps := by
  unfold enterF
  simp only
  split
  · exact ⟨rfl, rfl, rfl⟩
  · split <;> exact ⟨rfl, rfl, rfl⟩
theorem loopF_grow {fns : List UInt8 → Option FFn} {tops : List UInt8 → Option Int} : ∀ (n : Nat) (f : FFn) (fr : Frm) (was : Int) (st : FSt) (x : List Int) (a : Int), ∃ r, (runS (loopF fns tops n f fr was st x a)).out = st.out ++ r
  | 0, f, fr, was, st, x, a => ⟨[], by simp [loopF, runS]⟩
  | n + 1, f, fr, was, st, x, a => by
    rw [loopF]
    split
    · split
      · exact ⟨[], by simp [runS]⟩
      · rename_i i hi
        split
        · exact ⟨[], by simp [runS]⟩
        · have key : match (if i.op = 42 then callI (loopF fns tops n) fns { st with steps := st.steps + 1 } x i else instr1 tops fr { st with steps := st.steps + 1 } x i) with
            | .go st' _ => ∃ r, st'.out = st.out ++ r
            | .stop st' _ _ => ∃ r, st'.out = st.out ++ r := by
            split
            · rename_i st' x' ho
              split at ho
              · unfold callI at ho
                split at ho
                · cases ho
                · rename_i g hg
                  simp only at ho
                  split at ho
                  · split at ho
                    · rename_i s1 v hr
                      cases ho
                      obtain ⟨r, h⟩ := loopF_grow n g (enterF { st with steps := st.steps + 1 } g (pick x i.args)).2.1 st.top (enterF { st with steps := st.steps + 1 } g (pick x i.args)).1 (enterF { st with steps := st.steps + 1 } g (pick x i.args)).2.2.1 0
                      rw [hr, (enterF_out _ _ _).1] at h
                      exact ⟨r, h⟩
                    · cases ho
                  · cases ho
              · have := instr1_out tops fr { st with steps := st.steps + 1 } x i
                rw [ho] at this
                exact this.1
            · rename_i st' s code ho
              split at ho
              · unfold callI at ho
                split at ho
                · cases ho; exact ⟨[], by simp⟩
                · rename_i g hg
                  simp only at ho
                  split at ho
                  · split at ho
                    · cases ho
                    · rename_i s1 s2 c hr
                      cases ho
                      obtain ⟨r, h⟩ := loopF_grow n g (enterF { st with steps := st.steps + 1 } g (pick x i.args)).2.1 st.top (enterF { st with steps := st.steps + 1 } g (pick x i.args)).1 (enterF { st with steps := st.steps + 1 } g (pick x i.args)).2.2.1 0
                      rw [hr, (enterF_out _ _ _).1] at h
                      exact ⟨r, h⟩
                  · cases ho
                    exact ⟨[], by rw [(enterF_out _ _ _).1]; simp⟩
              · have := instr1_out tops fr { st with steps := st.steps + 1 } x i
                rw [ho] at this
                exact this.1
          split
          · rename_i st' s code ho
            rw [ho] at key
            exact key
          · rename_i st' x' ho
            rw [ho] at key
            obtain ⟨r, h⟩ := key
            obtain ⟨r2, h2⟩ := loopF_grow n f fr was st' x' (if i.op = 18 ∨ (i.op = 19 ∧ rg x i.a ≠ 0) then i.to else a + 1)
            exact ⟨r ++ r2, by rw [h2, h, List.append_assoc]⟩
    · exact ⟨[], by simp [runS]⟩

/-- two ends, the other with more fuel -/
def Rel (b A t : Int) (r r' : Res) : Prop :=
  match r with
  | .ret s v => r' = .ret (setB s b) v ∧ s.fuel = A ∧ s.steps ≤ A ∧ t ≤ s.steps
  | .stop s c code => (c ≠ 0 → r' = .stop (setB s b) c code) ∧ (c = 0 → code = 0 ∧ s.steps = A ∧ ∃ rest, (runS r').out = s.out ++ rest)
def outO : Out → List Int
  | .go s _ => s.out
  | .stop s _ _ => s.out
/-- likewise, of an instruction -/
def RelO (b A t : Int) (o o' : Out) : Prop :=
  match o with
  | .go s x => o' = .go (setB s b) x ∧ s.fuel = A ∧ s.steps ≤ A ∧ t ≤ s.steps
  | .stop s c code => (c ≠ 0 → o' = .stop (setB s b) c code) ∧ (c = 0 → code = 0 ∧ s.steps = A ∧ ∃ rest, outO o' = s.out ++ rest)
theorem loopF_more {fns : List UInt8 → Option FFn} {tops : List UInt8 → Option Int} : ∀ (n m : Nat) (f : FFn) (fr : Frm) (was : Int) (st : FSt) (x : List Int) (a b : Int), (st.fuel - st.steps).toNat ≤ n → (b - st.steps).toNat ≤ m → st.steps ≤ st.fuel → st.fuel ≤ b →
    Rel b st.fuel st.steps (loopF fns tops n f fr was st x a) (loopF fns tops m f fr was (setB st b) x a) := by
  intro n
  induction n with
  | zero =>
    intro m f fr was st x a b hn hm hs hb
    exact ⟨fun h => absurd rfl h, fun _ => ⟨rfl, by omega, loopF_grow m f fr was (setB st b) x a⟩⟩
  | succ n ih =>
    intro m f fr was st x a b hn hm hs hb
    by_cases hlt : st.steps < st.fuel
    · obtain ⟨m, rfl⟩ : ∃ k, m = k + 1 := ⟨m - 1, by omega⟩
      rw [loopF, loopF, if_pos hlt, if_pos (show (setB st b).steps < (setB st b).fuel from by simp only [setB]; omega)]
      cases hi : f.code[a.toNat]? with
      | none => exact ⟨fun _ => rfl, fun h => by cases h⟩
      | some i =>
        simp only
        by_cases h43 : i.op = 43
        · rw [if_pos h43, if_pos h43]
          exact ⟨rfl, rfl, by simp only; omega, by simp only; omega⟩
        · rw [if_neg h43, if_neg h43]
          have hstB : ({ (setB st b) with steps := (setB st b).steps + 1 } : FSt) = setB { st with steps := st.steps + 1 } b := rfl
          rw [hstB]
          have key : RelO b st.fuel (st.steps + 1) (if i.op = 42 then callI (loopF fns tops n) fns { st with steps := st.steps + 1 } x i else instr1 tops fr { st with steps := st.steps + 1 } x i)
              (if i.op = 42 then callI (loopF fns tops m) fns (setB { st with steps := st.steps + 1 } b) x i else instr1 tops fr (setB { st with steps := st.steps + 1 } b) x i) := by
            by_cases h42 : i.op = 42
            · rw [if_pos h42, if_pos h42]
              unfold callI
              cases hg : fns i.name.data.toList with
              | none => exact ⟨fun _ => rfl, fun h => by cases h⟩
              | some g =>
                simp only
                rw [enterF_setB]
                obtain ⟨e1, e2, e3⟩ := enterF_out { st with steps := st.steps + 1 } g (pick x i.args)
                generalize enterF { st with steps := st.steps + 1 } g (pick x i.args) = e at *
                obtain ⟨s1, fr1, x1, ok⟩ := e
                simp only at e1 e2 e3 ⊢
                cases ok with
                | false => exact ⟨fun _ => rfl, fun h => by cases h⟩
                | true =>
                  simp only [if_true]
                  have R := ih m g fr1 st.top s1 x1 0 b (by omega) (by omega) (by omega) (by omega)
                  have et : (setB { st with steps := st.steps + 1 } b).top = st.top := rfl
                  rw [et]
                  cases hr : loopF fns tops n g fr1 st.top s1 x1 0 with
                  | ret s v =>
                    rw [hr] at R
                    obtain ⟨r1, r2, r3, r4⟩ := R
                    rw [r1]
                    exact ⟨rfl, by omega, by omega, by omega⟩
                  | stop s c code =>
                    rw [hr] at R
                    obtain ⟨r1, r2⟩ := R
                    refine ⟨fun h => by rw [r1 h], fun h => ?_⟩
                    obtain ⟨q1, q2, rest, q3⟩ := r2 h
                    refine ⟨q1, by omega, rest, ?_⟩
                    cases hr2 : loopF fns tops m g fr1 st.top (setB s1 b) x1 0 with
                    | ret s' v' => rw [hr2] at q3; exact q3
                    | stop s' c' d' => rw [hr2] at q3; exact q3
            · rw [if_neg h42, if_neg h42, instr1_setB]
              have G := instr1_out tops fr { st with steps := st.steps + 1 } x i
              cases ho : instr1 tops fr { st with steps := st.steps + 1 } x i with
              | go s x' =>
                rw [ho] at G
                obtain ⟨_, g2, g3⟩ := G
                exact ⟨rfl, g2, by rw [g3]; simp only; omega, by rw [g3]; exact Int.le_refl _⟩
              | stop s c code =>
                rw [ho] at G
                exact ⟨fun _ => rfl, fun h => absurd h G.2.2.2⟩
          generalize (if i.op = 42 then callI (loopF fns tops n) fns { st with steps := st.steps + 1 } x i else instr1 tops fr { st with steps := st.steps + 1 } x i) = o at *
          generalize (if i.op = 42 then callI (loopF fns tops m) fns (setB { st with steps := st.steps + 1 } b) x i else instr1 tops fr (setB { st with steps := st.steps + 1 } b) x i) = o' at *
          cases o with
          | go s x' =>
            obtain ⟨rfl, k2, k3, k4⟩ := key
            simp only
            have R := ih m f fr was s x' (if i.op = 18 ∨ (i.op = 19 ∧ rg x i.a ≠ 0) then i.to else a + 1) b (by omega) (by omega) (by omega) (by omega)
            cases hr : loopF fns tops n f fr was s x' (if i.op = 18 ∨ (i.op = 19 ∧ rg x i.a ≠ 0) then i.to else a + 1) with
            | ret s2 v =>
              rw [hr] at R
              obtain ⟨r1, r2, r3, r4⟩ := R
              exact ⟨r1, by omega, by omega, by omega⟩
            | stop s2 c code =>
              rw [hr] at R
              obtain ⟨r1, r2⟩ := R
              exact ⟨r1, fun h => by
                obtain ⟨q1, q2, q3⟩ := r2 h
                exact ⟨q1, by omega, q3⟩⟩
          | stop s c code =>
            obtain ⟨k1, k2⟩ := key
            refine ⟨fun h => by rw [k1 h], fun h => ?_⟩
            obtain ⟨q1, q2, rest, q3⟩ := k2 h
            refine ⟨q1, q2, ?_⟩
            cases o' with
            | stop s' c' d' => exact ⟨rest, q3⟩
            | go s' x' =>
              obtain ⟨r2, h2⟩ := loopF_grow (fns := fns) (tops := tops) m f fr was s' x' (if i.op = 18 ∨ (i.op = 19 ∧ rg x i.a ≠ 0) then i.to else a + 1)
              exact ⟨rest ++ r2, by
                have q3 : s'.out = s.out ++ rest := q3
                simp only
                rw [h2, q3, List.append_assoc]⟩
    · have he : st.steps = st.fuel := by omega
      rw [loopF, if_neg hlt]
      exact ⟨fun h => absurd rfl h, fun _ => ⟨rfl, he, loopF_grow m f fr was (setB st b) x a⟩⟩

/-- a unit with more fuel: what isn't Running is the same; what is put out is more -/
theorem runU_more (ts : List Tp) (fs : List FFn) (input : List Int) {a b : Int} (h0 : 0 ≤ a) (hab : a ≤ b) :
    ((runU ts fs input a).state ≠ 0 → runU ts fs input b = runU ts fs input a) ∧ ((runU ts fs input a).state = 0 → (runU ts fs input a).steps = a ∧ ∃ rest, (runU ts fs input b).out = (runU ts fs input a).out ++ rest) := by
  unfold runU
  split
  · split
    · exact ⟨fun _ => rfl, fun h => by cases h⟩
    · rename_i fr tops _
      simp only
      have hB : st0 ((fr + 15) / 16 * 16) b input = setB (st0 ((fr + 15) / 16 * 16) a input) b := rfl
      rw [hB]
      unfold callF
      simp only
      rw [enterF_setB]
      obtain ⟨e1, e2, e3⟩ := enterF_out (st0 ((fr + 15) / 16 * 16) a input) (getFn fs [109, 97, 105, 110]) []
      generalize enterF (st0 ((fr + 15) / 16 * 16) a input) (getFn fs [109, 97, 105, 110]) [] = e at *
      obtain ⟨s1, fr1, x1, ok⟩ := e
      simp only at e1 e2 e3 ⊢
      cases ok with
      | false =>
        simp only [Bool.false_eq_true, if_false]
        exact ⟨fun _ => rfl, fun h => by simp [runE] at h⟩
      | true =>
        simp only [if_true]
        have hf : s1.fuel = a := e2
        have hs : s1.steps = 0 := e3
        have R := loopF_more (fns := fnOf fs) (tops := tops) a.toNat b.toNat (getFn fs [109, 97, 105, 110]) fr1 (st0 ((fr + 15) / 16 * 16) a input).top s1 x1 0 b (by omega) (by omega) (by omega) (by omega)
        have et : (setB (st0 ((fr + 15) / 16 * 16) a input) b).top = (st0 ((fr + 15) / 16 * 16) a input).top := rfl
        rw [et]
        cases hr : loopF (fnOf fs) tops a.toNat (getFn fs [109, 97, 105, 110]) fr1 (st0 ((fr + 15) / 16 * 16) a input).top s1 x1 0 with
        | ret s v =>
          rw [hr] at R
          obtain ⟨r1, _⟩ := R
          rw [r1]
          exact ⟨fun _ => rfl, fun h => by simp [runE] at h⟩
        | stop s c code =>
          rw [hr] at R
          obtain ⟨r1, r2⟩ := R
          refine ⟨fun h => by rw [r1 h]; rfl, fun h => ?_⟩
          obtain ⟨q1, q2, q3⟩ := r2 h
          exact ⟨q2.trans hf, q3⟩
  · exact ⟨fun _ => rfl, fun h => by cases h⟩
end Go.Proofs.Ytpmbakhnamlooaa
