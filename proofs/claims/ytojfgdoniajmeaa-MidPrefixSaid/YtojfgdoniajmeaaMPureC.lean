/- Package mid's machine, plain: with more fuel. -/
import Derived.Test.YtojfgdoniajmeaaMRunA
namespace Go.Proofs.Ytojfgdoniajmeaa
set_option linter.unusedVariables false
set_option linter.unusedSimpArgs false
open Go.RowKit

def setB (st : MSt) (b : Int) : MSt := { st with fuel := b }
def MOut.setB : MOut → Int → MOut
  | .go st x, b => .go (Go.Proofs.Ytojfgdoniajmeaa.setB st b) x
  | .stop st s c y, b => .stop (Go.Proofs.Ytojfgdoniajmeaa.setB st b) s c y
theorem ite_setB {p : Prop} [Decidable p] {x y x' y' : MOut} {b : Int} (h1 : x' = x.setB b) (h2 : y' = y.setB b) : (if p then x' else y') = (if p then x else y).setB b := by
  split
  · exact h1
  · exact h2
theorem clearM_setB (st : MSt) (c b : Int) : clearM (setB st b) c = setB (clearM st c) b := by
  unfold clearM
  by_cases h : goneOf st.blks c = 0
  · rw [if_pos (show goneOf (setB st b).blks c = 0 from h), if_pos h]; rfl
  · rw [if_neg (show ¬ goneOf (setB st b).blks c = 0 from h), if_neg h]
theorem endM_setB (st : MSt) (c b : Int) : endM (setB st b) c = setB (endM st c) b := by
  unfold endM
  by_cases h : goneOf st.blks c = 0
  · rw [if_pos (show goneOf (setB st b).blks c = 0 from h), if_pos h]; rfl
  · rw [if_neg (show ¬ goneOf (setB st b).blks c = 0 from h), if_neg h]
theorem endAll_setB (b : Int) : ∀ (l : List HP) (st : MSt), endAll l (setB st b) = setB (endAll l st) b
  | [], st => rfl
  | p :: l, st => by rw [endAll, endM_setB, endAll_setB b l, endAll]
theorem slotsM_setB (b : Int) : ∀ (l : List Int) (st : MSt), slotsM l (setB st b) = (setB (slotsM l st).1 b, (slotsM l st).2)
  | [], st => rfl
  | n :: l, st => by
    have h := slotsM_setB b l { st with blks := st.blks ++ [⟨n, false, true, false⟩] }
    have e : ({ (setB st b) with blks := (setB st b).blks ++ [⟨n, false, true, false⟩] } : MSt) = setB { st with blks := st.blks ++ [⟨n, false, true, false⟩] } b := rfl
    rw [slotsM, e, h]
    rfl
theorem instrM_setB (tops : List UInt8 → Option HP) (kinds : List Int) (slots : List HP) (st : MSt) (x : List HV) (i : FIns) (b : Int) : instrM tops kinds slots (setB st b) x i = (instrM tops kinds slots st x i).setB b := by
  unfold instrM
  repeat' (refine ite_setB ?_ ?_)
  all_goals first
    | rfl
    | (rw [clearM_setB]; rfl)
    | (obtain ⟨blks, at_, input, out, fuel, steps⟩ := st; cases input <;> rfl)
theorem OutGrow_ite {p : Prop} [Decidable p] {x y : MOut} {P : MOut → Prop} (h1 : P x) (h2 : P y) : P (if p then x else y) := by split <;> assumption
/-- what is put out only grows -/
def OutG (st : MSt) : MOut → Prop
  | .go st' _ => (∃ r, st'.out = st.out ++ r) ∧ st'.fuel = st.fuel ∧ st'.steps = st.steps
  | .stop st' s _ _ => (∃ r, st'.out = st.out ++ r) ∧ st'.fuel = st.fuel ∧ st'.steps = st.steps ∧ s ≠ 0
theorem clearM_out (st : MSt) (c : Int) : (clearM st c).out = st.out ∧ (clearM st c).fuel = st.fuel ∧ (clearM st c).steps = st.steps := by
  unfold clearM
  split <;> exact ⟨rfl, rfl, rfl⟩
theorem endM_out (st : MSt) (c : Int) : (endM st c).out = st.out ∧ (endM st c).fuel = st.fuel ∧ (endM st c).steps = st.steps := by
  unfold endM
  split <;> exact ⟨rfl, rfl, rfl⟩
theorem endAll_out : ∀ (l : List HP) (st : MSt), (endAll l st).out = st.out ∧ (endAll l st).fuel = st.fuel ∧ (endAll l st).steps = st.steps
  | [], st => ⟨rfl, rfl, rfl⟩
  | p :: l, st => by
    obtain ⟨a1, a2, a3⟩ := endM_out st p.block
    obtain ⟨b1, b2, b3⟩ := endAll_out l (endM st p.block)
    exact ⟨b1.trans a1, b2.trans a2, b3.trans a3⟩
theorem slotsM_out : ∀ (l : List Int) (st : MSt), (slotsM l st).1.out = st.out ∧ (slotsM l st).1.fuel = st.fuel ∧ (slotsM l st).1.steps = st.steps
  | [], st => ⟨rfl, rfl, rfl⟩
  | n :: l, st => slotsM_out l { st with blks := st.blks ++ [⟨n, false, true, false⟩] }
theorem topsM_out : ∀ (l : List Tp) (st : MSt) (m : List UInt8 → Option HP), (topsM l st m).1.out = st.out ∧ (topsM l st m).1.fuel = st.fuel ∧ (topsM l st m).1.steps = st.steps
  | [], st, m => ⟨rfl, rfl, rfl⟩
  | t :: l, st, m => topsM_out l { st with blks := st.blks ++ [⟨t.2, false, true, false⟩] } _
theorem topsM_setB (b : Int) : ∀ (l : List Tp) (st : MSt) (m : List UInt8 → Option HP), topsM l (setB st b) m = (setB (topsM l st m).1 b, (topsM l st m).2)
  | [], st, m => rfl
  | t :: l, st, m => topsM_setB b l { st with blks := st.blks ++ [⟨t.2, false, true, false⟩] } _
theorem instrM_out (tops : List UInt8 → Option HP) (kinds : List Int) (slots : List HP) (st : MSt) (x : List HV) (i : FIns) : OutG st (instrM tops kinds slots st x i) := by
  unfold instrM
  repeat' (refine OutGrow_ite ?_ ?_)
  all_goals first
    | exact ⟨⟨[], (List.append_nil _).symm⟩, rfl, rfl⟩
    | exact ⟨⟨[], (List.append_nil _).symm⟩, rfl, rfl, nofun⟩
    | exact ⟨⟨_, rfl⟩, rfl, rfl⟩
    | exact ⟨⟨[], by rw [(clearM_out _ _).1, List.append_nil]⟩, (clearM_out _ _).2.1, (clearM_out _ _).2.2⟩
    | (unfold getM; cases st.input <;> exact ⟨⟨[], (List.append_nil _).symm⟩, rfl, rfl⟩)
theorem loopM_grow {fns : List UInt8 → Option FFn} {tops : List UInt8 → Option HP} : ∀ (n : Nat) (f : FFn) (slots : List HP) (st : MSt) (x : List HV) (a : Int), ∃ r, (runS (loopM fns tops n f slots st x a)).out = st.out ++ r
  | 0, f, slots, st, x, a => ⟨[], by simp [loopM, runS]⟩
  | n + 1, f, slots, st, x, a => by
    rw [loopM]
    split
    · split
      · exact ⟨[], by simp [runS]⟩
      · rename_i i hi
        split
        · exact ⟨[], by simp only [runS, List.append_nil]; exact (endAll_out _ _).1⟩
        · have key : match (if i.op = 16 then callIM (loopM fns tops n) fns { st with steps := st.steps + 1 } x i else instrM tops f.kinds slots { st with steps := st.steps + 1 } x i) with
            | .go st' _ => ∃ r, st'.out = st.out ++ r
            | .stop st' _ _ _ => ∃ r, st'.out = st.out ++ r := by
            split
            · rename_i st' x' ho
              split at ho
              · unfold callIM at ho
                split at ho
                · cases ho
                · rename_i g hg
                  split at ho
                  · rename_i s1 v hr
                    cases ho
                    obtain ⟨r, h⟩ := loopM_grow (fns := fns) (tops := tops) n g (slotsM g.slots { st with steps := st.steps + 1 }).2 (slotsM g.slots { st with steps := st.steps + 1 }).1 (callRegs g (pickV x i.args)) 0
                    rw [hr, (slotsM_out _ _).1] at h
                    exact ⟨r, h⟩
                  · cases ho
              · have := instrM_out tops f.kinds slots { st with steps := st.steps + 1 } x i
                rw [ho] at this
                exact this.1
            · rename_i st' s code why ho
              split at ho
              · unfold callIM at ho
                split at ho
                · cases ho; exact ⟨[], by simp⟩
                · rename_i g hg
                  split at ho
                  · cases ho
                  · rename_i s1 s2 c y hr
                    cases ho
                    obtain ⟨r, h⟩ := loopM_grow (fns := fns) (tops := tops) n g (slotsM g.slots { st with steps := st.steps + 1 }).2 (slotsM g.slots { st with steps := st.steps + 1 }).1 (callRegs g (pickV x i.args)) 0
                    rw [hr, (slotsM_out _ _).1] at h
                    exact ⟨r, h⟩
              · have := instrM_out tops f.kinds slots { st with steps := st.steps + 1 } x i
                rw [ho] at this
                exact this.1
          split
          · rename_i st' s code why ho
            rw [ho] at key
            exact key
          · rename_i st' x' ho
            rw [ho] at key
            obtain ⟨r, h⟩ := key
            obtain ⟨r2, h2⟩ := loopM_grow (fns := fns) (tops := tops) n f slots st' x' (if i.op = 18 ∨ (i.op = 19 ∧ (rgV x i.a).num ≠ 0) then i.to else a + 1)
            exact ⟨r ++ r2, by rw [h2, h, List.append_assoc]⟩
    · exact ⟨[], by simp [runS]⟩

/-- two ends, the other with more fuel -/
def Rel (b A t : Int) (r r' : MRes) : Prop :=
  match r with
  | .ret s v => r' = .ret (setB s b) v ∧ s.fuel = A ∧ s.steps ≤ A ∧ t ≤ s.steps
  | .stop s c code why => (c ≠ 0 → r' = .stop (setB s b) c code why) ∧ (c = 0 → code = 0 ∧ s.steps = A ∧ ∃ rest, (runS r').out = s.out ++ rest)
def outO : MOut → List Int
  | .go s _ => s.out
  | .stop s _ _ _ => s.out
/-- likewise, of an instruction -/
def RelO (b A t : Int) (o o' : MOut) : Prop :=
  match o with
  | .go s x => o' = .go (setB s b) x ∧ s.fuel = A ∧ s.steps ≤ A ∧ t ≤ s.steps
  | .stop s c code why => (c ≠ 0 → o' = .stop (setB s b) c code why) ∧ (c = 0 → code = 0 ∧ s.steps = A ∧ ∃ rest, outO o' = s.out ++ rest)
theorem loopM_more {fns : List UInt8 → Option FFn} {tops : List UInt8 → Option HP} : ∀ (n m : Nat) (f : FFn) (slots : List HP) (st : MSt) (x : List HV) (a b : Int), (st.fuel - st.steps).toNat ≤ n → (b - st.steps).toNat ≤ m → st.steps ≤ st.fuel → st.fuel ≤ b →
    Rel b st.fuel st.steps (loopM fns tops n f slots st x a) (loopM fns tops m f slots (setB st b) x a) := by
  intro n
  induction n with
  | zero =>
    intro m f slots st x a b hn hm hs hb
    exact ⟨fun h => absurd rfl h, fun _ => ⟨rfl, by omega, loopM_grow m f slots (setB st b) x a⟩⟩
  | succ n ih =>
    intro m f slots st x a b hn hm hs hb
    by_cases hlt : st.steps < st.fuel
    · obtain ⟨m, rfl⟩ : ∃ k, m = k + 1 := ⟨m - 1, by omega⟩
      rw [loopM, loopM, if_pos hlt, if_pos (show (setB st b).steps < (setB st b).fuel from by simp only [setB]; omega)]
      cases hi : f.code[a.toNat]? with
      | none => exact ⟨fun _ => rfl, fun h => by cases h⟩
      | some i =>
        simp only
        have hstB : ({ (setB st b) with steps := (setB st b).steps + 1 } : MSt) = setB { st with steps := st.steps + 1 } b := rfl
        rw [hstB]
        by_cases h17 : i.op = 17
        · rw [if_pos h17, if_pos h17, endAll_setB]
          obtain ⟨e1, e2, e3⟩ := endAll_out slots { st with steps := st.steps + 1 }
          exact ⟨rfl, e2, by rw [e3]; simp only; omega, by rw [e3]; simp only; omega⟩
        · rw [if_neg h17, if_neg h17]
          have key : RelO b st.fuel (st.steps + 1) (if i.op = 16 then callIM (loopM fns tops n) fns { st with steps := st.steps + 1 } x i else instrM tops f.kinds slots { st with steps := st.steps + 1 } x i)
              (if i.op = 16 then callIM (loopM fns tops m) fns (setB { st with steps := st.steps + 1 } b) x i else instrM tops f.kinds slots (setB { st with steps := st.steps + 1 } b) x i) := by
            by_cases h16 : i.op = 16
            · rw [if_pos h16, if_pos h16]
              unfold callIM
              cases hg : fns i.name.data.toList with
              | none => exact ⟨fun _ => rfl, fun h => by cases h⟩
              | some g =>
                simp only
                rw [slotsM_setB]
                obtain ⟨e1, e2, e3⟩ := slotsM_out g.slots { st with steps := st.steps + 1 }
                generalize slotsM g.slots { st with steps := st.steps + 1 } = e at *
                obtain ⟨s1, sl1⟩ := e
                simp only at e1 e2 e3 ⊢
                have R := ih m g sl1 s1 (callRegs g (pickV x i.args)) 0 b (by omega) (by omega) (by omega) (by omega)
                cases hr : loopM fns tops n g sl1 s1 (callRegs g (pickV x i.args)) 0 with
                | ret s v =>
                  rw [hr] at R
                  obtain ⟨r1, r2, r3, r4⟩ := R
                  rw [r1]
                  exact ⟨rfl, by omega, by omega, by omega⟩
                | stop s c code why =>
                  rw [hr] at R
                  obtain ⟨r1, r2⟩ := R
                  refine ⟨fun h => by rw [r1 h], fun h => ?_⟩
                  obtain ⟨q1, q2, rest, q3⟩ := r2 h
                  refine ⟨q1, by omega, rest, ?_⟩
                  cases hr2 : loopM fns tops m g sl1 (setB s1 b) (callRegs g (pickV x i.args)) 0 with
                  | ret s' v' => rw [hr2] at q3; exact q3
                  | stop s' c' d' y' => rw [hr2] at q3; exact q3
            · rw [if_neg h16, if_neg h16, instrM_setB]
              have G := instrM_out tops f.kinds slots { st with steps := st.steps + 1 } x i
              cases ho : instrM tops f.kinds slots { st with steps := st.steps + 1 } x i with
              | go s x' =>
                rw [ho] at G
                obtain ⟨_, g2, g3⟩ := G
                exact ⟨rfl, g2, by rw [g3]; simp only; omega, by rw [g3]; exact Int.le_refl _⟩
              | stop s c code why =>
                rw [ho] at G
                exact ⟨fun _ => rfl, fun h => absurd h G.2.2.2⟩
          generalize (if i.op = 16 then callIM (loopM fns tops n) fns { st with steps := st.steps + 1 } x i else instrM tops f.kinds slots { st with steps := st.steps + 1 } x i) = o at *
          generalize (if i.op = 16 then callIM (loopM fns tops m) fns (setB { st with steps := st.steps + 1 } b) x i else instrM tops f.kinds slots (setB { st with steps := st.steps + 1 } b) x i) = o' at *
          cases o with
          | go s x' =>
            obtain ⟨rfl, k2, k3, k4⟩ := key
            simp only
            have R := ih m f slots s x' (if i.op = 18 ∨ (i.op = 19 ∧ (rgV x i.a).num ≠ 0) then i.to else a + 1) b (by omega) (by omega) (by omega) (by omega)
            cases hr : loopM fns tops n f slots s x' (if i.op = 18 ∨ (i.op = 19 ∧ (rgV x i.a).num ≠ 0) then i.to else a + 1) with
            | ret s2 v =>
              rw [hr] at R
              obtain ⟨r1, r2, r3, r4⟩ := R
              exact ⟨r1, by omega, by omega, by omega⟩
            | stop s2 c code why =>
              rw [hr] at R
              obtain ⟨r1, r2⟩ := R
              exact ⟨r1, fun h => by
                obtain ⟨q1, q2, q3⟩ := r2 h
                exact ⟨q1, by omega, q3⟩⟩
          | stop s c code why =>
            obtain ⟨k1, k2⟩ := key
            refine ⟨fun h => by rw [k1 h], fun h => ?_⟩
            obtain ⟨q1, q2, rest, q3⟩ := k2 h
            refine ⟨q1, q2, ?_⟩
            cases o' with
            | stop s' c' d' y' => exact ⟨rest, q3⟩
            | go s' x' =>
              obtain ⟨r2, h2⟩ := loopM_grow (fns := fns) (tops := tops) m f slots s' x' (if i.op = 18 ∨ (i.op = 19 ∧ (rgV x i.a).num ≠ 0) then i.to else a + 1)
              exact ⟨rest ++ r2, by
                have q3 : s'.out = s.out ++ rest := q3
                simp only
                rw [h2, q3, List.append_assoc]⟩
    · have he : st.steps = st.fuel := by omega
      rw [loopM, if_neg hlt]
      exact ⟨fun h => absurd rfl h, fun _ => ⟨rfl, he, loopM_grow m f slots (setB st b) x a⟩⟩

/-- a unit with more fuel: what isn't Running is the same; what is put out is more -/
theorem runUM_more (ts : List Tp) (fs : List FFn) (input : List Int) {a b : Int} (h0 : 0 ≤ a) (hab : a ≤ b) :
    ((runUM ts fs input a).state ≠ 0 → runUM ts fs input b = runUM ts fs input a) ∧ ((runUM ts fs input a).state = 0 → (runUM ts fs input a).steps = a ∧ ∃ rest, (runUM ts fs input b).out = (runUM ts fs input a).out ++ rest) := by
  unfold runUM
  split
  · simp only
    have hB : st0 b input = setB (st0 a input) b := rfl
    rw [hB, topsM_setB]
    obtain ⟨t1, t2, t3⟩ := topsM_out ts (st0 a input) (fun _ => none)
    generalize topsM ts (st0 a input) (fun _ => none) = T at *
    obtain ⟨s0, tops⟩ := T
    simp only at t1 t2 t3 ⊢
    unfold callM
    rw [slotsM_setB]
    obtain ⟨e1, e2, e3⟩ := slotsM_out (getFn fs [109, 97, 105, 110]).slots s0
    generalize slotsM (getFn fs [109, 97, 105, 110]).slots s0 = e at *
    obtain ⟨s1, sl1⟩ := e
    simp only at e1 e2 e3 ⊢
    have hf : s1.fuel = a := e2.trans t2
    have hs : s1.steps = 0 := e3.trans t3
    have R := loopM_more (fns := fnOf fs) (tops := tops) a.toNat b.toNat (getFn fs [109, 97, 105, 110]) sl1 s1 (callRegs (getFn fs [109, 97, 105, 110]) []) 0 b (by omega) (by omega) (by omega) (by omega)
    cases hr : loopM (fnOf fs) tops a.toNat (getFn fs [109, 97, 105, 110]) sl1 s1 (callRegs (getFn fs [109, 97, 105, 110]) []) 0 with
    | ret s v =>
      rw [hr] at R
      obtain ⟨r1, _⟩ := R
      rw [r1]
      exact ⟨fun _ => rfl, fun h => by simp [runE] at h⟩
    | stop s c code why =>
      rw [hr] at R
      obtain ⟨r1, r2⟩ := R
      refine ⟨fun h => by rw [r1 h]; rfl, fun h => ?_⟩
      obtain ⟨q1, q2, q3⟩ := r2 h
      exact ⟨q2.trans hf, q3⟩
  · exact ⟨fun _ => rfl, fun h => by cases h⟩
end Go.Proofs.Ytojfgdoniajmeaa
