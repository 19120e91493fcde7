/- Plain laws of package fat's machine: FatMallocs' code. -/
import Derived.Test.YtpmbakhnamlooaaPureA
namespace Go.Proofs.Ytpmbakhnamlooaa
set_option linter.unusedVariables false
set_option linter.unusedSimpArgs false
open Go.RowKit

theorem ins_20 {tops : List UInt8 → Option Int} {fr : Frm} {st : FSt} {x : List Int} {i : FIns} (h : i.op = 20) : instr1 tops fr st x i = .go { st with out := st.out ++ [rg x i.a % 256] } x := by
  unfold instr1; rw [h]; rfl
theorem ins_35 {tops : List UInt8 → Option Int} {fr : Frm} {st : FSt} {x : List Int} {i : FIns} (h : i.op = 35) : instr1 tops fr st x i = if placeF (rg x i.a) i.size then .go st (x.set i.dst.toNat (loadF st.mem (rg x i.a) i.size)) else .stop st 4 0 := by
  unfold instr1; rw [h]; rfl
theorem ins_36 {tops : List UInt8 → Option Int} {fr : Frm} {st : FSt} {x : List Int} {i : FIns} (h : i.op = 36) : instr1 tops fr st x i = if placeF (rg x i.a) i.size then .go { st with mem := storeAcc st.mem (rg x i.a) (rg x i.b) i.size.toNat } x else .stop st 4 0 := by
  unfold instr1; rw [h]; rfl
theorem ins_40 {tops : List UInt8 → Option Int} {fr : Frm} {st : FSt} {x : List Int} {i : FIns} (h : i.op = 40) : instr1 tops fr st x i = if roomF st (rg x i.a) then .go (mallocF st (rg x i.a)) (writeAcc x i.outs (mallocV st (rg x i.a)) i.outs.length) else .stop st 3 0 := by
  unfold instr1; rw [h]; rfl
theorem ins_41 {tops : List UInt8 → Option Int} {fr : Frm} {st : FSt} {x : List Int} {i : FIns} (h : i.op = 41) : instr1 tops fr st x i = if freeF st.locks st.blocks (pick x i.args) then .go { st with blocks := fun y => if y = (pick x i.args).getD 1 0 then none else st.blocks y, locks := st.locks.set ((pick x i.args).getD 4 0).toNat 0 } x else .stop st 2 0 := by
  unfold instr1; rw [h]; rfl

def regsL (i : Nat) : List Int := [((5 * i + 1 : Nat) : Int), ((5 * i + 2 : Nat) : Int), ((5 * i + 3 : Nat) : Int), ((5 * i + 4 : Nat) : Int), ((5 * i + 5 : Nat) : Int)]
def mk1 (i : Nat) (n : Int) : List FIns := [insOf 1 0 0 0 (n + 1) 0 [] [] 0, insOf 40 0 0 0 0 0 [] (regsL i) 0, insOf 1 0 0 0 ((i : Int) + 7) 0 [] [] 0, insOf 36 0 ((5 * i + 1 : Nat) : Int) 0 0 1 [] [] 0]
def mks : Nat → List Int → List FIns
  | _, [] => []
  | i, n :: l => mk1 i n ++ mks (i + 1) l
def ask1 (k i : Nat) (n : Int) : List FIns := if i = k then [] else [insOf 34 0 0 0 0 (n + 1) (regsL i) [] 0, insOf 35 0 ((5 * i + 1 : Nat) : Int) 0 0 1 [] [] 0, insOf 20 0 0 0 0 0 [] [] 0]
def asks (k : Nat) : Nat → List Int → List FIns
  | _, [] => []
  | i, n :: l => ask1 k i n ++ asks k (i + 1) l
def mallocsC (zs : List Int) (k : Nat) : List FIns := mks 0 zs ++ [insOf 41 0 0 0 0 0 (regsL k) [] 0] ++ asks k 0 zs ++ [insOf 34 0 0 0 0 1 (regsL k) [] 0, insOf 43 0 0 0 0 0 [] [] 0]
theorem mks_snoc : ∀ (l : List Int) (i : Nat) (n : Int), mks i (l ++ [n]) = mks i l ++ mk1 (i + l.length) n
  | [], i, n => by simp [mks]
  | x :: l, i, n => by rw [List.cons_append, mks, mks, mks_snoc l, List.append_assoc, List.length_cons, show i + 1 + l.length = i + (l.length + 1) by omega]
theorem asks_snoc (k : Nat) : ∀ (l : List Int) (i : Nat) (n : Int), asks k i (l ++ [n]) = asks k i l ++ ask1 k (i + l.length) n
  | [], i, n => by simp [asks]
  | x :: l, i, n => by rw [List.cons_append, asks, asks, asks_snoc k l, List.append_assoc, List.length_cons, show i + 1 + l.length = i + (l.length + 1) by omega]
theorem mks_len : ∀ (l : List Int) (i : Nat), (mks i l).length = 4 * l.length
  | [], _ => rfl
  | x :: l, i => by rw [mks, List.length_append, mks_len l, List.length_cons]; simp [mk1]; omega
theorem ask1_le (k i : Nat) (n : Int) : (ask1 k i n).length ≤ 3 := by unfold ask1; split <;> simp
theorem asks_le (k : Nat) : ∀ (l : List Int) (i : Nat), (asks k i l).length ≤ 3 * l.length
  | [], _ => Nat.le_refl _
  | x :: l, i => by rw [asks, List.length_append, List.length_cons]; have := asks_le k l (i + 1); have := ask1_le k i x; omega
/-- where an instruction of mks stands -/
theorem mks_mem : ∀ (l : List Int) (i : Nat) (x : FIns), x ∈ mks i l → ∃ j n, i ≤ j ∧ j < i + l.length ∧ n ∈ l ∧ x ∈ mk1 j n
  | [], _, x, h => by cases h
  | n :: l, i, x, h => by
    rw [mks] at h
    rcases List.mem_append.1 h with h | h
    · exact ⟨i, n, Nat.le_refl _, by simp, by simp, h⟩
    · obtain ⟨j, m, h1, h2, h3, h4⟩ := mks_mem l (i + 1) x h
      exact ⟨j, m, by omega, by simp only [List.length_cons]; omega, by simp [h3], h4⟩
theorem asks_mem (k : Nat) : ∀ (l : List Int) (i : Nat) (x : FIns), x ∈ asks k i l → ∃ j n, i ≤ j ∧ j < i + l.length ∧ n ∈ l ∧ x ∈ ask1 k j n
  | [], _, x, h => by cases h
  | n :: l, i, x, h => by
    rw [asks] at h
    rcases List.mem_append.1 h with h | h
    · exact ⟨i, n, Nat.le_refl _, by simp, by simp, h⟩
    · obtain ⟨j, m, h1, h2, h3, h4⟩ := asks_mem k l (i + 1) x h
      exact ⟨j, m, by omega, by simp only [List.length_cons]; omega, by simp [h3], h4⟩
/-- a machine goes on: n steps -/
def Goes (fns : List UInt8 → Option FFn) (tops : List UInt8 → Option Int) (f : FFn) (fr : Frm) (was : Int) (n : Nat) (st : FSt) (x : List Int) (a : Nat) (st' : FSt) (x' : List Int) (a' : Nat) : Prop :=
  ∀ m, loopF fns tops (m + n) f fr was st x (a : Nat) = loopF fns tops m f fr was st' x' (a' : Nat)
section
variable {fns : List UInt8 → Option FFn} {tops : List UInt8 → Option Int} {f : FFn} {fr : Frm} {was : Int} {n n' : Nat} {st st' st'' : FSt} {x x' x'' : List Int} {a a' a'' : Nat} {i : FIns}
theorem Goes.none : Goes fns tops f fr was 0 st x a st x a := fun _ => rfl
theorem Goes.trans (h : Goes fns tops f fr was n st x a st' x' a') (h' : Goes fns tops f fr was n' st' x' a' st'' x'' a'') : Goes fns tops f fr was (n' + n) st x a st'' x'' a'' := fun m => by
  rw [← Nat.add_assoc, h, h']
theorem goes1 (hs : st.steps < st.fuel) (hi : f.code[a]? = some i) (hp : plainB i.op = true) (h : instr1 tops fr (tick st) x i = .go st' x') : Goes fns tops f fr was 1 st x a st' x' (a + 1) := fun _ => loop_go (decide_eq_true hs) hi hp h
end
/-- where the i-th block begins -/
def aOf (zs : List Int) : Nat → Int
  | 0 => 4128
  | i + 1 => (aOf zs i + max (zs.getD i 0 + 1) 16 + 15) / 16 * 16
section
variable {zs : List Int}
def Small (zs : List Int) : Prop := zs.length ≤ 12 ∧ ∀ j, 0 ≤ zs.getD j 0 ∧ zs.getD j 0 ≤ 255
theorem aOf_step (h : Small zs) (i : Nat) : aOf zs i + (zs.getD i 0 + 1) ≤ aOf zs (i + 1) ∧ aOf zs i + 16 ≤ aOf zs (i + 1) ∧ aOf zs (i + 1) ≤ aOf zs i + 272 := by
  have := h.2 i
  rw [aOf]
  omega
theorem aOf_bd (h : Small zs) : ∀ i : Nat, 4128 ≤ aOf zs i ∧ aOf zs i ≤ 4128 + 272 * i
  | 0 => by simp [aOf]
  | i + 1 => by have := aOf_bd h i; have := aOf_step h i; omega
theorem aOf_lt (h : Small zs) {j : Nat} : ∀ {i : Nat}, j < i → aOf zs j < aOf zs i
  | 0, hj => absurd hj (Nat.not_lt_zero _)
  | i + 1, hj => by
    have := aOf_step h i
    by_cases e : j = i
    · subst e; omega
    · have := aOf_lt h (j := j) (i := i) (by omega); omega
theorem aOf_ne (h : Small zs) {j i : Nat} (hn : j ≠ i) : aOf zs j ≠ aOf zs i := by
  by_cases e : j < i
  · have := aOf_lt h e; omega
  · have := aOf_lt h (show i < j by omega); omega

/-- what five registers have -/
def R5 (x : List Int) (i : Nat) (v : List Int) : Prop := pick x (regsL i) = v
theorem pick5 (x : List Int) (i : Nat) : pick x (regsL i) = [x.getD (5 * i + 1) 0, x.getD (5 * i + 2) 0, x.getD (5 * i + 3) 0, x.getD (5 * i + 4) 0, x.getD (5 * i + 5) 0] := rfl
theorem getD_set_ne {l : List Int} {i j : Nat} {v : Int} (h : i ≠ j) : (l.set i v).getD j 0 = l.getD j 0 := by
  rw [List.getD_eq_getElem?_getD, List.getElem?_set_ne h, List.getD_eq_getElem?_getD]
theorem getD_set_eq {l : List Int} {i : Nat} {v : Int} (h : i < l.length) : (l.set i v).getD i 0 = v := by
  rw [List.getD_eq_getElem?_getD, List.getElem?_set_self h]; rfl
theorem write5 (x : List Int) (i : Nat) (v0 v1 v2 v3 v4 : Int) : writeAcc x (regsL i) [v0, v1, v2, v3, v4] 5 = ((((x.set (5 * i + 1) v0).set (5 * i + 2) v1).set (5 * i + 3) v2).set (5 * i + 4) v3).set (5 * i + 5) v4 := rfl
theorem R5.set0 {x : List Int} {i : Nat} {v : List Int} (h : R5 x i v) (y : Int) : R5 (x.set 0 y) i v := by
  unfold R5 at h ⊢
  rw [← h, pick5, pick5, getD_set_ne (by omega), getD_set_ne (by omega), getD_set_ne (by omega), getD_set_ne (by omega), getD_set_ne (by omega)]
theorem R5.write_ne {x : List Int} {i j : Nat} {v : List Int} (h : R5 x j v) (hn : j ≠ i) (v0 v1 v2 v3 v4 : Int) : R5 (writeAcc x (regsL i) [v0, v1, v2, v3, v4] 5) j v := by
  unfold R5 at h ⊢
  rw [← h, write5, pick5, pick5]
  have g : ∀ d, 1 ≤ d → d ≤ 5 → (((((x.set (5 * i + 1) v0).set (5 * i + 2) v1).set (5 * i + 3) v2).set (5 * i + 4) v3).set (5 * i + 5) v4).getD (5 * j + d) 0 = x.getD (5 * j + d) 0 := fun d h1 h2 => by
    rw [getD_set_ne (by omega), getD_set_ne (by omega), getD_set_ne (by omega), getD_set_ne (by omega), getD_set_ne (by omega)]
  rw [g 1 (by omega) (by omega), g 2 (by omega) (by omega), g 3 (by omega) (by omega), g 4 (by omega) (by omega), g 5 (by omega) (by omega)]
theorem R5.write_eq {x : List Int} {i : Nat} (hl : 5 * i + 5 < x.length) (v0 v1 v2 v3 v4 : Int) : R5 (writeAcc x (regsL i) [v0, v1, v2, v3, v4] 5) i [v0, v1, v2, v3, v4] := by
  unfold R5
  rw [write5, pick5]
  have g1 : (((((x.set (5 * i + 1) v0).set (5 * i + 2) v1).set (5 * i + 3) v2).set (5 * i + 4) v3).set (5 * i + 5) v4).getD (5 * i + 1) 0 = v0 := by
    rw [getD_set_ne (by omega), getD_set_ne (by omega), getD_set_ne (by omega), getD_set_ne (by omega), getD_set_eq (by omega)]
  have g2 : (((((x.set (5 * i + 1) v0).set (5 * i + 2) v1).set (5 * i + 3) v2).set (5 * i + 4) v3).set (5 * i + 5) v4).getD (5 * i + 2) 0 = v1 := by
    rw [getD_set_ne (by omega), getD_set_ne (by omega), getD_set_ne (by omega), getD_set_eq (by simp only [List.length_set]; omega)]
  have g3 : (((((x.set (5 * i + 1) v0).set (5 * i + 2) v1).set (5 * i + 3) v2).set (5 * i + 4) v3).set (5 * i + 5) v4).getD (5 * i + 3) 0 = v2 := by
    rw [getD_set_ne (by omega), getD_set_ne (by omega), getD_set_eq (by simp only [List.length_set]; omega)]
  have g4 : (((((x.set (5 * i + 1) v0).set (5 * i + 2) v1).set (5 * i + 3) v2).set (5 * i + 4) v3).set (5 * i + 5) v4).getD (5 * i + 4) 0 = v3 := by
    rw [getD_set_ne (by omega), getD_set_eq (by simp only [List.length_set]; omega)]
  have g5 : (((((x.set (5 * i + 1) v0).set (5 * i + 2) v1).set (5 * i + 3) v2).set (5 * i + 4) v3).set (5 * i + 5) v4).getD (5 * i + 5) 0 = v4 := by
    rw [getD_set_eq (by simp only [List.length_set]; omega)]
  rw [g1, g2, g3, g4, g5]

def locksN (i : Nat) : List Int := (List.range (i + 1)).map fun (j : Nat) => (j : Int) + 1
theorem locksN_succ (i : Nat) : locksN (i + 1) = locksN i ++ [((i : Int) + 1) + 1] := by
  unfold locksN
  rw [List.range_succ, List.map_append]
  simp
theorem locksN_len (i : Nat) : (locksN i).length = i + 1 := by simp [locksN]
theorem locksN_get {i j : Nat} (h : j ≤ i) : (locksN i).getD j 0 = (j : Int) + 1 := by
  unfold locksN
  rw [List.getD_eq_getElem?_getD, List.getElem?_map, List.getElem?_range (by omega)]; rfl
/-- the values of the i-th block -/
def blkV (zs : List Int) (j : Nat) : List Int := [aOf zs j, aOf zs j, aOf zs j + (zs.getD j 0 + 1), ((j : Int) + 1) + 1, ((j + 1 : Nat) : Int)]
/-- behind i blocks -/
structure MInv (zs : List Int) (i : Nat) (st : FSt) (x : List Int) : Prop where
  steps : st.steps = 4 * i
  fuel : st.fuel = 1000
  checks : st.checks = 0
  out : st.out = []
  len : x.length = 5 * zs.length + 1
  free : st.free = aOf zs i
  keys : st.keys = i + 1
  locks : st.locks = locksN i
  regs : ∀ j, j < i → R5 x j (blkV zs j)
  mem : ∀ j, j < i → st.mem (aOf zs j) = some ((j : Int) + 7)
  blocks : ∀ j, j < i → st.blocks (aOf zs j) = some (aOf zs j + (zs.getD j 0 + 1), ((j + 1 : Nat) : Int))
variable {fns : List UInt8 → Option FFn} {tops : List UInt8 → Option Int} {f : FFn} {fr : Frm} {was : Int} {st : FSt} {x : List Int}
theorem mk_step {i a : Nat} (hz : Small zs) (hi : i < zs.length) (h : MInv zs i st x) (hc : ∀ j, j < 4 → f.code[a + j]? = (mk1 i (zs.getD i 0))[j]?) : ∃ st' x', Goes fns tops f fr was 4 st x a st' x' (a + 4) ∧ MInv zs (i + 1) st' x' := by
  obtain ⟨h1, h2, h3, h4, h5, h6, h7, h8, h9, h10, h11⟩ := h
  have hb := aOf_bd hz i
  have hs := aOf_step hz i
  have hzi := hz.2 i
  have hl := hz.1
  obtain ⟨A, hA⟩ : ∃ A, aOf zs i = A := ⟨_, rfl⟩
  have c0 : f.code[a]? = some (insOf 1 0 0 0 (zs.getD i 0 + 1) 0 [] [] 0) := (hc 0 (by omega)).trans rfl
  have c1 : f.code[a + 1]? = some (insOf 40 0 0 0 0 0 [] (regsL i) 0) := (hc 1 (by omega)).trans rfl
  have c2 : f.code[a + 1 + 1]? = some (insOf 1 0 0 0 ((i : Int) + 7) 0 [] [] 0) := (hc 2 (by omega)).trans rfl
  have c3 : f.code[a + 1 + 1 + 1]? = some (insOf 36 0 ((5 * i + 1 : Nat) : Int) 0 0 1 [] [] 0) := (hc 3 (by omega)).trans rfl
  obtain ⟨z, hzz⟩ : ∃ z, z = zs.getD i 0 := ⟨_, rfl⟩
  rw [← hzz] at c0 hs hzi
  have r0 : rg (x.set 0 (z + 1)) 0 = z + 1 := getD_set_eq (by omega)
  have hroom : roomF (tick (tick st)) (rg (x.set 0 (z + 1)) 0) = true := by
    rw [r0]
    have hfr : (tick (tick st)).free = aOf zs i := h6
    unfold roomF
    rw [hfr]
    simp only [Bool.and_eq_true, decide_eq_true_eq]
    omega
  have e0 : Goes fns tops f fr was 1 st x a (tick st) (x.set 0 (z + 1)) (a + 1) := goes1 (by omega) c0 rfl (instr1_1 rfl)
  have e1 : Goes fns tops f fr was 1 (tick st) (x.set 0 (z + 1)) (a + 1) (mallocF (tick (tick st)) (z + 1)) (writeAcc (x.set 0 (z + 1)) (regsL i) (mallocV (tick (tick st)) (z + 1)) 5) (a + 1 + 1) :=
    goes1 (by simp only [tick]; omega) c1 rfl ((ins_40 rfl).trans ((if_pos hroom).trans (by rw [show rg (x.set 0 (z + 1)) (insOf 40 0 0 0 0 0 [] (regsL i) 0).a = z + 1 from r0]; rfl)))
  obtain ⟨st2, hst2⟩ : ∃ st2, mallocF (tick (tick st)) (z + 1) = st2 := ⟨_, rfl⟩
  have hv : mallocV (tick (tick st)) (z + 1) = [A, A, A + (z + 1), ((i : Int) + 1) + 1, ((i + 1 : Nat) : Int)] := by
    unfold mallocV
    simp only [tick]
    rw [h6, h7, h8, locksN_len, hA]
  rw [hv, hst2] at e1
  obtain ⟨x2, hx2⟩ : ∃ x2, writeAcc (x.set 0 (z + 1)) (regsL i) [A, A, A + (z + 1), ((i : Int) + 1) + 1, ((i + 1 : Nat) : Int)] 5 = x2 := ⟨_, rfl⟩
  have hx2l : x2.length = 5 * zs.length + 1 := by rw [← hx2, writeAcc_length, List.length_set, h5]
  have hx2i : R5 x2 i [A, A, A + (z + 1), ((i : Int) + 1) + 1, ((i + 1 : Nat) : Int)] := by rw [← hx2]; exact R5.write_eq (by rw [List.length_set]; omega) _ _ _ _ _
  have hx2j : ∀ j, j < i → R5 x2 j (blkV zs j) := fun j hj => by rw [← hx2]; exact ((h9 j hj).set0 _).write_ne (by omega) _ _ _ _ _
  rw [hx2] at e1
  have s2 : st2.steps = st.steps + 1 + 1 ∧ st2.fuel = st.fuel ∧ st2.checks = st.checks ∧ st2.out = st.out ∧ st2.mem = st.mem ∧ st2.keys = st.keys + 1 ∧ st2.locks = st.locks ++ [st.keys + 1] ∧ st2.free = (st.free + max (z + 1) 16 + 15) / 16 * 16 ∧ st2.blocks = fun y => if y = st.free then some (st.free + (z + 1), (st.locks.length : Int)) else st.blocks y := by
    rw [← hst2]; exact ⟨rfl, rfl, rfl, rfl, rfl, rfl, rfl, rfl, rfl⟩
  obtain ⟨t1, t2, t3, t4, t5, t6, t7, t8, t9⟩ := s2
  clear hst2 hx2 hv hroom
  have e2 : Goes fns tops f fr was 1 st2 x2 (a + 1 + 1) (tick st2) (x2.set 0 ((i : Int) + 7)) (a + 1 + 1 + 1) := goes1 (by omega) c2 rfl (instr1_1 rfl)
  have ra : rg (x2.set 0 ((i : Int) + 7)) ((5 * i + 1 : Nat) : Int) = A := by
    have h := hx2i.set0 ((i : Int) + 7)
    unfold R5 at h
    rw [pick5] at h
    simp only [List.cons.injEq] at h
    exact h.1
  have rb : rg (x2.set 0 ((i : Int) + 7)) 0 = (i : Int) + 7 := getD_set_eq (by omega)
  have hp : placeF (rg (x2.set 0 ((i : Int) + 7)) ((5 * i + 1 : Nat) : Int)) 1 = true := by
    rw [ra]
    unfold placeF
    simp only [Bool.and_eq_true, beq_iff_eq, decide_eq_true_eq]
    omega
  have e3 : Goes fns tops f fr was 1 (tick st2) (x2.set 0 ((i : Int) + 7)) (a + 1 + 1 + 1) { (tick (tick st2)) with mem := storeAcc st2.mem A ((i : Int) + 7) 1 } (x2.set 0 ((i : Int) + 7)) (a + 1 + 1 + 1 + 1) :=
    goes1 (by simp only [tick]; omega) c3 rfl ((ins_36 rfl).trans ((if_pos hp).trans (by rw [show rg (x2.set 0 ((i : Int) + 7)) (insOf 36 0 ((5 * i + 1 : Nat) : Int) 0 0 1 [] [] 0).a = A from ra, show rg (x2.set 0 ((i : Int) + 7)) (insOf 36 0 ((5 * i + 1 : Nat) : Int) 0 0 1 [] [] 0).b = (i : Int) + 7 from rb]; rfl)))
  subst hzz
  subst hA
  refine ⟨_, _, ((e0.trans e1).trans e2).trans e3, ⟨?_, ?_, ?_, ?_, ?_, ?_, ?_, ?_, ?_, ?_, ?_⟩⟩
  · simp only [tick]; omega
  · simp only [tick]; omega
  · simp only [tick]; omega
  · simp only [tick]; rw [t4, h4]
  · rw [List.length_set, hx2l]
  · simp only [tick]; rw [t8, h6]; rfl
  · simp only [tick]; omega
  · simp only [tick]; rw [t7, h8, h7, locksN_succ]
  · intro j hj
    by_cases e : j = i
    · subst e; exact hx2i.set0 _
    · exact (hx2j j (by omega)).set0 _
  · intro j hj
    simp only [tick, storeAcc]
    by_cases e : j = i
    · subst e
      rw [if_pos (by omega)]
      congr 1
      simp
      omega
    · have := aOf_ne hz e
      rw [if_neg (by omega), t5]
      exact h10 j (by omega)
  · intro j hj
    simp only [tick]
    rw [t9]
    by_cases e : j = i
    · subst e
      simp only
      rw [h6, if_pos rfl, h8, locksN_len]
    · have := aOf_ne hz e
      simp only
      rw [h6, if_neg (by omega)]
      exact h11 j (by omega)

/-- all blocks are made -/
theorem mks_run {a : Nat} (hz : Small zs) (hc : ∀ j, j < 4 * zs.length → f.code[a + j]? = (mks 0 zs)[j]?) (hx : MInv zs 0 st x) : ∀ i, i ≤ zs.length → ∃ st' x', Goes fns tops f fr was (4 * i) st x a st' x' (a + 4 * i) ∧ MInv zs i st' x'
  | 0, _ => ⟨st, x, Goes.none, hx⟩
  | i + 1, hi => by
    obtain ⟨s1, x1, g1, h1⟩ := mks_run hz hc hx i (by omega)
    obtain ⟨s2, x2, g2, h2⟩ := mk_step (fns := fns) (tops := tops) (f := f) (fr := fr) (was := was) (a := a + 4 * i) hz (by omega) h1 (fun j hj => by
      rw [Nat.add_assoc, hc (4 * i + j) (by omega)]
      have e : zs = zs.take i ++ (zs.getD i 0 :: zs.drop (i + 1)) := by
        rw [List.getD_eq_getElem?_getD, List.getElem?_eq_getElem (by omega)]
        simp
      have hm : ∀ (l r : List Int) (n : Int), (mks 0 (l ++ n :: r))[4 * l.length + j]? = (mk1 l.length n)[j]? := fun l r n => by
        have ap : ∀ (l : List Int) (k : Nat), mks k (l ++ n :: r) = mks k l ++ (mk1 (k + l.length) n ++ mks (k + l.length + 1) r) := by
          intro l
          induction l with
          | nil => intro k; simp [mks]
          | cons y l ih => intro k; rw [List.cons_append, mks, ih, mks, List.append_assoc, List.length_cons, show k + 1 + l.length = k + (l.length + 1) by omega]
        rw [ap, Nat.zero_add, List.getElem?_append_right (by rw [mks_len]; omega), mks_len, show 4 * l.length + j - 4 * l.length = j by omega, List.getElem?_append_left (by simpa [mk1] using hj)]
      have hl : (zs.take i).length = i := by rw [List.length_take]; omega
      have := hm (zs.take i) (zs.drop (i + 1)) (zs.getD i 0)
      rw [← e, hl] at this
      exact this)
    exact ⟨s2, x2, by have := g1.trans g2; rw [show 4 * (i + 1) = 4 + 4 * i by omega, show a + (4 + 4 * i) = a + 4 * i + 4 by omega]; exact this, h2⟩
/-- what is put out behind i of them -/
def outK (k : Nat) : Nat → List Int
  | 0 => []
  | i + 1 => if i = k then outK k i else outK k i ++ [(i : Int) + 7]
theorem outK_len (k : Nat) : ∀ i, (outK k i).length = if k < i then i - 1 else i
  | 0 => by simp [outK]
  | i + 1 => by
    rw [outK]
    have := outK_len k i
    by_cases e : i = k
    · subst e
      rw [if_pos rfl, this]
      rw [if_neg (by omega), if_pos (by omega)]
      omega
    · rw [if_neg e, List.length_append, this]
      by_cases h : k < i
      · rw [if_pos h, if_pos (by omega)]; simp; omega
      · rw [if_neg h, if_neg (by omega)]; simp
theorem outK_get (k : Nat) : ∀ (i j : Nat), j < (outK k i).length → (outK k i).getD j 0 = if j < k then (j : Int) + 7 else (j : Int) + 8
  | 0, j, h => by simp [outK] at h
  | i + 1, j, h => by
    have ih := outK_get k i j
    have hl := outK_len k i
    rw [outK] at h ⊢
    by_cases e : i = k
    · rw [if_pos e] at h ⊢; exact ih h
    · rw [if_neg e] at h ⊢
      by_cases hj : j < (outK k i).length
      · rw [List.getD_eq_getElem?_getD, List.getElem?_append_left hj, ← List.getD_eq_getElem?_getD]; exact ih hj
      · have ej : j = (outK k i).length := by simp at h; omega
        rw [List.getD_eq_getElem?_getD, List.getElem?_append_right (by omega), ej, Nat.sub_self]
        rw [← ej]
        simp only [List.getElem?_cons_zero, Option.getD_some]
        by_cases h2 : k < i
        · rw [if_pos h2] at hl; rw [if_neg (by omega)]; omega
        · rw [if_neg h2] at hl; rw [if_pos (by omega)]; omega
/-- behind the checks of i blocks -/
structure AInv (zs : List Int) (k i : Nat) (st : FSt) (x : List Int) (s : Int) : Prop where
  steps : st.steps = s
  fuel : st.fuel = 1000
  checks : st.checks = (outK k i).length
  out : st.out = outK k i
  len : x.length = 5 * zs.length + 1
  locks : st.locks = (locksN zs.length).set (k + 1) 0
  regs : ∀ j, j < zs.length → R5 x j (blkV zs j)
  mem : ∀ j, j < zs.length → st.mem (aOf zs j) = some ((j : Int) + 7)
theorem held_yes {k j m : Nat} (hj : j < m) (hk : j ≠ k) : heldF ((locksN m).set (k + 1) 0) ((j + 1 : Nat) : Int) (((j : Int) + 1) + 1) = true := by
  unfold heldF
  have h1 : ((((j : Int) + 1) + 1) == 0) = false := beq_false_of_ne (by omega)
  have h2 : decide (((j + 1 : Nat) : Int) < (((locksN m).set (k + 1) 0).length : Nat)) = true := decide_eq_true (by rw [List.length_set, locksN_len]; omega)
  have h3 : ((locksN m).set (k + 1) 0).getD ((j + 1 : Nat) : Int).toNat 0 = ((j : Int) + 1) + 1 := by
    rw [show ((j + 1 : Nat) : Int).toNat = j + 1 by omega, getD_set_ne (by omega), locksN_get (by omega)]; omega
  rw [h1, h2, h3]; simp
theorem held_no {k m : Nat} (hj : k < m) : heldF ((locksN m).set (k + 1) 0) ((k + 1 : Nat) : Int) (((k : Int) + 1) + 1) = false := by
  unfold heldF
  have h3 : ((locksN m).set (k + 1) 0).getD ((k + 1 : Nat) : Int).toNat 0 = 0 := by
    rw [show ((k + 1 : Nat) : Int).toNat = k + 1 by omega, getD_set_eq (by rw [locksN_len]; omega)]
  have h1 : ((0 : Int) == (((k : Int) + 1) + 1)) = false := beq_false_of_ne (by omega)
  rw [h3, h1]; simp
theorem held_was {j m : Nat} (hj : j < m) : heldF (locksN m) ((j + 1 : Nat) : Int) (((j : Int) + 1) + 1) = true := by
  unfold heldF
  have h1 : ((((j : Int) + 1) + 1) == 0) = false := beq_false_of_ne (by omega)
  have h2 : decide (((j + 1 : Nat) : Int) < ((locksN m).length : Nat)) = true := decide_eq_true (by rw [locksN_len]; omega)
  have h3 : (locksN m).getD ((j + 1 : Nat) : Int).toNat 0 = ((j : Int) + 1) + 1 := by
    rw [show ((j + 1 : Nat) : Int).toNat = j + 1 by omega, locksN_get (by omega)]; omega
  rw [h1, h2, h3]; simp
/-- a block is freed -/
theorem free_step {k a : Nat} (hk : k < zs.length) (hl : zs.length ≤ 12) (h : MInv zs zs.length st x) (hc : f.code[a]? = some (insOf 41 0 0 0 0 0 (regsL k) [] 0)) : ∃ st' x', Goes fns tops f fr was 1 st x a st' x' (a + 1) ∧ AInv zs k 0 st' x' (4 * zs.length + 1) := by
  obtain ⟨h1, h2, h3, h4, h5, h6, h7, h8, h9, h10, h11⟩ := h
  have hp : pick x (regsL k) = blkV zs k := h9 k hk
  have hf : freeF (tick st).locks (tick st).blocks (pick x (regsL k)) = true := by
    rw [hp]
    unfold freeF
    simp only [tick, blkV, List.getD_cons_zero, List.getD_cons_succ]
    rw [h8, held_was hk, h11 k hk]
    simp
  refine ⟨_, _, goes1 (by omega) hc rfl ((ins_41 rfl).trans (if_pos hf)), ⟨?_, ?_, ?_, ?_, ?_, ?_, ?_, ?_⟩⟩
  · simp only [tick]; omega
  · exact h2
  · simp only [tick]; rw [h3]; rfl
  · simp only [tick]; rw [h4]; rfl
  · exact h5
  · simp only [tick]
    rw [show pick x (insOf 41 0 0 0 0 0 (regsL k) [] 0).args = blkV zs k from hp, h8]
    simp only [blkV, List.getD_cons_zero, List.getD_cons_succ]
    rw [show ((k + 1 : Nat) : Int).toNat = k + 1 by omega]
  · exact h9
  · exact h10
theorem load_small {mem : Int → Option Int} {A : Int} {j : Nat} (h : mem A = some ((j : Int) + 7)) (hj : j < 12) : loadF mem A 1 = (j : Int) + 7 := by
  unfold loadF
  have e : loadAcc mem A (1 : Int).toNat = bits .or .u64 0 (IntKind.u64.wrap (((j : Int) + 7) * 2 ^ 0)) := by
    show bits .or .u64 0 (IntKind.u64.wrap (byteAt mem (A + (0 : Nat)) * 2 ^ (8 * 0))) = _
    unfold byteAt
    rw [show A + ((0 : Nat) : Int) = A by omega, h]
    rfl
  rw [e]
  rcases (by omega : j = 0 ∨ j = 1 ∨ j = 2 ∨ j = 3 ∨ j = 4 ∨ j = 5 ∨ j = 6 ∨ j = 7 ∨ j = 8 ∨ j = 9 ∨ j = 10 ∨ j = 11) with rfl | rfl | rfl | rfl | rfl | rfl | rfl | rfl | rfl | rfl | rfl | rfl <;> decide +kernel
theorem ask_step {k i a : Nat} {s : Int} (hz : Small zs) (hi : i < zs.length) (h : AInv zs k i st x s) (hs : s ≤ 900) (hc : ∀ j, j < (ask1 k i (zs.getD i 0)).length → f.code[a + j]? = (ask1 k i (zs.getD i 0))[j]?) : ∃ st' x', Goes fns tops f fr was (ask1 k i (zs.getD i 0)).length st x a st' x' (a + (ask1 k i (zs.getD i 0)).length) ∧ AInv zs k (i + 1) st' x' (s + (ask1 k i (zs.getD i 0)).length) := by
  obtain ⟨h1, h2, h3, h4, h5, h8, h9, h10⟩ := h
  have hb := aOf_bd hz i
  have hzi := hz.2 i
  have hl := hz.1
  have em : ((i : Int) + 7) % 256 = (i : Int) + 7 := Int.emod_eq_of_lt (by omega) (by omega)
  by_cases e : i = k
  · have e0 : ask1 k i (zs.getD i 0) = [] := if_pos e
    rw [e0]
    refine ⟨st, x, Goes.none, ⟨by rw [h1]; simp, h2, ?_, ?_, h5, h8, h9, h10⟩⟩
    · rw [h3, outK, if_pos e]
    · rw [h4, outK, if_pos e]
  · have e0 : ask1 k i (zs.getD i 0) = [insOf 34 0 0 0 0 (zs.getD i 0 + 1) (regsL i) [] 0, insOf 35 0 ((5 * i + 1 : Nat) : Int) 0 0 1 [] [] 0, insOf 20 0 0 0 0 0 [] [] 0] := if_neg e
    rw [e0] at hc ⊢
    have hp := h9 i hi
    unfold R5 at hp
    have hm := h10 i hi
    have c0 : f.code[a]? = some (insOf 34 0 0 0 0 (zs.getD i 0 + 1) (regsL i) [] 0) := (hc 0 (by simp)).trans rfl
    have c1 : f.code[a + 1]? = some (insOf 35 0 ((5 * i + 1 : Nat) : Int) 0 0 1 [] [] 0) := (hc 1 (by simp)).trans rfl
    have c2 : f.code[a + 1 + 1]? = some (insOf 20 0 0 0 0 0 [] [] 0) := (hc 2 (by simp)).trans rfl
    unfold blkV at hp
    generalize zs.getD i 0 = z at *
    generalize aOf zs i = A at *
    have ra : rg x ((5 * i + 1 : Nat) : Int) = A := by
      have h := hp
      rw [pick5] at h
      simp only [List.cons.injEq] at h
      exact h.1
    have hck : checkF (tick st).locks (pick x (regsL i)) (z + 1) = true := by
      rw [hp]
      unfold checkF
      simp only [tick, List.getD_cons_zero, List.getD_cons_succ]
      rw [h8, held_yes hi e]
      simp only [Bool.true_and, Bool.and_eq_true, decide_eq_true_eq]
      omega
    have g0 : Goes fns tops f fr was 1 st x a { (tick st) with checks := (tick st).checks + 1 } x (a + 1) := goes1 (by omega) c0 rfl ((instr1_34 rfl).trans (if_pos hck))
    have hpl : placeF (rg x ((5 * i + 1 : Nat) : Int)) 1 = true := by
      rw [ra]
      unfold placeF
      simp only [Bool.and_eq_true, beq_iff_eq, decide_eq_true_eq]
      omega
    have hld : loadF st.mem (rg x ((5 * i + 1 : Nat) : Int)) 1 = (i : Int) + 7 := by rw [ra]; exact load_small hm (by omega)
    obtain ⟨st1, hst1⟩ : ∃ s1, ({ (tick st) with checks := (tick st).checks + 1 } : FSt) = s1 := ⟨_, rfl⟩
    have q : st1.steps = st.steps + 1 ∧ st1.fuel = st.fuel ∧ st1.mem = st.mem ∧ st1.locks = st.locks ∧ st1.out = st.out ∧ st1.checks = st.checks + 1 := by rw [← hst1]; exact ⟨rfl, rfl, rfl, rfl, rfl, rfl⟩
    obtain ⟨q1, q2, q3, q4, q5, q6⟩ := q
    rw [hst1] at g0
    clear hst1
    have g1 : Goes fns tops f fr was 1 st1 x (a + 1) (tick st1) (x.set 0 ((i : Int) + 7)) (a + 1 + 1) := goes1 (by omega) c1 rfl ((ins_35 rfl).trans ((if_pos hpl).trans (by
      have : loadF (tick st1).mem (rg x (insOf 35 0 ((5 * i + 1 : Nat) : Int) 0 0 1 [] [] 0).a) (insOf 35 0 ((5 * i + 1 : Nat) : Int) 0 0 1 [] [] 0).size = (i : Int) + 7 := by
        show loadF st1.mem (rg x ((5 * i + 1 : Nat) : Int)) 1 = _
        rw [q3]; exact hld
      rw [this]; rfl)))
    have rb : rg (x.set 0 ((i : Int) + 7)) 0 = (i : Int) + 7 := getD_set_eq (by omega)
    have q20 : instr1 tops fr (tick (tick st1)) (x.set 0 ((i : Int) + 7)) (insOf 20 0 0 0 0 0 [] [] 0) = .go { (tick (tick st1)) with out := st1.out ++ [(i : Int) + 7] } (x.set 0 ((i : Int) + 7)) := by
      have e : rg (x.set 0 ((i : Int) + 7)) (insOf 20 0 0 0 0 0 [] [] 0).a % 256 = (i : Int) + 7 := by
        rw [show rg (x.set 0 ((i : Int) + 7)) (insOf 20 0 0 0 0 0 [] [] 0).a = (i : Int) + 7 from rb]; exact em
      rw [ins_20 rfl, e]
      rfl
    have g2 : Goes fns tops f fr was 1 (tick st1) (x.set 0 ((i : Int) + 7)) (a + 1 + 1) { (tick (tick st1)) with out := st1.out ++ [(i : Int) + 7] } (x.set 0 ((i : Int) + 7)) (a + 1 + 1 + 1) := goes1 (by simp only [tick]; omega) c2 rfl q20
    refine ⟨_, _, (g0.trans g1).trans g2, ⟨?_, ?_, ?_, ?_, ?_, ?_, ?_, ?_⟩⟩
    · simp only [tick, List.length_cons, List.length_nil]; omega
    · simp only [tick]; omega
    · simp only [tick]; rw [q6, h3, outK, if_neg e, List.length_append]; rfl
    · simp only [tick]; rw [q5, h4, outK, if_neg e]
    · rw [List.length_set, h5]
    · simp only [tick]; rw [q4, h8]
    · intro j hj; exact (h9 j hj).set0 _
    · intro j hj; simp only [tick]; rw [q3]; exact h10 j hj
def askLen (k : Nat) : Nat → Nat
  | 0 => 0
  | i + 1 => askLen k i + if i = k then 0 else 3
theorem askLen_le (k : Nat) : ∀ i, askLen k i ≤ 3 * i
  | 0 => Nat.le_refl _
  | i + 1 => by have := askLen_le k i; rw [askLen]; split <;> omega
theorem ask1_len (k i : Nat) (n : Int) : (ask1 k i n).length = if i = k then 0 else 3 := by unfold ask1; split <;> rfl
theorem asks_len (k : Nat) : ∀ l : List Int, (asks k 0 l).length = askLen k l.length := by
  intro l
  obtain ⟨r, rfl⟩ : ∃ r : List Int, l = r.reverse := ⟨l.reverse, by simp⟩
  induction r with
  | nil => rfl
  | cons x r ih => rw [List.reverse_cons, asks_snoc, List.length_append, ih, ask1_len, List.length_append, List.length_cons, List.length_nil, Nat.zero_add, askLen]
theorem asks_run {k a : Nat} {s : Int} (hz : Small zs) (hs : s ≤ 500) (hc : ∀ j, j < (asks k 0 zs).length → f.code[a + j]? = (asks k 0 zs)[j]?) (hx : AInv zs k 0 st x s) : ∀ i, i ≤ zs.length → ∃ st' x', Goes fns tops f fr was (askLen k i) st x a st' x' (a + askLen k i) ∧ AInv zs k i st' x' (s + askLen k i)
  | 0, _ => ⟨st, x, Goes.none, by simpa [askLen] using hx⟩
  | i + 1, hi => by
    obtain ⟨s1, x1, g1, h1⟩ := asks_run hz hs hc hx i (by omega)
    have hle := askLen_le k i
    have hzl := hz.1
    obtain ⟨s2, x2, g2, h2⟩ := ask_step (fns := fns) (tops := tops) (f := f) (fr := fr) (was := was) (a := a + askLen k i) hz (by omega) h1 (by omega) (fun j hj => by
      have e : zs = zs.take i ++ (zs.getD i 0 :: zs.drop (i + 1)) := by
        rw [List.getD_eq_getElem?_getD, List.getElem?_eq_getElem (by omega)]
        simp
      have ap : ∀ (n : Int) (r l : List Int) (m : Nat), asks k m (l ++ n :: r) = asks k m l ++ (ask1 k (m + l.length) n ++ asks k (m + l.length + 1) r) := by
        intro n r l
        induction l with
        | nil => intro m; simp [asks]
        | cons y l ih => intro m; rw [List.cons_append, asks, ih, asks, List.append_assoc, List.length_cons, show m + 1 + l.length = m + (l.length + 1) by omega]
      have hl : (zs.take i).length = i := by rw [List.length_take]; omega
      have hap := ap (zs.getD i 0) (zs.drop (i + 1)) (zs.take i) 0
      rw [← e, hl, Nat.zero_add] at hap
      have hlen : (asks k 0 (zs.take i)).length = askLen k i := by rw [asks_len, hl]
      have hin : askLen k i + j < (asks k 0 zs).length := by rw [hap, List.length_append, List.length_append, hlen]; omega
      rw [Nat.add_assoc, hc _ hin, hap, List.getElem?_append_right (by omega), hlen, show askLen k i + j - askLen k i = j by omega, List.getElem?_append_left hj])
    rw [ask1_len] at g2 h2
    refine ⟨s2, x2, ?_, ?_⟩
    · have := g1.trans g2
      rw [askLen, Nat.add_comm (askLen k i), show a + ((if i = k then 0 else 3) + askLen k i) = a + askLen k i + (if i = k then 0 else 3) by omega]
      exact this
    · rw [askLen, show (s + ((askLen k i + if i = k then 0 else 3 : Nat) : Int)) = s + (askLen k i : Int) + ((if i = k then 0 else 3 : Nat) : Int) by push_cast; omega]
      exact h2
end
theorem mallocs_mem {zs : List Int} {k : Nat} {i : FIns} (h : i ∈ mallocsC zs k) : i ∈ mks 0 zs ∨ i = insOf 41 0 0 0 0 0 (regsL k) [] 0 ∨ i ∈ asks k 0 zs ∨ i = insOf 34 0 0 0 0 1 (regsL k) [] 0 ∨ i = insOf 43 0 0 0 0 0 [] [] 0 := by
  unfold mallocsC at h
  simp only [List.mem_append, List.mem_cons, List.not_mem_nil, or_false] at h
  rcases h with ((h | h) | h) | h | h
  · exact .inl h
  · exact .inr (.inl h)
  · exact .inr (.inr (.inl h))
  · exact .inr (.inr (.inr (.inl h)))
  · exact .inr (.inr (.inr (.inr h)))
theorem goodI_mk {f : FFn} {i : FIns} {m : Form} {k : Nat} {c : Nat} (hk : f.kinds.length = k) (hcl : f.code.length = c) (hm : formF i.op = some m) (h1 : regB k i.dst m.dst = true) (h2 : regB k i.a m.a = true) (h3 : regB k i.b m.b = true) (h4 : listB k i.args m.args false = true) (h5 : listB k i.outs m.outs true = true) (h6 : sizeB m.size i.size = true)
    (h7 : (m.n || i.n == 0) = true) (h8 : (m.name == !(i.name.data.toList == [])) = true) (h9 : decide (0 ≤ i.to) = true) (h10 : decide (i.to < c) = true) (h11 : (m.far || i.to == 0) = true) (h12 : (if i.op = 3 then decide (1 ≤ i.n) && decide (i.n ≤ 27) else if i.op = 31 ∨ i.op = 39 then decide (i.n < f.slots.length) else true) = true) : goodI f i = true := by
  unfold goodI
  rw [hm]
  simp only
  rw [hk, hcl, h1, h2, h3, h4, h5, h6, h7, h8, h9, h10, h11, h12]
  rfl
theorem mallocs_good {zs : List Int} {k : Nat} (hz : Small zs) (hk : k < zs.length) : goodU topsV [aloneF (5 * zs.length + 1) [] (mallocsC zs k)] = true := by
  have hl := hz.1
  have hmem : ∀ n ∈ zs, 0 ≤ n ∧ n ≤ 255 := fun n hn => by
    obtain ⟨j, hj, rfl⟩ := List.mem_iff_getElem.1 hn
    have := hz.2 j
    rw [List.getD_eq_getElem?_getD, List.getElem?_eq_getElem hj] at this
    exact this
  have hlen : 0 < (mallocsC zs k).length := by unfold mallocsC; simp only [List.length_append, List.length_cons, List.length_nil]; omega
  have r1 : ∀ (m : Nat), m ≤ 5 * zs.length → regB (5 * zs.length + 1) (m : Int) true = true := fun m hm => by
    unfold regB
    simp only [if_true, Bool.and_eq_true, decide_eq_true_eq]
    omega
  have r5 : ∀ j, j < zs.length → ∀ o, listB (5 * zs.length + 1) (regsL j) 5 o = true := fun j hj o => by
    have o5 : onceB (regsL j) = true := by
      have ne : ∀ (p q : Nat), p ≠ q → (((5 * j + p : Nat) : Int) == ((5 * j + q : Nat) : Int)) = false := fun p q h => beq_false_of_ne (by omega)
      simp only [regsL, onceB, List.contains_cons, List.contains_nil, ne 1 2 (by omega), ne 1 3 (by omega), ne 1 4 (by omega), ne 1 5 (by omega), ne 2 3 (by omega), ne 2 4 (by omega), ne 2 5 (by omega), ne 3 4 (by omega), ne 3 5 (by omega), ne 4 5 (by omega)]
      rfl
    unfold listB
    rw [o5]
    simp only [regsL, List.all_cons, List.all_nil, r1 _ (show 5 * j + 1 ≤ 5 * zs.length by omega), r1 _ (show 5 * j + 2 ≤ 5 * zs.length by omega), r1 _ (show 5 * j + 3 ≤ 5 * zs.length by omega), r1 _ (show 5 * j + 4 ≤ 5 * zs.length by omega), r1 _ (show 5 * j + 5 ≤ 5 * zs.length by omega)]
    simp
  have l0 : ∀ o, listB (5 * zs.length + 1) [] 0 o = true := fun o => by unfold listB; simp [onceB]
  have ln : ∀ o, listB (5 * zs.length + 1) [] (-1) o = true := fun o => by unfold listB; simp [onceB]
  have hto : decide ((0 : Int) < (mallocsC zs k).length) = true := decide_eq_true (by omega)
  have hkl : (aloneF (5 * zs.length + 1) [] (mallocsC zs k)).kinds.length = 5 * zs.length + 1 := by simp [aloneF]
  have hcl : (aloneF (5 * zs.length + 1) [] (mallocsC zs k)).code.length = (mallocsC zs k).length := rfl
  have z0 : regB (5 * zs.length + 1) 0 true = true := by have := r1 0 (by omega); simpa using this
  have f0 : regB (5 * zs.length + 1) 0 false = true := rfl
  refine goodU_alone (by simp) (by intro e; rw [e] at hlen; simp at hlen) ?_ ?_ ?_
  · intro i hi
    rcases mallocs_mem hi with hi | rfl | hi | rfl | rfl
    · obtain ⟨j, n, _, hj, hn, hm⟩ := mks_mem zs 0 i hi
      rw [Nat.zero_add] at hj
      simp only [mk1, List.mem_cons, List.not_mem_nil, or_false] at hm
      rcases hm with rfl | rfl | rfl | rfl
      · exact goodI_mk hkl hcl rfl z0 f0 f0 (l0 _) (l0 _) rfl rfl rfl rfl hto rfl rfl
      · exact goodI_mk hkl hcl rfl f0 z0 f0 (l0 _) (r5 j hj _) rfl rfl rfl rfl hto rfl rfl
      · exact goodI_mk hkl hcl rfl z0 f0 f0 (l0 _) (l0 _) rfl rfl rfl rfl hto rfl rfl
      · exact goodI_mk hkl hcl rfl f0 (r1 _ (by omega)) z0 (l0 _) (l0 _) rfl rfl rfl rfl hto rfl rfl
    · exact goodI_mk hkl hcl rfl f0 f0 f0 (r5 k hk _) (l0 _) rfl rfl rfl rfl hto rfl rfl
    · obtain ⟨j, n, _, hj, hn, hm⟩ := asks_mem k zs 0 i hi
      rw [Nat.zero_add] at hj
      have hn := hmem n hn
      unfold ask1 at hm
      split at hm
      · cases hm
      · simp only [List.mem_cons, List.not_mem_nil, or_false] at hm
        rcases hm with rfl | rfl | rfl
        · have e : sizeB 2 (n + 1) = true := by unfold sizeB; simp; omega
          exact goodI_mk hkl hcl rfl f0 f0 f0 (r5 j hj _) (l0 _) e rfl rfl rfl hto rfl rfl
        · exact goodI_mk hkl hcl rfl z0 (r1 _ (by omega)) f0 (l0 _) (l0 _) rfl rfl rfl rfl hto rfl rfl
        · exact goodI_mk hkl hcl rfl f0 z0 f0 (l0 _) (l0 _) rfl rfl rfl rfl hto rfl rfl
    · exact goodI_mk hkl hcl rfl f0 f0 f0 (r5 k hk _) (l0 _) rfl rfl rfl rfl hto rfl rfl
    · exact goodI_mk hkl hcl rfl f0 f0 f0 (ln _) (l0 _) rfl rfl rfl rfl hto rfl rfl
  · unfold lastOpB
    rw [show (aloneF (5 * zs.length + 1) [] (mallocsC zs k)).code = mallocsC zs k from rfl]
    unfold mallocsC
    rw [List.getLast?_append]
    rfl
  · intro i hi
    rcases mallocs_mem hi with hi | rfl | hi | rfl | rfl
    · obtain ⟨j, n, _, hj, hn, hm⟩ := mks_mem zs 0 i hi
      simp only [mk1, List.mem_cons, List.not_mem_nil, or_false] at hm
      rcases hm with rfl | rfl | rfl | rfl <;> exact ⟨by simp [insOf], by simp [insOf]⟩
    · exact ⟨by simp [insOf], by simp [insOf]⟩
    · obtain ⟨j, n, _, hj, hn, hm⟩ := asks_mem k zs 0 i hi
      unfold ask1 at hm
      split at hm
      · cases hm
      · simp only [List.mem_cons, List.not_mem_nil, or_false] at hm
        rcases hm with rfl | rfl | rfl <;> exact ⟨by simp [insOf], by simp [insOf]⟩
    · exact ⟨by simp [insOf], by simp [insOf]⟩
    · exact ⟨by simp [insOf], by simp [insOf]⟩
theorem mallocs_ok {zs : List Int} {k : Nat} (hz : Small zs) : (mallocsC zs k).all insOkB = true := by
  have hl := hz.1
  have hmem : ∀ n ∈ zs, 0 ≤ n ∧ n ≤ 255 := fun n hn => by
    obtain ⟨j, hj, rfl⟩ := List.mem_iff_getElem.1 hn
    have := hz.2 j
    rw [List.getD_eq_getElem?_getD, List.getElem?_eq_getElem hj] at this
    exact this
  have mk : ∀ (i : FIns) (h1 : i.name.size ≤ 100) (h2 : 0 ≤ i.n) (h3 : i.n < 18446744073709551616) (h4 : i.args.length ≤ 1000) (h5 : i.outs.length ≤ 1000) (h6 : 0 ≤ i.op) (h7 : i.op ≤ 100), insOkB i = true := fun i h1 h2 h3 h4 h5 h6 h7 => by
    unfold insOkB
    simp only [Bool.and_eq_true, decide_eq_true_eq]
    exact ⟨⟨⟨⟨⟨⟨h1, h2⟩, h3⟩, h4⟩, h5⟩, h6⟩, h7⟩
  have s0 : (⟨#[]⟩ : ByteArray).size ≤ 100 := by decide
  rw [List.all_eq_true]
  intro i hi
  rcases mallocs_mem hi with hi | rfl | hi | rfl | rfl
  · obtain ⟨j, n, _, hj, hn, hm⟩ := mks_mem zs 0 i hi
    have hn := hmem n hn
    simp only [mk1, List.mem_cons, List.not_mem_nil, or_false] at hm
    rcases hm with rfl | rfl | rfl | rfl <;> refine mk _ s0 ?_ ?_ ?_ ?_ ?_ ?_ <;> simp only [insOf, regsL, List.length_cons, List.length_nil] <;> omega
  · refine mk _ s0 ?_ ?_ ?_ ?_ ?_ ?_ <;> simp only [insOf, regsL, List.length_cons, List.length_nil] <;> omega
  · obtain ⟨j, n, _, hj, hn, hm⟩ := asks_mem k zs 0 i hi
    have hn := hmem n hn
    unfold ask1 at hm
    split at hm
    · cases hm
    · simp only [List.mem_cons, List.not_mem_nil, or_false] at hm
      rcases hm with rfl | rfl | rfl <;> refine mk _ s0 ?_ ?_ ?_ ?_ ?_ ?_ <;> simp only [insOf, regsL, List.length_cons, List.length_nil] <;> omega
  · refine mk _ s0 ?_ ?_ ?_ ?_ ?_ ?_ <;> simp only [insOf, regsL, List.length_cons, List.length_nil] <;> omega
  · refine mk _ s0 ?_ ?_ ?_ ?_ ?_ ?_ <;> simp only [insOf, regsL, List.length_cons, List.length_nil] <;> omega
theorem mallocs_len (zs : List Int) (k : Nat) : (mallocsC zs k).length ≤ 7 * zs.length + 3 := by
  have := asks_le k zs 0
  unfold mallocsC
  simp only [List.length_append, List.length_cons, List.length_nil, mks_len]
  omega
theorem mallocs_run {zs : List Int} {k : Nat} (hz : Small zs) (hk : k < zs.length) : ∃ s, runU topsV [aloneF (5 * zs.length + 1) [] (mallocsC zs k)] [] 1000 = ⟨2, 0, outK k zs.length, s, zs.length⟩ := by
  rw [runU_alone (mallocs_good hz hk), callF_alone]
  have hl := hz.1
  obtain ⟨F, hF⟩ : ∃ F, aloneF (5 * zs.length + 1) [] (mallocsC zs k) = F := ⟨_, rfl⟩
  have hcode : F.code = mallocsC zs k := by rw [← hF]; rfl
  have hm : MInv zs 0 (st0 4128 1000 []) (List.replicate (5 * zs.length + 1) 0) := ⟨rfl, rfl, rfl, rfl, by simp, rfl, rfl, rfl, fun j hj => by omega, fun j hj => by omega, fun j hj => by omega⟩
  rw [hF]
  obtain ⟨s1, x1, g1, h1⟩ := mks_run (fns := fnOf [F]) (tops := fun s => if s = [118] then some 4096 else none) (f := F) (fr := ⟨[], [], 0, 0⟩) (was := (st0 4128 1000 []).top) (a := 0) hz (fun j hj => by
    rw [hcode, Nat.zero_add]
    unfold mallocsC
    rw [List.append_assoc, List.append_assoc, List.getElem?_append_left (by rw [mks_len]; exact hj)]) hm zs.length (Nat.le_refl _)
  obtain ⟨s2, x2, g2, h2⟩ := free_step (fns := fnOf [F]) (tops := fun s => if s = [118] then some 4096 else none) (f := F) (fr := ⟨[], [], 0, 0⟩) (was := (st0 4128 1000 []).top) (a := 0 + 4 * zs.length) hk hl h1 (by
    rw [hcode, Nat.zero_add]
    unfold mallocsC
    rw [List.append_assoc, List.append_assoc, List.getElem?_append_right (by rw [mks_len]; exact Nat.le_refl _), mks_len, Nat.sub_self]
    rfl)
  obtain ⟨s3, x3, g3, h3⟩ := asks_run (fns := fnOf [F]) (tops := fun s => if s = [118] then some 4096 else none) (f := F) (fr := ⟨[], [], 0, 0⟩) (was := (st0 4128 1000 []).top) (a := 0 + 4 * zs.length + 1) hz (by omega) (fun j hj => by
    rw [hcode]
    unfold mallocsC
    have e : (mks 0 zs ++ [insOf 41 0 0 0 0 0 (regsL k) [] 0]).length = 0 + 4 * zs.length + 1 := by rw [List.length_append, mks_len]; simp
    rw [List.append_assoc, List.getElem?_append_right (by rw [e]; omega), e, show 0 + 4 * zs.length + 1 + j - (0 + 4 * zs.length + 1) = j by omega, List.getElem?_append_left hj]) h2 zs.length (Nat.le_refl _)
  obtain ⟨i1, i2, i3, i4, i5, i6, i7, i8⟩ := h3
  have hle := askLen_le k zs.length
  have hlast : F.code[0 + 4 * zs.length + 1 + askLen k zs.length]? = some (insOf 34 0 0 0 0 1 (regsL k) [] 0) := by
    rw [hcode]
    unfold mallocsC
    have e : (mks 0 zs ++ [insOf 41 0 0 0 0 0 (regsL k) [] 0] ++ asks k 0 zs).length = 0 + 4 * zs.length + 1 + askLen k zs.length := by rw [List.length_append, List.length_append, mks_len, asks_len]; simp
    rw [List.getElem?_append_right (by rw [e]; omega), e, Nat.sub_self]
    rfl
  have hno : checkF s3.locks (pick x3 (regsL k)) 1 = false := by
    rw [show pick x3 (regsL k) = blkV zs k from i7 k hk, i6]
    unfold checkF blkV
    simp only [List.getD_cons_zero, List.getD_cons_succ]
    rw [held_no hk]
    rfl
  have g4 : ∀ m, loopF (fnOf [F]) (fun s => if s = [118] then some 4096 else none) (m + 1) F ⟨[], [], 0, 0⟩ (st0 4128 1000 []).top s3 x3 ((0 + 4 * zs.length + 1 + askLen k zs.length : Nat) : Int) = .stop (tickC s3) 2 0 := fun m => stop_check (decide_eq_true (by omega)) hlast hno
  have hall := (g1.trans g2).trans g3
  have hN : (1000 : Int).toNat = (999 - (askLen k zs.length + (1 + 4 * zs.length)) + 1) + (askLen k zs.length + (1 + 4 * zs.length)) := by
    show 1000 = _
    omega
  refine ⟨s3.steps + 1, ?_⟩
  rw [hN, hall, g4]
  have ho : (outK k zs.length).length + 1 = zs.length := by rw [outK_len, if_pos hk]; omega
  show RunR.mk 2 0 (tickC s3).out (tickC s3).steps (tickC s3).checks = _
  simp only [tickC]
  rw [i4, i3]
  congr 1
  omega
end Go.Proofs.Ytpmbakhnamlooaa
