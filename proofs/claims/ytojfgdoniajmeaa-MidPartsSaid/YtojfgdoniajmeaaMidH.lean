/- Package mid's machine: what stays so while it runs; which instructions are well formed. -/
import Derived.Test.YtojfgdoniajmeaaMidP
namespace Go.Proofs.Ytojfgdoniajmeaa
set_option linter.unusedVariables false
set_option linter.unusedSimpArgs false
open Go.RowKit

/-- what an Op has -/
structure MForm where
  dst : Int := 0
  a : Int := 0
  b : Int := 0
  n : Bool := false
  size : Bool := false
  name : Bool := false
  far : Bool := false
def formM (op : Int) : Option MForm :=
  if op = 1 then some { dst := 1, n := true } else if op = 2 then some { dst := 3, a := 3 } else if op = 3 then some { dst := 1, a := 1, b := 1, n := true } else if op = 4 then some { dst := 1, a := 1, size := true }
  else if op = 5 then some { dst := 2 } else if op = 6 then some { dst := 2, name := true } else if op = 7 then some { dst := 2, n := true } else if op = 8 then some { dst := 2, a := 2, b := 1 }
  else if op = 9 then some { dst := 2, a := 2, n := true, size := true } else if op = 10 then some { dst := 1, a := 2 } else if op = 11 then some { dst := 3, a := 2, size := true } else if op = 12 then some { a := 2, b := 3, size := true }
  else if op = 13 then some { n := true } else if op = 14 then some { dst := 2, a := 1 } else if op = 15 then some { a := 2 } else if op = 16 then some { dst := 3, name := true } else if op = 17 then some { a := 3 }
  else if op = 18 then some { far := true } else if op = 19 then some { a := 1, far := true } else if op = 20 then some { a := 1 } else if op = 21 then some { dst := 1 } else if op = 22 then some { a := 1 } else none
/-- may a register stand where a kind is asked for -/
def regM (kinds : List Int) (r kind : Int) (may : Bool) : Bool :=
  if kind = 0 then r == 0 else (may && r == -1) || (decide (0 ≤ r) && decide (r < kinds.length) && (kind == 3 || kinds.getD r.toNat 0 == kind))
def extraM (f : FFn) (i : FIns) : Bool :=
  if i.op = 2 then f.kinds.getD i.dst.toNat 0 == f.kinds.getD i.a.toNat 0
  else if i.op = 3 then decide (1 ≤ i.n) && decide (i.n ≤ 27)
  else if i.op = 7 ∨ i.op = 13 then decide (i.n < f.slots.length)
  else if i.op = 9 then decide (i.n < 4194304) && decide (1 ≤ i.size) && decide (i.size ≤ 4194304)
  else if i.op = 11 then f.kinds.getD i.dst.toNat 0 == 1 || i.size == 8
  else if i.op = 12 then f.kinds.getD i.b.toNat 0 == 1 || i.size == 8
  else true
def sizeM (m : MForm) (i : FIns) : Bool := if m.size && !(i.op == 9) then i.size == 1 || i.size == 4 || i.size == 8 else true
/-- is an instruction well formed -/
def goodIM (f : FFn) (i : FIns) : Bool := match formM i.op with
  | none => false
  | some m => regM f.kinds i.dst m.dst (i.op == 16) && regM f.kinds i.a m.a (i.op == 17) && regM f.kinds i.b m.b false && i.args.all (fun r => i.op == 16 && regM f.kinds r 3 false) && i.outs.length == 0 && (m.n || i.n == 0) && (m.name == !(i.name.data.toList == [])) && decide (0 ≤ i.to) && decide (i.to < f.code.length) && (m.far || i.to == 0) && sizeM m i && (m.size || i.size == 0) && extraM f i

def i64B (x : Int) : Prop := -9223372036854775808 ≤ x ∧ x ≤ 9223372036854775807
def HP.ok (p : HP) : Prop := i64B p.block ∧ i64B p.off ∧ i64B p.low ∧ i64B p.high
/-- a value is as it may be -/
def HV.ok (v : HV) : Prop := is64 v.num ∧ v.ptr.ok
theorem zero_ok : HP.zero.ok := by unfold HP.ok HP.zero i64B; simp
theorem zeroV_ok : HV.zero.ok := by unfold HV.ok HP.ok HV.zero i64B is64; simp
theorem numV_ok {n : Int} (h : is64 n) : (numV n).ok := ⟨h, zero_ok⟩
theorem ptrV_ok {p : HP} (h : p.ok) : (ptrV p).ok := ⟨by unfold is64 ptrV; simp, h⟩
theorem wrap64_B (x : Int) : i64B (wrap64 x) := by
  unfold i64B wrap64
  omega
theorem moveP_ok {p : HP} (h : p.ok) (n : Int) : (moveP p n).ok := by
  obtain ⟨h1, h2, h3, h4⟩ := h
  unfold moveP
  refine ⟨h1, ?_, h3, h4⟩
  by_cases e : p.block = 0
  · simp only [if_pos e]; exact h2
  · simp only [if_neg e]; exact wrap64_B _
theorem partP_ok {p : HP} (h : p.ok) (n m : Int) : (partP p n m).ok := by
  unfold partP
  by_cases e : p.block = 0
  · rw [if_pos e]; exact h
  · rw [if_neg e]
    obtain ⟨h1, h2, h3, h4⟩ := h
    have a := wrap64_B (p.off + n)
    have b := wrap64_B (wrap64 (p.off + n) + m)
    unfold i64B at *
    refine ⟨h1, a, ?_, ?_⟩
    · show i64B (max p.low (wrap64 (p.off + n)))
      unfold i64B; omega
    · show i64B (min p.high (wrap64 (wrap64 (p.off + n) + m)))
      unfold i64B; omega
theorem nar_is64 (a n : Int) (s : Bool) : is64 (nar a n s) := ⟨nar_lo a n s, nar_hi a n s⟩
theorem asV_ok {v : HV} (h : v.ok) (kind size : Int) : (asV kind v size).ok := by
  unfold asV
  by_cases e : kind = 2
  · rw [if_pos e]; exact ptrV_ok h.2
  · rw [if_neg e]; exact numV_ok (nar_is64 _ _ _)
theorem rgV_ok {x : List HV} (h : ∀ v ∈ x, v.ok) (r : Int) : (rgV x r).ok := by
  unfold rgV
  rw [List.getD_eq_getElem?_getD]
  cases e : x[r.toNat]? with
  | none => exact zeroV_ok
  | some y => exact h y (List.mem_of_getElem? e)
theorem slot_ok {l : List HP} (h : ∀ p ∈ l, p.ok) (k : Nat) : (l.getD k HP.zero).ok := by
  rw [List.getD_eq_getElem?_getD]
  cases e : l[k]? with
  | none => exact zero_ok
  | some y => exact h y (List.mem_of_getElem? e)
theorem set_ok {x : List HV} (h : ∀ v ∈ x, v.ok) {v : HV} (hv : v.ok) (k : Nat) : ∀ y ∈ x.set k v, y.ok := fun y hy => by
  rcases List.mem_or_eq_of_mem_set hy with h1 | h1
  · exact h y h1
  · rw [h1]; exact hv

/-- what is so of a machine's state; d: how many blocks may come yet -/
structure SInvM (tops : List UInt8 → Option HP) (st : MSt) (d : Int) : Prop where
  cells : ∀ kl v, st.at_ kl = some v → v.ok
  blks : (0 : Int) < st.blks.length ∧ (st.blks.length : Int) + d ≤ 4000 + 2000 * st.steps
  steps : 0 ≤ st.steps ∧ (st.steps ≤ st.fuel ∨ st.steps = 0) ∧ st.fuel ≤ 100000
  input : ∀ b ∈ st.input, 0 ≤ b ∧ b ≤ 255
  out : ∀ b ∈ st.out, 0 ≤ b ∧ b ≤ 255
  tops : ∀ s p, tops s = some p → p.ok
theorem SInvM.le {tops : List UInt8 → Option HP} {st : MSt} {d d' : Int} (h : SInvM tops st d) (e : d' ≤ d) : SInvM tops st d' := ⟨h.cells, ⟨h.blks.1, by have := h.blks; omega⟩, h.steps, h.input, h.out, h.tops⟩
/-- what is so of a call's frame -/
structure FInvM (f : FFn) (slots : List HP) (x : List HV) : Prop where
  ok : ∀ v ∈ x, v.ok
  len : x.length = f.kinds.length
  sok : ∀ p ∈ slots, p.ok
  slen : slots.length = f.slots.length
theorem FInvM.set {f : FFn} {slots : List HP} {x : List HV} (h : FInvM f slots x) {v : HV} (hv : v.ok) (k : Nat) : FInvM f slots (x.set k v) := ⟨set_ok h.ok hv k, by simpa using h.len, h.sok, h.slen⟩
/-- how an instruction leaves the machine -/
def OutInvM (tops : List UInt8 → Option HP) (f : FFn) (slots : List HP) (st : MSt) : MOut → Prop
  | .go st' x' => SInvM tops st' 0 ∧ FInvM f slots x' ∧ st'.steps = st.steps ∧ st'.fuel = st.fuel
  | .stop st' _ code _ => SInvM tops st' 0 ∧ 0 ≤ code ∧ code ≤ 255 ∧ st'.steps = st.steps ∧ st'.fuel = st.fuel
section
variable {tops : List UInt8 → Option HP} {f : FFn} {slots : List HP} {st : MSt} {x : List HV} {i : FIns}
theorem outInvM_ite {p : Prop} [Decidable p] {a b : MOut} (h1 : p → OutInvM tops f slots st a) (h2 : ¬ p → OutInvM tops f slots st b) : OutInvM tops f slots st (if p then a else b) := by
  split
  · exact h1 ‹_›
  · exact h2 ‹_›
theorem struck_cells {g : Lit → Option HV} {b : Int} (h : ∀ kl v, g kl = some v → v.ok) : ∀ kl v, struck g b kl = some v → v.ok := fun kl v e => by
  unfold struck at e
  split at e
  · cases e
  · exact h kl v e
theorem putH_cells {g : Lit → Option HV} {b off : Int} {z : HV} (h : ∀ kl v, g kl = some v → v.ok) (hz : z.ok) : ∀ kl v, putH g b off z kl = some v → v.ok := fun kl v e => by
  unfold putH at e
  split at e
  · cases e; exact hz
  · exact h kl v e
theorem getOf_ok {g : Lit → Option HV} (h : ∀ kl v, g kl = some v → v.ok) (b off : Int) : (getOf g b off).ok := by
  unfold getOf
  cases e : g (plKey b off) with
  | none => exact zeroV_ok
  | some v => exact h _ _ e
theorem setAt_len (l : List HB) (b : Int) (g : HB → HB) : (setAt l b g).length = l.length := by simp [setAt]
theorem SInvM.heap {st' : MSt} (h : SInvM tops st 0) (e1 : ∀ kl v, st'.at_ kl = some v → v.ok) (e2 : st'.blks.length = st.blks.length) (e3 : st'.steps = st.steps) (e4 : st'.fuel = st.fuel) (e5 : st'.input = st.input) (e6 : st'.out = st.out) : SInvM tops st' 0 :=
  ⟨e1, by rw [e2, e3]; exact h.blks, by rw [e3, e4]; exact h.steps, by rw [e5]; exact h.input, by rw [e6]; exact h.out, h.tops⟩
theorem instrM_inv (hS : SInvM tops st 1) (hF : FInvM f slots x) (hn : is64 i.n) (hb : ∀ o a b, is64 a → is64 b → is64 (doF o a b).1) (hmany : st.blks.length ≤ 2000000000) : OutInvM tops f slots st (instrM tops f.kinds slots st x i) := by
  have same : SInvM tops st 0 := hS.le (by omega)
  have hx := hF.ok
  unfold instrM
  repeat' (refine outInvM_ite (fun _ => ?_) (fun _ => ?_))
  all_goals first
    | exact ⟨same, hF.set (numV_ok hn) _, rfl, rfl⟩
    | exact ⟨same, hF.set (rgV_ok hx _) _, rfl, rfl⟩
    | exact ⟨same, hF.set (numV_ok (hb _ _ _ (rgV_ok hx _).1 (rgV_ok hx _).1)) _, rfl, rfl⟩
    | exact ⟨same, hF.set (numV_ok (nar_is64 _ _ _)) _, rfl, rfl⟩
    | exact ⟨same, hF.set (ptrV_ok zero_ok) _, rfl, rfl⟩
    | exact ⟨same, hF.set (ptrV_ok (slot_ok hF.sok _)) _, rfl, rfl⟩
    | exact ⟨same, hF.set (ptrV_ok (moveP_ok (rgV_ok hx _).2 _)) _, rfl, rfl⟩
    | exact ⟨same, hF.set (ptrV_ok (partP_ok (rgV_ok hx _).2 _ _)) _, rfl, rfl⟩
    | exact ⟨same, hF.set (asV_ok (getOf_ok same.cells _ _) _ _) _, rfl, rfl⟩
    | exact ⟨same, by omega, by omega, rfl, rfl⟩
    | exact ⟨same, hF, rfl, rfl⟩
    | skip
  · refine ⟨same, hF.set (ptrV_ok ?_) _, rfl, rfl⟩
    cases e : tops i.name.data.toList with
    | none => exact zero_ok
    | some p => exact same.tops _ _ e
  · refine ⟨same, hF.set (numV_ok ?_) _, rfl, rfl⟩
    split <;> (unfold is64; omega)
  · exact ⟨same.heap (putH_cells same.cells (asV_ok (rgV_ok hx _) _ _)) (setAt_len _ _ _) rfl rfl rfl rfl, hF, rfl, rfl⟩
  · unfold clearM
    split
    · exact ⟨same.heap (struck_cells same.cells) (setAt_len _ _ _) rfl rfl rfl rfl, hF, rfl, rfl⟩
    · exact ⟨same, hF, rfl, rfl⟩
  · rename_i hr
    refine ⟨⟨same.cells, ?_, same.steps, same.input, same.out, same.tops⟩, hF.set (ptrV_ok ?_) _, rfl, rfl⟩
    · have := hS.blks
      simp only [List.length_append, List.length_cons, List.length_nil]
      omega
    · have := hS.blks
      unfold HP.ok i64B
      simp only
      omega
  · exact ⟨same.heap (struck_cells same.cells) (setAt_len _ _ _) rfl rfl rfl rfl, hF, rfl, rfl⟩
  · refine ⟨⟨same.cells, same.blks, same.steps, same.input, ?_, same.tops⟩, hF, rfl, rfl⟩
    intro b hb
    rcases List.mem_append.1 hb with h1 | h1
    · exact same.out b h1
    · rw [List.mem_singleton.1 h1]; omega
  · unfold getM
    cases e : st.input with
    | nil => exact ⟨same, hF.set (numV_ok ⟨by simp, by simp⟩) _, rfl, rfl⟩
    | cons b r =>
      have hb0 := same.input b (by rw [e]; simp)
      exact ⟨⟨same.cells, same.blks, same.steps, fun y hy => same.input y (by rw [e]; simp [hy]), same.out, same.tops⟩, hF.set (numV_ok ⟨by simp; omega, by simp; omega⟩) _, rfl, rfl⟩
end
end Go.Proofs.Ytojfgdoniajmeaa
