/- Package mid's machine, in plain Lean: an instruction, a call, a run. -/
import Derived.Test.YtojfgdoniajmeaaUniA
import Derived.Test.YtojfgdoniajmeaaHeapE
import Derived.Test.YtojfgdoniajmeaaNumB
namespace Go.Proofs.Ytojfgdoniajmeaa
set_option linter.unusedVariables false
set_option linter.unusedSimpArgs false
open Go.RowKit

def HP.zero : HP := ⟨0, 0, 0, 0⟩
def rgV (x : List HV) (r : Int) : HV := x.getD r.toNat HV.zero
def ptrV (p : HP) : HV := ⟨0, p⟩
def numV (n : Int) : HV := ⟨n, HP.zero⟩
def moveP (p : HP) (n : Int) : HP := ⟨p.block, if p.block = 0 then p.off else wrap64 (p.off + n), p.low, p.high⟩
def partP (p : HP) (n m : Int) : HP := if p.block = 0 then p else ⟨p.block, wrap64 (p.off + n), max p.low (wrap64 (p.off + n)), min p.high (wrap64 (wrap64 (p.off + n) + m))⟩
/-- a value as a register's kind, of so many bytes -/
def asV (kind : Int) (v : HV) (size : Int) : HV := if kind = 2 then ptrV v.ptr else numV (nar v.num (8 * size) true)

/-- a machine -/
structure MSt where
  blks : List HB
  at_ : Lit → Option HV
  input : List Int
  out : List Int
  fuel : Int
  steps : Int

/-- what an instruction comes to -/
inductive MOut where
  | go (st : MSt) (x : List HV)
  | stop (st : MSt) (s code why : Int)
/-- how a call ends -/
inductive MRes where
  | ret (st : MSt) (v : HV)
  | stop (st : MSt) (s code why : Int)

def putH (f : Lit → Option HV) (b off : Int) (v : HV) : Lit → Option HV := fun kl => if kl.sameKey (plKey b off) then some v else f kl
def getM (st : MSt) : Int × MSt := match st.input with
  | [] => (18446744073709551615, st)
  | b :: r => (b, { st with input := r })
def errP (st : MSt) (p : HP) (size : Int) : Int := atOf st.blks p.block p.off p.low p.high size
noncomputable def clearM (st : MSt) (b : Int) : MSt := if goneOf st.blks b = 0 then { st with blks := setAt st.blks b fun y => { y with used := false }, at_ := struck st.at_ b } else st
noncomputable def endM (st : MSt) (b : Int) : MSt := if goneOf st.blks b = 0 then { st with blks := setAt st.blks b fun y => { y with live := false, used := false }, at_ := struck st.at_ b } else st
noncomputable def gone (st : MSt) (b : Int) : MSt := { st with blks := setAt st.blks b fun y => { y with live := false, used := false }, at_ := struck st.at_ b }

/-- an instruction that is no call and doesn't end one -/
noncomputable def instrM (tops : List UInt8 → Option HP) (kinds : List Int) (slots : List HP) (st : MSt) (x : List HV) (i : FIns) : MOut :=
  if i.op = 1 then .go st (x.set i.dst.toNat (numV i.n))
  else if i.op = 2 then .go st (x.set i.dst.toNat (rgV x i.a))
  else if i.op = 3 then .go st (x.set i.dst.toNat (numV (doF i.n (rgV x i.a).num (rgV x i.b).num).1))
  else if i.op = 4 then .go st (x.set i.dst.toNat (numV (nar (rgV x i.a).num (8 * i.size) true)))
  else if i.op = 5 then .go st (x.set i.dst.toNat (ptrV HP.zero))
  else if i.op = 6 then .go st (x.set i.dst.toNat (ptrV ((tops i.name.data.toList).getD HP.zero)))
  else if i.op = 7 then .go st (x.set i.dst.toNat (ptrV (slots.getD i.n.toNat HP.zero)))
  else if i.op = 8 then .go st (x.set i.dst.toNat (ptrV (moveP (rgV x i.a).ptr (wrap64 (rgV x i.b).num))))
  else if i.op = 9 then .go st (x.set i.dst.toNat (ptrV (partP (rgV x i.a).ptr (wrap64 i.n) i.size)))
  else if i.op = 10 then .go st (x.set i.dst.toNat (numV (if (rgV x i.a).ptr.block = 0 then 1 else 0)))
  else if i.op = 11 then if errP st (rgV x i.a).ptr i.size = 0 then .go st (x.set i.dst.toNat (asV (kinds.getD i.dst.toNat 0) (getOf st.at_ (rgV x i.a).ptr.block (rgV x i.a).ptr.off) i.size)) else .stop st 5 0 (errP st (rgV x i.a).ptr i.size)
  else if i.op = 12 then if errP st (rgV x i.a).ptr i.size = 0 then .go { st with blks := setAt st.blks (rgV x i.a).ptr.block fun y => { y with used := true }, at_ := putH st.at_ (rgV x i.a).ptr.block (rgV x i.a).ptr.off (asV (kinds.getD i.b.toNat 0) (rgV x i.b) i.size) } x else .stop st 5 0 (errP st (rgV x i.a).ptr i.size)
  else if i.op = 13 then .go (clearM st (slots.getD i.n.toNat HP.zero).block) x
  else if i.op = 14 then if wrap64 (rgV x i.a).num < 1 ∨ 4194304 < wrap64 (rgV x i.a).num then .stop st 3 0 0 else .go { st with blks := st.blks ++ [⟨wrap64 (rgV x i.a).num, true, true, false⟩] } (x.set i.dst.toNat (ptrV ⟨st.blks.length, 0, 0, wrap64 (rgV x i.a).num⟩))
  else if i.op = 15 then if freeOf st.blks (rgV x i.a).ptr.block (rgV x i.a).ptr.off (rgV x i.a).ptr.low (rgV x i.a).ptr.high = 0 then .go (gone st (rgV x i.a).ptr.block) x else .stop st 5 0 (freeOf st.blks (rgV x i.a).ptr.block (rgV x i.a).ptr.off (rgV x i.a).ptr.low (rgV x i.a).ptr.high)
  else if i.op = 20 then .go { st with out := st.out ++ [(rgV x i.a).num % 256] } x
  else if i.op = 21 then .go (getM st).2 (x.set i.dst.toNat (numV (getM st).1))
  else if i.op = 22 then .stop st 1 ((rgV x i.a).num % 256) 0
  else .go st x

/-- values are written into registers: the first k of them -/
def writeV (regs : List HV) (l : List Int) (xs : List HV) : Nat → List HV
  | 0 => regs
  | k + 1 => (writeV regs l xs k).set (l.getD k 0).toNat (xs.getD k HV.zero)
def pickV (regs : List HV) (l : List Int) : List HV := l.map fun r => rgV regs r
/-- the blocks of slots -/
def slotsM : List Int → MSt → MSt × List HP
  | [], st => (st, [])
  | n :: l, st => ((slotsM l { st with blks := st.blks ++ [⟨n, false, true, false⟩] }).1, ⟨st.blks.length, 0, 0, n⟩ :: (slotsM l { st with blks := st.blks ++ [⟨n, false, true, false⟩] }).2)
noncomputable def endAll : List HP → MSt → MSt
  | [], st => st
  | p :: l, st => endAll l (endM st p.block)
def callRegs (g : FFn) (args : List HV) : List HV := writeV (List.replicate g.kinds.length HV.zero) g.params args g.params.length

/-- a call as an instruction, by how functions run -/
def callIM (run : FFn → List HP → MSt → List HV → Int → MRes) (fns : List UInt8 → Option FFn) (st : MSt) (x : List HV) (i : FIns) : MOut :=
  match fns i.name.data.toList with
  | none => .stop st 4 0 0
  | some g =>
    match run g (slotsM g.slots st).2 (slotsM g.slots st).1 (callRegs g (pickV x i.args)) 0 with
    | .ret st' v => .go st' (if 0 ≤ i.dst then x.set i.dst.toNat v else x)
    | .stop st' s code why => .stop st' s code why
/-- a function runs, from an instruction on -/
noncomputable def loopM (fns : List UInt8 → Option FFn) (tops : List UInt8 → Option HP) : Nat → FFn → List HP → MSt → List HV → Int → MRes
  | 0, _, _, st, _, _ => .stop st 0 0 0
  | n + 1, f, slots, st, x, at_ =>
    if st.steps < st.fuel then
      match f.code[at_.toNat]? with
      | none => .stop st 4 0 0
      | some i =>
        if i.op = 17 then .ret (endAll slots { st with steps := st.steps + 1 }) (if i.a < 0 then HV.zero else rgV x i.a)
        else
          match (if i.op = 16 then callIM (loopM fns tops n) fns { st with steps := st.steps + 1 } x i else instrM tops f.kinds slots { st with steps := st.steps + 1 } x i) with
          | .stop st' s code why => .stop st' s code why
          | .go st' x' => loopM fns tops n f slots st' x' (if i.op = 18 ∨ (i.op = 19 ∧ (rgV x i.a).num ≠ 0) then i.to else at_ + 1)
    else .stop st 0 0 0
/-- a call, whole -/
noncomputable def callM (fns : List UInt8 → Option FFn) (tops : List UInt8 → Option HP) (n : Nat) (st : MSt) (f : FFn) (args : List HV) : MRes :=
  loopM fns tops n f (slotsM f.slots st).2 (slotsM f.slots st).1 (callRegs f args) 0
end Go.Proofs.Ytojfgdoniajmeaa
