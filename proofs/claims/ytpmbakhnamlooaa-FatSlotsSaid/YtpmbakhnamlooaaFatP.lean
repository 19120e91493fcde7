/- Package fat's machine, in plain Lean: well formed instructions, an instruction, a run. -/
import Derived.Test.YtpmbakhnamlooaaFatO
namespace Go.Proofs.Ytpmbakhnamlooaa
set_option linter.unusedVariables false
set_option linter.unusedSimpArgs false
open Go.RowKit

/-- a function, plain -/
structure FFn where
  name : ByteArray
  params : List Int
  kinds : List Int
  slots : List Int
  code : List FIns

/-- what an Op has -/
structure Form where
  dst : Bool := false
  a : Bool := false
  b : Bool := false
  n : Bool := false
  name : Bool := false
  far : Bool := false
  size : Int := 0
  args : Int := 0
  outs : Int := 0

def formF (op : Int) : Option Form :=
  if op = 1 then some { dst := true, n := true } else if op = 2 then some { dst := true, a := true } else if op = 3 then some { dst := true, a := true, b := true, n := true }
  else if op = 4 then some { dst := true, a := true, size := 1 } else if op = 18 then some { far := true } else if op = 19 then some { a := true, far := true }
  else if op = 20 then some { a := true } else if op = 21 then some { dst := true } else if op = 22 then some { a := true } else if op = 30 then some { dst := true, name := true }
  else if op = 31 then some { dst := true, n := true } else if op = 32 then some { dst := true } else if op = 33 then some { dst := true } else if op = 34 then some { args := 5, size := 2 }
  else if op = 35 then some { dst := true, a := true, size := 1 } else if op = 36 then some { a := true, b := true, size := 1 } else if op = 37 then some { a := true, outs := 4 }
  else if op = 38 then some { a := true, args := 4 } else if op = 39 then some { n := true } else if op = 40 then some { a := true, outs := 5 } else if op = 41 then some { args := 5 }
  else if op = 42 then some { name := true, args := -1, outs := -1 } else if op = 43 then some { args := -1 } else none

def regB (k : Nat) (r : Int) (used : Bool) : Bool := if used then decide (0 ≤ r) && decide (r < k) else r == 0
/-- is none of them twice -/
def onceB : List Int → Bool
  | [] => true
  | x :: l => !l.contains x && onceB l
def listB (k : Nat) (l : List Int) (n : Int) (once : Bool) : Bool :=
  (decide (n < 0) || decide ((l.length : Int) = n)) && l.all (fun r => regB k r true) && (!once || onceB l)
def sizeB (m n : Int) : Bool := if m = 1 then n == 1 || n == 4 || n == 8 else if m = 2 then decide (1 ≤ n) && decide (n ≤ 4194304) else n == 0
def goodI (f : FFn) (i : FIns) : Bool :=
  match formF i.op with
  | none => false
  | some m =>
    let k := f.kinds.length
    regB k i.dst m.dst && regB k i.a m.a && regB k i.b m.b && listB k i.args m.args false && listB k i.outs m.outs true && sizeB m.size i.size &&
    (m.n || i.n == 0) && (m.name == !(i.name.data.toList == [])) && decide (0 ≤ i.to) && decide (i.to < f.code.length) && (m.far || i.to == 0) &&
    (if i.op = 3 then decide (1 ≤ i.n) && decide (i.n ≤ 27) else if i.op = 31 ∨ i.op = 39 then decide (i.n < f.slots.length) else true)

/-- what an instruction comes to -/
inductive Out where
  | go (st : FSt) (x : List Int)
  | stop (st : FSt) (s code : Int)

/-- a call's own: its slots, their sizes, its lock and key -/
structure Frm where
  slots : List Int
  sizes : List Int
  lock : Int
  key : Int

def getF (st : FSt) : Int × FSt := match st.input with
  | [] => (18446744073709551615, st)
  | b :: r => (b, { st with input := r })

/-- an instruction that is no call and doesn't end one -/
def instr1 (tops : List UInt8 → Option Int) (fr : Frm) (st : FSt) (x : List Int) (i : FIns) : Out :=
  if i.op = 1 then .go st (x.set i.dst.toNat i.n)
  else if i.op = 2 then .go st (x.set i.dst.toNat (rg x i.a))
  else if i.op = 3 then .go st (x.set i.dst.toNat (doF i.n (rg x i.a) (rg x i.b)).1)
  else if i.op = 4 then .go st (x.set i.dst.toNat (nar (rg x i.a) (8 * i.size) true))
  else if i.op = 20 then .go { st with out := st.out ++ [rg x i.a % 256] } x
  else if i.op = 21 then .go (getF st).2 (x.set i.dst.toNat (getF st).1)
  else if i.op = 22 then .stop st 1 (rg x i.a % 256)
  else if i.op = 30 then .go st (x.set i.dst.toNat ((tops i.name.data.toList).getD 0))
  else if i.op = 31 then .go st (x.set i.dst.toNat (rg fr.slots i.n))
  else if i.op = 32 then .go st (x.set i.dst.toNat fr.lock)
  else if i.op = 33 then .go st (x.set i.dst.toNat fr.key)
  else if i.op = 34 then if checkF st.locks (pick x i.args) i.size then .go { st with checks := st.checks + 1 } x else .stop { st with checks := st.checks + 1 } 2 0
  else if i.op = 35 then if placeF (rg x i.a) i.size then .go st (x.set i.dst.toNat (loadF st.mem (rg x i.a) i.size)) else .stop st 4 0
  else if i.op = 36 then if placeF (rg x i.a) i.size then .go { st with mem := storeAcc st.mem (rg x i.a) (rg x i.b) i.size.toNat } x else .stop st 4 0
  else if i.op = 37 then .go st (writeAcc x i.outs (fourL ((st.shadow (rg x i.a)).getD (0, 0, 0, 0))) i.outs.length)
  else if i.op = 38 then .go { st with shadow := fun y => if y = rg x i.a then some (listF (pick x i.args)) else st.shadow y } x
  else if i.op = 39 then .go { st with mem := clr st.mem (rg fr.slots i.n) (rg fr.sizes i.n), shadow := clr st.shadow (rg fr.slots i.n) (rg fr.sizes i.n) } x
  else if i.op = 40 then if roomF st (rg x i.a) then .go (mallocF st (rg x i.a)) (writeAcc x i.outs (mallocV st (rg x i.a)) i.outs.length) else .stop st 3 0
  else if i.op = 41 then
    if freeF st.locks st.blocks (pick x i.args) then .go { st with blocks := fun y => if y = (pick x i.args).getD 1 0 then none else st.blocks y, locks := st.locks.set ((pick x i.args).getD 4 0).toNat 0 } x else .stop st 2 0
  else .go st x

/-- how a call ends -/
inductive Res where
  | ret (st : FSt) (v : List Int)
  | stop (st : FSt) (s code : Int)

/-- the places of slots: from a top on; the new top; whether there is room -/
def placesF : List Int → Int → List Int × Int × Bool
  | [], t => ([], t, true)
  | n :: l, t =>
    let a := (t + 15) / 16 * 16
    if a + n ≤ 4194304 then ((a :: (placesF l (a + n)).1), (placesF l (a + n)).2) else ([a], a + n, false)

/-- a call begins: its frame, its registers; or there is no room -/
def enterF (st : FSt) (f : FFn) (args : List Int) : FSt × Frm × List Int × Bool :=
  let x := writeAcc (List.replicate f.kinds.length 0) f.params args f.params.length
  let p := placesF f.slots st.top
  if f.slots = [] then ({ st with top := p.2.1 }, ⟨p.1, f.slots, 0, 0⟩, x, p.2.2)
  else if p.2.2 then ({ st with top := p.2.1, keys := st.keys + 1, locks := st.locks ++ [st.keys + 1] }, ⟨p.1, f.slots, st.locks.length, st.keys + 1⟩, x, true)
  else ({ st with top := p.2.1 }, ⟨p.1, f.slots, 0, 0⟩, x, false)

/-- a call as an instruction, by how functions run -/
def callI (run : FFn → Frm → Int → FSt → List Int → Int → Res) (fns : List UInt8 → Option FFn) (st : FSt) (x : List Int) (i : FIns) : Out :=
  match fns i.name.data.toList with
  | none => .stop st 4 0
  | some g =>
    let e := enterF st g (pick x i.args)
    if e.2.2.2 then
      match run g e.2.1 st.top e.1 e.2.2.1 0 with
      | .ret st' v => .go st' (writeAcc x i.outs v i.outs.length)
      | .stop st' s code => .stop st' s code
    else .stop e.1 3 0

/-- a function runs, from an instruction on -/
def loopF (fns : List UInt8 → Option FFn) (tops : List UInt8 → Option Int) : Nat → FFn → Frm → Int → FSt → List Int → Int → Res
  | 0, _, _, _, st, _, _ => .stop st 0 0
  | n + 1, f, fr, was, st, x, at_ =>
    if st.steps < st.fuel then
      match f.code[at_.toNat]? with
      | none => .stop st 4 0
      | some i =>
        if i.op = 43 then .ret { st with steps := st.steps + 1, locks := if 0 < fr.lock then st.locks.set fr.lock.toNat 0 else st.locks, top := was } (pick x i.args)
        else
          match (if i.op = 42 then callI (loopF fns tops n) fns { st with steps := st.steps + 1 } x i else instr1 tops fr { st with steps := st.steps + 1 } x i) with
          | .stop st' s code => .stop st' s code
          | .go st' x' => loopF fns tops n f fr was st' x' (if i.op = 18 ∨ (i.op = 19 ∧ rg x i.a ≠ 0) then i.to else at_ + 1)
    else .stop st 0 0

/-- a call, whole -/
def callF (fns : List UInt8 → Option FFn) (tops : List UInt8 → Option Int) (n : Nat) (st : FSt) (f : FFn) (args : List Int) : Res :=
  let e := enterF st f args
  if e.2.2.2 then loopF fns tops n f e.2.1 st.top e.1 e.2.2.1 0 else .stop e.1 3 0

end Go.Proofs.Ytpmbakhnamlooaa
