/- A region that draws its order, whose operations each leave what the others need: one obligation for each operation, none for an order. Over any program. -/
import Derived.Test.YtojfgdoniajmeaaLibM
import Derived.Orders
import Derived.StillTail
namespace Go.Proofs.Ytojfgdoniajmeaa
set_option linter.unusedVariables false
set_option linter.unusedSimpArgs false
open Go.RowKit

/-- a frame behind some of a region's operations: what each yielded stands in its slot -/
def puts (a0 : Act) (x : Nat → Value) : List (Nat × Option Tmp) → Act
  | [] => a0
  | kd :: l => (puts a0 x l).put kd.2 (x kd.1)
def upd (x : Nat → Value) (i : Nat) (y : Value) : Nat → Value := fun k => if k = i then y else x k
theorem upd_same (x : Nat → Value) (i : Nat) (y : Value) : upd x i y i = y := by simp [upd]
theorem upd_other (x : Nat → Value) {i k : Nat} (y : Value) (h : k ≠ i) : upd x i y k = x k := by simp [upd, h]

def dstOf (ops : Array Oper) (k : Nat) : Option Tmp := (ops[k]?).bind (·.dst)
def withDst (ops : Array Oper) (l : List Nat) : List (Nat × Option Tmp) := l.map fun k => (k, dstOf ops k)

/-! short names, for the printed walks -/
theorem q1 (a0 : Act) (x : Nat → Value) : puts a0 x [] = a0 := rfl
theorem q2 (a0 : Act) (x : Nat → Value) (k : Nat) (d : Option Tmp) (l : List (Nat × Option Tmp)) : puts a0 x ((k, d) :: l) = (puts a0 x l).put d (x k) := rfl
theorem q3 (t : Array Value) (d : List Deferred) (i : Tmp) (v : Value) : (⟨t, d⟩ : Act).put (some i) v = ⟨t.setIfInBounds i v, d⟩ := rfl
theorem q4 (t : Array Value) (d : List Deferred) (v : Value) : (⟨t, d⟩ : Act).put none v = ⟨t, d⟩ := rfl
theorem q5 (l : List Value) (i : Nat) (v : Value) : l.toArray.setIfInBounds i v = (l.set i v).toArray := List.setIfInBounds_toArray ..
theorem q6 (x y : Value) (l : List Value) : (x :: l).set 0 y = y :: l := rfl
theorem q7 (x y : Value) (l : List Value) (i : Nat) : (x :: l).set (i + 1) y = x :: l.set i y := rfl
theorem puts_defers (a0 : Act) (x : Nat → Value) : ∀ l, (puts a0 x l).defers = a0.defers
  | [] => rfl
  | (_, none) :: l => puts_defers a0 x l
  | (_, some _) :: l => puts_defers a0 x l
theorem puts_size (a0 : Act) (x : Nat → Value) : ∀ l, (puts a0 x l).tmps.size = a0.tmps.size
  | [] => rfl
  | (k, none) :: l => puts_size a0 x l
  | (k, some d) :: l => by
    show (((puts a0 x l).tmps.setIfInBounds d (x k))).size = _
    rw [Array.size_setIfInBounds]; exact puts_size a0 x l
theorem puts_upd (a0 : Act) (x : Nat → Value) (i : Nat) (y : Value) : ∀ l, (∀ kd ∈ l, kd.1 ≠ i) → puts a0 (upd x i y) l = puts a0 x l
  | [], _ => rfl
  | kd :: l, h => by
    show (puts a0 (upd x i y) l).put kd.2 (upd x i y kd.1) = (puts a0 x l).put kd.2 (x kd.1)
    rw [puts_upd a0 x i y l fun q hq => h q (List.mem_cons_of_mem _ hq), upd_other x y (h kd List.mem_cons_self)]
theorem puts_away (a0 : Act) (x : Nat → Value) (t : Tmp) : ∀ l, (∀ kd ∈ l, kd.2 ≠ some t) → (puts a0 x l).tmps[t]? = a0.tmps[t]?
  | [], _ => rfl
  | (k, none) :: l, h => puts_away a0 x t l fun q hq => h q (List.mem_cons_of_mem _ hq)
  | (k, some d) :: l, h => by
    have hd : d ≠ t := fun e => h (k, some d) List.mem_cons_self (by rw [e])
    show ((puts a0 x l).tmps.setIfInBounds d (x k))[t]? = _
    rw [Array.getElem?_setIfInBounds_ne hd]
    exact puts_away a0 x t l fun q hq => h q (List.mem_cons_of_mem _ hq)
theorem puts_there (a0 : Act) (x : Nat → Value) (t : Tmp) (k : Nat) : ∀ l, (k, some t) ∈ l → (∀ kd ∈ l, kd.2 = some t → kd.1 = k) → (puts a0 x l).tmps[t]? = if t < a0.tmps.size then some (x k) else none
  | [], h, _ => by cases h
  | (j, none) :: l, h, g => by
    have h' : (k, some t) ∈ l := by rcases List.mem_cons.1 h with h | h; · cases h
                                    exact h
    exact puts_there a0 x t k l h' fun q hq => g q (List.mem_cons_of_mem _ hq)
  | (j, some d) :: l, h, g => by
    show ((puts a0 x l).tmps.setIfInBounds d (x j))[t]? = _
    by_cases hd : d = t
    · subst hd
      have : j = k := g (j, some d) List.mem_cons_self rfl
      subst this
      rw [Array.getElem?_setIfInBounds_self, puts_size]
    · rw [Array.getElem?_setIfInBounds_ne hd]
      have h' : (k, some t) ∈ l := by
        rcases List.mem_cons.1 h with h | h
        · simp only [Prod.mk.injEq, Option.some.injEq] at h; exact absurd h.2.symm hd
        · exact h
      exact puts_there a0 x t k l h' fun q hq => g q (List.mem_cons_of_mem _ hq)
/-- two frames of the same puts, in whatever order -/
theorem puts_same (a0 : Act) (x : Nat → Value) {l l' : List (Nat × Option Tmp)} (h : ∀ kd, kd ∈ l ↔ kd ∈ l') (hu : ∀ p ∈ l, ∀ q ∈ l, p.2 = q.2 → p.2 ≠ none → p.1 = q.1) : puts a0 x l = puts a0 x l' := by
  have e : ∀ t : Tmp, (puts a0 x l).tmps[t]? = (puts a0 x l').tmps[t]? := by
    intro t
    by_cases hk : ∃ k, (k, some t) ∈ l
    · obtain ⟨k, hk⟩ := hk
      rw [puts_there a0 x t k l hk fun q hq e => hu q hq _ hk e (by rw [e]; simp), puts_there a0 x t k l' ((h _).1 hk) fun q hq e => hu q ((h _).2 hq) _ hk e (by rw [e]; simp)]
    · rw [puts_away a0 x t l fun q hq e => hk ⟨q.1, by rw [← e]; exact hq⟩, puts_away a0 x t l' fun q hq e => hk ⟨q.1, by rw [← e]; exact (h _).2 hq⟩]
  have e1 : (puts a0 x l).tmps = (puts a0 x l').tmps := Array.ext_getElem? e
  have e2 : (puts a0 x l).defers = (puts a0 x l').defers := by rw [puts_defers, puts_defers]
  revert e1 e2
  cases puts a0 x l; cases puts a0 x l'
  rintro rfl rfl; rfl

section
variable {P : Program}

theorem eval_same {a b : Act} {t : Tmp} (h : a.tmps[t]? = b.tmps[t]?) : a.eval (.tmp t) = b.eval (.tmp t) := by
  simp [Act.eval, h]
theorem exec_same {ops : Array Oper} (o : Oper) (hs : ∀ cs b, o.op ≠ .select cs b) {a b : Act} (h : ∀ t ∈ o.looksAt ops, a.tmps[t]? = b.tmps[t]?) : execOp a.eval o = execOp b.eval o :=
  execOp_congr o hs fun x hx => by
    cases x with
    | tmp t => exact eval_same (h t (List.mem_append_left _ (List.mem_filterMap.2 ⟨.tmp t, by simpa using hx, rfl⟩)))
    | _ => rfl
theorem wanted_same {ops : Array Oper} (o : Oper) {a b : Act} (h : ∀ t ∈ o.looksAt ops, a.tmps[t]? = b.tmps[t]?) : Region.wanted o (yielded ops a.tmps) = Region.wanted o (yielded ops b.tmps) := by
  unfold Region.wanted
  cases hg : o.guard with
  | none => rfl
  | some gw =>
    obtain ⟨g, want⟩ := gw
    have hy : yielded ops a.tmps g = yielded ops b.tmps g := by
      unfold yielded
      cases ht : (ops[g]?).bind (·.dst) with
      | none => rfl
      | some t =>
        have := h t (by simp [Oper.looksAt, hg, ht])
        simp only [Option.bind_some, this]
    simp only [hy]
theorem put_same {a b : Act} (hz : a.tmps.size = b.tmps.size) {D : Option Tmp} {v y : Value} (h : a.put D v = a.put D y) : b.put D v = b.put D y := by
  cases D with
  | none => rfl
  | some d =>
    have e : (a.tmps.setIfInBounds d v)[d]? = (a.tmps.setIfInBounds d y)[d]? := congrArg (fun (c : Act) => c.tmps[d]?) h
    rw [Array.getElem?_setIfInBounds_self, Array.getElem?_setIfInBounds_self] at e
    by_cases hd : d < a.tmps.size
    · rw [if_pos hd, if_pos hd, Option.some.injEq] at e; rw [e]
    · have : ∀ u, b.tmps.setIfInBounds d u = b.tmps := fun u => Array.setIfInBounds_eq_of_size_le (by rw [← hz]; exact Nat.le_of_not_lt hd)
      show (⟨b.tmps.setIfInBounds d v, b.defers⟩ : Act) = ⟨b.tmps.setIfInBounds d y, b.defers⟩
      rw [this, this]

/-- an operation run in a smaller frame serves in a larger one -/
theorem wpOp_of_list {ops : Array Oper} {Q : Exit → Act → World → Prop} {i : Nat} {o : Oper} (ho : ops[i]? = some o) (hs : ∀ cs b, o.op ≠ .select cs b) {a b : Act} {w : World} {R : Value → World → Prop} {K : Act → World → Prop}
    (hz : a.tmps.size = b.tmps.size) (h : ∀ t ∈ o.looksAt ops, a.tmps[t]? = b.tmps[t]?)
    {X : List PanicEntry → World → Prop} (hX : ∀ ch w', X ch w' → Q (.panic ch) b w')
    (H : ∀ Q' : Exit → Act → World → Prop, (∀ ch w', X ch w' → Q' (.panic ch) a w') → (∀ y w', R y w' → Q' .normal (a.put o.dst y) w') → wpList P ops Q' [o] a w)
    (hK : ∀ y w', R y w' → K (b.put o.dst y) w') : wpOp P ops Q i K b w := by
  have H1 := H (fun e a' w' => (e = .normal ∧ ∃ y, a' = a.put o.dst y ∧ R y w') ∨ ∃ ch, e = .panic ch ∧ X ch w') (fun ch w' hx => .inr ⟨ch, rfl, hx⟩) (fun y w' hr => .inl ⟨rfl, y, rfl, hr⟩)
  have turn : ∀ v w', ((Exit.normal = .normal ∧ ∃ y, a.put o.dst v = a.put o.dst y ∧ R y w') ∨ ∃ ch, Exit.normal = .panic ch ∧ X ch w') → K (b.put o.dst v) w' := by
    rintro v w' (⟨_, y, e, hr⟩ | ⟨_, h1, _⟩)
    · rw [put_same hz e]
      exact hK y w' hr
    · cases h1
  have fall : ∀ (c : List PanicEntry) (a' : Act) w', ((Exit.panic c = .normal ∧ ∃ y, a' = a.put o.dst y ∧ R y w') ∨ ∃ ch, Exit.panic c = .panic ch ∧ X ch w') → Q (.panic c) b w' := by
    rintro c a' w' (⟨h1, _⟩ | ⟨ch, h1, hx⟩)
    · cases h1
    · cases h1; exact hX _ _ hx
  unfold wpOp
  simp only [ho]
  unfold wpList at H1
  rw [wanted_same o h] at H1
  split
  · rename_i hw
    rw [if_pos hw] at H1
    rcases H1 with H1 | ⟨_, _, _, ⟨h1, _⟩ | ⟨_, h1, _⟩⟩
    · refine .inl ?_
      unfold Oper.wp at *
      rw [exec_same o hs h] at H1
      generalize hr : (execOp b.eval o).run P w = r at *
      cases r with
      | ok n w' =>
        cases n with
        | value v => exact turn v w' H1
        | skip => exact turn undef w' H1
        | defer d =>
          exfalso
          simp only [Oper.upon] at H1
          obtain ⟨_, y, e, _⟩ := H1.resolve_right (by rintro ⟨_, h1, _⟩; cases h1)
          have e2 := congrArg (fun c : Act => c.defers.length) e
          have e3 : ∀ (c : Act) (D : Option Tmp) (u : Value), (c.put D u).defers = c.defers := fun c D u => by cases D <;> rfl
          simp only [e3, List.length_cons] at e2
          omega
        | enter f args =>
          refine Calls.mono H1 fun e w'' he => ?_
          cases e with
          | returned v => exact turn v w'' he
          | panicked c => exact fall c _ w'' he
          | outgrown => obtain ⟨_, _, ⟨h1, _⟩ | ⟨_, h1, _⟩⟩ := he <;> cases h1
        | row row args => exact Rows.mono H1 fun v w'' he => turn v w'' he
        | _ => exact H1
      | halt x w' => cases x <;> first | exact H1 | exact fall _ _ w' H1
    · cases h1
    · cases h1
  · rename_i hw
    rw [if_neg hw] at H1
    exact turn undef w H1

/-- what is there, and what of the plan is so, asked by one Bool -/
structure Plan where
  T : List (List Nat)
  rd : List (List (Nat × Option Tmp))
  all : List (Nat × Option Tmp)
  calm : List Bool
  hard : List Bool
  fresh : List Bool
  /-- whose result what is left by each is told of (none given: its own) -/
  ref : List Nat := []

def Plan.anc (p : Plan) (i : Nat) : List Nat := p.T.getD i []
def Plan.readsD (p : Plan) (i : Nat) : List (Nat × Option Tmp) := p.rd.getD i []
def Plan.reads (p : Plan) (i : Nat) : List Nat := (p.readsD i).map (·.1)
def Plan.isCalm (p : Plan) (i : Nat) : Bool := p.calm.getD i false
def Plan.isHard (p : Plan) (i : Nat) : Bool := p.hard.getD i false
def Plan.refOf (p : Plan) (i : Nat) : Nat := p.ref.getD i i
def Plan.isFresh (p : Plan) (i : Nat) : Bool := p.fresh.getD i false

def directB (o : Oper) (k : Nat) : Bool := o.after.any fun e => Region.binds .any e && e.on == k
def planB (p : Plan) (l : List Oper) (n : Nat) : Bool :=
  let ops := l.toArray
  Region.noSelect ops && decide (n ≤ l.length ∧ p.all = withDst ops (List.range n).reverse) &&
  ((List.range l.length).all fun i => match l[i]? with
    | none => true
    | some o =>
      (o.after.all fun e => !Region.binds .any e || decide (e.on < i)) &&
      ((p.anc i).all fun k => directB o k || (List.range i).any fun m => directB o m && (p.anc m).contains k) &&
      if i < n then
        ((p.anc i).all fun k => decide (k < n)) && (p.refOf i == i || (p.anc i).contains (p.refOf i)) &&
        (((p.reads i).all fun k => (p.anc i).contains k) && decide (p.readsD i = withDst ops (p.reads i))) &&
        ((List.range n).all fun j => i == j || match dstOf ops j with
          | none => true
          | some d => dstOf ops i != some d && (!(o.looksAt ops).contains d || (p.reads i).contains j || (p.anc j).contains i))
      else (List.range n).all fun k => (p.anc i).contains k) &&
  Region.seqB .any ops (l.drop n).length n (Array.replicate n true ++ Array.replicate (l.length - n) false)

/-- what k left is there still when i comes up -/
def Plan.useB (p : Plan) (n i k : Nat) : Bool :=
  (p.anc i).contains k && (p.isHard k || (List.range n).all fun j => p.isCalm j || j == i || j == k || (p.anc k).contains j || (p.anc j).contains i)
/-- the state that k left is still there when i comes up -/
def Plan.leftB (p : Plan) (n i k : Nat) : Bool :=
  (p.anc i).contains k && (List.range n).all fun j => p.isCalm j || j == i || j == k || (p.anc k).contains j || (p.anc j).contains i
def Plan.softB (p : Plan) (n i : Nat) : Bool := (List.range n).all fun j => p.isCalm j || j == i || (p.anc j).contains i
def Plan.endL (p : Plan) (n k : Nat) : Bool := (List.range n).all fun j => p.isCalm j || j == k || (p.anc k).contains j
def Plan.endB (p : Plan) (n k : Nat) : Bool := p.isHard k || (List.range n).all fun j => p.isCalm j || j == k || (p.anc k).contains j

/-- the block of memory that a value leads to -/
def blockIn : Value → Option Nat
  | .pointer (some a) => some a.block
  | .slice (some a) _ _ => some a.block
  | .map (some b) => some b
  | _ => none
def Fresh (y : Value) (w w' : World) : Prop := ∃ b, blockIn y = some b ∧ w.heap.size ≤ b ∧ b < w'.heap.size

section
variable {P : Program}

def saidAt (S : List (Value → World → Prop)) (k : Nat) : Value → World → Prop := S.getD k fun _ _ => True

/-- the value is this one -/
def Is (v : Value) : Value → World → Prop := fun y _ => y = v

/-! for the printed walks: an operation's frame, by what it reads -/
theorem rd0 {a0 a : Act} {x : Nat → Value} (ha : a = puts a0 x []) : a = a0 := ha
theorem rd1 {a0 a : Act} {x : Nat → Value} {w : World} {S : List (Value → World → Prop)} {C : Nat → Bool} {j : Nat} {d : Option Tmp} {v : Value} (ha : a = puts a0 x [(j, d)]) (H : ∀ k, C k = true → saidAt S k (x k) w) (c : C j = true) (s : saidAt S j = Is v) : a = a0.put d v := by
  have h := H j c
  rw [s] at h
  rw [ha, q2, q1, show x j = v from h]
theorem rd2 {a0 a : Act} {x : Nat → Value} {w : World} {S : List (Value → World → Prop)} {C : Nat → Bool} {j i : Nat} {d e : Option Tmp} {v u : Value} (ha : a = puts a0 x [(j, d), (i, e)]) (H : ∀ k, C k = true → saidAt S k (x k) w) (c : C j = true) (c' : C i = true) (s : saidAt S j = Is v) (s' : saidAt S i = Is u) : a = (a0.put e u).put d v := by
  have h := H j c
  have h' := H i c'
  rw [s] at h
  rw [s'] at h'
  rw [ha, q2, q2, q1, show x j = v from h, show x i = u from h']
/-- how an operation ends -/
structure OpEnds (p : Plan) (D : World → World → Prop) (S U : List (Value → World → Prop)) (x : Nat → Value) (i : Nat) (w : World) (y : Value) (w' : World) : Prop where
  turn : if p.isCalm i = true then Step (fun _ => False) w w' else D w w'
  said : saidAt S i y w'
  left : saidAt U i (if p.refOf i = i then y else x (p.refOf i)) w'
  new : p.isFresh i = true → Fresh y w w'

/-- what operation number i must do, where it may panic too -/
def OpOblX (P : Program) (l : List Oper) (n : Nat) (p : Plan) (D : World → World → Prop) (H0 S0 : World → Prop) (S U : List (Value → World → Prop)) (X : List PanicEntry → World → Prop) (a0 : Act) (i : Nat) (o : Oper) : Prop :=
  ∀ (x : Nat → Value) (w : World), H0 w → (p.softB n i = true → S0 w) → (∀ k, p.useB n i k = true → saidAt S k (x k) w) → (∀ k, p.leftB n i k = true → saidAt U k (x (p.refOf k)) w) →
    ∀ a : Act, a = puts a0 x (p.readsD i) → ∀ Q' : Exit → Act → World → Prop, (∀ ch w', X ch w' → Q' (.panic ch) a w') → (∀ y w', OpEnds p D S U x i w y w' → Q' .normal (a.put o.dst y) w') → wpList P l.toArray Q' [o] a w
/-- what operation number i must do -/
def OpObl (P : Program) (l : List Oper) (n : Nat) (p : Plan) (D : World → World → Prop) (H0 S0 : World → Prop) (S U : List (Value → World → Prop)) (a0 : Act) (i : Nat) (o : Oper) : Prop :=
  ∀ (x : Nat → Value) (w : World), H0 w → (p.softB n i = true → S0 w) → (∀ k, p.useB n i k = true → saidAt S k (x k) w) → (∀ k, p.leftB n i k = true → saidAt U k (x (p.refOf k)) w) →
    ∀ a : Act, a = puts a0 x (p.readsD i) → ∀ Q' : Exit → Act → World → Prop, (∀ y w', OpEnds p D S U x i w y w' → Q' .normal (a.put o.dst y) w') → wpList P l.toArray Q' [o] a w

def EachOp (f : Nat → Oper → Prop) : Nat → List Oper → Prop
  | _, [] => True
  | i, o :: l => f i o ∧ EachOp f (i + 1) l
theorem EachOp.get {f : Nat → Oper → Prop} : ∀ {l : List Oper} {n : Nat}, EachOp f n l → ∀ {i o}, l[i]? = some o → f (n + i) o
  | [], _, _, i, o, h => by simp at h
  | o' :: l, n, h, 0, o, e => by
    have : o' = o := by simpa using e
    subst this; exact h.1
  | o' :: l, n, h, i + 1, o, e => by
    have := EachOp.get h.2 (i := i) (o := o) (by simpa using e)
    rwa [show n + (i + 1) = n + 1 + i by omega]
theorem EachOp.mono {f g : Nat → Oper → Prop} (h : ∀ i o, f i o → g i o) : ∀ {l : List Oper} {n : Nat}, EachOp f n l → EachOp g n l
  | [], _, _ => trivial
  | _ :: _, _, k => ⟨h _ _ k.1, EachOp.mono h k.2⟩
/-- what holds of each of the things said -/
def EachSaid (f : Nat → (Value → World → Prop) → Prop) : Nat → List (Value → World → Prop) → Prop
  | _, [] => True
  | i, s :: l => f i s ∧ EachSaid f (i + 1) l
theorem EachSaid.get {f : Nat → (Value → World → Prop) → Prop} : ∀ {l : List (Value → World → Prop)} {n : Nat}, EachSaid f n l → ∀ {i s}, l[i]? = some s → f (n + i) s
  | [], _, _, i, o, h => by simp at h
  | o' :: l, n, h, 0, o, e => by
    have : o' = o := by simpa using e
    subst this; exact h.1
  | o' :: l, n, h, i + 1, o, e => by
    have := EachSaid.get h.2 (i := i) (s := o) (by simpa using e)
    rwa [show n + (i + 1) = n + 1 + i by omega]
theorem saidAt_of {f : (Value → World → Prop) → Prop} {S : List (Value → World → Prop)} (h0 : f fun _ _ => True) (h : ∀ (i : Nat) (s : Value → World → Prop), S[i]? = some s → f s) (k : Nat) : f (saidAt S k) := by
  unfold saidAt
  rw [List.getD_eq_getElem?_getD]
  cases e : S[k]? with
  | none => exact h0
  | some s => exact h k s e

section proof
variable {l : List Oper} {n : Nat} {p : Plan} {D : World → World → Prop} {H0 S0 : World → Prop} {S U : List (Value → World → Prop)} {a0 : Act} {Q : Exit → Act → World → Prop}

/-- the plan's parts, out of its Bool -/
structure Planned (p : Plan) (l : List Oper) (n : Nat) : Prop where
  sel : Region.noSelect l.toArray = true
  le : n ≤ l.length
  seq : Region.seqB .any l.toArray (l.drop n).length n (Array.replicate n true ++ Array.replicate (l.length - n) false) = true
  lower : ∀ i o, l[i]? = some o → ∀ e ∈ o.after, Region.binds .any e = true → e.on < i
  anc : ∀ i o, l[i]? = some o → ∀ k ∈ p.anc i, directB o k = true ∨ ∃ m, m < i ∧ directB o m = true ∧ k ∈ p.anc m
  low : ∀ i, i < n → ∀ k ∈ p.anc i, k < n
  ref : ∀ i, i < n → p.refOf i = i ∨ p.refOf i ∈ p.anc i
  reads : ∀ i, i < n → ∀ k ∈ p.reads i, k ∈ p.anc i
  readsD : ∀ i, i < n → p.readsD i = withDst l.toArray (p.reads i)
  all : p.all = withDst l.toArray (List.range n).reverse
  dst : ∀ i j d, i < n → j < n → i ≠ j → dstOf l.toArray j = some d → dstOf l.toArray i ≠ some d
  looks : ∀ i j o d, i < n → l[i]? = some o → j < n → i ≠ j → dstOf l.toArray j = some d → d ∈ o.looksAt l.toArray → j ∈ p.reads i ∨ i ∈ p.anc j
  last : ∀ i, n ≤ i → i < l.length → ∀ k, k < n → k ∈ p.anc i
theorem planned (h : planB p l n = true) : Planned p l n := by
  unfold planB at h
  simp only [Bool.and_eq_true, List.all_eq_true, List.mem_range, decide_eq_true_eq] at h
  obtain ⟨⟨⟨h0, hn, hA⟩, h⟩, hq⟩ := h
  have hi : ∀ i o, l[i]? = some o → i < l.length := fun i o e => (List.getElem?_eq_some_iff.1 e).1
  have g := fun i o (e : l[i]? = some o) => by have := h i (hi i o e); rw [e] at this; exact this
  simp only [Bool.and_eq_true, List.all_eq_true, Array.all_eq_true_iff_forall_mem, Bool.or_eq_true, Bool.not_eq_true', decide_eq_true_eq, List.any_eq_true, List.contains_iff_mem, List.mem_range] at g
  have get : ∀ i (hin : i < n), l[i]? = some (l[i]'(Nat.lt_of_lt_of_le hin hn)) := fun i hin => List.getElem?_eq_getElem _
  have gn : ∀ i o, i < n → l[i]? = some o → _ := fun i o hin e => by have := (g i o e).2; rw [if_pos hin] at this; exact this
  simp only [Bool.and_eq_true, List.all_eq_true, Bool.or_eq_true,  decide_eq_true_eq, List.contains_iff_mem, List.mem_range, beq_iff_eq] at gn
  refine ⟨h0, hn, hq, fun i o e b hb hbi => ?_, fun i o e k hk => ?_, fun i hin k hk => (gn i _ hin (get i hin)).1.1.1 k hk, fun i hin => (gn i _ hin (get i hin)).1.1.2, fun i hin k hk => (gn i _ hin (get i hin)).1.2.1 k hk, fun i hin => (gn i _ hin (get i hin)).1.2.2, hA,
    fun i j d hin hj hne hd => ?_, fun i j o d hin e hj hne hd hl => ?_, fun i hni hil k hk => ?_⟩
  · rcases (g i o e).1.1 b hb with h | h
    · rw [h] at hbi; cases hbi
    · exact h
  · refine ((g i o e).1.2 k hk).imp id ?_
    rintro ⟨m, hm, h3, h4⟩
    exact ⟨m, hm, h3, h4⟩
  · have := ((gn i _ hin (get i hin)).2 j hj).resolve_left hne
    rw [hd] at this
    simp only [Bool.and_eq_true, bne_iff_ne] at this
    exact this.1
  · have := ((gn i o hin e).2 j hj).resolve_left hne
    rw [hd] at this
    simp only [Bool.and_eq_true, Bool.or_eq_true, Bool.not_eq_true', bne_iff_ne, List.contains_iff_mem] at this
    rcases this.2 with (h | h) | h
    · have : (o.looksAt l.toArray).contains d = true := by simpa using hl
      rw [h] at this; cases this
    · exact .inl h
    · exact .inr h
  · have := (g i _ (List.getElem?_eq_getElem hil)).2
    rw [if_neg (by omega)] at this
    simp only [List.all_eq_true, List.mem_range, List.contains_iff_mem] at this
    exact this k hk

def Closed (l : List Oper) (listed : Array Bool) : Prop := ∀ j o, l[j]? = some o → listed.getD j false = true → ∀ e ∈ o.after, Region.binds .any e = true → listed.getD e.on false = true

theorem direct_mem {o : Oper} {k : Nat} (h : directB o k = true) : ∃ e ∈ o.after, Region.binds .any e = true ∧ e.on = k := by
  unfold directB at h
  obtain ⟨e, he, hb⟩ := Array.any_eq_true'.1 h
  simp only [Bool.and_eq_true, beq_iff_eq] at hb
  exact ⟨e, he, hb.1, hb.2⟩
theorem anc_listed (hp : Planned p l n) {listed : Array Bool} (hc : Closed l listed) : ∀ (i : Nat) (o : Oper), l[i]? = some o → (∀ e ∈ o.after, Region.binds .any e = true → listed.getD e.on false = true) → ∀ k ∈ p.anc i, listed.getD k false = true := by
  intro i
  induction i using Nat.strongRecOn with
  | ind i ih =>
    intro o ho hall k hk
    rcases hp.anc i o ho k hk with h | ⟨m, hm, h, hkm⟩
    · obtain ⟨e, he, hb, rfl⟩ := direct_mem h
      exact hall e he hb
    · obtain ⟨e, he, hb, rfl⟩ := direct_mem h
      have hl := hall e he hb
      have hlt : e.on < l.length := Nat.lt_trans hm (List.getElem?_eq_some_iff.1 ho).1
      exact ih e.on hm _ (List.getElem?_eq_getElem hlt) (hc _ _ (List.getElem?_eq_getElem hlt) hl) k hkm

/-- what is so while the region runs -/
structure EachInv (l : List Oper) (n : Nat) (p : Plan) (H0 S0 : World → Prop) (S U : List (Value → World → Prop)) (a0 : Act) (w0 : World) (listed : Array Bool) (a : Act) (w : World) : Prop where
  size : listed.size = l.length
  closed : Closed l listed
  rest : ∀ j, n ≤ j → listed.getD j false = false
  ex : ∃ (x : Nat → Value) (ks : List Nat), (∀ k, k ∈ ks ↔ k < n ∧ listed.getD k false = true) ∧ a = puts a0 x (withDst l.toArray ks) ∧ H0 w ∧ ((∀ j, j < n → listed.getD j false = true → p.isCalm j = true) → S0 w) ∧
    (∀ k, k ∈ ks → (p.isHard k = true ∨ ∀ j, j < n → listed.getD j false = true → p.isCalm j = true ∨ j = k ∨ j ∈ p.anc k) → saidAt S k (x k) w) ∧
    (∀ k, k ∈ ks → (∀ j, j < n → listed.getD j false = true → p.isCalm j = true ∨ j = k ∨ j ∈ p.anc k) → saidAt U k (x (p.refOf k)) w) ∧
    w0.heap.size ≤ w.heap.size ∧ (∀ k ∈ ks, p.isFresh k = true → ∃ b, blockIn (x k) = some b ∧ w0.heap.size ≤ b ∧ b < w.heap.size) ∧
    ∀ i ∈ ks, ∀ j ∈ ks, i ≠ j → p.isFresh i = true → p.isFresh j = true → blockIn (x i) ≠ blockIn (x j)

theorem withDst_mem {ops : Array Oper} {ks : List Nat} {q : Nat × Option Tmp} (h : q ∈ withDst ops ks) : q.1 ∈ ks ∧ q.2 = dstOf ops q.1 := by
  obtain ⟨k, hk, rfl⟩ := List.mem_map.1 h
  exact ⟨hk, rfl⟩
theorem withDst_of {ops : Array Oper} {ks : List Nat} {k : Nat} {t : Tmp} (h : k ∈ ks) (hd : dstOf ops k = some t) : (k, some t) ∈ withDst ops ks := List.mem_map.2 ⟨k, h, by rw [hd]⟩

theorem each_step (hp : Planned p l n) {w0 : World} (hD : ∀ w w', D w w' → w.heap.size ≤ w'.heap.size)
    (stab : ∀ w w', Step (fun _ => False) w w' → (H0 w → H0 w') ∧ (S0 w → S0 w') ∧ (∀ k y, saidAt S k y w → saidAt S k y w') ∧ ∀ k y, saidAt U k y w → saidAt U k y w')
    (stabD : ∀ w w', D w w' → (H0 w → H0 w') ∧ ∀ k, p.isHard k = true → ∀ y, saidAt S k y w → saidAt S k y w')
    {X : List PanicEntry → World → Prop} (hX : ∀ ch a' w', a'.defers = a0.defers → X ch w' → Q (.panic ch) a' w') (hop : EachOp (OpOblX P l n p D H0 S0 S U X a0) 0 (l.take n)) {listed : Array Bool} {a : Act} {w : World} (I : EachInv l n p H0 S0 S U a0 w0 listed a w) {i : Nat} (hi : i ∈ Region.ready .any l.toArray listed) (hin : i < n) :
    wpOp P l.toArray Q i (fun a' w' => EachInv l n p H0 S0 S U a0 w0 (listed.setIfInBounds i true) a' w') a w := by
  have hnl := hp.le
  obtain ⟨hun, o, ho, hall⟩ := mem_ready.1 hi
  have ho' : l[i]? = some o := by simpa using ho
  have hil : i < l.length := (List.getElem?_eq_some_iff.1 ho').1
  obtain ⟨hz, hc, hre, x, ks, hks, rfl, hH, hS0, hS, hU, hsz, hfr, hdis⟩ := I
  have hunf : listed.getD i false = false := by
    have hlt : i < listed.size := by omega
    simp only [Array.getD_eq_getD_getElem?, hlt, Array.getElem?_eq_getElem, Option.getD_some] at hun ⊢; exact hun
  have hik : i ∉ ks := fun h => by rw [((hks i).1 h).2] at hunf; cases hunf
  have hanc : ∀ k ∈ p.anc i, listed.getD k false = true := anc_listed hp hc i o ho' hall
  have hnot : ∀ j, j < n → listed.getD j false = true → i ∉ p.anc j := fun j hj hl h => by
    have hj' : j < l.length := by omega
    have := anc_listed hp hc j _ (List.getElem?_eq_getElem hj') (hc j _ (List.getElem?_eq_getElem hj') hl) i h
    rw [this] at hunf; cases hunf
  have hdst : o.dst = dstOf l.toArray i := by simp [dstOf, ho']
  refine wpOp_of_list (R := fun y w' => OpEnds p D S U x i w y w') ho (Region.noSelect_spec hp.sel i o · · ho)
    (a := puts a0 x (withDst l.toArray (p.reads i))) (by rw [puts_size, puts_size]) ?_ (fun ch w' hx => hX ch _ w' (puts_defers _ _ _) hx) ?_ ?_
  · intro t ht
    by_cases hk : ∃ k, k < n ∧ dstOf l.toArray k = some t ∧ k ∈ ks
    · obtain ⟨k, hkl, hkd, hkk⟩ := hk
      have hne : i ≠ k := fun e => hik (e ▸ hkk)
      have hr : k ∈ p.reads i := (hp.looks i k o t hin ho' hkl hne hkd ht).resolve_right (hnot k hkl ((hks k).1 hkk).2)
      have uniq : ∀ (js : List Nat), (∀ j ∈ js, j < n) → ∀ kd ∈ withDst l.toArray js, kd.2 = some t → kd.1 = k := by
        intro js hjs kd hkd' he
        obtain ⟨h1, h2⟩ := withDst_mem hkd'
        by_cases hjk : kd.1 = k
        · exact hjk
        · exact absurd (h2.symm.trans he) (hp.dst kd.1 k t (hjs _ h1) hkl hjk hkd)
      rw [puts_there a0 x t k _ (withDst_of hr hkd) (uniq _ fun j hj => hp.low i hin j (hp.reads i hin j hj)),
        puts_there a0 x t k _ (withDst_of hkk hkd) (uniq _ fun j hj => ((hks j).1 hj).1)]
    · have away : ∀ (js : List Nat), (∀ j ∈ js, j < n ∧ j ∈ ks) → ∀ kd ∈ withDst l.toArray js, kd.2 ≠ some t := by
        intro js hjs kd hkd he
        obtain ⟨h1, h2⟩ := withDst_mem hkd
        exact hk ⟨kd.1, (hjs _ h1).1, h2.symm.trans he, (hjs _ h1).2⟩
      rw [puts_away a0 x t _ (away _ fun j hj => ⟨hp.low i hin j (hp.reads i hin j hj), (hks j).2 ⟨hp.low i hin j (hp.reads i hin j hj), hanc j (hp.reads i hin j hj)⟩⟩),
        puts_away a0 x t _ (away _ fun j hj => ⟨((hks j).1 hj).1, hj⟩)]
  · intro Q' hX' hQ'
    have O := hop.get (i := i) (o := o) (by rw [List.getElem?_take, if_pos hin]; exact ho')
    rw [Nat.zero_add] at O
    unfold OpOblX at O
    rw [hp.readsD i hin] at O
    refine O x w hH (fun hs => hS0 fun j hj hl => ?_) (fun k hu => ?_) (fun k hu => ?_) _ rfl Q' hX' hQ'
    · unfold Plan.softB at hs
      have := List.all_eq_true.1 hs j (List.mem_range.2 hj)
      simp only [Bool.or_eq_true, beq_iff_eq, List.contains_iff_mem] at this
      rcases this with (h | h) | h
      · exact h
      · subst h; rw [hl] at hunf; cases hunf
      · exact absurd h (hnot j hj hl)
    · unfold Plan.useB at hu
      simp only [Bool.and_eq_true, Bool.or_eq_true, List.contains_iff_mem, List.all_eq_true, List.mem_range, beq_iff_eq] at hu
      have hkl := hp.low i hin k hu.1
      refine hS k ((hks k).2 ⟨hkl, hanc k hu.1⟩) (hu.2.imp id fun h j hj hl => ?_)
      rcases h j hj with (((h | h) | h) | h) | h
      · exact .inl h
      · subst h; rw [hl] at hunf; cases hunf
      · exact .inr (.inl h)
      · exact .inr (.inr h)
      · exact absurd h (hnot j hj hl)
    · unfold Plan.leftB at hu
      simp only [Bool.and_eq_true, Bool.or_eq_true, List.contains_iff_mem, List.all_eq_true, List.mem_range, beq_iff_eq] at hu
      have hkl := hp.low i hin k hu.1
      refine hU k ((hks k).2 ⟨hkl, hanc k hu.1⟩) fun j hj hl => ?_
      rcases hu.2 j hj with (((h | h) | h) | h) | h
      · exact .inl h
      · subst h; rw [hl] at hunf; cases hunf
      · exact .inr (.inl h)
      · exact .inr (.inr h)
      · exact absurd h (hnot j hj hl)
  · rintro y w' ⟨hr, hs, hu, hf⟩
    have hsz' : w.heap.size ≤ w'.heap.size := by
      split at hr
      · exact hr.size
      · exact hD _ _ hr
    have set_ne : ∀ {j}, j ≠ i → (listed.setIfInBounds i true).getD j false = listed.getD j false := fun h => getD_set_ne false (Ne.symm h)
    have set_eq : (listed.setIfInBounds i true).getD i false = true := by simp [hz, hil]
    refine ⟨by simpa using hz, ?_, ?_, upd x i y, i :: ks, ?_, ?_, ?_, ?_, ?_, ?_, Nat.le_trans hsz hsz', ?_, ?_⟩
    · intro j oj hj hl e he hb
      by_cases hji : j = i
      · subst hji
        have : oj = o := Option.some.inj (hj.symm.trans ho')
        subst this
        exact getD_set_true (hall e he hb)
      · rw [set_ne hji] at hl
        exact getD_set_true (hc j oj hj hl e he hb)
    · intro j hj
      rw [set_ne (by omega)]; exact hre j hj
    · intro k
      by_cases hki : k = i
      · subst hki; simp only [List.mem_cons_self, true_iff]; exact ⟨hin, set_eq⟩
      · rw [set_ne hki, List.mem_cons, hks k]
        exact ⟨fun h => h.resolve_left hki, .inr⟩
    · show (puts a0 x (withDst l.toArray ks)).put o.dst y = (puts a0 (upd x i y) (withDst l.toArray ks)).put (dstOf l.toArray i) (upd x i y i)
      rw [puts_upd a0 x i y _ fun kd hkd e => hik (e ▸ (withDst_mem hkd).1), upd_same, hdst]
    · split at hr
      · exact (stab w w' hr).1 hH
      · exact (stabD w w' hr).1 hH
    · intro hcalm
      have hci := hcalm i hin set_eq
      rw [if_pos hci] at hr
      refine (stab w w' hr).2.1 (hS0 fun j hj hl => hcalm j hj ?_)
      exact getD_set_true hl
    · intro k hk hal
      by_cases hki : k = i
      · subst hki; rw [upd_same]; exact hs
      · rw [upd_other x y hki]
        have hkk : k ∈ ks := (List.mem_cons.1 hk).resolve_left hki
        have hold := hS k hkk (hal.imp id fun h j hj hl => h j hj (getD_set_true hl))
        split at hr
        · exact (stab w w' hr).2.2.1 k _ hold
        · rename_i hnc
          refine (stabD w w' hr).2 k ?_ _ hold
          rcases hal with h | h
          · exact h
          · rcases h i hin set_eq with h | h | h
            · exact absurd h hnc
            · exact absurd h.symm hki
            · exact absurd h (hnot k ((hks k).1 hkk).1 ((hks k).1 hkk).2)
    · intro k hk hal
      by_cases hki : k = i
      · subst hki
        by_cases hr0 : p.refOf k = k
        · rw [if_pos hr0] at hu; rw [hr0, upd_same]; exact hu
        · rw [if_neg hr0] at hu; rw [upd_other x y hr0]; exact hu
      · have hkk : k ∈ ks := (List.mem_cons.1 hk).resolve_left hki
        have hkl := (hks k).1 hkk
        have hri : p.refOf k ≠ i := by
          rcases hp.ref k hkl.1 with h | h
          · rw [h]; exact hki
          · intro e
            rw [e] at h
            exact hnot k hkl.1 hkl.2 h
        rw [upd_other x y hri]
        have hold := hU k hkk fun j hj hl => hal j hj (getD_set_true hl)
        split at hr
        · exact (stab w w' hr).2.2.2 k _ hold
        · rename_i hnc
          rcases hal i hin set_eq with h | h | h
          · exact absurd h hnc
          · exact absurd h.symm hki
          · exact absurd h (hnot k ((hks k).1 hkk).1 ((hks k).1 hkk).2)
    · intro k hk hfk
      by_cases hki : k = i
      · subst hki; rw [upd_same]
        obtain ⟨b, h1, h2, h3⟩ := hf hfk
        exact ⟨b, h1, Nat.le_trans hsz h2, h3⟩
      · rw [upd_other x y hki]
        obtain ⟨b, h1, h2, h3⟩ := hfr k ((List.mem_cons.1 hk).resolve_left hki) hfk
        exact ⟨b, h1, h2, Nat.lt_of_lt_of_le h3 hsz'⟩
    · intro j hj k hk hne fj fk
      by_cases hji : j = i
      · subst hji
        have hkj : k ≠ j := Ne.symm hne
        rw [upd_same, upd_other x y hkj]
        obtain ⟨b, h1, h2, _⟩ := hf fj
        obtain ⟨c, g1, _, g3⟩ := hfr k ((List.mem_cons.1 hk).resolve_left hkj) fk
        rw [h1, g1]
        intro e
        have := Option.some.inj e
        omega
      · by_cases hki : k = i
        · subst hki
          rw [upd_same, upd_other x y hji]
          obtain ⟨b, h1, h2, _⟩ := hf fk
          obtain ⟨c, g1, _, g3⟩ := hfr j ((List.mem_cons.1 hj).resolve_left hji) fj
          rw [h1, g1]
          intro e
          have := Option.some.inj e
          omega
        · rw [upd_other x y hji, upd_other x y hki]
          exact hdis j ((List.mem_cons.1 hj).resolve_left hji) k ((List.mem_cons.1 hk).resolve_left hki) hne fj fk

def countOff : Nat → Array Bool → Nat
  | 0, _ => 0
  | n + 1, listed => countOff n listed + (if listed.getD n false = true then 0 else 1)
theorem countOff_set (listed : Array Bool) (i : Nat) (hi : i < listed.size) (hu : listed.getD i false = false) : ∀ n, countOff n (listed.setIfInBounds i true) + (if i < n then 1 else 0) = countOff n listed
  | 0 => by simp [countOff]
  | n + 1 => by
    have ih := countOff_set listed i hi hu n
    simp only [countOff]
    by_cases hin : n = i
    · subst hin
      rw [if_neg (Nat.lt_irrefl _)] at ih
      have e : (listed.setIfInBounds n true).getD n false = true := by simp [hi]
      rw [e, hu, if_pos rfl, if_pos (Nat.lt_succ_self _), if_neg (by simp)]
      omega
    · rw [getD_set_ne false (Ne.symm hin)]
      by_cases h : i < n
      · rw [if_pos h] at ih; rw [if_pos (show i < n + 1 by omega)]; omega
      · rw [if_neg h] at ih; rw [if_neg (show ¬ i < n + 1 by omega)]; omega
theorem countOff_zero (listed : Array Bool) : ∀ n, countOff n listed = 0 → ∀ i, i < n → listed.getD i false = true
  | 0, _, i, h => by omega
  | n + 1, h0, i, h => by
    simp only [countOff] at h0
    by_cases e : listed.getD n false = true
    · by_cases hin : i = n
      · subst hin; exact e
      · exact countOff_zero listed n (by omega) i (by omega)
    · rw [if_neg e] at h0; omega
theorem getD_true_of {listed : Array Bool} {i : Nat} (hi : i < listed.size) (h : listed.getD i false = false) : listed.getD i true = false := by
  simp only [Array.getD_eq_getD_getElem?, hi, Array.getElem?_eq_getElem, Option.getD_some] at h ⊢; exact h

/-- while one of the first is left, one of them may come up -/
theorem some_ready (hp : Planned p l n) {listed : Array Bool} (hz : listed.size = l.length) : ∀ i, i < n → listed.getD i false = false → ∃ j, j < n ∧ j ∈ Region.ready .any l.toArray listed := by
  intro i
  have hnl := hp.le
  induction i using Nat.strongRecOn with
  | ind i ih =>
    intro hi hu
    have hil : i < l.length := by omega
    have ho : l[i]? = some l[i] := List.getElem?_eq_getElem hil
    by_cases h : ∃ m, m < i ∧ listed.getD m false = false
    · obtain ⟨m, hm, hu'⟩ := h
      exact ih m hm (by omega) hu'
    · refine ⟨i, hi, mem_ready.2 ⟨getD_true_of (by omega) hu, l[i], by simp [ho], fun e he hb => ?_⟩⟩
      have hlow := hp.lower i _ ho e he hb
      by_cases hl : listed.getD e.on false = true
      · exact hl
      · exact absurd ⟨e.on, hlow, by simpa using hl⟩ h

/-- THE RULE, where an operation may panic, too: the first n operations in whatever order, each by what it must do; those behind them one after the other -/
theorem wp_region_eachX {rid : Nat} {w0 : World} (n : Nat) (p : Plan) (D : World → World → Prop) (H0 S0 : World → Prop) (S U : List (Value → World → Prop)) (hm : P.follows .mixedOrders = true) (hB : planB p l n = true)
    (hD : ∀ w w', D w w' → w.heap.size ≤ w'.heap.size) (h0 : H0 w0.drew) (s0 : S0 w0.drew)
    (stab : ∀ w w', Step (fun _ => False) w w' → (H0 w → H0 w') ∧ (S0 w → S0 w') ∧ EachSaid (fun _ s => ∀ y, s y w → s y w') 0 S ∧ EachSaid (fun _ s => ∀ y, s y w → s y w') 0 U)
    (stabD : ∀ w w', D w w' → (H0 w → H0 w') ∧ EachSaid (fun k s => p.isHard k = true → ∀ y, s y w → s y w') 0 S)
    {X : List PanicEntry → World → Prop} (hX : ∀ ch a' w', a'.defers = a0.defers → X ch w' → Q (.panic ch) a' w') (hop : EachOp (OpOblX P l n p D H0 S0 S U X a0) 0 (l.take n))
    (fin : ∀ (x : Nat → Value) (w' : World), H0 w' → ((List.range n).all p.isCalm = true → S0 w') → (∀ k, k < n → p.endB n k = true → saidAt S k (x k) w') → (∀ k, k < n → p.endL n k = true → saidAt U k (x (p.refOf k)) w') → w0.heap.size ≤ w'.heap.size →
      (∀ k, k < n → p.isFresh k = true → ∃ b, blockIn (x k) = some b ∧ w0.heap.size ≤ b ∧ b < w'.heap.size) →
      (∀ i, i < n → ∀ j, j < n → i ≠ j → p.isFresh i = true → p.isFresh j = true → blockIn (x i) ≠ blockIn (x j)) →
      wpList P l.toArray Q (l.drop n) (puts a0 x p.all) w') :
    (Code.region rid l.toArray true).wp P Q a0 w0 := by
  have hp := planned hB
  have hnl := hp.le
  have stab' : ∀ w w', Step (fun _ => False) w w' → (H0 w → H0 w') ∧ (S0 w → S0 w') ∧ (∀ k y, saidAt S k y w → saidAt S k y w') ∧ ∀ k y, saidAt U k y w → saidAt U k y w' := fun w w' h => by
    obtain ⟨h1, h2, h3, h4⟩ := stab w w' h
    refine ⟨h1, h2, fun k => saidAt_of (f := fun s => ∀ y, s y w → s y w') (fun _ _ => trivial) (fun i s e => ?_) k, fun k => saidAt_of (f := fun s => ∀ y, s y w → s y w') (fun _ _ => trivial) (fun i s e => ?_) k⟩
    · exact h3.get e
    · exact h4.get e
  have stabD' : ∀ w w', D w w' → (H0 w → H0 w') ∧ ∀ k, p.isHard k = true → ∀ y, saidAt S k y w → saidAt S k y w' := fun w w' h => by
    obtain ⟨h1, h3⟩ := stabD w w' h
    refine ⟨h1, fun k hk => ?_⟩
    unfold saidAt
    rw [List.getD_eq_getElem?_getD]
    cases e : S[k]? with
    | none => exact fun _ _ => trivial
    | some s => exact h3.get e (by simpa using hk)
  refine wp_region_any hm ?_
  have main : ∀ (fuel : Nat) (listed : Array Bool) (a : Act) (w : World), countOff n listed + (l.drop n).length = fuel → EachInv l n p H0 S0 S U a0 w0 listed a w → wpAny P .any l.toArray Q fuel listed a w := by
    intro fuel
    induction fuel with
    | zero => _
    | succ fuel ih => _
    all_goals
      intro listed a w hfuel I
      by_cases hc : countOff n listed = 0
      · have hall := countOff_zero listed n hc
        obtain ⟨hz, hcl, hre, x, ks, hks, rfl, hH, hS0, hS, hU, hsz, hfr, hdis⟩ := I
        have hmem : ∀ k, k ∈ ks ↔ k < n := fun k => by rw [hks k]; exact ⟨fun h => h.1, fun h => ⟨h, hall k h⟩⟩
        have e : puts a0 x (withDst l.toArray ks) = puts a0 x (withDst l.toArray (List.range n).reverse) := by
          refine puts_same a0 x (fun kd => ?_) (fun q hq r hr e hn => ?_)
          · unfold withDst; simp only [List.mem_map, List.mem_reverse, List.mem_range, hmem]
          · obtain ⟨q1, q2⟩ := withDst_mem hq
            obtain ⟨r1, r2⟩ := withDst_mem hr
            by_cases hqr : q.1 = r.1
            · exact hqr
            · exfalso
              cases hd : q.2 with
              | none => exact hn hd
              | some d => exact hp.dst q.1 r.1 d ((hmem _).1 q1) ((hmem _).1 r1) hqr (by rw [← r2, ← e, hd]) (by rw [← q2, hd])
        rw [e, ← hp.all]
        have hlist : listed = Array.replicate n true ++ Array.replicate (l.length - n) false := by
          apply Array.ext_getElem?
          intro i
          by_cases hi : i < listed.size
          · have hv : listed[i]? = some (listed.getD i false) := by simp [hi]
            rw [hv]
            by_cases hin : i < n
            · rw [hall i hin, Array.getElem?_append_left (by simpa using hin)]; simp [hin]
            · have hlt : i - n < l.length - n := by omega
              rw [hre i (by omega), Array.getElem?_append_right (by simp; omega)]
              simp [hlt]
          · rw [Array.getElem?_eq_none (by omega), Array.getElem?_eq_none (by simp; omega)]
        rw [hc, Nat.zero_add] at hfuel
        rw [← hfuel]
        refine wpAny_of_seq (l.drop n) n listed _ w (fun j => by simp [List.getElem?_drop]) (by rw [hlist]; exact hp.seq) ?_
        refine fin x w hH (fun hcalm => hS0 fun j hj _ => ?_) (fun k hk he => hS k ((hmem k).2 hk) ?_) (fun k hk he => hU k ((hmem k).2 hk) ?_) hsz (fun k hk hf => hfr k ((hmem k).2 hk) hf) fun i hi j hj => hdis i ((hmem i).2 hi) j ((hmem j).2 hj)
        · exact List.all_eq_true.1 hcalm j (List.mem_range.2 hj)
        · unfold Plan.endB at he
          simp only [Bool.or_eq_true, List.all_eq_true, List.mem_range, beq_iff_eq, List.contains_iff_mem] at he
          refine he.imp (fun h => h) fun h j hj _ => ?_
          rcases h j hj with (h | h) | h
          · exact .inl h
          · exact .inr (.inl h)
          · exact .inr (.inr h)
        · unfold Plan.endL at he
          simp only [Bool.or_eq_true, List.all_eq_true, List.mem_range, beq_iff_eq, List.contains_iff_mem] at he
          intro j hj _
          rcases he j hj with (h | h) | h
          · exact .inl h
          · exact .inr (.inl h)
          · exact .inr (.inr h)
      · first
        | exact absurd (show countOff n listed = 0 by omega) hc
        | (have hex : ∃ i, i < n ∧ listed.getD i false = false := by
            by_cases h : ∃ i, i < n ∧ listed.getD i false = false
            · exact h
            · exfalso
              refine hc ?_
              have : ∀ m, m ≤ n → countOff m listed = 0 := by
                intro m
                induction m with
                | zero => intro _; rfl
                | succ m ihm =>
                  intro hm
                  simp only [countOff]
                  rw [ihm (by omega), if_pos]
                  by_cases h' : listed.getD m false = true
                  · exact h'
                  · exact absurd ⟨m, by omega, by simpa using h'⟩ h
              exact this n (Nat.le_refl _)
           obtain ⟨i0, hi0, hu0⟩ := hex
           obtain ⟨j0, hj0, hr0⟩ := some_ready hp I.size i0 hi0 hu0
           refine ⟨fun h => (by rw [h] at hr0; cases hr0), fun i hi => ?_⟩
           obtain ⟨hun, o, ho, hall⟩ := mem_ready.1 hi
           have ho' : l[i]? = some o := by simpa using ho
           have hil : i < l.length := (List.getElem?_eq_some_iff.1 ho').1
           have hlt : i < listed.size := by rw [I.size]; exact hil
           have hin : i < n := by
             by_cases h : i < n
             · exact h
             · exfalso
               have := anc_listed hp I.closed i o ho' hall i0 (hp.last i (by omega) hil i0 hi0)
               rw [this] at hu0; cases hu0
           have hu : listed.getD i false = false := by
             simp only [Array.getD_eq_getD_getElem?, hlt, Array.getElem?_eq_getElem, Option.getD_some] at hun ⊢; exact hun
           have hcnt := countOff_set listed i hlt hu n
           rw [if_pos hin] at hcnt
           exact wpOp_mono (fun a' w' h => ih _ a' w' (by omega) h) (each_step hp hD stab' stabD' hX hop I hi hin))
  have hrep : ∀ k, (Array.replicate l.toArray.size false).getD k false = false := fun k => by
    simp only [Array.getD_eq_getD_getElem?, Array.getElem?_replicate]; split <;> rfl
  refine main _ _ _ _ ?_ ?_
  · have : ∀ n (listed : Array Bool), (∀ k, listed.getD k false = false) → countOff n listed = n := fun n listed h => by
      induction n with
      | zero => rfl
      | succ n ih => simp only [countOff]; rw [h n, ih]; simp
    rw [this n _ hrep]; simp; omega
  · refine ⟨by simp, fun j o _ hl => ?_, fun j _ => hrep j, fun _ => undef, [], fun k => ?_, rfl, h0, fun _ => s0, fun k hk => by simp at hk, fun k hk => by simp at hk, Nat.le_refl _, fun k hk => by simp at hk, fun i hi => by simp at hi⟩
    · exfalso; rw [hrep j] at hl; cases hl
    · rw [hrep k]; simp
/-- THE RULE: the first n operations in whatever order, each by what it must do; those behind them one after the other -/
theorem wp_region_each {rid : Nat} {w0 : World} (n : Nat) (p : Plan) (D : World → World → Prop) (H0 S0 : World → Prop) (S U : List (Value → World → Prop)) (hm : P.follows .mixedOrders = true) (hB : planB p l n = true)
    (hD : ∀ w w', D w w' → w.heap.size ≤ w'.heap.size) (h0 : H0 w0.drew) (s0 : S0 w0.drew)
    (stab : ∀ w w', Step (fun _ => False) w w' → (H0 w → H0 w') ∧ (S0 w → S0 w') ∧ EachSaid (fun _ s => ∀ y, s y w → s y w') 0 S ∧ EachSaid (fun _ s => ∀ y, s y w → s y w') 0 U)
    (stabD : ∀ w w', D w w' → (H0 w → H0 w') ∧ EachSaid (fun k s => p.isHard k = true → ∀ y, s y w → s y w') 0 S)
    (hop : EachOp (OpObl P l n p D H0 S0 S U a0) 0 (l.take n))
    (fin : ∀ (x : Nat → Value) (w' : World), H0 w' → ((List.range n).all p.isCalm = true → S0 w') → (∀ k, k < n → p.endB n k = true → saidAt S k (x k) w') → (∀ k, k < n → p.endL n k = true → saidAt U k (x (p.refOf k)) w') → w0.heap.size ≤ w'.heap.size →
      (∀ k, k < n → p.isFresh k = true → ∃ b, blockIn (x k) = some b ∧ w0.heap.size ≤ b ∧ b < w'.heap.size) →
      (∀ i, i < n → ∀ j, j < n → i ≠ j → p.isFresh i = true → p.isFresh j = true → blockIn (x i) ≠ blockIn (x j)) →
      wpList P l.toArray Q (l.drop n) (puts a0 x p.all) w') :
    (Code.region rid l.toArray true).wp P Q a0 w0 :=
  wp_region_eachX n p D H0 S0 S U hm hB hD h0 s0 stab stabD (X := fun _ _ => False) (fun _ _ _ _ h => h.elim) (hop.mono fun _ _ h x w a b c d e f Q' _ g => h x w a b c d e f Q' g) fin
end proof
end
end

/-- a new variable's block, whole -/
def IsNew (W : World) (o : Obj) (y : Value) (w : World) : Prop := ∃ b, y = .pointer (some ⟨b, 0, none⟩) ∧ W.heap.size ≤ b ∧ w.heap[b]? = some o
theorem lt_obj {w : World} {b : Nat} {o : Obj} (h : w.heap[b]? = some o) : b < w.heap.size := (Array.getElem?_eq_some_iff.1 h).1
theorem IsNew.stable {W : World} {o : Obj} {y : Value} {w w' : World} (h : Step (fun _ => False) w w') (k : IsNew W o y w) : IsNew W o y w' := by
  obtain ⟨b, e, l, k⟩ := k
  exact ⟨b, e, l, (h.block b (lt_obj k) (fun x => x)).trans k⟩

/-! ### Stores of a value of several cells -/
theorem set_known {w : World} {b : Nat} {c : Array Value} {T : TypeId} (h : w.heap[b]? = some (.cells c T (0, 0))) (i : Nat) (u : Value) : (w.setCell ⟨b, i, none⟩ u).heap[b]? = some (.cells (c.setIfInBounds i u) T (0, 0)) := by
  unfold World.setCell
  simp [Array.getElem?_modify, h]
theorem set_other {w : World} {b : Nat} (a : Addr) (u : Value) (h : b ≠ a.block) : (w.setCell a u).heap[b]? = w.heap[b]? := Below.heap_setCell w a u b h
section
variable {w : World} {b : Nat} {T : TypeId} {u0 u1 u2 u3 u4 u5 u6 u7 : Value}
theorem set2_known (h : w.heap[b]? = some (.cells #[u0, u1] T (0, 0))) (v0 v1 : Value) : ((w.setCell ⟨b, 0, none⟩ v0).setCell ⟨b, 1, none⟩ v1).heap[b]? = some (.cells #[v0, v1] T (0, 0)) := by
  rw [set_known (set_known h _ _) _ _]; rfl
theorem set4_known (h : w.heap[b]? = some (.cells #[u0, u1, u2, u3] T (0, 0))) (v0 v1 v2 v3 : Value) : ((((w.setCell ⟨b, 0, none⟩ v0).setCell ⟨b, 1, none⟩ v1).setCell ⟨b, 2, none⟩ v2).setCell ⟨b, 3, none⟩ v3).heap[b]? = some (.cells #[v0, v1, v2, v3] T (0, 0)) := by
  rw [set_known (set_known (set_known (set_known h _ _) _ _) _ _) _ _]; rfl
theorem set4_other {x : Nat} (h : x ≠ b) (v0 v1 v2 v3 : Value) : ((((w.setCell ⟨b, 0, none⟩ v0).setCell ⟨b, 1, none⟩ v1).setCell ⟨b, 2, none⟩ v2).setCell ⟨b, 3, none⟩ v3).heap[x]? = w.heap[x]? := by
  rw [set_other _ _ h, set_other _ _ h, set_other _ _ h, set_other _ _ h]
theorem set4_step {F : Nat → Prop} {a : World} (s : Step F a w) (hb : F b ∨ a.heap.size ≤ b) (v0 v1 v2 v3 : Value) : Step F a ((((w.setCell ⟨b, 0, none⟩ v0).setCell ⟨b, 1, none⟩ v1).setCell ⟨b, 2, none⟩ v2).setCell ⟨b, 3, none⟩ v3) :=
  (((s.set hb _).set hb _).set hb _).set hb _
theorem set5_known (h : w.heap[b]? = some (.cells #[u0, u1, u2, u3, u4] T (0, 0))) (v0 v1 v2 v3 v4 : Value) : (((((w.setCell ⟨b, 0, none⟩ v0).setCell ⟨b, 1, none⟩ v1).setCell ⟨b, 2, none⟩ v2).setCell ⟨b, 3, none⟩ v3).setCell ⟨b, 4, none⟩ v4).heap[b]? = some (.cells #[v0, v1, v2, v3, v4] T (0, 0)) := by
  rw [set_known (set_known (set_known (set_known (set_known h _ _) _ _) _ _) _ _) _ _]; rfl
theorem set5_other {x : Nat} (h : x ≠ b) (v0 v1 v2 v3 v4 : Value) : (((((w.setCell ⟨b, 0, none⟩ v0).setCell ⟨b, 1, none⟩ v1).setCell ⟨b, 2, none⟩ v2).setCell ⟨b, 3, none⟩ v3).setCell ⟨b, 4, none⟩ v4).heap[x]? = w.heap[x]? := by
  rw [set_other _ _ h, set_other _ _ h, set_other _ _ h, set_other _ _ h, set_other _ _ h]
theorem set5_step {F : Nat → Prop} {a : World} (s : Step F a w) (hb : F b ∨ a.heap.size ≤ b) (v0 v1 v2 v3 v4 : Value) : Step F a (((((w.setCell ⟨b, 0, none⟩ v0).setCell ⟨b, 1, none⟩ v1).setCell ⟨b, 2, none⟩ v2).setCell ⟨b, 3, none⟩ v3).setCell ⟨b, 4, none⟩ v4) :=
  ((((s.set hb _).set hb _).set hb _).set hb _).set hb _
end

/-- a new block, the world named -/
theorem made0 (w : World) (o : Obj) : ∃ t w', w.alloc o = w' ∧ w.heap.size = t ∧ w'.heap[t]? = some o ∧ Step (fun _ => False) w w' := ⟨_, _, rfl, rfl, heap_alloc_new w o, Step.alloc _ w o⟩
/-- calm steps in a row -/
theorem Step.then {F : Nat → Prop} {a b c : World} (h : Step F a b) (g : Step (fun _ => False) b c) : Step F a c := h.trans g fun _ x => x.elim
theorem Step.keeps {w w' : World} (s : Step (fun _ => False) w w') {t : Nat} {o : Obj} (h : w.heap[t]? = some o) : w'.heap[t]? = some o := (s.block t (lt_obj h) fun x => x).trans h
end Go.Proofs.Ytojfgdoniajmeaa
