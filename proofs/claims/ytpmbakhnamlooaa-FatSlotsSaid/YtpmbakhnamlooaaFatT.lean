/- Package fat's machine: what stays so in calls; an instruction, calls too. -/
import Derived.Test.YtpmbakhnamlooaaFatS
namespace Go.Proofs.Ytpmbakhnamlooaa
set_option linter.unusedVariables false
set_option linter.unusedSimpArgs false
open Go.RowKit

/-- what is so of a machine that has stopped -/
structure RInv (st : FSt) : Prop where
  out : ∀ b ∈ st.out, 0 ≤ b ∧ b ≤ 255
  steps : 0 ≤ st.steps ∧ (st.steps ≤ st.fuel ∨ st.steps = 0) ∧ st.fuel ≤ 100000
  checks : 0 ≤ st.checks ∧ st.checks ≤ 100 + 2 * st.steps
theorem SInv.r {tops : List UInt8 → Option Int} {st : FSt} {d : Int} (h : SInv tops st d) (hd : 0 ≤ d) : RInv st := ⟨h.out, h.steps, by have := h.checks; omega⟩

/-- an instruction, calls too -/
def insOut (fns : List UInt8 → Option FFn) (tops : List UInt8 → Option Int) (n : Nat) (fr : Frm) (st : FSt) (x : List Int) (i : FIns) : Out :=
  if i.op = 42 then callI (loopF fns tops n) fns st x i else instr1 tops fr st x i

theorem callI_eq {fns : List UInt8 → Option FFn} {tops : List UInt8 → Option Int} {n : Nat} {st : FSt} {x : List Int} {i : FIns} {g : FFn} (hg : fns i.name.data.toList = some g) :
    callI (loopF fns tops n) fns st x i = match callF fns tops n st g (pick x i.args) with
      | .ret st' v => .go st' (writeAcc x i.outs v i.outs.length)
      | .stop st' s code => .stop st' s code := by
  unfold callI callF
  rw [hg]
  simp only
  cases (enterF st g (pick x i.args)).2.2.2 <;> rfl

/-- what FRet answers has as many numbers as it is told -/
theorem loopF_ret {fns : List UInt8 → Option FFn} {tops : List UInt8 → Option Int} {f : FFn} {fr : Frm} {was : Int} {st' : FSt} {v : List Int} : ∀ (n : Nat) (st : FSt) (x : List Int) (a : Int), loopF fns tops n f fr was st x a = .ret st' v → ∃ j ∈ f.code, j.op = 43 ∧ v.length = j.args.length
  | 0, st, x, a, h => by unfold loopF at h; cases h
  | n + 1, st, x, a, h => by
    unfold loopF at h
    split at h
    · split at h
      · cases h
      · rename_i i hi
        split at h
        · rename_i h43
          cases h
          exact ⟨i, List.mem_of_getElem? hi, h43, pick_length _ _⟩
        · split at h
          · cases h
          · exact loopF_ret n _ _ _ h
    · cases h
theorem callF_ret {fns : List UInt8 → Option FFn} {tops : List UInt8 → Option Int} {f : FFn} {n : Nat} {st st' : FSt} {args v : List Int} (h : callF fns tops n st f args = .ret st' v) : ∃ j ∈ f.code, j.op = 43 ∧ v.length = j.args.length := by
  unfold callF at h
  simp only at h
  split at h
  · exact loopF_ret _ _ _ _ h
  · cases h

theorem doF_64 (o a b : Int) (ha : is64 a) (hb : is64 b) : is64 (doF o a b).1 := by
  unfold doF
  split
  · exact ⟨base_lo _ _ _ ha.1 hb.1, base_hi _ _ _ ha.1 ha.2 hb.1 hb.2⟩
  · split
    · exact narT_64 _ 32 true
    · exact zero_64

section
variable {tops : List UInt8 → Option Int} {fns : List UInt8 → Option FFn} {f : FFn} {fr : Frm} {st : FSt} {x : List Int} {i : FIns}

theorem placesF_inv : ∀ (l : List Int) (t : Int), (∀ n ∈ l, 1 ≤ n ∧ n ≤ 65536) → 0 ≤ t ∧ t ≤ 4194304 → (placesF l t).2.2 = true → (0 ≤ (placesF l t).2.1 ∧ (placesF l t).2.1 ≤ 4194304) ∧ (∀ a ∈ (placesF l t).1, 0 ≤ a ∧ a ≤ 4194304) ∧ (placesF l t).1.length = l.length
  | [], t, _, ht, _ => ⟨ht, by simp [placesF], rfl⟩
  | n :: l, t, hl, ht, h => by
    have hn := hl n (by simp)
    unfold placesF at h ⊢
    simp only at h ⊢
    by_cases hc : (t + 15) / 16 * 16 + n ≤ 4194304
    · rw [if_pos hc] at h ⊢
      have ih := placesF_inv l ((t + 15) / 16 * 16 + n) (fun m hm => hl m (by simp [hm])) (by omega) h
      refine ⟨ih.1, fun a ha => ?_, by simp [ih.2.2]⟩
      rcases List.mem_cons.1 ha with h1 | h1
      · rw [h1]; omega
      · exact ih.2.1 a h1
    · rw [if_neg hc] at h; cases h
/-- a call begins -/
theorem enterF_inv {args : List Int} (hS : SInv tops st 2) (hg : GoodFn fns f) (ha : ∀ y ∈ args, is64 y) :
    (enterF st f args).1.steps = st.steps ∧ (enterF st f args).1.fuel = st.fuel ∧ RInv (enterF st f args).1 ∧ ((enterF st f args).2.2.2 = true → SInv tops (enterF st f args).1 1 ∧ FInv f (enterF st f args).2.1 (enterF st f args).2.2.1) := by
  have hx : regs64 (writeAcc (List.replicate f.kinds.length 0) f.params args f.params.length) := write_64 (fun y hy => by rw [(List.mem_replicate.1 hy).2]; exact zero_64) ha _
  have hxl : (writeAcc (List.replicate f.kinds.length 0) f.params args f.params.length).length = f.kinds.length := by rw [writeAcc_length]; simp
  have hr := hS.r (by omega)
  unfold enterF
  simp only
  by_cases hs : f.slots = []
  · rw [if_pos hs]
    have hp : placesF f.slots st.top = ([], st.top, true) := by rw [hs]; rfl
    rw [hp]
    refine ⟨rfl, rfl, ⟨hr.out, hr.steps, hr.checks⟩, fun _ => ⟨⟨hS.mem, hS.shadow, by have := hS.keys; constructor <;> simp only <;> omega, by have := hS.checks; constructor <;> simp only <;> omega, by have := hS.locks; simp only; omega, hS.steps, hS.free, hS.top, hS.input, hS.out, hS.tops⟩, ⟨hx, hxl, by simp, rfl, by simp [hs], by simp, zero_64⟩⟩⟩
  · rw [if_neg hs]
    by_cases hp : (placesF f.slots st.top).2.2 = true
    · rw [if_pos hp]
      obtain ⟨h1, h2, h3⟩ := placesF_inv f.slots st.top hg.sizes hS.top hp
      refine ⟨rfl, rfl, ⟨hr.out, hr.steps, hr.checks⟩, fun _ => ⟨⟨hS.mem, hS.shadow, by have := hS.keys; constructor <;> simp only <;> omega, by have := hS.checks; constructor <;> simp only <;> omega, by have := hS.locks; simp only [List.length_append, List.length_cons, List.length_nil]; omega, hS.steps, hS.free, h1, hS.input, hS.out, hS.tops⟩, ⟨hx, hxl, h2, rfl, h3, by have := hS.locks; have := hS.steps; simp only; omega, by have := hS.keys; have := hS.steps; unfold is64; simp only; omega⟩⟩⟩
    · rw [if_neg hp]
      exact ⟨rfl, rfl, ⟨hr.out, hr.steps, hr.checks⟩, fun h => by cases h⟩

/-- how a call leaves the machine -/
def ResInv (tops : List UInt8 → Option Int) (st : FSt) : Res → Prop
  | .ret st' v => SInv tops st' 0 ∧ (∀ y ∈ v, is64 y) ∧ st'.fuel = st.fuel ∧ st.steps ≤ st'.steps
  | .stop st' _ code => RInv st' ∧ 0 ≤ code ∧ code ≤ 255 ∧ st'.fuel = st.fuel
def AllGood (fns : List UInt8 → Option FFn) : Prop := ∀ s g, fns s = some g → GoodFn fns g

/-- where the next instruction stands -/
def nextF (x : List Int) (i : FIns) (a : Int) : Int := if i.op = 18 ∨ (i.op = 19 ∧ rg x i.a ≠ 0) then i.to else a + 1
theorem next_in (hg : GoodFn fns f) {a : Int} (h0 : 0 ≤ a) (hi : f.code[a.toNat]? = some i) (h43 : i.op ≠ 43) (h22 : i.op ≠ 22) : 0 ≤ nextF x i a ∧ nextF x i a < f.code.length := by
  have hlt := (List.getElem?_eq_some_iff.1 hi).1
  have G := (hg.ins i (List.mem_of_getElem? hi)).1
  obtain ⟨m, hm⟩ : ∃ m, formF i.op = some m := by
    cases e : formF i.op with
    | some m => exact ⟨m, rfl⟩
    | none => unfold goodI at G; rw [e] at G; cases G
  have G := goodI_form G hm
  unfold nextF
  split
  · exact ⟨G.2.2.2.2.2.2.1, G.2.2.2.2.2.2.2.1⟩
  · rename_i hn
    refine ⟨by omega, ?_⟩
    by_cases hl : a.toNat + 1 < f.code.length
    · omega
    · exfalso
      have := hg.last i (by rw [List.getLast?_eq_getElem?, show f.code.length - 1 = a.toNat by omega]; exact hi)
      omega

theorem loopF_step {n : Nat} {was a : Int} (hs : st.steps < st.fuel) (hi : f.code[a.toNat]? = some i) (h43 : i.op ≠ 43) :
    loopF fns tops (n + 1) f fr was st x a = match insOut fns tops n fr { st with steps := st.steps + 1 } x i with
      | .stop st' s code => .stop st' s code
      | .go st' x' => loopF fns tops n f fr was st' x' (nextF x i a) := by
  rw [loopF, if_pos hs, hi]
  simp only
  rw [if_neg h43]
  rfl

theorem insOut_inv (hA : AllGood fns) (hg : GoodFn fns f) (hm : i ∈ f.code) (hS : SInv tops st 2) (hF : FInv f fr x) (n : Nat)
    (ih : ∀ (f : FFn) (fr : Frm) (was : Int) (st : FSt) (x : List Int) (a : Int), GoodFn fns f → SInv tops st 0 → FInv f fr x → 0 ≤ was ∧ was ≤ 4194304 → 0 ≤ a → a < f.code.length → ResInv tops st (loopF fns tops n f fr was st x a)) :
    match insOut fns tops n fr st x i with
      | .stop st' _ code => RInv st' ∧ 0 ≤ code ∧ code ≤ 255 ∧ st'.fuel = st.fuel
      | .go st' x' => SInv tops st' 0 ∧ FInv f fr x' ∧ st'.fuel = st.fuel ∧ st.steps ≤ st'.steps := by
  obtain ⟨hi1, hi2, hi3, hi4, hi5⟩ := hg.ins i hm
  unfold insOut
  by_cases h42 : i.op = 42
  · rw [if_pos h42]
    obtain ⟨g, hgn, hla, hans⟩ := hg.calls i hm h42
    rw [callI_eq hgn]
    obtain ⟨e1, e2, e3, e4⟩ := enterF_inv (args := pick x i.args) hS (hA _ _ hgn) (pick_64 hF.x64 _)
    unfold callF
    simp only
    cases hok : (enterF st g (pick x i.args)).2.2.2 with
    | false => simp only [Bool.false_eq_true, if_false]; exact ⟨e3, by omega, by omega, e2⟩
    | true =>
      simp only [if_true]
      obtain ⟨e5, e6⟩ := e4 hok
      have hgc := (hA _ _ hgn).code.1
      have R := ih g (enterF st g (pick x i.args)).2.1 st.top (enterF st g (pick x i.args)).1 (enterF st g (pick x i.args)).2.2.1 0 (hA _ _ hgn) (e5.le (by omega)) e6 hS.top (by omega) (by have := List.length_pos_iff.2 hgc; omega)
      cases hr : loopF fns tops n g (enterF st g (pick x i.args)).2.1 st.top (enterF st g (pick x i.args)).1 (enterF st g (pick x i.args)).2.2.1 0 with
      | ret st' v =>
        rw [hr] at R
        obtain ⟨r1, r2, r3, r4⟩ := R
        exact ⟨r1, hF.write _ r2 _, r3.trans e2, by omega⟩
      | stop st' s code =>
        rw [hr] at R
        obtain ⟨r1, r2, r3, r4⟩ := R
        exact ⟨r1, r2, r3, r4.trans e2⟩
  · rw [if_neg h42]
    have R := instr1_inv (i := i) hS hF hi3 doF_64
    cases hr : instr1 tops fr st x i with
    | go st' x' =>
      rw [hr] at R
      obtain ⟨r1, r2, r3, r4, r5⟩ := R
      exact ⟨r1, r2, r4, by omega⟩
    | stop st' s code =>
      rw [hr] at R
      obtain ⟨r1, r2, r3, r4, r5⟩ := R
      exact ⟨r1.r (by omega), r2, r3, r5⟩
theorem instr1_22 (h : i.op = 22) : instr1 tops fr st x i = .stop st 1 (rg x i.a % 256) := by
  unfold instr1
  rw [if_neg (by omega), if_neg (by omega), if_neg (by omega), if_neg (by omega), if_neg (by omega), if_neg (by omega), if_pos h]

theorem SInv.inc (h : SInv tops st 0) (hs : st.steps < st.fuel) : SInv tops { st with steps := st.steps + 1 } 2 :=
  ⟨h.mem, h.shadow, by have := h.keys; constructor <;> simp only <;> omega, by have := h.checks; constructor <;> simp only <;> omega, by have := h.locks; simp only; omega, by have := h.steps; refine ⟨?_, ?_, ?_⟩ <;> simp only <;> omega, h.free, h.top, h.input, h.out, h.tops⟩
theorem loopF_inv (hA : AllGood fns) : ∀ (n : Nat) (f : FFn) (fr : Frm) (was : Int) (st : FSt) (x : List Int) (a : Int), GoodFn fns f → SInv tops st 0 → FInv f fr x → 0 ≤ was ∧ was ≤ 4194304 → 0 ≤ a → a < f.code.length → ResInv tops st (loopF fns tops n f fr was st x a)
  | 0, f, fr, was, st, x, a, _, hS, _, _, _, _ => ⟨hS.r (by omega), by omega, by omega, rfl⟩
  | n + 1, f, fr, was, st, x, a, hg, hS, hF, hw, h0, hlt => by
    obtain ⟨i, hi⟩ : ∃ i, f.code[a.toNat]? = some i := ⟨_, List.getElem?_eq_getElem (by omega)⟩
    have hm := List.mem_of_getElem? hi
    by_cases hs : st.steps < st.fuel
    · by_cases h43 : i.op = 43
      · rw [loopF, if_pos hs, hi]
        simp only
        rw [if_pos h43]
        have hT := hS.inc hs
        refine ⟨⟨hT.mem, hT.shadow, (hT.le (d' := 0) (by omega)).keys, (hT.le (d' := 0) (by omega)).checks, ?_, hT.steps, hT.free, hw, hT.input, hT.out, hT.tops⟩, pick_64 hF.x64 _, rfl, by simp only; omega⟩
        have := hT.locks
        simp only at this
        split <;> simp only [List.length_set] <;> omega
      · rw [loopF_step hs hi h43]
        have I := insOut_inv hA hg hm (hS.inc hs) hF n (loopF_inv hA n)
        cases ho : insOut fns tops n fr { st with steps := st.steps + 1 } x i with
        | stop st' s code => rw [ho] at I; exact I
        | go st' x' =>
          rw [ho] at I
          obtain ⟨i1, i2, i3, i4⟩ := I
          have h22 : i.op ≠ 22 := fun e => by
            unfold insOut at ho
            rw [if_neg (by omega), instr1_22 e] at ho
            cases ho
          obtain ⟨n1, n2⟩ := next_in (x := x) hg h0 hi h43 h22
          have R := loopF_inv hA n f fr was st' x' (nextF x i a) hg i1 i2 hw n1 n2
          simp only
          cases hr : loopF fns tops n f fr was st' x' (nextF x i a) with
          | ret s2 v =>
            rw [hr] at R
            obtain ⟨r1, r2, r3, r4⟩ := R
            simp only at i3 i4
            exact ⟨r1, r2, r3.trans i3, by omega⟩
          | stop s2 s code =>
            rw [hr] at R
            obtain ⟨r1, r2, r3, r4⟩ := R
            exact ⟨r1, r2, r3, r4.trans i3⟩
    · rw [loopF, if_neg hs]
      exact ⟨hS.r (by omega), by omega, by omega, rfl⟩
theorem callF_inv (hA : AllGood fns) (n : Nat) {args : List Int} (hS : SInv tops st 2) (hg : GoodFn fns f) (ha : ∀ y ∈ args, is64 y) : ResInv tops st (callF fns tops n st f args) := by
  obtain ⟨e1, e2, e3, e4⟩ := enterF_inv (args := args) hS hg ha
  unfold callF
  simp only
  cases hok : (enterF st f args).2.2.2 with
  | false => simp only [Bool.false_eq_true, if_false]; exact ⟨e3, by omega, by omega, e2⟩
  | true =>
    simp only [if_true]
    obtain ⟨e5, e6⟩ := e4 hok
    have R := loopF_inv hA n f (enterF st f args).2.1 st.top (enterF st f args).1 (enterF st f args).2.2.1 0 hg (e5.le (by omega)) e6 hS.top (by omega) (by have := List.length_pos_iff.2 hg.code.1; omega)
    cases hr : loopF fns tops n f (enterF st f args).2.1 st.top (enterF st f args).1 (enterF st f args).2.2.1 0 with
    | ret st' v =>
      rw [hr] at R
      obtain ⟨r1, r2, r3, r4⟩ := R
      exact ⟨r1, r2, r3.trans e2, by omega⟩
    | stop st' s code =>
      rw [hr] at R
      obtain ⟨r1, r2, r3, r4⟩ := R
      exact ⟨r1, r2, r3, r4.trans e2⟩
/-- locks stay, and may be more -/
def OutLk (st : FSt) : Out → Prop
  | .go st' _ => st.locks.length ≤ st'.locks.length
  | .stop _ _ _ => True
theorem outLk_ite {p : Prop} [Decidable p] {a b : Out} (h1 : OutLk st a) (h2 : OutLk st b) : OutLk st (if p then a else b) := by split <;> assumption
theorem instr1_lk : OutLk st (instr1 tops fr st x i) := by
  unfold instr1
  repeat' (refine outLk_ite ?_ ?_)
  all_goals first
    | exact Nat.le_refl _
    | exact trivial
    | skip
  · unfold getF; cases st.input <;> exact Nat.le_refl _
  · simp [OutLk, mallocF]
  · simp [OutLk]
def ResLk (st : FSt) : Res → Prop
  | .ret st' _ => st.locks.length ≤ st'.locks.length
  | .stop _ _ _ => True
theorem placesF_lk (st : FSt) (g : FFn) (args : List Int) : st.locks.length ≤ (enterF st g args).1.locks.length := by
  unfold enterF
  simp only
  split
  · exact Nat.le_refl _
  · split
    · simp
    · exact Nat.le_refl _
theorem insOut_lk (n : Nat) (ih : ∀ (f : FFn) (fr : Frm) (was : Int) (st : FSt) (x : List Int) (a : Int), ResLk st (loopF fns tops n f fr was st x a)) : OutLk st (insOut fns tops n fr st x i) := by
  unfold insOut
  split
  · unfold callI
    cases hf : fns i.name.data.toList with
    | none => exact trivial
    | some g =>
      simp only
      split
      · have R := ih g (enterF st g (pick x i.args)).2.1 st.top (enterF st g (pick x i.args)).1 (enterF st g (pick x i.args)).2.2.1 0
        have L := placesF_lk st g (pick x i.args)
        cases hr : loopF fns tops n g (enterF st g (pick x i.args)).2.1 st.top (enterF st g (pick x i.args)).1 (enterF st g (pick x i.args)).2.2.1 0 with
        | ret st' v => rw [hr] at R; exact Nat.le_trans L R
        | stop st' s c => exact trivial
      · exact trivial
  · exact instr1_lk
theorem loopF_lk : ∀ (n : Nat) (f : FFn) (fr : Frm) (was : Int) (st : FSt) (x : List Int) (a : Int), ResLk st (loopF fns tops n f fr was st x a)
  | 0, f, fr, was, st, x, a => trivial
  | n + 1, f, fr, was, st, x, a => by
    rw [loopF]
    split
    · split
      · exact trivial
      · rename_i i hi
        split
        · show st.locks.length ≤ _
          simp only
          split <;> simp
        · have I := insOut_lk (fns := fns) (tops := tops) (fr := fr) (st := { st with steps := st.steps + 1 }) (x := x) (i := i) n (loopF_lk n)
          unfold insOut at I
          split
          · exact trivial
          · rename_i st' x' ho
            rw [ho] at I
            have R := loopF_lk n f fr was st' x' (if i.op = 18 ∨ (i.op = 19 ∧ rg x i.a ≠ 0) then i.to else a + 1)
            cases hr : loopF fns tops n f fr was st' x' (if i.op = 18 ∨ (i.op = 19 ∧ rg x i.a ≠ 0) then i.to else a + 1) with
            | ret s2 v => rw [hr] at R; exact Nat.le_trans I R
            | stop s2 s c => exact trivial
    · exact trivial
end

section
variable {w0 w w' w1 w2 : World} {pf pw gx : Nat} {own own' own'' : Nat → Nat} {vn vp vk vs vc vr vl : Value} {regs slots : List Int} {lock key : Int} {fnv : List UInt8 → Option Value} {tops : List UInt8 → Option Int} {st : FSt} {c : Nat} {fns : List UInt8 → Option FFn}
/-- how an instruction ends -/
def DoPost (w0 w : World) (pw : Nat) (own : Nat → Nat) (fnv : List UInt8 → Option Value) (tops : List UInt8 → Option Int) (pf gx : Nat) (vn vp vk vs vc vr vl : Value) (fr : Frm) (o : Out) (e : Ending) (w' : World) : Prop :=
  match o with
  | .go st x => ∃ c : Nat, (c : Int) ≤ 1000 + 20 * st.steps ∧ Went w0 w pw own fnv tops pf gx vn vp vk vs vc vr vl fr.slots fr.lock fr.key st c x e w'
  | .stop st s code => ∃ c : Nat, Fell w0 w pw own fnv tops gx s code st c e w'
theorem do_all {n : Nat} (hC : CallC w0 pw fnv fns tops n) (hE : UEnv w0 fnv fns) {f : FFn} {fr : Frm} {i : FIns} {v : Value} (hW : FWAt w0 w pw own fnv tops st c) (hF : FrAt w own pf pw gx vn vp vk vs vc vr vl regs fr.slots fr.lock fr.key) (hl : w0.heap.size ≤ gx) (hi : InsAt w0 v i) (hfs : IntsAt .i64 w0 vs f.slots)
    (hg : GoodFn fns f) (hm : i ∈ f.code) (h43 : i.op ≠ 43) (hS : SInv tops st 2) (hI : FInv f fr regs) (hc : (c : Int) + 12 ≤ 1000 + 20 * st.steps) (hfuel : (st.fuel - st.steps).toNat ≤ n) :
    Calls Try.prog 61 #[.pointer (some ⟨pf, 0, none⟩), v] w (DoPost w0 w pw own fnv tops pf gx vn vp vk vs vc vr vl fr (insOut fns tops n fr st regs i)) := by
  obtain ⟨hi1, hi2, hi3, hi4, hi5⟩ := hg.ins i hm
  have hst := hS.steps
  unfold insOut
  by_cases h42 : i.op = 42
  · rw [if_pos h42]
    obtain ⟨g, hgn, hla, hans⟩ := hg.calls i hm h42
    obtain ⟨gv, hgv, hga, hgg⟩ := hE _ _ hgn
    obtain ⟨m, hmf⟩ : ∃ m, formF i.op = some m := ⟨_, by rw [h42]; rfl⟩
    have G := goodI_form hi1 hmf
    rw [callI_eq hgn]
    cases hr : callF fns tops n st g (pick regs i.args) with
    | ret st' xs =>
      obtain ⟨j, hj, hj43, hjl⟩ := callF_ret hr
      have hlv : i.outs.length ≤ xs.length := by rw [hjl, hans j hj hj43]; exact Nat.le_refl _
      refine (do_mem_went (R := fun w' => ∃ c' : Nat, (c' : Int) ≤ 1000 + 20 * st'.steps ∧ ∃ own', ChgG gx own own' w w' ∧ FWAt w0 w' pw own' fnv tops st' c' ∧ FrAt w' own' pf pw gx vn vp vk vs vc vr vl (writeAcc regs i.outs xs i.outs.length) fr.slots fr.lock fr.key) hF hi (beq_false_of_ne (by omega)) (beq_false_of_ne (by omega)) (beq_false_of_ne (by omega)) (beq_false_of_ne (by omega)) (beq_false_of_ne (by omega)) (beq_false_of_ne (by omega)) (beq_false_of_ne (by omega)) (beq_false_of_ne (by omega)) (beq_false_of_ne (by omega)) (beq_false_of_ne (by omega)) (beq_false_of_ne (by omega)) fun y hy =>
        (mem_42ok (hW.still hy) (hF.still hy) hl hi h42 hC hgv hga hgg hS hc hI.x64 hi2 hla (listB_ok hI.len G.2.2.2.1).1 hfuel (listB_ok hI.len G.2.2.2.2.1).1 hi5 hlv hr).mono fun e w' ⟨c', h1, h2⟩ => ?_).mono fun e w' ⟨h1, c', h2, h3⟩ => ⟨c', h2, h1, h3⟩
      exact ⟨h2.1, c', h1, (h2.from hy).2⟩
    | stop st' s code =>
      refine (do_mem_fell (R := fun w' => ∃ c' : Nat, ∃ own', ChgG gx own own' w w' ∧ FWAt w0 w' pw own' fnv tops st' c') hF hi (beq_false_of_ne (by omega)) (beq_false_of_ne (by omega)) (beq_false_of_ne (by omega)) (beq_false_of_ne (by omega)) (beq_false_of_ne (by omega)) (beq_false_of_ne (by omega)) (beq_false_of_ne (by omega)) (beq_false_of_ne (by omega)) (beq_false_of_ne (by omega)) (beq_false_of_ne (by omega)) (beq_false_of_ne (by omega)) fun y hy =>
        (mem_42no (hW.still hy) (hF.still hy) hl hi h42 hC hgv hga hgg hS hc hI.x64 hi2 hla (listB_ok hI.len G.2.2.2.1).1 hfuel hr).mono fun e w' ⟨c', h2⟩ => ?_).mono fun e w' ⟨h1, c', h3⟩ => ⟨c', h1, h3⟩
      exact ⟨h2.1, c', (h2.from hy).2⟩
  · rw [if_neg h42]
    have R := instr1_inv (i := i) hS hI hi3 doF_64
    cases hr : instr1 tops fr st regs i with
    | go st' x' =>
      rw [hr] at R
      obtain ⟨r1, r2, r3, r4, r5⟩ := R
      exact (do_go hW hF hl hi hfs hg.sizes hi1 h42 h43 hS hI (by omega) hi2 hi3 hr).mono fun e w' h => ⟨c + 8, by omega, h⟩
    | stop st' s code => exact (do_stop hW hF hl hi hfs hg.sizes hi1 h42 h43 hS hI (by omega) hi2 hi3 hr).mono fun e w' h => ⟨c + 8, h⟩
end
end Go.Proofs.Ytpmbakhnamlooaa
