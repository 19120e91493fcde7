/- Package mid's machine: what stays so in calls; an instruction, calls too. -/
import Derived.Test.YtojfgdoniajmeaaMidK
namespace Go.Proofs.Ytojfgdoniajmeaa
set_option linter.unusedVariables false
set_option linter.unusedSimpArgs false
open Go.RowKit

/-- an instruction, calls too -/
noncomputable def insM (fns : List UInt8 → Option FFn) (tops : List UInt8 → Option HP) (n : Nat) (kinds : List Int) (slots : List HP) (st : MSt) (x : List HV) (i : FIns) : MOut :=
  if i.op = 16 then callIM (loopM fns tops n) fns st x i else instrM tops kinds slots st x i
theorem callIM_eq {fns : List UInt8 → Option FFn} {tops : List UInt8 → Option HP} {n : Nat} {st : MSt} {x : List HV} {i : FIns} {g : FFn} (hg : fns i.name.data.toList = some g) :
    callIM (loopM fns tops n) fns st x i = match callM fns tops n st g (pickV x i.args) with
      | .ret st' v => .go st' (if 0 ≤ i.dst then x.set i.dst.toNat v else x)
      | .stop st' s code why => .stop st' s code why := by
  unfold callIM callM
  rw [hg]
  rfl
theorem doF_is64 (o a b : Int) (ha : is64 a) (hb : is64 b) : is64 (doF o a b).1 := by
  unfold doF
  split
  · exact ⟨base_lo _ _ _ ha.1 hb.1, base_hi _ _ _ ha.1 ha.2 hb.1 hb.2⟩
  · split
    · exact nar_is64 _ 32 true
    · unfold is64; simp
theorem writeV_len {l : List Int} {xs : List HV} {regs : List HV} : ∀ k, (writeV regs l xs k).length = regs.length
  | 0 => rfl
  | k + 1 => by rw [writeV, List.length_set, writeV_len k]
theorem writeV_ok {l : List Int} {xs : List HV} {regs : List HV} (h : ∀ v ∈ regs, v.ok) (hx : ∀ v ∈ xs, v.ok) : ∀ k, ∀ v ∈ writeV regs l xs k, v.ok
  | 0 => h
  | k + 1 => set_ok (writeV_ok h hx k) (by
    rw [List.getD_eq_getElem?_getD]
    cases e : xs[k]? with
    | none => exact zeroV_ok
    | some y => exact hx y (List.mem_of_getElem? e)) _
theorem pickV_ok {regs : List HV} (h : ∀ v ∈ regs, v.ok) (l : List Int) : ∀ v ∈ pickV regs l, v.ok := fun v hv => by
  unfold pickV at hv
  obtain ⟨r, _, rfl⟩ := List.mem_map.1 hv
  exact rgV_ok h r
theorem pickV_len (regs : List HV) (l : List Int) : (pickV regs l).length = l.length := by unfold pickV; simp

section
variable {tops : List UInt8 → Option HP} {fns : List UInt8 → Option FFn} {f : FFn} {slots : List HP} {st : MSt} {x : List HV} {i : FIns}
theorem slotsM_inv : ∀ (l : List Int) (st : MSt) (d : Int), (∀ n ∈ l, 1 ≤ n ∧ n ≤ 65536) → SInvM tops st d → (l.length : Int) ≤ d →
    SInvM tops (slotsM l st).1 (d - l.length) ∧ (∀ p ∈ (slotsM l st).2, p.ok) ∧ (slotsM l st).2.length = l.length ∧ (slotsM l st).1.steps = st.steps ∧ (slotsM l st).1.fuel = st.fuel
  | [], st, d, _, h, _ => by simp [slotsM]; exact h
  | n :: l, st, d, hl, h, hd => by
    have hn := hl n (by simp)
    simp only [List.length_cons] at hd ⊢
    have hb := h.blks
    have hst := h.steps
    have h1 : SInvM tops { st with blks := st.blks ++ [⟨n, false, true, false⟩] } (d - 1) := ⟨h.cells, by
      simp only [List.length_append, List.length_cons, List.length_nil]
      omega, h.steps, h.input, h.out, h.tops⟩
    obtain ⟨e1, e2, e3, e4, e5⟩ := slotsM_inv l _ (d - 1) (fun m hm => hl m (by simp [hm])) h1 (by omega)
    refine ⟨e1.le (by push_cast; omega), ?_, by rw [slotsM, List.length_cons, e3], e4, e5⟩
    intro p hp
    rw [slotsM] at hp
    rcases List.mem_cons.1 hp with h2 | h2
    · rw [h2]
      unfold HP.ok i64B
      simp only
      omega
    · exact e2 p h2
theorem endM_inv {d : Int} (h : SInvM tops st d) (b : Int) : SInvM tops (endM st b) d ∧ (endM st b).steps = st.steps ∧ (endM st b).fuel = st.fuel := by
  unfold endM
  split
  · exact ⟨⟨struck_cells h.cells, by simp only [setAt_len]; exact h.blks, h.steps, h.input, h.out, h.tops⟩, rfl, rfl⟩
  · exact ⟨h, rfl, rfl⟩
theorem endAll_inv {d : Int} : ∀ (l : List HP) (st : MSt), SInvM tops st d → SInvM tops (endAll l st) d ∧ (endAll l st).steps = st.steps ∧ (endAll l st).fuel = st.fuel
  | [], st, h => ⟨h, rfl, rfl⟩
  | p :: l, st, h => by
    obtain ⟨e1, e2, e3⟩ := endM_inv h p.block
    obtain ⟨g1, g2, g3⟩ := endAll_inv l _ e1
    exact ⟨g1, g2.trans e2, g3.trans e3⟩
/-- how a call leaves the machine -/
def ResInvM (tops : List UInt8 → Option HP) (st : MSt) : MRes → Prop
  | .ret st' v => SInvM tops st' 0 ∧ v.ok ∧ st'.fuel = st.fuel ∧ st.steps ≤ st'.steps
  | .stop st' _ code _ => SInvM tops st' 0 ∧ 0 ≤ code ∧ code ≤ 255 ∧ st'.fuel = st.fuel
def AllGoodM (fns : List UInt8 → Option FFn) : Prop := ∀ s g, fns s = some g → GoodM fns g
/-- a call begins -/
theorem enterM_inv {args : List HV} (hS : SInvM tops st 1002) (hg : GoodM fns f) (ha : ∀ y ∈ args, y.ok) :
    SInvM tops (slotsM f.slots st).1 0 ∧ FInvM f (slotsM f.slots st).2 (callRegs f args) ∧ (slotsM f.slots st).1.steps = st.steps ∧ (slotsM f.slots st).1.fuel = st.fuel := by
  have hl := hg.slots
  obtain ⟨e1, e2, e3, e4, e5⟩ := slotsM_inv (tops := tops) f.slots st 1002 hg.sizes hS (by omega)
  refine ⟨e1.le (by omega), ⟨?_, ?_, e2, e3⟩, e4, e5⟩
  · exact writeV_ok (fun v hv => by rw [(List.mem_replicate.1 hv).2]; exact zeroV_ok) ha _
  · unfold callRegs; rw [writeV_len]; simp
/-- where the next instruction stands -/
def nextM (x : List HV) (i : FIns) (a : Int) : Int := if i.op = 18 ∨ (i.op = 19 ∧ (rgV x i.a).num ≠ 0) then i.to else a + 1
theorem next_in (hg : GoodM fns f) {a : Int} (h0 : 0 ≤ a) (hi : f.code[a.toNat]? = some i) (h17 : i.op ≠ 17) (h22 : i.op ≠ 22) : 0 ≤ nextM x i a ∧ nextM x i a < f.code.length := by
  have hlt := (List.getElem?_eq_some_iff.1 hi).1
  have G := (hg.ins i (List.mem_of_getElem? hi)).1
  obtain ⟨m, hm⟩ := goodIM_form G
  have G := goodIM_parts G hm
  unfold nextM
  split
  · exact ⟨G.2.2.2.2.1, G.2.2.2.2.2.1⟩
  · rename_i hn
    refine ⟨by omega, ?_⟩
    by_cases hl : a.toNat + 1 < f.code.length
    · omega
    · exfalso
      have := hg.last i (by rw [List.getLast?_eq_getElem?, show f.code.length - 1 = a.toNat by omega]; exact hi)
      omega
theorem loopM_step {n : Nat} {a : Int} (hs : st.steps < st.fuel) (hi : f.code[a.toNat]? = some i) (h17 : i.op ≠ 17) :
    loopM fns tops (n + 1) f slots st x a = match insM fns tops n f.kinds slots { st with steps := st.steps + 1 } x i with
      | .stop st' s code why => .stop st' s code why
      | .go st' x' => loopM fns tops n f slots st' x' (nextM x i a) := by
  rw [loopM, if_pos hs, hi]
  simp only
  rw [if_neg h17]
  rfl
theorem loopM_ret {n : Nat} {a : Int} (hs : st.steps < st.fuel) (hi : f.code[a.toNat]? = some i) (h17 : i.op = 17) :
    loopM fns tops (n + 1) f slots st x a = .ret (endAll slots { st with steps := st.steps + 1 }) (if i.a < 0 then HV.zero else rgV x i.a) := by
  rw [loopM, if_pos hs, hi]
  simp only
  rw [if_pos h17]
theorem loopM_out {n : Nat} {a : Int} (h : ¬ st.steps < st.fuel) : loopM fns tops n f slots st x a = .stop st 0 0 0 := by
  cases n with
  | zero => rw [loopM]
  | succ m => rw [loopM, if_neg h]
theorem instrM_22 {kinds : List Int} (h : i.op = 22) : ∃ code, instrM tops kinds slots st x i = .stop st 1 code 0 := by
  unfold instrM
  repeat (rw [if_neg (show ¬ i.op = _ by rw [h]; decide)])
  rw [if_pos h]
  exact ⟨_, rfl⟩
theorem SInvM.inc (h : SInvM tops st 0) (hs : st.steps < st.fuel) : SInvM tops { st with steps := st.steps + 1 } 1002 :=
  ⟨h.cells, by have := h.blks; constructor <;> simp only <;> omega, by have := h.steps; refine ⟨?_, ?_, ?_⟩ <;> simp only <;> omega, h.input, h.out, h.tops⟩
theorem insM_inv (hA : AllGoodM fns) (hg : GoodM fns f) (hm : i ∈ f.code) (hS : SInvM tops st 1002) (hF : FInvM f slots x) (n : Nat)
    (ih : ∀ (f : FFn) (slots : List HP) (st : MSt) (x : List HV) (a : Int), GoodM fns f → SInvM tops st 0 → FInvM f slots x → 0 ≤ a → a < f.code.length → ResInvM tops st (loopM fns tops n f slots st x a)) :
    match insM fns tops n f.kinds slots st x i with
      | .stop st' _ code _ => SInvM tops st' 0 ∧ 0 ≤ code ∧ code ≤ 255 ∧ st'.fuel = st.fuel
      | .go st' x' => SInvM tops st' 0 ∧ FInvM f slots x' ∧ st'.fuel = st.fuel ∧ st.steps ≤ st'.steps := by
  obtain ⟨hi1, hi2, hi3, hi4⟩ := hg.ins i hm
  unfold insM
  by_cases h16 : i.op = 16
  · rw [if_pos h16]
    obtain ⟨g, hgn, hla⟩ := hg.calls i hm h16
    rw [callIM_eq hgn]
    obtain ⟨e1, e2, e3, e4⟩ := enterM_inv (args := pickV x i.args) hS (hA _ _ hgn) (pickV_ok hF.ok _)
    unfold callM
    have hgc := (hA _ _ hgn).code.1
    have R := ih g (slotsM g.slots st).2 (slotsM g.slots st).1 (callRegs g (pickV x i.args)) 0 (hA _ _ hgn) e1 e2 (by omega) (by have := List.length_pos_iff.2 hgc; omega)
    cases hr : loopM fns tops n g (slotsM g.slots st).2 (slotsM g.slots st).1 (callRegs g (pickV x i.args)) 0 with
    | ret st' v =>
      rw [hr] at R
      obtain ⟨r1, r2, r3, r4⟩ := R
      refine ⟨r1, ?_, r3.trans e4, by omega⟩
      split
      · exact hF.set r2 _
      · exact hF
    | stop st' s code why =>
      rw [hr] at R
      obtain ⟨r1, r2, r3, r4⟩ := R
      exact ⟨r1, r2, r3, r4.trans e4⟩
  · rw [if_neg h16]
    have hst := hS.steps
    have hbl := hS.blks
    have R := instrM_inv (i := i) (hS.le (d' := 1) (by omega)) hF hi3 doF_is64 (by omega)
    cases hr : instrM tops f.kinds slots st x i with
    | go st' x' =>
      rw [hr] at R
      obtain ⟨r1, r2, r3, r4⟩ := R
      exact ⟨r1, r2, r4, by omega⟩
    | stop st' s code why =>
      rw [hr] at R
      obtain ⟨r1, r2, r3, r4, r5⟩ := R
      exact ⟨r1, r2, r3, r5⟩
theorem loopM_inv (hA : AllGoodM fns) : ∀ (n : Nat) (f : FFn) (slots : List HP) (st : MSt) (x : List HV) (a : Int), GoodM fns f → SInvM tops st 0 → FInvM f slots x → 0 ≤ a → a < f.code.length → ResInvM tops st (loopM fns tops n f slots st x a)
  | 0, f, slots, st, x, a, _, hS, _, _, _ => ⟨hS, by omega, by omega, rfl⟩
  | n + 1, f, slots, st, x, a, hg, hS, hF, h0, hlt => by
    obtain ⟨i, hi⟩ : ∃ i, f.code[a.toNat]? = some i := ⟨_, List.getElem?_eq_getElem (by omega)⟩
    have hm := List.mem_of_getElem? hi
    by_cases hs : st.steps < st.fuel
    · by_cases h17 : i.op = 17
      · rw [loopM_ret hs hi h17]
        obtain ⟨g1, g2, g3⟩ := endAll_inv slots _ ((hS.inc hs).le (d' := 0) (by omega))
        refine ⟨g1, ?_, g3, by rw [g2]; simp only; omega⟩
        split
        · exact zeroV_ok
        · exact rgV_ok hF.ok _
      · rw [loopM_step hs hi h17]
        have I := insM_inv hA hg hm (hS.inc hs) hF n (loopM_inv hA n)
        cases ho : insM fns tops n f.kinds slots { st with steps := st.steps + 1 } x i with
        | stop st' s code why => rw [ho] at I; exact I
        | go st' x' =>
          rw [ho] at I
          obtain ⟨i1, i2, i3, i4⟩ := I
          have h22 : i.op ≠ 22 := fun e => by
            unfold insM at ho
            rw [if_neg (by omega)] at ho
            obtain ⟨code, hc⟩ := instrM_22 (tops := tops) (kinds := f.kinds) (slots := slots) (st := { st with steps := st.steps + 1 }) (x := x) e
            rw [hc] at ho
            cases ho
          obtain ⟨n1, n2⟩ := next_in (x := x) hg h0 hi h17 h22
          have R := loopM_inv hA n f slots st' x' (nextM x i a) hg i1 i2 n1 n2
          simp only
          cases hr : loopM fns tops n f slots st' x' (nextM x i a) with
          | ret s2 v =>
            rw [hr] at R
            obtain ⟨r1, r2, r3, r4⟩ := R
            simp only at i3 i4
            exact ⟨r1, r2, r3.trans i3, by omega⟩
          | stop s2 s code why =>
            rw [hr] at R
            obtain ⟨r1, r2, r3, r4⟩ := R
            exact ⟨r1, r2, r3, r4.trans i3⟩
    · rw [loopM_out hs]
      exact ⟨hS, by omega, by omega, rfl⟩
theorem callM_inv (hA : AllGoodM fns) (n : Nat) {args : List HV} (hS : SInvM tops st 1002) (hg : GoodM fns f) (ha : ∀ y ∈ args, y.ok) : ResInvM tops st (callM fns tops n st f args) := by
  obtain ⟨e1, e2, e3, e4⟩ := enterM_inv (args := args) hS hg ha
  unfold callM
  have R := loopM_inv hA n f (slotsM f.slots st).2 (slotsM f.slots st).1 (callRegs f args) 0 hg e1 e2 (by omega) (by have := List.length_pos_iff.2 hg.code.1; omega)
  cases hr : loopM fns tops n f (slotsM f.slots st).2 (slotsM f.slots st).1 (callRegs f args) 0 with
  | ret st' v =>
    rw [hr] at R
    obtain ⟨r1, r2, r3, r4⟩ := R
    exact ⟨r1, r2, r3.trans e4, by omega⟩
  | stop st' s code why =>
    rw [hr] at R
    obtain ⟨r1, r2, r3, r4⟩ := R
    exact ⟨r1, r2, r3, r4.trans e4⟩
end

section
variable {w0 w w' w1 w2 : World} {pf pw gx : Nat} {own own' own'' : Nat → Nat} {vn vp vk vs vc vr vl : Value} {regs : List HV} {slots : List HP} {fnv : List UInt8 → Option Value} {tops : List UInt8 → Option HP} {st : MSt} {c : Nat} {fns : List UInt8 → Option FFn}
/-- how an instruction ends -/
def DoPost (w0 w : World) (pw : Nat) (own : Nat → Nat) (fnv : List UInt8 → Option Value) (tops : List UInt8 → Option HP) (pf gx : Nat) (vn vp vk vs vc vr vl : Value) (slots : List HP) (o : MOut) (e : Ending) (w' : World) : Prop :=
  match o with
  | .go st x => e = .returned (.tuple #[]) ∧ ∃ c : Nat, (c : Int) ≤ 4000 + 2000 * st.steps ∧ Went w0 w pw own fnv tops pf gx vn vp vk vs vc vr vl slots st c x w'
  | .stop st s code why => ∃ c : Nat, Fell w0 w pw own fnv tops gx s code why st c e w'
theorem do_all {n : Nat} (hC : CallC w0 pw fnv fns tops n) (hE : UEnvM w0 fnv fns) {f : FFn} {i : FIns} {v : Value} (hW : MWAt w0 w pw own fnv tops st c) (hF : MFr w own pf pw gx vn vp vk vs vc vr vl regs slots) (hl : w0.heap.size ≤ gx) (hi : InsAt w0 v i) (hk : IntsAt .i64 w0 vk f.kinds)
    (hg : GoodM fns f) (hm : i ∈ f.code) (h17 : i.op ≠ 17) (hS : SInvM tops st 1002) (hI : FInvM f slots regs) (hc : (c : Int) + 1002 ≤ 4000 + 2000 * st.steps) (hfuel : (st.fuel - st.steps).toNat ≤ n) :
    Calls Try.prog 45 #[.pointer (some ⟨pf, 0, none⟩), v] w (DoPost w0 w pw own fnv tops pf gx vn vp vk vs vc vr vl slots (insM fns tops n f.kinds slots st regs i)) := by
  obtain ⟨hi1, hi2, hi3, hi4⟩ := hg.ins i hm
  have hst := hS.steps
  unfold insM
  by_cases h16 : i.op = 16
  · rw [if_pos h16]
    obtain ⟨g, hgn, hla⟩ := hg.calls i hm h16
    obtain ⟨gv, hgv, hga, hgg⟩ := hE _ _ hgn
    obtain ⟨m, hmf⟩ : ∃ m, formM i.op = some m := ⟨_, by rw [h16]; rfl⟩
    have G := goodIM_parts hi1 (m := { dst := 3, name := true }) (by rw [h16]; rfl)
    have har : ∀ r ∈ i.args, ok1 regs r := fun r hr => by
      have h := List.all_eq_true.1 G.2.2.2.1 r hr
      simp only [Bool.and_eq_true] at h
      exact regM_ok hI.len h.2 (by decide) rfl
    have AP := fun y (hy : Step (fun _ => False) w y) => apply_any (hW.still hy) (hF.still hy) hi hC hgv hga hgg hS hc hI.ok hi2 hla har hfuel
    rw [callIM_eq hgn]
    cases hr : callM fns tops n st g (pickV regs i.args) with
    | ret st' xr =>
      rw [hr] at AP
      by_cases hd : 0 ≤ i.dst
      · have okd : ok1 regs i.dst := by
          have h := G.1
          unfold regM at h
          simp only [Bool.or_eq_true, Bool.and_eq_true, decide_eq_true_eq, beq_iff_eq] at h
          have := hI.len
          unfold ok1
          rw [if_neg (by decide)] at h
          simp only [Bool.or_eq_true, Bool.and_eq_true, decide_eq_true_eq, beq_iff_eq] at h
          omega
        refine (do_16r hW hF hl hi h16 okd AP).mono fun e w' h => ?_
        simp only [if_pos hd]
        exact h
      · refine (do_16n hW hF hl hi h16 (by omega) AP).mono fun e w' h => ?_
        simp only [if_neg hd]
        exact h
    | stop st' s code why =>
      rw [hr] at AP
      exact do_16s hW hF hl hi h16 AP
  · rw [if_neg h16]
    have R : Ready w0 w pw own fnv tops pf gx vn vp vk vs vc vr vl slots st c regs f i v := ⟨hW, hF, hl, hi, hi1, hk, hI, hi2, hi3, by omega, hg.slots⟩
    have hbl := hS.blks
    have V := instrM_inv (i := i) (hS.le (d' := 1) (by omega)) hI hi3 doF_is64 (by omega)
    cases hr : instrM tops f.kinds slots st regs i with
    | go st' x' =>
      rw [hr] at V
      obtain ⟨r1, r2, r3, r4⟩ := V
      exact (do_go R h16 h17 hr).mono fun e w' ⟨h1, c', h2, h3⟩ => ⟨h1, c', by omega, h3⟩
    | stop st' s code why => exact do_stop R h16 h17 hr
end
end Go.Proofs.Ytojfgdoniajmeaa
