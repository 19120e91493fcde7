/- Package mid: every instruction that is no call, as the plain machine says. -/
import Derived.Test.YtojfgdoniajmeaaMidG
namespace Go.Proofs.Ytojfgdoniajmeaa
set_option linter.unusedVariables false
set_option linter.unusedSimpArgs false
open Go.RowKit

theorem formM_ops {op : Int} {m : MForm} (h : formM op = some m) : op = 1 ∨ op = 2 ∨ op = 3 ∨ op = 4 ∨ op = 5 ∨ op = 6 ∨ op = 7 ∨ op = 8 ∨ op = 9 ∨ op = 10 ∨ op = 11 ∨ op = 12 ∨ op = 13 ∨ op = 14 ∨ op = 15 ∨ op = 16 ∨ op = 17 ∨ op = 18 ∨ op = 19 ∨ op = 20 ∨ op = 21 ∨ op = 22 := by
  unfold formM at h
  by_cases h1 : op = 1
  · clear h; omega
  rw [if_neg h1] at h
  by_cases h2 : op = 2
  · clear h; omega
  rw [if_neg h2] at h
  by_cases h3 : op = 3
  · clear h; omega
  rw [if_neg h3] at h
  by_cases h4 : op = 4
  · clear h; omega
  rw [if_neg h4] at h
  by_cases h5 : op = 5
  · clear h; omega
  rw [if_neg h5] at h
  by_cases h6 : op = 6
  · clear h; omega
  rw [if_neg h6] at h
  by_cases h7 : op = 7
  · clear h; omega
  rw [if_neg h7] at h
  by_cases h8 : op = 8
  · clear h; omega
  rw [if_neg h8] at h
  by_cases h9 : op = 9
  · clear h; omega
  rw [if_neg h9] at h
  by_cases h10 : op = 10
  · clear h; omega
  rw [if_neg h10] at h
  by_cases h11 : op = 11
  · clear h; omega
  rw [if_neg h11] at h
  by_cases h12 : op = 12
  · clear h; omega
  rw [if_neg h12] at h
  by_cases h13 : op = 13
  · clear h; omega
  rw [if_neg h13] at h
  by_cases h14 : op = 14
  · clear h; omega
  rw [if_neg h14] at h
  by_cases h15 : op = 15
  · clear h; omega
  rw [if_neg h15] at h
  by_cases h16 : op = 16
  · clear h; omega
  rw [if_neg h16] at h
  by_cases h17 : op = 17
  · clear h; omega
  rw [if_neg h17] at h
  by_cases h18 : op = 18
  · clear h; omega
  rw [if_neg h18] at h
  by_cases h19 : op = 19
  · clear h; omega
  rw [if_neg h19] at h
  by_cases h20 : op = 20
  · clear h; omega
  rw [if_neg h20] at h
  by_cases h21 : op = 21
  · clear h; omega
  rw [if_neg h21] at h
  by_cases h22 : op = 22
  · clear h; omega
  rw [if_neg h22] at h
  cases h
theorem goodIM_parts {f : FFn} {i : FIns} {m : MForm} (h : goodIM f i = true) (hm : formM i.op = some m) : regM f.kinds i.dst m.dst (i.op == 16) = true ∧ regM f.kinds i.a m.a (i.op == 17) = true ∧ regM f.kinds i.b m.b false = true ∧ i.args.all (fun r => i.op == 16 && regM f.kinds r 3 false) = true ∧ 0 ≤ i.to ∧ i.to < f.code.length ∧ sizeM m i = true ∧ extraM f i = true := by
  unfold goodIM at h
  rw [hm] at h
  simp only [Bool.and_eq_true, decide_eq_true_eq] at h
  obtain ⟨⟨⟨⟨⟨⟨⟨⟨⟨⟨⟨⟨h1, h2⟩, h3⟩, h4⟩, h5⟩, h6⟩, h7⟩, h8⟩, h9⟩, h10⟩, h11⟩, h12⟩, h13⟩ := h
  exact ⟨h1, h2, h3, h4, h8, h9, h11, h13⟩
theorem goodIM_form {f : FFn} {i : FIns} (h : goodIM f i = true) : ∃ m, formM i.op = some m := by
  unfold goodIM at h
  cases e : formM i.op with
  | none => rw [e] at h; cases h
  | some m => exact ⟨m, rfl⟩
theorem regM_ok {kinds : List Int} {x : List HV} (hl : x.length = kinds.length) {r kind : Int} {may : Bool} (h : regM kinds r kind may = true) (hk : kind ≠ 0) (hm : may = false) : ok1 x r := by
  unfold regM at h
  rw [if_neg hk, hm] at h
  simp only [Bool.false_and, Bool.false_or, Bool.and_eq_true, decide_eq_true_eq] at h
  unfold ok1
  omega
theorem size3 {i : FIns} {m : MForm} (h : sizeM m i = true) (h1 : m.size = true) (h2 : i.op ≠ 9) : i.size = 1 ∨ i.size = 4 ∨ i.size = 8 := by
  unfold sizeM at h
  rw [h1, show (i.op == 9) = false from beq_false_of_ne h2] at h
  simp only [Bool.not_false, Bool.and_true, if_true, Bool.or_eq_true, beq_iff_eq] at h
  omega
section
variable {w0 w w' w1 w2 : World} {pf pw gx : Nat} {own own' own'' : Nat → Nat} {vn vp vk vs vc vr vl : Value} {regs : List HV} {slots : List HP} {fnv : List UInt8 → Option Value} {tops : List UInt8 → Option HP} {st st' : MSt} {c : Nat} {f : FFn} {i : FIns} {v : Value} {x' : List HV} {s code why : Int}
/-- what stands ahead of an instruction -/
structure Ready (w0 w : World) (pw : Nat) (own : Nat → Nat) (fnv : List UInt8 → Option Value) (tops : List UInt8 → Option HP) (pf gx : Nat) (vn vp vk vs vc vr vl : Value) (slots : List HP) (st : MSt) (c : Nat) (regs : List HV) (f : FFn) (i : FIns) (v : Value) : Prop where
  mach : MWAt w0 w pw own fnv tops st c
  fr : MFr w own pf pw gx vn vp vk vs vc vr vl regs slots
  old : w0.heap.size ≤ gx
  ins : InsAt w0 v i
  good : goodIM f i = true
  kinds : IntsAt .i64 w0 vk f.kinds
  inv : FInvM f slots regs
  name : i.name.size ≤ maxLen
  n64 : is64 i.n
  few : c ≤ 1000000000
  slen : f.slots.length ≤ 1000
theorem Went.le (h : Went w0 w pw own fnv tops pf gx vn vp vk vs vc vr vl slots st c regs w') : ∃ c' : Nat, c' ≤ c + 1 ∧ Went w0 w pw own fnv tops pf gx vn vp vk vs vc vr vl slots st c' regs w' := ⟨c, by omega, h⟩
theorem hv_B {v : HV} (h : v.ok) : i64B v.ptr.block ∧ i64B v.ptr.off ∧ i64B v.ptr.high := ⟨h.2.1, h.2.2.1, h.2.2.2.2⟩
theorem go_1 (R : Ready w0 w pw own fnv tops pf gx vn vp vk vs vc vr vl slots st c regs f i v) (ho : i.op = 1) (h : instrM tops f.kinds slots st regs i = .go st' x') : Calls Try.prog 45 #[.pointer (some ⟨pf, 0, none⟩), v] w fun e w' => e = .returned (.tuple #[]) ∧ ∃ c' : Nat, c' ≤ c + 1 ∧ Went w0 w pw own fnv tops pf gx vn vp vk vs vc vr vl slots st' c' x' w' := by
  have P := goodIM_parts R.good (m := { dst := 1, n := true }) (by rw [ho]; rfl)
  have ok_dst := regM_ok R.inv.len P.1 (by decide) (by rw [ho]; rfl)
  rw [show instrM tops f.kinds slots st regs i = .go st (regs.set i.dst.toNat (numV i.n)) from by unfold instrM; rw [ho]; rfl] at h
  cases h
  exact (do_1 R.mach R.fr R.old R.ins ho ok_dst).mono fun e w' ⟨h1, h2⟩ => ⟨h1, h2.le⟩
theorem go_2 (R : Ready w0 w pw own fnv tops pf gx vn vp vk vs vc vr vl slots st c regs f i v) (ho : i.op = 2) (h : instrM tops f.kinds slots st regs i = .go st' x') : Calls Try.prog 45 #[.pointer (some ⟨pf, 0, none⟩), v] w fun e w' => e = .returned (.tuple #[]) ∧ ∃ c' : Nat, c' ≤ c + 1 ∧ Went w0 w pw own fnv tops pf gx vn vp vk vs vc vr vl slots st' c' x' w' := by
  have P := goodIM_parts R.good (m := { dst := 3, a := 3 }) (by rw [ho]; rfl)
  have ok_dst := regM_ok R.inv.len P.1 (by decide) (by rw [ho]; rfl)
  have ok_a := regM_ok R.inv.len P.2.1 (by decide) (by rw [ho]; rfl)
  rw [show instrM tops f.kinds slots st regs i = .go st (regs.set i.dst.toNat (rgV regs i.a)) from by unfold instrM; rw [ho]; rfl] at h
  cases h
  exact (do_2 R.mach R.fr R.old R.ins ho ok_dst ok_a).mono fun e w' ⟨h1, h2⟩ => ⟨h1, h2.le⟩
theorem go_3 (R : Ready w0 w pw own fnv tops pf gx vn vp vk vs vc vr vl slots st c regs f i v) (ho : i.op = 3) (h : instrM tops f.kinds slots st regs i = .go st' x') : Calls Try.prog 45 #[.pointer (some ⟨pf, 0, none⟩), v] w fun e w' => e = .returned (.tuple #[]) ∧ ∃ c' : Nat, c' ≤ c + 1 ∧ Went w0 w pw own fnv tops pf gx vn vp vk vs vc vr vl slots st' c' x' w' := by
  have P := goodIM_parts R.good (m := { dst := 1, a := 1, b := 1, n := true }) (by rw [ho]; rfl)
  have ok_dst := regM_ok R.inv.len P.1 (by decide) (by rw [ho]; rfl)
  have ok_a := regM_ok R.inv.len P.2.1 (by decide) (by rw [ho]; rfl)
  have ok_b := regM_ok R.inv.len P.2.2.1 (by decide) (rfl)
  have hn : 1 ≤ i.n ∧ i.n ≤ 27 := by
    have e := P.2.2.2.2.2.2.2
    unfold extraM at e
    rw [ho] at e
    simpa using e
  rw [show instrM tops f.kinds slots st regs i = .go st (regs.set i.dst.toNat (numV (doF i.n (rgV regs i.a).num (rgV regs i.b).num).1)) from by unfold instrM; rw [ho]; rfl] at h
  cases h
  exact (do_3 R.mach R.fr R.old R.ins ho ok_dst ok_a ok_b (fun v hv => (R.inv.ok v hv).1) hn).mono fun e w' ⟨h1, h2⟩ => ⟨h1, h2.le⟩
theorem go_4 (R : Ready w0 w pw own fnv tops pf gx vn vp vk vs vc vr vl slots st c regs f i v) (ho : i.op = 4) (h : instrM tops f.kinds slots st regs i = .go st' x') : Calls Try.prog 45 #[.pointer (some ⟨pf, 0, none⟩), v] w fun e w' => e = .returned (.tuple #[]) ∧ ∃ c' : Nat, c' ≤ c + 1 ∧ Went w0 w pw own fnv tops pf gx vn vp vk vs vc vr vl slots st' c' x' w' := by
  have P := goodIM_parts R.good (m := { dst := 1, a := 1, size := true }) (by rw [ho]; rfl)
  have ok_dst := regM_ok R.inv.len P.1 (by decide) (by rw [ho]; rfl)
  have ok_a := regM_ok R.inv.len P.2.1 (by decide) (by rw [ho]; rfl)
  rw [show instrM tops f.kinds slots st regs i = .go st (regs.set i.dst.toNat (numV (nar (rgV regs i.a).num (8 * i.size) true))) from by unfold instrM; rw [ho]; rfl] at h
  cases h
  exact (do_4 R.mach R.fr R.old R.ins ho ok_dst ok_a (size3 P.2.2.2.2.2.2.1 rfl (by omega))).mono fun e w' ⟨h1, h2⟩ => ⟨h1, h2.le⟩
theorem go_5 (R : Ready w0 w pw own fnv tops pf gx vn vp vk vs vc vr vl slots st c regs f i v) (ho : i.op = 5) (h : instrM tops f.kinds slots st regs i = .go st' x') : Calls Try.prog 45 #[.pointer (some ⟨pf, 0, none⟩), v] w fun e w' => e = .returned (.tuple #[]) ∧ ∃ c' : Nat, c' ≤ c + 1 ∧ Went w0 w pw own fnv tops pf gx vn vp vk vs vc vr vl slots st' c' x' w' := by
  have P := goodIM_parts R.good (m := { dst := 2 }) (by rw [ho]; rfl)
  have ok_dst := regM_ok R.inv.len P.1 (by decide) (by rw [ho]; rfl)
  rw [show instrM tops f.kinds slots st regs i = .go st (regs.set i.dst.toNat (ptrV (HP.zero))) from by unfold instrM; rw [ho]; rfl] at h
  cases h
  exact (do_ptr R.ins (Q := fun w' => ∃ c' : Nat, c' ≤ c + 1 ∧ Went w0 w pw own fnv tops pf gx vn vp vk vs vc vr vl slots st c' (regs.set i.dst.toNat (ptrV (HP.zero))) w') fun y hy => (ptr_5 (R.mach.still hy) (R.fr.still hy) R.old R.ins ho ok_dst).mono fun e w' ⟨h1, h2⟩ => ⟨h1, (h2.since hy).le⟩)
theorem go_6 (R : Ready w0 w pw own fnv tops pf gx vn vp vk vs vc vr vl slots st c regs f i v) (ho : i.op = 6) (h : instrM tops f.kinds slots st regs i = .go st' x') : Calls Try.prog 45 #[.pointer (some ⟨pf, 0, none⟩), v] w fun e w' => e = .returned (.tuple #[]) ∧ ∃ c' : Nat, c' ≤ c + 1 ∧ Went w0 w pw own fnv tops pf gx vn vp vk vs vc vr vl slots st' c' x' w' := by
  have P := goodIM_parts R.good (m := { dst := 2, name := true }) (by rw [ho]; rfl)
  have ok_dst := regM_ok R.inv.len P.1 (by decide) (by rw [ho]; rfl)
  rw [show instrM tops f.kinds slots st regs i = .go st (regs.set i.dst.toNat (ptrV ((tops i.name.data.toList).getD HP.zero))) from by unfold instrM; rw [ho]; rfl] at h
  cases h
  exact (do_ptr R.ins (Q := fun w' => ∃ c' : Nat, c' ≤ c + 1 ∧ Went w0 w pw own fnv tops pf gx vn vp vk vs vc vr vl slots st c' (regs.set i.dst.toNat (ptrV ((tops i.name.data.toList).getD HP.zero))) w') fun y hy => (ptr_6 (R.mach.still hy) (R.fr.still hy) R.old R.ins ho ok_dst R.name).mono fun e w' ⟨h1, h2⟩ => ⟨h1, (h2.since hy).le⟩)
theorem go_7 (R : Ready w0 w pw own fnv tops pf gx vn vp vk vs vc vr vl slots st c regs f i v) (ho : i.op = 7) (h : instrM tops f.kinds slots st regs i = .go st' x') : Calls Try.prog 45 #[.pointer (some ⟨pf, 0, none⟩), v] w fun e w' => e = .returned (.tuple #[]) ∧ ∃ c' : Nat, c' ≤ c + 1 ∧ Went w0 w pw own fnv tops pf gx vn vp vk vs vc vr vl slots st' c' x' w' := by
  have P := goodIM_parts R.good (m := { dst := 2, n := true }) (by rw [ho]; rfl)
  have ok_dst := regM_ok R.inv.len P.1 (by decide) (by rw [ho]; rfl)
  have hN : i.n < f.slots.length := by
    have e := P.2.2.2.2.2.2.2
    unfold extraM at e
    rw [ho] at e
    simpa using e
  have hsl := R.inv.slen
  have hs1000 := R.slen
  have hn0 := R.n64.1
  rw [show instrM tops f.kinds slots st regs i = .go st (regs.set i.dst.toNat (ptrV (slots.getD i.n.toNat HP.zero))) from by unfold instrM; rw [ho]; rfl] at h
  cases h
  exact (do_ptr R.ins (Q := fun w' => ∃ c' : Nat, c' ≤ c + 1 ∧ Went w0 w pw own fnv tops pf gx vn vp vk vs vc vr vl slots st c' (regs.set i.dst.toNat (ptrV (slots.getD i.n.toNat HP.zero))) w') fun y hy => (ptr_7 (R.mach.still hy) (R.fr.still hy) R.old R.ins ho ok_dst ⟨hn0, by omega⟩ (by omega)).mono fun e w' ⟨h1, h2⟩ => ⟨h1, (h2.since hy).le⟩)
theorem go_8 (R : Ready w0 w pw own fnv tops pf gx vn vp vk vs vc vr vl slots st c regs f i v) (ho : i.op = 8) (h : instrM tops f.kinds slots st regs i = .go st' x') : Calls Try.prog 45 #[.pointer (some ⟨pf, 0, none⟩), v] w fun e w' => e = .returned (.tuple #[]) ∧ ∃ c' : Nat, c' ≤ c + 1 ∧ Went w0 w pw own fnv tops pf gx vn vp vk vs vc vr vl slots st' c' x' w' := by
  have P := goodIM_parts R.good (m := { dst := 2, a := 2, b := 1 }) (by rw [ho]; rfl)
  have ok_dst := regM_ok R.inv.len P.1 (by decide) (by rw [ho]; rfl)
  have ok_a := regM_ok R.inv.len P.2.1 (by decide) (by rw [ho]; rfl)
  have ok_b := regM_ok R.inv.len P.2.2.1 (by decide) (rfl)
  rw [show instrM tops f.kinds slots st regs i = .go st (regs.set i.dst.toNat (ptrV (moveP (rgV regs i.a).ptr (wrap64 (rgV regs i.b).num)))) from by unfold instrM; rw [ho]; rfl] at h
  cases h
  exact (do_ptr R.ins (Q := fun w' => ∃ c' : Nat, c' ≤ c + 1 ∧ Went w0 w pw own fnv tops pf gx vn vp vk vs vc vr vl slots st c' (regs.set i.dst.toNat (ptrV (moveP (rgV regs i.a).ptr (wrap64 (rgV regs i.b).num)))) w') fun y hy => (ptr_8 (R.mach.still hy) (R.fr.still hy) R.old R.ins ho ok_dst ok_a ok_b).mono fun e w' ⟨h1, h2⟩ => ⟨h1, (h2.since hy).le⟩)
theorem go_9 (R : Ready w0 w pw own fnv tops pf gx vn vp vk vs vc vr vl slots st c regs f i v) (ho : i.op = 9) (h : instrM tops f.kinds slots st regs i = .go st' x') : Calls Try.prog 45 #[.pointer (some ⟨pf, 0, none⟩), v] w fun e w' => e = .returned (.tuple #[]) ∧ ∃ c' : Nat, c' ≤ c + 1 ∧ Went w0 w pw own fnv tops pf gx vn vp vk vs vc vr vl slots st' c' x' w' := by
  have P := goodIM_parts R.good (m := { dst := 2, a := 2, n := true, size := true }) (by rw [ho]; rfl)
  have ok_dst := regM_ok R.inv.len P.1 (by decide) (by rw [ho]; rfl)
  have ok_a := regM_ok R.inv.len P.2.1 (by decide) (by rw [ho]; rfl)
  rw [show instrM tops f.kinds slots st regs i = .go st (regs.set i.dst.toNat (ptrV (partP (rgV regs i.a).ptr (wrap64 i.n) i.size))) from by unfold instrM; rw [ho]; rfl] at h
  cases h
  exact (do_ptr R.ins (Q := fun w' => ∃ c' : Nat, c' ≤ c + 1 ∧ Went w0 w pw own fnv tops pf gx vn vp vk vs vc vr vl slots st c' (regs.set i.dst.toNat (ptrV (partP (rgV regs i.a).ptr (wrap64 i.n) i.size))) w') fun y hy => (ptr_9 (R.mach.still hy) (R.fr.still hy) R.old R.ins ho ok_dst ok_a).mono fun e w' ⟨h1, h2⟩ => ⟨h1, (h2.since hy).le⟩)
theorem go_10 (R : Ready w0 w pw own fnv tops pf gx vn vp vk vs vc vr vl slots st c regs f i v) (ho : i.op = 10) (h : instrM tops f.kinds slots st regs i = .go st' x') : Calls Try.prog 45 #[.pointer (some ⟨pf, 0, none⟩), v] w fun e w' => e = .returned (.tuple #[]) ∧ ∃ c' : Nat, c' ≤ c + 1 ∧ Went w0 w pw own fnv tops pf gx vn vp vk vs vc vr vl slots st' c' x' w' := by
  have P := goodIM_parts R.good (m := { dst := 1, a := 2 }) (by rw [ho]; rfl)
  have ok_dst := regM_ok R.inv.len P.1 (by decide) (by rw [ho]; rfl)
  have ok_a := regM_ok R.inv.len P.2.1 (by decide) (by rw [ho]; rfl)
  rw [show instrM tops f.kinds slots st regs i = .go st (regs.set i.dst.toNat (numV (if (rgV regs i.a).ptr.block = 0 then 1 else 0))) from by unfold instrM; rw [ho]; rfl] at h
  cases h
  by_cases e : (rgV regs i.a).ptr.block = 0
  · rw [if_pos e]
    exact (do_10y R.mach R.fr R.old R.ins ho ok_dst ok_a (by rw [e]; rfl)).mono fun e w' ⟨h1, h2⟩ => ⟨h1, h2.le⟩
  · rw [if_neg e]
    exact (do_10n R.mach R.fr R.old R.ins ho ok_dst ok_a (beq_false_of_ne e)).mono fun e w' ⟨h1, h2⟩ => ⟨h1, h2.le⟩
theorem go_11 (R : Ready w0 w pw own fnv tops pf gx vn vp vk vs vc vr vl slots st c regs f i v) (ho : i.op = 11) (h : instrM tops f.kinds slots st regs i = .go st' x') : Calls Try.prog 45 #[.pointer (some ⟨pf, 0, none⟩), v] w fun e w' => e = .returned (.tuple #[]) ∧ ∃ c' : Nat, c' ≤ c + 1 ∧ Went w0 w pw own fnv tops pf gx vn vp vk vs vc vr vl slots st' c' x' w' := by
  have P := goodIM_parts R.good (m := { dst := 3, a := 2, size := true }) (by rw [ho]; rfl)
  have ok_dst := regM_ok R.inv.len P.1 (by decide) (by rw [ho]; rfl)
  have ok_a := regM_ok R.inv.len P.2.1 (by decide) (by rw [ho]; rfl)
  rw [show instrM tops f.kinds slots st regs i = (if errP st (rgV regs i.a).ptr i.size = 0 then .go st (regs.set i.dst.toNat (asV (f.kinds.getD i.dst.toNat 0) (getOf st.at_ (rgV regs i.a).ptr.block (rgV regs i.a).ptr.off) i.size)) else .stop st 5 0 (errP st (rgV regs i.a).ptr i.size)) from by unfold instrM; rw [ho]; rfl] at h
  by_cases e : errP st (rgV regs i.a).ptr i.size = 0
  · rw [if_pos e] at h
    cases h
    exact (do_11ok R.mach R.fr R.old R.ins ho ok_dst ok_a R.kinds R.inv.len (size3 P.2.2.2.2.2.2.1 rfl (by omega)) (hv_B (rgV_ok R.inv.ok _)) e).mono fun e w' ⟨h1, h2⟩ => ⟨h1, h2.le⟩
  · rw [if_neg e] at h
    cases h
theorem stp_11 (R : Ready w0 w pw own fnv tops pf gx vn vp vk vs vc vr vl slots st c regs f i v) (ho : i.op = 11) (h : instrM tops f.kinds slots st regs i = .stop st' s code why) : Calls Try.prog 45 #[.pointer (some ⟨pf, 0, none⟩), v] w fun e w' => ∃ c' : Nat, Fell w0 w pw own fnv tops gx s code why st' c' e w' := by
  have P := goodIM_parts R.good (m := { dst := 3, a := 2, size := true }) (by rw [ho]; rfl)
  have ok_dst := regM_ok R.inv.len P.1 (by decide) (by rw [ho]; rfl)
  have ok_a := regM_ok R.inv.len P.2.1 (by decide) (by rw [ho]; rfl)
  rw [show instrM tops f.kinds slots st regs i = (if errP st (rgV regs i.a).ptr i.size = 0 then .go st (regs.set i.dst.toNat (asV (f.kinds.getD i.dst.toNat 0) (getOf st.at_ (rgV regs i.a).ptr.block (rgV regs i.a).ptr.off) i.size)) else .stop st 5 0 (errP st (rgV regs i.a).ptr i.size)) from by unfold instrM; rw [ho]; rfl] at h
  by_cases e : errP st (rgV regs i.a).ptr i.size = 0
  · rw [if_pos e] at h
    cases h
  · rw [if_neg e] at h
    cases h
    exact (do_11no R.mach R.fr R.old R.ins ho ok_a R.kinds R.inv.len (size3 P.2.2.2.2.2.2.1 rfl (by omega)) (hv_B (rgV_ok R.inv.ok _)) (by simpa using e)).mono fun e w' h => ⟨c, h⟩
theorem go_12 (R : Ready w0 w pw own fnv tops pf gx vn vp vk vs vc vr vl slots st c regs f i v) (ho : i.op = 12) (h : instrM tops f.kinds slots st regs i = .go st' x') : Calls Try.prog 45 #[.pointer (some ⟨pf, 0, none⟩), v] w fun e w' => e = .returned (.tuple #[]) ∧ ∃ c' : Nat, c' ≤ c + 1 ∧ Went w0 w pw own fnv tops pf gx vn vp vk vs vc vr vl slots st' c' x' w' := by
  have P := goodIM_parts R.good (m := { a := 2, b := 3, size := true }) (by rw [ho]; rfl)
  have ok_a := regM_ok R.inv.len P.2.1 (by decide) (by rw [ho]; rfl)
  have ok_b := regM_ok R.inv.len P.2.2.1 (by decide) (rfl)
  have hcc := R.few
  rw [show instrM tops f.kinds slots st regs i = (if errP st (rgV regs i.a).ptr i.size = 0 then .go { st with blks := setAt st.blks (rgV regs i.a).ptr.block fun y => { y with used := true }, at_ := putH st.at_ (rgV regs i.a).ptr.block (rgV regs i.a).ptr.off (asV (f.kinds.getD i.b.toNat 0) (rgV regs i.b) i.size) } regs else .stop st 5 0 (errP st (rgV regs i.a).ptr i.size)) from by unfold instrM; rw [ho]; rfl] at h
  by_cases e : errP st (rgV regs i.a).ptr i.size = 0
  · rw [if_pos e] at h
    cases h
    exact (do_eff R.ins (by omega) (Q := fun w' => ∃ c' : Nat, c' ≤ c + 1 ∧ Went w0 w pw own fnv tops pf gx vn vp vk vs vc vr vl slots { st with blks := setAt st.blks (rgV regs i.a).ptr.block fun y => { y with used := true }, at_ := putH st.at_ (rgV regs i.a).ptr.block (rgV regs i.a).ptr.off (asV (f.kinds.getD i.b.toNat 0) (rgV regs i.b) i.size) } c' regs w') fun y hy => (eff_12ok (R.mach.still hy) (R.fr.still hy) R.old R.ins ho ok_a ok_b R.kinds R.inv.len (size3 P.2.2.2.2.2.2.1 rfl (by omega)) (hv_B (rgV_ok R.inv.ok _)) e (by omega)).mono fun e w' ⟨h1, c', hc, h2⟩ => ⟨h1, c', hc, h2.since hy⟩)
  · rw [if_neg e] at h
    cases h
theorem stp_12 (R : Ready w0 w pw own fnv tops pf gx vn vp vk vs vc vr vl slots st c regs f i v) (ho : i.op = 12) (h : instrM tops f.kinds slots st regs i = .stop st' s code why) : Calls Try.prog 45 #[.pointer (some ⟨pf, 0, none⟩), v] w fun e w' => ∃ c' : Nat, Fell w0 w pw own fnv tops gx s code why st' c' e w' := by
  have P := goodIM_parts R.good (m := { a := 2, b := 3, size := true }) (by rw [ho]; rfl)
  have ok_a := regM_ok R.inv.len P.2.1 (by decide) (by rw [ho]; rfl)
  have ok_b := regM_ok R.inv.len P.2.2.1 (by decide) (rfl)
  have hcc := R.few
  rw [show instrM tops f.kinds slots st regs i = (if errP st (rgV regs i.a).ptr i.size = 0 then .go { st with blks := setAt st.blks (rgV regs i.a).ptr.block fun y => { y with used := true }, at_ := putH st.at_ (rgV regs i.a).ptr.block (rgV regs i.a).ptr.off (asV (f.kinds.getD i.b.toNat 0) (rgV regs i.b) i.size) } regs else .stop st 5 0 (errP st (rgV regs i.a).ptr i.size)) from by unfold instrM; rw [ho]; rfl] at h
  by_cases e : errP st (rgV regs i.a).ptr i.size = 0
  · rw [if_pos e] at h
    cases h
  · rw [if_neg e] at h
    cases h
    exact (do_eff_no R.ins (by omega) (s := 5) (code := 0) (why := (errP st (rgV regs i.a).ptr i.size)) (Q := fun w' => ∃ own', ChgG gx own own' w w' ∧ MWAt w0 w' pw own' fnv tops st c) fun y hy => (eff_12no (R.mach.still hy) (R.fr.still hy) R.old R.ins ho ok_a ok_b R.kinds R.inv.len (size3 P.2.2.2.2.2.2.1 rfl (by omega)) (hv_B (rgV_ok R.inv.ok _)) (by simpa using e) (by omega)).mono fun e w' h => by
      obtain ⟨h1, own', h2, h3⟩ := h.since hy
      exact ⟨h1, own', h2, h3⟩).mono fun e w' h => ⟨c, h⟩
theorem go_13 (R : Ready w0 w pw own fnv tops pf gx vn vp vk vs vc vr vl slots st c regs f i v) (ho : i.op = 13) (h : instrM tops f.kinds slots st regs i = .go st' x') : Calls Try.prog 45 #[.pointer (some ⟨pf, 0, none⟩), v] w fun e w' => e = .returned (.tuple #[]) ∧ ∃ c' : Nat, c' ≤ c + 1 ∧ Went w0 w pw own fnv tops pf gx vn vp vk vs vc vr vl slots st' c' x' w' := by
  have P := goodIM_parts R.good (m := { n := true }) (by rw [ho]; rfl)
  have hN : i.n < f.slots.length := by
    have e := P.2.2.2.2.2.2.2
    unfold extraM at e
    rw [ho] at e
    simpa using e
  have hsl := R.inv.slen
  have hs1000 := R.slen
  have hn0 := R.n64.1
  rw [show instrM tops f.kinds slots st regs i = .go (clearM st (slots.getD i.n.toNat HP.zero).block) regs from by unfold instrM; rw [ho]; rfl] at h
  cases h
  exact (do_eff R.ins (by omega) (Q := fun w' => ∃ c' : Nat, c' ≤ c + 1 ∧ Went w0 w pw own fnv tops pf gx vn vp vk vs vc vr vl slots (clearM st (slots.getD i.n.toNat HP.zero).block) c' regs w') fun y hy => (eff_13 (R.mach.still hy) (R.fr.still hy) R.old R.ins ho ⟨hn0, by omega⟩ (by omega) (slot_ok R.inv.sok _).1).mono fun e w' ⟨h1, c', hc, h2⟩ => ⟨h1, c', by omega, h2.since hy⟩)
theorem go_14 (R : Ready w0 w pw own fnv tops pf gx vn vp vk vs vc vr vl slots st c regs f i v) (ho : i.op = 14) (h : instrM tops f.kinds slots st regs i = .go st' x') : Calls Try.prog 45 #[.pointer (some ⟨pf, 0, none⟩), v] w fun e w' => e = .returned (.tuple #[]) ∧ ∃ c' : Nat, c' ≤ c + 1 ∧ Went w0 w pw own fnv tops pf gx vn vp vk vs vc vr vl slots st' c' x' w' := by
  have P := goodIM_parts R.good (m := { dst := 2, a := 1 }) (by rw [ho]; rfl)
  have ok_dst := regM_ok R.inv.len P.1 (by decide) (by rw [ho]; rfl)
  have ok_a := regM_ok R.inv.len P.2.1 (by decide) (by rw [ho]; rfl)
  have hcc := R.few
  rw [show instrM tops f.kinds slots st regs i = (if wrap64 (rgV regs i.a).num < 1 ∨ 4194304 < wrap64 (rgV regs i.a).num then .stop st 3 0 0 else .go { st with blks := st.blks ++ [⟨wrap64 (rgV regs i.a).num, true, true, false⟩] } (regs.set i.dst.toNat (ptrV ⟨st.blks.length, 0, 0, wrap64 (rgV regs i.a).num⟩))) from by unfold instrM; rw [ho]; rfl] at h
  by_cases e : wrap64 (rgV regs i.a).num < 1 ∨ 4194304 < wrap64 (rgV regs i.a).num
  · rw [if_pos e] at h
    cases h
  · rw [if_neg e] at h
    cases h
    exact (do_ptr R.ins (Q := fun w' => ∃ c' : Nat, c' ≤ c + 1 ∧ Went w0 w pw own fnv tops pf gx vn vp vk vs vc vr vl slots { st with blks := st.blks ++ [⟨wrap64 (rgV regs i.a).num, true, true, false⟩] } c' (regs.set i.dst.toNat (ptrV ⟨st.blks.length, 0, 0, wrap64 (rgV regs i.a).num⟩)) w') fun y hy => (ptr_14ok (R.mach.still hy) (R.fr.still hy) R.old R.ins ho ok_dst ok_a e (by omega)).mono fun e w' ⟨c', hc, h1, h2⟩ => ⟨h1, c', hc, h2.since hy⟩)
theorem stp_14 (R : Ready w0 w pw own fnv tops pf gx vn vp vk vs vc vr vl slots st c regs f i v) (ho : i.op = 14) (h : instrM tops f.kinds slots st regs i = .stop st' s code why) : Calls Try.prog 45 #[.pointer (some ⟨pf, 0, none⟩), v] w fun e w' => ∃ c' : Nat, Fell w0 w pw own fnv tops gx s code why st' c' e w' := by
  have P := goodIM_parts R.good (m := { dst := 2, a := 1 }) (by rw [ho]; rfl)
  have ok_dst := regM_ok R.inv.len P.1 (by decide) (by rw [ho]; rfl)
  have ok_a := regM_ok R.inv.len P.2.1 (by decide) (by rw [ho]; rfl)
  rw [show instrM tops f.kinds slots st regs i = (if wrap64 (rgV regs i.a).num < 1 ∨ 4194304 < wrap64 (rgV regs i.a).num then .stop st 3 0 0 else .go { st with blks := st.blks ++ [⟨wrap64 (rgV regs i.a).num, true, true, false⟩] } (regs.set i.dst.toNat (ptrV ⟨st.blks.length, 0, 0, wrap64 (rgV regs i.a).num⟩))) from by unfold instrM; rw [ho]; rfl] at h
  by_cases e : wrap64 (rgV regs i.a).num < 1 ∨ 4194304 < wrap64 (rgV regs i.a).num
  · rw [if_pos e] at h
    cases h
    exact (do_ptr_no R.ins (s := 3) (code := 0) (why := 0) (Q := fun w' => ∃ own', ChgG gx own own' w w' ∧ MWAt w0 w' pw own' fnv tops st c) fun y hy => (ptr_14no (R.mach.still hy) (R.fr.still hy) R.old R.ins ho ok_dst ok_a e).mono fun e w' h => by
      obtain ⟨h1, own', h2, h3⟩ := h.since hy
      exact ⟨h1, own', h2, h3⟩).mono fun e w' h => ⟨c, h⟩
  · rw [if_neg e] at h
    cases h
theorem go_15 (R : Ready w0 w pw own fnv tops pf gx vn vp vk vs vc vr vl slots st c regs f i v) (ho : i.op = 15) (h : instrM tops f.kinds slots st regs i = .go st' x') : Calls Try.prog 45 #[.pointer (some ⟨pf, 0, none⟩), v] w fun e w' => e = .returned (.tuple #[]) ∧ ∃ c' : Nat, c' ≤ c + 1 ∧ Went w0 w pw own fnv tops pf gx vn vp vk vs vc vr vl slots st' c' x' w' := by
  have P := goodIM_parts R.good (m := { a := 2 }) (by rw [ho]; rfl)
  have ok_a := regM_ok R.inv.len P.2.1 (by decide) (by rw [ho]; rfl)
  rw [show instrM tops f.kinds slots st regs i = (if freeOf st.blks (rgV regs i.a).ptr.block (rgV regs i.a).ptr.off (rgV regs i.a).ptr.low (rgV regs i.a).ptr.high = 0 then .go (gone st (rgV regs i.a).ptr.block) regs else .stop st 5 0 (freeOf st.blks (rgV regs i.a).ptr.block (rgV regs i.a).ptr.off (rgV regs i.a).ptr.low (rgV regs i.a).ptr.high)) from by unfold instrM; rw [ho]; rfl] at h
  by_cases e : freeOf st.blks (rgV regs i.a).ptr.block (rgV regs i.a).ptr.off (rgV regs i.a).ptr.low (rgV regs i.a).ptr.high = 0
  · rw [if_pos e] at h
    cases h
    exact (do_eff R.ins (by omega) (Q := fun w' => ∃ c' : Nat, c' ≤ c + 1 ∧ Went w0 w pw own fnv tops pf gx vn vp vk vs vc vr vl slots (gone st (rgV regs i.a).ptr.block) c' regs w') fun y hy => (eff_15ok (R.mach.still hy) (R.fr.still hy) R.old R.ins ho ok_a (hv_B (rgV_ok R.inv.ok _)) e).mono fun e w' ⟨h1, c', hc, h2⟩ => ⟨h1, c', by omega, h2.since hy⟩)
  · rw [if_neg e] at h
    cases h
theorem stp_15 (R : Ready w0 w pw own fnv tops pf gx vn vp vk vs vc vr vl slots st c regs f i v) (ho : i.op = 15) (h : instrM tops f.kinds slots st regs i = .stop st' s code why) : Calls Try.prog 45 #[.pointer (some ⟨pf, 0, none⟩), v] w fun e w' => ∃ c' : Nat, Fell w0 w pw own fnv tops gx s code why st' c' e w' := by
  have P := goodIM_parts R.good (m := { a := 2 }) (by rw [ho]; rfl)
  have ok_a := regM_ok R.inv.len P.2.1 (by decide) (by rw [ho]; rfl)
  rw [show instrM tops f.kinds slots st regs i = (if freeOf st.blks (rgV regs i.a).ptr.block (rgV regs i.a).ptr.off (rgV regs i.a).ptr.low (rgV regs i.a).ptr.high = 0 then .go (gone st (rgV regs i.a).ptr.block) regs else .stop st 5 0 (freeOf st.blks (rgV regs i.a).ptr.block (rgV regs i.a).ptr.off (rgV regs i.a).ptr.low (rgV regs i.a).ptr.high)) from by unfold instrM; rw [ho]; rfl] at h
  by_cases e : freeOf st.blks (rgV regs i.a).ptr.block (rgV regs i.a).ptr.off (rgV regs i.a).ptr.low (rgV regs i.a).ptr.high = 0
  · rw [if_pos e] at h
    cases h
  · rw [if_neg e] at h
    cases h
    exact (do_eff_no R.ins (by omega) (s := 5) (code := 0) (why := (freeOf st.blks (rgV regs i.a).ptr.block (rgV regs i.a).ptr.off (rgV regs i.a).ptr.low (rgV regs i.a).ptr.high)) (Q := fun w' => ∃ own', ChgG gx own own' w w' ∧ MWAt w0 w' pw own' fnv tops st c) fun y hy => (eff_15no (R.mach.still hy) (R.fr.still hy) R.old R.ins ho ok_a (hv_B (rgV_ok R.inv.ok _)) (by simpa using e)).mono fun e w' h => by
      obtain ⟨h1, own', h2, h3⟩ := h.since hy
      exact ⟨h1, own', h2, h3⟩).mono fun e w' h => ⟨c, h⟩
theorem go_18 (R : Ready w0 w pw own fnv tops pf gx vn vp vk vs vc vr vl slots st c regs f i v) (ho : i.op = 18) (h : instrM tops f.kinds slots st regs i = .go st' x') : Calls Try.prog 45 #[.pointer (some ⟨pf, 0, none⟩), v] w fun e w' => e = .returned (.tuple #[]) ∧ ∃ c' : Nat, c' ≤ c + 1 ∧ Went w0 w pw own fnv tops pf gx vn vp vk vs vc vr vl slots st' c' x' w' := by
  have P := goodIM_parts R.good (m := { far := true }) (by rw [ho]; rfl)
  rw [show instrM tops f.kinds slots st regs i = .go st regs from by unfold instrM; rw [ho]; rfl] at h
  cases h
  exact (do_eff R.ins (by omega) (Q := fun w' => ∃ c' : Nat, c' ≤ c + 1 ∧ Went w0 w pw own fnv tops pf gx vn vp vk vs vc vr vl slots st c' regs w') fun y hy => (eff_nop R.ins (by omega) _ y).mono fun e w' ⟨h1, h2⟩ => ⟨h1, c, by omega, own, (Chg.calm own (hy.then h2)).g gx, R.mach.still (hy.then h2), R.fr.still (hy.then h2)⟩)
theorem go_19 (R : Ready w0 w pw own fnv tops pf gx vn vp vk vs vc vr vl slots st c regs f i v) (ho : i.op = 19) (h : instrM tops f.kinds slots st regs i = .go st' x') : Calls Try.prog 45 #[.pointer (some ⟨pf, 0, none⟩), v] w fun e w' => e = .returned (.tuple #[]) ∧ ∃ c' : Nat, c' ≤ c + 1 ∧ Went w0 w pw own fnv tops pf gx vn vp vk vs vc vr vl slots st' c' x' w' := by
  have P := goodIM_parts R.good (m := { a := 1, far := true }) (by rw [ho]; rfl)
  have ok_a := regM_ok R.inv.len P.2.1 (by decide) (by rw [ho]; rfl)
  rw [show instrM tops f.kinds slots st regs i = .go st regs from by unfold instrM; rw [ho]; rfl] at h
  cases h
  exact (do_eff R.ins (by omega) (Q := fun w' => ∃ c' : Nat, c' ≤ c + 1 ∧ Went w0 w pw own fnv tops pf gx vn vp vk vs vc vr vl slots st c' regs w') fun y hy => (eff_nop R.ins (by omega) _ y).mono fun e w' ⟨h1, h2⟩ => ⟨h1, c, by omega, own, (Chg.calm own (hy.then h2)).g gx, R.mach.still (hy.then h2), R.fr.still (hy.then h2)⟩)
theorem go_20 (R : Ready w0 w pw own fnv tops pf gx vn vp vk vs vc vr vl slots st c regs f i v) (ho : i.op = 20) (h : instrM tops f.kinds slots st regs i = .go st' x') : Calls Try.prog 45 #[.pointer (some ⟨pf, 0, none⟩), v] w fun e w' => e = .returned (.tuple #[]) ∧ ∃ c' : Nat, c' ≤ c + 1 ∧ Went w0 w pw own fnv tops pf gx vn vp vk vs vc vr vl slots st' c' x' w' := by
  have P := goodIM_parts R.good (m := { a := 1 }) (by rw [ho]; rfl)
  have ok_a := regM_ok R.inv.len P.2.1 (by decide) (by rw [ho]; rfl)
  rw [show instrM tops f.kinds slots st regs i = .go { st with out := st.out ++ [(rgV regs i.a).num % 256] } regs from by unfold instrM; rw [ho]; rfl] at h
  cases h
  exact (do_eff R.ins (by omega) (Q := fun w' => ∃ c' : Nat, c' ≤ c + 1 ∧ Went w0 w pw own fnv tops pf gx vn vp vk vs vc vr vl slots { st with out := st.out ++ [(rgV regs i.a).num % 256] } c' regs w') fun y hy => (eff_20 (R.mach.still hy) (R.fr.still hy) R.old R.ins ho ok_a (rgV_ok R.inv.ok _).1 R.few).mono fun e w' ⟨h1, c', hc, h2⟩ => ⟨h1, c', hc, h2.since hy⟩)
theorem go_21 (R : Ready w0 w pw own fnv tops pf gx vn vp vk vs vc vr vl slots st c regs f i v) (ho : i.op = 21) (h : instrM tops f.kinds slots st regs i = .go st' x') : Calls Try.prog 45 #[.pointer (some ⟨pf, 0, none⟩), v] w fun e w' => e = .returned (.tuple #[]) ∧ ∃ c' : Nat, c' ≤ c + 1 ∧ Went w0 w pw own fnv tops pf gx vn vp vk vs vc vr vl slots st' c' x' w' := by
  have P := goodIM_parts R.good (m := { dst := 1 }) (by rw [ho]; rfl)
  have ok_dst := regM_ok R.inv.len P.1 (by decide) (by rw [ho]; rfl)
  rw [show instrM tops f.kinds slots st regs i = .go (getM st).2 (regs.set i.dst.toNat (numV (getM st).1)) from by unfold instrM; rw [ho]; rfl] at h
  cases h
  cases e : st.input with
  | nil =>
    rw [show getM st = (18446744073709551615, st) from by unfold getM; rw [e]]
    exact (do_21e R.mach R.fr R.old R.ins ho ok_dst e).mono fun e w' ⟨h1, h2⟩ => ⟨h1, h2.le⟩
  | cons b r =>
    rw [show getM st = (b, { st with input := r }) from by unfold getM; rw [e]]
    exact (do_21s R.mach R.fr R.old R.ins ho ok_dst e).mono fun e w' ⟨h1, h2⟩ => ⟨h1, h2.le⟩
theorem stp_22 (R : Ready w0 w pw own fnv tops pf gx vn vp vk vs vc vr vl slots st c regs f i v) (ho : i.op = 22) (h : instrM tops f.kinds slots st regs i = .stop st' s code why) : Calls Try.prog 45 #[.pointer (some ⟨pf, 0, none⟩), v] w fun e w' => ∃ c' : Nat, Fell w0 w pw own fnv tops gx s code why st' c' e w' := by
  have P := goodIM_parts R.good (m := { a := 1 }) (by rw [ho]; rfl)
  have ok_a := regM_ok R.inv.len P.2.1 (by decide) (by rw [ho]; rfl)
  rw [show instrM tops f.kinds slots st regs i = .stop st 1 ((rgV regs i.a).num % 256) 0 from by unfold instrM; rw [ho]; rfl] at h
  cases h
  exact (do_eff_no R.ins (by omega) (s := 1) (code := (rgV regs i.a).num % 256) (why := 0) (Q := fun w' => ∃ own', ChgG gx own own' w w' ∧ MWAt w0 w' pw own' fnv tops st c) fun y hy => (eff_22 (R.mach.still hy) (R.fr.still hy) R.old R.ins ho ok_a (rgV_ok R.inv.ok _).1).mono fun e w' ⟨h1, h2⟩ => ⟨h1, own, (Chg.calm own (hy.then h2)).g gx, R.mach.still (hy.then h2)⟩).mono fun e w' h => ⟨c, h⟩
/-- an instruction that goes on -/
theorem do_go (R : Ready w0 w pw own fnv tops pf gx vn vp vk vs vc vr vl slots st c regs f i v) (h16 : i.op ≠ 16) (h17 : i.op ≠ 17) (h : instrM tops f.kinds slots st regs i = .go st' x') : Calls Try.prog 45 #[.pointer (some ⟨pf, 0, none⟩), v] w fun e w' => e = .returned (.tuple #[]) ∧ ∃ c' : Nat, c' ≤ c + 1 ∧ Went w0 w pw own fnv tops pf gx vn vp vk vs vc vr vl slots st' c' x' w' := by
  obtain ⟨m, hm⟩ := goodIM_form R.good
  rcases formM_ops hm with ho | ho | ho | ho | ho | ho | ho | ho | ho | ho | ho | ho | ho | ho | ho | ho | ho | ho | ho | ho | ho | ho
  · exact go_1 R ho h
  · exact go_2 R ho h
  · exact go_3 R ho h
  · exact go_4 R ho h
  · exact go_5 R ho h
  · exact go_6 R ho h
  · exact go_7 R ho h
  · exact go_8 R ho h
  · exact go_9 R ho h
  · exact go_10 R ho h
  · exact go_11 R ho h
  · exact go_12 R ho h
  · exact go_13 R ho h
  · exact go_14 R ho h
  · exact go_15 R ho h
  · exact absurd ho (by omega)
  · exact absurd ho (by omega)
  · exact go_18 R ho h
  · exact go_19 R ho h
  · exact go_20 R ho h
  · exact go_21 R ho h
  · rw [show instrM tops f.kinds slots st regs i = .stop st 1 ((rgV regs i.a).num % 256) 0 from by unfold instrM; rw [ho]; rfl] at h; cases h
/-- an instruction that stops -/
theorem do_stop (R : Ready w0 w pw own fnv tops pf gx vn vp vk vs vc vr vl slots st c regs f i v) (h16 : i.op ≠ 16) (h17 : i.op ≠ 17) (h : instrM tops f.kinds slots st regs i = .stop st' s code why) : Calls Try.prog 45 #[.pointer (some ⟨pf, 0, none⟩), v] w fun e w' => ∃ c' : Nat, Fell w0 w pw own fnv tops gx s code why st' c' e w' := by
  obtain ⟨m, hm⟩ := goodIM_form R.good
  rcases formM_ops hm with ho | ho | ho | ho | ho | ho | ho | ho | ho | ho | ho | ho | ho | ho | ho | ho | ho | ho | ho | ho | ho | ho
  · unfold instrM at h; rw [ho] at h; cases h
  · unfold instrM at h; rw [ho] at h; cases h
  · unfold instrM at h; rw [ho] at h; cases h
  · unfold instrM at h; rw [ho] at h; cases h
  · unfold instrM at h; rw [ho] at h; cases h
  · unfold instrM at h; rw [ho] at h; cases h
  · unfold instrM at h; rw [ho] at h; cases h
  · unfold instrM at h; rw [ho] at h; cases h
  · unfold instrM at h; rw [ho] at h; cases h
  · unfold instrM at h; rw [ho] at h; cases h
  · exact stp_11 R ho h
  · exact stp_12 R ho h
  · unfold instrM at h; rw [ho] at h; cases h
  · exact stp_14 R ho h
  · exact stp_15 R ho h
  · exact absurd ho (by omega)
  · exact absurd ho (by omega)
  · unfold instrM at h; rw [ho] at h; cases h
  · unfold instrM at h; rw [ho] at h; cases h
  · unfold instrM at h; rw [ho] at h; cases h
  · unfold instrM at h; rw [ho] at h; cases h
  · exact stp_22 R ho h
end
end Go.Proofs.Ytojfgdoniajmeaa
