/- Package fat: an instruction that is no call, whole. -/
import Derived.Test.YtpmbakhnamlooaaFatR
namespace Go.Proofs.Ytpmbakhnamlooaa
set_option linter.unusedVariables false
set_option linter.unusedSimpArgs false
open Go.RowKit

section
variable {w0 w w' w1 w2 : World} {pf pw gx : Nat} {own own' own'' : Nat → Nat} {vn vp vk vs vc vr vl : Value} {regs slots : List Int} {lock key : Int} {fnv : List UInt8 → Option Value} {tops : List UInt8 → Option Int} {st : FSt} {c : Nat}

theorem Went.from {regs' : List Int} {st' : FSt} {c' : Nat} {e : Ending} (s : Step (fun _ => False) w w1) (h : Went w0 w1 pw own fnv tops pf gx vn vp vk vs vc vr vl slots lock key st' c' regs' e w') : Went w0 w pw own fnv tops pf gx vn vp vk vs vc vr vl slots lock key st' c' regs' e w' := by
  obtain ⟨h1, own', h2, h3, h4⟩ := h
  exact ⟨h1, own', ((Chg.calm own s).g gx).trans h2, h3, h4⟩
theorem Went.le {regs' : List Int} {st' : FSt} {c' d : Nat} {e : Ending} (h : Went w0 w pw own fnv tops pf gx vn vp vk vs vc vr vl slots lock key st' c' regs' e w') (hd : c' ≤ d) : Went w0 w pw own fnv tops pf gx vn vp vk vs vc vr vl slots lock key st' d regs' e w' := by
  obtain ⟨h1, own', h2, h3, h4⟩ := h
  exact ⟨h1, own', h2, h3.le hd, h4⟩
theorem Fell.from {s code : Int} {st' : FSt} {c' : Nat} {e : Ending} (t : Step (fun _ => False) w w1) (h : Fell w0 w1 pw own fnv tops gx s code st' c' e w') : Fell w0 w pw own fnv tops gx s code st' c' e w' := by
  obtain ⟨h1, own', h2, h3⟩ := h
  exact ⟨h1, own', ((Chg.calm own t).g gx).trans h2, h3⟩
theorem Fell.le {s code : Int} {st' : FSt} {c' d : Nat} {e : Ending} (h : Fell w0 w pw own fnv tops gx s code st' c' e w') (hd : c' ≤ d) : Fell w0 w pw own fnv tops gx s code st' d e w' := by
  obtain ⟨h1, own', h2, h3⟩ := h
  exact ⟨h1, own', h2, h3.le hd⟩

set_option maxHeartbeats 2000000 in
set_option maxRecDepth 100000 in
theorem do_mem_went {i : FIns} {v : Value} {R : World → Prop} (hF : FrAt w own pf pw gx vn vp vk vs vc vr vl regs slots lock key) (hi : InsAt w0 v i) (h1 : (i.op == 1) = false) (h2 : (i.op == 2) = false) (h3 : (i.op == 3) = false) (h4 : (i.op == 4) = false) (h21 : (i.op == 21) = false) (h20 : (i.op == 20) = false) (h22 : (i.op == 22) = false) (h30 : (i.op == 30) = false) (h31 : (i.op == 31) = false) (h32 : (i.op == 32) = false) (h33 : (i.op == 33) = false)
    (hM : ∀ y, Step (fun _ => False) w y → Calls Try.prog 72 #[.pointer (some ⟨pf, 0, none⟩), v] y fun e w' => e = .returned (.tuple #[]) ∧ R w') :
    Calls Try.prog 61 #[.pointer (some ⟨pf, 0, none⟩), v] w fun e w' => e = .returned (.tuple #[]) ∧ R w' := by
  obtain ⟨va, vo, rfl, _, _⟩ := hi
  obtain ⟨op, dst, a, b, n, size, name, args, outs, to⟩ := i
  simp only at *
  have c6 := cell_known hF.struct (i := 6) rfl
  have hpf := lt_known hF.struct
  have HM := Lib.hid hM
  clear hM hF
  go_enter Try.func61, Try.ntmps61
  go_wp2_with fail
  refine (HM.out _ (Step.alloc _ _ _)).mono ?_
  rintro e w' ⟨rfl, hR⟩
  have HR := Lib.hid hR
  clear hR
  go_wp2_with fail
  go_end0
  exact ⟨rfl, HR.out⟩
set_option maxHeartbeats 2000000 in
set_option maxRecDepth 100000 in
theorem do_mem_fell {i : FIns} {v : Value} {R : World → Prop} {ch : List PanicEntry} (hF : FrAt w own pf pw gx vn vp vk vs vc vr vl regs slots lock key) (hi : InsAt w0 v i) (h1 : (i.op == 1) = false) (h2 : (i.op == 2) = false) (h3 : (i.op == 3) = false) (h4 : (i.op == 4) = false) (h21 : (i.op == 21) = false) (h20 : (i.op == 20) = false) (h22 : (i.op == 22) = false) (h30 : (i.op == 30) = false) (h31 : (i.op == 31) = false) (h32 : (i.op == 32) = false) (h33 : (i.op == 33) = false)
    (hM : ∀ y, Step (fun _ => False) w y → Calls Try.prog 72 #[.pointer (some ⟨pf, 0, none⟩), v] y fun e w' => e = .panicked ch ∧ R w') :
    Calls Try.prog 61 #[.pointer (some ⟨pf, 0, none⟩), v] w fun e w' => e = .panicked ch ∧ R w' := by
  obtain ⟨va, vo, rfl, _, _⟩ := hi
  obtain ⟨op, dst, a, b, n, size, name, args, outs, to⟩ := i
  simp only at *
  have c6 := cell_known hF.struct (i := 6) rfl
  have hpf := lt_known hF.struct
  have HM := Lib.hid hM
  clear hM hF
  go_enter Try.func61, Try.ntmps61
  go_wp2_with fail
  refine (HM.out _ (Step.alloc _ _ _)).mono ?_
  rintro e w' ⟨rfl, hR⟩
  exact ⟨rfl, rfl, hR⟩
set_option maxHeartbeats 2000000 in
set_option maxRecDepth 100000 in
theorem mem_nop {i : FIns} {v : Value} (hW : FWAt w0 w pw own fnv tops st c) (hF : FrAt w own pf pw gx vn vp vk vs vc vr vl regs slots lock key) (hi : InsAt w0 v i) (h34 : (i.op == 34) = false) (h35 : (i.op == 35) = false) (h36 : (i.op == 36) = false) (h37 : (i.op == 37) = false) (h38 : (i.op == 38) = false) (h39 : (i.op == 39) = false) (h40 : (i.op == 40) = false) (h41 : (i.op == 41) = false) (h42 : (i.op == 42) = false) :
    Calls Try.prog 72 #[.pointer (some ⟨pf, 0, none⟩), v] w (Went w0 w pw own fnv tops pf gx vn vp vk vs vc vr vl slots lock key st c regs) := by
  obtain ⟨va, vo, rfl, _, _⟩ := hi
  obtain ⟨op, dst, a, b, n, size, name, args, outs, to⟩ := i
  simp only at *
  have c6 := cell_known hF.struct (i := 6) rfl
  have hpf := lt_known hF.struct
  have HW := Lib.hid hW
  have HF := Lib.hid hF
  clear hW hF
  go_enter Try.func72, Try.ntmps72
  go_wp2_with fail
  go_end0
  exact ⟨rfl, own, (Chg.calm own (Step.alloc _ _ _)).g gx, HW.out.still (Step.alloc _ _ _), HF.out.still (Step.alloc _ _ _)⟩
theorem formF_cases {op : Int} {m : Form} (h : formF op = some m) : op = 1 ∨ op = 2 ∨ op = 3 ∨ op = 4 ∨ op = 18 ∨ op = 19 ∨ op = 20 ∨ op = 21 ∨ op = 22 ∨ op = 30 ∨ op = 31 ∨ op = 32 ∨ op = 33 ∨ op = 34 ∨ op = 35 ∨ op = 36 ∨ op = 37 ∨ op = 38 ∨ op = 39 ∨ op = 40 ∨ op = 41 ∨ op = 42 ∨ op = 43 := by
  apply Decidable.byContradiction
  intro hn
  simp only [not_or] at hn
  obtain ⟨n1, n2, n3, n4, n18, n19, n20, n21, n22, n30, n31, n32, n33, n34, n35, n36, n37, n38, n39, n40, n41, n42, n43⟩ := hn
  unfold formF at h
  rw [if_neg n1, if_neg n2, if_neg n3, if_neg n4, if_neg n18, if_neg n19, if_neg n20, if_neg n21, if_neg n22, if_neg n30, if_neg n31, if_neg n32, if_neg n33, if_neg n34, if_neg n35, if_neg n36, if_neg n37, if_neg n38, if_neg n39, if_neg n40, if_neg n41, if_neg n42, if_neg n43] at h
  cases h
set_option maxHeartbeats 4000000 in
theorem do_go {f : FFn} {fr : Frm} {i : FIns} {v : Value} (hW : FWAt w0 w pw own fnv tops st c) (hF : FrAt w own pf pw gx vn vp vk vs vc vr vl regs fr.slots fr.lock fr.key) (hl : w0.heap.size ≤ gx) (hi : InsAt w0 v i) (hfs : IntsAt .i64 w0 vs f.slots) (hgs : goodS f) (hg : goodI f i = true) (h42 : i.op ≠ 42) (h43 : i.op ≠ 43) (hS : SInv tops st 2) (hI : FInv f fr regs) (hc : c ≤ 3000000) (hnm : i.name.size ≤ maxLen) (hn : is64 i.n) {st' : FSt} {x' : List Int} (h : instr1 tops fr st regs i = .go st' x') :
    Calls Try.prog 61 #[.pointer (some ⟨pf, 0, none⟩), v] w (Went w0 w pw own fnv tops pf gx vn vp vk vs vc vr vl fr.slots fr.lock fr.key st' (c + 8) x') := by
  obtain ⟨m, hm⟩ : ∃ m, formF i.op = some m := by
    cases e : formF i.op with
    | some m => exact ⟨m, rfl⟩
    | none => unfold goodI at hg; rw [e] at hg; cases hg
  have G := goodI_form hg hm
  have hx := hI.x64
  have hk := hS.keys
  have hch := hS.checks
  have hst := hS.steps
  have hfr := hS.free
  have key : ∀ k, i.op = k → formF k = some m := fun k e => e ▸ hm
  rcases formF_cases hm with ho | ho | ho | ho | ho | ho | ho | ho | ho | ho | ho | ho | ho | ho | ho | ho | ho | ho | ho | ho | ho | ho | ho
  · have e := key _ ho
    simp [formF] at e
    subst e
    simp only [ho] at G
    unfold instr1 at h
    rw [if_pos ho] at h
    cases h
    exact (do_1 hW hF hl hi ho (regB_ok hI.len G.1)).mono fun _ _ h => h.le (by omega)
  · have e := key _ ho
    simp [formF] at e
    subst e
    simp only [ho] at G
    unfold instr1 at h
    rw [if_neg (show ¬ i.op = 1 by omega), if_pos ho] at h
    cases h
    exact (do_2 hW hF hl hi ho (regB_ok hI.len G.1) (regB_ok hI.len G.2.1)).mono fun _ _ h => h.le (by omega)
  · have e := key _ ho
    simp [formF] at e
    subst e
    simp only [ho] at G
    unfold instr1 at h
    rw [if_neg (show ¬ i.op = 1 by omega), if_neg (show ¬ i.op = 2 by omega), if_pos ho] at h
    cases h
    exact (do_3 hW hF hl hi ho (regB_ok hI.len G.1) (regB_ok hI.len G.2.1) (regB_ok hI.len G.2.2.1) hx (by have := G.2.2.2.2.2.2.2.2; simpa using this)).mono fun _ _ h => h.le (by omega)
  · have e := key _ ho
    simp [formF] at e
    subst e
    simp only [ho] at G
    unfold instr1 at h
    rw [if_neg (show ¬ i.op = 1 by omega), if_neg (show ¬ i.op = 2 by omega), if_neg (show ¬ i.op = 3 by omega), if_pos ho] at h
    cases h
    exact (do_4 hW hF hl hi ho (regB_ok hI.len G.1) (regB_ok hI.len G.2.1) (sizeB_one G.2.2.2.2.2.1)).mono fun _ _ h => h.le (by omega)
  · have e := key _ ho
    simp [formF] at e
    subst e
    simp only [ho] at G
    unfold instr1 at h
    rw [if_neg (show ¬ i.op = 1 by omega), if_neg (show ¬ i.op = 2 by omega), if_neg (show ¬ i.op = 3 by omega), if_neg (show ¬ i.op = 4 by omega), if_neg (show ¬ i.op = 20 by omega), if_neg (show ¬ i.op = 21 by omega), if_neg (show ¬ i.op = 22 by omega), if_neg (show ¬ i.op = 30 by omega), if_neg (show ¬ i.op = 31 by omega), if_neg (show ¬ i.op = 32 by omega), if_neg (show ¬ i.op = 33 by omega), if_neg (show ¬ i.op = 34 by omega), if_neg (show ¬ i.op = 35 by omega), if_neg (show ¬ i.op = 36 by omega), if_neg (show ¬ i.op = 37 by omega), if_neg (show ¬ i.op = 38 by omega), if_neg (show ¬ i.op = 39 by omega), if_neg (show ¬ i.op = 40 by omega), if_neg (show ¬ i.op = 41 by omega)] at h
    cases h
    exact do_mem_went (R := fun w' => _) hF hi (beq_false_of_ne (by omega)) (beq_false_of_ne (by omega)) (beq_false_of_ne (by omega)) (beq_false_of_ne (by omega)) (beq_false_of_ne (by omega)) (beq_false_of_ne (by omega)) (beq_false_of_ne (by omega)) (beq_false_of_ne (by omega)) (beq_false_of_ne (by omega)) (beq_false_of_ne (by omega)) (beq_false_of_ne (by omega)) fun y hy => ((mem_nop (hW.still hy) (hF.still hy) hi (beq_false_of_ne (by omega)) (beq_false_of_ne (by omega)) (beq_false_of_ne (by omega)) (beq_false_of_ne (by omega)) (beq_false_of_ne (by omega)) (beq_false_of_ne (by omega)) (beq_false_of_ne (by omega)) (beq_false_of_ne (by omega)) (beq_false_of_ne (by omega))).mono fun _ _ h => (h.from hy).le (by omega))
  · have e := key _ ho
    simp [formF] at e
    subst e
    simp only [ho] at G
    unfold instr1 at h
    rw [if_neg (show ¬ i.op = 1 by omega), if_neg (show ¬ i.op = 2 by omega), if_neg (show ¬ i.op = 3 by omega), if_neg (show ¬ i.op = 4 by omega), if_neg (show ¬ i.op = 20 by omega), if_neg (show ¬ i.op = 21 by omega), if_neg (show ¬ i.op = 22 by omega), if_neg (show ¬ i.op = 30 by omega), if_neg (show ¬ i.op = 31 by omega), if_neg (show ¬ i.op = 32 by omega), if_neg (show ¬ i.op = 33 by omega), if_neg (show ¬ i.op = 34 by omega), if_neg (show ¬ i.op = 35 by omega), if_neg (show ¬ i.op = 36 by omega), if_neg (show ¬ i.op = 37 by omega), if_neg (show ¬ i.op = 38 by omega), if_neg (show ¬ i.op = 39 by omega), if_neg (show ¬ i.op = 40 by omega), if_neg (show ¬ i.op = 41 by omega)] at h
    cases h
    exact do_mem_went (R := fun w' => _) hF hi (beq_false_of_ne (by omega)) (beq_false_of_ne (by omega)) (beq_false_of_ne (by omega)) (beq_false_of_ne (by omega)) (beq_false_of_ne (by omega)) (beq_false_of_ne (by omega)) (beq_false_of_ne (by omega)) (beq_false_of_ne (by omega)) (beq_false_of_ne (by omega)) (beq_false_of_ne (by omega)) (beq_false_of_ne (by omega)) fun y hy => ((mem_nop (hW.still hy) (hF.still hy) hi (beq_false_of_ne (by omega)) (beq_false_of_ne (by omega)) (beq_false_of_ne (by omega)) (beq_false_of_ne (by omega)) (beq_false_of_ne (by omega)) (beq_false_of_ne (by omega)) (beq_false_of_ne (by omega)) (beq_false_of_ne (by omega)) (beq_false_of_ne (by omega))).mono fun _ _ h => (h.from hy).le (by omega))
  · have e := key _ ho
    simp [formF] at e
    subst e
    simp only [ho] at G
    unfold instr1 at h
    rw [if_neg (show ¬ i.op = 1 by omega), if_neg (show ¬ i.op = 2 by omega), if_neg (show ¬ i.op = 3 by omega), if_neg (show ¬ i.op = 4 by omega), if_pos ho] at h
    cases h
    exact (do_20 hW hF hl hi ho (regB_ok hI.len G.2.1) hx (by omega)).mono fun _ _ h => h.le (by omega)
  · have e := key _ ho
    simp [formF] at e
    subst e
    simp only [ho] at G
    unfold instr1 at h
    rw [if_neg (show ¬ i.op = 1 by omega), if_neg (show ¬ i.op = 2 by omega), if_neg (show ¬ i.op = 3 by omega), if_neg (show ¬ i.op = 4 by omega), if_neg (show ¬ i.op = 20 by omega), if_pos ho] at h
    cases h
    cases ei : st.input with
    | nil =>
      have g : getF st = (18446744073709551615, st) := by unfold getF; rw [ei]
      rw [g]
      exact (do_21e hW hF hl hi ho (regB_ok hI.len G.1) ei).mono fun _ _ h => h.le (by omega)
    | cons b r =>
      have g : getF st = (b, { st with input := r }) := by unfold getF; rw [ei]
      rw [g]
      exact (do_21s hW hF hl hi ho (regB_ok hI.len G.1) ei).mono fun _ _ h => h.le (by omega)
  · have e := key _ ho
    simp [formF] at e
    subst e
    simp only [ho] at G
    unfold instr1 at h
    rw [if_neg (show ¬ i.op = 1 by omega), if_neg (show ¬ i.op = 2 by omega), if_neg (show ¬ i.op = 3 by omega), if_neg (show ¬ i.op = 4 by omega), if_neg (show ¬ i.op = 20 by omega), if_neg (show ¬ i.op = 21 by omega), if_pos ho] at h
    cases h
  · have e := key _ ho
    simp [formF] at e
    subst e
    simp only [ho] at G
    unfold instr1 at h
    rw [if_neg (show ¬ i.op = 1 by omega), if_neg (show ¬ i.op = 2 by omega), if_neg (show ¬ i.op = 3 by omega), if_neg (show ¬ i.op = 4 by omega), if_neg (show ¬ i.op = 20 by omega), if_neg (show ¬ i.op = 21 by omega), if_neg (show ¬ i.op = 22 by omega), if_pos ho] at h
    cases h
    exact (do_30 hW hF hl hi ho (regB_ok hI.len G.1) hnm).mono fun _ _ h => h.le (by omega)
  · have e := key _ ho
    simp [formF] at e
    subst e
    simp only [ho] at G
    unfold instr1 at h
    rw [if_neg (show ¬ i.op = 1 by omega), if_neg (show ¬ i.op = 2 by omega), if_neg (show ¬ i.op = 3 by omega), if_neg (show ¬ i.op = 4 by omega), if_neg (show ¬ i.op = 20 by omega), if_neg (show ¬ i.op = 21 by omega), if_neg (show ¬ i.op = 22 by omega), if_neg (show ¬ i.op = 30 by omega), if_pos ho] at h
    cases h
    exact (do_31 hW hF hl hi ho (regB_ok hI.len G.1) ⟨hn.1, by have h9 := G.2.2.2.2.2.2.2.2; have := hI.slen; simp at h9; omega⟩ (by have := rg_slot hI i.n; omega)).mono fun _ _ h => h.le (by omega)
  · have e := key _ ho
    simp [formF] at e
    subst e
    simp only [ho] at G
    unfold instr1 at h
    rw [if_neg (show ¬ i.op = 1 by omega), if_neg (show ¬ i.op = 2 by omega), if_neg (show ¬ i.op = 3 by omega), if_neg (show ¬ i.op = 4 by omega), if_neg (show ¬ i.op = 20 by omega), if_neg (show ¬ i.op = 21 by omega), if_neg (show ¬ i.op = 22 by omega), if_neg (show ¬ i.op = 30 by omega), if_neg (show ¬ i.op = 31 by omega), if_pos ho] at h
    cases h
    exact (do_32 hW hF hl hi ho (regB_ok hI.len G.1) (by have := hI.lock; omega)).mono fun _ _ h => h.le (by omega)
  · have e := key _ ho
    simp [formF] at e
    subst e
    simp only [ho] at G
    unfold instr1 at h
    rw [if_neg (show ¬ i.op = 1 by omega), if_neg (show ¬ i.op = 2 by omega), if_neg (show ¬ i.op = 3 by omega), if_neg (show ¬ i.op = 4 by omega), if_neg (show ¬ i.op = 20 by omega), if_neg (show ¬ i.op = 21 by omega), if_neg (show ¬ i.op = 22 by omega), if_neg (show ¬ i.op = 30 by omega), if_neg (show ¬ i.op = 31 by omega), if_neg (show ¬ i.op = 32 by omega), if_pos ho] at h
    cases h
    exact (do_33 hW hF hl hi ho (regB_ok hI.len G.1)).mono fun _ _ h => h.le (by omega)
  · have e := key _ ho
    simp [formF] at e
    subst e
    simp only [ho] at G
    unfold instr1 at h
    rw [if_neg (show ¬ i.op = 1 by omega), if_neg (show ¬ i.op = 2 by omega), if_neg (show ¬ i.op = 3 by omega), if_neg (show ¬ i.op = 4 by omega), if_neg (show ¬ i.op = 20 by omega), if_neg (show ¬ i.op = 21 by omega), if_neg (show ¬ i.op = 22 by omega), if_neg (show ¬ i.op = 30 by omega), if_neg (show ¬ i.op = 31 by omega), if_neg (show ¬ i.op = 32 by omega), if_neg (show ¬ i.op = 33 by omega), if_pos ho] at h
    split at h
    · rename_i hb
      cases h
      exact do_mem_went (R := fun w' => _) hF hi (beq_false_of_ne (by omega)) (beq_false_of_ne (by omega)) (beq_false_of_ne (by omega)) (beq_false_of_ne (by omega)) (beq_false_of_ne (by omega)) (beq_false_of_ne (by omega)) (beq_false_of_ne (by omega)) (beq_false_of_ne (by omega)) (beq_false_of_ne (by omega)) (beq_false_of_ne (by omega)) (beq_false_of_ne (by omega)) fun y hy => ((mem_34ok (hW.still hy) (hF.still hy) hl hi ho (by omega) hx (by have := (listB_ok (x := regs) hI.len G.2.2.2.1).2 (by decide); omega) (listB_ok hI.len G.2.2.2.1).1 (by have := sizeB_two G.2.2.2.2.2.1; omega) (by omega) hb).mono fun _ _ h => (h.from hy).le (by omega))
    · cases h
  · have e := key _ ho
    simp [formF] at e
    subst e
    simp only [ho] at G
    unfold instr1 at h
    rw [if_neg (show ¬ i.op = 1 by omega), if_neg (show ¬ i.op = 2 by omega), if_neg (show ¬ i.op = 3 by omega), if_neg (show ¬ i.op = 4 by omega), if_neg (show ¬ i.op = 20 by omega), if_neg (show ¬ i.op = 21 by omega), if_neg (show ¬ i.op = 22 by omega), if_neg (show ¬ i.op = 30 by omega), if_neg (show ¬ i.op = 31 by omega), if_neg (show ¬ i.op = 32 by omega), if_neg (show ¬ i.op = 33 by omega), if_neg (show ¬ i.op = 34 by omega), if_pos ho] at h
    split at h
    · rename_i hb
      cases h
      exact do_mem_went (R := fun w' => _) hF hi (beq_false_of_ne (by omega)) (beq_false_of_ne (by omega)) (beq_false_of_ne (by omega)) (beq_false_of_ne (by omega)) (beq_false_of_ne (by omega)) (beq_false_of_ne (by omega)) (beq_false_of_ne (by omega)) (beq_false_of_ne (by omega)) (beq_false_of_ne (by omega)) (beq_false_of_ne (by omega)) (beq_false_of_ne (by omega)) fun y hy => ((mem_35ok (hW.still hy) (hF.still hy) hl hi ho (regB_ok hI.len G.1) (regB_ok hI.len G.2.1) hx (sizeB_one G.2.2.2.2.2.1) hS.mem hb).mono fun _ _ h => (h.from hy).le (by omega))
    · cases h
  · have e := key _ ho
    simp [formF] at e
    subst e
    simp only [ho] at G
    unfold instr1 at h
    rw [if_neg (show ¬ i.op = 1 by omega), if_neg (show ¬ i.op = 2 by omega), if_neg (show ¬ i.op = 3 by omega), if_neg (show ¬ i.op = 4 by omega), if_neg (show ¬ i.op = 20 by omega), if_neg (show ¬ i.op = 21 by omega), if_neg (show ¬ i.op = 22 by omega), if_neg (show ¬ i.op = 30 by omega), if_neg (show ¬ i.op = 31 by omega), if_neg (show ¬ i.op = 32 by omega), if_neg (show ¬ i.op = 33 by omega), if_neg (show ¬ i.op = 34 by omega), if_neg (show ¬ i.op = 35 by omega), if_pos ho] at h
    split at h
    · rename_i hb
      cases h
      exact do_mem_went (R := fun w' => _) hF hi (beq_false_of_ne (by omega)) (beq_false_of_ne (by omega)) (beq_false_of_ne (by omega)) (beq_false_of_ne (by omega)) (beq_false_of_ne (by omega)) (beq_false_of_ne (by omega)) (beq_false_of_ne (by omega)) (beq_false_of_ne (by omega)) (beq_false_of_ne (by omega)) (beq_false_of_ne (by omega)) (beq_false_of_ne (by omega)) fun y hy => ((mem_36ok (hW.still hy) (hF.still hy) hl hi ho (regB_ok hI.len G.2.1) (regB_ok hI.len G.2.2.1) (by omega) hx (sizeB_one G.2.2.2.2.2.1) hb).mono fun _ _ h => (h.from hy).le (by omega))
    · cases h
  · have e := key _ ho
    simp [formF] at e
    subst e
    simp only [ho] at G
    unfold instr1 at h
    rw [if_neg (show ¬ i.op = 1 by omega), if_neg (show ¬ i.op = 2 by omega), if_neg (show ¬ i.op = 3 by omega), if_neg (show ¬ i.op = 4 by omega), if_neg (show ¬ i.op = 20 by omega), if_neg (show ¬ i.op = 21 by omega), if_neg (show ¬ i.op = 22 by omega), if_neg (show ¬ i.op = 30 by omega), if_neg (show ¬ i.op = 31 by omega), if_neg (show ¬ i.op = 32 by omega), if_neg (show ¬ i.op = 33 by omega), if_neg (show ¬ i.op = 34 by omega), if_neg (show ¬ i.op = 35 by omega), if_neg (show ¬ i.op = 36 by omega), if_pos ho] at h
    cases h
    exact do_mem_went (R := fun w' => _) hF hi (beq_false_of_ne (by omega)) (beq_false_of_ne (by omega)) (beq_false_of_ne (by omega)) (beq_false_of_ne (by omega)) (beq_false_of_ne (by omega)) (beq_false_of_ne (by omega)) (beq_false_of_ne (by omega)) (beq_false_of_ne (by omega)) (beq_false_of_ne (by omega)) (beq_false_of_ne (by omega)) (beq_false_of_ne (by omega)) fun y hy => ((mem_37 (hW.still hy) (hF.still hy) hl hi ho (regB_ok hI.len G.2.1) hx (by have := (listB_ok (x := regs) hI.len G.2.2.2.2.1).2 (by decide); omega) (listB_ok hI.len G.2.2.2.2.1).1).mono fun _ _ h => (h.from hy).le (by omega))
  · have e := key _ ho
    simp [formF] at e
    subst e
    simp only [ho] at G
    unfold instr1 at h
    rw [if_neg (show ¬ i.op = 1 by omega), if_neg (show ¬ i.op = 2 by omega), if_neg (show ¬ i.op = 3 by omega), if_neg (show ¬ i.op = 4 by omega), if_neg (show ¬ i.op = 20 by omega), if_neg (show ¬ i.op = 21 by omega), if_neg (show ¬ i.op = 22 by omega), if_neg (show ¬ i.op = 30 by omega), if_neg (show ¬ i.op = 31 by omega), if_neg (show ¬ i.op = 32 by omega), if_neg (show ¬ i.op = 33 by omega), if_neg (show ¬ i.op = 34 by omega), if_neg (show ¬ i.op = 35 by omega), if_neg (show ¬ i.op = 36 by omega), if_neg (show ¬ i.op = 37 by omega), if_pos ho] at h
    cases h
    exact do_mem_went (R := fun w' => _) hF hi (beq_false_of_ne (by omega)) (beq_false_of_ne (by omega)) (beq_false_of_ne (by omega)) (beq_false_of_ne (by omega)) (beq_false_of_ne (by omega)) (beq_false_of_ne (by omega)) (beq_false_of_ne (by omega)) (beq_false_of_ne (by omega)) (beq_false_of_ne (by omega)) (beq_false_of_ne (by omega)) (beq_false_of_ne (by omega)) fun y hy => ((mem_38 (hW.still hy) (hF.still hy) hl hi ho (regB_ok hI.len G.2.1) (by omega) hx (by have := (listB_ok (x := regs) hI.len G.2.2.2.1).2 (by decide); omega) (listB_ok hI.len G.2.2.2.1).1).mono fun _ _ h => (h.from hy).le (by omega))
  · have e := key _ ho
    simp [formF] at e
    subst e
    simp only [ho] at G
    unfold instr1 at h
    rw [if_neg (show ¬ i.op = 1 by omega), if_neg (show ¬ i.op = 2 by omega), if_neg (show ¬ i.op = 3 by omega), if_neg (show ¬ i.op = 4 by omega), if_neg (show ¬ i.op = 20 by omega), if_neg (show ¬ i.op = 21 by omega), if_neg (show ¬ i.op = 22 by omega), if_neg (show ¬ i.op = 30 by omega), if_neg (show ¬ i.op = 31 by omega), if_neg (show ¬ i.op = 32 by omega), if_neg (show ¬ i.op = 33 by omega), if_neg (show ¬ i.op = 34 by omega), if_neg (show ¬ i.op = 35 by omega), if_neg (show ¬ i.op = 36 by omega), if_neg (show ¬ i.op = 37 by omega), if_neg (show ¬ i.op = 38 by omega), if_pos ho] at h
    cases h
    rw [hI.sizes]
    exact do_mem_went (R := fun w' => _) hF hi (beq_false_of_ne (by omega)) (beq_false_of_ne (by omega)) (beq_false_of_ne (by omega)) (beq_false_of_ne (by omega)) (beq_false_of_ne (by omega)) (beq_false_of_ne (by omega)) (beq_false_of_ne (by omega)) (beq_false_of_ne (by omega)) (beq_false_of_ne (by omega)) (beq_false_of_ne (by omega)) (beq_false_of_ne (by omega)) fun y hy => ((mem_39 (hW.still hy) (hF.still hy) hl hi ho hfs ⟨hn.1, by have h9 := G.2.2.2.2.2.2.2.2; simp at h9; omega⟩ (by have h9 := G.2.2.2.2.2.2.2.2; have := hI.slen; simp at h9; omega) (by omega) (by have := rg_slot hI i.n; omega) (by have := rg_size hgs hI i.n; rw [hI.sizes] at this; omega)).mono fun _ _ h => (h.from hy).le (by omega))
  · have e := key _ ho
    simp [formF] at e
    subst e
    simp only [ho] at G
    unfold instr1 at h
    rw [if_neg (show ¬ i.op = 1 by omega), if_neg (show ¬ i.op = 2 by omega), if_neg (show ¬ i.op = 3 by omega), if_neg (show ¬ i.op = 4 by omega), if_neg (show ¬ i.op = 20 by omega), if_neg (show ¬ i.op = 21 by omega), if_neg (show ¬ i.op = 22 by omega), if_neg (show ¬ i.op = 30 by omega), if_neg (show ¬ i.op = 31 by omega), if_neg (show ¬ i.op = 32 by omega), if_neg (show ¬ i.op = 33 by omega), if_neg (show ¬ i.op = 34 by omega), if_neg (show ¬ i.op = 35 by omega), if_neg (show ¬ i.op = 36 by omega), if_neg (show ¬ i.op = 37 by omega), if_neg (show ¬ i.op = 38 by omega), if_neg (show ¬ i.op = 39 by omega), if_pos ho] at h
    split at h
    · rename_i hb
      cases h
      exact do_mem_went (R := fun w' => _) hF hi (beq_false_of_ne (by omega)) (beq_false_of_ne (by omega)) (beq_false_of_ne (by omega)) (beq_false_of_ne (by omega)) (beq_false_of_ne (by omega)) (beq_false_of_ne (by omega)) (beq_false_of_ne (by omega)) (beq_false_of_ne (by omega)) (beq_false_of_ne (by omega)) (beq_false_of_ne (by omega)) (beq_false_of_ne (by omega)) fun y hy => ((mem_40ok (hW.still hy) (hF.still hy) hl hi ho (regB_ok hI.len G.2.1) (by omega) hx (by have := (listB_ok (x := regs) hI.len G.2.2.2.2.1).2 (by decide); omega) (listB_ok hI.len G.2.2.2.2.1).1 (by omega) (by omega) hb).mono fun _ _ h => (h.from hy).le (by omega))
    · cases h
  · have e := key _ ho
    simp [formF] at e
    subst e
    simp only [ho] at G
    unfold instr1 at h
    rw [if_neg (show ¬ i.op = 1 by omega), if_neg (show ¬ i.op = 2 by omega), if_neg (show ¬ i.op = 3 by omega), if_neg (show ¬ i.op = 4 by omega), if_neg (show ¬ i.op = 20 by omega), if_neg (show ¬ i.op = 21 by omega), if_neg (show ¬ i.op = 22 by omega), if_neg (show ¬ i.op = 30 by omega), if_neg (show ¬ i.op = 31 by omega), if_neg (show ¬ i.op = 32 by omega), if_neg (show ¬ i.op = 33 by omega), if_neg (show ¬ i.op = 34 by omega), if_neg (show ¬ i.op = 35 by omega), if_neg (show ¬ i.op = 36 by omega), if_neg (show ¬ i.op = 37 by omega), if_neg (show ¬ i.op = 38 by omega), if_neg (show ¬ i.op = 39 by omega), if_neg (show ¬ i.op = 40 by omega), if_pos ho] at h
    split at h
    · rename_i hb
      cases h
      exact do_mem_went (R := fun w' => _) hF hi (beq_false_of_ne (by omega)) (beq_false_of_ne (by omega)) (beq_false_of_ne (by omega)) (beq_false_of_ne (by omega)) (beq_false_of_ne (by omega)) (beq_false_of_ne (by omega)) (beq_false_of_ne (by omega)) (beq_false_of_ne (by omega)) (beq_false_of_ne (by omega)) (beq_false_of_ne (by omega)) (beq_false_of_ne (by omega)) fun y hy => ((mem_41ok (hW.still hy) (hF.still hy) hl hi ho (by omega) hx (by have := (listB_ok (x := regs) hI.len G.2.2.2.1).2 (by decide); omega) (listB_ok hI.len G.2.2.2.1).1 hb).mono fun _ _ h => (h.from hy).le (by omega))
    · cases h
  · exact absurd ho h42
  · exact absurd ho h43
set_option maxHeartbeats 4000000 in
theorem do_stop {f : FFn} {fr : Frm} {i : FIns} {v : Value} (hW : FWAt w0 w pw own fnv tops st c) (hF : FrAt w own pf pw gx vn vp vk vs vc vr vl regs fr.slots fr.lock fr.key) (hl : w0.heap.size ≤ gx) (hi : InsAt w0 v i) (hfs : IntsAt .i64 w0 vs f.slots) (hgs : goodS f) (hg : goodI f i = true) (h42 : i.op ≠ 42) (h43 : i.op ≠ 43) (hS : SInv tops st 2) (hI : FInv f fr regs) (hc : c ≤ 3000000) (hnm : i.name.size ≤ maxLen) (hn : is64 i.n) {st' : FSt} {s code : Int} (h : instr1 tops fr st regs i = .stop st' s code) :
    Calls Try.prog 61 #[.pointer (some ⟨pf, 0, none⟩), v] w (Fell w0 w pw own fnv tops gx s code st' (c + 8)) := by
  obtain ⟨m, hm⟩ : ∃ m, formF i.op = some m := by
    cases e : formF i.op with
    | some m => exact ⟨m, rfl⟩
    | none => unfold goodI at hg; rw [e] at hg; cases hg
  have G := goodI_form hg hm
  have hx := hI.x64
  have hk := hS.keys
  have hch := hS.checks
  have hst := hS.steps
  have hfr := hS.free
  have key : ∀ k, i.op = k → formF k = some m := fun k e => e ▸ hm
  rcases formF_cases hm with ho | ho | ho | ho | ho | ho | ho | ho | ho | ho | ho | ho | ho | ho | ho | ho | ho | ho | ho | ho | ho | ho | ho
  · have e := key _ ho
    simp [formF] at e
    subst e
    simp only [ho] at G
    unfold instr1 at h
    rw [if_pos ho] at h
    cases h
  · have e := key _ ho
    simp [formF] at e
    subst e
    simp only [ho] at G
    unfold instr1 at h
    rw [if_neg (show ¬ i.op = 1 by omega), if_pos ho] at h
    cases h
  · have e := key _ ho
    simp [formF] at e
    subst e
    simp only [ho] at G
    unfold instr1 at h
    rw [if_neg (show ¬ i.op = 1 by omega), if_neg (show ¬ i.op = 2 by omega), if_pos ho] at h
    cases h
  · have e := key _ ho
    simp [formF] at e
    subst e
    simp only [ho] at G
    unfold instr1 at h
    rw [if_neg (show ¬ i.op = 1 by omega), if_neg (show ¬ i.op = 2 by omega), if_neg (show ¬ i.op = 3 by omega), if_pos ho] at h
    cases h
  · have e := key _ ho
    simp [formF] at e
    subst e
    simp only [ho] at G
    unfold instr1 at h
    rw [if_neg (show ¬ i.op = 1 by omega), if_neg (show ¬ i.op = 2 by omega), if_neg (show ¬ i.op = 3 by omega), if_neg (show ¬ i.op = 4 by omega), if_neg (show ¬ i.op = 20 by omega), if_neg (show ¬ i.op = 21 by omega), if_neg (show ¬ i.op = 22 by omega), if_neg (show ¬ i.op = 30 by omega), if_neg (show ¬ i.op = 31 by omega), if_neg (show ¬ i.op = 32 by omega), if_neg (show ¬ i.op = 33 by omega), if_neg (show ¬ i.op = 34 by omega), if_neg (show ¬ i.op = 35 by omega), if_neg (show ¬ i.op = 36 by omega), if_neg (show ¬ i.op = 37 by omega), if_neg (show ¬ i.op = 38 by omega), if_neg (show ¬ i.op = 39 by omega), if_neg (show ¬ i.op = 40 by omega), if_neg (show ¬ i.op = 41 by omega)] at h
    cases h
  · have e := key _ ho
    simp [formF] at e
    subst e
    simp only [ho] at G
    unfold instr1 at h
    rw [if_neg (show ¬ i.op = 1 by omega), if_neg (show ¬ i.op = 2 by omega), if_neg (show ¬ i.op = 3 by omega), if_neg (show ¬ i.op = 4 by omega), if_neg (show ¬ i.op = 20 by omega), if_neg (show ¬ i.op = 21 by omega), if_neg (show ¬ i.op = 22 by omega), if_neg (show ¬ i.op = 30 by omega), if_neg (show ¬ i.op = 31 by omega), if_neg (show ¬ i.op = 32 by omega), if_neg (show ¬ i.op = 33 by omega), if_neg (show ¬ i.op = 34 by omega), if_neg (show ¬ i.op = 35 by omega), if_neg (show ¬ i.op = 36 by omega), if_neg (show ¬ i.op = 37 by omega), if_neg (show ¬ i.op = 38 by omega), if_neg (show ¬ i.op = 39 by omega), if_neg (show ¬ i.op = 40 by omega), if_neg (show ¬ i.op = 41 by omega)] at h
    cases h
  · have e := key _ ho
    simp [formF] at e
    subst e
    simp only [ho] at G
    unfold instr1 at h
    rw [if_neg (show ¬ i.op = 1 by omega), if_neg (show ¬ i.op = 2 by omega), if_neg (show ¬ i.op = 3 by omega), if_neg (show ¬ i.op = 4 by omega), if_pos ho] at h
    cases h
  · have e := key _ ho
    simp [formF] at e
    subst e
    simp only [ho] at G
    unfold instr1 at h
    rw [if_neg (show ¬ i.op = 1 by omega), if_neg (show ¬ i.op = 2 by omega), if_neg (show ¬ i.op = 3 by omega), if_neg (show ¬ i.op = 4 by omega), if_neg (show ¬ i.op = 20 by omega), if_pos ho] at h
    cases h
  · have e := key _ ho
    simp [formF] at e
    subst e
    simp only [ho] at G
    unfold instr1 at h
    rw [if_neg (show ¬ i.op = 1 by omega), if_neg (show ¬ i.op = 2 by omega), if_neg (show ¬ i.op = 3 by omega), if_neg (show ¬ i.op = 4 by omega), if_neg (show ¬ i.op = 20 by omega), if_neg (show ¬ i.op = 21 by omega), if_pos ho] at h
    cases h
    exact (do_22 hW hF hl hi ho (regB_ok hI.len G.2.1) hx).mono fun _ _ h => ⟨h.1, own, (Chg.calm own h.2).g gx, (hW.still h.2).le (by omega)⟩
  · have e := key _ ho
    simp [formF] at e
    subst e
    simp only [ho] at G
    unfold instr1 at h
    rw [if_neg (show ¬ i.op = 1 by omega), if_neg (show ¬ i.op = 2 by omega), if_neg (show ¬ i.op = 3 by omega), if_neg (show ¬ i.op = 4 by omega), if_neg (show ¬ i.op = 20 by omega), if_neg (show ¬ i.op = 21 by omega), if_neg (show ¬ i.op = 22 by omega), if_pos ho] at h
    cases h
  · have e := key _ ho
    simp [formF] at e
    subst e
    simp only [ho] at G
    unfold instr1 at h
    rw [if_neg (show ¬ i.op = 1 by omega), if_neg (show ¬ i.op = 2 by omega), if_neg (show ¬ i.op = 3 by omega), if_neg (show ¬ i.op = 4 by omega), if_neg (show ¬ i.op = 20 by omega), if_neg (show ¬ i.op = 21 by omega), if_neg (show ¬ i.op = 22 by omega), if_neg (show ¬ i.op = 30 by omega), if_pos ho] at h
    cases h
  · have e := key _ ho
    simp [formF] at e
    subst e
    simp only [ho] at G
    unfold instr1 at h
    rw [if_neg (show ¬ i.op = 1 by omega), if_neg (show ¬ i.op = 2 by omega), if_neg (show ¬ i.op = 3 by omega), if_neg (show ¬ i.op = 4 by omega), if_neg (show ¬ i.op = 20 by omega), if_neg (show ¬ i.op = 21 by omega), if_neg (show ¬ i.op = 22 by omega), if_neg (show ¬ i.op = 30 by omega), if_neg (show ¬ i.op = 31 by omega), if_pos ho] at h
    cases h
  · have e := key _ ho
    simp [formF] at e
    subst e
    simp only [ho] at G
    unfold instr1 at h
    rw [if_neg (show ¬ i.op = 1 by omega), if_neg (show ¬ i.op = 2 by omega), if_neg (show ¬ i.op = 3 by omega), if_neg (show ¬ i.op = 4 by omega), if_neg (show ¬ i.op = 20 by omega), if_neg (show ¬ i.op = 21 by omega), if_neg (show ¬ i.op = 22 by omega), if_neg (show ¬ i.op = 30 by omega), if_neg (show ¬ i.op = 31 by omega), if_neg (show ¬ i.op = 32 by omega), if_pos ho] at h
    cases h
  · have e := key _ ho
    simp [formF] at e
    subst e
    simp only [ho] at G
    unfold instr1 at h
    rw [if_neg (show ¬ i.op = 1 by omega), if_neg (show ¬ i.op = 2 by omega), if_neg (show ¬ i.op = 3 by omega), if_neg (show ¬ i.op = 4 by omega), if_neg (show ¬ i.op = 20 by omega), if_neg (show ¬ i.op = 21 by omega), if_neg (show ¬ i.op = 22 by omega), if_neg (show ¬ i.op = 30 by omega), if_neg (show ¬ i.op = 31 by omega), if_neg (show ¬ i.op = 32 by omega), if_neg (show ¬ i.op = 33 by omega), if_pos ho] at h
    split at h
    · cases h
    · rename_i hb
      have hb := eq_false_of_ne_true hb
      cases h
      exact do_mem_fell (R := fun w' => _) hF hi (beq_false_of_ne (by omega)) (beq_false_of_ne (by omega)) (beq_false_of_ne (by omega)) (beq_false_of_ne (by omega)) (beq_false_of_ne (by omega)) (beq_false_of_ne (by omega)) (beq_false_of_ne (by omega)) (beq_false_of_ne (by omega)) (beq_false_of_ne (by omega)) (beq_false_of_ne (by omega)) (beq_false_of_ne (by omega)) fun y hy => ((mem_34no (hW.still hy) (hF.still hy) hl hi ho (by omega) hx (by have := (listB_ok (x := regs) hI.len G.2.2.2.1).2 (by decide); omega) (listB_ok hI.len G.2.2.2.1).1 (by have := sizeB_two G.2.2.2.2.2.1; omega) (by omega) hb).mono fun _ _ h => (h.from hy).le (by omega))
  · have e := key _ ho
    simp [formF] at e
    subst e
    simp only [ho] at G
    unfold instr1 at h
    rw [if_neg (show ¬ i.op = 1 by omega), if_neg (show ¬ i.op = 2 by omega), if_neg (show ¬ i.op = 3 by omega), if_neg (show ¬ i.op = 4 by omega), if_neg (show ¬ i.op = 20 by omega), if_neg (show ¬ i.op = 21 by omega), if_neg (show ¬ i.op = 22 by omega), if_neg (show ¬ i.op = 30 by omega), if_neg (show ¬ i.op = 31 by omega), if_neg (show ¬ i.op = 32 by omega), if_neg (show ¬ i.op = 33 by omega), if_neg (show ¬ i.op = 34 by omega), if_pos ho] at h
    split at h
    · cases h
    · rename_i hb
      have hb := eq_false_of_ne_true hb
      cases h
      exact do_mem_fell (R := fun w' => _) hF hi (beq_false_of_ne (by omega)) (beq_false_of_ne (by omega)) (beq_false_of_ne (by omega)) (beq_false_of_ne (by omega)) (beq_false_of_ne (by omega)) (beq_false_of_ne (by omega)) (beq_false_of_ne (by omega)) (beq_false_of_ne (by omega)) (beq_false_of_ne (by omega)) (beq_false_of_ne (by omega)) (beq_false_of_ne (by omega)) fun y hy => ((mem_35no (hW.still hy) (hF.still hy) hl hi ho (regB_ok hI.len G.1) (regB_ok hI.len G.2.1) hx (sizeB_one G.2.2.2.2.2.1) hS.mem hb).mono fun _ _ h => (h.from hy).le (by omega))
  · have e := key _ ho
    simp [formF] at e
    subst e
    simp only [ho] at G
    unfold instr1 at h
    rw [if_neg (show ¬ i.op = 1 by omega), if_neg (show ¬ i.op = 2 by omega), if_neg (show ¬ i.op = 3 by omega), if_neg (show ¬ i.op = 4 by omega), if_neg (show ¬ i.op = 20 by omega), if_neg (show ¬ i.op = 21 by omega), if_neg (show ¬ i.op = 22 by omega), if_neg (show ¬ i.op = 30 by omega), if_neg (show ¬ i.op = 31 by omega), if_neg (show ¬ i.op = 32 by omega), if_neg (show ¬ i.op = 33 by omega), if_neg (show ¬ i.op = 34 by omega), if_neg (show ¬ i.op = 35 by omega), if_pos ho] at h
    split at h
    · cases h
    · rename_i hb
      have hb := eq_false_of_ne_true hb
      cases h
      exact do_mem_fell (R := fun w' => _) hF hi (beq_false_of_ne (by omega)) (beq_false_of_ne (by omega)) (beq_false_of_ne (by omega)) (beq_false_of_ne (by omega)) (beq_false_of_ne (by omega)) (beq_false_of_ne (by omega)) (beq_false_of_ne (by omega)) (beq_false_of_ne (by omega)) (beq_false_of_ne (by omega)) (beq_false_of_ne (by omega)) (beq_false_of_ne (by omega)) fun y hy => ((mem_36no (hW.still hy) (hF.still hy) hl hi ho (regB_ok hI.len G.2.1) (regB_ok hI.len G.2.2.1) (by omega) hx (sizeB_one G.2.2.2.2.2.1) hb).mono fun _ _ h => (h.from hy).le (by omega))
  · have e := key _ ho
    simp [formF] at e
    subst e
    simp only [ho] at G
    unfold instr1 at h
    rw [if_neg (show ¬ i.op = 1 by omega), if_neg (show ¬ i.op = 2 by omega), if_neg (show ¬ i.op = 3 by omega), if_neg (show ¬ i.op = 4 by omega), if_neg (show ¬ i.op = 20 by omega), if_neg (show ¬ i.op = 21 by omega), if_neg (show ¬ i.op = 22 by omega), if_neg (show ¬ i.op = 30 by omega), if_neg (show ¬ i.op = 31 by omega), if_neg (show ¬ i.op = 32 by omega), if_neg (show ¬ i.op = 33 by omega), if_neg (show ¬ i.op = 34 by omega), if_neg (show ¬ i.op = 35 by omega), if_neg (show ¬ i.op = 36 by omega), if_pos ho] at h
    cases h
  · have e := key _ ho
    simp [formF] at e
    subst e
    simp only [ho] at G
    unfold instr1 at h
    rw [if_neg (show ¬ i.op = 1 by omega), if_neg (show ¬ i.op = 2 by omega), if_neg (show ¬ i.op = 3 by omega), if_neg (show ¬ i.op = 4 by omega), if_neg (show ¬ i.op = 20 by omega), if_neg (show ¬ i.op = 21 by omega), if_neg (show ¬ i.op = 22 by omega), if_neg (show ¬ i.op = 30 by omega), if_neg (show ¬ i.op = 31 by omega), if_neg (show ¬ i.op = 32 by omega), if_neg (show ¬ i.op = 33 by omega), if_neg (show ¬ i.op = 34 by omega), if_neg (show ¬ i.op = 35 by omega), if_neg (show ¬ i.op = 36 by omega), if_neg (show ¬ i.op = 37 by omega), if_pos ho] at h
    cases h
  · have e := key _ ho
    simp [formF] at e
    subst e
    simp only [ho] at G
    unfold instr1 at h
    rw [if_neg (show ¬ i.op = 1 by omega), if_neg (show ¬ i.op = 2 by omega), if_neg (show ¬ i.op = 3 by omega), if_neg (show ¬ i.op = 4 by omega), if_neg (show ¬ i.op = 20 by omega), if_neg (show ¬ i.op = 21 by omega), if_neg (show ¬ i.op = 22 by omega), if_neg (show ¬ i.op = 30 by omega), if_neg (show ¬ i.op = 31 by omega), if_neg (show ¬ i.op = 32 by omega), if_neg (show ¬ i.op = 33 by omega), if_neg (show ¬ i.op = 34 by omega), if_neg (show ¬ i.op = 35 by omega), if_neg (show ¬ i.op = 36 by omega), if_neg (show ¬ i.op = 37 by omega), if_neg (show ¬ i.op = 38 by omega), if_pos ho] at h
    cases h
  · have e := key _ ho
    simp [formF] at e
    subst e
    simp only [ho] at G
    unfold instr1 at h
    rw [if_neg (show ¬ i.op = 1 by omega), if_neg (show ¬ i.op = 2 by omega), if_neg (show ¬ i.op = 3 by omega), if_neg (show ¬ i.op = 4 by omega), if_neg (show ¬ i.op = 20 by omega), if_neg (show ¬ i.op = 21 by omega), if_neg (show ¬ i.op = 22 by omega), if_neg (show ¬ i.op = 30 by omega), if_neg (show ¬ i.op = 31 by omega), if_neg (show ¬ i.op = 32 by omega), if_neg (show ¬ i.op = 33 by omega), if_neg (show ¬ i.op = 34 by omega), if_neg (show ¬ i.op = 35 by omega), if_neg (show ¬ i.op = 36 by omega), if_neg (show ¬ i.op = 37 by omega), if_neg (show ¬ i.op = 38 by omega), if_neg (show ¬ i.op = 39 by omega), if_pos ho] at h
    split at h
    · cases h
    · rename_i hb
      have hb := eq_false_of_ne_true hb
      cases h
      exact do_mem_fell (R := fun w' => _) hF hi (beq_false_of_ne (by omega)) (beq_false_of_ne (by omega)) (beq_false_of_ne (by omega)) (beq_false_of_ne (by omega)) (beq_false_of_ne (by omega)) (beq_false_of_ne (by omega)) (beq_false_of_ne (by omega)) (beq_false_of_ne (by omega)) (beq_false_of_ne (by omega)) (beq_false_of_ne (by omega)) (beq_false_of_ne (by omega)) fun y hy => ((mem_40no (hW.still hy) (hF.still hy) hl hi ho (regB_ok hI.len G.2.1) (by omega) hx (by have := (listB_ok (x := regs) hI.len G.2.2.2.2.1).2 (by decide); omega) (listB_ok hI.len G.2.2.2.2.1).1 (by omega) (by omega) hb).mono fun _ _ h => (h.from hy).le (by omega))
  · have e := key _ ho
    simp [formF] at e
    subst e
    simp only [ho] at G
    unfold instr1 at h
    rw [if_neg (show ¬ i.op = 1 by omega), if_neg (show ¬ i.op = 2 by omega), if_neg (show ¬ i.op = 3 by omega), if_neg (show ¬ i.op = 4 by omega), if_neg (show ¬ i.op = 20 by omega), if_neg (show ¬ i.op = 21 by omega), if_neg (show ¬ i.op = 22 by omega), if_neg (show ¬ i.op = 30 by omega), if_neg (show ¬ i.op = 31 by omega), if_neg (show ¬ i.op = 32 by omega), if_neg (show ¬ i.op = 33 by omega), if_neg (show ¬ i.op = 34 by omega), if_neg (show ¬ i.op = 35 by omega), if_neg (show ¬ i.op = 36 by omega), if_neg (show ¬ i.op = 37 by omega), if_neg (show ¬ i.op = 38 by omega), if_neg (show ¬ i.op = 39 by omega), if_neg (show ¬ i.op = 40 by omega), if_pos ho] at h
    split at h
    · cases h
    · rename_i hb
      have hb := eq_false_of_ne_true hb
      cases h
      exact do_mem_fell (R := fun w' => _) hF hi (beq_false_of_ne (by omega)) (beq_false_of_ne (by omega)) (beq_false_of_ne (by omega)) (beq_false_of_ne (by omega)) (beq_false_of_ne (by omega)) (beq_false_of_ne (by omega)) (beq_false_of_ne (by omega)) (beq_false_of_ne (by omega)) (beq_false_of_ne (by omega)) (beq_false_of_ne (by omega)) (beq_false_of_ne (by omega)) fun y hy => ((mem_41no (hW.still hy) (hF.still hy) hl hi ho (by omega) hx (by have := (listB_ok (x := regs) hI.len G.2.2.2.1).2 (by decide); omega) (listB_ok hI.len G.2.2.2.1).1 hb).mono fun _ _ h => (h.from hy).le (by omega))
  · exact absurd ho h42
  · exact absurd ho h43
end
end Go.Proofs.Ytpmbakhnamlooaa
