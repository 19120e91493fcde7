/- Package fat: Run. -/
import Derived.Test.YtpmbakhnamlooaaGooF
namespace Go.Proofs.Ytpmbakhnamlooaa
set_option linter.unusedVariables false
set_option linter.unusedSimpArgs false
open Go.RowKit

/-- where variables stand, and where new blocks begin; none: there is no room -/
def topsF : List Tp → Int → (List UInt8 → Option Int) → Option (Int × (List UInt8 → Option Int))
  | [], fr, m => some (fr, m)
  | t :: l, fr, m =>
    let a := (fr + 15) / 16 * 16
    if a + t.2 ≤ 2097152 then topsF l (a + t.2) (fun s => if s = t.1.data.toList then some a else m s) else none
/-- a machine at first -/
def st0 (free fuel : Int) (input : List Int) : FSt := ⟨fun _ => none, fun _ => none, [1], 1, fun _ => none, free, 2097152, input, [], fuel, 0, 0⟩
/-- what a run tells -/
structure RunR where
  state : Int
  code : Int
  out : List Int
  steps : Int
  checks : Int
def faultR : RunR := ⟨4, 0, [], 0, 0⟩
/-- Run, plain; n: so much fuel at least -/
def runU (ts : List Tp) (fs : List FFn) (input : List Int) (fuel : Int) : RunR :=
  if goodU ts fs then
    match topsF ts 4096 (fun _ => none) with
    | none => faultR
    | some (fr, tops) =>
      let r := callF (fnOf fs) tops fuel.toNat (st0 ((fr + 15) / 16 * 16) fuel input) (getFn fs [109, 97, 105, 110]) []
      ⟨(runE r).1, (runE r).2, (runS r).out, (runS r).steps, (runS r).checks⟩
  else faultR

/-- a unit is so small that it may be run -/
structure UnitOk (ts : List Tp) (fs : List FFn) : Prop where
  tops : ts.length ≤ 400
  fns : fs.length ≤ 400
  fn : ∀ f ∈ fs, f.kinds.length ≤ 1000 ∧ f.params.length ≤ 1000 ∧ f.slots.length ≤ 1000 ∧ f.code.length ≤ 100000 ∧ f.name.size ≤ maxLen
  ins : ∀ f ∈ fs, ∀ i ∈ f.code, i.name.size ≤ maxLen ∧ is64 i.n ∧ i.args.length ≤ 1000 ∧ i.outs.length ≤ 1000 ∧ (Lit.int .i64 i.op).wf = true
theorem UnitOk.fnOk {ts : List Tp} {fs : List FFn} (h : UnitOk ts fs) : ∀ f ∈ fs, FnOk f ∧ ∀ i ∈ f.code, i.name.size ≤ maxLen := fun f hf => by
  have h1 := h.fn f hf
  exact ⟨⟨by omega, by omega, by omega, by omega, fun i hi => by have := h.ins f hf i hi; exact ⟨this.2.2.2.2, by omega, by omega⟩, h1.2.2.2.2⟩, fun i hi => (h.ins f hf i hi).1⟩

theorem fnsB_fun : ∀ (l pre : List FFn), fnsB pre l = true → ∀ f ∈ l, funB f = true
  | [], _, _, f, hf => by cases hf
  | g :: l, pre, h, f, hf => by
    simp only [fnsB, okFn, Bool.and_eq_true] at h
    rcases List.mem_cons.1 hf with e | e
    · rw [e]; exact h.1.2
    · exact fnsB_fun l _ h.2 f e
theorem goodFn_of {ts : List Tp} {fs : List FFn} (hok : UnitOk ts fs) (hg : goodU ts fs = true) : ∀ s g, fnOf fs s = some g → GoodFn (fnOf fs) g := by
  intro s g hs
  have hm := fnOf_mem hs
  simp only [goodU, Bool.and_eq_true] at hg
  obtain ⟨⟨⟨h1, h2⟩, h3⟩, h4⟩ := hg
  have hf := fnsB_fun _ _ h2 g hm
  have h5 := hok.fn g hm
  have h6 := hok.ins g hm
  simp only [funB, Bool.and_eq_true, Bool.not_eq_true'] at hf
  obtain ⟨⟨⟨⟨⟨⟨f1, f2⟩, f3⟩, f4⟩, f5⟩, f6⟩, f7⟩ := hf
  have hcode : g.code ≠ [] := fun e => by rw [e] at f2; simp at f2
  have hgood : ∀ i ∈ g.code, goodI g i = true := fun i hi => by
    rw [List.any_eq_false] at f6
    have := f6 i hi
    simpa using this
  refine ⟨h5.1, fun n hn => ?_, ⟨fun r hr => ?_, h5.2.1⟩, h5.2.2.1, ⟨hcode, h5.2.2.2.1⟩, fun i hi => ⟨hgood i hi, (h6 i hi).1, (h6 i hi).2.1, (h6 i hi).2.2.1, (h6 i hi).2.2.2.1⟩, fun i hi => ?_, fun i hi h42 => ?_⟩
  · unfold slotsB at f5
    rw [List.any_eq_false] at f5
    have := f5 n hn
    simp only [Bool.or_eq_true, decide_eq_true_eq, not_or, Int.not_lt] at this
    exact this
  · unfold listB at f4
    simp only [Bool.and_eq_true, List.all_eq_true] at f4
    have := f4.1.2 r hr
    unfold regB at this
    simpa using this
  · unfold lastOpB at f7
    rw [hi] at f7
    simp only [Bool.or_eq_true, beq_iff_eq] at f7
    omega
  · rw [List.all_eq_true] at h3
    have h7 := h3 g hm
    rw [List.all_eq_true] at h7
    have h8 := h7 i hi
    unfold insB at h8
    rw [h42] at h8
    cases hfo : fnOf fs i.name.data.toList with
    | none => rw [hfo] at h8; simp at h8
    | some q =>
      rw [hfo] at h8
      simp only [Bool.and_eq_true, Bool.not_eq_true', Bool.and_eq_false_imp, Bool.or_eq_false_iff, beq_self_eq_true, forall_const, bne_eq_false_iff_eq, Bool.not_eq_false'] at h8
      refine ⟨q, rfl, by omega, fun j hj h43 => ?_⟩
      have h9 := h8.2.2
      unfold ansB at h9
      rw [Bool.not_eq_true', List.any_eq_false] at h9
      have := h9 j hj
      rw [h43] at this
      simp only [beq_self_eq_true, Bool.true_and, bne_iff_ne, ne_eq, Decidable.not_not] at this
      omega

section
variable {w0 w w' : World} {pw : Nat} {own : Nat → Nat} {fnv : List UInt8 → Option Value} {tops tops' : List UInt8 → Option Int} {st : FSt} {c : Nat} {bf bt bm bs bb : Nat} {vl vi vo : Value}
/-- the machine's variables are others -/
theorem FParts.topsNext (P : FParts w0 w pw own fnv tops st c bf bt bm bs bb vl vi vo) (s : Step (fun b => b = bt) w w') (im : SMap Try.prog 9 w' bt (c + 1) (fun s => (tops' s).map (Value.int .u64))) : FParts w0 w' pw own fnv tops' st (c + 1) bf bt bm bs bb vl vi vo ∧ Chg own own w w' := by
  obtain ⟨t1, t2, t3, t4, t5, t7⟩ := P.tag
  have hz := s.size
  have k : ∀ b, b < w.heap.size → own b ≠ 3 → w'.heap[b]? = w.heap[b]? := fun b hb ho => s.block b hb fun e => ho (by rw [e]; exact t3)
  refine ⟨⟨(k pw (lt_obj P.struct) (by omega)).trans P.struct, P.tag, (P.fns.same (k _ P.fns.lt (by omega))).le (by omega), im, (P.mem.same (k _ P.mem.lt (by omega))).le (by omega), (P.shadow.same (k _ P.shadow.lt (by omega))).le (by omega), (P.blocks.same (k _ P.blocks.lt (by omega))).le (by omega),
    P.locks.same fun b hb hlt => k b hlt (by omega), P.out.same fun b hb hlt => k b hlt (by omega), P.input, fun b hb => by have := P.low b hb; omega, P.step.trans s fun b hb => .inl (by have := P.low bt (by omega); omega), by have := P.lens; omega⟩, s.mono fun b _ e => by rw [e, t3]; decide, fun _ _ => rfl⟩
end
end Go.Proofs.Ytpmbakhnamlooaa
