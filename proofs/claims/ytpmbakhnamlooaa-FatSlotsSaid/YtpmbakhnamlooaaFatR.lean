/- Package fat's machine: what stays so while it runs. -/
import Derived.Test.YtpmbakhnamlooaaFatP
namespace Go.Proofs.Ytpmbakhnamlooaa
set_option linter.unusedVariables false
set_option linter.unusedSimpArgs false
open Go.RowKit

/-- what is so of a machine's state; d: how much may come yet -/
structure SInv (tops : List UInt8 → Option Int) (st : FSt) (d : Int) : Prop where
  mem : ∀ x b, st.mem x = some b → 0 ≤ b ∧ b ≤ 255
  shadow : ∀ x s, st.shadow x = some s → is64 s.1 ∧ is64 s.2.1 ∧ is64 s.2.2.1 ∧ is64 s.2.2.2
  keys : 0 ≤ st.keys ∧ st.keys + d ≤ 100 + 2 * st.steps
  checks : 0 ≤ st.checks ∧ st.checks + d ≤ 100 + 2 * st.steps
  locks : (st.locks.length : Int) + d ≤ 100 + 2 * st.steps
  steps : 0 ≤ st.steps ∧ (st.steps ≤ st.fuel ∨ st.steps = 0) ∧ st.fuel ≤ 100000
  free : 0 ≤ st.free ∧ st.free ≤ 4000000
  top : 0 ≤ st.top ∧ st.top ≤ 4194304
  input : ∀ b ∈ st.input, 0 ≤ b ∧ b ≤ 255
  out : ∀ b ∈ st.out, 0 ≤ b ∧ b ≤ 255
  tops : ∀ s x, tops s = some x → is64 x
theorem SInv.le {tops : List UInt8 → Option Int} {st : FSt} {d d' : Int} (h : SInv tops st d) (e : d' ≤ d) : SInv tops st d' :=
  ⟨h.mem, h.shadow, by have := h.keys; omega, by have := h.checks; omega, by have := h.locks; omega, h.steps, h.free, h.top, h.input, h.out, h.tops⟩
/-- what is so of a call's frame -/
structure FInv (f : FFn) (fr : Frm) (x : List Int) : Prop where
  x64 : regs64 x
  len : x.length = f.kinds.length
  slots : ∀ a ∈ fr.slots, 0 ≤ a ∧ a ≤ 4194304
  sizes : fr.sizes = f.slots
  slen : fr.slots.length = f.slots.length
  lock : 0 ≤ fr.lock ∧ fr.lock ≤ 10000000
  key : is64 fr.key
/-- sizes of slots are as they may be -/
def goodS (f : FFn) : Prop := ∀ n ∈ f.slots, 1 ≤ n ∧ n ≤ 65536

theorem set_64 {x : List Int} (h : regs64 x) {v : Int} (hv : is64 v) (k : Nat) : regs64 (x.set k v) := by
  intro y hy
  rcases List.mem_or_eq_of_mem_set hy with h1 | h1
  · exact h y h1
  · rw [h1]; exact hv
theorem write_64 {x : List Int} (h : regs64 x) {l v : List Int} (hv : ∀ y ∈ v, is64 y) : ∀ k, regs64 (writeAcc x l v k)
  | 0 => h
  | k + 1 => set_64 (write_64 h hv k) (by
    rw [List.getD_eq_getElem?_getD]
    cases e : v[k]? with
    | none => exact ⟨by simp, by simp⟩
    | some y => exact hv y (List.mem_of_getElem? e)) _
theorem zero_64 : is64 0 := ⟨by omega, by omega⟩
theorem narT_64 (a n : Int) (s : Bool) : is64 (nar a n s) := by
  unfold nar
  cases s with
  | true => exact ⟨Int.emod_nonneg _ (by omega), Int.emod_lt_of_pos _ (by omega)⟩
  | false =>
    simp only [Bool.false_eq_true, if_false]
    have h0 : 0 ≤ U (a * 2 ^ (64 - n).toNat) ∧ U (a * 2 ^ (64 - n).toNat) < 18446744073709551616 := ⟨Int.emod_nonneg _ (by omega), Int.emod_lt_of_pos _ (by omega)⟩
    have hp : (0 : Int) < 2 ^ (64 - n).toNat := Int.pow_pos (by omega)
    exact ⟨Int.ediv_nonneg h0.1 (by omega), Int.lt_of_le_of_lt (Int.ediv_le_self _ h0.1) h0.2⟩
theorem getD_mem_or {α : Type} (l : List α) (k : Nat) (z : α) : l.getD k z ∈ l ∨ l.getD k z = z := by
  rw [List.getD_eq_getElem?_getD]
  cases e : l[k]? with
  | none => exact .inr rfl
  | some y => exact .inl (List.mem_of_getElem? e)
theorem getD_64 {l : List Int} (h : ∀ y ∈ l, is64 y) (k : Nat) : is64 (l.getD k 0) := by
  rcases getD_mem_or l k 0 with h1 | h1
  · exact h _ h1
  · rw [h1]; exact zero_64

section
variable {f : FFn} {i : FIns} {m : Form}
theorem goodI_form (h : goodI f i = true) (hm : formF i.op = some m) :
    regB f.kinds.length i.dst m.dst = true ∧ regB f.kinds.length i.a m.a = true ∧ regB f.kinds.length i.b m.b = true ∧ listB f.kinds.length i.args m.args false = true ∧ listB f.kinds.length i.outs m.outs true = true ∧ sizeB m.size i.size = true ∧
    0 ≤ i.to ∧ i.to < f.code.length ∧ (if i.op = 3 then decide (1 ≤ i.n) && decide (i.n ≤ 27) else if i.op = 31 ∨ i.op = 39 then decide (i.n < f.slots.length) else true) = true := by
  unfold goodI at h
  rw [hm] at h
  simp only [Bool.and_eq_true, decide_eq_true_eq] at h
  obtain ⟨⟨⟨⟨⟨⟨⟨⟨⟨⟨⟨h1, h2⟩, h3⟩, h4⟩, h5⟩, h6⟩, _⟩, _⟩, h7⟩, h8⟩, _⟩, h9⟩ := h
  exact ⟨h1, h2, h3, h4, h5, h6, h7, h8, h9⟩
theorem regB_ok {x : List Int} (hl : x.length = f.kinds.length) {r : Int} (h : regB f.kinds.length r true = true) : ok1 x r := by
  unfold regB at h
  simp only [if_true, Bool.and_eq_true, decide_eq_true_eq] at h
  unfold ok1; omega
theorem listB_ok {x : List Int} (hl : x.length = f.kinds.length) {l : List Int} {n : Int} {once : Bool} (h : listB f.kinds.length l n once = true) : (∀ r ∈ l, ok1 x r) ∧ (0 ≤ n → (l.length : Int) = n) := by
  unfold listB at h
  simp only [Bool.and_eq_true, Bool.or_eq_true, decide_eq_true_eq, List.all_eq_true] at h
  obtain ⟨⟨h1, h2⟩, _⟩ := h
  exact ⟨fun r hr => regB_ok hl (h2 r hr), fun hn => by omega⟩
theorem sizeB_one {n : Int} (h : sizeB 1 n = true) : n = 1 ∨ n = 4 ∨ n = 8 := by
  unfold sizeB at h
  simp only [if_true, Bool.or_eq_true, beq_iff_eq] at h
  omega
theorem sizeB_two {n : Int} (h : sizeB 2 n = true) : 1 ≤ n ∧ n ≤ 4194304 := by
  unfold sizeB at h
  rw [if_neg (by decide), if_pos rfl] at h
  simpa using h
end
theorem clr_some {α : Type} {m : Int → Option α} {a k x : Int} {v : α} (h : clr m a k x = some v) : m x = some v := by
  unfold clr at h
  split at h
  · cases h
  · exact h
theorem storeAcc_byte {m : Int → Option Int} (h : ∀ x b, m x = some b → 0 ≤ b ∧ b ≤ 255) (a v : Int) : ∀ k x b, storeAcc m a v k x = some b → 0 ≤ b ∧ b ≤ 255
  | 0, x, b, e => h x b e
  | k + 1, x, b, e => by
    simp only [storeAcc] at e
    split at e
    · cases e; omega
    · exact storeAcc_byte h a v k x b e

/-- how an instruction leaves the machine -/
def OutInv (tops : List UInt8 → Option Int) (f : FFn) (fr : Frm) (st : FSt) : Out → Prop
  | .go st' x' => SInv tops st' 0 ∧ FInv f fr x' ∧ st'.steps = st.steps ∧ st'.fuel = st.fuel ∧ st'.top = st.top
  | .stop st' _ code => SInv tops st' 0 ∧ 0 ≤ code ∧ code ≤ 255 ∧ st'.steps = st.steps ∧ st'.fuel = st.fuel

section
variable {tops : List UInt8 → Option Int} {f : FFn} {fr : Frm} {st : FSt} {x : List Int} {i : FIns}
theorem FInv.set (h : FInv f fr x) (k : Nat) {v : Int} (hv : is64 v) : FInv f fr (x.set k v) := ⟨set_64 h.x64 hv k, by simpa using h.len, h.slots, h.sizes, h.slen, h.lock, h.key⟩
theorem FInv.write (h : FInv f fr x) (l : List Int) {v : List Int} (hv : ∀ y ∈ v, is64 y) (k : Nat) : FInv f fr (writeAcc x l v k) := ⟨write_64 h.x64 hv k, by rw [writeAcc_length]; exact h.len, h.slots, h.sizes, h.slen, h.lock, h.key⟩
theorem rg_slot (h : FInv f fr x) (n : Int) : 0 ≤ rg fr.slots n ∧ rg fr.slots n ≤ 4194304 := by
  unfold rg
  rcases getD_mem_or fr.slots n.toNat 0 with h1 | h1
  · exact h.slots _ h1
  · rw [h1]; omega
theorem rg_size (hs : goodS f) (h : FInv f fr x) (n : Int) : 0 ≤ rg fr.sizes n ∧ rg fr.sizes n ≤ 65536 := by
  unfold rg
  rw [h.sizes]
  rcases getD_mem_or f.slots n.toNat 0 with h1 | h1
  · have := hs _ h1; omega
  · rw [h1]; omega
theorem outInv_ite {p : Prop} [Decidable p] {a b : Out} (h1 : p → OutInv tops f fr st a) (h2 : ¬ p → OutInv tops f fr st b) : OutInv tops f fr st (if p then a else b) := by
  split
  · exact h1 ‹_›
  · exact h2 ‹_›
theorem instr1_inv (hS : SInv tops st 2) (hF : FInv f fr x) (hn : is64 i.n) (hb : ∀ o a b, is64 a → is64 b → is64 (doF o a b).1) : OutInv tops f fr st (instr1 tops fr st x i) := by
  have same : SInv tops st 0 := hS.le (by omega)
  have hx := hF.x64
  unfold instr1
  repeat' (refine outInv_ite (fun _ => ?_) (fun _ => ?_))
  all_goals first
    | exact ⟨same, hF.set _ hn, rfl, rfl, rfl⟩
    | exact ⟨same, hF.set _ (rg_64 hx _), rfl, rfl, rfl⟩
    | exact ⟨same, hF.set _ (hb _ _ _ (rg_64 hx _) (rg_64 hx _)), rfl, rfl, rfl⟩
    | exact ⟨same, hF.set _ (narT_64 _ _ _), rfl, rfl, rfl⟩
    | exact ⟨same, hF.set _ hF.key, rfl, rfl, rfl⟩
    | exact ⟨same, hF.set _ (by have := hF.lock; unfold is64; omega), rfl, rfl, rfl⟩
    | exact ⟨same, hF.set _ (by have := rg_slot hF i.n; unfold is64; omega), rfl, rfl, rfl⟩
    | exact ⟨same, by omega, by omega, rfl, rfl⟩
    | exact ⟨same, hF, rfl, rfl, rfl⟩
    | skip
  · refine ⟨⟨same.mem, same.shadow, same.keys, same.checks, same.locks, same.steps, same.free, same.top, same.input, ?_, same.tops⟩, hF, rfl, rfl, rfl⟩
    intro b hb
    rcases List.mem_append.1 hb with h1 | h1
    · exact same.out b h1
    · rw [List.mem_singleton.1 h1]; omega
  · unfold getF
    cases e : st.input with
    | nil => exact ⟨same, hF.set _ ⟨by simp, by simp⟩, rfl, rfl, rfl⟩
    | cons b r =>
      have hb0 := same.input b (by rw [e]; simp)
      exact ⟨⟨same.mem, same.shadow, same.keys, same.checks, same.locks, same.steps, same.free, same.top, fun y hy => same.input y (by rw [e]; simp [hy]), same.out, same.tops⟩, hF.set _ ⟨by simp; omega, by simp; omega⟩, rfl, rfl, rfl⟩
  · refine ⟨same, hF.set _ ?_, rfl, rfl, rfl⟩
    cases e : tops i.name.data.toList with
    | none => exact zero_64
    | some y => exact same.tops _ _ e
  · exact ⟨⟨same.mem, same.shadow, same.keys, by have := hS.checks; constructor <;> simp only <;> omega, same.locks, same.steps, same.free, same.top, same.input, same.out, same.tops⟩, hF, rfl, rfl, rfl⟩
  · exact ⟨⟨same.mem, same.shadow, same.keys, by have := hS.checks; constructor <;> simp only <;> omega, same.locks, same.steps, same.free, same.top, same.input, same.out, same.tops⟩, by omega, by omega, rfl, rfl⟩
  · exact ⟨⟨storeAcc_byte same.mem _ _ _, same.shadow, same.keys, same.checks, same.locks, same.steps, same.free, same.top, same.input, same.out, same.tops⟩, hF, rfl, rfl, rfl⟩
  · refine ⟨same, hF.write _ ?_ _, rfl, rfl, rfl⟩
    have h4 : ∀ s : Int × Int × Int × Int, is64 s.1 ∧ is64 s.2.1 ∧ is64 s.2.2.1 ∧ is64 s.2.2.2 → ∀ y ∈ fourL s, is64 y := by
      intro s h y hy
      simp only [fourL, List.mem_cons, List.not_mem_nil, or_false] at hy
      rcases hy with rfl | rfl | rfl | rfl
      · exact h.1
      · exact h.2.1
      · exact h.2.2.1
      · exact h.2.2.2
    refine h4 _ ?_
    cases e : st.shadow (rg x i.a) with
    | none => exact ⟨zero_64, zero_64, zero_64, zero_64⟩
    | some s => exact same.shadow _ _ e
  · refine ⟨⟨same.mem, ?_, same.keys, same.checks, same.locks, same.steps, same.free, same.top, same.input, same.out, same.tops⟩, hF, rfl, rfl, rfl⟩
    intro y s e
    simp only at e
    split at e
    · cases e
      have := fun k => getD_64 (pick_64 hx i.args) k
      exact ⟨this 0, this 1, this 2, this 3⟩
    · exact same.shadow _ _ e
  · exact ⟨⟨fun y b e => same.mem y b (clr_some e), fun y s e => same.shadow y s (clr_some e), same.keys, same.checks, same.locks, same.steps, same.free, same.top, same.input, same.out, same.tops⟩, hF, rfl, rfl, rfl⟩
  · rename_i hr
    have hk := hS.keys
    have hl := hS.locks
    have hs := hS.steps
    have hf := hS.free
    unfold roomF at hr
    simp only [Bool.and_eq_true, decide_eq_true_eq] at hr
    refine ⟨⟨same.mem, same.shadow, by constructor <;> simp only [mallocF] <;> omega, same.checks, by simp only [mallocF, List.length_append, List.length_cons, List.length_nil]; omega, same.steps, by constructor <;> simp only [mallocF] <;> omega, same.top, same.input, same.out, same.tops⟩, hF.write _ ?_ _, rfl, rfl, rfl⟩
    intro y hy
    simp only [mallocV, List.mem_cons, List.not_mem_nil, or_false] at hy
    unfold is64
    omega
  · exact ⟨⟨same.mem, same.shadow, same.keys, same.checks, by simpa using same.locks, same.steps, same.free, same.top, same.input, same.out, same.tops⟩, hF, rfl, rfl, rfl⟩
end
end Go.Proofs.Ytpmbakhnamlooaa
