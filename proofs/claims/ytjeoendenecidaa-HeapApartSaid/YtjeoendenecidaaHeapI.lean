/- Four blocks of 64 bytes and a map of what should stand in them: for HeapApart. -/
import Derived.Test.YtjeoendenecidaaHeapH
namespace Go.Proofs.Ytjeoendenecidaa
open Go.RowKit

def wKey (a b : Int) : Lit := .string (keyBytes [.int .u8 a, .int .u8 b])
theorem wkey_law : Maps.Keyed Try.prog 48 :=
  Maps.Keyed.of_law (deep_law_laid laidOut (m := 2) (by omega) (of_decide_eq_true (by kernel_rfl)) (by kernel_rfl) (by kernel_rfl))
theorem wkey_of (a b : Int) (ha : (Lit.int .u8 a).wf = true) (hb : (Lit.int .u8 b).wf = true) : keyOf Try.prog 48 (.agg #[.int .u8 a, .int .u8 b]) = some (wKey a b) := by
  have h1 : Try.prog.keyType 48 = true := by kernel_rfl
  have h2 : Value.formed Try.prog 48 (.agg #[.int .u8 a, .int .u8 b]) = true := by kernel_rfl
  have h3 : Try.prog.cellsOf 5 = 1 := by kernel_rfl
  have h6 : Try.prog.cellsOf 48 = 2 := by kernel_rfl
  have h4 : ∀ n, Try.prog.keyLits (n + 2) 48 [.int .u8 a, .int .u8 b] = some [.int .u8 a, .int .u8 b] := by
    intro n
    have one : ∀ c : Int, (Lit.int .u8 c).wf = true → Try.prog.keyLits (n + 1) 5 [.int .u8 c] = some [.int .u8 c] := fun c hc => by
      unfold Program.keyLits
      rw [Try.underlying5]
      simp [hc]
    unfold Program.keyLits
    rw [Try.underlying48]
    simp only [h3, h6, List.length_cons, List.length_nil, if_true]
    rw [show List.range 2 = [0, 1] from rfl]
    simp [one a ha, one b hb]
  unfold keyOf
  rw [Try.underlying48]
  have h5 : ∃ n, Try.prog.types.size + 1 = n + 2 := ⟨Try.prog.types.size - 1, by have : 1 ≤ Try.prog.types.size := of_decide_eq_true (by kernel_rfl); omega⟩
  obtain ⟨n, hn⟩ := h5
  simp only [h1, h2, Bool.and_self, if_true]
  rw [hn]
  show Option.map _ (Try.prog.keyLits (n + 2) 48 [.int .u8 a, .int .u8 b]) = _
  rw [h4]; rfl
theorem wKey_inj {a b c d : Int} (h1 : (Lit.int .u8 a).wf = true) (h2 : (Lit.int .u8 b).wf = true) (h3 : (Lit.int .u8 c).wf = true) (h4 : (Lit.int .u8 d).wf = true) (h : wKey a b = wKey c d) : a = c ∧ b = d := by
  have e := wkey_law.inj (wkey_of a b h1 h2) (h ▸ wkey_of c d h3 h4)
  simpa using e
theorem wf8i (n : Int) (h0 : 0 ≤ n) (h1 : n ≤ 255) : (Lit.int .u8 n).wf = true := by go_wf

/-- what should stand: at a block's number and an offset -/
def updG (g : Int → Int → Option Int) (b o v : Int) : Int → Int → Option Int := fun c d => if c = b ∧ d = o then some v else g c d
def numV (n : Int) : HV := ⟨n, ⟨0, 0, 0, 0⟩⟩

/-- g1 is in the map, g2 in the blocks -/
def AS (T : List Nat) (w0 w : World) (p mb : Nat) (g1 g2 : Int → Int → Option Int) (c : Nat) : Prop :=
  ∃ l f m n fw, m ≤ c ∧ n ≤ c ∧ Law T w0 w p l f m ∧ mb ∈ T ∧ MapAt Try.prog 48 w mb n fw ∧ (l.length = 5 ∧ ∀ b : Int, 1 ≤ b → b ≤ 4 → liveOf l b = true) ∧
    (∀ b o : Int, 0 ≤ b → b < 4 → 0 ≤ o → o < 64 → fw (wKey b o) = (g1 b o).map (Value.int .u64)) ∧
    (∀ b o : Int, 0 ≤ b → b < 4 → 0 ≤ o → o < 64 → f (plKey (b + 1) o) = (g2 b o).map numV)

section
variable {T : List Nat} {w0 w w' : World} {p mb c : Nat} {g1 g2 : Int → Int → Option Int}
theorem AS.still (h : AS T w0 w p mb g1 g2 c) (s : Step (fun _ => False) w w') : AS T w0 w' p mb g1 g2 c := by
  obtain ⟨l, f, m, n, fw, h1, h2, h3, h4, h5, h6⟩ := h
  exact ⟨l, f, m, n, fw, h1, h2, h3.still s, h4, h5.same (s.block mb h5.lt fun x => x), h6⟩
theorem AS.al (h : AS T w0 w p mb g1 g2 c) (o : Obj) : AS (w.heap.size :: T) w0 (w.alloc o) p mb g1 g2 c := by
  obtain ⟨l, f, m, n, fw, h1, h2, h3, h4, h5, h6⟩ := h
  exact ⟨l, f, m, n, fw, h1, h2, h3.al o, List.mem_cons_of_mem _ h4, h5.same (heap_alloc_old w o h5.lt), h6⟩
theorem AS.made (h : AS T w0 w p mb g1 g2 c) (o : Obj) : ∃ t w', w.alloc o = w' ∧ w.heap.size = t ∧ AS (t :: T) w0 w' p mb g1 g2 c ∧ w'.heap[t]? = some o ∧ Step (fun _ => False) w w' :=
  ⟨_, _, rfl, rfl, h.al o, heap_alloc_new w o, Step.alloc _ w o⟩
theorem AS.sub {S : List Nat} (h : AS T w0 w p mb g1 g2 c) (e : ∀ t ∈ S, t ∈ T) (hm : mb ∈ S) : AS S w0 w p mb g1 g2 c := by
  obtain ⟨l, f, m, n, fw, h1, h2, h3, h4, h5, h6⟩ := h
  exact ⟨l, f, m, n, fw, h1, h2, h3.sub e, hm, h5, h6⟩
theorem AS.set (h : AS T w0 w p mb g1 g2 c) {a : Addr} (ha : a.block ∈ T) (hm : mb ≠ a.block) (u : Value) : AS T w0 (w.setCell a u) p mb g1 g2 c := by
  obtain ⟨l, f, m, n, fw, h1, h2, h3, h4, h5, h6⟩ := h
  exact ⟨l, f, m, n, fw, h1, h2, h3.set ha u, h4, h5.same (setCell_other a u hm), h6⟩
theorem AS.loc (h : AS T w0 w p mb g1 g2 c) : ∀ t ∈ T, w0.heap.size ≤ t ∧ t < w.heap.size := by
  obtain ⟨l, f, m, n, fw, h1, h2, h3, h4, h5, h6⟩ := h
  exact h3.loc
theorem AS.below (h : AS T w0 w p mb g1 g2 c) : Below w0.heap.size w0 w := by
  obtain ⟨l, f, m, n, fw, h1, h2, h3, h4, h5, h6⟩ := h
  exact h3.below
theorem AS.cell_old (h : AS T w0 w p mb g1 g2 c) {a : Addr} (hb : a.block < w0.heap.size) : w.cell? a = w0.cell? a := by
  obtain ⟨l, f, m, n, fw, h1, h2, h3, h4, h5, h6⟩ := h
  exact cell_of (h3.old hb)

theorem as_update (h : AS T w0 w p mb g1 g2 c) (hc : c < 4294967295) {b o v : Int} (b0 : 0 ≤ b) (b1 : b < 4) (o0 : 0 ≤ o) (o1 : o < 64) :
    ∃ w', (Instr.mapUpdate 47 (.map (some mb)) (.agg #[.int .u8 b, .int .u8 o]) (.int .u64 v)).run Try.prog w = .ok () w' ∧ Step (fun x => x = mb) w w' ∧ w'.heap.size = w.heap.size ∧ AS T w0 w' p mb (updG g1 b o v) g2 (c + 1) := by
  obtain ⟨l, f, m, n, fw, h1, h2, h3, h4, h5, h6, h7, h8⟩ := h
  obtain ⟨w', r1, r2, r3, r4⟩ := h5.update wkey_law Try.underlying47 (by simp only [maxLen]; omega) (wkey_of b o (wf8i _ b0 (by omega)) (wf8i _ o0 (by omega))) (.int .u64 v)
  have s := Step.of_grown r3
  refine ⟨w', r1, s, r4, l, f, m, n + 1, _, by omega, by omega, ?_, h4, r2, h6, fun b' o' q0 q1 q2 q3 => ?_, h8⟩
  · have := h3.own (s.mono fun x _ e => by subst e; exact h4) [] (by simp)
    exact this
  · show (if _ then _ else _) = _
    unfold updG
    by_cases e : b' = b ∧ o' = o
    · rw [if_pos e, if_pos]
      · rfl
      · rw [e.1, e.2]; exact WideAt.sameKey_self (wkey_law.key (wkey_of b o (wf8i _ b0 (by omega)) (wf8i _ o0 (by omega))))
    · rw [if_neg e, if_neg, h7 b' o' q0 q1 q2 q3]
      intro hs
      exact e (wKey_inj (wf8i _ q0 (by omega)) (wf8i _ q2 (by omega)) (wf8i _ b0 (by omega)) (wf8i _ o0 (by omega)) (WideAt.sameKey_eq hs))
theorem at_four {l : List HB} (hl : ∀ b : Int, 1 ≤ b → b ≤ 4 → liveOf l b = true) {b o : Int} (b0 : 0 ≤ b) (b1 : b < 4) (o0 : 0 ≤ o) (o1 : o < 64) : atOf l (b + 1) o 0 64 1 = 0 := by
  unfold atOf
  rw [if_neg (by omega), if_neg (by omega), if_neg (by rw [hl (b + 1) (by omega) (by omega)]; simp), if_neg (by omega)]
theorem as_store (h : AS T w0 w p mb g1 g2 c) (hc : c < 4294967295) {b o v : Int} (b0 : 0 ≤ b) (b1 : b < 4) (o0 : 0 ≤ o) (o1 : o < 64) :
    Calls Try.prog 18 #[.pointer (some ⟨p, 0, none⟩), .agg #[.int .i64 (b + 1), .int .i64 o, .int .i64 0, .int .i64 64], .int .i64 1, (numV v).val] w fun e w' =>
      e = .returned (.int .i64 0) ∧ Loc T w0 w w' ∧ AS T w0 w' p mb g1 (updG g2 b o v) (c + 1) := by
  obtain ⟨l, f, m, n, fw, h1, h2, h3, h4, h5, ⟨h6, h6'⟩, h7, h8⟩ := h
  refine (law_store h3 (b + 1) o 0 64 1 (numV v) (by omega) (by omega) (by omega) (by omega) (by omega) (by omega) (by omega)).mono ?_
  rintro e w' ⟨rfl, g3, g4⟩
  rw [at_four h6' b0 b1 o0 o1, if_pos rfl, if_pos rfl] at g3
  rw [at_four h6' b0 b1 o0 o1]
  refine ⟨rfl, g4, _, _, _, n, fw, by omega, by omega, g3, h4, h5.same (g4.cell h3 h4), ⟨by simp [setAt, h6], fun b' q0 q1 => ?_⟩, h7, fun b' o' q0 q1 q2 q3 => ?_⟩
  · have := h6' b' q0 q1
    unfold liveOf at this ⊢
    unfold setAt
    rw [blockOf_modify l (b + 1) _ (by omega) (by omega)]
    simp only [List.length_modify]
    by_cases e : b' = b + 1
    · subst e; simpa using this
    · rw [if_neg e]; exact this
  · show (if _ then _ else _) = _
    unfold updG
    by_cases e : b' = b ∧ o' = o
    · rw [if_pos e, if_pos]
      · rfl
      · rw [e.1, e.2]; exact plKey_self (wfi _ (by omega) (by omega)) (wfi _ (by omega) (by omega))
    · rw [if_neg e, if_neg (plKey_ne (wfi _ (by omega) (by omega)) (wfi _ (by omega) (by omega)) (wfi _ (by omega) (by omega)) (wfi _ (by omega) (by omega)) (by omega))]
      exact h8 b' o' q0 q1 q2 q3
theorem as_load (h : AS T w0 w p mb g1 g2 c) {b o : Int} (b0 : 0 ≤ b) (b1 : b < 4) (o0 : 0 ≤ o) (o1 : o < 64) :
    Calls Try.prog 17 #[.pointer (some ⟨p, 0, none⟩), .agg #[.int .i64 (b + 1), .int .i64 o, .int .i64 0, .int .i64 64], .int .i64 1] w fun e w' =>
      e = .returned (.tuple #[(numV ((g2 b o).getD 0)).val, .int .i64 0]) ∧ AS T w0 w' p mb g1 g2 c ∧ Step (fun _ => False) w w' := by
  have H := h
  obtain ⟨l, f, m, n, fw, h1, h2, h3, h4, h5, ⟨h6, h6'⟩, h7, h8⟩ := h
  refine (law_load h3 (b + 1) o 0 64 1 (by omega) (by omega) (by omega) (by omega) (by omega) (by omega)).mono ?_
  rintro e w' ⟨rfl, g3, g4⟩
  rw [at_four h6' b0 b1 o0 o1, if_pos rfl]
  refine ⟨?_, H.still g4, g4⟩
  unfold getOf
  rw [h8 b o b0 b1 o0 o1]
  cases g2 b o <;> rfl
theorem zero_u64 (w : World) : (zeroValue 39).run Try.prog w = .ok (.int .u64 0) w := by kernel_rfl
theorem as_lookup (h : AS T w0 w p mb g1 g2 c) {b o : Int} (b0 : 0 ≤ b) (b1 : b < 4) (o0 : 0 ≤ o) (o1 : o < 64) :
    (Instr.lookup 47 (.map (some mb)) (.agg #[.int .u8 b, .int .u8 o]) false).run Try.prog w = .ok (.int .u64 ((g1 b o).getD 0)) w := by
  obtain ⟨l, f, m, n, fw, h1, h2, h3, h4, h5, ⟨h6, h6'⟩, h7, h8⟩ := h
  rw [h5.lookup wkey_law Try.underlying47 (zero_u64 w) (wkey_of b o (wf8i _ b0 (by omega)) (wf8i _ o0 (by omega))), h7 b o b0 b1 o0 o1]
  cases g1 b o <;> rfl
end
end Go.Proofs.Ytjeoendenecidaa
