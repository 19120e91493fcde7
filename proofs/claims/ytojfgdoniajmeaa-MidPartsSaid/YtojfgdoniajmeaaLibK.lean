/- An argument that is an array of integers, opened and shut: over any program. -/
import Derived.WalkKit
import Derived.ProofKit
import Derived.OpenShut
namespace Go.Proofs.Ytojfgdoniajmeaa
set_option linter.unusedVariables false
set_option linter.unusedSimpArgs false
open Go.ChangeShapes Go.WideShapes Go.ChangeAt Go.RowKit
variable {H : Type} {enc : TypeId × Value → H} {P : Program} {w : World} {base : Nat} {spare : Nat → Bool} {held : Bool}

theorem open_int_arr {n : Nat} {t e : TypeId} {k : IntKind} {r : Reach} {b0 : Nat} {v : Value} {d : DataW H} {p : List MemPlace}
    (ht : P.underlying t = some (.array n e)) (he : P.underlying e = some (.int k)) (hce : P.cellsOf e = 1) (hct : P.cellsOf t = n)
    (hv : Value.okWide P w r b0 t v) (h : DataW.Trod enc P w base spare held t v d p) :
    ∃ xs : List Int, xs.length = n ∧ v = .agg (xs.map (Value.int k)).toArray ∧ d = .agg (xs.map fun x => .lit (.int k x)) ∧ p = [] ∧ ∀ x ∈ xs, (Lit.int k x).wf = true := by
  obtain ⟨cs, rfl, hsz, _⟩ : ∃ cs, v = .agg cs ∧ cs.size = P.cellsOf t ∧ Row.okWide P w r b0 t cs := by
    simpa [Value.okWide, ht] using hv
  rw [hct] at hsz
  obtain ⟨l⟩ := cs
  obtain ⟨fuel, hf⟩ := h
  obtain ⟨ys, m, _, hx, _, hl, hy⟩ := DataW.trod_array ht hf
  simp only [Prod.mk.injEq] at hx
  obtain ⟨rfl, rfl⟩ := hx
  simp only [hce, Nat.mul_one] at hy
  have hl2 : l.length = n := by simpa using hsz
  have step : ∀ (n : Nat) (l : List Value) (ys : List (DataW H × List MemPlace)), l.length = n → ys.length = n →
      (∀ i, i < n → DataW.trod enc P w base spare held m e ((l.drop i).take 1) = ys[i]?) →
      ∃ xs : List Int, xs.length = n ∧ l = xs.map (Value.int k) ∧ ys.map (·.1) = xs.map (fun x => DataW.lit (.int k x)) ∧ ys.flatMap (·.2) = [] ∧ ∀ x ∈ xs, (Lit.int k x).wf = true := by
    intro n
    induction n with
    | zero =>
      intro l ys h1 h2 _
      obtain rfl := List.length_eq_zero_iff.1 h1
      obtain rfl := List.length_eq_zero_iff.1 h2
      exact ⟨[], rfl, rfl, rfl, rfl, by simp⟩
    | succ n ih =>
      intro l ys h1 h2 h3
      obtain ⟨c, l, rfl⟩ := List.exists_cons_of_length_eq_add_one h1
      obtain ⟨y, ys, rfl⟩ := List.exists_cons_of_length_eq_add_one h2
      have h0 := h3 0 (by omega)
      simp at h0
      obtain ⟨x, e0, ey, wx⟩ := DataW.trod_int he h0
      obtain ⟨xs, a1, a2, a3, a4, a5⟩ := ih l ys (by simpa using h1) (by simpa using h2) (fun i hi => by simpa using h3 (i + 1) (by omega))
      simp at e0
      subst e0 ey
      exact ⟨x :: xs, by simp [a1], by simp [a2], by simp [a3], by simp [a4], by
        intro z hz
        rcases List.mem_cons.1 hz with rfl | hz
        · exact wx
        · exact a5 z hz⟩
  obtain ⟨xs, a1, a2, a3, a4, a5⟩ := step n l ys hl2 hl hy
  exact ⟨xs, a1, by rw [a2], by rw [a3], a4, a5⟩

theorem shut_int_arr {n : Nat} {t e : TypeId} {k : IntKind} {xs : List Int} (ht : P.underlying t = some (.array n e)) (he : P.underlying e = some (.int k)) (hce : P.cellsOf e = 1) (hct : P.cellsOf t = n)
    (hn : xs.length = n) (hw : ∀ x ∈ xs, (Lit.int k x).wf = true) :
    DataW.Trod enc P w base spare held t (.agg (xs.map (Value.int k)).toArray) (.agg (xs.map fun x => .lit (.int k x))) [] := by
  refine ⟨2, ?_⟩
  have hm : ∀ (m : Nat) (l : List Int), (∀ x ∈ l, (Lit.int k x).wf = true) → m = l.length →
      (List.range m).mapM (fun i => DataW.trod enc P w base spare held 1 e (((l.map (Value.int k)).drop i).take 1)) = some (l.map fun x => (DataW.lit (.int k x), [])) := by
    intro m
    induction m with
    | zero =>
      intro l _ hl
      obtain rfl := List.length_eq_zero_iff.1 hl.symm
      rfl
    | succ m ih =>
      intro l hw hl
      obtain ⟨x, l, rfl⟩ := List.exists_cons_of_length_eq_add_one hl.symm
      have hx : DataW.trod enc P w base spare held 1 e [Value.int k x] = some (DataW.lit (.int k x), []) := by
        simp [DataW.trod, he, hw x (by simp)]
      rw [List.range_succ_eq_map, List.mapM_cons]
      simp only [List.mapM_map, List.map_cons, List.drop_zero, List.take_succ_cons, List.take_zero, hx]
      have := ih l (fun z hz => hw z (List.mem_cons_of_mem _ hz)) (by simpa using hl)
      simp only [Function.comp_def, Nat.succ_eq_add_one, List.drop_succ_cons]
      rw [this]; rfl
  show DataW.trod enc P w base spare held 2 t (xs.map (Value.int k)) = _
  unfold DataW.trod
  rw [ht]
  simp only [hct, List.length_map, hn, hce, Nat.mul_one]
  rw [hm n xs hw hn.symm]
  simp [List.map_map, List.flatMap_map, Function.comp_def]
theorem two_of {α : Type} (l : List α) (h : l.length = 2) : ∃ a b, l = [a, b] := by
  match l, h with
  | [a, b], _ => exact ⟨a, b, rfl⟩
theorem three_of {α : Type} (l : List α) (h : l.length = 3) : ∃ a b c, l = [a, b, c] := by
  match l, h with
  | [a, b, c], _ => exact ⟨a, b, c, rfl⟩
theorem four_of {α : Type} (l : List α) (h : l.length = 4) : ∃ a b c d, l = [a, b, c, d] := by
  match l, h with
  | [a, b, c, d], _ => exact ⟨a, b, c, d, rfl⟩
theorem five_of {α : Type} (l : List α) (h : l.length = 5) : ∃ a b c d e, l = [a, b, c, d, e] := by
  match l, h with
  | [a, b, c, d, e], _ => exact ⟨a, b, c, d, e, rfl⟩
theorem wfu8 {n : Int} (h : (Lit.int .u8 n).wf = true) : 0 ≤ n ∧ n ≤ 255 := by
  simp [Lit.wf, IntKind.min, IntKind.max, IntKind.bits, IntKind.signed] at h; omega
theorem wfi64 {n : Int} (h : (Lit.int .i64 n).wf = true) : -9223372036854775808 ≤ n ∧ n ≤ 9223372036854775807 := by
  simp [Lit.wf, IntKind.min, IntKind.max, IntKind.bits, IntKind.signed] at h; omega
theorem wfu64 {n : Int} (h : (Lit.int .u64 n).wf = true) : 0 ≤ n ∧ n ≤ 18446744073709551615 := by
  simp [Lit.wf, IntKind.min, IntKind.max, IntKind.bits, IntKind.signed] at h; omega
theorem wfu16 {n : Int} (h : (Lit.int .u16 n).wf = true) : 0 ≤ n ∧ n ≤ 65535 := by
  simp [Lit.wf, IntKind.min, IntKind.max, IntKind.bits, IntKind.signed] at h; omega
end Go.Proofs.Ytojfgdoniajmeaa
