/- A heap of blocks 1 .. N, each freed or not, a number standing at the beginning of the first M: for HeapGone. -/
import Derived.Test.YtjeoendenecidaaHeapG
import Derived.Test.YtjeoendenecidaaLibE
namespace Go.Proofs.Ytjeoendenecidaa
open Go.RowKit

structure GList (l : List HB) (f : Lit → Option HV) (N M : Nat) (sz : Nat → Int) (V : Nat → HV) (dead : Option Nat) : Prop where
  len : l.length = N + 1
  at_ : ∀ i : Nat, i < N → (blockOf l (i + 1)).size = sz i ∧ (blockOf l (i + 1)).free = true ∧ (blockOf l (i + 1)).live = decide (dead ≠ some i)
  val : ∀ i : Nat, i < M → dead ≠ some i → f (plKey (i + 1) 0) = some (V i)

def GS (T : List Nat) (w0 w : World) (p N M : Nat) (sz : Nat → Int) (V : Nat → HV) (dead : Option Nat) (c : Nat) : Prop :=
  ∃ l f m, m ≤ c ∧ Law T w0 w p l f m ∧ GList l f N M sz V dead

section
variable {T : List Nat} {w0 w w' : World} {p N M c : Nat} {sz : Nat → Int} {V : Nat → HV} {dead : Option Nat} {l : List HB} {f : Lit → Option HV}

theorem GList.live (h : GList l f N M sz V dead) {i : Nat} (hi : i < N) : liveOf l (i + 1) = decide (dead ≠ some i) := by
  unfold liveOf
  rw [(h.at_ i hi).2.2, decide_eq_true (show (0 : Int) < i + 1 by omega), decide_eq_true (show ((i : Int) + 1) < l.length by rw [h.len]; omega)]
  simp
theorem GS.still (h : GS T w0 w p N M sz V dead c) (s : Step (fun _ => False) w w') : GS T w0 w' p N M sz V dead c := by
  obtain ⟨l, f, m, h1, h2, h3⟩ := h
  exact ⟨l, f, m, h1, h2.still s, h3⟩
theorem GS.grow (h : GS T w0 w p N M sz V dead c) (hb : Below w.heap.size w w') (S : List Nat) (hS : ∀ t ∈ S, w.heap.size ≤ t ∧ t < w'.heap.size) : GS (S ++ T) w0 w' p N M sz V dead c := by
  obtain ⟨l, f, m, h1, h2, h3⟩ := h
  exact ⟨l, f, m, h1, h2.grow hb S hS, h3⟩
theorem GS.al (h : GS T w0 w p N M sz V dead c) (o : Obj) : GS (w.heap.size :: T) w0 (w.alloc o) p N M sz V dead c := by
  obtain ⟨l, f, m, h1, h2, h3⟩ := h
  exact ⟨l, f, m, h1, h2.al o, h3⟩
theorem GS.made (h : GS T w0 w p N M sz V dead c) (o : Obj) : ∃ t w', w.alloc o = w' ∧ w.heap.size = t ∧ GS (t :: T) w0 w' p N M sz V dead c ∧ w'.heap[t]? = some o ∧ Step (fun _ => False) w w' :=
  ⟨_, _, rfl, rfl, h.al o, heap_alloc_new w o, Step.alloc _ w o⟩
theorem GS.drop {t : Nat} (h : GS (t :: T) w0 w p N M sz V dead c) : GS T w0 w p N M sz V dead c := by
  obtain ⟨l, f, m, h1, h2, h3⟩ := h
  exact ⟨l, f, m, h1, h2.drop, h3⟩
theorem GS.sub {S : List Nat} (h : GS T w0 w p N M sz V dead c) (e : ∀ t ∈ S, t ∈ T) : GS S w0 w p N M sz V dead c := by
  obtain ⟨l, f, m, h1, h2, h3⟩ := h
  exact ⟨l, f, m, h1, h2.sub e, h3⟩
theorem GS.loc (h : GS T w0 w p N M sz V dead c) : ∀ t ∈ T, w0.heap.size ≤ t ∧ t < w.heap.size := by
  obtain ⟨l, f, m, h1, h2, h3⟩ := h
  exact h2.loc
theorem GS.below (h : GS T w0 w p N M sz V dead c) : Below w0.heap.size w0 w := by
  obtain ⟨l, f, m, h1, h2, h3⟩ := h
  exact h2.below
theorem GS.cell_old (h : GS T w0 w p N M sz V dead c) {a : Addr} (hb : a.block < w0.heap.size) : w.cell? a = w0.cell? a := by
  obtain ⟨l, f, m, h1, h2, h3⟩ := h
  exact cell_of (h2.old hb)
theorem GS.le (h : GS T w0 w p N M sz V dead c) {d : Nat} (hd : c ≤ d) : GS T w0 w p N M sz V dead d := by
  obtain ⟨l, f, m, h1, h2, h3⟩ := h
  exact ⟨l, f, m, by omega, h2, h3⟩
/-- a step that writes the law's own blocks, and makes new ones -/
theorem Law.own {m : Nat} (h : Law T w0 w p l f m) (s : Step (fun b => b ∈ T) w w') (S : List Nat) (hS : ∀ t ∈ S, w.heap.size ≤ t ∧ t < w'.heap.size) : Law (S ++ T) w0 w' p l f m := by
  obtain ⟨⟨F, h1, h2⟩, h3, h4, h5⟩ := h
  have hs := s.size
  have hs4 := h4.size
  refine ⟨⟨F, h1.same fun b hb' hlt => s.block b hlt (h2 b hb').2.2, fun b hb' => ⟨(h2 b hb').1, by have := (h2 b hb').2.1; omega, fun hc => ?_⟩⟩, fun t ht => ?_, ?_, h5⟩
  · rcases List.mem_append.1 hc with hc | hc
    · have := (h2 b hb').2.1; have := (hS b hc).1; omega
    · exact (h2 b hb').2.2 hc
  · rcases List.mem_append.1 ht with hc | hc
    · have := hS t hc; omega
    · have := h3 t hc; omega
  · exact h4.trans s fun b hb => .inl (h3 b hb).1
theorem GS.own (h : GS T w0 w p N M sz V dead c) (s : Step (fun b => b ∈ T) w w') (S : List Nat) (hS : ∀ t ∈ S, w.heap.size ≤ t ∧ t < w'.heap.size) : GS (S ++ T) w0 w' p N M sz V dead c := by
  obtain ⟨l, f, m, h1, h2, h3⟩ := h
  exact ⟨l, f, m, h1, h2.own s S hS, h3⟩

theorem wfi (n : Int) (h0 : -9223372036854775808 ≤ n) (h1 : n ≤ 9223372036854775807) : (Lit.int .i64 n).wf = true := by go_wf
theorem plKey_ne {a b c d : Int} (wa : (Lit.int .i64 a).wf = true) (wb : (Lit.int .i64 b).wf = true) (wc : (Lit.int .i64 c).wf = true) (wd : (Lit.int .i64 d).wf = true) (h : a ≠ c ∨ b ≠ d) : ¬ (plKey a b).sameKey (plKey c d) = true := by
  intro hs
  have := plKey_inj wa wb wc wd (WideAt.sameKey_eq hs)
  omega
theorem plKey_self {a b : Int} (wa : (Lit.int .i64 a).wf = true) (wb : (Lit.int .i64 b).wf = true) : (plKey a b).sameKey (plKey a b) = true := WideAt.sameKey_self (place_law.key (place_key a b wa wb))

theorem gs_make (h : GS T w0 w p N M sz V dead c) (hN : N < 1000) (hM : M ≤ N) (hd : ∀ k, dead = some k → k < N) (s0 : 0 ≤ sz N) (s1 : sz N ≤ 4194304) :
    Calls Try.prog 16 #[.pointer (some ⟨p, 0, none⟩), .int .i64 (sz N), .bool true] w fun e w' =>
      e = .returned (.tuple #[.agg #[.int .i64 (N + 1 : Int), .int .i64 0, .int .i64 0, .int .i64 (sz N)], .int .i64 0]) ∧ GS T w0 w' p (N + 1) M sz V dead c ∧ Loc T w0 w w' := by
  obtain ⟨l, f, m, h1, h2, h3⟩ := h
  have hl := h3.len
  refine (law_make h2 (sz N) true s0 s1 (by omega)).mono ?_
  rintro e w' ⟨rfl, h4, h5⟩
  have e1 : (l.length : Int) = N + 1 := by omega
  rw [e1]
  refine ⟨rfl, ⟨_, _, m, h1, h4, ⟨by simp [hl], fun i hi => ?_, h3.val⟩⟩, h5⟩
  rw [blockOf_snoc]
  by_cases hiN : i = N
  · subst hiN
    rw [if_pos (by omega)]
    refine ⟨rfl, rfl, ?_⟩
    have : dead ≠ some i := fun e => by have := hd i e; omega
    simp [this]
  · rw [if_neg (by omega)]
    exact h3.at_ i (by omega)

theorem at_here (h3 : GList l f N M sz V dead) {i : Nat} (hi : i < N) {off n : Int} (hn : n = 1 ∨ n = 4 ∨ n = 8) (h0 : 0 ≤ off) (h1 : off + n ≤ sz i) : atOf l (i + 1) off 0 (sz i) n = if dead = some i then 20 else 0 := by
  unfold atOf
  rw [if_neg (by omega), if_neg (by omega), h3.live hi]
  by_cases hd : dead = some i
  · simp [hd]
  · rw [if_neg (by simp [hd]), if_neg (by omega), if_neg hd]

/-- a store at a place of a block, that keeps what stands at the beginnings of the others -/
theorem gs_put (h : GS T w0 w p N M sz V dead c) (hN : N < 1000) (hM : M ≤ N) (hc : c < 4294967295) {i : Nat} (hi : i < N) {off n : Int} (hn : n = 1 ∨ n = 4 ∨ n = 8) (h0 : 0 ≤ off) (h1 : off + n ≤ sz i) (hs : sz i ≤ 4194304) (x : HV) :
    Calls Try.prog 18 #[.pointer (some ⟨p, 0, none⟩), .agg #[.int .i64 (i + 1 : Int), .int .i64 off, .int .i64 0, .int .i64 (sz i)], .int .i64 n, x.val] w fun e w' =>
      e = .returned (.int .i64 (if dead = some i then 20 else 0)) ∧ Loc T w0 w w' ∧ (0 < off → GS T w0 w' p N M sz V dead (c + 1)) ∧ (off = 0 → i = M → x = V i → GS T w0 w' p N (M + 1) sz V dead (c + 1)) := by
  obtain ⟨l, f, m, g1, g2, h3⟩ := h
  refine (law_store g2 (i + 1) off 0 (sz i) n x (by omega) (by omega) (by omega) (by omega) (by omega) (by omega) (by omega)).mono ?_
  rintro e w' ⟨rfl, h4, h5⟩
  rw [at_here h3 hi hn h0 h1] at h4 ⊢
  refine ⟨rfl, h5, ?_⟩
  by_cases hd : dead = some i
  · rw [if_pos hd, if_neg (by decide), if_neg (by decide)] at h4
    refine ⟨fun _ => ⟨l, f, _, by omega, h4, h3⟩, fun _ he _ => ⟨l, f, _, by omega, h4, ⟨h3.len, h3.at_, fun j hj hjd => ?_⟩⟩⟩
    by_cases hjM : j = M
    · subst hjM; subst he; exact absurd hd hjd
    · exact h3.val j (by omega) hjd
  · rw [if_neg hd, if_pos rfl, if_pos rfl] at h4
    have hg : ∀ (M' : Nat), (∀ j : Nat, j < M' → dead ≠ some j → (if (plKey ((j : Int) + 1) 0).sameKey (plKey (i + 1) off) = true then some x else f (plKey ((j : Int) + 1) 0)) = some (V j)) →
        GList (setAt l (i + 1) fun y => { y with used := true }) (fun kl => if kl.sameKey (plKey (i + 1) off) then some x else f kl) N M' sz V dead := by
      intro M' hv
      refine ⟨by simp [setAt, h3.len], fun j hj => ?_, fun j hj hjd => ?_⟩
      · unfold setAt
        rw [blockOf_modify l (i + 1) _ (by omega) (by rw [h3.len]; omega)]
        by_cases hji : (j : Int) + 1 = i + 1
        · rw [if_pos hji]
          have : j = i := by omega
          subst this
          exact h3.at_ j hj
        · rw [if_neg hji]; exact h3.at_ j hj
      · exact hv j hj hjd
    refine ⟨fun ho => ⟨_, _, _, by omega, h4, hg M fun j hj hjd => ?_⟩, fun ho he hx => ⟨_, _, _, by omega, h4, hg (M + 1) fun j hj hjd => ?_⟩⟩
    · rw [if_neg (plKey_ne (wfi _ (by omega) (by omega)) (wfi _ (by omega) (by omega)) (wfi _ (by omega) (by omega)) (wfi _ (by omega) (by omega)) (by omega))]
      exact h3.val j hj hjd
    · subst ho
      by_cases hji : j = i
      · subst hji
        rw [if_pos (plKey_self (wfi _ (by omega) (by omega)) (wfi _ (by omega) (by omega))), hx]
      · rw [if_neg (plKey_ne (wfi _ (by omega) (by omega)) (wfi _ (by omega) (by omega)) (wfi _ (by omega) (by omega)) (wfi _ (by omega) (by omega)) (by omega))]
        exact h3.val j (by omega) hjd

theorem GList.ended (h3 : GList l f N M sz V none) {k : Nat} (hk : k < N) (hN : N < 1000) (hM : M ≤ N) : GList (setAt l ((k : Int) + 1) fun y => { y with live := false, used := false }) (struck f (k + 1)) N M sz V (some k) := by
  refine ⟨by simp [setAt, h3.len], fun j hj => ?_, fun j hj hjd => ?_⟩
  · unfold setAt
    rw [blockOf_modify l (k + 1) _ (by omega) (by rw [h3.len]; omega)]
    have h := h3.at_ j hj
    by_cases hji : (j : Int) + 1 = k + 1
    · rw [if_pos hji]
      have : j = k := by omega
      subst this
      exact ⟨h.1, h.2.1, by simp⟩
    · rw [if_neg hji]
      refine ⟨h.1, h.2.1, h.2.2.trans ?_⟩
      have : k ≠ j := by omega
      simp [this]
  · unfold struck
    have hkj : (j : Int) + 1 ≠ k + 1 := fun e => hjd (by rw [show j = k by omega])
    rw [inBlock_key _ _ _ (wfi _ (by omega) (by omega)) (wfi _ (by omega) (by omega)) (wfi _ (by omega) (by omega)), if_neg (by simpa using hkj)]
    exact h3.val j hj (by simp)
theorem gs_end (h : GS T w0 w p N M sz V none c) (hN : N < 1000) (hM : M ≤ N) {k : Nat} (hk : k < N) :
    Calls Try.prog 22 #[.pointer (some ⟨p, 0, none⟩), .int .i64 (k + 1 : Int)] w fun e w' => e = .returned (.int .i64 0) ∧ Loc T w0 w w' ∧ GS T w0 w' p N M sz V (some k) c := by
  obtain ⟨l, f, m, g1, g2, h3⟩ := h
  refine (law_end g2 (k + 1) (by omega) (by omega)).mono ?_
  rintro e w' ⟨rfl, h4, h5⟩
  have hg : goneOf l (k + 1) = 0 := by
    unfold goneOf
    rw [if_neg (by rw [h3.len]; omega), if_neg (by rw [h3.live hk]; simp)]
  rw [hg, if_pos rfl, if_pos rfl] at h4
  rw [hg]
  exact ⟨rfl, h5, _, _, m, g1, h4, h3.ended hk hN hM⟩
theorem gs_free (h : GS T w0 w p N M sz V none c) (hN : N < 1000) (hM : M ≤ N) {k : Nat} (hk : k < N) :
    Calls Try.prog 21 #[.pointer (some ⟨p, 0, none⟩), .agg #[.int .i64 (k + 1 : Int), .int .i64 0, .int .i64 0, .int .i64 (sz k)]] w fun e w' => e = .returned (.int .i64 0) ∧ Loc T w0 w w' ∧ GS T w0 w' p N M sz V (some k) c := by
  obtain ⟨l, f, m, g1, g2, h3⟩ := h
  refine (law_free g2 (k + 1) 0 0 (sz k) (by omega) (by omega)).mono ?_
  rintro e w' ⟨rfl, h4, h5⟩
  have hg : freeOf l (k + 1) 0 0 (sz k) = 0 := by
    have ha := h3.at_ k hk
    unfold freeOf
    rw [if_neg (by omega), if_neg (by rw [h3.live hk]; simp), if_neg]
    rw [ha.1, ha.2.1]; simp
  rw [hg, if_pos rfl, if_pos rfl] at h4
  rw [hg]
  exact ⟨rfl, h5, _, _, m, g1, h4, h3.ended hk hN hM⟩
theorem gs_live_dead {k : Nat} (h : GS T w0 w p N M sz V (some k) c) (hk : k < N) : Calls Try.prog 20 #[.pointer (some ⟨p, 0, none⟩), .int .i64 (k + 1 : Int)] w fun e w' => e = .returned (.bool false) ∧ w = w' := by
  obtain ⟨l, f, m, g1, g2, h3⟩ := h
  refine (law_live g2 (k + 1)).mono ?_
  rintro e w' ⟨rfl, rfl⟩
  rw [h3.live hk]; exact ⟨by simp, rfl⟩
theorem gs_free_dead {k : Nat} (h : GS T w0 w p N M sz V (some k) c) (hN : N < 1000) (hk : k < N) (hi : Int) :
    Calls Try.prog 21 #[.pointer (some ⟨p, 0, none⟩), .agg #[.int .i64 (k + 1 : Int), .int .i64 0, .int .i64 0, .int .i64 hi]] w fun e w' => e = .returned (.int .i64 20) ∧ Loc T w0 w w' ∧ GS T w0 w' p N M sz V (some k) c := by
  obtain ⟨l, f, m, g1, g2, h3⟩ := h
  refine (law_free g2 (k + 1) 0 0 hi (by omega) (by omega)).mono ?_
  rintro e w' ⟨rfl, h4, h5⟩
  have hg : freeOf l (k + 1) 0 0 hi = 20 := by
    unfold freeOf
    rw [if_neg (by omega), if_pos (by rw [h3.live hk]; simp)]
  rw [hg, if_neg (by decide), if_neg (by decide)] at h4
  rw [hg]
  exact ⟨rfl, h5, _, _, m, g1, h4, h3⟩
theorem gone_dead {k : Nat} (h3 : GList l f N M sz V (some k)) (hk : k < N) : goneOf l (k + 1) = 20 := by
  unfold goneOf
  rw [if_neg (by rw [h3.len]; omega), if_pos (by rw [h3.live hk]; simp)]
theorem gs_end_dead {k : Nat} (h : GS T w0 w p N M sz V (some k) c) (hN : N < 1000) (hk : k < N) :
    Calls Try.prog 22 #[.pointer (some ⟨p, 0, none⟩), .int .i64 (k + 1 : Int)] w fun e w' => e = .returned (.int .i64 20) ∧ Loc T w0 w w' ∧ GS T w0 w' p N M sz V (some k) c := by
  obtain ⟨l, f, m, g1, g2, h3⟩ := h
  refine (law_end g2 (k + 1) (by omega) (by omega)).mono ?_
  rintro e w' ⟨rfl, h4, h5⟩
  rw [gone_dead h3 hk, if_neg (by decide), if_neg (by decide)] at h4
  rw [gone_dead h3 hk]
  exact ⟨rfl, h5, _, _, m, g1, h4, h3⟩
theorem gs_clear_dead {k : Nat} (h : GS T w0 w p N M sz V (some k) c) (hN : N < 1000) (hk : k < N) :
    Calls Try.prog 19 #[.pointer (some ⟨p, 0, none⟩), .int .i64 (k + 1 : Int)] w fun e w' => e = .returned (.int .i64 20) ∧ Loc T w0 w w' ∧ GS T w0 w' p N M sz V (some k) c := by
  obtain ⟨l, f, m, g1, g2, h3⟩ := h
  refine (law_clear g2 (k + 1) (by omega) (by omega)).mono ?_
  rintro e w' ⟨rfl, h4, h5⟩
  rw [gone_dead h3 hk, if_neg (by decide), if_neg (by decide)] at h4
  rw [gone_dead h3 hk]
  exact ⟨rfl, h5, _, _, m, g1, h4, h3⟩
theorem gs_load (h : GS T w0 w p N M sz V dead c) (hN : N < 1000) (hM : M ≤ N) {i : Nat} (hi : i < M) (h1 : 8 ≤ sz i) (hs : sz i ≤ 4194304) :
    Calls Try.prog 17 #[.pointer (some ⟨p, 0, none⟩), .agg #[.int .i64 (i + 1 : Int), .int .i64 0, .int .i64 0, .int .i64 (sz i)], .int .i64 8] w fun e w' =>
      e = .returned (.tuple #[(if dead = some i then HV.zero else V i).val, .int .i64 (if dead = some i then 20 else 0)]) ∧ GS T w0 w' p N M sz V dead c ∧ Step (fun _ => False) w w' := by
  obtain ⟨l, f, m, g1, g2, h3⟩ := h
  refine (law_load g2 (i + 1) 0 0 (sz i) 8 (by omega) (by omega) (by omega) (by omega) (by omega) (by omega)).mono ?_
  rintro e w' ⟨rfl, h4, h5⟩
  rw [at_here h3 (by omega) (by omega) (by omega) (by omega)]
  refine ⟨?_, ⟨l, f, m, g1, h4, h3⟩, h5⟩
  by_cases hd : dead = some i
  · simp [hd]
  · simp only [if_neg hd, if_true]
    unfold getOf
    rw [h3.val i hi hd]; rfl
end
end Go.Proofs.Ytjeoendenecidaa
