/- A law's view of the heap: its blocks are new since the law's call, and apart from the law's own variables (T); the calls, so seen; the document's Move and Part. -/
import Derived.Test.YtojfgdoniajmeaaHeapE
namespace Go.Proofs.Ytojfgdoniajmeaa
set_option linter.unusedVariables false
set_option linter.unusedSimpArgs false
set_option maxRecDepth 100000
open Go.RowKit

theorem HeapAt.le {w : World} {p : Nat} {l : List HB} {f : Lit → Option HV} {n : Nat} {F : Nat → Prop} (h : HeapAt w p l f n F) {m : Nat} (hm : n ≤ m) : HeapAt w p l f m F := by
  obtain ⟨⟨sv, mb, k1, k2, k3, k4, k5⟩, k6, k7, k8⟩ := h
  exact ⟨⟨sv, mb, k1, k2, k3.mono hm, k4, k5⟩, k6, k7, k8⟩

/-- of the blocks that a heap is told to lie in only those that are there are asked -/
theorem HeapAt.now {w : World} {p : Nat} {l : List HB} {f : Lit → Option HV} {n : Nat} {F : Nat → Prop} (h : HeapAt w p l f n F) (hl : 0 < l.length) : HeapAt w p l f n (fun b => F b ∧ b < w.heap.size) := by
  obtain ⟨⟨sv, mb, k1, k2, k3, k4, k5⟩, k6, k7, k8⟩ := h
  have hp := lt_known k1
  have hm := k3.lt
  obtain ⟨g, cap, cur, rfl, g1, hg, hc, hm', hs, ht⟩ := k2.some hl
  have hgl := lt_known hg
  refine ⟨⟨_, mb, k1, ⟨k2.1, .inr ⟨g, cap, cur, rfl, ⟨⟨g1.1, hgl⟩, g1.2⟩, hg, hc, hm', hs, ht⟩⟩, k3, ⟨k4, hm⟩, k5⟩, ⟨k6, hp⟩, k7, k8⟩

/-- what a law knows of a heap: it is one; its blocks are newer than the law's call and are none of T; nothing older was changed -/
structure Law (T : List Nat) (w0 w : World) (p : Nat) (l : List HB) (f : Lit → Option HV) (m : Nat) : Prop where
  ex : ∃ F, HeapAt w p l f m F ∧ ∀ b, F b → w0.heap.size ≤ b ∧ b < w.heap.size ∧ b ∉ T
  loc : ∀ t ∈ T, w0.heap.size ≤ t ∧ t < w.heap.size
  step : Step (fun b => w0.heap.size ≤ b) w0 w
  ne : 0 < l.length

/-- a call that changes none of the law's own variables, and nothing older -/
def Loc (T : List Nat) (w0 w w' : World) : Prop := Step (fun b => w0.heap.size ≤ b ∧ b ∉ T) w w'

section
variable {T : List Nat} {w0 w w' : World} {p : Nat} {l : List HB} {f : Lit → Option HV} {m : Nat}

theorem Law.still (h : Law T w0 w p l f m) (s : Step (fun _ => False) w w') : Law T w0 w' p l f m := by
  obtain ⟨⟨F, h1, h2⟩, h3, h4, h5⟩ := h
  have hs := s.size
  refine ⟨⟨F, h1.same fun b _ hb => s.block b hb (fun x => x), fun b hb => ⟨(h2 b hb).1, by have := (h2 b hb).2.1; omega, (h2 b hb).2.2⟩⟩, fun t ht => ⟨(h3 t ht).1, by have := (h3 t ht).2; omega⟩, h4.trans s (fun _ x => x.elim), h5⟩
theorem Law.al (h : Law T w0 w p l f m) (o : Obj) : Law (w.heap.size :: T) w0 (w.alloc o) p l f m := by
  have h' := h.still (Step.alloc _ w o)
  have hs := h.step.size
  obtain ⟨⟨F, h1, h2⟩, h3, h4, h5⟩ := h'
  obtain ⟨⟨F', g1, g2⟩, g3, g4, g5⟩ := h
  refine ⟨⟨F', g1.al o, fun b hb => ⟨(g2 b hb).1, by have := (g2 b hb).2.1; simp; omega, ?_⟩⟩, ?_, h4, h5⟩
  · intro hc
    rcases List.mem_cons.1 hc with hc | hc
    · have := (g2 b hb).2.1; omega
    · exact (g2 b hb).2.2 hc
  · intro t ht
    rcases List.mem_cons.1 ht with rfl | hc
    · exact ⟨hs, by simp⟩
    · exact h3 t hc
theorem Law.drop {t : Nat} (h : Law (t :: T) w0 w p l f m) : Law T w0 w p l f m := by
  obtain ⟨⟨F, h1, h2⟩, h3, h4, h5⟩ := h
  exact ⟨⟨F, h1, fun b hb => ⟨(h2 b hb).1, (h2 b hb).2.1, fun hc => (h2 b hb).2.2 (List.mem_cons_of_mem _ hc)⟩⟩, fun t ht => h3 t (List.mem_cons_of_mem _ ht), h4, h5⟩
theorem Law.sub {S : List Nat} (h : Law T w0 w p l f m) (e : ∀ t ∈ S, t ∈ T) : Law S w0 w p l f m := by
  obtain ⟨⟨F, h1, h2⟩, h3, h4, h5⟩ := h
  exact ⟨⟨F, h1, fun b hb => ⟨(h2 b hb).1, (h2 b hb).2.1, fun hc => (h2 b hb).2.2 (e b hc)⟩⟩, fun t ht => h3 t (e t ht), h4, h5⟩
/-- a store into a variable of the law's own -/
theorem Law.set (h : Law T w0 w p l f m) {a : Addr} (ha : a.block ∈ T) (u : Value) : Law T w0 (w.setCell a u) p l f m := by
  obtain ⟨⟨F, h1, h2⟩, h3, h4, h5⟩ := h
  have hsz : (w.setCell a u).heap.size = w.heap.size := World.size_setCell w a u
  refine ⟨⟨F, h1.same fun b hb _ => setCell_other a u (fun e => (h2 b hb).2.2 (e ▸ ha)), fun b hb => by rw [hsz]; exact h2 b hb⟩, fun t ht => by rw [hsz]; exact h3 t ht, h4.set (.inl (h3 _ ha).1) u, h5⟩
/-- blocks of the law's own are new, and may have been written -/
theorem Law.grow (h : Law T w0 w p l f m) (hb : Below w.heap.size w w') (S : List Nat) (hS : ∀ t ∈ S, w.heap.size ≤ t ∧ t < w'.heap.size) : Law (S ++ T) w0 w' p l f m := by
  obtain ⟨⟨F, h1, h2⟩, h3, h4, h5⟩ := h
  have hs := hb.size
  have hs4 := h4.size
  refine ⟨⟨F, h1.same fun b hb' _ => hb.block b (h2 b hb').2.1, fun b hb' => ⟨(h2 b hb').1, by have := (h2 b hb').2.1; omega, fun hc => ?_⟩⟩, fun t ht => ?_, ?_, h5⟩
  · rcases List.mem_append.1 hc with hc | hc
    · have := (h2 b hb').2.1; have := (hS b hc).1; omega
    · exact (h2 b hb').2.2 hc
  · rcases List.mem_append.1 ht with hc | hc
    · have := hS t hc; omega
    · have := h3 t hc; omega
  · exact ⟨hb.os.trans h4.os, hb.tape.trans h4.tape, hb.output.trans h4.output, by omega, fun b hlt hn => (hb.block b (by omega)).trans (h4.block b hlt hn)⟩
theorem Law.drewN (h : Law T w0 w p l f m) (n : Nat) : Law T w0 (w.drewN n) p l f m := by
  obtain ⟨⟨F, h1, h2⟩, h3, h4, h5⟩ := h
  exact ⟨⟨F, h1.drewN n, h2⟩, h3, h4.drewN n, h5⟩
theorem Law.le (h : Law T w0 w p l f m) {n : Nat} (hn : m ≤ n) : Law T w0 w p l f n := by
  obtain ⟨⟨F, h1, h2⟩, h3, h4, h5⟩ := h
  exact ⟨⟨F, h1.le hn, h2⟩, h3, h4, h5⟩
theorem Law.below (h : Law T w0 w p l f m) : Below w0.heap.size w0 w := h.step.below (Nat.le_refl _) fun _ x => x

theorem Loc.cell (h : Loc T w0 w w') {t : Nat} (hL : Law T w0 w p l f m) (ht : t ∈ T) : w'.heap[t]? = w.heap[t]? := h.block t (hL.loc t ht).2 (fun x => x.2 ht)
theorem Loc.old (h : Loc T w0 w w') (hL : Law T w0 w p l f m) {b : Nat} (hb : b < w0.heap.size) : w'.heap[b]? = w.heap[b]? := h.block b (Nat.lt_of_lt_of_le hb hL.step.size) (fun x => by have := x.1; omega)
theorem Loc.still (s : Step (fun _ => False) w w') : Loc T w0 w w' := s.mono fun _ _ x => x.elim
/-- what the law's call was handed stands as it stood -/
theorem Law.old (hL : Law T w0 w p l f m) {b : Nat} (hb : b < w0.heap.size) : w.heap[b]? = w0.heap[b]? := hL.step.block b hb (fun x => by omega)

/-- a call of the heap's own, seen by a law -/
theorem Law.turn {F : Nat → Prop} (h2 : ∀ b, F b → w0.heap.size ≤ b ∧ b < w.heap.size ∧ b ∉ T) (h3 : ∀ t ∈ T, w0.heap.size ≤ t ∧ t < w.heap.size) (h4 : Step (fun b => w0.heap.size ≤ b) w0 w)
    {l' : List HB} {f' : Lit → Option HV} {m' : Nat} (hl : 0 < l'.length) {G : Nat → Prop} (g2 : Step F w w') (g1 : ∀ b, G b → F b ∨ w.heap.size ≤ b) (g3 : HeapAt w' p l' f' m' G) : Law T w0 w' p l' f' m' ∧ Loc T w0 w w' := by
  have hs := g2.size
  refine ⟨⟨⟨_, g3.now hl, fun b ⟨hb, hlt⟩ => ?_⟩, fun t ht => ⟨(h3 t ht).1, by have := (h3 t ht).2; omega⟩, h4.trans g2 (fun b hb => .inl (h2 b hb).1), hl⟩, g2.mono fun b hb x => ⟨(h2 b x).1, (h2 b x).2.2⟩⟩
  rcases g1 b hb with hF | hN
  · exact ⟨(h2 b hF).1, hlt, (h2 b hF).2.2⟩
  · exact ⟨Nat.le_trans h4.size hN, hlt, fun hc => by have := (h3 b hc).2; omega⟩
end

theorem law_new (w : World) : Calls Try.prog 25 #[] w fun e w' => ∃ p, e = .returned (.pointer (some ⟨p, 0, none⟩)) ∧ Law [] w w' p [⟨0, false, false, false⟩] (fun _ => none) 0 := by
  refine (new_any w).mono ?_
  rintro e w' ⟨p, rfl, hs, hh⟩
  exact ⟨p, rfl, ⟨⟨_, hh.now (by decide), fun b hb => ⟨hb.1, hb.2, by simp⟩⟩, by simp, hs.mono fun _ _ x => x.elim, by decide⟩⟩

section
variable {T : List Nat} {w0 w : World} {p : Nat} {l : List HB} {f : Lit → Option HV} {m : Nat}

theorem law_make (h : Law T w0 w p l f m) (s : Int) (free : Bool) (h0 : 0 ≤ s) (h1 : s ≤ 4194304) (hlen : l.length < 4294967296) :
    Calls Try.prog 33 #[.pointer (some ⟨p, 0, none⟩), .int .i64 s, .bool free] w fun e w' =>
      e = .returned (.tuple #[.agg #[.int .i64 l.length, .int .i64 0, .int .i64 0, .int .i64 s], .int .i64 0]) ∧ Law T w0 w' p (l ++ [⟨s, free, true, false⟩]) f m ∧ Loc T w0 w w' := by
  obtain ⟨⟨F, hF, h2⟩, h3, h4, h5⟩ := h
  refine (make_any p s free l f m F w hF h5 hlen).mono ?_
  rintro e w' ho
  rw [if_neg (by omega)] at ho
  obtain ⟨rfl, hs, hh⟩ := ho
  exact ⟨rfl, Law.turn h2 h3 h4 (by simp) hs (fun _ x => x) hh⟩
theorem law_make_bad (h : Law T w0 w p l f m) (s : Int) (free : Bool) (h0 : s < 0 ∨ 4194304 < s) (hlen : l.length < 4294967296) :
    Calls Try.prog 33 #[.pointer (some ⟨p, 0, none⟩), .int .i64 s, .bool free] w fun e w' =>
      e = .returned (.tuple #[.agg #[.int .i64 0, .int .i64 0, .int .i64 0, .int .i64 0], .int .i64 1]) ∧ Law T w0 w' p l f m ∧ Loc T w0 w w' := by
  obtain ⟨F, hF, _⟩ := id h.ex
  refine (make_any p s free l f m F w hF h.ne hlen).mono ?_
  rintro e w' ho
  rw [if_pos h0] at ho
  obtain ⟨rfl, hs⟩ := ho
  exact ⟨rfl, h.still hs, Loc.still hs⟩
theorem law_load (h : Law T w0 w p l f m) (b off lo hi n : Int) (b0 : -9223372036854775808 ≤ b) (b1 : b ≤ 9223372036854775807) (o0 : -9223372036854775808 ≤ off) (o1 : off ≤ 9223372036854775807) (i0 : -9223372036854775808 ≤ hi) (i1 : hi ≤ 9223372036854775807) :
    Calls Try.prog 64 #[.pointer (some ⟨p, 0, none⟩), .agg #[.int .i64 b, .int .i64 off, .int .i64 lo, .int .i64 hi], .int .i64 n] w fun e w' =>
      e = .returned (.tuple #[(if atOf l b off lo hi n = 0 then getOf f b off else HV.zero).val, .int .i64 (atOf l b off lo hi n)]) ∧ Law T w0 w' p l f m ∧ Step (fun _ => False) w w' := by
  obtain ⟨F, hF, _⟩ := id h.ex
  refine (load_any p b off lo hi n l f m F w hF h.ne b0 b1 o0 o1 i0 i1).mono ?_
  rintro e w' ⟨rfl, hs⟩
  exact ⟨rfl, h.still hs, hs⟩
theorem law_store (h : Law T w0 w p l f m) (b off lo hi n : Int) (x : HV) (hm : m < 4294967296) (b0 : -9223372036854775808 ≤ b) (b1 : b ≤ 9223372036854775807) (o0 : -9223372036854775808 ≤ off) (o1 : off ≤ 9223372036854775807) (i0 : -9223372036854775808 ≤ hi) (i1 : hi ≤ 9223372036854775807) :
    Calls Try.prog 91 #[.pointer (some ⟨p, 0, none⟩), .agg #[.int .i64 b, .int .i64 off, .int .i64 lo, .int .i64 hi], .int .i64 n, x.val] w fun e w' =>
      e = .returned (.int .i64 (atOf l b off lo hi n)) ∧ Law T w0 w' p (if atOf l b off lo hi n = 0 then setAt l b fun y => { y with used := true } else l) (if atOf l b off lo hi n = 0 then fun kl => if kl.sameKey (plKey b off) then some x else f kl else f) (m + 1) ∧ Loc T w0 w w' := by
  obtain ⟨⟨F, hF, h2⟩, h3, h4, h5⟩ := id h
  refine (store_any p b off lo hi n x l f m F w hF h5 hm b0 b1 o0 o1 i0 i1).mono ?_
  rintro e w' ⟨rfl, ho⟩
  by_cases hz : atOf l b off lo hi n = 0
  · rw [if_pos hz] at ho
    rw [if_pos hz, if_pos hz]
    exact ⟨rfl, Law.turn h2 h3 h4 (by simpa [setAt] using h5) ho.1 (fun _ x => .inl x) ho.2⟩
  · rw [if_neg hz] at ho
    rw [if_neg hz, if_neg hz]
    exact ⟨rfl, (h.still ho).le (by omega), Loc.still ho⟩
theorem law_clear (h : Law T w0 w p l f m) (b : Int) (b0 : -9223372036854775808 ≤ b) (b1 : b ≤ 9223372036854775807) :
    Calls Try.prog 60 #[.pointer (some ⟨p, 0, none⟩), .int .i64 b] w fun e w' =>
      e = .returned (.int .i64 (goneOf l b)) ∧ Law T w0 w' p (if goneOf l b = 0 then setAt l b fun y => { y with used := false } else l) (if goneOf l b = 0 then struck f b else f) m ∧ Loc T w0 w w' := by
  obtain ⟨⟨F, hF, h2⟩, h3, h4, h5⟩ := id h
  refine (clear_any p b l f m F w hF h5 b0 b1).mono ?_
  rintro e w' ⟨rfl, ho⟩
  by_cases hz : goneOf l b = 0
  · rw [if_pos hz] at ho
    rw [if_pos hz, if_pos hz]
    exact ⟨rfl, Law.turn h2 h3 h4 (by simpa [setAt] using h5) ho.1 (fun _ x => .inl x) ho.2⟩
  · rw [if_neg hz] at ho
    rw [if_neg hz, if_neg hz]
    exact ⟨rfl, h.still ho, Loc.still ho⟩
theorem law_end (h : Law T w0 w p l f m) (b : Int) (b0 : -9223372036854775808 ≤ b) (b1 : b ≤ 9223372036854775807) :
    Calls Try.prog 44 #[.pointer (some ⟨p, 0, none⟩), .int .i64 b] w fun e w' =>
      e = .returned (.int .i64 (goneOf l b)) ∧ Law T w0 w' p (if goneOf l b = 0 then setAt l b fun y => { y with live := false, used := false } else l) (if goneOf l b = 0 then struck f b else f) m ∧ Loc T w0 w w' := by
  obtain ⟨⟨F, hF, h2⟩, h3, h4, h5⟩ := id h
  refine (end_any p b l f m F w hF h5 b0 b1).mono ?_
  rintro e w' ⟨rfl, ho⟩
  by_cases hz : goneOf l b = 0
  · rw [if_pos hz] at ho
    rw [if_pos hz, if_pos hz]
    exact ⟨rfl, Law.turn h2 h3 h4 (by simpa [setAt] using h5) ho.1 (fun _ x => .inl x) ho.2⟩
  · rw [if_neg hz] at ho
    rw [if_neg hz, if_neg hz]
    exact ⟨rfl, h.still ho, Loc.still ho⟩
theorem law_free (h : Law T w0 w p l f m) (b off lo hi : Int) (b0 : -9223372036854775808 ≤ b) (b1 : b ≤ 9223372036854775807) :
    Calls Try.prog 92 #[.pointer (some ⟨p, 0, none⟩), .agg #[.int .i64 b, .int .i64 off, .int .i64 lo, .int .i64 hi]] w fun e w' =>
      e = .returned (.int .i64 (freeOf l b off lo hi)) ∧ Law T w0 w' p (if freeOf l b off lo hi = 0 then setAt l b fun y => { y with live := false, used := false } else l) (if freeOf l b off lo hi = 0 then struck f b else f) m ∧ Loc T w0 w w' := by
  obtain ⟨⟨F, hF, h2⟩, h3, h4, h5⟩ := id h
  refine (free_any p b off lo hi l f m F w hF h5 b0 b1).mono ?_
  rintro e w' ⟨rfl, ho⟩
  by_cases hz : freeOf l b off lo hi = 0
  · rw [if_pos hz] at ho
    rw [if_pos hz, if_pos hz]
    exact ⟨rfl, Law.turn h2 h3 h4 (by simpa [setAt] using h5) ho.1 (fun _ x => .inl x) ho.2⟩
  · rw [if_neg hz] at ho
    rw [if_neg hz, if_neg hz]
    exact ⟨rfl, h.still ho, Loc.still ho⟩
theorem law_live (h : Law T w0 w p l f m) (b : Int) : Calls Try.prog 81 #[.pointer (some ⟨p, 0, none⟩), .int .i64 b] w fun e w' => e = .returned (.bool (liveOf l b)) ∧ w = w' := by
  obtain ⟨F, hF, _⟩ := id h.ex
  exact live_any p b l f m F w hF h.ne
end
end Go.Proofs.Ytojfgdoniajmeaa
