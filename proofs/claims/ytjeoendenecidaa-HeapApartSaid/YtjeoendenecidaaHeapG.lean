/- The document's Move and Part; the laws' example. -/
import Derived.Test.YtjeoendenecidaaHeapF
import Derived.Deep.RegionHeld3
namespace Go.Proofs.Ytjeoendenecidaa
open Go.RowKit

theorem refmove_any (b off lo hi n : Int) (w : World) : Calls Try.prog 13 #[.agg #[.int .i64 b, .int .i64 off, .int .i64 lo, .int .i64 hi], .int .i64 n] w fun e w' =>
    e = .returned (.agg #[.int .i64 b, .int .i64 (if b = 0 then off else wrap64 (off + n)), .int .i64 lo, .int .i64 hi]) ∧ Step (fun _ => False) w w' := by
  by_cases hb : b = 0
  · have hb1 : (b != 0) = false := by rw [hb]; rfl
    rw [if_pos hb]
    clear hb
    go_enter Try.func13, Try.ntmps13
    go_wp2
    refine bodyPost_ret (v := .agg #[.int .i64 b, .int .i64 off, .int .i64 lo, .int .i64 hi]) (by simp [results, Try.results13, go_sem]) rfl ⟨rfl, ?_⟩
    exact ((Step.refl _ w).al _).al _
  · have hb1 : (b != 0) = true := bne_iff_ne.2 hb
    rw [if_neg hb]
    go_enter Try.func13, Try.ntmps13
    go_wp2
    refine bodyPost_ret (v := .agg #[.int .i64 b, .int .i64 (wrap64 (off + n)), .int .i64 lo, .int .i64 hi]) (by simp [results, Try.results13, go_sem]) rfl ⟨rfl, ?_⟩
    exact ((Step.refl _ w).al _).al _

theorem refpart_any (b off lo hi n m : Int) (w : World) : Calls Try.prog 14 #[.agg #[.int .i64 b, .int .i64 off, .int .i64 lo, .int .i64 hi], .int .i64 n, .int .i64 m] w fun e w' =>
    e = .returned (if b = 0 then .agg #[.int .i64 b, .int .i64 off, .int .i64 lo, .int .i64 hi] else
      .agg #[.int .i64 b, .int .i64 (wrap64 (off + n)), .int .i64 (max lo (wrap64 (off + n))), .int .i64 (min hi (wrap64 (wrap64 (off + n) + m)))]) ∧ Step (fun _ => False) w w' := by
  by_cases hb : b = 0
  · have hb1 : (b != 0) = false := by rw [hb]; rfl
    rw [if_pos hb]
    clear hb
    go_enter Try.func14, Try.ntmps14
    go_wp2
    refine bodyPost_ret (v := .agg #[.int .i64 b, .int .i64 off, .int .i64 lo, .int .i64 hi]) (by simp [results, Try.results14, go_sem]) rfl ⟨rfl, ?_⟩
    exact ((Step.refl _ w).al _).al _
  · have hb1 : (b != 0) = true := bne_iff_ne.2 hb
    rw [if_neg hb]
    go_enter Try.func14, Try.ntmps14
    go_wp2
    all_goals
      (first | rw [show max lo (wrap64 (off + n)) = wrap64 (off + n) from by omega] | rw [show max lo (wrap64 (off + n)) = lo from by omega])
      (first | rw [show min hi (wrap64 (wrap64 (off + n) + m)) = wrap64 (wrap64 (off + n) + m) from by omega] | rw [show min hi (wrap64 (wrap64 (off + n) + m)) = hi from by omega])
      exact bodyPost_ret (by simp [results, Try.results14, go_sem]) rfl ⟨rfl, ((Step.refl _ w).al _).al _⟩

theorem step_some {w w' : World} (s : Step (fun _ => False) w w') {a : Addr} {v : Value} (h : w.cell? a = some v) : w'.cell? a = some v := by
  rw [s.cell (World.block_lt_of_cell? w a h) (fun x => x)]; exact h
theorem step_undrew {F : Nat → Prop} {w w' : World} (s : Step F w.drew w') : Step F w w' := ⟨s.os, s.tape, s.output, s.size, s.block⟩
theorem step_news4 {w w' : World} {v0 v1 v2 v3 : Value} {T : TypeId} (s : Step (fun _ => False) (w.alloc (.cells #[v0, v1, v2, v3] T)) w') :
    (w'.cell? ⟨w.heap.size, 0, none⟩ = some v0 ∧ w'.cell? ⟨w.heap.size, 1, none⟩ = some v1 ∧ w'.cell? ⟨w.heap.size, 2, none⟩ = some v2 ∧ w'.cell? ⟨w.heap.size, 3, none⟩ = some v3 ∧ w'.frozen? ⟨w.heap.size, 0, none⟩ = false ∧ w'.frozen? ⟨w.heap.size, 1, none⟩ = false ∧ w'.frozen? ⟨w.heap.size, 2, none⟩ = false ∧ w'.frozen? ⟨w.heap.size, 3, none⟩ = false) ∧ w.heap.size < w'.heap.size := by
  have h := (s.block w.heap.size (by simp) (fun x => x)).trans (heap_alloc_new w _)
  exact ⟨cells_known4 h, lt_known h⟩
theorem step_news44 {w w' : World} {v0 v1 v2 v3 : Value} {T : TypeId} {u0 u1 u2 u3 : Value} {U : TypeId} (s : Step (fun _ => False) ((w.alloc (.cells #[v0, v1, v2, v3] T)).alloc (.cells #[u0, u1, u2, u3] U)) w') :
    (w'.cell? ⟨w.heap.size, 0, none⟩ = some v0 ∧ w'.cell? ⟨w.heap.size, 1, none⟩ = some v1 ∧ w'.cell? ⟨w.heap.size, 2, none⟩ = some v2 ∧ w'.cell? ⟨w.heap.size, 3, none⟩ = some v3 ∧ w'.frozen? ⟨w.heap.size, 0, none⟩ = false ∧ w'.frozen? ⟨w.heap.size, 1, none⟩ = false ∧ w'.frozen? ⟨w.heap.size, 2, none⟩ = false ∧ w'.frozen? ⟨w.heap.size, 3, none⟩ = false) ∧
    (w'.cell? ⟨w.heap.size + 1, 0, none⟩ = some u0 ∧ w'.cell? ⟨w.heap.size + 1, 1, none⟩ = some u1 ∧ w'.cell? ⟨w.heap.size + 1, 2, none⟩ = some u2 ∧ w'.cell? ⟨w.heap.size + 1, 3, none⟩ = some u3 ∧ w'.frozen? ⟨w.heap.size + 1, 0, none⟩ = false ∧ w'.frozen? ⟨w.heap.size + 1, 1, none⟩ = false ∧ w'.frozen? ⟨w.heap.size + 1, 2, none⟩ = false ∧ w'.frozen? ⟨w.heap.size + 1, 3, none⟩ = false) ∧ w.heap.size < w'.heap.size ∧ w.heap.size + 1 < w'.heap.size := by
  have h2 := step_news4 s
  rw [show (w.alloc (.cells #[v0, v1, v2, v3] T)).heap.size = w.heap.size + 1 from by simp] at h2
  have s1 := (Step.alloc (fun _ => False) (w.alloc (.cells #[v0, v1, v2, v3] T)) (.cells #[u0, u1, u2, u3] U)).trans s (fun _ x => .inl x)
  exact ⟨(step_news4 s1).1, h2.1, (step_news4 s1).2, h2.2⟩
theorem step_keep4 {w w' : World} {b : Nat} {v0 v1 v2 v3 : Value} (s : Step (fun _ => False) w w') (h : (w.cell? ⟨b, 0, none⟩ = some v0 ∧ w.cell? ⟨b, 1, none⟩ = some v1 ∧ w.cell? ⟨b, 2, none⟩ = some v2 ∧ w.cell? ⟨b, 3, none⟩ = some v3 ∧ w.frozen? ⟨b, 0, none⟩ = false ∧ w.frozen? ⟨b, 1, none⟩ = false ∧ w.frozen? ⟨b, 2, none⟩ = false ∧ w.frozen? ⟨b, 3, none⟩ = false) ∧ b < w.heap.size) :
    (w'.cell? ⟨b, 0, none⟩ = some v0 ∧ w'.cell? ⟨b, 1, none⟩ = some v1 ∧ w'.cell? ⟨b, 2, none⟩ = some v2 ∧ w'.cell? ⟨b, 3, none⟩ = some v3 ∧ w'.frozen? ⟨b, 0, none⟩ = false ∧ w'.frozen? ⟨b, 1, none⟩ = false ∧ w'.frozen? ⟨b, 2, none⟩ = false ∧ w'.frozen? ⟨b, 3, none⟩ = false) ∧ b < w'.heap.size := by
  obtain ⟨⟨h0, h1, h2, h3, g0, g1, g2, g3⟩, hl⟩ := h
  exact ⟨⟨step_some s h0, step_some s h1, step_some s h2, step_some s h3, (s.frozen hl fun x => x).trans g0, (s.frozen hl fun x => x).trans g1, (s.frozen hl fun x => x).trans g2, (s.frozen hl fun x => x).trans g3⟩, Nat.lt_of_lt_of_le hl s.size⟩
theorem step_after {w w' : World} {o : Obj} (s : Step (fun _ => False) (w.alloc o) w') : Step (fun _ => False) w w' := (Step.alloc _ _ _).trans s (fun _ x => .inl x)
/-- nothing older than w was changed (a name of its own, so that a walk does not open it) -/
def Bel (w w' : World) : Prop := Below w.heap.size w w'
theorem bel_alloc {w w' : World} {o : Obj} (h : Bel w w') : Bel w (w'.alloc o) := (h : Below _ _ _).alloc (h : Below _ _ _).size o
theorem bel_set {w w' : World} {a : Addr} {u : Value} (h : Bel w w') (ha : w.heap.size ≤ a.block) : Bel w (w'.setCell a u) := (h : Below _ _ _).setCell ha u
theorem bel_drew {w w' : World} (h : Bel w w') : Bel w w'.drew := (h : Below _ _ _).drew
theorem bel_step {w w' w'' : World} (h : Bel w w') (s : Step (fun _ => False) w' w'') : Bel w w'' := Below.trans h (s.below (show w.heap.size ≤ w'.heap.size from (h : Below _ _ _).size) (fun _ x => x.elim))
theorem bel_size {w w' : World} (h : Bel w w') : w.heap.size ≤ w'.heap.size := (h : Below _ _ _).size
theorem new_at {w : World} {b i : Nat} {c : Array Value} {T : TypeId} {v : Value} (hb : w.heap.size = b) (hv : c[i]? = some v) : (w.alloc (.cells c T)).cell? ⟨b, i, none⟩ = some v := by
  subst hb; exact cell_known (heap_alloc_new w _) hv
theorem old_at {w : World} {o : Obj} {b i : Nat} {v : Value} (hb : b < w.heap.size) (h : w.cell? ⟨b, i, none⟩ = some v) : (w.alloc o).cell? ⟨b, i, none⟩ = some v := by
  rw [World.cell?_alloc_lt _ _ _ hb]; exact h
theorem set_away {w : World} {b c i j : Nat} {u v : Value} (h : b ≠ c ∨ i ≠ j) (hv : w.cell? ⟨c, j, none⟩ = some v) : (w.setCell ⟨b, i, none⟩ u).cell? ⟨c, j, none⟩ = some v := by
  rw [World.cell?_setCell_other w _ _ u (fun e => by rcases h with h | h; exact h (congrArg Addr.block e); exact h (congrArg Addr.off e))]; exact hv
theorem set_here {w : World} {b i : Nat} {u o : Value} (h : w.cell? ⟨b, i, none⟩ = some o) : (w.setCell ⟨b, i, none⟩ u).cell? ⟨b, i, none⟩ = some u := World.cell?_setCell_same w _ u h
abbrev pObj (b off lo hi : Int) : Obj := .cells #[.int .i64 b, .int .i64 off, .int .i64 lo, .int .i64 hi] 23
abbrev vObj (n b off lo hi : Int) : Obj := .cells #[.int .u64 n, .int .i64 b, .int .i64 off, .int .i64 lo, .int .i64 hi] 41

section
variable {T : List Nat} {w0 w w' : World} {p : Nat} {l : List HB} {f : Lit → Option HV} {m : Nat}

/-- a new variable of the law's own -/
theorem Law.made (h : Law T w0 w p l f m) (o : Obj) : ∃ t w', w.alloc o = w' ∧ w.heap.size = t ∧ Law (t :: T) w0 w' p l f m ∧ w'.heap[t]? = some o ∧ Step (fun _ => False) w w' :=
  ⟨_, _, rfl, rfl, h.al o, heap_alloc_new w o, Step.alloc _ w o⟩
theorem Law.keep (h : Law T w0 w p l f m) (s : Step (fun _ => False) w w') {t : Nat} (ht : t ∈ T) : w'.heap[t]? = w.heap[t]? := s.block t (h.loc t ht).2 (fun x => x)
theorem move_at {b off lo hi n x : Int} (hb : b ≠ 0) (hx : wrap64 (off + n) = x) (w : World) : Calls Try.prog 11 #[.agg #[.int .i64 b, .int .i64 off, .int .i64 lo, .int .i64 hi], .int .i64 n] w fun e w' =>
    e = .returned (.agg #[.int .i64 b, .int .i64 x, .int .i64 lo, .int .i64 hi]) ∧ Step (fun _ => False) w w' := by
  refine (move_any b off lo hi n w).mono ?_
  rintro e w' ⟨rfl, s⟩
  rw [if_neg hb, hx]
  exact ⟨rfl, s⟩
theorem law_load_ok (h : Law T w0 w p l f m) {b off lo hi n : Int} {v : Value} (hz : atOf l b off lo hi n = 0) (hv : (getOf f b off).val = v) (b0 : -9223372036854775808 ≤ b) (b1 : b ≤ 9223372036854775807) (o0 : -9223372036854775808 ≤ off) (o1 : off ≤ 9223372036854775807) (i0 : -9223372036854775808 ≤ hi) (i1 : hi ≤ 9223372036854775807) :
    Calls Try.prog 17 #[.pointer (some ⟨p, 0, none⟩), .agg #[.int .i64 b, .int .i64 off, .int .i64 lo, .int .i64 hi], .int .i64 n] w fun e w' =>
      e = .returned (.tuple #[v, .int .i64 0]) ∧ Law T w0 w' p l f m ∧ Step (fun _ => False) w w' := by
  refine (law_load h b off lo hi n b0 b1 o0 o1 i0 i1).mono ?_
  rintro e w' ⟨rfl, h⟩
  rw [if_pos hz, hv, hz]
  exact ⟨rfl, h⟩
theorem law_load_no (h : Law T w0 w p l f m) {b off lo hi n c : Int} (hz : atOf l b off lo hi n = c) (hc : c ≠ 0) (b0 : -9223372036854775808 ≤ b) (b1 : b ≤ 9223372036854775807) (o0 : -9223372036854775808 ≤ off) (o1 : off ≤ 9223372036854775807) (i0 : -9223372036854775808 ≤ hi) (i1 : hi ≤ 9223372036854775807) :
    Calls Try.prog 17 #[.pointer (some ⟨p, 0, none⟩), .agg #[.int .i64 b, .int .i64 off, .int .i64 lo, .int .i64 hi], .int .i64 n] w fun e w' =>
      e = .returned (.tuple #[.agg #[.int .u64 0, .int .i64 0, .int .i64 0, .int .i64 0, .int .i64 0], .int .i64 c]) ∧ Law T w0 w' p l f m ∧ Step (fun _ => False) w w' := by
  subst hz
  refine (law_load h b off lo hi n b0 b1 o0 o1 i0 i1).mono ?_
  rintro e w' ⟨rfl, h⟩
  rw [if_neg hc]
  exact ⟨rfl, h⟩
end

/-- a pointer moved, parted: its three numbers -/
def mvOff (b off n : Int) : Int := if b = 0 then off else wrap64 (off + n)
def ptLo (b off lo n : Int) : Int := if b = 0 then lo else max lo (wrap64 (off + n))
def ptHi (b off hi n m : Int) : Int := if b = 0 then hi else min hi (wrap64 (wrap64 (off + n) + m))
theorem pt_agg (b off lo hi n m : Int) : (if b = 0 then Value.agg #[.int .i64 b, .int .i64 off, .int .i64 lo, .int .i64 hi] else
      .agg #[.int .i64 b, .int .i64 (wrap64 (off + n)), .int .i64 (max lo (wrap64 (off + n))), .int .i64 (min hi (wrap64 (wrap64 (off + n) + m)))]) = .agg #[.int .i64 b, .int .i64 (mvOff b off n), .int .i64 (ptLo b off lo n), .int .i64 (ptHi b off hi n m)] := by
  by_cases hb : b = 0
  · simp [hb, mvOff, ptLo, ptHi]
  · simp [hb, mvOff, ptLo, ptHi]
theorem move_val (b off lo hi n : Int) (w : World) : Calls Try.prog 11 #[.agg #[.int .i64 b, .int .i64 off, .int .i64 lo, .int .i64 hi], .int .i64 n] w fun e w' =>
    e = .returned (.agg #[.int .i64 b, .int .i64 (mvOff b off n), .int .i64 lo, .int .i64 hi]) ∧ Step (fun _ => False) w w' := move_any b off lo hi n w
theorem refmove_val (b off lo hi n : Int) (w : World) : Calls Try.prog 13 #[.agg #[.int .i64 b, .int .i64 off, .int .i64 lo, .int .i64 hi], .int .i64 n] w fun e w' =>
    e = .returned (.agg #[.int .i64 b, .int .i64 (mvOff b off n), .int .i64 lo, .int .i64 hi]) ∧ Step (fun _ => False) w w' := refmove_any b off lo hi n w
theorem part_val (b off lo hi n m : Int) (w : World) : Calls Try.prog 12 #[.agg #[.int .i64 b, .int .i64 off, .int .i64 lo, .int .i64 hi], .int .i64 n, .int .i64 m] w fun e w' =>
    e = .returned (.agg #[.int .i64 b, .int .i64 (mvOff b off n), .int .i64 (ptLo b off lo n), .int .i64 (ptHi b off hi n m)]) ∧ Step (fun _ => False) w w' := by
  rw [← pt_agg]; exact part_any b off lo hi n m w
theorem refpart_val (b off lo hi n m : Int) (w : World) : Calls Try.prog 14 #[.agg #[.int .i64 b, .int .i64 off, .int .i64 lo, .int .i64 hi], .int .i64 n, .int .i64 m] w fun e w' =>
    e = .returned (.agg #[.int .i64 b, .int .i64 (mvOff b off n), .int .i64 (ptLo b off lo n), .int .i64 (ptHi b off hi n m)]) ∧ Step (fun _ => False) w w' := by
  rw [← pt_agg]; exact refpart_any b off lo hi n m w

set_option maxHeartbeats 4000000 in
theorem awake_any (w : World) : Calls Try.prog 10 #[] w fun e w' => e = .returned (.bool true) ∧ Step (fun _ => False) w w' := by
  go_enter Try.func10, Try.ntmps10
  go_wp2_with fail
  refine (law_new _).mono ?_; rintro e w1 ⟨p, rfl, h1⟩
  have H1 := Lib.hid h1
  clear h1
  go_wp2_with fail
  refine (law_make H1.out 8 true (by decide) (by decide) (by decide)).mono ?_; rintro e w2 ⟨rfl, h2, _⟩
  have H2 := Lib.hid h2
  clear h2 H1
  go_wp2_with fail
  obtain ⟨t, w3, e1, e2, h3, k3, _⟩ := H2.out.made (pObj 1 0 0 8)
  rw [e1]
  refine (move_at (x := 4) (by decide) (by decide +kernel) _).mono ?_; rintro e w4 ⟨rfl, s4⟩
  have k4 := (h3.keep s4 (by simp)).trans k3
  have H4 := Lib.hid (h3.still s4)
  clear h3
  rw [e2]
  have st := (H4.out.loc t (by simp)).1
  clear e1 e2 H2
  go_wp2_with fail
  refine (law_load_ok H4.out (v := .agg #[.int .u64 0, .int .i64 0, .int .i64 0, .int .i64 0, .int .i64 0]) (by decide) rfl (by decide) (by decide) (by decide) (by decide) (by decide) (by decide)).mono ?_; rintro e w5 ⟨rfl, h5, s5⟩
  have k5 := (H4.out.keep s5 (by simp)).trans k4
  have H5 := Lib.hid h5
  clear h5 H4 k4
  obtain ⟨c0, c1, c2, c3, _⟩ := cells_known4 k5
  have lt := (H5.out.loc t (by simp)).2
  have K5 := Lib.hid k5
  clear k5
  go_wp2_with fail
  obtain ⟨u, w6, e1, e2, h6, k6, s6⟩ := H5.out.made (vObj 0 0 0 0 0)
  rw [e1]
  refine (move_at (x := 5) (by decide) (by decide +kernel) _).mono ?_; rintro e w7 ⟨rfl, s7⟩
  have k7 := ((h6.keep s7 (by simp)).trans ((H5.out.keep s6 (by simp)))).trans K5.out
  have H7 := Lib.hid (h6.still s7).drop
  clear h6 c0 c1 c2 c3 H5 K5 e1 e2 lt
  go_wp2_with fail
  refine (law_load_no H7.out (c := 21) (by decide) (by decide) (by decide) (by decide) (by decide) (by decide) (by decide) (by decide)).mono ?_; rintro e w8 ⟨rfl, h8, s8⟩
  have k8 := (H7.out.keep s8 (by simp)).trans k7
  have H8 := Lib.hid h8
  clear h8 H7 k7
  obtain ⟨c0, c1, c2, c3, _⟩ := cells_known4 k8
  have lt := (H8.out.loc t (by simp)).2
  have K8 := Lib.hid k8
  clear k8
  go_wp2_with fail
  go_ret
  exact ⟨rfl, (H8.out.step.al _).mono fun b hb x => by omega⟩
end Go.Proofs.Ytjeoendenecidaa
