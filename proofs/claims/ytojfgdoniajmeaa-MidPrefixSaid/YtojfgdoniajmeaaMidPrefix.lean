/- MidPrefix returns true for every unit, every input and every two fuels, without conditions. -/
import Derived.Test.YtojfgdoniajmeaaRows
import Derived.Lib.SmallJoins
import Derived.Test.YtojfgdoniajmeaaMPureC
import Derived.Test.YtojfgdoniajmeaaMLawC
import Derived.Test.YtojfgdoniajmeaaUniB
import Derived.Test.YtojfgdoniajmeaaLibF
import Derived.Test.YtojfgdoniajmeaaLibK
import Derived.Lib.MinMax
namespace Go.Proofs.Ytojfgdoniajmeaa.midPrefix
open Go.ChangeShapes Go.WideShapes Go.ChangeAt Go.RowKit Go.Joins
set_option linter.unusedVariables false
set_option linter.unusedSimpArgs false

theorem own : ownKnob Try.prog.godebug = none := by kernel_rfl

theorem laidOut : laidOutB Try.prog = true := by kernel_rfl
/-- a result, whose bytes stand in memory -/
def IsRes (w : World) (r : RunR) (y : Value) (w' : World) : Prop := ∃ p c, y = resV r (.slice p r.out.length c) ∧ RowAt w' (fun b => w.heap.size ≤ b) 5 1 (.slice p r.out.length c) r.out.length (r.out.map (Value.int .u8))
theorem IsRes.stable {w : World} {r : RunR} {y : Value} {w1 w2 : World} (h : Step (fun _ => False) w1 w2) (k : IsRes w r y w1) : IsRes w r y w2 := by
  obtain ⟨p, c, e, h1⟩ := k
  exact ⟨p, c, e, h1.same fun b _ hlt => h.block b hlt fun x => x⟩
theorem IsRes.of {w w1 : World} {r : RunR} {vo : Value} (hz : w.heap.size ≤ w1.heap.size) {w2 : World} (h : RowAt w2 (fun b => w1.heap.size ≤ b) 5 1 vo r.out.length (r.out.map (Value.int .u8))) : IsRes w r (resV r vo) w2 := by
  obtain ⟨p, c, rfl⟩ := h.slice
  exact ⟨p, c, rfl, h.mono fun b hb => Nat.le_trans hz hb⟩
/-- a row stays, where blocks of other types change -/
theorem row_off {w w' : World} {F : Nat → Prop} {e : TypeId} {size n : Nat} {v : Value} {xs : List Value} (h : RowAt w F e size v n xs) (s : ∀ (b : Nat) (cur : Array Value), w.heap[b]? = some (Obj.cells cur e (0, 0)) → w'.heap[b]? = w.heap[b]?) : RowAt w' F e size v n xs := by
  obtain ⟨hl, h0 | ⟨g, cap, cur, e1, hF, hg, h1⟩⟩ := h
  · exact ⟨hl, .inl h0⟩
  · exact ⟨hl, .inr ⟨g, cap, cur, e1, hF, (s g cur hg).trans hg, h1⟩⟩
theorem few_unit {ts : List Tp} {fs : List FFn} (h : FewOk ts fs) (hn : ∀ f ∈ fs, f.name.size ≤ maxLen ∧ ∀ i ∈ f.code, InsWf i) : UnitOk ts fs := by
  obtain ⟨h1, h2, h3⟩ := h
  refine ⟨by omega, by omega, fun f hf => ?_, fun f hf i hi => ?_⟩
  · have := h3 f hf
    exact ⟨by omega, by omega, by omega, by omega, (hn f hf).1⟩
  · have a := (h3 f hf).2.2.2.2 i hi
    have b := (hn f hf).2 i hi
    exact ⟨b.1, b.2.1, by omega, by omega, b.2.2.1⟩
theorem set6_other {w : World} {b b' : Nat} {o : Obj} (h : w.heap[b]? = some o) (hn : b ≠ b') (v0 v1 v2 v3 v4 v5 : Value) : (((((((w).setCell ⟨b', 0, none⟩ v0).setCell ⟨b', 1, none⟩ v1).setCell ⟨b', 2, none⟩ v2).setCell ⟨b', 3, none⟩ v3).setCell ⟨b', 4, none⟩ v4).setCell ⟨b', 5, none⟩ v5).heap[b]? = some o := by
  have s := ((((((Step.refl (fun c => c = b') w).set (p := ⟨b', 0, none⟩) (.inl rfl) v0).set (p := ⟨b', 1, none⟩) (.inl rfl) v1).set (p := ⟨b', 2, none⟩) (.inl rfl) v2).set (p := ⟨b', 3, none⟩) (.inl rfl) v3).set (p := ⟨b', 4, none⟩) (.inl rfl) v4).set (p := ⟨b', 5, none⟩) (.inl rfl) v5
  exact (s.block b (lt_obj h) hn).trans h
theorem step12 {F : Nat → Prop} (w : World) {b b' : Nat} (h : F b) (h' : F b') (v0 v1 v2 v3 v4 v5 u0 u1 u2 u3 u4 u5 : Value) : Step F w ((((((((((((w.setCell ⟨b, 0, none⟩ v0).setCell ⟨b, 1, none⟩ v1).setCell ⟨b, 2, none⟩ v2).setCell ⟨b, 3, none⟩ v3).setCell ⟨b, 4, none⟩ v4).setCell ⟨b, 5, none⟩ v5).setCell ⟨b', 0, none⟩ u0).setCell ⟨b', 1, none⟩ u1).setCell ⟨b', 2, none⟩ u2).setCell ⟨b', 3, none⟩ u3).setCell ⟨b', 4, none⟩ u4).setCell ⟨b', 5, none⟩ u5) :=
  ((((((((((((Step.refl _ w).set (p := ⟨b, 0, none⟩) (.inl h) v0).set (p := ⟨b, 1, none⟩) (.inl h) v1).set (p := ⟨b, 2, none⟩) (.inl h) v2).set (p := ⟨b, 3, none⟩) (.inl h) v3).set (p := ⟨b, 4, none⟩) (.inl h) v4).set (p := ⟨b, 5, none⟩) (.inl h) v5).set (p := ⟨b', 0, none⟩) (.inl h') u0).set (p := ⟨b', 1, none⟩) (.inl h') u1).set (p := ⟨b', 2, none⟩) (.inl h') u2).set (p := ⟨b', 3, none⟩) (.inl h') u3).set (p := ⟨b', 4, none⟩) (.inl h') u4).set (p := ⟨b', 5, none⟩) (.inl h') u5
theorem row_cap {w : World} {F : Nat → Prop} {e : TypeId} {size N c : Nat} {p : Option Addr} {xs : List Value} (h : RowAt w F e size (.slice p N c) N xs) : N ≤ c := by
  obtain ⟨_, ⟨e, h0⟩ | ⟨g, cap, cur, e, _, _, h1, _⟩⟩ := h
  · omega
  · cases e; exact h1
def planPre3 : Plan where
  T := [[], [0], [0, 1], [0, 1, 2], [], [4], [4, 5], [4, 5, 6], [0, 1, 2, 3], [0, 1, 2, 3, 4, 5, 6, 7, 8]]
  rd := [[], [(0, some 24)], [(1, some 25)], [(2, some 26)], [], [(4, some 28)], [(5, some 29)], [(6, some 30)], [(3, some 27)]]
  all := [(8, some 7), (7, some 31), (6, some 30), (5, some 29), (4, some 28), (3, some 27), (2, some 26), (1, some 25), (0, some 24)]
  calm := [true, true, true, true, true, true, true, true, true]
  hard := []
  fresh := [false, false, false, false, false, false, false, false, false]

def planPre4 : Plan where
  T := [[], [], [], [], [2, 3], [0, 1, 2, 3, 4], [], [], [], [], [8, 9], [0, 1, 2, 3, 4, 5, 6, 7, 8, 9, 10], [], [], [0, 1, 2, 3, 4, 5, 6, 7, 8, 9, 10, 11, 12, 13], [0, 1, 2, 3, 4, 5, 6, 7, 8, 9, 10, 11, 12, 13, 14]]
  rd := [[], [], [], [], [(2, some 34), (3, some 35)], [(0, some 32), (1, some 33), (4, some 36)], [], [], [], [], [(8, some 40), (9, some 41)], [(6, some 38), (7, some 39), (10, some 42)], [], []]
  all := [(13, some 10), (12, some 9), (11, some 43), (10, some 42), (9, some 41), (8, some 40), (7, some 39), (6, some 38), (5, some 37), (4, some 36), (3, some 35), (2, some 34), (1, some 33), (0, some 32)]
  calm := [true, true, true, true, true, true, true, true, true, true, true, true, true, true]
  hard := []
  fresh := [false, false, false, false, false, false, false, false, false, false, false, false, true, true]

def planPre7 : Plan where
  T := [[], [0], [], [], [2, 3], [0, 1, 2, 3, 4], [0, 1, 2, 3, 4, 5], [0, 1, 2, 3, 4, 5, 6], [0, 1, 2, 3, 4, 5, 6, 7], [0, 1, 2, 3, 4, 5, 6, 7, 8], [0, 1, 2, 3, 4, 5, 6], [0, 1, 2, 3, 4, 5, 6, 10], [0, 1, 2, 3, 4, 5, 6, 10, 11], [0, 1, 2, 3, 4, 5, 6, 7, 8, 9, 10, 11, 12], [0, 1, 2, 3, 4, 5, 6, 7, 8, 9, 10, 11, 12, 13], [0, 1, 2, 3, 4, 5, 6, 7, 8, 9, 10, 11, 12, 13, 14], [0, 1, 2, 3, 4, 5, 6, 7, 8, 9, 10, 11, 12, 13, 14, 15], [0, 1, 2, 3, 4, 5, 6, 7, 8, 9, 10, 11, 12, 13, 14, 15, 16], [0, 1, 2, 3, 4, 5, 6, 7, 8, 9, 10, 11, 12, 13, 14, 15], [0, 1, 2, 3, 4, 5, 6, 7, 8, 9, 10, 11, 12, 13, 14, 15, 18], [0, 1, 2, 3, 4, 5, 6, 7, 8, 9, 10, 11, 12, 13, 14, 15, 18, 19], [0, 1, 2, 3, 4, 5, 6, 7, 8, 9, 10, 11, 12, 13, 14, 15, 16, 17, 18, 19, 20], [0, 1, 2, 3, 4, 5, 6, 7, 8, 9, 10, 11, 12, 13, 14, 15, 16, 17, 18, 19, 20, 21], [0, 1, 2, 3, 4, 5, 6, 7, 8, 9, 10, 11, 12, 13, 14, 15], [0, 1, 2, 3, 4, 5, 6, 7, 8, 9, 10, 11, 12, 13, 14, 15, 23], [0, 1, 2, 3, 4, 5, 6, 7, 8, 9, 10, 11, 12, 13, 14, 15, 23, 24], [0, 1, 2, 3, 4, 5, 6, 7, 8, 9, 10, 11, 12, 13, 14, 15, 16, 17, 18, 19, 20, 21, 22, 23, 24, 25], [0, 1, 2, 3, 4, 5, 6, 7, 8, 9, 10, 11, 12, 13, 14, 15, 16, 17, 18, 19, 20, 21, 22, 23, 24, 25, 26], [0, 1, 2, 3, 4, 5, 6, 7, 8, 9, 10, 11, 12, 13, 14, 15, 16, 17, 18, 19, 20, 21, 22, 23, 24, 25, 26, 27]]
  rd := [[], [(0, some 50)], [], [], [(2, some 52), (3, some 53)], [(1, some 51), (4, some 54)], [(5, some 55)], [(6, some 56)], [(6, some 56), (7, some 57)], [(6, some 56), (8, some 58)], [(6, some 56)], [(6, some 56), (10, some 60)], [(6, some 56), (11, some 61)], [(6, some 56), (9, some 59), (12, some 62)], [(6, some 56), (13, some 63)], [(14, some 64)], [(15, some 65)], [(15, some 65), (16, some 66)], [(15, some 65)], [(15, some 65), (18, some 68)], [(15, some 65), (19, some 69)], [(15, some 65), (17, some 67), (20, some 70)], [(15, some 65), (21, some 71)], [(15, some 65)], [(15, some 65), (23, some 73)], [(15, some 65), (24, some 74)]]
  all := [(25, some 75), (24, some 74), (23, some 73), (22, some 72), (21, some 71), (20, some 70), (19, some 69), (18, some 68), (17, some 67), (16, some 66), (15, some 65), (14, some 64), (13, some 63), (12, some 62), (11, some 61), (10, some 60), (9, some 59), (8, some 58), (7, some 57), (6, some 56), (5, some 55), (4, some 54), (3, some 53), (2, some 52), (1, some 51), (0, some 50)]
  calm := [true, true, true, true, true, true, true, true, true, true, true, true, true, true, true, true, true, true, true, true, true, true, true, true, true, true]
  hard := []
  fresh := [false, false, false, false, false, false, false, false, false, false, false, false, false, false, false, false, false, false, false, false, false, false, false, false, false, false]

set_option maxHeartbeats 4000000 in
set_option maxRecDepth 100000 in
theorem walk {vt vf vi : Value} {ts : List Tp} {fs : List FFn} {input : List Int} {a0 a1 : Int} {w : World} (ht : TopsAt w vt ts) (hf : FnsAt w vf fs) (hi : IntsAt .u8 w vi input) (hn : ∀ f ∈ fs, f.name.size ≤ maxLen ∧ ∀ i ∈ f.code, InsWf i) (h0 : 0 ≤ a0 ∧ a0 ≤ 65535) (h1 : 0 ≤ a1 ∧ a1 ≤ 65535) :
    Calls Try.prog 5 #[.agg #[vt, vf], vi, .agg #[.int .u16 a0, .int .u16 a1]] w fun e w' => e = .returned (.bool true) ∧ Below w.heap.size w w' := by
  have hti := ht
  have hfi := hf
  have hii := hi
  obtain ⟨pt, ct, rfl, ht1, ht2, _⟩ := ht
  obtain ⟨pf, cf, rfl, hf1, hf2, _⟩ := hf
  obtain ⟨⟨pi, ci, rfl, hi1, hi2, _⟩, _⟩ := hi
  have HTI := Lib.hid hti
  have HFI := Lib.hid hfi
  have HII := Lib.hid hii
  have HN := Lib.hid hn
  clear hti hfi hii hn
  have k1 := heap_alloc_new w (.cells #[.slice pt ts.length ct, .slice pf fs.length cf] 25 (0, 0))
  have s1 := Step.alloc (fun _ => False) w (.cells #[.slice pt ts.length ct, .slice pf fs.length cf] 25 (0, 0))
  generalize hw1 : w.alloc (.cells #[.slice pt ts.length ct, .slice pf fs.length cf] 25 (0, 0)) = w1 at *
  have hz1 : w1.heap.size = w.heap.size + 1 := by rw [← hw1]; simp
  have k2 := heap_alloc_new w1 (.cells #[.int .u16 a0, .int .u16 a1] 36 (0, 0))
  have s2 := Step.alloc (fun _ => False) w1 (.cells #[.int .u16 a0, .int .u16 a1] 36 (0, 0))
  replace k1 := s2.keeps k1
  replace s2 := s1.then s2
  rw [hz1] at k2
  go_enter Try.func5, Try.ntmps5
  go_wp2_with fail
  generalize w1.alloc (.cells #[.int .u16 a0, .int .u16 a1] 36 (0, 0)) = w2 at *
  have K1 := Lib.hid k1
  have K2 := Lib.hid k2
  have S2 := Lib.hid s2
  clear k1 k2 s1 s2 hw1 hz1
  refine (awake_any w2).mono ?_
  rintro e w3 ⟨rfl, s3⟩
  have S3 := Lib.hid (S2.out.then s3)
  have K13 := Lib.hid (s3.keeps K1.out)
  have K23 := Lib.hid (s3.keeps K2.out)
  obtain ⟨u0, u1, _, _⟩ := cells_known2 K13.out
  clear s3
  go_wp2_with fail
  refine (few_any (w0 := w) HTI.out HFI.out (fun b hb => S3.out.block b hb fun x => x) S3.out.size).mono ?_
  rintro e w4 ⟨lb, rfl, hlb, s4⟩
  have S4 := Lib.hid (S3.out.then s4)
  have K14 := Lib.hid (s4.keeps K13.out)
  have K24 := Lib.hid (s4.keeps K23.out)
  have HLB := Lib.hid hlb
  clear s4 hlb u0 u1
  cases hl : lb with
  | false =>
    go_wp2_with fail
    refine (awake_any _).mono ?_
    rintro e w5 ⟨rfl, s5⟩
    have S5 := Lib.hid (S4.out.then s5)
    clear s5
    go_wp2_with fail
    go_ret
    exact ⟨rfl, S5.out.below (Nat.le_refl _) fun _ x => x.elim⟩
  | true =>
    have hun := few_unit (HLB.out hl) HN.out
    have HUN := Lib.hid hun
    clear hun
    cases hbig : decide (100 < (input.length : Int)) with
    | true =>
      go_wp2_with fail
      refine (awake_any _).mono ?_
      rintro e w5 ⟨rfl, s5⟩
      have S5 := Lib.hid (S4.out.then s5)
      clear s5
      go_wp2_with fail
      go_ret
      exact ⟨rfl, S5.out.below (Nat.le_refl _) fun _ x => x.elim⟩
    | false =>
      go_upto_region 3 with fail
      have FX := Lib.hid (show ∀ y, Step (fun _ => False) w4 y → y.cell? ⟨w.heap.size + 1, 0, none⟩ = some (.int .u16 a0) ∧ y.cell? ⟨w.heap.size + 1, 1, none⟩ = some (.int .u16 a1) from fun y hy => ⟨cell_known (hy.keeps K24.out) rfl, cell_known (hy.keeps K24.out) rfl⟩)
      refine wp_region_each 9 planPre3 (fun _ _ => False) (Step (fun _ => False) w4) (fun _ => True) [Is ?v3_1_0, Is ?v3_1_1, Is ?v3_1_2, Is ?v3_1_3, Is ?v3_1_4, Is ?v3_1_5, Is ?v3_1_6, Is ?v3_1_7, Is ?v3_1_8] [] (by kernel_rfl) (by kernel_rfl) (fun _ _ h => h.elim) ((Step.refl _ _).drew) (trivial) ?stab3_1 ?stabD3_1 ?obl3_1 ?fin3_1
      case stab3_1 => exact fun w w' h => ⟨fun k => k.trans h (fun _ x => x.elim), fun _ => trivial, ⟨fun _ k => k, fun _ k => k, fun _ k => k, fun _ k => k, fun _ k => k, fun _ k => k, fun _ k => k, fun _ k => k, fun _ k => k, trivial⟩, trivial⟩
      case stabD3_1 => exact fun _ _ h => h.elim
      case obl3_1 =>
        refine ⟨?o3_1_0, ?o3_1_1, ?o3_1_2, ?o3_1_3, ?o3_1_4, ?o3_1_5, ?o3_1_6, ?o3_1_7, ?o3_1_8, trivial⟩
        all_goals intro xv wq hH hS H hU aq ha Q' hQ
        case o3_1_0 => obtain ⟨f0, f1⟩ := FX.out _ hH; cases rd0 ha; clear H hU hS; go_wp2_with fail; (try refine hQ _ _ ?_); refine ⟨Step.refl _ _, ?_, trivial, nofun⟩; exact (rfl : _ = _)
        case o3_1_1 | o3_1_2 | o3_1_3 => obtain ⟨f0, f1⟩ := FX.out _ hH; have ha := rd1 ha H (by kernel_rfl) rfl; simp only [q3, q5, q6, q7] at ha; subst ha; clear H hU hS; go_wp2_with fail; (try refine hQ _ _ ?_); refine ⟨Step.refl _ _, ?_, trivial, nofun⟩; exact (rfl : _ = _)
        case o3_1_4 => obtain ⟨f0, f1⟩ := FX.out _ hH; cases rd0 ha; clear H hU hS; go_wp2_with fail; (try refine hQ _ _ ?_); refine ⟨Step.refl _ _, ?_, trivial, nofun⟩; exact (rfl : _ = _)
        case o3_1_5 | o3_1_6 | o3_1_7 => obtain ⟨f0, f1⟩ := FX.out _ hH; have ha := rd1 ha H (by kernel_rfl) rfl; simp only [q3, q5, q6, q7] at ha; subst ha; clear H hU hS; go_wp2_with fail; (try refine hQ _ _ ?_); refine ⟨Step.refl _ _, ?_, trivial, nofun⟩; exact (rfl : _ = _)
        case o3_1_8 => have ha := rd1 ha H (by kernel_rfl) rfl; simp only [q3, q5, q6, q7] at ha; subst ha; clear H hU hS; go_wp2_with fail; (try refine hQ _ _ ?_); refine ⟨Step.refl _ _, ?_, trivial, nofun⟩; exact (rfl : _ = _)
      intro xv w5 hH hS H hU hsz hF hN
      have h0 : xv 0 = _ := H 0 (by decide) (by kernel_rfl); have h1 : xv 1 = _ := H 1 (by decide) (by kernel_rfl); have h2 : xv 2 = _ := H 2 (by decide) (by kernel_rfl); have h3 : xv 3 = _ := H 3 (by decide) (by kernel_rfl); have h4 : xv 4 = _ := H 4 (by decide) (by kernel_rfl); have h5 : xv 5 = _ := H 5 (by decide) (by kernel_rfl); have h6 : xv 6 = _ := H 6 (by decide) (by kernel_rfl); have h7 : xv 7 = _ := H 7 (by decide) (by kernel_rfl); have h8 : xv 8 = _ := H 8 (by decide) (by kernel_rfl)
      simp only [planPre3, q1, q2, q3, q5, q6, q7, q4, List.drop_succ_cons, List.drop_zero, h0, h1, h2, h3, h4, h5, h6, h7, h8]
      clear H hF hN hS hU h0 h1 h2 h3 h4 h5 h6 h7 h8
      have S5 := Lib.hid (S4.out.then hH)
      have K15 := Lib.hid (hH.keeps K14.out)
      clear hH FX K13 K23 K14 K24 S3 S2
      go_upto_region 4 with fail
      obtain ⟨A, hA⟩ : ∃ A, a0 % 1500 = A := ⟨_, rfl⟩
      obtain ⟨B, hB⟩ : ∃ B, a1 % 1500 = B := ⟨_, rfl⟩
      rw [hA, hB]
      have hA0 : 0 ≤ A := by omega
      have hA9 : A ≤ 1499 := by omega
      have hB0 : 0 ≤ B := by omega
      have hB9 : B ≤ 1499 := by omega
      clear hA hB
      have UX := Lib.hid (show ∀ y, Step (fun _ => False) w5 y → y.cell? ⟨w.heap.size, 0, none⟩ = some (.slice pt ts.length ct) ∧ y.cell? ⟨w.heap.size, 1, none⟩ = some (.slice pf fs.length cf) from fun y hy => ⟨cell_known (hy.keeps K15.out) rfl, cell_known (hy.keeps K15.out) rfl⟩)
      have RUN := Lib.hid (show ∀ (fuel : Int) (y : World), fuel ≤ 100000 → Step (fun _ => False) w5 y → _ from fun fuel y hfu (hy : Step (fun _ => False) w5 y) => Run_any (w := y) (fuel := fuel) (topsAt_step HTI.out (S5.out.then hy)) (fnsAt_step HFI.out (S5.out.then hy)) (HII.out.step (S5.out.then hy) fun _ x => x.elim) HUN.out hfu)
      obtain ⟨r1, hr1⟩ : ∃ r, runUM ts fs input (min A B) = r := ⟨_, rfl⟩
      obtain ⟨r2, hr2⟩ : ∃ r, runUM ts fs input (max A B) = r := ⟨_, rfl⟩
      have R1 := Lib.hid (show ∀ y, Step (fun _ => False) w5 y → _ from fun y hy => RUN.out (min A B) y (by omega) hy)
      have R2 := Lib.hid (show ∀ y, Step (fun _ => False) w5 y → _ from fun y hy => RUN.out (max A B) y (by omega) hy)
      have LAW := Lib.hid (runUM_more ts fs input (a := min A B) (b := max A B) (by omega) (by omega))
      rw [hr1] at R1 LAW
      rw [hr2] at R2 LAW
      clear RUN hr1 hr2
      refine wp_region_each 14 planPre4 (fun _ _ => False) (Step (fun _ => False) w5) (fun _ => True) [Is ?v4_2_0, Is ?v4_2_1, Is ?v4_2_2, Is ?v4_2_3, Is ?v4_2_4, IsRes w5 r1, Is ?v4_2_6, Is ?v4_2_7, Is ?v4_2_8, Is ?v4_2_9, Is ?v4_2_10, IsRes w5 r2, IsNew w5 (.cells #[.int .i64 0, .int .u8 0, .int .i64 0, .slice none 0 0, .int .i64 0, .int .i64 0] 31 (0, 0)), IsNew w5 (.cells #[.int .i64 0, .int .u8 0, .int .i64 0, .slice none 0 0, .int .i64 0, .int .i64 0] 31 (0, 0))] [] (by kernel_rfl) (by kernel_rfl) (fun _ _ h => h.elim) ((Step.refl _ _).drew) (trivial) ?stab4_2 ?stabD4_2 ?obl4_2 ?fin4_2
      case stab4_2 => exact fun w w' h => ⟨fun k => k.trans h (fun _ x => x.elim), fun _ => trivial, ⟨fun _ k => k, fun _ k => k, fun _ k => k, fun _ k => k, fun _ k => k, fun _ k => IsRes.stable h k, fun _ k => k, fun _ k => k, fun _ k => k, fun _ k => k, fun _ k => k, fun _ k => IsRes.stable h k, fun _ k => IsNew.stable h k, fun _ k => IsNew.stable h k, trivial⟩, trivial⟩
      case stabD4_2 => exact fun _ _ h => h.elim
      case obl4_2 =>
        refine ⟨?o4_2_0, ?o4_2_1, ?o4_2_2, ?o4_2_3, ?o4_2_4, ?o4_2_5, ?o4_2_6, ?o4_2_7, ?o4_2_8, ?o4_2_9, ?o4_2_10, ?o4_2_11, ?o4_2_12, ?o4_2_13, trivial⟩
        all_goals intro xv wq hH hS H hU aq ha Q' hQ
        case o4_2_0 => obtain ⟨u0, u1⟩ := UX.out _ hH; cases rd0 ha; clear H hU hS; go_wp2_with fail; (try refine hQ _ _ ?_); refine ⟨Step.refl _ _, ?_, trivial, nofun⟩; exact (rfl : _ = _)
        case o4_2_1 | o4_2_2 | o4_2_3 => cases rd0 ha; clear H hU hS; go_wp2_with fail; (try refine hQ _ _ ?_); refine ⟨Step.refl _ _, ?_, trivial, nofun⟩; exact (rfl : _ = _)
        case o4_2_4 => obtain ⟨u0, u1⟩ := UX.out _ hH; have ha := rd2 ha H (by kernel_rfl) (by kernel_rfl) rfl rfl; simp only [q3, q5, q6, q7] at ha; subst ha; clear H hU hS; go_wp2_with fail; (try refine hQ _ _ ?_); refine ⟨Step.refl _ _, ?_, trivial, nofun⟩; exact (rfl : _ = _)
        case o4_2_5 => obtain ⟨u0, u1⟩ := UX.out _ hH; have h0 : xv 0 = _ := H 0 (by kernel_rfl); have h1 : xv 1 = _ := H 1 (by kernel_rfl); have h4 : xv 4 = _ := H 4 (by kernel_rfl); change aq = puts _ xv [(0, some 32), (1, some 33), (4, some 36)] at ha; simp only [q1, q2, q3, q5, q6, q7, h0, h1, h4] at ha; subst ha; clear H h0 h1 h4; clear hU hS; go_wp2_with fail; refine (R1.out _ hH).mono ?_; rintro e w4 ⟨vo, rfl, r, s⟩; go_wp2_with fail; all_goals (try refine hQ _ _ ?_); all_goals refine ⟨s, ?_, trivial, nofun⟩; all_goals exact IsRes.of hH.size r
        case o4_2_6 => obtain ⟨u0, u1⟩ := UX.out _ hH; cases rd0 ha; clear H hU hS; go_wp2_with fail; (try refine hQ _ _ ?_); refine ⟨Step.refl _ _, ?_, trivial, nofun⟩; exact (rfl : _ = _)
        case o4_2_7 | o4_2_8 | o4_2_9 => cases rd0 ha; clear H hU hS; go_wp2_with fail; (try refine hQ _ _ ?_); refine ⟨Step.refl _ _, ?_, trivial, nofun⟩; exact (rfl : _ = _)
        case o4_2_10 => obtain ⟨u0, u1⟩ := UX.out _ hH; have ha := rd2 ha H (by kernel_rfl) (by kernel_rfl) rfl rfl; simp only [q3, q5, q6, q7] at ha; subst ha; clear H hU hS; go_wp2_with fail; (try refine hQ _ _ ?_); refine ⟨Step.refl _ _, ?_, trivial, nofun⟩; exact (rfl : _ = _)
        case o4_2_11 => obtain ⟨u0, u1⟩ := UX.out _ hH; have h6 : xv 6 = _ := H 6 (by kernel_rfl); have h7 : xv 7 = _ := H 7 (by kernel_rfl); have h10 : xv 10 = _ := H 10 (by kernel_rfl); change aq = puts _ xv [(6, some 38), (7, some 39), (10, some 42)] at ha; simp only [q1, q2, q3, q5, q6, q7, h6, h7, h10] at ha; subst ha; clear H h6 h7 h10; clear hU hS; go_wp2_with fail; refine (R2.out _ hH).mono ?_; rintro e w4 ⟨vo, rfl, r, s⟩; go_wp2_with fail; all_goals (try refine hQ _ _ ?_); all_goals refine ⟨s, ?_, trivial, nofun⟩; all_goals exact IsRes.of hH.size r
        case o4_2_12 => obtain ⟨u0, u1⟩ := UX.out _ hH; change aq = puts _ xv [] at ha; simp only [q1] at ha; subst ha; clear H ; clear hU hS; go_wp2_with fail; (try refine hQ _ _ ?_); refine ⟨Step.alloc _ _ _, ?_, trivial, fun _ => ⟨_, rfl, Nat.le_refl _, by simp⟩⟩; exact ⟨_, rfl, hH.size, heap_alloc_new _ _⟩
        case o4_2_13 => obtain ⟨u0, u1⟩ := UX.out _ hH; change aq = puts _ xv [] at ha; simp only [q1] at ha; subst ha; clear H ; clear hU hS; go_wp2_with fail; (try refine hQ _ _ ?_); refine ⟨Step.alloc _ _ _, ?_, trivial, fun _ => ⟨_, rfl, Nat.le_refl _, by simp⟩⟩; exact ⟨_, rfl, hH.size, heap_alloc_new _ _⟩
      intro xv w6 hH hS H hU hsz hF hN
      have h0 : xv 0 = _ := H 0 (by decide) (by kernel_rfl); have h1 : xv 1 = _ := H 1 (by decide) (by kernel_rfl); have h2 : xv 2 = _ := H 2 (by decide) (by kernel_rfl); have h3 : xv 3 = _ := H 3 (by decide) (by kernel_rfl); have h4 : xv 4 = _ := H 4 (by decide) (by kernel_rfl); obtain ⟨p5, c5, h5, g5⟩ : (IsRes w5 r1) (xv 5) w6 := H 5 (by decide) (by kernel_rfl); have h6 : xv 6 = _ := H 6 (by decide) (by kernel_rfl); have h7 : xv 7 = _ := H 7 (by decide) (by kernel_rfl); have h8 : xv 8 = _ := H 8 (by decide) (by kernel_rfl); have h9 : xv 9 = _ := H 9 (by decide) (by kernel_rfl); have h10 : xv 10 = _ := H 10 (by decide) (by kernel_rfl); obtain ⟨p11, c11, h11, g11⟩ : (IsRes w5 r2) (xv 11) w6 := H 11 (by decide) (by kernel_rfl); obtain ⟨b12, h12, l12, k12⟩ : (IsNew w5 (.cells #[.int .i64 0, .int .u8 0, .int .i64 0, .slice none 0 0, .int .i64 0, .int .i64 0] 31 (0, 0))) (xv 12) w6 := H 12 (by decide) (by kernel_rfl); obtain ⟨b13, h13, l13, k13⟩ : (IsNew w5 (.cells #[.int .i64 0, .int .u8 0, .int .i64 0, .slice none 0 0, .int .i64 0, .int .i64 0] 31 (0, 0))) (xv 13) w6 := H 13 (by decide) (by kernel_rfl)
      have n12_13 : b12 ≠ b13 := by have h := hN 12 (by decide) 13 (by decide) (by decide) rfl rfl; rw [h12, h13] at h; exact fun e => h (by rw [e])
      simp only [planPre4, q1, q2, q3, q5, q6, q7, q4, List.drop_succ_cons, List.drop_zero, h0, h1, h2, h3, h4, h5, h6, h7, h8, h9, h10, h11, h12, h13]
      clear H hF hN hS hU h0 h1 h2 h3 h4 h5 h6 h7 h8 h9 h10 h11 h12 h13
      have S6 := Lib.hid (S5.out.then hH)
      have FR := Lib.hid (show (∀ i, w6.frozen? ⟨b12, i, none⟩ = false) ∧ (∀ i, w6.frozen? ⟨b13, i, none⟩ = false) from ⟨fun i => free_known k12 i, fun i => free_known k13 i⟩)
      obtain ⟨ca0, ca1, ca2, ca3, ca4, ca5⟩ := cells_known6 k12
      obtain ⟨cb0, cb1, cb2, cb3, cb4, cb5⟩ := cells_known6 k13
      have f0 := FR.out.1 0
      have f1 := FR.out.1 1
      have f2 := FR.out.1 2
      have f3 := FR.out.1 3
      have f4 := FR.out.1 4
      have f5 := FR.out.1 5
      have e0 := FR.out.2 0
      have e1 := FR.out.2 1
      have e2 := FR.out.2 2
      have e3 := FR.out.2 3
      have e4 := FR.out.2 4
      have e5 := FR.out.2 5
      obtain ⟨w7, hw7⟩ : ∃ w7, w7 = ((((((((((((w6.setCell ⟨b12, 0, none⟩ (.int .i64 r1.state)).setCell ⟨b12, 1, none⟩ (.int .u8 r1.code)).setCell ⟨b12, 2, none⟩ (.int .i64 r1.why)).setCell ⟨b12, 3, none⟩ (.slice p5 r1.out.length c5)).setCell ⟨b12, 4, none⟩ (.int .i64 r1.steps)).setCell ⟨b12, 5, none⟩ (.int .i64 0)).setCell ⟨b13, 0, none⟩ (.int .i64 r2.state)).setCell ⟨b13, 1, none⟩ (.int .u8 r2.code)).setCell ⟨b13, 2, none⟩ (.int .i64 r2.why)).setCell ⟨b13, 3, none⟩ (.slice p11 r2.out.length c11)).setCell ⟨b13, 4, none⟩ (.int .i64 r2.steps)).setCell ⟨b13, 5, none⟩ (.int .i64 0)) := ⟨_, rfl⟩
      have X12 := Lib.hid (show w7.heap[b12]? = _ from by subst hw7; exact set6_other (set6_known k12 (.int .i64 r1.state) (.int .u8 r1.code) (.int .i64 r1.why) (.slice p5 r1.out.length c5) (.int .i64 r1.steps) (.int .i64 0)) n12_13 _ _ _ _ _ _)
      have X13 := Lib.hid (show w7.heap[b13]? = _ from by subst hw7; exact set6_known (set6_other k13 (fun e => n12_13 e.symm) (.int .i64 r1.state) (.int .u8 r1.code) (.int .i64 r1.why) (.slice p5 r1.out.length c5) (.int .i64 r1.steps) (.int .i64 0)) (.int .i64 r2.state) (.int .u8 r2.code) (.int .i64 r2.why) (.slice p11 r2.out.length c11) (.int .i64 r2.steps) (.int .i64 0))
      have SB : Step (fun c => c = b12 ∨ c = b13) w6 w7 := by rw [hw7]; exact step12 _ (.inl rfl) (.inr rfl) _ _ _ _ _ _ _ _ _ _ _ _
      have ROFF : ∀ (b : Nat) (cur : Array Value), w6.heap[b]? = some (Obj.cells cur 5 (0, 0)) → w7.heap[b]? = w6.heap[b]? := fun b cur hb => SB.block b (lt_obj hb) (fun h => by
        rcases h with rfl | rfl
        · rw [k12] at hb; cases hb
        · rw [k13] at hb; cases hb)
      have G1 := Lib.hid (row_off g5 ROFF)
      have G2 := Lib.hid (row_off g11 ROFF)
      have S7 := Lib.hid (S6.out.trans SB fun b hb => .inr (by have := S5.out.size; rcases hb with rfl | rfl <;> omega))
      have HW7 := Lib.hid hw7.symm
      clear hw7 SB ROFF g5 g11 k12 k13 hH S6 UX R1 R2
      unfold resV
      go_upto_region 5 with fail
      rw [HW7.out]
      clear f0 f1 f2 f3 f4 f5 e0 e1 e2 e3 e4 e5 HW7 FR ca0 ca1 ca2 ca3 ca4 ca5 cb0 cb1 cb2 cb3 cb4 cb5
      have d0 := cell_known X12.out (i := 0) rfl
      have d1 := cell_known X12.out (i := 1) rfl
      have d2 := cell_known X12.out (i := 2) rfl
      have d3 := cell_known X12.out (i := 3) rfl
      have d4 := cell_known X12.out (i := 4) rfl
      have d5 := cell_known X12.out (i := 5) rfl
      have z0 := cell_known X13.out (i := 0) rfl
      have z1 := cell_known X13.out (i := 1) rfl
      have z2 := cell_known X13.out (i := 2) rfl
      have z3 := cell_known X13.out (i := 3) rfl
      have z4 := cell_known X13.out (i := 4) rfl
      have z5 := cell_known X13.out (i := 5) rfl
      cases hst : (r1.state != 0) with
      | true =>
        have he : r2 = r1 := LAW.out.1 (by simpa using hst)
        subst he
        go_wp2_with fail
        refine (same_any G1.out G2.out).mono ?_
        rintro e w8 ⟨rfl, s8⟩
        have S8 := Lib.hid (S7.out.then s8)
        clear s8
        go_wp2_with fail
        go_ret
        exact ⟨rfl, S8.out.below (Nat.le_refl _) fun _ x => x.elim⟩
      | false =>
        obtain ⟨hsteps, rest, hrest⟩ := LAW.out.2 (by simpa using hst)
        rw [hsteps] at d4
        have hlen : r1.out.length ≤ r2.out.length := by rw [hrest, List.length_append]; omega
        have hk : r2.out.take r1.out.length = r1.out := by rw [hrest]; exact List.take_left' rfl
        have hd : decide ((r1.out.length : Int) ≤ r2.out.length) = true := decide_eq_true (by omega)
        have hd2 : decide (r1.out.length ≤ r2.out.length) = true := decide_eq_true hlen
        have CV1 := Lib.hid (show ∀ y, Step (fun _ => False) w7 y → (convert 28 9 (.slice p5 r1.out.length c5)).run Try.prog y = .ok (.string (strOfNums r1.out)) y from fun y hy => by have := conv_row (G1.out.same (w' := y) fun b _ hlt => hy.block b hlt fun x => x) (Nat.le_refl _); rwa [List.take_length] at this)
        have CV2 := Lib.hid (show ∀ y, Step (fun _ => False) w7 y → (convert 28 9 (.slice p11 r1.out.length c11)).run Try.prog y = .ok (.string (strOfNums r1.out)) y from fun y hy => by have := conv_row (G2.out.same (w' := y) fun b _ hlt => hy.block b hlt fun x => x) hlen; rwa [hk] at this)
        have DX := Lib.hid (show ∀ y, Step (fun _ => False) w7 y → y.cell? ⟨b12, 3, none⟩ = some (.slice p5 r1.out.length c5) ∧ y.cell? ⟨b12, 4, none⟩ = some (.int .i64 (min A B)) ∧ y.cell? ⟨b13, 3, none⟩ = some (.slice p11 r2.out.length c11) from fun y hy => ⟨cell_known (hy.keeps X12.out) rfl, hsteps ▸ (show y.cell? ⟨b12, 4, none⟩ = some (.int .i64 r1.steps) from cell_known (hy.keeps X12.out) rfl), cell_known (hy.keeps X13.out) rfl⟩)
        have HLEN := Lib.hid hlen
        have hcap : r1.out.length ≤ c11 := Nat.le_trans hlen (row_cap G2.out)
        clear hrest hsteps hk hlen LAW
        go_upto_region 7 with fail
        clear d0 d1 d2 d3 d4 d5 z0 z1 z2 z3 z4 z5
        refine wp_region_each 26 planPre7 (fun _ _ => False) (Step (fun _ => False) w7) (fun _ => True) [Is ?v7_3_0, Is ?v7_3_1, Is ?v7_3_2, Is ?v7_3_3, Is ?v7_3_4, Is ?v7_3_5, Is ?v7_3_6, Is ?v7_3_7, Is ?v7_3_8, Is ?v7_3_9, Is ?v7_3_10, Is ?v7_3_11, Is ?v7_3_12, Is ?v7_3_13, Is ?v7_3_14, Is ?v7_3_15, Is ?v7_3_16, Is ?v7_3_17, Is ?v7_3_18, Is ?v7_3_19, Is ?v7_3_20, Is ?v7_3_21, Is ?v7_3_22, Is ?v7_3_23, Is ?v7_3_24, Is ?v7_3_25] [] (by kernel_rfl) (by kernel_rfl) (fun _ _ h => h.elim) ((Step.refl _ _).drew) (trivial) ?stab7_3 ?stabD7_3 ?obl7_3 ?fin7_3
        case stab7_3 => exact fun w w' h => ⟨fun k => k.trans h (fun _ x => x.elim), fun _ => trivial, ⟨fun _ k => k, fun _ k => k, fun _ k => k, fun _ k => k, fun _ k => k, fun _ k => k, fun _ k => k, fun _ k => k, fun _ k => k, fun _ k => k, fun _ k => k, fun _ k => k, fun _ k => k, fun _ k => k, fun _ k => k, fun _ k => k, fun _ k => k, fun _ k => k, fun _ k => k, fun _ k => k, fun _ k => k, fun _ k => k, fun _ k => k, fun _ k => k, fun _ k => k, fun _ k => k, trivial⟩, trivial⟩
        case stabD7_3 => exact fun _ _ h => h.elim
        case obl7_3 =>
          refine ⟨?o7_3_0, ?o7_3_1, ?o7_3_2, ?o7_3_3, ?o7_3_4, ?o7_3_5, ?o7_3_6, ?o7_3_7, ?o7_3_8, ?o7_3_9, ?o7_3_10, ?o7_3_11, ?o7_3_12, ?o7_3_13, ?o7_3_14, ?o7_3_15, ?o7_3_16, ?o7_3_17, ?o7_3_18, ?o7_3_19, ?o7_3_20, ?o7_3_21, ?o7_3_22, ?o7_3_23, ?o7_3_24, ?o7_3_25, trivial⟩
          all_goals intro xv wq hH hS H hU aq ha Q' hQ
          case o7_3_0 => cases rd0 ha; clear H hU hS; go_wp2_with fail; (try refine hQ _ _ ?_); refine ⟨Step.refl _ _, ?_, trivial, nofun⟩; exact (rfl : _ = _)
          case o7_3_1 => obtain ⟨d3, d4, z3⟩ := DX.out _ hH; have ha := rd1 ha H (by kernel_rfl) rfl; simp only [q3, q5, q6, q7] at ha; subst ha; clear H hU hS; go_wp2_with fail; (try refine hQ _ _ ?_); refine ⟨Step.refl _ _, ?_, trivial, nofun⟩; exact (rfl : _ = _)
          case o7_3_2 | o7_3_3 => cases rd0 ha; clear H hU hS; go_wp2_with fail; (try refine hQ _ _ ?_); refine ⟨Step.refl _ _, ?_, trivial, nofun⟩; exact (rfl : _ = _)
          case o7_3_4 | o7_3_5 => obtain ⟨d3, d4, z3⟩ := DX.out _ hH; have ha := rd2 ha H (by kernel_rfl) (by kernel_rfl) rfl rfl; simp only [q3, q5, q6, q7] at ha; subst ha; clear H hU hS; go_wp2_with fail; (try refine hQ _ _ ?_); refine ⟨Step.refl _ _, ?_, trivial, nofun⟩; exact (rfl : _ = _)
          case o7_3_6 => have ha := rd1 ha H (by kernel_rfl) rfl; simp only [q3, q5, q6, q7] at ha; subst ha; clear H hU hS; go_wp2_with fail; (try refine hQ _ _ ?_); refine ⟨Step.refl _ _, ?_, trivial, nofun⟩; exact (rfl : _ = _)
          case o7_3_7 => obtain ⟨d3, d4, z3⟩ := DX.out _ hH; have ha := rd1 ha H (by kernel_rfl) rfl; simp only [q3, q5, q6, q7] at ha; subst ha; clear H hU hS; go_wp2_with fail; (try refine hQ _ _ ?_); refine ⟨Step.refl _ _, ?_, trivial, nofun⟩; exact (rfl : _ = _)
          case o7_3_8 | o7_3_9 => obtain ⟨d3, d4, z3⟩ := DX.out _ hH; have ha := rd2 ha H (by kernel_rfl) (by kernel_rfl) rfl rfl; simp only [q3, q5, q6, q7] at ha; subst ha; clear H hU hS; go_wp2_with fail; (try refine hQ _ _ ?_); refine ⟨Step.refl _ _, ?_, trivial, nofun⟩; exact (rfl : _ = _)
          case o7_3_10 => obtain ⟨d3, d4, z3⟩ := DX.out _ hH; have ha := rd1 ha H (by kernel_rfl) rfl; simp only [q3, q5, q6, q7] at ha; subst ha; clear H hU hS; go_wp2_with fail; (try refine hQ _ _ ?_); refine ⟨Step.refl _ _, ?_, trivial, nofun⟩; exact (rfl : _ = _)
          case o7_3_11 | o7_3_12 => obtain ⟨d3, d4, z3⟩ := DX.out _ hH; have ha := rd2 ha H (by kernel_rfl) (by kernel_rfl) rfl rfl; simp only [q3, q5, q6, q7] at ha; subst ha; clear H hU hS; go_wp2_with fail; (try refine hQ _ _ ?_); refine ⟨Step.refl _ _, ?_, trivial, nofun⟩; exact (rfl : _ = _)
          case o7_3_13 => obtain ⟨d3, d4, z3⟩ := DX.out _ hH; have h6 : xv 6 = _ := H 6 (by kernel_rfl); have h9 : xv 9 = _ := H 9 (by kernel_rfl); have h12 : xv 12 = _ := H 12 (by kernel_rfl); change aq = puts _ xv [(6, some 56), (9, some 59), (12, some 62)] at ha; simp only [q1, q2, q3, q5, q6, q7, h6, h9, h12] at ha; subst ha; clear H h6 h9 h12; clear hU hS; go_wp2_with fail; (try refine hQ _ _ ?_); refine ⟨Step.refl _ _, ?_, trivial, nofun⟩; exact (rfl : _ = _)
          case o7_3_14 => have ha := rd2 ha H (by kernel_rfl) (by kernel_rfl) rfl rfl; simp only [q3, q5, q6, q7] at ha; subst ha; clear H hU hS; go_wp2_with fail; (try refine hQ _ _ ?_); refine ⟨Step.refl _ _, ?_, trivial, nofun⟩; exact (rfl : _ = _)
          case o7_3_15 => have ha := rd1 ha H (by kernel_rfl) rfl; simp only [q3, q5, q6, q7] at ha; subst ha; clear H hU hS; go_wp2_with fail; (try refine hQ _ _ ?_); refine ⟨Step.refl _ _, ?_, trivial, nofun⟩; exact (rfl : _ = _)
          case o7_3_16 => obtain ⟨d3, d4, z3⟩ := DX.out _ hH; have ha := rd1 ha H (by kernel_rfl) rfl; simp only [q3, q5, q6, q7] at ha; subst ha; clear H hU hS; go_wp2_with fail; (try refine hQ _ _ ?_); refine ⟨Step.refl _ _, ?_, trivial, nofun⟩; exact (rfl : _ = _)
          case o7_3_17 => obtain ⟨d3, d4, z3⟩ := DX.out _ hH; have ha := rd2 ha H (by kernel_rfl) (by kernel_rfl) rfl rfl; simp only [q3, q5, q6, q7] at ha; subst ha; clear H hU hS; go_wp2_with fail; (try refine hQ _ _ ?_); refine ⟨Step.refl _ _, ?_, trivial, nofun⟩; exact (rfl : _ = _)
          case o7_3_18 => obtain ⟨d3, d4, z3⟩ := DX.out _ hH; have ha := rd1 ha H (by kernel_rfl) rfl; simp only [q3, q5, q6, q7] at ha; subst ha; clear H hU hS; go_wp2_with fail; (try refine hQ _ _ ?_); refine ⟨Step.refl _ _, ?_, trivial, nofun⟩; exact (rfl : _ = _)
          case o7_3_19 | o7_3_20 => obtain ⟨d3, d4, z3⟩ := DX.out _ hH; have ha := rd2 ha H (by kernel_rfl) (by kernel_rfl) rfl rfl; simp only [q3, q5, q6, q7] at ha; subst ha; clear H hU hS; go_wp2_with fail; (try refine hQ _ _ ?_); refine ⟨Step.refl _ _, ?_, trivial, nofun⟩; exact (rfl : _ = _)
          case o7_3_21 => obtain ⟨d3, d4, z3⟩ := DX.out _ hH; have h15 : xv 15 = _ := H 15 (by kernel_rfl); have h17 : xv 17 = _ := H 17 (by kernel_rfl); have h20 : xv 20 = _ := H 20 (by kernel_rfl); change aq = puts _ xv [(15, some 65), (17, some 67), (20, some 70)] at ha; simp only [q1, q2, q3, q5, q6, q7, h15, h17, h20] at ha; subst ha; clear H h15 h17 h20; clear hU hS; go_wp2_with fail; (try refine hQ _ _ ?_); refine ⟨Step.refl _ _, ?_, trivial, nofun⟩; exact (rfl : _ = _)
          case o7_3_22 => obtain ⟨d3, d4, z3⟩ := DX.out _ hH; have h15 : xv 15 = _ := H 15 (by kernel_rfl); have h21 : xv 21 = _ := H 21 (by kernel_rfl); change aq = puts _ xv [(15, some 65), (21, some 71)] at ha; simp only [q1, q2, q3, q5, q6, q7, h15, h21] at ha; subst ha; clear H h15 h21; clear hU hS; have cv := CV2.out _ hH; go_wp2_with fail; (try refine hQ _ _ ?_); refine ⟨Step.refl _ _, ?_, trivial, nofun⟩; exact (rfl : _ = _)
          case o7_3_23 => obtain ⟨d3, d4, z3⟩ := DX.out _ hH; have ha := rd1 ha H (by kernel_rfl) rfl; simp only [q3, q5, q6, q7] at ha; subst ha; clear H hU hS; go_wp2_with fail; (try refine hQ _ _ ?_); refine ⟨Step.refl _ _, ?_, trivial, nofun⟩; exact (rfl : _ = _)
          case o7_3_24 => obtain ⟨d3, d4, z3⟩ := DX.out _ hH; have ha := rd2 ha H (by kernel_rfl) (by kernel_rfl) rfl rfl; simp only [q3, q5, q6, q7] at ha; subst ha; clear H hU hS; go_wp2_with fail; (try refine hQ _ _ ?_); refine ⟨Step.refl _ _, ?_, trivial, nofun⟩; exact (rfl : _ = _)
          case o7_3_25 => obtain ⟨d3, d4, z3⟩ := DX.out _ hH; have h15 : xv 15 = _ := H 15 (by kernel_rfl); have h24 : xv 24 = _ := H 24 (by kernel_rfl); change aq = puts _ xv [(15, some 65), (24, some 74)] at ha; simp only [q1, q2, q3, q5, q6, q7, h15, h24] at ha; subst ha; clear H h15 h24; clear hU hS; have cv := CV1.out _ hH; go_wp2_with fail; (try refine hQ _ _ ?_); refine ⟨Step.refl _ _, ?_, trivial, nofun⟩; exact (rfl : _ = _)
        intro xv w8 hH hS H hU hsz hF hN
        have h0 : xv 0 = _ := H 0 (by decide) (by kernel_rfl); have h1 : xv 1 = _ := H 1 (by decide) (by kernel_rfl); have h2 : xv 2 = _ := H 2 (by decide) (by kernel_rfl); have h3 : xv 3 = _ := H 3 (by decide) (by kernel_rfl); have h4 : xv 4 = _ := H 4 (by decide) (by kernel_rfl); have h5 : xv 5 = _ := H 5 (by decide) (by kernel_rfl); have h6 : xv 6 = _ := H 6 (by decide) (by kernel_rfl); have h7 : xv 7 = _ := H 7 (by decide) (by kernel_rfl); have h8 : xv 8 = _ := H 8 (by decide) (by kernel_rfl); have h9 : xv 9 = _ := H 9 (by decide) (by kernel_rfl); have h10 : xv 10 = _ := H 10 (by decide) (by kernel_rfl); have h11 : xv 11 = _ := H 11 (by decide) (by kernel_rfl); have h12 : xv 12 = _ := H 12 (by decide) (by kernel_rfl); have h13 : xv 13 = _ := H 13 (by decide) (by kernel_rfl); have h14 : xv 14 = _ := H 14 (by decide) (by kernel_rfl); have h15 : xv 15 = _ := H 15 (by decide) (by kernel_rfl); have h16 : xv 16 = _ := H 16 (by decide) (by kernel_rfl); have h17 : xv 17 = _ := H 17 (by decide) (by kernel_rfl); have h18 : xv 18 = _ := H 18 (by decide) (by kernel_rfl); have h19 : xv 19 = _ := H 19 (by decide) (by kernel_rfl); have h20 : xv 20 = _ := H 20 (by decide) (by kernel_rfl); have h21 : xv 21 = _ := H 21 (by decide) (by kernel_rfl); have h22 : xv 22 = _ := H 22 (by decide) (by kernel_rfl); have h23 : xv 23 = _ := H 23 (by decide) (by kernel_rfl); have h24 : xv 24 = _ := H 24 (by decide) (by kernel_rfl); have h25 : xv 25 = _ := H 25 (by decide) (by kernel_rfl)
        simp only [planPre7, q1, q2, q3, q5, q6, q7, q4, List.drop_succ_cons, List.drop_zero, h0, h1, h2, h3, h4, h5, h6, h7, h8, h9, h10, h11, h12, h13, h14, h15, h16, h17, h18, h19, h20, h21, h22, h23, h24, h25]
        clear H hF hN hS hU h0 h1 h2 h3 h4 h5 h6 h7 h8 h9 h10 h11 h12 h13 h14 h15 h16 h17 h18 h19 h20 h21 h22 h23 h24 h25
        have S8 := Lib.hid (S7.out.then hH)
        clear hH
        go_wp2_with fail
        go_ret
        exact ⟨rfl, S8.out.below (Nat.le_refl _) fun _ x => x.elim⟩

/-! ### The row. -/

set_option maxRecDepth 100000 in
theorem lifted (os : Os) (started : os.Started) (H : Type) (enc : TypeId × Value → H) :
    ReturnsInHanded {} Try.checked os 5 .any (Rows.midPrefixSpec.pre6 enc Try.prog Try.f5 Rows.midPrefixRow.domain false) (Rows.midPrefixSpec.post enc Try.prog Try.f5 false true false false) := by
  refine returnsInHanded_of_change (C := Try.checked) own started (by kernel_rfl) Try.func5
    (ChangeSpec.witness6 (enc := enc) (C := Try.checked) false ⟨#[], #[.agg #[.slice none 0 0, .slice none 0 0], .slice none 0 0, .agg #[.int .u16 0, .int .u16 0]], []⟩ 8 (by kernel_rfl) (by kernel_rfl) (by kernel_rfl) (by kernel_rfl)) ?_
  intro W base args ds gs before hval0 hW hcnd _
  have hval : ∀ (j : Nat) t v, Try.f5.params[j]? = some t → args[j]? = some v → Value.okWide Try.prog W .any base t v := hval0
  have hW' := hW
  obtain ⟨p, q, hA0, hV, rfl, hfz, hnd⟩ := hW
  have hA : DataW.TrodAll enc Try.prog W 0 (fun _ => true) true Try.f5.params.toList args.toList ds p := hA0
  rw [Try.params5] at hA hval
  obtain ⟨v0, vs0, d0, ds0, p0, q0, hargs, rfl, rfl, h0, r0⟩ := trodAll_cons hA
  obtain ⟨v1, vs1, d1, ds1, p1, q1, rfl, rfl, rfl, h1, r1⟩ := trodAll_cons r0
  obtain ⟨v2, vs2, d2, ds2, p2, q2, rfl, rfl, rfl, h2, r2⟩ := trodAll_cons r1
  obtain ⟨rfl, rfl, rfl⟩ := trodAll_nil r2
  obtain rfl : args = #[v0, v1, v2] := by cases args; simp_all
  obtain ⟨rfl, rfl⟩ := trodVars_none hV
  obtain ⟨vt, vf, ts, fs, rfl, htops, hfns, hwfs⟩ := unit_in (hval 0 25 v0 rfl rfl) h0
  obtain ⟨input, hin⟩ := ints_in Try.underlying28 Try.underlying5 (by kernel_rfl) (hval 1 28 v1 rfl rfl) h1
  obtain ⟨xs, hxs, rfl, rfl, rfl, wxs⟩ := open_int_arr Try.underlying36 Try.underlying35 (by kernel_rfl) (by kernel_rfl) (hval 2 36 v2 rfl rfl) h2
  obtain ⟨z0, z1, rfl⟩ := two_of xs hxs
  clear hA0 hval0
  simp only [List.append_nil] at hW'
  refine (walk htops hfns hin hwfs (wfu16 (wxs z0 (by simp))) (wfu16 (wxs z1 (by simp)))).mono fun e W' ⟨he, hb⟩ => ?_
  subst he
  exact ⟨_, rfl, law_post laidOut (by kernel_rfl) rfl rfl rfl Try.underlying4 hW' hb⟩

theorem over : Rows.midPrefixRow.holds Try.pinned (OpenSpec.ofChange Rows.midPrefixSpec) :=
  OpenClaim.holds_of_wide 5 Try.f5 rfl rfl rfl rfl rfl rfl rfl ⟨rfl, rfl, rfl, rfl, rfl⟩ rfl rfl rfl rfl rfl (by kernel_rfl) Try.func5 (by kernel_rfl)
    (of_decide_eq_true (by kernel_rfl)) (by unfold Func.isWrapper; first | (rw [if_pos (by decide +kernel)]; kernel_rfl) | (rw [if_neg (by decide +kernel)]; exact ⟨rfl, rfl⟩))
    (fun os started H enc _ => lifted os started H enc)

/-- The statement. -/
theorem proved : Rows.MidPrefixSaid :=
  over
#print axioms proved
end Go.Proofs.Ytojfgdoniajmeaa.midPrefix
