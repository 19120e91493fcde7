/- HeapApart returns true for every slice of pairs of bytes and every number, without conditions. -/
import Derived.Test.YtjeoendenecidaaRows
import Derived.Lib.SmallJoins
import Derived.Test.YtjeoendenecidaaHeapI
import Derived.Test.YtjeoendenecidaaLibE
import Derived.Test.YtjeoendenecidaaLibF
import Derived.Test.YtjeoendenecidaaLibK
import Derived.Test.YtjeoendenecidaaLibS
import Derived.Deep.DeepCutAuto
namespace Go.Proofs.Ytjeoendenecidaa.heapApart
open Go.ChangeShapes Go.WideShapes Go.ChangeAt Go.RowKit Go.Joins
set_option linter.unusedVariables false

theorem own : ownKnob Try.prog.godebug = none := by kernel_rfl

def planA : Plan where
  T := [[], [], [1], [1, 2], [1, 2, 3], [], [5], [5, 6], [1, 2, 3, 4, 5, 6, 7], [], [], [10], [9, 10, 11], [9, 10, 11, 12], [0, 1, 2, 3, 4, 5, 6, 7, 8, 9, 10, 11, 12, 13], [0, 1, 2, 3, 4, 5, 6, 7, 8, 9, 10, 11, 12, 13, 14]]
  rd := [[], [], [(1, some 69)], [(2, some 70)], [(3, some 71)], [], [(5, some 73)], [(6, some 74)], [(4, some 72), (7, some 75)], [], [], [(10, some 78)], [(9, some 77), (11, some 79)], [(12, some 80)]]
  all := [(13, some 81), (12, some 80), (11, some 79), (10, some 78), (9, some 77), (8, some 76), (7, some 75), (6, some 74), (5, some 73), (4, some 72), (3, some 71), (2, some 70), (1, some 69), (0, some 68)]
  calm := [true, true, true, true, true, true, true, true, true, true, true, true, true, true]
  hard := []
  fresh := [false, false, false, false, false, false, false, false, false, false, false, false, false, false]

def planL : Plan where
  T := [[], [0], [0, 1], [0, 1, 2], [0, 1, 2], [0, 1, 2], [0, 1, 2], [0, 1, 2, 5, 6], [0, 1, 2, 4, 5, 6, 7], [0, 1, 2, 4, 5, 6, 7, 8], [0, 1, 2, 3, 4, 5, 6, 7, 8, 9], [0, 1, 2, 3, 4, 5, 6, 7, 8, 9, 10]]
  rd := [[], [(0, some 102)], [(1, some 103)], [(2, some 104)], [(2, some 104)], [(2, some 104)], [(2, some 104)], [(2, some 104), (5, some 107), (6, some 108)], [(2, some 104), (4, some 106), (7, some 109)], [(2, some 104), (8, some 110)]]
  all := [(9, some 111), (8, some 110), (7, some 109), (6, some 108), (5, some 107), (4, some 106), (3, some 105), (2, some 104), (1, some 103), (0, some 102)]
  calm := [true, true, true, true, true, true, true, true, true, true]
  hard := []
  fresh := [false, false, false, false, false, false, false, false, false, false]

/-- the array of the four pointers, the first k of which are set -/
def parr (k : Nat) : Array Value := ((List.range 4).flatMap fun (j : Nat) => if j < k then [Value.int .i64 ((j : Int) + 1), .int .i64 0, .int .i64 0, .int .i64 64] else [Value.int .i64 0, .int .i64 0, .int .i64 0, .int .i64 0]).toArray
theorem parr_zero {k : Nat} (hk : k < 4) {j : Nat} (hj : j < 4) : (parr k)[k * 4 + j]? = some (.int .i64 0) := by
  match k, hk, j, hj with
  | 0, _, 0, _ | 0, _, 1, _ | 0, _, 2, _ | 0, _, 3, _ | 1, _, 0, _ | 1, _, 1, _ | 1, _, 2, _ | 1, _, 3, _ | 2, _, 0, _ | 2, _, 1, _ | 2, _, 2, _ | 2, _, 3, _ | 3, _, 0, _ | 3, _, 1, _ | 3, _, 2, _ | 3, _, 3, _ => rfl
theorem parr_set {k : Nat} (hk : k < 4) : ((((parr k).setIfInBounds (k * 4) (.int .i64 ((k : Int) + 1))).setIfInBounds (k * 4 + 1) (.int .i64 0)).setIfInBounds (k * 4 + 2) (.int .i64 0)).setIfInBounds (k * 4 + 3) (.int .i64 64) = parr (k + 1) := by
  match k, hk with
  | 0, _ | 1, _ | 2, _ | 3, _ => rfl
theorem parr_get {b : Nat} (hb : b < 4) : (parr 4)[b * 4]? = some (.int .i64 ((b : Int) + 1)) ∧ (parr 4)[b * 4 + 1]? = some (.int .i64 0) ∧ (parr 4)[b * 4 + 2]? = some (.int .i64 0) ∧ (parr 4)[b * 4 + 3]? = some (.int .i64 64) := by
  match b, hb with
  | 0, _ | 1, _ | 2, _ | 3, _ => exact ⟨rfl, rfl, rfl, rfl⟩
def AInv (w wr : World) (p t6 k : Nat) : Prop :=
  ∃ l, Law [t6] w wr p l (fun _ => none) 0 ∧ (l.length = k + 1 ∧ ∀ b : Int, 1 ≤ b → b ≤ k → liveOf l b = true) ∧ wr.heap[t6]? = some (.cells (parr k) 46 (0, 0))
theorem live_snoc {l : List HB} {k : Nat} (h : l.length = k + 1 ∧ ∀ b : Int, 1 ≤ b → b ≤ k → liveOf l b = true) (s : Int) (fr : Bool) : (l ++ [(⟨s, fr, true, false⟩ : HB)]).length = (k + 1) + 1 ∧ ∀ b : Int, 1 ≤ b → b ≤ ((k + 1 : Nat) : Int) → liveOf (l ++ [(⟨s, fr, true, false⟩ : HB)]) b = true := by
  obtain ⟨h1, h2⟩ := h
  refine ⟨by simp [h1], fun b b0 b1 => ?_⟩
  unfold liveOf
  rw [blockOf_snoc]
  by_cases e : b = l.length
  · rw [if_pos e, decide_eq_true (by omega), decide_eq_true (by simp; omega)]; rfl
  · rw [if_neg e]
    have := h2 b b0 (by omega)
    unfold liveOf at this
    simp only [Bool.and_eq_true, decide_eq_true_eq] at this
    rw [decide_eq_true (by omega), decide_eq_true (by simp; omega), this.2.2]; rfl

def WInv (w wv : World) (p t6 mb c : Nat) : Prop := ∃ g, AS [mb, t6] w wv p mb g g c ∧ wv.heap[t6]? = some (.cells (parr 4) 46 (0, 0))

set_option maxHeartbeats 4000000 in
set_option maxRecDepth 100000 in
theorem walk (v : Value) (zs : List (Int × Int)) (x : Int) (w : World) (hv : PairsAt .u8 w v zs) : Calls Try.prog 5 #[v, .int .u64 x] w fun e w' => e = .returned (.bool true) ∧ Below w.heap.size w w' := by
  obtain ⟨⟨q, cap, rfl, hcap, hmax, hcell⟩, hwf⟩ := hv
  unfold maxLen at hmax
  have HC := Lib.hid hcell
  have HW := Lib.hid hwf
  clear hcell hwf
  by_cases hlen : 40 < zs.length
  · go_enter Try.func5, Try.ntmps5
    go_wp2_with fail
    refine (law_new _).mono ?_; rintro e w1 ⟨p, rfl, h1⟩
    have H1 := Lib.hid h1
    clear h1
    go_wp2_with fail
    refine (awake_any _).mono ?_; rintro e w2 ⟨rfl, s2⟩
    have H2 := Lib.hid (H1.out.still s2)
    clear s2 H1
    go_wp2_with fail
    refine (awake_any _).mono ?_; rintro e w3 ⟨rfl, s3⟩
    have H3 := Lib.hid (H2.out.still s3)
    clear s3 H2
    go_wp2_with fail
    go_ret
    exact ⟨rfl, H3.out.below⟩
  · have hlen' : zs.length ≤ 40 := by omega
    clear hlen
    go_enter Try.func5, Try.ntmps5
    go_wp2_with fail
    refine (law_new _).mono ?_; rintro e w1 ⟨p, rfl, h1⟩
    have H1 := Lib.hid h1
    clear h1
    go_wp2_with fail
    refine (awake_any _).mono ?_; rintro e w2 ⟨rfl, s2⟩
    have H2 := Lib.hid (H1.out.still s2)
    clear s2 H1
    go_wp2_with fail
    obtain ⟨t6, w3, e1, e2, h3, k6, s3⟩ := H2.out.made (.cells #[.int .i64 0, .int .i64 0, .int .i64 0, .int .i64 0, .int .i64 0, .int .i64 0, .int .i64 0, .int .i64 0, .int .i64 0, .int .i64 0, .int .i64 0, .int .i64 0, .int .i64 0, .int .i64 0, .int .i64 0, .int .i64 0] 46)
    have INV : AInv w w3 p t6 0 := ⟨_, h3, ⟨rfl, fun b b0 b1 => by omega⟩, k6⟩
    have HI := Lib.hid INV
    rw [e1, e2]
    clear e1 e2 INV h3 k6 s3 H2
    go_loopw [7, 8, 9, 30] (fun _ _ _ i wr => ∃ k : Nat, k ≤ 4 ∧ i = .int .i64 k ∧ AInv w wr p t6 k) (fun _ _ _ i _ => 4 - (intOf i).toNat)
    case atStart => exact ⟨0, by omega, rfl, HI.out⟩
    case round =>
      obtain ⟨k, hk, rfl, hI⟩ := hrel
      clear HI
      obtain ⟨l, hL, hg, k6⟩ := hI
      by_cases hlt : k < 4
      · have dk : decide ((k : Int) < 4) = true := decide_eq_true (by omega)
        have hmk := fun fr => law_make hL 64 fr (by omega) (by omega) (by omega)
        have el : (l.length : Int) = k + 1 := by have := hg.1; omega
        rw [el] at hmk
        have HMK := Lib.hid hmk
        have HL := Lib.hid hL
        have HG := Lib.hid hg
        have K6 := Lib.hid k6
        clear hL hg k6 hmk el
        go_wp2_with fail
        refine (HMK.out _).mono ?_; rintro e w4 ⟨rfl, h4, o4⟩
        have k6 : w4.heap[t6]? = some (.cells (parr k) 46 (0, 0)) := (o4.cell HL.out (by simp)).trans K6.out
        have K6a := Lib.hid k6
        have H4 := Lib.hid h4
        clear k6 h4 o4 HMK HL K6
        go_upto_region 11 with fail
        obtain ⟨t8, w5, e1, e2, h5, k8, s5⟩ := H4.out.made (pObj (k + 1) 0 0 64)
        rw [e1, e2]
        have k6 := s5.keeps K6a.out
        have K6b := Lib.hid k6
        have q0 : w5.cell? ⟨t6, k * 4, none⟩ = _ := cell_known k6 (parr_zero hlt (j := 0) (by omega))
        have q1 := cell_known k6 (parr_zero hlt (j := 1) (by omega))
        have q2 := cell_known k6 (parr_zero hlt (j := 2) (by omega))
        have q3 := cell_known k6 (parr_zero hlt (j := 3) (by omega))
        have f0 := free_known k6 (k * 4)
        have f1 := free_known k6 (k * 4 + 1)
        have f2 := free_known k6 (k * 4 + 2)
        have f3 := free_known k6 (k * 4 + 3)
        obtain ⟨c0, c1, c2, c3, _⟩ := cells_known4 k8
        have H5 := Lib.hid h5
        clear e1 e2 h5 k8 s5 H4 K6a k6
        go_wp2_with fail
        go_roundw
        case rel =>
          refine ⟨k + 1, by omega, by go_num, _, ((((H5.out.drop.set (by simp) _).set (by simp) _).set (by simp) _).set (by simp) _), live_snoc HG.out _ _, ?_⟩
          rw [← parr_set hlt]
          exact set_known (set_known (set_known (set_known K6b.out _ _) _ _) _ _) _ _
        case measure => simp [intOf]; omega
      · have hk4 : k = 4 := by omega
        subst hk4
        have dk : decide ((4 : Int) < 4) = false := by decide
        rw [show ((4 : Nat) : Int) = 4 from rfl]
        have HL := Lib.hid hL
        have HG := Lib.hid hg
        have K6 := Lib.hid k6
        clear hL hg k6
        have hmm := @run_makeMap Try.prog
        go_wp2_with fail
        obtain ⟨mb, w6, e1, e2, h6, k6, s6⟩ := HL.out.made (.map #[] 0)
        have hnm : mb ≠ t6 := by have := (HL.out.loc t6 (by simp)).2; omega
        have INV : WInv w w6 p t6 mb 0 := ⟨fun _ _ => none, ⟨_, _, 0, 0, _, Nat.le_refl _, Nat.le_refl _, h6, by simp, by subst e1; subst e2; exact mapAt_made wr _ _, by exact HG.out, fun _ _ _ _ _ _ => rfl, fun _ _ _ _ _ _ => rfl⟩, s6.keeps K6.out⟩
        have HI := Lib.hid INV
        have HNM := Lib.hid hnm
        rw [e1, e2]
        clear e1 e2 INV h6 k6 s6 HL HG K6 hnm hmm
        go_loopw [11, 12, 50] (fun _ _ i wv => ∃ k : Nat, k ≤ zs.length ∧ i = .int .i64 k ∧ WInv w wv p t6 mb (2 * k)) (fun _ _ i _ => zs.length - (intOf i).toNat)
        case atStart => exact ⟨0, by omega, rfl, HI.out⟩
        case round =>
          clear HI dk hk hlt
          obtain ⟨k, hk, rfl, hI⟩ := hrel
          obtain ⟨g, hA, k6⟩ := hI
          by_cases hlt : k < zs.length
          · obtain ⟨a, rfl, hc0, hc1⟩ := HC.out k hlt
            have hz := HW.out _ (show zs.getD k (0, 0) ∈ zs by rw [List.getD_eq_getElem?_getD, List.getElem?_eq_getElem hlt]; exact List.getElem_mem hlt)
            have hz0 := wfu8 hz.1
            have hz1 := wfu8 hz.2
            have hw0 : wr.cell? (a.add (k * 2)) = _ := (hA.cell_old (block_lt hc0)).trans hc0
            have hw1 : wr.cell? (a.add (k * 2 + 1)) = _ := (hA.cell_old (block_lt hc1)).trans hc1
            rw [add_next] at hw1
            have dk : decide (k < zs.length) = true := decide_eq_true hlt
            have HA := Lib.hid hA
            have K6 := Lib.hid k6
            clear hc0 hc1 hz hA k6
            generalize (zs.getD k (0, 0)).1 = z at *
            generalize (zs.getD k (0, 0)).2 = y at *
            obtain ⟨z0, z1⟩ := hz0
            obtain ⟨y0, y1⟩ := hz1
            go_upto_region 17 with fail
            obtain ⟨t12, v1, e1, e2, h1, k12, s1⟩ := HA.out.made (.cells #[.int .u8 z, .int .u8 y] 48)
            rw [e1, e2]
            obtain ⟨c0, c1, d0, d1⟩ := cells_known2 k12
            have n6 : t12 ≠ t6 := by have := (HA.out.loc t6 (by simp)).2; omega
            have nm : mb ≠ t12 := by have := (HA.out.loc mb (by simp)).2; omega
            have N6 := Lib.hid n6
            have NM := Lib.hid nm
            have K12 := Lib.hid k12
            have K6a := Lib.hid (s1.keeps K6.out)
            have H1 := Lib.hid h1
            clear e1 e2 h1 k12 s1 HA K6 n6 nm hw0 hw1
            go_upto_region 18 with fail
            obtain ⟨b, hb, b4⟩ : ∃ b : Nat, z % 4 = (b : Int) ∧ b < 4 := ⟨(z % 4).toNat, by omega, by omega⟩
            obtain ⟨o0, o1⟩ : 0 ≤ y % 64 ∧ y % 64 < 64 := by omega
            obtain ⟨v2, e1, h2, k12, k6⟩ : ∃ v2, ((v1.setCell ⟨t12, 0, none⟩ (.int .u8 (z % 4))).setCell ⟨t12, 1, none⟩ (.int .u8 (y % 64))) = v2 ∧ AS [t12, mb, t6] w v2 p mb g g (2 * k) ∧ v2.heap[t12]? = some (.cells #[.int .u8 (b : Int), .int .u8 (y % 64)] 48 (0, 0)) ∧ v2.heap[t6]? = some (.cells (parr 4) 46 (0, 0)) := by
              refine ⟨_, rfl, (H1.out.set (by simp) NM.out _).set (by simp) NM.out _, ?_, ?_⟩
              · rw [← hb]; exact set2_known K12.out _ _
              · rw [set_other _ _ N6.out.symm, set_other _ _ N6.out.symm]; exact K6a.out
            rw [e1, hb]
            clear e1 hb H1 K12 K6a c0 c1 d0 d1
            generalize y % 64 = o at *
            clear z0 z1 y0 y1
            obtain ⟨v3, hu, s3, z3, h3⟩ := as_update h2 (by omega) (b := b) (o := o) (v := IntKind.u64.wrap (x + k)) (by omega) (by omega) o0 o1
            obtain ⟨c0, c1, _⟩ := cells_known2 k12
            have k12b : v3.heap[t12]? = _ := (s3.block t12 (lt_obj k12) (fun e => NM.out e.symm)).trans k12
            have k6b : v3.heap[t6]? = _ := (s3.block t6 (lt_obj k6) (fun e => HNM.out e.symm)).trans k6
            have K12 := Lib.hid k12b
            have K6 := Lib.hid k6b
            have H3 := Lib.hid h3
            clear s3 z3 h3 k12 k12b k6 k6b h2
            go_wp2_with fail
            obtain ⟨c0, c1, _⟩ := cells_known2 K12.out
            obtain ⟨q0, q1, q2, q3⟩ := parr_get b4
            have p0 := cell_known K6.out q0
            have p1 := cell_known K6.out q1
            have p2 := cell_known K6.out q2
            have p3 := cell_known K6.out q3
            have l12 := lt_obj K12.out
            have l6 := lt_obj K6.out
            clear q0 q1 q2 q3
            refine wp_region_each 14 planA (fun _ _ => False) (Step (fun _ => False) v3) (fun _ => True) [Is ?v19_1_0, Is ?v19_1_1, Is ?v19_1_2, Is ?v19_1_3, Is ?v19_1_4, Is ?v19_1_5, Is ?v19_1_6, Is ?v19_1_7, Is ?v19_1_8, Is ?v19_1_9, Is ?v19_1_10, Is ?v19_1_11, Is ?v19_1_12, Is ?v19_1_13] [] (by kernel_rfl) (by kernel_rfl) (fun _ _ h => h.elim) ((Step.refl _ _).drew) (trivial) ?stab19_1 ?stabD19_1 ?obl19_1 ?fin19_1
            case stab19_1 => exact fun w w' h => ⟨fun k => k.trans h (fun _ x => x.elim), fun _ => trivial, ⟨fun _ k => k, fun _ k => k, fun _ k => k, fun _ k => k, fun _ k => k, fun _ k => k, fun _ k => k, fun _ k => k, fun _ k => k, fun _ k => k, fun _ k => k, fun _ k => k, fun _ k => k, fun _ k => k, trivial⟩, trivial⟩
            case stabD19_1 => exact fun _ _ h => h.elim
            case obl19_1 =>
              refine ⟨?o19_1_0, ?o19_1_1, ?o19_1_2, ?o19_1_3, ?o19_1_4, ?o19_1_5, ?o19_1_6, ?o19_1_7, ?o19_1_8, ?o19_1_9, ?o19_1_10, ?o19_1_11, ?o19_1_12, ?o19_1_13, trivial⟩
              case o19_1_0 =>
                intro xv wq hH hS H hU aq ha Q' hQ
                have cc := scell hH
                change aq = puts _ xv [] at ha
                simp only [puts] at ha
                subst ha; clear H 
                clear hU hS
                go_wp2_with fail
                (try refine hQ _ _ ?_)
                refine ⟨Step.refl _ _, ?_, trivial, nofun⟩
                exact (rfl : _ = _)
              case o19_1_1 =>
                intro xv wq hH hS H hU aq ha Q' hQ
                have cc := scell hH
                change aq = puts _ xv [] at ha
                simp only [puts] at ha
                subst ha; clear H 
                clear hU hS
                go_wp2_with fail
                (try refine hQ _ _ ?_)
                refine ⟨Step.refl _ _, ?_, trivial, nofun⟩
                exact (rfl : _ = _)
              case o19_1_2 =>
                intro xv wq hH hS H hU aq ha Q' hQ
                have cc := scell hH
                have h1 : xv 1 = _ := H 1 (by kernel_rfl)
                change aq = puts _ xv [(1, some 69)] at ha
                simp only [puts, Act.put, List.setIfInBounds_toArray, List.set_cons_zero, List.set_cons_succ, h1] at ha
                subst ha; clear H h1
                clear hU hS
                go_wp2_with fail
                (try refine hQ _ _ ?_)
                refine ⟨Step.refl _ _, ?_, trivial, nofun⟩
                exact (rfl : _ = _)
              case o19_1_3 =>
                intro xv wq hH hS H hU aq ha Q' hQ
                have cc := scell hH
                have h2 : xv 2 = _ := H 2 (by kernel_rfl)
                change aq = puts _ xv [(2, some 70)] at ha
                simp only [puts, Act.put, List.setIfInBounds_toArray, List.set_cons_zero, List.set_cons_succ, h2] at ha
                subst ha; clear H h2
                clear hU hS
                go_wp2_with fail
                (try refine hQ _ _ ?_)
                refine ⟨Step.refl _ _, ?_, trivial, nofun⟩
                exact (rfl : _ = _)
              case o19_1_4 =>
                intro xv wq hH hS H hU aq ha Q' hQ
                have cc := scell hH
                have h3 : xv 3 = _ := H 3 (by kernel_rfl)
                change aq = puts _ xv [(3, some 71)] at ha
                simp only [puts, Act.put, List.setIfInBounds_toArray, List.set_cons_zero, List.set_cons_succ, h3] at ha
                subst ha; clear H h3
                clear hU hS
                go_wp2_with fail
                (try refine hQ _ _ ?_)
                refine ⟨Step.refl _ _, ?_, trivial, nofun⟩
                exact (rfl : _ = _)
              case o19_1_5 =>
                intro xv wq hH hS H hU aq ha Q' hQ
                have cc := scell hH
                change aq = puts _ xv [] at ha
                simp only [puts] at ha
                subst ha; clear H 
                clear hU hS
                go_wp2_with fail
                (try refine hQ _ _ ?_)
                refine ⟨Step.refl _ _, ?_, trivial, nofun⟩
                exact (rfl : _ = _)
              case o19_1_6 =>
                intro xv wq hH hS H hU aq ha Q' hQ
                have cc := scell hH
                have h5 : xv 5 = _ := H 5 (by kernel_rfl)
                change aq = puts _ xv [(5, some 73)] at ha
                simp only [puts, Act.put, List.setIfInBounds_toArray, List.set_cons_zero, List.set_cons_succ, h5] at ha
                subst ha; clear H h5
                clear hU hS
                go_wp2_with fail
                (try refine hQ _ _ ?_)
                refine ⟨Step.refl _ _, ?_, trivial, nofun⟩
                exact (rfl : _ = _)
              case o19_1_7 =>
                intro xv wq hH hS H hU aq ha Q' hQ
                have cc := scell hH
                have h6 : xv 6 = _ := H 6 (by kernel_rfl)
                change aq = puts _ xv [(6, some 74)] at ha
                simp only [puts, Act.put, List.setIfInBounds_toArray, List.set_cons_zero, List.set_cons_succ, h6] at ha
                subst ha; clear H h6
                clear hU hS
                go_wp2_with fail
                (try refine hQ _ _ ?_)
                refine ⟨Step.refl _ _, ?_, trivial, nofun⟩
                exact (rfl : _ = _)
              case o19_1_8 =>
                intro xv wq hH hS H hU aq ha Q' hQ
                have cc := scell hH
                have h4 : xv 4 = _ := H 4 (by kernel_rfl)
                have h7 : xv 7 = _ := H 7 (by kernel_rfl)
                change aq = puts _ xv [(4, some 72), (7, some 75)] at ha
                simp only [puts, Act.put, List.setIfInBounds_toArray, List.set_cons_zero, List.set_cons_succ, h4, h7] at ha
                subst ha; clear H h4 h7
                clear hU hS
                go_wp2_with fail
                refine (move_at (x := o) (by omega) (by unfold wrap64; omega) _).mono ?_; rintro e w4 ⟨rfl, s4⟩
                go_wp2_with fail
                (try refine hQ _ _ ?_)
                refine ⟨s4, ?_, trivial, nofun⟩
                exact (rfl : _ = _)
              case o19_1_9 =>
                intro xv wq hH hS H hU aq ha Q' hQ
                have cc := scell hH
                change aq = puts _ xv [] at ha
                simp only [puts] at ha
                subst ha; clear H 
                clear hU hS
                go_wp2_with fail
                (try refine hQ _ _ ?_)
                refine ⟨Step.refl _ _, ?_, trivial, nofun⟩
                exact (rfl : _ = _)
              case o19_1_10 =>
                intro xv wq hH hS H hU aq ha Q' hQ
                have cc := scell hH
                change aq = puts _ xv [] at ha
                simp only [puts] at ha
                subst ha; clear H 
                clear hU hS
                go_wp2_with fail
                (try refine hQ _ _ ?_)
                refine ⟨Step.refl _ _, ?_, trivial, nofun⟩
                exact (rfl : _ = _)
              case o19_1_11 =>
                intro xv wq hH hS H hU aq ha Q' hQ
                have cc := scell hH
                have h10 : xv 10 = _ := H 10 (by kernel_rfl)
                change aq = puts _ xv [(10, some 78)] at ha
                simp only [puts, Act.put, List.setIfInBounds_toArray, List.set_cons_zero, List.set_cons_succ, h10] at ha
                subst ha; clear H h10
                clear hU hS
                go_wp2_with fail
                (try refine hQ _ _ ?_)
                refine ⟨Step.refl _ _, ?_, trivial, nofun⟩
                exact (rfl : _ = _)
              case o19_1_12 =>
                intro xv wq hH hS H hU aq ha Q' hQ
                have cc := scell hH
                have h9 : xv 9 = _ := H 9 (by kernel_rfl)
                have h11 : xv 11 = _ := H 11 (by kernel_rfl)
                change aq = puts _ xv [(9, some 77), (11, some 79)] at ha
                simp only [puts, Act.put, List.setIfInBounds_toArray, List.set_cons_zero, List.set_cons_succ, h9, h11] at ha
                subst ha; clear H h9 h11
                clear hU hS
                go_wp2_with fail
                (try refine hQ _ _ ?_)
                refine ⟨Step.refl _ _, ?_, trivial, nofun⟩
                exact (rfl : _ = _)
              case o19_1_13 =>
                intro xv wq hH hS H hU aq ha Q' hQ
                have cc := scell hH
                have h12 : xv 12 = _ := H 12 (by kernel_rfl)
                change aq = puts _ xv [(12, some 80)] at ha
                simp only [puts, Act.put, List.setIfInBounds_toArray, List.set_cons_zero, List.set_cons_succ, h12] at ha
                subst ha; clear H h12
                clear hU hS
                go_wp2_with fail
                (try refine hQ _ _ ?_)
                refine ⟨Step.refl _ _, ?_, trivial, nofun⟩
                exact (rfl : _ = _)
            intro xv v4 hH hS H hU hsz hF hN
            have h0 : xv 0 = _ := H 0 (by decide) (by kernel_rfl)
            have h1 : xv 1 = _ := H 1 (by decide) (by kernel_rfl)
            have h2 : xv 2 = _ := H 2 (by decide) (by kernel_rfl)
            have h3 : xv 3 = _ := H 3 (by decide) (by kernel_rfl)
            have h4 : xv 4 = _ := H 4 (by decide) (by kernel_rfl)
            have h5 : xv 5 = _ := H 5 (by decide) (by kernel_rfl)
            have h6 : xv 6 = _ := H 6 (by decide) (by kernel_rfl)
            have h7 : xv 7 = _ := H 7 (by decide) (by kernel_rfl)
            have h8 : xv 8 = _ := H 8 (by decide) (by kernel_rfl)
            have h9 : xv 9 = _ := H 9 (by decide) (by kernel_rfl)
            have h10 : xv 10 = _ := H 10 (by decide) (by kernel_rfl)
            have h11 : xv 11 = _ := H 11 (by decide) (by kernel_rfl)
            have h12 : xv 12 = _ := H 12 (by decide) (by kernel_rfl)
            have h13 : xv 13 = _ := H 13 (by decide) (by kernel_rfl)
            simp only [planA, puts, Act.put, List.setIfInBounds_toArray, List.set_cons_zero, List.set_cons_succ, List.drop_succ_cons, List.drop_zero, h0, h1, h2, h3, h4, h5, h6, h7, h8, h9, h10, h11, h12, h13]
            clear H hF hN hS hU h0 h1 h2 h3 h4 h5 h6 h7 h8 h9 h10 h11 h12 h13
            have hst := as_store (H3.out.still hH) (by omega) (b := b) (o := o) (v := IntKind.u64.wrap (x + k)) (by omega) (by omega) o0 o1
            simp only [numV, HV.val] at hst
            have HST := Lib.hid hst
            have LOC := Lib.hid (H3.out.still hH).loc
            have K6b := Lib.hid (hH.keeps K6.out)
            clear hst hH hsz c0 c1 p0 p1 p2 p3 l12 l6 H3 K12 K6
            go_wp2_with fail
            refine HST.out.mono ?_; rintro e v5 ⟨rfl, o5, h5⟩
            have K6c := Lib.hid ((o5.block t6 (LOC.out t6 (by simp)).2 (fun x => x.2 (by simp))).trans K6b.out)
            have H5 := Lib.hid h5
            clear HST o5 h5 K6b LOC
            go_wp2_with fail
            go_roundw
            case rel => exact ⟨k + 1, by omega, by go_num, _, (H5.out.sub (S := [mb, t6]) (by simp) (by simp)), K6c.out⟩
            case measure => simp [intOf]; omega
          · have dk : decide (k < zs.length) = false := decide_eq_false hlt
            have HA := Lib.hid hA
            have K6 := Lib.hid k6
            clear hA k6
            have HI : Hid (WInv w wr p t6 mb (2 * k)) := Lib.hid ⟨g, HA.out, K6.out⟩
            clear HA K6
            go_wp2_with fail
            go_loopw [13, 14, 15, 16, 85, 88] (fun _ _ _ _ i _ wv => ∃ b : Nat, b ≤ 4 ∧ i = .int .u8 b ∧ WInv w wv p t6 mb (2 * k)) (fun _ _ _ _ i _ _ => 4 - (intOf i).toNat)
            case atStart => exact ⟨0, by omega, rfl, HI.out⟩
            case round =>
              clear HI dk
              obtain ⟨b, hb, rfl, hI⟩ := hrel
              have HI := Lib.hid hI
              clear hI
              by_cases hb4 : b < 4
              · have db : decide ((b : Int) < 4) = true := decide_eq_true (by omega)
                go_wp2_with fail
                go_loopw [14, 15, 16, 88] (fun _ _ _ i wv => ∃ o : Nat, o ≤ 64 ∧ i = .int .u8 o ∧ WInv w wv p t6 mb (2 * k)) (fun _ _ _ i _ => 64 - (intOf i).toNat)
                case atStart => exact ⟨0, by omega, rfl, HI.out⟩
                case round =>
                  clear HI
                  obtain ⟨o, ho, rfl, hI⟩ := hrel
                  by_cases ho4 : o < 64
                  · have dc : decide ((o : Int) < 64) = true := decide_eq_true (by omega)
                    obtain ⟨g', hA, k6⟩ := hI
                    obtain ⟨q0, q1, q2, q3⟩ := parr_get hb4
                    have p0 := cell_known k6 q0
                    have p1 := cell_known k6 q1
                    have p2 := cell_known k6 q2
                    have p3 := cell_known k6 q3
                    have HA := Lib.hid hA
                    have K6 := Lib.hid k6
                    clear q0 q1 q2 q3 hA k6
                    go_wp2_with fail
                    refine (move_at (x := o) (by omega) (by unfold wrap64; omega) _).mono ?_; rintro e v1 ⟨rfl, s1⟩
                    have hld := as_load (HA.out.still s1) (b := b) (o := o) (by omega) (by omega) (by omega) (by omega)
                    simp only [numV, HV.val] at hld
                    have HLD := Lib.hid hld
                    have K6a := Lib.hid (s1.keeps K6.out)
                    clear s1 hld HA K6 p0 p1 p2 p3
                    go_wp2_with fail
                    refine HLD.out.mono ?_; rintro e v2 ⟨rfl, h2, s2⟩
                    have K6b := Lib.hid (s2.keeps K6a.out)
                    have H2 := Lib.hid h2
                    clear HLD h2 s2 K6a
                    go_wp2_with fail
                    obtain ⟨t15, v3, e1, e2, h3, k15, s3⟩ := H2.out.made (vObj ((g' b o).getD 0) 0 0 0 0)
                    rw [e1, e2]
                    obtain ⟨d0, d1, d2, d3, d4, _⟩ := cells_known5 k15
                    have l15 := lt_obj k15
                    have K6c := Lib.hid (s3.keeps K6b.out)
                    have H3 := Lib.hid h3
                    clear e1 e2 h3 k15 s3 H2 K6b
                    generalize hG : (g' b o).getD 0 = G at *
                    have HG := Lib.hid hG
                    clear hG
                    refine wp_region_each 10 planL (fun _ _ => False) (Step (fun _ => False) v3) (fun _ => True) [Is ?v29_2_0, Is ?v29_2_1, Is ?v29_2_2, Is ?v29_2_3, Is ?v29_2_4, Is ?v29_2_5, Is ?v29_2_6, Is ?v29_2_7, Is ?v29_2_8, Is ?v29_2_9] [] (by kernel_rfl) (by kernel_rfl) (fun _ _ h => h.elim) ((Step.refl _ _).drew) (trivial) ?stab29_2 ?stabD29_2 ?obl29_2 ?fin29_2
                    case stab29_2 => exact fun w w' h => ⟨fun k => k.trans h (fun _ x => x.elim), fun _ => trivial, ⟨fun _ k => k, fun _ k => k, fun _ k => k, fun _ k => k, fun _ k => k, fun _ k => k, fun _ k => k, fun _ k => k, fun _ k => k, fun _ k => k, trivial⟩, trivial⟩
                    case stabD29_2 => exact fun _ _ h => h.elim
                    case obl29_2 =>
                      refine ⟨?o29_2_0, ?o29_2_1, ?o29_2_2, ?o29_2_3, ?o29_2_4, ?o29_2_5, ?o29_2_6, ?o29_2_7, ?o29_2_8, ?o29_2_9, trivial⟩
                      case o29_2_0 =>
                        intro xv wq hH hS H hU aq ha Q' hQ
                        have cc := scell hH; have lk := as_lookup (H3.out.still hH) (b := b) (o := o) (by omega) (by omega) (by omega) (by omega); rw [HG.out] at lk
                        change aq = puts _ xv [] at ha
                        simp only [puts] at ha
                        subst ha; clear H 
                        clear hU hS
                        go_wp2_with fail
                        (try refine hQ _ _ ?_)
                        refine ⟨Step.refl _ _, ?_, trivial, nofun⟩
                        exact (rfl : _ = _)
                      case o29_2_1 =>
                        intro xv wq hH hS H hU aq ha Q' hQ
                        have cc := scell hH; have lk := as_lookup (H3.out.still hH) (b := b) (o := o) (by omega) (by omega) (by omega) (by omega); rw [HG.out] at lk
                        have h0 : xv 0 = _ := H 0 (by kernel_rfl)
                        change aq = puts _ xv [(0, some 102)] at ha
                        simp only [puts, Act.put, List.setIfInBounds_toArray, List.set_cons_zero, List.set_cons_succ, h0] at ha
                        subst ha; clear H h0
                        clear hU hS
                        go_wp2_with fail
                        (try refine hQ _ _ ?_)
                        refine ⟨Step.refl _ _, ?_, trivial, nofun⟩
                        exact (rfl : _ = _)
                      case o29_2_2 =>
                        intro xv wq hH hS H hU aq ha Q' hQ
                        have cc := scell hH; have lk := as_lookup (H3.out.still hH) (b := b) (o := o) (by omega) (by omega) (by omega) (by omega); rw [HG.out] at lk
                        have h1 : xv 1 = _ := H 1 (by kernel_rfl)
                        change aq = puts _ xv [(1, some 103)] at ha
                        simp only [puts, Act.put, List.setIfInBounds_toArray, List.set_cons_zero, List.set_cons_succ, h1] at ha
                        subst ha; clear H h1
                        clear hU hS
                        go_wp2_with fail
                        (try refine hQ _ _ ?_)
                        refine ⟨Step.refl _ _, ?_, trivial, nofun⟩
                        exact (rfl : _ = _)
                      case o29_2_3 =>
                        intro xv wq hH hS H hU aq ha Q' hQ
                        have cc := scell hH; have lk := as_lookup (H3.out.still hH) (b := b) (o := o) (by omega) (by omega) (by omega) (by omega); rw [HG.out] at lk
                        have h2 : xv 2 = _ := H 2 (by kernel_rfl)
                        change aq = puts _ xv [(2, some 104)] at ha
                        simp only [puts, Act.put, List.setIfInBounds_toArray, List.set_cons_zero, List.set_cons_succ, h2] at ha
                        subst ha; clear H h2
                        clear hU hS
                        go_wp2_with fail
                        (try refine hQ _ _ ?_)
                        refine ⟨Step.refl _ _, ?_, trivial, nofun⟩
                        exact (rfl : _ = _)
                      case o29_2_4 =>
                        intro xv wq hH hS H hU aq ha Q' hQ
                        have cc := scell hH; have lk := as_lookup (H3.out.still hH) (b := b) (o := o) (by omega) (by omega) (by omega) (by omega); rw [HG.out] at lk
                        have h2 : xv 2 = _ := H 2 (by kernel_rfl)
                        change aq = puts _ xv [(2, some 104)] at ha
                        simp only [puts, Act.put, List.setIfInBounds_toArray, List.set_cons_zero, List.set_cons_succ, h2] at ha
                        subst ha; clear H h2
                        clear hU hS
                        go_wp2_with fail
                        (try refine hQ _ _ ?_)
                        refine ⟨Step.refl _ _, ?_, trivial, nofun⟩
                        exact (rfl : _ = _)
                      case o29_2_5 =>
                        intro xv wq hH hS H hU aq ha Q' hQ
                        have cc := scell hH; have lk := as_lookup (H3.out.still hH) (b := b) (o := o) (by omega) (by omega) (by omega) (by omega); rw [HG.out] at lk
                        have h2 : xv 2 = _ := H 2 (by kernel_rfl)
                        change aq = puts _ xv [(2, some 104)] at ha
                        simp only [puts, Act.put, List.setIfInBounds_toArray, List.set_cons_zero, List.set_cons_succ, h2] at ha
                        subst ha; clear H h2
                        clear hU hS
                        go_wp2_with fail
                        (try refine hQ _ _ ?_)
                        refine ⟨Step.refl _ _, ?_, trivial, nofun⟩
                        exact (rfl : _ = _)
                      case o29_2_6 =>
                        intro xv wq hH hS H hU aq ha Q' hQ
                        have cc := scell hH; have lk := as_lookup (H3.out.still hH) (b := b) (o := o) (by omega) (by omega) (by omega) (by omega); rw [HG.out] at lk
                        have h2 : xv 2 = _ := H 2 (by kernel_rfl)
                        change aq = puts _ xv [(2, some 104)] at ha
                        simp only [puts, Act.put, List.setIfInBounds_toArray, List.set_cons_zero, List.set_cons_succ, h2] at ha
                        subst ha; clear H h2
                        clear hU hS
                        go_wp2_with fail
                        (try refine hQ _ _ ?_)
                        refine ⟨Step.refl _ _, ?_, trivial, nofun⟩
                        exact (rfl : _ = _)
                      case o29_2_7 =>
                        intro xv wq hH hS H hU aq ha Q' hQ
                        have cc := scell hH; have lk := as_lookup (H3.out.still hH) (b := b) (o := o) (by omega) (by omega) (by omega) (by omega); rw [HG.out] at lk
                        have h2 : xv 2 = _ := H 2 (by kernel_rfl)
                        have h5 : xv 5 = _ := H 5 (by kernel_rfl)
                        have h6 : xv 6 = _ := H 6 (by kernel_rfl)
                        change aq = puts _ xv [(2, some 104), (5, some 107), (6, some 108)] at ha
                        simp only [puts, Act.put, List.setIfInBounds_toArray, List.set_cons_zero, List.set_cons_succ, h2, h5, h6] at ha
                        subst ha; clear H h2 h5 h6
                        clear hU hS
                        go_wp2_with fail
                        (try refine hQ _ _ ?_)
                        refine ⟨Step.refl _ _, ?_, trivial, nofun⟩
                        exact (rfl : _ = _)
                      case o29_2_8 =>
                        intro xv wq hH hS H hU aq ha Q' hQ
                        have cc := scell hH; have lk := as_lookup (H3.out.still hH) (b := b) (o := o) (by omega) (by omega) (by omega) (by omega); rw [HG.out] at lk
                        have h2 : xv 2 = _ := H 2 (by kernel_rfl)
                        have h4 : xv 4 = _ := H 4 (by kernel_rfl)
                        have h7 : xv 7 = _ := H 7 (by kernel_rfl)
                        change aq = puts _ xv [(2, some 104), (4, some 106), (7, some 109)] at ha
                        simp only [puts, Act.put, List.setIfInBounds_toArray, List.set_cons_zero, List.set_cons_succ, h2, h4, h7] at ha
                        subst ha; clear H h2 h4 h7
                        clear hU hS
                        go_wp2_with fail
                        (try refine hQ _ _ ?_)
                        refine ⟨Step.refl _ _, ?_, trivial, nofun⟩
                        exact (rfl : _ = _)
                      case o29_2_9 =>
                        intro xv wq hH hS H hU aq ha Q' hQ
                        have cc := scell hH; have lk := as_lookup (H3.out.still hH) (b := b) (o := o) (by omega) (by omega) (by omega) (by omega); rw [HG.out] at lk
                        have h2 : xv 2 = _ := H 2 (by kernel_rfl)
                        have h8 : xv 8 = _ := H 8 (by kernel_rfl)
                        change aq = puts _ xv [(2, some 104), (8, some 110)] at ha
                        simp only [puts, Act.put, List.setIfInBounds_toArray, List.set_cons_zero, List.set_cons_succ, h2, h8] at ha
                        subst ha; clear H h2 h8
                        clear hU hS
                        go_wp2_with fail
                        (try refine hQ _ _ ?_)
                        refine ⟨Step.refl _ _, ?_, trivial, nofun⟩
                        exact (rfl : _ = _)
                    intro xv v4 hH hS H hU hsz hF hN
                    have h0 : xv 0 = _ := H 0 (by decide) (by kernel_rfl)
                    have h1 : xv 1 = _ := H 1 (by decide) (by kernel_rfl)
                    have h2 : xv 2 = _ := H 2 (by decide) (by kernel_rfl)
                    have h3 : xv 3 = _ := H 3 (by decide) (by kernel_rfl)
                    have h4 : xv 4 = _ := H 4 (by decide) (by kernel_rfl)
                    have h5 : xv 5 = _ := H 5 (by decide) (by kernel_rfl)
                    have h6 : xv 6 = _ := H 6 (by decide) (by kernel_rfl)
                    have h7 : xv 7 = _ := H 7 (by decide) (by kernel_rfl)
                    have h8 : xv 8 = _ := H 8 (by decide) (by kernel_rfl)
                    have h9 : xv 9 = _ := H 9 (by decide) (by kernel_rfl)
                    simp only [planL, puts, Act.put, List.setIfInBounds_toArray, List.set_cons_zero, List.set_cons_succ, List.drop_succ_cons, List.drop_zero, h0, h1, h2, h3, h4, h5, h6, h7, h8, h9]
                    clear H hF hN hS hU h0 h1 h2 h3 h4 h5 h6 h7 h8 h9
                    have K6d := Lib.hid (hH.keeps K6c.out)
                    have H4 := Lib.hid (H3.out.still hH)
                    clear hH hsz H3 K6c d0 d1 d2 d3 d4 l15
                    go_wp2_with fail
                    go_roundw
                    case rel => exact ⟨o + 1, by omega, by go_num, _, (H4.out.sub (S := [mb, t6]) (by simp) (by simp)), K6d.out⟩
                    case measure => simp [intOf]; omega
                  · have dc : decide ((o : Int) < 64) = false := decide_eq_false (by omega)
                    have HI := Lib.hid hI
                    clear hI
                    go_wp2_with fail
                    go_roundw
                    case rel => exact ⟨b + 1, by omega, by go_num, HI.out⟩
                    case measure => simp [intOf]; omega
              · have db : decide ((b : Int) < 4) = false := decide_eq_false (by omega)
                go_wp2_with fail
                go_ret
                obtain ⟨_, hA, _⟩ := HI.out
                exact ⟨rfl, hA.below⟩

/-! ### The row. -/

set_option maxRecDepth 100000 in
theorem lifted (os : Os) (started : os.Started) (H : Type) (enc : TypeId × Value → H) :
    ReturnsInHanded {} Try.checked os 5 .any (Rows.heapApartSpec.pre6 enc Try.prog Try.f5 Rows.heapApartRow.domain false) (Rows.heapApartSpec.post enc Try.prog Try.f5 false true false false) := by
  refine returnsInHanded_of_change (C := Try.checked) own started (by kernel_rfl) Try.func5
    (ChangeSpec.witness6 (enc := enc) (C := Try.checked) false ⟨#[], #[.slice none 0 0, .int .u64 0], []⟩ 8 (by kernel_rfl) (by kernel_rfl) (by kernel_rfl) (by kernel_rfl)) ?_
  intro W base args ds gs before hval0 hW hcnd _
  have hval : ∀ (j : Nat) t v, Try.f5.params[j]? = some t → args[j]? = some v → Value.okWide Try.prog W .any base t v := hval0
  have hW' := hW
  obtain ⟨p, q, hA0, hV, rfl, hfz, hnd⟩ := hW
  have hA : DataW.TrodAll enc Try.prog W 0 (fun _ => true) true Try.f5.params.toList args.toList ds p := hA0
  rw [Try.params5] at hA hval
  obtain ⟨v0, vs0, d0, ds0, p0, q0, hargs, rfl, rfl, h0, r0⟩ := trodAll_cons hA
  obtain ⟨v1, vs1, d1, ds1, p1, q1, rfl, rfl, rfl, h1, r1⟩ := trodAll_cons r0
  obtain ⟨rfl, rfl, rfl⟩ := trodAll_nil r1
  obtain rfl : args = #[v0, v1] := by cases args; simp_all
  obtain ⟨rfl, rfl⟩ := trodVars_none hV
  obtain ⟨zs, hzs⟩ := pairs_in Try.underlying45 Try.underlying48 Try.underlying5 (by kernel_rfl) (by kernel_rfl) (hval 0 45 v0 rfl rfl) h0
  obtain ⟨a1, rfl, rfl, rfl, w1⟩ := open_int Try.underlying39 (hval 1 39 v1 rfl rfl) h1
  clear hA0 hval0
  simp only [List.append_nil] at hW'
  refine (walk v0 zs a1 W hzs).mono fun e W' ⟨he, hb⟩ => ?_
  subst he
  exact ⟨_, rfl, law_post laidOut (by kernel_rfl) rfl rfl rfl Try.underlying4 hW' hb⟩

theorem over : Rows.heapApartRow.holds Try.pinned (OpenSpec.ofChange Rows.heapApartSpec) :=
  OpenClaim.holds_of_wide 5 Try.f5 rfl rfl rfl rfl rfl rfl rfl ⟨rfl, rfl, rfl, rfl, rfl⟩ rfl rfl rfl rfl rfl (by kernel_rfl) Try.func5 (by kernel_rfl)
    (of_decide_eq_true (by kernel_rfl)) (by unfold Func.isWrapper; first | (rw [if_pos (by decide +kernel)]; kernel_rfl) | (rw [if_neg (by decide +kernel)]; exact ⟨rfl, rfl⟩))
    (fun os started H enc _ => lifted os started H enc)

/-- The statement. -/
theorem proved : Rows.HeapApartSaid :=
  over
#print axioms proved
end Go.Proofs.Ytjeoendenecidaa.heapApart
