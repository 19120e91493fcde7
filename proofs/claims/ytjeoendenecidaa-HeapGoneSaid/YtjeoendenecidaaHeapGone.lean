/- HeapGone returns true for every slice of bytes, every int and every number, without conditions. -/
import Derived.Test.YtjeoendenecidaaRows
import Derived.Lib.SmallJoins
import Derived.Test.YtjeoendenecidaaHeapH
import Derived.Test.YtjeoendenecidaaLibE
import Derived.Test.YtjeoendenecidaaLibF
import Derived.Test.YtjeoendenecidaaLibK
import Derived.Test.YtjeoendenecidaaLibS
import Derived.Deep.DeepCutAuto
namespace Go.Proofs.Ytjeoendenecidaa.heapGone
open Go.ChangeShapes Go.WideShapes Go.ChangeAt Go.RowKit Go.Joins
set_option linter.unusedVariables false

theorem own : ownKnob Try.prog.godebug = none := by kernel_rfl

def planG : Plan where
  T := [[], [0], [0, 1], [0, 1, 2], [0, 1, 2, 3], [0, 1, 2], [0, 1, 2], [0, 1, 2, 5, 6], [0, 1, 2, 5, 6, 7], [0, 1, 2, 5, 6, 7, 8], [0, 1, 2, 3, 4, 5, 6, 7, 8, 9], [0, 1, 2, 3, 4, 5, 6, 7, 8, 9, 10]]
  rd := [[], [(0, some 142)], [(1, some 143)], [(2, some 144)], [(2, some 144), (3, some 145)], [(2, some 144)], [(2, some 144)], [(2, some 144), (5, some 147), (6, some 148)], [(2, some 144), (7, some 149)], [(2, some 144), (8, some 150)]]
  all := [(9, some 151), (8, some 150), (7, some 149), (6, some 148), (5, some 147), (4, some 146), (3, some 145), (2, some 144), (1, some 143), (0, some 142)]
  calm := [true, true, true, true, true, true, true, true, true, true]
  hard := []
  fresh := [false, false, false, false, false, false, false, false, false, false]

def planH : Plan where
  T := [[], [], [1], [], [0, 1, 2, 3], [0, 1, 2, 3, 4]]
  rd := [[], [], [(1, some 168)], []]
  all := [(3, some 170), (2, some 169), (1, some 168), (0, some 167)]
  calm := [true, true, true, true]
  hard := []
  fresh := [false, false, false, false]

def szOf (zs : List Int) (i : Nat) : Int := zs.getD i 0 + 8
def valOf (x : Int) (i : Nat) : HV := ⟨IntKind.u64.wrap (x + i), ⟨0, 0, 0, 0⟩⟩
/-- the pointers, as cells -/
def prow (sz : Nat → Int) (n : Nat) : List Value := (List.range n).flatMap fun (i : Nat) => [.int .i64 ((i : Int) + 1), .int .i64 0, .int .i64 0, .int .i64 (sz i)]
theorem prow_succ (sz : Nat → Int) (n : Nat) : prow sz (n + 1) = prow sz n ++ [.int .i64 (n + 1 : Int), .int .i64 0, .int .i64 0, .int .i64 (sz n)] := by
  unfold prow; rw [List.range_succ, List.flatMap_append]; simp
theorem prow_len (sz : Nat → Int) (n : Nat) : (prow sz n).length = n * 4 := by
  induction n with
  | zero => simp [prow]
  | succ n ih => rw [prow_succ, List.length_append, ih]; simp; omega
theorem prow_get (sz : Nat → Int) (n i : Nat) (hi : i < n) (j : Nat) (hj : j < 4) : (prow sz n)[i * 4 + j]? = [Value.int .i64 (i + 1 : Int), .int .i64 0, .int .i64 0, .int .i64 (sz i)][j]? := by
  induction n with
  | zero => omega
  | succ n ih =>
    rw [prow_succ]
    by_cases h : i < n
    · rw [List.getElem?_append_left (by rw [prow_len]; omega)]; exact ih h
    · have : i = n := by omega
      subst this
      rw [List.getElem?_append_right (by rw [prow_len]; omega), prow_len]
      congr 1
      omega
theorem sz_bounds (zs : List Int) (h : ∀ z ∈ zs, (Lit.int .u8 z).wf = true) (i : Nat) : 8 ≤ szOf zs i ∧ szOf zs i ≤ 263 := by
  unfold szOf
  rw [List.getD_eq_getElem?_getD]
  by_cases hi : i < zs.length
  · rw [List.getElem?_eq_getElem hi]
    have := wfu8 (h _ (List.getElem_mem hi))
    simp; omega
  · rw [List.getElem?_eq_none (by omega)]; simp

theorem ptr_info : (Try.prog.info? 23).map (fun i => (i.zero, i.size, i.bytes)) = some (some (.agg #[.int .i64 0, .int .i64 0, .int .i64 0, .int .i64 0]), 4, 32) := by kernel_rfl
/-- one of these blocks (a name of its own, so that a walk does not open it) -/
def InL (T : List Nat) (b : Nat) : Prop := b ∈ T
theorem gs_row {T : List Nat} {w0 W w1 : World} {p N M c : Nat} {sz : Nat → Int} {V : Nat → HV} {dead : Option Nat} {e : TypeId} {size n : Nat} {v : Value} {xs : List Value} (h : GS T w0 W p N M sz V dead c) (hn : 0 < n)
    {B : Nat} (hB : B = W.heap.size) (hr : RowAt w1 (fun g => InL T g ∨ g = B) e size v n xs) (s : Step (InL T) W w1) : ∃ T', GS T' w0 w1 p N M sz V dead c ∧ RowAt w1 (InL T') e size v n xs := by
  obtain ⟨g, cap, cur, rfl, hg, hrow, hrest⟩ := hr.some hn
  subst hB
  have hlt := lt_known hrow
  by_cases hs : W.heap.size < w1.heap.size
  · refine ⟨[W.heap.size] ++ T, h.own s [W.heap.size] (fun t ht => ?_), hr.mono fun b hb => ?_⟩
    · simp only [List.mem_singleton] at ht; subst ht; exact ⟨Nat.le_refl _, hs⟩
    · rcases hb with hb | hb
      · exact List.mem_append_right _ (show b ∈ T from hb)
      · subst hb; exact List.mem_append_left _ (List.mem_singleton.2 rfl)
  · refine ⟨[] ++ T, h.own s [] (by simp), hr.1, .inr ⟨g, cap, cur, rfl, ?_, hrow, hrest⟩⟩
    rcases hg with hb | hb
    · exact hb
    · omega
theorem pick (which : Int) (n : Nat) (h0 : 0 < n) (h1 : n ≤ 20) : ∃ k : Nat, wrap64 ((IntKind.u64.wrap which).tmod (n : Int)) = (k : Int) ∧ k < n := by
  have g0 : 0 ≤ IntKind.u64.wrap which := by rw [IntKind.wrap_u64]; omega
  have e : (IntKind.u64.wrap which).tmod (n : Int) = (IntKind.u64.wrap which) % (n : Int) := Int.tmod_eq_emod_of_nonneg g0
  have a := Int.emod_nonneg (IntKind.u64.wrap which) (show (n : Int) ≠ 0 by omega)
  have b := Int.emod_lt_of_pos (IntKind.u64.wrap which) (show (0 : Int) < n by omega)
  refine ⟨((IntKind.u64.wrap which) % (n : Int)).toNat, ?_, by omega⟩
  rw [e]
  unfold wrap64
  omega
theorem ptr_cells {w : World} {g : Nat} {cur : Array Value} {n : Nat} {sz : Nat → Int} (h : w.heap[g]? = some (.cells cur 23 (0, 0))) (ht : cur.toList.take (n * 4) = prow sz n) {k : Nat} (hk : k < n) :
    w.cell? ⟨g, k * 4, none⟩ = some (.int .i64 ((k : Int) + 1)) ∧ w.cell? ⟨g, k * 4 + 1, none⟩ = some (.int .i64 0) ∧ w.cell? ⟨g, k * 4 + 2, none⟩ = some (.int .i64 0) ∧ w.cell? ⟨g, k * 4 + 3, none⟩ = some (.int .i64 (sz k)) := by
  have c := fun (j : Nat) (hj : j < 4) (u : Value) (hu : [Value.int .i64 ((k : Int) + 1), .int .i64 0, .int .i64 0, .int .i64 (sz k)][j]? = some u) => row_cell (n := n) (size := 4) h ht (j := k * 4 + j) (u := u) (by rw [prow_get sz n k hk j hj]; exact hu)
  exact ⟨c 0 (by omega) _ rfl, c 1 (by omega) _ rfl, c 2 (by omega) _ rfl, c 3 (by omega) _ rfl⟩
/-- what stands at the head of each round of the first loop -/
def GInv (w wr : World) (p k : Nat) (zs : List Int) (x : Int) (v : Value) : Prop :=
  ∃ T, GS T w wr p k k (szOf zs) (valOf x) none k ∧ RowAt wr (InL T) 23 4 v k (prow (szOf zs) k)

theorem dead_or (x : Int) (i k : Nat) : ∃ (B : Bool) (X : HV) (C : Int), ((i : Int) == (k : Int)) = B ∧ ((i : Int) != (k : Int)) = (!B) ∧ (if some k = some i then HV.zero else valOf x i) = X ∧ (if some k = some i then (20 : Int) else 0) = C ∧
    ((B = true ∧ X = HV.zero ∧ C = 20) ∨ (B = false ∧ X = valOf x i ∧ C = 0)) := by
  by_cases h : i = k
  · subst h
    exact ⟨true, HV.zero, 20, by simp, by simp, by simp, by simp, .inl ⟨rfl, rfl, rfl⟩⟩
  · have e : ¬ some k = some i := fun e => h (Option.some.inj e).symm
    exact ⟨false, valOf x i, 0, beq_eq_false_iff_ne.2 (by omega), bne_iff_ne.2 (by omega), if_neg e, if_neg e, .inr ⟨rfl, rfl, rfl⟩⟩
/-- what stands at the head of each round of the second loop -/
def GInv2 (w wr : World) (p k : Nat) (zs : List Int) (x : Int) (T : List Nat) (g : Nat) (cur : Array Value) (c : Nat) : Prop :=
  GS T w wr p (zs.length + 1) zs.length (szOf zs) (valOf x) (some k) c ∧ wr.heap[g]? = some (.cells cur 23 (0, 0))

set_option maxHeartbeats 4000000 in
set_option maxRecDepth 100000 in
theorem walk (v : Value) (zs : List Int) (which x : Int) (w : World) (hv : IntsAt .u8 w v zs) : Calls Try.prog 8 #[v, .int .i64 which, .int .u64 x] w fun e w' => e = .returned (.bool true) ∧ Below w.heap.size w w' := by
  obtain ⟨⟨q, cap, rfl, hcap, hmax, hcell⟩, hwf⟩ := hv
  unfold maxLen at hmax
  have HC := Lib.hid hcell
  have HW := Lib.hid hwf
  have HZ := Lib.hid (sz_bounds zs hwf)
  clear hcell hwf
  by_cases hlen : zs.length = 0 ∨ 20 < zs.length
  · have hl : ((zs.length : Int) == 0) = true ∨ (((zs.length : Int) == 0) = false ∧ 20 < zs.length) := by
      rcases hlen with h | h
      · exact .inl (by simp [h])
      · exact .inr ⟨beq_eq_false_iff_ne.2 (by omega), h⟩
    clear hlen
    rcases hl with hl | ⟨hl, hl'⟩
    · skip
      go_enter Try.func8, Try.ntmps8
      go_wp2_with fail
      refine (law_new _).mono ?_; rintro e w1 ⟨p, rfl, h1⟩
      have H1 := Lib.hid h1
      clear h1
      go_wp2_with fail
      refine (awake_any _).mono ?_; rintro e w2 ⟨rfl, s2⟩
      have H2 := Lib.hid (H1.out.still s2)
      clear s2 H1
      go_wp2_with fail
      refine (awake_any _).mono ?_; rintro e w3 ⟨rfl, s3⟩
      have H3 := Lib.hid (H2.out.still s3)
      clear s3 H2
      go_wp2_with fail
      go_ret
      exact ⟨rfl, H3.out.below⟩
    · skip
      go_enter Try.func8, Try.ntmps8
      go_wp2_with fail
      refine (law_new _).mono ?_; rintro e w1 ⟨p, rfl, h1⟩
      have H1 := Lib.hid h1
      clear h1
      go_wp2_with fail
      refine (awake_any _).mono ?_; rintro e w2 ⟨rfl, s2⟩
      have H2 := Lib.hid (H1.out.still s2)
      clear s2 H1
      go_wp2_with fail
      refine (awake_any _).mono ?_; rintro e w3 ⟨rfl, s3⟩
      have H3 := Lib.hid (H2.out.still s3)
      clear s3 H2
      go_wp2_with fail
      go_ret
      exact ⟨rfl, H3.out.below⟩
  · have hl0 : 0 < zs.length := by omega
    have hl1 : zs.length ≤ 20 := by omega
    have hl2 : ((zs.length : Int) == 0) = false := beq_eq_false_iff_ne.2 (by omega)
    clear hlen
    go_enter Try.func8, Try.ntmps8
    go_wp2_with fail
    generalize (which.tmod 2 == 0) = E
    refine (law_new _).mono ?_; rintro e w1 ⟨p, rfl, h1⟩
    have H1 := Lib.hid h1
    clear h1
    go_wp2_with fail
    refine (awake_any _).mono ?_; rintro e w2 ⟨rfl, s2⟩
    have H2 := Lib.hid (H1.out.still s2)
    clear s2 H1
    go_wp2_with fail
    have INV : GInv w w2 p 0 zs x (.slice none 0 0) := ⟨[], ⟨_, _, 0, Nat.le_refl _, H2.out, ⟨rfl, fun i hi => by omega, fun i hi => by omega⟩⟩, rowAt_nil _ _ _ _⟩
    have HI := Lib.hid INV
    clear INV H2
    go_loopw [9, 10, 11, 12, 13, 45] (fun v _ _ _ _ i wr => ∃ k : Nat, k ≤ zs.length ∧ i = .int .i64 k ∧ GInv w wr p k zs x v) (fun _ _ _ _ _ i _ => zs.length - (intOf i).toNat)
    case atStart => exact ⟨0, by omega, rfl, HI.out⟩
    case round =>
      obtain ⟨k, hk, rfl, hI⟩ := hrel
      clear HI
      obtain ⟨T, hG, hR⟩ := hI
      by_cases hlt : k < zs.length
      · obtain ⟨a, rfl, hca⟩ := HC.out k hlt
        obtain ⟨i0, hi, hz0, hz1, hz2⟩ := info_parts ptr_info
        have hz : 0 ≤ zs.getD k 0 ∧ zs.getD k 0 ≤ 255 := wfu8 (HW.out _ (by rw [List.getD_eq_getElem?_getD, List.getElem?_eq_getElem hlt]; exact List.getElem_mem hlt))
        have hcw : wr.cell? (a.add k) = some (.int .u8 (zs.getD k 0)) := (hG.cell_old (block_lt hca)).trans hca
        have dk : decide (k < zs.length) = true := decide_eq_true hlt
        have hszk : szOf zs k = zs.getD k 0 + 8 := rfl
        have hmk := gs_make hG (by omega) (Nat.le_refl _) (fun _ h => by cases h) (by rw [hszk]; omega) (by rw [hszk]; omega)
        generalize zs.getD k 0 = z at *
        rw [hszk] at hmk
        have HMK := Lib.hid hmk
        have HK := Lib.hid hszk
        have HR := Lib.hid hR
        have HIn := Lib.hid (⟨hi, hz0, hz1, hz2⟩ : _ ∧ _ ∧ _ ∧ _)
        obtain ⟨z0, z1⟩ := hz
        clear hca hmk hszk hG hR hi hz0 hz1 hz2
        go_wp2_with fail
        refine HMK.out.mono ?_; rintro e w3 ⟨rfl, h3, o3⟩
        have hR3 : RowAt w3 (InL T) 23 4 u9 k (prow (szOf zs) k) := HR.out.same fun b hb hlt => o3.block b hlt fun x => x.2 hb
        have H3 := Lib.hid h3
        have HR3 := Lib.hid hR3
        clear h3 o3 hR3 HR HMK hcw
        go_wp2_with fail
        obtain ⟨t12, w4, e1, e2, h4, k12, s4⟩ := H3.out.made (pObj (k + 1) 0 0 (z + 8))
        rw [e1]
        have hput := gs_put h4 (by omega) (by omega) (by omega) (i := k) (off := 0) (n := 8) (by omega) (.inr (.inr rfl)) (Int.le_refl _) (by rw [HK.out]; omega) (by rw [HK.out]; omega) (valOf x k)
        rw [HK.out, if_neg (by simp)] at hput
        have K12 := Lib.hid k12
        have H4 := Lib.hid h4
        have HR4 := Lib.hid (HR3.out.same fun b hb hlt => s4.block b hlt fun x => x)
        have HE := Lib.hid e2
        clear e1 e2 h4 k12 s4 H3 HR3
        refine hput.mono ?_; rintro e w5 ⟨rfl, o5, _, hG5⟩
        have K12' := Lib.hid ((o5.block t12 (H4.out.loc t12 (by simp)).2 (fun x => x.2 (by simp))).trans K12.out)
        have hR5 : RowAt w5 (InL (t12 :: T)) 23 4 u9 k (prow (szOf zs) k) := (HR4.out.same fun b hb hlt => o5.block b hlt fun x => x.2 (List.mem_cons_of_mem _ hb)).mono fun b hb => List.mem_cons_of_mem _ (show b ∈ T from hb)
        have HR5 := Lib.hid hR5
        have H5 := Lib.hid (hG5 rfl rfl rfl)
        clear hput o5 hG5 hR5 HR4 H4 K12
        rw [HE.out]
        obtain ⟨c0, c1, c2, c3, _⟩ := cells_known4 K12'.out
        have l12 := lt_obj K12'.out
        obtain ⟨hi, hz0, hz1, hz2⟩ := HIn.out
        go_wp2_with (first | (at_builtin; refine wpList_append_row rfl (.tmp 71) (.tmp 73) 57 rfl (InL (t12 :: T)) 23 i0 _ 4 32 Try.underlying57 hi hz0 hz1 hz2 rfl _ _ _ rfl (HR5.out.al _) ⟨w5.heap.size, 0, none⟩ 1 1 [.int .i64 ((k : Int) + 1), .int .i64 0, .int .i64 0, .int .i64 (z + 8)] rfl (by omega) rfl ?c1 ?c2 ?c3 ?c4 ?_))
        case c1 => exact new_cells (by simp) [_, _, _, _] _
        case c2 => intro u hu; simp at hu; rcases hu with rfl | rfl | rfl | rfl <;> rfl
        case c3 => simp only [maxLen]; omega
        case c4 => omega
        intro g' cap' w6 hr6 hst6 hz6
        have hrow := gs_row ((H5.out.al _).drop) (by omega) (by simp) hr6 hst6
        rw [← HK.out, ← prow_succ] at hrow
        have HW6 := Lib.hid hrow
        clear hrow hr6 hst6 hz6 H5 HR5 K12' c0 c1 c2 c3 l12 hi hz0 hz1 hz2
        go_wp2_with fail
        go_roundw
        case rel =>
          obtain ⟨T', hG, hR⟩ := HW6.out
          exact ⟨k + 1, by omega, by go_num, T', hG, hR⟩
        case measure => simp [intOf]; omega
      · have dk : decide (k < zs.length) = false := decide_eq_false hlt
        have hkl : k = zs.length := by omega
        subst hkl
        obtain ⟨g, cap', cur, rfl, hg, hrow, hle, hmx, hsz, htk⟩ := hR.some hl0
        have HG := Lib.hid hG
        have HROW := Lib.hid (⟨hrow, htk⟩ : _ ∧ _)
        have hgw := lt_known hrow
        clear hG hR hrow htk hsz
        unfold maxLen at hmx
        obtain ⟨k, hkk, hkl⟩ := pick which zs.length hl0 hl1
        have HKK := Lib.hid hkk
        clear hkk
        go_upto_region 15 with fail
        rw [HKK.out]
        have HBK := Lib.hid HROW.out.1
        have HTK := Lib.hid HROW.out.2
        have hsz8 : szOf zs zs.length = 8 := by simp [szOf]
        have HS8 := Lib.hid hsz8
        have hg' : g ∈ T := hg
        have HGT := Lib.hid hg'
        clear HROW hsz8 hg hg' HKK hgw hcap hmax HC HW hl2 dk
        have hne : (((zs.length : Int) + 1) == ((k : Int) + 1)) = false := beq_eq_false_iff_ne.2 (by omega)
        cases E
        · skip
          obtain ⟨p0, p1, p2, p3⟩ := ptr_cells HBK.out HTK.out hkl
          go_wp2_with fail
          clear p0 p1 p2 p3
          first
            | (refine (gs_end HG.out (by omega) (Nat.le_refl _) hkl).mono ?_; rintro e w3 ⟨rfl, o3, h3⟩)
            | (refine (gs_free HG.out (by omega) (Nat.le_refl _) hkl).mono ?_; rintro e w3 ⟨rfl, o3, h3⟩)
          have HB3 := Lib.hid ((o3.block g (HG.out.loc g HGT.out).2 (fun x => x.2 HGT.out)).trans HBK.out)
          have H3 := Lib.hid h3
          clear o3 h3 HG HBK
          obtain ⟨p0, p1, p2, p3⟩ := ptr_cells HB3.out HTK.out hkl
          go_wp2_with fail
          refine (gs_live_dead H3.out hkl).mono ?_; rintro e w4 ⟨rfl, rfl⟩
          go_wp2_with fail
          refine (gs_free_dead H3.out (by omega) hkl _).mono ?_; rintro e w4 ⟨rfl, o4, h4⟩
          have HB4 := Lib.hid ((o4.block g (H3.out.loc g HGT.out).2 (fun x => x.2 HGT.out)).trans HB3.out)
          have H4 := Lib.hid h4
          clear o4 h4 H3 HB3 p0 p1 p2 p3
          obtain ⟨p0, p1, p2, p3⟩ := ptr_cells HB4.out HTK.out hkl
          go_wp2_with fail
          refine (gs_end_dead H4.out (by omega) hkl).mono ?_; rintro e w5 ⟨rfl, o5, h5⟩
          have HB5 := Lib.hid ((o5.block g (H4.out.loc g HGT.out).2 (fun x => x.2 HGT.out)).trans HB4.out)
          have H5 := Lib.hid h5
          clear o5 h5 H4 HB4 p0 p1 p2 p3
          obtain ⟨p0, p1, p2, p3⟩ := ptr_cells HB5.out HTK.out hkl
          go_wp2_with fail
          refine (gs_clear_dead H5.out (by omega) hkl).mono ?_; rintro e w6 ⟨rfl, o6, h6⟩
          have HB6 := Lib.hid ((o6.block g (H5.out.loc g HGT.out).2 (fun x => x.2 HGT.out)).trans HB5.out)
          have H6 := Lib.hid h6
          clear o6 h6 H5 HB5 p0 p1 p2 p3
          go_wp2_with fail
          have hmk := gs_make H6.out (by omega) (Nat.le_refl _) (fun j hj => by cases hj; exact hkl) (by rw [HS8.out]; omega) (by rw [HS8.out]; omega)
          rw [HS8.out] at hmk
          refine hmk.mono ?_; rintro e w7 ⟨rfl, h7, o7⟩
          have HB7 := Lib.hid ((o7.block g (H6.out.loc g HGT.out).2 (fun x => x.2 HGT.out)).trans HB6.out)
          have H7 := Lib.hid h7
          clear hmk o7 h7 H6 HB6
          go_wp2_with fail
          obtain ⟨t16, w8, e1, e2, h8, k16, s8⟩ := H7.out.made (pObj (zs.length + 1) 0 0 8)
          rw [e1, e2]
          have HB8 := Lib.hid (s8.keeps HB7.out)
          have H8 := Lib.hid h8
          obtain ⟨p0, p1, p2, p3⟩ := ptr_cells HB8.out HTK.out hkl
          obtain ⟨c0, c1, c2, c3, _⟩ := cells_known4 k16
          have lg := lt_obj HB8.out
          have l16 := lt_obj k16
          clear e1 e2 h8 k16 s8 H7 HB7
          refine wp_region_each 10 planG (fun _ _ => False) (Step (fun _ => False) w8) (fun _ => True) [Is ?v22_1_0, Is ?v22_1_1, Is ?v22_1_2, Is ?v22_1_3, Is ?v22_1_4, Is ?v22_1_5, Is ?v22_1_6, Is ?v22_1_7, Is ?v22_1_8, Is ?v22_1_9] [] (by kernel_rfl) (by kernel_rfl) (fun _ _ h => h.elim) ((Step.refl _ _).drew) (trivial) ?stab22_1 ?stabD22_1 ?obl22_1 ?fin22_1
          case stab22_1 => exact fun w w' h => ⟨fun k => k.trans h (fun _ x => x.elim), fun _ => trivial, ⟨fun _ k => k, fun _ k => k, fun _ k => k, fun _ k => k, fun _ k => k, fun _ k => k, fun _ k => k, fun _ k => k, fun _ k => k, fun _ k => k, trivial⟩, trivial⟩
          case stabD22_1 => exact fun _ _ h => h.elim
          case obl22_1 =>
            refine ⟨?o22_1_0, ?o22_1_1, ?o22_1_2, ?o22_1_3, ?o22_1_4, ?o22_1_5, ?o22_1_6, ?o22_1_7, ?o22_1_8, ?o22_1_9, trivial⟩
            case o22_1_0 =>
              intro xv wq hH hS H hU aq ha Q' hQ
              have cc := scell hH
              change aq = puts _ xv [] at ha
              simp only [puts] at ha
              subst ha; clear H 
              clear hU hS
              go_wp2_with fail
              (try refine hQ _ _ ?_)
              refine ⟨Step.refl _ _, ?_, trivial, nofun⟩
              exact (rfl : _ = _)
            case o22_1_1 =>
              intro xv wq hH hS H hU aq ha Q' hQ
              have cc := scell hH
              have h0 : xv 0 = _ := H 0 (by kernel_rfl)
              change aq = puts _ xv [(0, some 142)] at ha
              simp only [puts, Act.put, List.setIfInBounds_toArray, List.set_cons_zero, List.set_cons_succ, h0] at ha
              subst ha; clear H h0
              clear hU hS
              go_wp2_with fail
              (try refine hQ _ _ ?_)
              refine ⟨Step.refl _ _, ?_, trivial, nofun⟩
              exact (rfl : _ = _)
            case o22_1_2 =>
              intro xv wq hH hS H hU aq ha Q' hQ
              have cc := scell hH
              have h1 : xv 1 = _ := H 1 (by kernel_rfl)
              change aq = puts _ xv [(1, some 143)] at ha
              simp only [puts, Act.put, List.setIfInBounds_toArray, List.set_cons_zero, List.set_cons_succ, h1] at ha
              subst ha; clear H h1
              clear hU hS
              go_wp2_with fail
              (try refine hQ _ _ ?_)
              refine ⟨Step.refl _ _, ?_, trivial, nofun⟩
              exact (rfl : _ = _)
            case o22_1_3 =>
              intro xv wq hH hS H hU aq ha Q' hQ
              have cc := scell hH
              have h2 : xv 2 = _ := H 2 (by kernel_rfl)
              change aq = puts _ xv [(2, some 144)] at ha
              simp only [puts, Act.put, List.setIfInBounds_toArray, List.set_cons_zero, List.set_cons_succ, h2] at ha
              subst ha; clear H h2
              clear hU hS
              go_wp2_with fail
              (try refine hQ _ _ ?_)
              refine ⟨Step.refl _ _, ?_, trivial, nofun⟩
              exact (rfl : _ = _)
            case o22_1_4 =>
              intro xv wq hH hS H hU aq ha Q' hQ
              have cc := scell hH
              have h2 : xv 2 = _ := H 2 (by kernel_rfl)
              have h3 : xv 3 = _ := H 3 (by kernel_rfl)
              change aq = puts _ xv [(2, some 144), (3, some 145)] at ha
              simp only [puts, Act.put, List.setIfInBounds_toArray, List.set_cons_zero, List.set_cons_succ, h2, h3] at ha
              subst ha; clear H h2 h3
              clear hU hS
              go_wp2_with fail
              (try refine hQ _ _ ?_)
              refine ⟨Step.refl _ _, ?_, trivial, nofun⟩
              exact (rfl : _ = _)
            case o22_1_5 =>
              intro xv wq hH hS H hU aq ha Q' hQ
              have cc := scell hH
              have h2 : xv 2 = _ := H 2 (by kernel_rfl)
              change aq = puts _ xv [(2, some 144)] at ha
              simp only [puts, Act.put, List.setIfInBounds_toArray, List.set_cons_zero, List.set_cons_succ, h2] at ha
              subst ha; clear H h2
              clear hU hS
              go_wp2_with fail
              (try refine hQ _ _ ?_)
              refine ⟨Step.refl _ _, ?_, trivial, nofun⟩
              exact (rfl : _ = _)
            case o22_1_6 =>
              intro xv wq hH hS H hU aq ha Q' hQ
              have cc := scell hH
              have h2 : xv 2 = _ := H 2 (by kernel_rfl)
              change aq = puts _ xv [(2, some 144)] at ha
              simp only [puts, Act.put, List.setIfInBounds_toArray, List.set_cons_zero, List.set_cons_succ, h2] at ha
              subst ha; clear H h2
              clear hU hS
              go_wp2_with fail
              (try refine hQ _ _ ?_)
              refine ⟨Step.refl _ _, ?_, trivial, nofun⟩
              exact (rfl : _ = _)
            case o22_1_7 =>
              intro xv wq hH hS H hU aq ha Q' hQ
              have cc := scell hH
              have h2 : xv 2 = _ := H 2 (by kernel_rfl)
              have h5 : xv 5 = _ := H 5 (by kernel_rfl)
              have h6 : xv 6 = _ := H 6 (by kernel_rfl)
              change aq = puts _ xv [(2, some 144), (5, some 147), (6, some 148)] at ha
              simp only [puts, Act.put, List.setIfInBounds_toArray, List.set_cons_zero, List.set_cons_succ, h2, h5, h6] at ha
              subst ha; clear H h2 h5 h6
              clear hU hS
              go_wp2_with fail
              (try refine hQ _ _ ?_)
              refine ⟨Step.refl _ _, ?_, trivial, nofun⟩
              exact (rfl : _ = _)
            case o22_1_8 =>
              intro xv wq hH hS H hU aq ha Q' hQ
              have cc := scell hH
              have h2 : xv 2 = _ := H 2 (by kernel_rfl)
              have h7 : xv 7 = _ := H 7 (by kernel_rfl)
              change aq = puts _ xv [(2, some 144), (7, some 149)] at ha
              simp only [puts, Act.put, List.setIfInBounds_toArray, List.set_cons_zero, List.set_cons_succ, h2, h7] at ha
              subst ha; clear H h2 h7
              clear hU hS
              go_wp2_with fail
              (try refine hQ _ _ ?_)
              refine ⟨Step.refl _ _, ?_, trivial, nofun⟩
              exact (rfl : _ = _)
            case o22_1_9 =>
              intro xv wq hH hS H hU aq ha Q' hQ
              have cc := scell hH
              have h2 : xv 2 = _ := H 2 (by kernel_rfl)
              have h8 : xv 8 = _ := H 8 (by kernel_rfl)
              change aq = puts _ xv [(2, some 144), (8, some 150)] at ha
              simp only [puts, Act.put, List.setIfInBounds_toArray, List.set_cons_zero, List.set_cons_succ, h2, h8] at ha
              subst ha; clear H h2 h8
              clear hU hS
              go_wp2_with fail
              (try refine hQ _ _ ?_)
              refine ⟨Step.refl _ _, ?_, trivial, nofun⟩
              exact (rfl : _ = _)
          intro xv w9 hH hS H hU hsz hF hN
          have h0 : xv 0 = _ := H 0 (by decide) (by kernel_rfl)
          have h1 : xv 1 = _ := H 1 (by decide) (by kernel_rfl)
          have h2 : xv 2 = _ := H 2 (by decide) (by kernel_rfl)
          have h3 : xv 3 = _ := H 3 (by decide) (by kernel_rfl)
          have h4 : xv 4 = _ := H 4 (by decide) (by kernel_rfl)
          have h5 : xv 5 = _ := H 5 (by decide) (by kernel_rfl)
          have h6 : xv 6 = _ := H 6 (by decide) (by kernel_rfl)
          have h7 : xv 7 = _ := H 7 (by decide) (by kernel_rfl)
          have h8 : xv 8 = _ := H 8 (by decide) (by kernel_rfl)
          have h9 : xv 9 = _ := H 9 (by decide) (by kernel_rfl)
          simp only [planG, puts, Act.put, List.setIfInBounds_toArray, List.set_cons_zero, List.set_cons_succ, List.drop_succ_cons, List.drop_zero, h0, h1, h2, h3, h4, h5, h6, h7, h8, h9]
          clear H hF hN hS hU h0 h1 h2 h3 h4 h5 h6 h7 h8 h9
          have INV : GInv2 w w9 p k zs x T g cur (zs.length + 0) := ⟨(H8.out.still hH).drop, hH.keeps HB8.out⟩
          have HI := Lib.hid INV
          clear INV hH hsz H8 HB8 p0 p1 p2 p3 c0 c1 c2 c3 lg l16
          go_wp2_with fail
          go_loopw [17, 18, 19, 20, 21, 156] (fun _ _ _ _ _ i wr => ∃ j : Nat, j ≤ zs.length ∧ i = .int .i64 j ∧ GInv2 w wr p k zs x T g cur (zs.length + j)) (fun _ _ _ _ _ i _ => zs.length - (intOf i).toNat)
          case atStart => exact ⟨0, by omega, rfl, HI.out⟩
          case round =>
            obtain ⟨i, hi, rfl, hI⟩ := hrel
            clear HI
            obtain ⟨hG, hB⟩ := hI
            by_cases hlt : i < zs.length
            · obtain ⟨p0, p1, p2, p3⟩ := ptr_cells hB HTK.out hlt
              have dk : decide (i < zs.length) = true := decide_eq_true hlt
              have hz := HZ.out i
              generalize hsi : szOf zs i = s at *
              have HSI := Lib.hid hsi
              have HG := Lib.hid hG
              have HB := Lib.hid hB
              clear hsi hG hB
              obtain ⟨hz0, hz1⟩ := hz
              obtain ⟨B, X, C, b1, b2, hX, hC, hfin⟩ := dead_or x i k
              have HX := Lib.hid hX
              have HC := Lib.hid hC
              obtain ⟨Y, hY⟩ : ∃ Y : HV, Y = X := ⟨_, rfl⟩
              have HY := Lib.hid hY
              clear hX hC hY
              rcases hfin with ⟨rfl, rfl, rfl⟩ | ⟨rfl, rfl, rfl⟩
              · skip
                simp only [Bool.not_true, Bool.not_false] at b2
                go_wp2_with fail
                obtain ⟨t18, v1, e1, e2, h1, k18, s1⟩ := HG.out.made (pObj (i + 1) 0 0 s)
                rw [e1]
                have hld := gs_load h1 (by omega) (by omega) hlt (by rw [HSI.out]; omega) (by rw [HSI.out]; omega)
                rw [HSI.out, HX.out, HC.out] at hld
                simp only [HV.val, HV.zero, valOf] at hld
                have HBa := Lib.hid (s1.keeps HB.out)
                have K18 := Lib.hid k18
                have HE := Lib.hid e2
                clear p0 p1 p2 p3 e1 e2 k18 s1 h1 HG HB
                refine hld.mono ?_; rintro e v2 ⟨rfl, h2, s2⟩
                rw [HE.out]
                have HBb := Lib.hid (s2.keeps HBa.out)
                have K18b := Lib.hid (s2.keeps K18.out)
                have H2 := Lib.hid h2
                clear hld h2 s2 HE HBa K18
                go_wp2_with fail
                first
                  | obtain ⟨t19, v3, e1, e2, h3, k19, s3⟩ := H2.out.made (vObj 0 0 0 0 0)
                    rw [e1, e2]
                  | obtain ⟨t19, v3, e1, e2, h3, k19, s3⟩ := H2.out.made (vObj (IntKind.u64.wrap (x + i)) 0 0 0 0)
                    rw [e1, e2]
                have HBc := Lib.hid (s3.keeps HBb.out)
                have k18 := s3.keeps K18b.out
                obtain ⟨c0, c1, c2, c3, _⟩ := cells_known4 k18
                obtain ⟨d0, d1, d2, d3, d4, _⟩ := cells_known5 k19
                have l18 := lt_obj k18
                have l19 := lt_obj k19
                have K18c := Lib.hid k18
                have K19 := Lib.hid k19
                have H3 := Lib.hid h3
                clear e1 e2 h3 k19 k18 s3 H2 HBb K18b
                refine wp_region_each 4 planH (fun _ _ => False) (Step (fun _ => False) v3) (fun _ => True) [Is ?v28_2_0, Is ?v28_2_1, Is ?v28_2_2, Is ?v28_2_3] [] (by kernel_rfl) (by kernel_rfl) (fun _ _ h => h.elim) ((Step.refl _ _).drew) (trivial) ?stab28_2 ?stabD28_2 ?obl28_2 ?fin28_2
                case stab28_2 => exact fun w w' h => ⟨fun k => k.trans h (fun _ x => x.elim), fun _ => trivial, ⟨fun _ k => k, fun _ k => k, fun _ k => k, fun _ k => k, trivial⟩, trivial⟩
                case stabD28_2 => exact fun _ _ h => h.elim
                case obl28_2 =>
                  refine ⟨?o28_2_0, ?o28_2_1, ?o28_2_2, ?o28_2_3, trivial⟩
                  case o28_2_0 =>
                    intro xv wq hH hS H hU aq ha Q' hQ
                    have cc := scell hH
                    change aq = puts _ xv [] at ha
                    simp only [puts] at ha
                    subst ha; clear H 
                    clear hU hS
                    go_wp2_with fail
                    (try refine hQ _ _ ?_)
                    refine ⟨Step.refl _ _, ?_, trivial, nofun⟩
                    exact (rfl : _ = _)
                  case o28_2_1 =>
                    intro xv wq hH hS H hU aq ha Q' hQ
                    have cc := scell hH
                    change aq = puts _ xv [] at ha
                    simp only [puts] at ha
                    subst ha; clear H 
                    clear hU hS
                    go_wp2_with fail
                    (try refine hQ _ _ ?_)
                    refine ⟨Step.refl _ _, ?_, trivial, nofun⟩
                    exact (rfl : _ = _)
                  case o28_2_2 =>
                    intro xv wq hH hS H hU aq ha Q' hQ
                    have cc := scell hH
                    have h1 : xv 1 = _ := H 1 (by kernel_rfl)
                    change aq = puts _ xv [(1, some 168)] at ha
                    simp only [puts, Act.put, List.setIfInBounds_toArray, List.set_cons_zero, List.set_cons_succ, h1] at ha
                    subst ha; clear H h1
                    clear hU hS
                    go_wp2_with fail
                    refine (move_at (x := 1) (by omega) (by decide +kernel) _).mono ?_; rintro e w4 ⟨rfl, s4⟩
                    go_wp2_with fail
                    (try refine hQ _ _ ?_)
                    refine ⟨s4, ?_, trivial, nofun⟩
                    exact (rfl : _ = _)
                  case o28_2_3 =>
                    intro xv wq hH hS H hU aq ha Q' hQ
                    have cc := scell hH
                    change aq = puts _ xv [] at ha
                    simp only [puts] at ha
                    subst ha; clear H 
                    clear hU hS
                    go_wp2_with fail
                    (try refine hQ _ _ ?_)
                    refine ⟨Step.refl _ _, ?_, trivial, nofun⟩
                    exact (rfl : _ = _)
                intro xv v4 hH hS H hU hsz hF hN
                have h0 : xv 0 = _ := H 0 (by decide) (by kernel_rfl)
                have h1 : xv 1 = _ := H 1 (by decide) (by kernel_rfl)
                have h2 : xv 2 = _ := H 2 (by decide) (by kernel_rfl)
                have h3 : xv 3 = _ := H 3 (by decide) (by kernel_rfl)
                simp only [planH, puts, Act.put, List.setIfInBounds_toArray, List.set_cons_zero, List.set_cons_succ, List.drop_succ_cons, List.drop_zero, h0, h1, h2, h3]
                clear H hF hN hS hU h0 h1 h2 h3
                have hpt := gs_put (H3.out.still hH) (by omega) (by omega) (by omega) (i := i) (off := 1) (n := 1) (by omega) (.inl rfl) (by omega) (by rw [HSI.out]; omega) (by rw [HSI.out]; omega) Y
                rw [HSI.out, HC.out, HY.out] at hpt
                simp only [HV.val, HV.zero, valOf] at hpt
                have HPT := Lib.hid hpt
                have HBd := Lib.hid (hH.keeps HBc.out)
                have K19d := Lib.hid (hH.keeps K19.out)
                have LOC := Lib.hid (H3.out.still hH).loc
                clear hH hsz hpt H3 HBc K18c K19 c0 c1 c2 c3 d0 d1 d2 d3 d4 l18 l19
                go_wp2_with fail
                refine HPT.out.mono ?_; rintro e v5 ⟨rfl, o5, h5, _⟩
                have HBe := Lib.hid ((o5.block g (LOC.out g (by simp [HGT.out])).2 (fun x => x.2 (by simp [HGT.out]))).trans HBd.out)
                have k19 := (o5.block t19 (LOC.out t19 (by simp)).2 (fun x => x.2 (by simp))).trans K19d.out
                obtain ⟨d0, d1, d2, d3, d4, _⟩ := cells_known5 k19
                have H5 := Lib.hid (h5 (by omega))
                clear o5 h5 HPT HBd K19d LOC k19
                go_wp2_with fail
                go_roundw
                case rel => exact ⟨i + 1, by omega, by go_num, H5.out.drop.drop.le (by omega), HBe.out⟩
                case measure => simp [intOf]; omega
              · skip
                simp only [Bool.not_true, Bool.not_false] at b2
                go_wp2_with fail
                obtain ⟨t18, v1, e1, e2, h1, k18, s1⟩ := HG.out.made (pObj (i + 1) 0 0 s)
                rw [e1]
                have hld := gs_load h1 (by omega) (by omega) hlt (by rw [HSI.out]; omega) (by rw [HSI.out]; omega)
                rw [HSI.out, HX.out, HC.out] at hld
                simp only [HV.val, HV.zero, valOf] at hld
                have HBa := Lib.hid (s1.keeps HB.out)
                have K18 := Lib.hid k18
                have HE := Lib.hid e2
                clear p0 p1 p2 p3 e1 e2 k18 s1 h1 HG HB
                refine hld.mono ?_; rintro e v2 ⟨rfl, h2, s2⟩
                rw [HE.out]
                have HBb := Lib.hid (s2.keeps HBa.out)
                have K18b := Lib.hid (s2.keeps K18.out)
                have H2 := Lib.hid h2
                clear hld h2 s2 HE HBa K18
                go_wp2_with fail
                first
                  | obtain ⟨t19, v3, e1, e2, h3, k19, s3⟩ := H2.out.made (vObj 0 0 0 0 0)
                    rw [e1, e2]
                  | obtain ⟨t19, v3, e1, e2, h3, k19, s3⟩ := H2.out.made (vObj (IntKind.u64.wrap (x + i)) 0 0 0 0)
                    rw [e1, e2]
                have HBc := Lib.hid (s3.keeps HBb.out)
                have k18 := s3.keeps K18b.out
                obtain ⟨c0, c1, c2, c3, _⟩ := cells_known4 k18
                obtain ⟨d0, d1, d2, d3, d4, _⟩ := cells_known5 k19
                have l18 := lt_obj k18
                have l19 := lt_obj k19
                have K18c := Lib.hid k18
                have K19 := Lib.hid k19
                have H3 := Lib.hid h3
                clear e1 e2 h3 k19 k18 s3 H2 HBb K18b
                refine wp_region_each 4 planH (fun _ _ => False) (Step (fun _ => False) v3) (fun _ => True) [Is ?v28_3_0, Is ?v28_3_1, Is ?v28_3_2, Is ?v28_3_3] [] (by kernel_rfl) (by kernel_rfl) (fun _ _ h => h.elim) ((Step.refl _ _).drew) (trivial) ?stab28_3 ?stabD28_3 ?obl28_3 ?fin28_3
                case stab28_3 => exact fun w w' h => ⟨fun k => k.trans h (fun _ x => x.elim), fun _ => trivial, ⟨fun _ k => k, fun _ k => k, fun _ k => k, fun _ k => k, trivial⟩, trivial⟩
                case stabD28_3 => exact fun _ _ h => h.elim
                case obl28_3 =>
                  refine ⟨?o28_3_0, ?o28_3_1, ?o28_3_2, ?o28_3_3, trivial⟩
                  case o28_3_0 =>
                    intro xv wq hH hS H hU aq ha Q' hQ
                    have cc := scell hH
                    change aq = puts _ xv [] at ha
                    simp only [puts] at ha
                    subst ha; clear H 
                    clear hU hS
                    go_wp2_with fail
                    (try refine hQ _ _ ?_)
                    refine ⟨Step.refl _ _, ?_, trivial, nofun⟩
                    exact (rfl : _ = _)
                  case o28_3_1 =>
                    intro xv wq hH hS H hU aq ha Q' hQ
                    have cc := scell hH
                    change aq = puts _ xv [] at ha
                    simp only [puts] at ha
                    subst ha; clear H 
                    clear hU hS
                    go_wp2_with fail
                    (try refine hQ _ _ ?_)
                    refine ⟨Step.refl _ _, ?_, trivial, nofun⟩
                    exact (rfl : _ = _)
                  case o28_3_2 =>
                    intro xv wq hH hS H hU aq ha Q' hQ
                    have cc := scell hH
                    have h1 : xv 1 = _ := H 1 (by kernel_rfl)
                    change aq = puts _ xv [(1, some 168)] at ha
                    simp only [puts, Act.put, List.setIfInBounds_toArray, List.set_cons_zero, List.set_cons_succ, h1] at ha
                    subst ha; clear H h1
                    clear hU hS
                    go_wp2_with fail
                    refine (move_at (x := 1) (by omega) (by decide +kernel) _).mono ?_; rintro e w4 ⟨rfl, s4⟩
                    go_wp2_with fail
                    (try refine hQ _ _ ?_)
                    refine ⟨s4, ?_, trivial, nofun⟩
                    exact (rfl : _ = _)
                  case o28_3_3 =>
                    intro xv wq hH hS H hU aq ha Q' hQ
                    have cc := scell hH
                    change aq = puts _ xv [] at ha
                    simp only [puts] at ha
                    subst ha; clear H 
                    clear hU hS
                    go_wp2_with fail
                    (try refine hQ _ _ ?_)
                    refine ⟨Step.refl _ _, ?_, trivial, nofun⟩
                    exact (rfl : _ = _)
                intro xv v4 hH hS H hU hsz hF hN
                have h0 : xv 0 = _ := H 0 (by decide) (by kernel_rfl)
                have h1 : xv 1 = _ := H 1 (by decide) (by kernel_rfl)
                have h2 : xv 2 = _ := H 2 (by decide) (by kernel_rfl)
                have h3 : xv 3 = _ := H 3 (by decide) (by kernel_rfl)
                simp only [planH, puts, Act.put, List.setIfInBounds_toArray, List.set_cons_zero, List.set_cons_succ, List.drop_succ_cons, List.drop_zero, h0, h1, h2, h3]
                clear H hF hN hS hU h0 h1 h2 h3
                have hpt := gs_put (H3.out.still hH) (by omega) (by omega) (by omega) (i := i) (off := 1) (n := 1) (by omega) (.inl rfl) (by omega) (by rw [HSI.out]; omega) (by rw [HSI.out]; omega) Y
                rw [HSI.out, HC.out, HY.out] at hpt
                simp only [HV.val, HV.zero, valOf] at hpt
                have HPT := Lib.hid hpt
                have HBd := Lib.hid (hH.keeps HBc.out)
                have K19d := Lib.hid (hH.keeps K19.out)
                have LOC := Lib.hid (H3.out.still hH).loc
                clear hH hsz hpt H3 HBc K18c K19 c0 c1 c2 c3 d0 d1 d2 d3 d4 l18 l19
                go_wp2_with fail
                refine HPT.out.mono ?_; rintro e v5 ⟨rfl, o5, h5, _⟩
                have HBe := Lib.hid ((o5.block g (LOC.out g (by simp [HGT.out])).2 (fun x => x.2 (by simp [HGT.out]))).trans HBd.out)
                have k19 := (o5.block t19 (LOC.out t19 (by simp)).2 (fun x => x.2 (by simp))).trans K19d.out
                obtain ⟨d0, d1, d2, d3, d4, _⟩ := cells_known5 k19
                have H5 := Lib.hid (h5 (by omega))
                clear o5 h5 HPT HBd K19d LOC k19
                go_wp2_with fail
                go_roundw
                case rel => exact ⟨i + 1, by omega, by go_num, H5.out.drop.drop.le (by omega), HBe.out⟩
                case measure => simp [intOf]; omega
            · have dk : decide (i < zs.length) = false := decide_eq_false hlt
              have HG := Lib.hid hG
              clear hG hB
              go_wp2_with fail
              go_ret
              exact ⟨rfl, HG.out.below⟩
        · skip
          obtain ⟨p0, p1, p2, p3⟩ := ptr_cells HBK.out HTK.out hkl
          go_wp2_with fail
          clear p0 p1 p2 p3
          first
            | (refine (gs_end HG.out (by omega) (Nat.le_refl _) hkl).mono ?_; rintro e w3 ⟨rfl, o3, h3⟩)
            | (refine (gs_free HG.out (by omega) (Nat.le_refl _) hkl).mono ?_; rintro e w3 ⟨rfl, o3, h3⟩)
          have HB3 := Lib.hid ((o3.block g (HG.out.loc g HGT.out).2 (fun x => x.2 HGT.out)).trans HBK.out)
          have H3 := Lib.hid h3
          clear o3 h3 HG HBK
          obtain ⟨p0, p1, p2, p3⟩ := ptr_cells HB3.out HTK.out hkl
          go_wp2_with fail
          refine (gs_live_dead H3.out hkl).mono ?_; rintro e w4 ⟨rfl, rfl⟩
          go_wp2_with fail
          refine (gs_free_dead H3.out (by omega) hkl _).mono ?_; rintro e w4 ⟨rfl, o4, h4⟩
          have HB4 := Lib.hid ((o4.block g (H3.out.loc g HGT.out).2 (fun x => x.2 HGT.out)).trans HB3.out)
          have H4 := Lib.hid h4
          clear o4 h4 H3 HB3 p0 p1 p2 p3
          obtain ⟨p0, p1, p2, p3⟩ := ptr_cells HB4.out HTK.out hkl
          go_wp2_with fail
          refine (gs_end_dead H4.out (by omega) hkl).mono ?_; rintro e w5 ⟨rfl, o5, h5⟩
          have HB5 := Lib.hid ((o5.block g (H4.out.loc g HGT.out).2 (fun x => x.2 HGT.out)).trans HB4.out)
          have H5 := Lib.hid h5
          clear o5 h5 H4 HB4 p0 p1 p2 p3
          obtain ⟨p0, p1, p2, p3⟩ := ptr_cells HB5.out HTK.out hkl
          go_wp2_with fail
          refine (gs_clear_dead H5.out (by omega) hkl).mono ?_; rintro e w6 ⟨rfl, o6, h6⟩
          have HB6 := Lib.hid ((o6.block g (H5.out.loc g HGT.out).2 (fun x => x.2 HGT.out)).trans HB5.out)
          have H6 := Lib.hid h6
          clear o6 h6 H5 HB5 p0 p1 p2 p3
          go_wp2_with fail
          have hmk := gs_make H6.out (by omega) (Nat.le_refl _) (fun j hj => by cases hj; exact hkl) (by rw [HS8.out]; omega) (by rw [HS8.out]; omega)
          rw [HS8.out] at hmk
          refine hmk.mono ?_; rintro e w7 ⟨rfl, h7, o7⟩
          have HB7 := Lib.hid ((o7.block g (H6.out.loc g HGT.out).2 (fun x => x.2 HGT.out)).trans HB6.out)
          have H7 := Lib.hid h7
          clear hmk o7 h7 H6 HB6
          go_wp2_with fail
          obtain ⟨t16, w8, e1, e2, h8, k16, s8⟩ := H7.out.made (pObj (zs.length + 1) 0 0 8)
          rw [e1, e2]
          have HB8 := Lib.hid (s8.keeps HB7.out)
          have H8 := Lib.hid h8
          obtain ⟨p0, p1, p2, p3⟩ := ptr_cells HB8.out HTK.out hkl
          obtain ⟨c0, c1, c2, c3, _⟩ := cells_known4 k16
          have lg := lt_obj HB8.out
          have l16 := lt_obj k16
          clear e1 e2 h8 k16 s8 H7 HB7
          refine wp_region_each 10 planG (fun _ _ => False) (Step (fun _ => False) w8) (fun _ => True) [Is ?v22_4_0, Is ?v22_4_1, Is ?v22_4_2, Is ?v22_4_3, Is ?v22_4_4, Is ?v22_4_5, Is ?v22_4_6, Is ?v22_4_7, Is ?v22_4_8, Is ?v22_4_9] [] (by kernel_rfl) (by kernel_rfl) (fun _ _ h => h.elim) ((Step.refl _ _).drew) (trivial) ?stab22_4 ?stabD22_4 ?obl22_4 ?fin22_4
          case stab22_4 => exact fun w w' h => ⟨fun k => k.trans h (fun _ x => x.elim), fun _ => trivial, ⟨fun _ k => k, fun _ k => k, fun _ k => k, fun _ k => k, fun _ k => k, fun _ k => k, fun _ k => k, fun _ k => k, fun _ k => k, fun _ k => k, trivial⟩, trivial⟩
          case stabD22_4 => exact fun _ _ h => h.elim
          case obl22_4 =>
            refine ⟨?o22_4_0, ?o22_4_1, ?o22_4_2, ?o22_4_3, ?o22_4_4, ?o22_4_5, ?o22_4_6, ?o22_4_7, ?o22_4_8, ?o22_4_9, trivial⟩
            case o22_4_0 =>
              intro xv wq hH hS H hU aq ha Q' hQ
              have cc := scell hH
              change aq = puts _ xv [] at ha
              simp only [puts] at ha
              subst ha; clear H 
              clear hU hS
              go_wp2_with fail
              (try refine hQ _ _ ?_)
              refine ⟨Step.refl _ _, ?_, trivial, nofun⟩
              exact (rfl : _ = _)
            case o22_4_1 =>
              intro xv wq hH hS H hU aq ha Q' hQ
              have cc := scell hH
              have h0 : xv 0 = _ := H 0 (by kernel_rfl)
              change aq = puts _ xv [(0, some 142)] at ha
              simp only [puts, Act.put, List.setIfInBounds_toArray, List.set_cons_zero, List.set_cons_succ, h0] at ha
              subst ha; clear H h0
              clear hU hS
              go_wp2_with fail
              (try refine hQ _ _ ?_)
              refine ⟨Step.refl _ _, ?_, trivial, nofun⟩
              exact (rfl : _ = _)
            case o22_4_2 =>
              intro xv wq hH hS H hU aq ha Q' hQ
              have cc := scell hH
              have h1 : xv 1 = _ := H 1 (by kernel_rfl)
              change aq = puts _ xv [(1, some 143)] at ha
              simp only [puts, Act.put, List.setIfInBounds_toArray, List.set_cons_zero, List.set_cons_succ, h1] at ha
              subst ha; clear H h1
              clear hU hS
              go_wp2_with fail
              (try refine hQ _ _ ?_)
              refine ⟨Step.refl _ _, ?_, trivial, nofun⟩
              exact (rfl : _ = _)
            case o22_4_3 =>
              intro xv wq hH hS H hU aq ha Q' hQ
              have cc := scell hH
              have h2 : xv 2 = _ := H 2 (by kernel_rfl)
              change aq = puts _ xv [(2, some 144)] at ha
              simp only [puts, Act.put, List.setIfInBounds_toArray, List.set_cons_zero, List.set_cons_succ, h2] at ha
              subst ha; clear H h2
              clear hU hS
              go_wp2_with fail
              (try refine hQ _ _ ?_)
              refine ⟨Step.refl _ _, ?_, trivial, nofun⟩
              exact (rfl : _ = _)
            case o22_4_4 =>
              intro xv wq hH hS H hU aq ha Q' hQ
              have cc := scell hH
              have h2 : xv 2 = _ := H 2 (by kernel_rfl)
              have h3 : xv 3 = _ := H 3 (by kernel_rfl)
              change aq = puts _ xv [(2, some 144), (3, some 145)] at ha
              simp only [puts, Act.put, List.setIfInBounds_toArray, List.set_cons_zero, List.set_cons_succ, h2, h3] at ha
              subst ha; clear H h2 h3
              clear hU hS
              go_wp2_with fail
              (try refine hQ _ _ ?_)
              refine ⟨Step.refl _ _, ?_, trivial, nofun⟩
              exact (rfl : _ = _)
            case o22_4_5 =>
              intro xv wq hH hS H hU aq ha Q' hQ
              have cc := scell hH
              have h2 : xv 2 = _ := H 2 (by kernel_rfl)
              change aq = puts _ xv [(2, some 144)] at ha
              simp only [puts, Act.put, List.setIfInBounds_toArray, List.set_cons_zero, List.set_cons_succ, h2] at ha
              subst ha; clear H h2
              clear hU hS
              go_wp2_with fail
              (try refine hQ _ _ ?_)
              refine ⟨Step.refl _ _, ?_, trivial, nofun⟩
              exact (rfl : _ = _)
            case o22_4_6 =>
              intro xv wq hH hS H hU aq ha Q' hQ
              have cc := scell hH
              have h2 : xv 2 = _ := H 2 (by kernel_rfl)
              change aq = puts _ xv [(2, some 144)] at ha
              simp only [puts, Act.put, List.setIfInBounds_toArray, List.set_cons_zero, List.set_cons_succ, h2] at ha
              subst ha; clear H h2
              clear hU hS
              go_wp2_with fail
              (try refine hQ _ _ ?_)
              refine ⟨Step.refl _ _, ?_, trivial, nofun⟩
              exact (rfl : _ = _)
            case o22_4_7 =>
              intro xv wq hH hS H hU aq ha Q' hQ
              have cc := scell hH
              have h2 : xv 2 = _ := H 2 (by kernel_rfl)
              have h5 : xv 5 = _ := H 5 (by kernel_rfl)
              have h6 : xv 6 = _ := H 6 (by kernel_rfl)
              change aq = puts _ xv [(2, some 144), (5, some 147), (6, some 148)] at ha
              simp only [puts, Act.put, List.setIfInBounds_toArray, List.set_cons_zero, List.set_cons_succ, h2, h5, h6] at ha
              subst ha; clear H h2 h5 h6
              clear hU hS
              go_wp2_with fail
              (try refine hQ _ _ ?_)
              refine ⟨Step.refl _ _, ?_, trivial, nofun⟩
              exact (rfl : _ = _)
            case o22_4_8 =>
              intro xv wq hH hS H hU aq ha Q' hQ
              have cc := scell hH
              have h2 : xv 2 = _ := H 2 (by kernel_rfl)
              have h7 : xv 7 = _ := H 7 (by kernel_rfl)
              change aq = puts _ xv [(2, some 144), (7, some 149)] at ha
              simp only [puts, Act.put, List.setIfInBounds_toArray, List.set_cons_zero, List.set_cons_succ, h2, h7] at ha
              subst ha; clear H h2 h7
              clear hU hS
              go_wp2_with fail
              (try refine hQ _ _ ?_)
              refine ⟨Step.refl _ _, ?_, trivial, nofun⟩
              exact (rfl : _ = _)
            case o22_4_9 =>
              intro xv wq hH hS H hU aq ha Q' hQ
              have cc := scell hH
              have h2 : xv 2 = _ := H 2 (by kernel_rfl)
              have h8 : xv 8 = _ := H 8 (by kernel_rfl)
              change aq = puts _ xv [(2, some 144), (8, some 150)] at ha
              simp only [puts, Act.put, List.setIfInBounds_toArray, List.set_cons_zero, List.set_cons_succ, h2, h8] at ha
              subst ha; clear H h2 h8
              clear hU hS
              go_wp2_with fail
              (try refine hQ _ _ ?_)
              refine ⟨Step.refl _ _, ?_, trivial, nofun⟩
              exact (rfl : _ = _)
          intro xv w9 hH hS H hU hsz hF hN
          have h0 : xv 0 = _ := H 0 (by decide) (by kernel_rfl)
          have h1 : xv 1 = _ := H 1 (by decide) (by kernel_rfl)
          have h2 : xv 2 = _ := H 2 (by decide) (by kernel_rfl)
          have h3 : xv 3 = _ := H 3 (by decide) (by kernel_rfl)
          have h4 : xv 4 = _ := H 4 (by decide) (by kernel_rfl)
          have h5 : xv 5 = _ := H 5 (by decide) (by kernel_rfl)
          have h6 : xv 6 = _ := H 6 (by decide) (by kernel_rfl)
          have h7 : xv 7 = _ := H 7 (by decide) (by kernel_rfl)
          have h8 : xv 8 = _ := H 8 (by decide) (by kernel_rfl)
          have h9 : xv 9 = _ := H 9 (by decide) (by kernel_rfl)
          simp only [planG, puts, Act.put, List.setIfInBounds_toArray, List.set_cons_zero, List.set_cons_succ, List.drop_succ_cons, List.drop_zero, h0, h1, h2, h3, h4, h5, h6, h7, h8, h9]
          clear H hF hN hS hU h0 h1 h2 h3 h4 h5 h6 h7 h8 h9
          have INV : GInv2 w w9 p k zs x T g cur (zs.length + 0) := ⟨(H8.out.still hH).drop, hH.keeps HB8.out⟩
          have HI := Lib.hid INV
          clear INV hH hsz H8 HB8 p0 p1 p2 p3 c0 c1 c2 c3 lg l16
          go_wp2_with fail
          go_loopw [17, 18, 19, 20, 21, 156] (fun _ _ _ _ _ i wr => ∃ j : Nat, j ≤ zs.length ∧ i = .int .i64 j ∧ GInv2 w wr p k zs x T g cur (zs.length + j)) (fun _ _ _ _ _ i _ => zs.length - (intOf i).toNat)
          case atStart => exact ⟨0, by omega, rfl, HI.out⟩
          case round =>
            obtain ⟨i, hi, rfl, hI⟩ := hrel
            clear HI
            obtain ⟨hG, hB⟩ := hI
            by_cases hlt : i < zs.length
            · obtain ⟨p0, p1, p2, p3⟩ := ptr_cells hB HTK.out hlt
              have dk : decide (i < zs.length) = true := decide_eq_true hlt
              have hz := HZ.out i
              generalize hsi : szOf zs i = s at *
              have HSI := Lib.hid hsi
              have HG := Lib.hid hG
              have HB := Lib.hid hB
              clear hsi hG hB
              obtain ⟨hz0, hz1⟩ := hz
              obtain ⟨B, X, C, b1, b2, hX, hC, hfin⟩ := dead_or x i k
              have HX := Lib.hid hX
              have HC := Lib.hid hC
              obtain ⟨Y, hY⟩ : ∃ Y : HV, Y = X := ⟨_, rfl⟩
              have HY := Lib.hid hY
              clear hX hC hY
              rcases hfin with ⟨rfl, rfl, rfl⟩ | ⟨rfl, rfl, rfl⟩
              · skip
                simp only [Bool.not_true, Bool.not_false] at b2
                go_wp2_with fail
                obtain ⟨t18, v1, e1, e2, h1, k18, s1⟩ := HG.out.made (pObj (i + 1) 0 0 s)
                rw [e1]
                have hld := gs_load h1 (by omega) (by omega) hlt (by rw [HSI.out]; omega) (by rw [HSI.out]; omega)
                rw [HSI.out, HX.out, HC.out] at hld
                simp only [HV.val, HV.zero, valOf] at hld
                have HBa := Lib.hid (s1.keeps HB.out)
                have K18 := Lib.hid k18
                have HE := Lib.hid e2
                clear p0 p1 p2 p3 e1 e2 k18 s1 h1 HG HB
                refine hld.mono ?_; rintro e v2 ⟨rfl, h2, s2⟩
                rw [HE.out]
                have HBb := Lib.hid (s2.keeps HBa.out)
                have K18b := Lib.hid (s2.keeps K18.out)
                have H2 := Lib.hid h2
                clear hld h2 s2 HE HBa K18
                go_wp2_with fail
                first
                  | obtain ⟨t19, v3, e1, e2, h3, k19, s3⟩ := H2.out.made (vObj 0 0 0 0 0)
                    rw [e1, e2]
                  | obtain ⟨t19, v3, e1, e2, h3, k19, s3⟩ := H2.out.made (vObj (IntKind.u64.wrap (x + i)) 0 0 0 0)
                    rw [e1, e2]
                have HBc := Lib.hid (s3.keeps HBb.out)
                have k18 := s3.keeps K18b.out
                obtain ⟨c0, c1, c2, c3, _⟩ := cells_known4 k18
                obtain ⟨d0, d1, d2, d3, d4, _⟩ := cells_known5 k19
                have l18 := lt_obj k18
                have l19 := lt_obj k19
                have K18c := Lib.hid k18
                have K19 := Lib.hid k19
                have H3 := Lib.hid h3
                clear e1 e2 h3 k19 k18 s3 H2 HBb K18b
                refine wp_region_each 4 planH (fun _ _ => False) (Step (fun _ => False) v3) (fun _ => True) [Is ?v28_5_0, Is ?v28_5_1, Is ?v28_5_2, Is ?v28_5_3] [] (by kernel_rfl) (by kernel_rfl) (fun _ _ h => h.elim) ((Step.refl _ _).drew) (trivial) ?stab28_5 ?stabD28_5 ?obl28_5 ?fin28_5
                case stab28_5 => exact fun w w' h => ⟨fun k => k.trans h (fun _ x => x.elim), fun _ => trivial, ⟨fun _ k => k, fun _ k => k, fun _ k => k, fun _ k => k, trivial⟩, trivial⟩
                case stabD28_5 => exact fun _ _ h => h.elim
                case obl28_5 =>
                  refine ⟨?o28_5_0, ?o28_5_1, ?o28_5_2, ?o28_5_3, trivial⟩
                  case o28_5_0 =>
                    intro xv wq hH hS H hU aq ha Q' hQ
                    have cc := scell hH
                    change aq = puts _ xv [] at ha
                    simp only [puts] at ha
                    subst ha; clear H 
                    clear hU hS
                    go_wp2_with fail
                    (try refine hQ _ _ ?_)
                    refine ⟨Step.refl _ _, ?_, trivial, nofun⟩
                    exact (rfl : _ = _)
                  case o28_5_1 =>
                    intro xv wq hH hS H hU aq ha Q' hQ
                    have cc := scell hH
                    change aq = puts _ xv [] at ha
                    simp only [puts] at ha
                    subst ha; clear H 
                    clear hU hS
                    go_wp2_with fail
                    (try refine hQ _ _ ?_)
                    refine ⟨Step.refl _ _, ?_, trivial, nofun⟩
                    exact (rfl : _ = _)
                  case o28_5_2 =>
                    intro xv wq hH hS H hU aq ha Q' hQ
                    have cc := scell hH
                    have h1 : xv 1 = _ := H 1 (by kernel_rfl)
                    change aq = puts _ xv [(1, some 168)] at ha
                    simp only [puts, Act.put, List.setIfInBounds_toArray, List.set_cons_zero, List.set_cons_succ, h1] at ha
                    subst ha; clear H h1
                    clear hU hS
                    go_wp2_with fail
                    refine (move_at (x := 1) (by omega) (by decide +kernel) _).mono ?_; rintro e w4 ⟨rfl, s4⟩
                    go_wp2_with fail
                    (try refine hQ _ _ ?_)
                    refine ⟨s4, ?_, trivial, nofun⟩
                    exact (rfl : _ = _)
                  case o28_5_3 =>
                    intro xv wq hH hS H hU aq ha Q' hQ
                    have cc := scell hH
                    change aq = puts _ xv [] at ha
                    simp only [puts] at ha
                    subst ha; clear H 
                    clear hU hS
                    go_wp2_with fail
                    (try refine hQ _ _ ?_)
                    refine ⟨Step.refl _ _, ?_, trivial, nofun⟩
                    exact (rfl : _ = _)
                intro xv v4 hH hS H hU hsz hF hN
                have h0 : xv 0 = _ := H 0 (by decide) (by kernel_rfl)
                have h1 : xv 1 = _ := H 1 (by decide) (by kernel_rfl)
                have h2 : xv 2 = _ := H 2 (by decide) (by kernel_rfl)
                have h3 : xv 3 = _ := H 3 (by decide) (by kernel_rfl)
                simp only [planH, puts, Act.put, List.setIfInBounds_toArray, List.set_cons_zero, List.set_cons_succ, List.drop_succ_cons, List.drop_zero, h0, h1, h2, h3]
                clear H hF hN hS hU h0 h1 h2 h3
                have hpt := gs_put (H3.out.still hH) (by omega) (by omega) (by omega) (i := i) (off := 1) (n := 1) (by omega) (.inl rfl) (by omega) (by rw [HSI.out]; omega) (by rw [HSI.out]; omega) Y
                rw [HSI.out, HC.out, HY.out] at hpt
                simp only [HV.val, HV.zero, valOf] at hpt
                have HPT := Lib.hid hpt
                have HBd := Lib.hid (hH.keeps HBc.out)
                have K19d := Lib.hid (hH.keeps K19.out)
                have LOC := Lib.hid (H3.out.still hH).loc
                clear hH hsz hpt H3 HBc K18c K19 c0 c1 c2 c3 d0 d1 d2 d3 d4 l18 l19
                go_wp2_with fail
                refine HPT.out.mono ?_; rintro e v5 ⟨rfl, o5, h5, _⟩
                have HBe := Lib.hid ((o5.block g (LOC.out g (by simp [HGT.out])).2 (fun x => x.2 (by simp [HGT.out]))).trans HBd.out)
                have k19 := (o5.block t19 (LOC.out t19 (by simp)).2 (fun x => x.2 (by simp))).trans K19d.out
                obtain ⟨d0, d1, d2, d3, d4, _⟩ := cells_known5 k19
                have H5 := Lib.hid (h5 (by omega))
                clear o5 h5 HPT HBd K19d LOC k19
                go_wp2_with fail
                go_roundw
                case rel => exact ⟨i + 1, by omega, by go_num, H5.out.drop.drop.le (by omega), HBe.out⟩
                case measure => simp [intOf]; omega
              · skip
                simp only [Bool.not_true, Bool.not_false] at b2
                go_wp2_with fail
                obtain ⟨t18, v1, e1, e2, h1, k18, s1⟩ := HG.out.made (pObj (i + 1) 0 0 s)
                rw [e1]
                have hld := gs_load h1 (by omega) (by omega) hlt (by rw [HSI.out]; omega) (by rw [HSI.out]; omega)
                rw [HSI.out, HX.out, HC.out] at hld
                simp only [HV.val, HV.zero, valOf] at hld
                have HBa := Lib.hid (s1.keeps HB.out)
                have K18 := Lib.hid k18
                have HE := Lib.hid e2
                clear p0 p1 p2 p3 e1 e2 k18 s1 h1 HG HB
                refine hld.mono ?_; rintro e v2 ⟨rfl, h2, s2⟩
                rw [HE.out]
                have HBb := Lib.hid (s2.keeps HBa.out)
                have K18b := Lib.hid (s2.keeps K18.out)
                have H2 := Lib.hid h2
                clear hld h2 s2 HE HBa K18
                go_wp2_with fail
                first
                  | obtain ⟨t19, v3, e1, e2, h3, k19, s3⟩ := H2.out.made (vObj 0 0 0 0 0)
                    rw [e1, e2]
                  | obtain ⟨t19, v3, e1, e2, h3, k19, s3⟩ := H2.out.made (vObj (IntKind.u64.wrap (x + i)) 0 0 0 0)
                    rw [e1, e2]
                have HBc := Lib.hid (s3.keeps HBb.out)
                have k18 := s3.keeps K18b.out
                obtain ⟨c0, c1, c2, c3, _⟩ := cells_known4 k18
                obtain ⟨d0, d1, d2, d3, d4, _⟩ := cells_known5 k19
                have l18 := lt_obj k18
                have l19 := lt_obj k19
                have K18c := Lib.hid k18
                have K19 := Lib.hid k19
                have H3 := Lib.hid h3
                clear e1 e2 h3 k19 k18 s3 H2 HBb K18b
                refine wp_region_each 4 planH (fun _ _ => False) (Step (fun _ => False) v3) (fun _ => True) [Is ?v28_6_0, Is ?v28_6_1, Is ?v28_6_2, Is ?v28_6_3] [] (by kernel_rfl) (by kernel_rfl) (fun _ _ h => h.elim) ((Step.refl _ _).drew) (trivial) ?stab28_6 ?stabD28_6 ?obl28_6 ?fin28_6
                case stab28_6 => exact fun w w' h => ⟨fun k => k.trans h (fun _ x => x.elim), fun _ => trivial, ⟨fun _ k => k, fun _ k => k, fun _ k => k, fun _ k => k, trivial⟩, trivial⟩
                case stabD28_6 => exact fun _ _ h => h.elim
                case obl28_6 =>
                  refine ⟨?o28_6_0, ?o28_6_1, ?o28_6_2, ?o28_6_3, trivial⟩
                  case o28_6_0 =>
                    intro xv wq hH hS H hU aq ha Q' hQ
                    have cc := scell hH
                    change aq = puts _ xv [] at ha
                    simp only [puts] at ha
                    subst ha; clear H 
                    clear hU hS
                    go_wp2_with fail
                    (try refine hQ _ _ ?_)
                    refine ⟨Step.refl _ _, ?_, trivial, nofun⟩
                    exact (rfl : _ = _)
                  case o28_6_1 =>
                    intro xv wq hH hS H hU aq ha Q' hQ
                    have cc := scell hH
                    change aq = puts _ xv [] at ha
                    simp only [puts] at ha
                    subst ha; clear H 
                    clear hU hS
                    go_wp2_with fail
                    (try refine hQ _ _ ?_)
                    refine ⟨Step.refl _ _, ?_, trivial, nofun⟩
                    exact (rfl : _ = _)
                  case o28_6_2 =>
                    intro xv wq hH hS H hU aq ha Q' hQ
                    have cc := scell hH
                    have h1 : xv 1 = _ := H 1 (by kernel_rfl)
                    change aq = puts _ xv [(1, some 168)] at ha
                    simp only [puts, Act.put, List.setIfInBounds_toArray, List.set_cons_zero, List.set_cons_succ, h1] at ha
                    subst ha; clear H h1
                    clear hU hS
                    go_wp2_with fail
                    refine (move_at (x := 1) (by omega) (by decide +kernel) _).mono ?_; rintro e w4 ⟨rfl, s4⟩
                    go_wp2_with fail
                    (try refine hQ _ _ ?_)
                    refine ⟨s4, ?_, trivial, nofun⟩
                    exact (rfl : _ = _)
                  case o28_6_3 =>
                    intro xv wq hH hS H hU aq ha Q' hQ
                    have cc := scell hH
                    change aq = puts _ xv [] at ha
                    simp only [puts] at ha
                    subst ha; clear H 
                    clear hU hS
                    go_wp2_with fail
                    (try refine hQ _ _ ?_)
                    refine ⟨Step.refl _ _, ?_, trivial, nofun⟩
                    exact (rfl : _ = _)
                intro xv v4 hH hS H hU hsz hF hN
                have h0 : xv 0 = _ := H 0 (by decide) (by kernel_rfl)
                have h1 : xv 1 = _ := H 1 (by decide) (by kernel_rfl)
                have h2 : xv 2 = _ := H 2 (by decide) (by kernel_rfl)
                have h3 : xv 3 = _ := H 3 (by decide) (by kernel_rfl)
                simp only [planH, puts, Act.put, List.setIfInBounds_toArray, List.set_cons_zero, List.set_cons_succ, List.drop_succ_cons, List.drop_zero, h0, h1, h2, h3]
                clear H hF hN hS hU h0 h1 h2 h3
                have hpt := gs_put (H3.out.still hH) (by omega) (by omega) (by omega) (i := i) (off := 1) (n := 1) (by omega) (.inl rfl) (by omega) (by rw [HSI.out]; omega) (by rw [HSI.out]; omega) Y
                rw [HSI.out, HC.out, HY.out] at hpt
                simp only [HV.val, HV.zero, valOf] at hpt
                have HPT := Lib.hid hpt
                have HBd := Lib.hid (hH.keeps HBc.out)
                have K19d := Lib.hid (hH.keeps K19.out)
                have LOC := Lib.hid (H3.out.still hH).loc
                clear hH hsz hpt H3 HBc K18c K19 c0 c1 c2 c3 d0 d1 d2 d3 d4 l18 l19
                go_wp2_with fail
                refine HPT.out.mono ?_; rintro e v5 ⟨rfl, o5, h5, _⟩
                have HBe := Lib.hid ((o5.block g (LOC.out g (by simp [HGT.out])).2 (fun x => x.2 (by simp [HGT.out]))).trans HBd.out)
                have k19 := (o5.block t19 (LOC.out t19 (by simp)).2 (fun x => x.2 (by simp))).trans K19d.out
                obtain ⟨d0, d1, d2, d3, d4, _⟩ := cells_known5 k19
                have H5 := Lib.hid (h5 (by omega))
                clear o5 h5 HPT HBd K19d LOC k19
                go_wp2_with fail
                go_roundw
                case rel => exact ⟨i + 1, by omega, by go_num, H5.out.drop.drop.le (by omega), HBe.out⟩
                case measure => simp [intOf]; omega
            · have dk : decide (i < zs.length) = false := decide_eq_false hlt
              have HG := Lib.hid hG
              clear hG hB
              go_wp2_with fail
              go_ret
              exact ⟨rfl, HG.out.below⟩

/-! ### The row. -/

set_option maxRecDepth 100000 in
theorem lifted (os : Os) (started : os.Started) (H : Type) (enc : TypeId × Value → H) :
    ReturnsInHanded {} Try.checked os 8 .any (Rows.heapGoneSpec.pre6 enc Try.prog Try.f8 Rows.heapGoneRow.domain false) (Rows.heapGoneSpec.post enc Try.prog Try.f8 false true false false) := by
  refine returnsInHanded_of_change (C := Try.checked) own started (by kernel_rfl) Try.func8
    (ChangeSpec.witness6 (enc := enc) (C := Try.checked) false ⟨#[], #[.slice none 0 0, .int .i64 0, .int .u64 0], []⟩ 8 (by kernel_rfl) (by kernel_rfl) (by kernel_rfl) (by kernel_rfl)) ?_
  intro W base args ds gs before hval0 hW hcnd _
  have hval : ∀ (j : Nat) t v, Try.f8.params[j]? = some t → args[j]? = some v → Value.okWide Try.prog W .any base t v := hval0
  have hW' := hW
  obtain ⟨p, q, hA0, hV, rfl, hfz, hnd⟩ := hW
  have hA : DataW.TrodAll enc Try.prog W 0 (fun _ => true) true Try.f8.params.toList args.toList ds p := hA0
  rw [Try.params8] at hA hval
  obtain ⟨v0, vs0, d0, ds0, p0, q0, hargs, rfl, rfl, h0, r0⟩ := trodAll_cons hA
  obtain ⟨v1, vs1, d1, ds1, p1, q1, rfl, rfl, rfl, h1, r1⟩ := trodAll_cons r0
  obtain ⟨v2, vs2, d2, ds2, p2, q2, rfl, rfl, rfl, h2, r2⟩ := trodAll_cons r1
  obtain ⟨rfl, rfl, rfl⟩ := trodAll_nil r2
  obtain rfl : args = #[v0, v1, v2] := by cases args; simp_all
  obtain ⟨rfl, rfl⟩ := trodVars_none hV
  obtain ⟨zs, hzs⟩ := ints_in Try.underlying51 Try.underlying5 (by kernel_rfl) (hval 0 51 v0 rfl rfl) h0
  obtain ⟨a1, rfl, rfl, rfl, w1⟩ := open_int Try.underlying3 (hval 1 3 v1 rfl rfl) h1
  obtain ⟨a2, rfl, rfl, rfl, w2⟩ := open_int Try.underlying39 (hval 2 39 v2 rfl rfl) h2
  clear hA0 hval0
  simp only [List.append_nil] at hW'
  refine (walk v0 zs a1 a2 W hzs).mono fun e W' ⟨he, hb⟩ => ?_
  subst he
  exact ⟨_, rfl, law_post laidOut (by kernel_rfl) rfl rfl rfl Try.underlying4 hW' hb⟩

theorem over : Rows.heapGoneRow.holds Try.pinned (OpenSpec.ofChange Rows.heapGoneSpec) :=
  OpenClaim.holds_of_wide 8 Try.f8 rfl rfl rfl rfl rfl rfl rfl ⟨rfl, rfl, rfl, rfl, rfl⟩ rfl rfl rfl rfl rfl (by kernel_rfl) Try.func8 (by kernel_rfl)
    (of_decide_eq_true (by kernel_rfl)) (by unfold Func.isWrapper; first | (rw [if_pos (by decide +kernel)]; kernel_rfl) | (rw [if_neg (by decide +kernel)]; exact ⟨rfl, rfl⟩))
    (fun os started H enc _ => lifted os started H enc)

/-- The statement. -/
theorem proved : Rows.HeapGoneSaid :=
  over
#print axioms proved
end Go.Proofs.Ytjeoendenecidaa.heapGone
