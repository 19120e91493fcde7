/- HeapClears returns true for every slice of bytes and every number, without conditions. -/
import Derived.Test.YtjeoendenecidaaRows
import Derived.Lib.SmallJoins
import Derived.Test.YtjeoendenecidaaHeapG
import Derived.Test.YtjeoendenecidaaLibE
import Derived.Test.YtjeoendenecidaaLibF
import Derived.Test.YtjeoendenecidaaLibK
import Derived.Test.YtjeoendenecidaaLibS
import Derived.Deep.DeepCutAuto
namespace Go.Proofs.Ytjeoendenecidaa.heapClears
open Go.ChangeShapes Go.WideShapes Go.ChangeAt Go.RowKit Go.Joins
set_option linter.unusedVariables false

theorem own : ownKnob Try.prog.godebug = none := by kernel_rfl

def planC : Plan where
  T := [[], [], [], [2], [1, 2, 3], [], [0, 1, 2, 3, 4, 5], [0, 1, 2, 3, 4, 5, 6], [0, 1, 2, 3, 4, 5, 6, 7], [0, 1, 2, 3, 4, 5, 6, 7, 8], [0, 1, 2, 3, 4, 5, 6, 7, 8], [0, 1, 2, 3, 4, 5, 6, 7, 8], [0, 1, 2, 3, 4, 5, 6, 7, 8, 11], [0, 1, 2, 3, 4, 5, 6, 7, 8, 10, 11, 12], [0, 1, 2, 3, 4, 5, 6, 7, 8], [0, 1, 2, 3, 4, 5, 6, 7, 8, 9, 10, 11, 12, 13, 14], [0, 1, 2, 3, 4, 5, 6, 7, 8, 9, 10, 11, 12, 13, 14, 15], [0, 1, 2, 3, 4, 5, 6, 7, 8, 9, 10, 11, 12, 13, 14, 15, 16]]
  rd := [[], [], [], [(2, some 59)], [(1, some 58), (3, some 60)], [], [(0, some 57), (4, some 61), (5, some 62)], [(6, some 63)], [(7, some 64)], [(8, some 65)], [(8, some 65)], [(8, some 65)], [(8, some 65), (11, some 68)], [(8, some 65), (10, some 67), (12, some 69)], [(8, some 65)]]
  all := [(14, some 71), (13, some 70), (12, some 69), (11, some 68), (10, some 67), (9, some 66), (8, some 65), (7, some 64), (6, some 63), (5, some 62), (4, some 61), (3, some 60), (2, some 59), (1, some 58), (0, some 57)]
  calm := [true, true, true, true, true, true, false, true, true, true, true, true, true, true, true]
  hard := [true, true, true, true, true, true, true, true, true, true, true, true, true, true, true]
  fresh := [false, false, false, false, false, false, false, false, false, false, false, false, false, false, false]

def Good (l : List HB) : Prop := l.length = 3 ∧ liveOf l 1 = true ∧ liveOf l 2 = true
theorem Good.set {l : List HB} (h : Good l) {b : Int} (hb : b = 1 ∨ b = 2) (u : Bool) : Good (setAt l b fun y => { y with used := u }) := by
  obtain ⟨h1, h2, h3⟩ := h
  match l, h1 with
  | [a, b', c], _ =>
    refine ⟨by simp [setAt], ?_, ?_⟩
    · rcases hb with rfl | rfl <;> simpa [liveOf, blockOf, setAt, List.modify] using h2
    · rcases hb with rfl | rfl <;> simpa [liveOf, blockOf, setAt, List.modify] using h3
theorem Good.at {l : List HB} (h : Good l) {b off : Int} (hb : b = 1 ∨ b = 2) (h0 : 0 ≤ off) (h1 : off < 256) : atOf l b off 0 256 1 = 0 := by
  have hl : liveOf l b = true := by rcases hb with rfl | rfl; exact h.2.1; exact h.2.2
  unfold atOf
  rw [if_neg (by omega), if_neg (by omega), if_neg (by rw [hl]; simp), if_neg (by omega)]
theorem good0 : Good (([⟨0, false, false, false⟩] ++ [⟨256, true, true, false⟩]) ++ [⟨256, false, true, false⟩]) := by
  refine ⟨rfl, ?_, ?_⟩ <;> simp [liveOf, blockOf]

/-- the state: the second block has V at all places of 'done' -/
def St (T : List Nat) (w0 w : World) (p : Nat) (V : HV) (done : List Int) (c : Nat) : Prop :=
  ∃ l f m, Good l ∧ m ≤ c ∧ Law T w0 w p l f m ∧ ∀ k ∈ done, f (plKey 2 k) = some V

theorem St.still {T : List Nat} {w0 w w' : World} {p : Nat} {V : HV} {done : List Int} {c : Nat} (h : St T w0 w p V done c) (s : Step (fun _ => False) w w') : St T w0 w' p V done c := by
  obtain ⟨l, f, m, h1, h2, h3, h4⟩ := h
  exact ⟨l, f, m, h1, h2, h3.still s, h4⟩
theorem St.al {T : List Nat} {w0 w : World} {p : Nat} {V : HV} {done : List Int} {c : Nat} (h : St T w0 w p V done c) (o : Obj) : St (w.heap.size :: T) w0 (w.alloc o) p V done c := by
  obtain ⟨l, f, m, h1, h2, h3, h4⟩ := h
  exact ⟨l, f, m, h1, h2, h3.al o, h4⟩
theorem St.drop {T : List Nat} {t : Nat} {w0 w : World} {p : Nat} {V : HV} {done : List Int} {c : Nat} (h : St (t :: T) w0 w p V done c) : St T w0 w p V done c := by
  obtain ⟨l, f, m, h1, h2, h3, h4⟩ := h
  exact ⟨l, f, m, h1, h2, h3.drop, h4⟩
theorem wf_of {n : Int} (h0 : 0 ≤ n) (h1 : n < 256) : (Lit.int .i64 n).wf = true := by go_wf

theorem st_store1 {T : List Nat} {w0 w : World} {p : Nat} {V : HV} {done : List Int} {c : Nat} (h : St T w0 w p V done c) (hc : c < 4294967296) (hd : ∀ k ∈ done, 0 ≤ k ∧ k < 256) {off : Int} (h0 : 0 ≤ off) (h1 : off < 256) :
    Calls Try.prog 18 #[.pointer (some ⟨p, 0, none⟩), .agg #[.int .i64 1, .int .i64 off, .int .i64 0, .int .i64 256], .int .i64 1, V.val] w fun e w' => e = .returned (.int .i64 0) ∧ Loc T w0 w w' ∧ St T w0 w' p V done (c + 1) := by
  obtain ⟨l, f, m, g1, g2, g3, g4⟩ := h
  refine (law_store g3 1 off 0 256 1 V (by omega) (by omega) (by omega) (by omega) (by omega) (by omega) (by omega)).mono ?_
  rintro e w' ⟨rfl, h2, h3⟩
  rw [g1.at (.inl rfl) h0 h1, if_pos rfl, if_pos rfl] at h2
  rw [g1.at (.inl rfl) h0 h1]
  refine ⟨rfl, h3, _, _, _, g1.set (.inl rfl) true, by omega, h2, fun k hk => ?_⟩
  have := hd k hk
  show (if _ then _ else _) = _
  rw [if_neg]
  · exact g4 k hk
  · intro hs
    have := (plKey_inj (by go_wf) (wf_of (hd k hk).1 (hd k hk).2) (by go_wf) (wf_of h0 h1) (WideAt.sameKey_eq hs)).1
    omega
theorem st_store2 {T : List Nat} {w0 w : World} {p : Nat} {V : HV} {done : List Int} {c : Nat} (h : St T w0 w p V done c) (hc : c < 4294967296) {off : Int} (h0 : 0 ≤ off) (h1 : off < 256) :
    Calls Try.prog 18 #[.pointer (some ⟨p, 0, none⟩), .agg #[.int .i64 2, .int .i64 off, .int .i64 0, .int .i64 256], .int .i64 1, V.val] w fun e w' => e = .returned (.int .i64 0) ∧ Loc T w0 w w' ∧ St T w0 w' p V (done ++ [off]) (c + 1) := by
  obtain ⟨l, f, m, g1, g2, g3, g4⟩ := h
  refine (law_store g3 2 off 0 256 1 V (by omega) (by omega) (by omega) (by omega) (by omega) (by omega) (by omega)).mono ?_
  rintro e w' ⟨rfl, h2, h3⟩
  rw [g1.at (.inr rfl) h0 h1, if_pos rfl, if_pos rfl] at h2
  rw [g1.at (.inr rfl) h0 h1]
  refine ⟨rfl, h3, _, _, _, g1.set (.inr rfl) true, by omega, h2, fun k hk => ?_⟩
  show (if _ then _ else _) = _
  by_cases hs : (plKey 2 k).sameKey (plKey 2 off) = true
  · rw [if_pos hs]
  · rw [if_neg hs]
    rcases List.mem_append.1 hk with hk | hk
    · exact g4 k hk
    · simp only [List.mem_singleton] at hk
      subst hk
      exact absurd (WideAt.sameKey_self (place_law.key (place_key 2 k (by go_wf) (wf_of h0 h1)))) hs

theorem St.cell_old {T : List Nat} {w0 w : World} {p : Nat} {V : HV} {done : List Int} {c : Nat} (h : St T w0 w p V done c) {a : Addr} (hb : a.block < w0.heap.size) : w.cell? a = w0.cell? a := by
  obtain ⟨l, f, m, h1, h2, h3, h4⟩ := h
  exact cell_of (h3.old hb)
theorem St.made {T : List Nat} {w0 w : World} {p : Nat} {V : HV} {done : List Int} {c : Nat} (h : St T w0 w p V done c) (o : Obj) : ∃ t w', w.alloc o = w' ∧ w.heap.size = t ∧ St (t :: T) w0 w' p V done c ∧ w'.heap[t]? = some o ∧ Step (fun _ => False) w w' :=
  ⟨_, _, rfl, rfl, h.al o, heap_alloc_new w o, Step.alloc _ w o⟩
theorem St.loc {T : List Nat} {w0 w : World} {p : Nat} {V : HV} {done : List Int} {c : Nat} (h : St T w0 w p V done c) : ∀ t ∈ T, w0.heap.size ≤ t ∧ t < w.heap.size := by
  obtain ⟨l, f, m, h1, h2, h3, h4⟩ := h
  exact h3.loc
theorem St.below {T : List Nat} {w0 w : World} {p : Nat} {V : HV} {done : List Int} {c : Nat} (h : St T w0 w p V done c) : Below w0.heap.size w0 w := by
  obtain ⟨l, f, m, h1, h2, h3, h4⟩ := h
  exact h3.below
def CInv (w wr : World) (p : Nat) (V : HV) (t6 t8 : Nat) (done : List Int) (c : Nat) : Prop :=
  St [t8, t6] w wr p V done c ∧ wr.heap[t6]? = some (pObj 1 0 0 256) ∧ wr.heap[t8]? = some (pObj 2 0 0 256)

/-- the state behind Clear -/
def St2 (T : List Nat) (w0 w : World) (p : Nat) (V : HV) (zs : List Int) : Prop :=
  ∃ l f m, Good l ∧ Law T w0 w p l f m ∧ (∀ k : Int, 0 ≤ k → k < 256 → f (plKey 1 k) = none) ∧ ∀ k ∈ zs, f (plKey 2 k) = some V
section
variable {T : List Nat} {w0 w w' : World} {p : Nat} {V : HV} {zs : List Int}
theorem St2.still (h : St2 T w0 w p V zs) (s : Step (fun _ => False) w w') : St2 T w0 w' p V zs := by
  obtain ⟨l, f, m, h1, h3, h4⟩ := h
  exact ⟨l, f, m, h1, h3.still s, h4⟩
theorem St2.al (h : St2 T w0 w p V zs) (o : Obj) : St2 (w.heap.size :: T) w0 (w.alloc o) p V zs := by
  obtain ⟨l, f, m, h1, h3, h4⟩ := h
  exact ⟨l, f, m, h1, h3.al o, h4⟩
theorem St2.drop {t : Nat} (h : St2 (t :: T) w0 w p V zs) : St2 T w0 w p V zs := by
  obtain ⟨l, f, m, h1, h3, h4⟩ := h
  exact ⟨l, f, m, h1, h3.drop, h4⟩
theorem St2.cell_old (h : St2 T w0 w p V zs) {a : Addr} (hb : a.block < w0.heap.size) : w.cell? a = w0.cell? a := by
  obtain ⟨l, f, m, h1, h3, h4⟩ := h
  exact cell_of (h3.old hb)
theorem St2.made (h : St2 T w0 w p V zs) (o : Obj) : ∃ t w', w.alloc o = w' ∧ w.heap.size = t ∧ St2 (t :: T) w0 w' p V zs ∧ w'.heap[t]? = some o ∧ Step (fun _ => False) w w' :=
  ⟨_, _, rfl, rfl, h.al o, heap_alloc_new w o, Step.alloc _ w o⟩
theorem St2.below (h : St2 T w0 w p V zs) : Below w0.heap.size w0 w := by
  obtain ⟨l, f, m, h1, h3, h4⟩ := h
  exact h3.below
theorem st_clear {c : Nat} (h : St T w0 w p V zs c) (hd : ∀ k ∈ zs, 0 ≤ k ∧ k < 256) :
    Calls Try.prog 19 #[.pointer (some ⟨p, 0, none⟩), .int .i64 1] w fun e w' => e = .returned (.int .i64 0) ∧ Loc T w0 w w' ∧ St2 T w0 w' p V zs := by
  obtain ⟨l, f, m, g1, g2, g3, g4⟩ := h
  refine (law_clear g3 1 (by omega) (by omega)).mono ?_
  rintro e w' ⟨rfl, h2, h3⟩
  have hg : goneOf l 1 = 0 := by
    unfold goneOf
    have := g1.1
    rw [if_neg (by omega), if_neg (by rw [g1.2.1]; simp)]
  rw [hg, if_pos rfl, if_pos rfl] at h2
  rw [hg]
  refine ⟨rfl, h3, _, _, _, g1.set (.inl rfl) false, h2, fun k k0 k1 => ?_, fun k hk => ?_⟩
  · unfold struck
    rw [inBlock_key 1 1 k (by go_wf) (by go_wf) (wf_of k0 k1)]; rfl
  · unfold struck
    rw [inBlock_key 1 2 k (by go_wf) (by go_wf) (wf_of (hd k hk).1 (hd k hk).2)]
    exact g4 k hk
theorem st_load1 (h : St2 T w0 w p V zs) {off : Int} (h0 : 0 ≤ off) (h1 : off < 256) :
    Calls Try.prog 17 #[.pointer (some ⟨p, 0, none⟩), .agg #[.int .i64 1, .int .i64 off, .int .i64 0, .int .i64 256], .int .i64 1] w fun e w' =>
      e = .returned (.tuple #[.agg #[.int .u64 0, .int .i64 0, .int .i64 0, .int .i64 0, .int .i64 0], .int .i64 0]) ∧ St2 T w0 w' p V zs ∧ Step (fun _ => False) w w' := by
  obtain ⟨l, f, m, g1, g3, g4, g5⟩ := h
  refine (law_load_ok g3 (v := .agg #[.int .u64 0, .int .i64 0, .int .i64 0, .int .i64 0, .int .i64 0]) (g1.at (.inl rfl) h0 h1) (by unfold getOf; rw [g4 off h0 h1]; rfl) (by omega) (by omega) (by omega) (by omega) (by omega) (by omega)).mono ?_
  rintro e w' ⟨rfl, h2, h3⟩
  exact ⟨rfl, ⟨l, f, m, g1, h2, g4, g5⟩, h3⟩
theorem st_load2 (h : St2 T w0 w p V zs) {off : Int} (h0 : 0 ≤ off) (h1 : off < 256) (hm : off ∈ zs) :
    Calls Try.prog 17 #[.pointer (some ⟨p, 0, none⟩), .agg #[.int .i64 2, .int .i64 off, .int .i64 0, .int .i64 256], .int .i64 1] w fun e w' =>
      e = .returned (.tuple #[.agg #[.int .u64 V.num, .int .i64 V.ptr.block, .int .i64 V.ptr.off, .int .i64 V.ptr.low, .int .i64 V.ptr.high], .int .i64 0]) ∧ St2 T w0 w' p V zs ∧ Step (fun _ => False) w w' := by
  obtain ⟨l, f, m, g1, g3, g4, g5⟩ := h
  refine (law_load_ok g3 (v := V.val) (g1.at (.inr rfl) h0 h1) (by unfold getOf; rw [g5 off hm]; rfl) (by omega) (by omega) (by omega) (by omega) (by omega) (by omega)).mono ?_
  rintro e w' ⟨rfl, h2, h3⟩
  exact ⟨rfl, ⟨l, f, m, g1, h2, g4, g5⟩, h3⟩
theorem st_live (h : St2 T w0 w p V zs) {b : Int} (hb : b = 1 ∨ b = 2) : Calls Try.prog 20 #[.pointer (some ⟨p, 0, none⟩), .int .i64 b] w fun e w' => e = .returned (.bool true) ∧ w = w' := by
  obtain ⟨l, f, m, g1, g3, g4, g5⟩ := h
  refine (law_live g3 b).mono ?_
  rintro e w' ⟨rfl, rfl⟩
  rcases hb with rfl | rfl
  · rw [g1.2.1]; exact ⟨rfl, rfl⟩
  · rw [g1.2.2]; exact ⟨rfl, rfl⟩
end
def CInv2 (w wr : World) (p : Nat) (V : HV) (t6 t8 : Nat) (zs : List Int) : Prop :=
  St2 [t8, t6] w wr p V zs ∧ wr.heap[t6]? = some (pObj 1 0 0 256) ∧ wr.heap[t8]? = some (pObj 2 0 0 256)

set_option maxHeartbeats 4000000 in
set_option maxRecDepth 100000 in
theorem walk (v : Value) (zs : List Int) (x : Int) (w : World) (hv : IntsAt .u8 w v zs) : Calls Try.prog 6 #[v, .int .u64 x] w fun e w' => e = .returned (.bool true) ∧ Below w.heap.size w w' := by
  obtain ⟨⟨q, cap, rfl, hcap, hmax, hcell⟩, hwf⟩ := hv
  unfold maxLen at hmax
  have HC := Lib.hid hcell
  have HW := Lib.hid hwf
  clear hcell hwf
  by_cases hlen : 40 < zs.length
  · go_enter Try.func6, Try.ntmps6
    go_wp2_with fail
    refine (law_new _).mono ?_; rintro e w1 ⟨p, rfl, h1⟩
    have H1 := Lib.hid h1
    clear h1
    go_wp2_with fail
    refine (awake_any _).mono ?_; rintro e w2 ⟨rfl, s2⟩
    have H2 := Lib.hid (H1.out.still s2)
    clear s2 H1
    go_wp2_with fail
    refine (awake_any _).mono ?_; rintro e w3 ⟨rfl, s3⟩
    have H3 := Lib.hid (H2.out.still s3)
    clear s3 H2
    go_wp2_with fail
    go_ret
    exact ⟨rfl, H3.out.below⟩
  · have hlen' : zs.length ≤ 40 := by omega
    go_enter Try.func6, Try.ntmps6
    go_wp2_with fail
    refine (law_new _).mono ?_; rintro e w1 ⟨p, rfl, h1⟩
    have H1 := Lib.hid h1
    clear h1
    go_wp2_with fail
    refine (awake_any _).mono ?_; rintro e w2 ⟨rfl, s2⟩
    have H2 := Lib.hid (H1.out.still s2)
    clear s2 H1
    go_wp2_with fail
    refine (law_make H2.out 256 true (by decide) (by decide) (by decide)).mono ?_; rintro e w3 ⟨rfl, h3, _⟩
    have H3 := Lib.hid h3
    clear h3 H2
    go_wp2_with fail
    obtain ⟨t6, w4, e1, e2, h4, k6, s4⟩ := H3.out.made (pObj 1 0 0 256)
    have H4 := Lib.hid h4
    have K6 := Lib.hid k6
    rw [e1, e2]
    clear e1 e2 h4 s4 k6 H3
    refine (law_make H4.out 256 false (by decide) (by decide) (by decide)).mono ?_; rintro e w5 ⟨rfl, h5, o5⟩
    have K6' := Lib.hid ((o5.cell H4.out (by simp)).trans K6.out)
    have H5 := Lib.hid h5
    clear h5 H4 K6 o5
    go_wp2_with fail
    obtain ⟨t8, w6, e1, e2, h6, k8, s6⟩ := H5.out.made (pObj 2 0 0 256)
    have INV : CInv w w6 p ⟨x, ⟨1, 0, 0, 256⟩⟩ t6 t8 (zs.take 0) 0 := ⟨⟨_, _, _, good0, Nat.le_refl _, h6, by simp⟩, s6.keeps K6'.out, k8⟩
    have HI := Lib.hid INV
    rw [e1, e2]
    clear e1 e2 INV h6 k8 s6 H5 K6'
    go_loopw [11, 12, 50] (fun _ _ i wr => ∃ k : Nat, k ≤ zs.length ∧ i = .int .i64 k ∧ CInv w wr p ⟨x, ⟨1, 0, 0, 256⟩⟩ t6 t8 (zs.take k) (2 * k)) (fun _ _ i _ => zs.length - (intOf i).toNat)
    case atStart => exact ⟨0, by omega, rfl, HI.out⟩
    case round =>
      obtain ⟨k, hk, rfl, hI⟩ := hrel
      clear HI
      obtain ⟨hSt, k6, k8⟩ := hI
      by_cases hlt : k < zs.length
      · obtain ⟨a, rfl, hca⟩ := HC.out k hlt
        have hz : 0 ≤ zs.getD k 0 ∧ zs.getD k 0 ≤ 255 := wfu8 (HW.out _ (by rw [List.getD_eq_getElem?_getD, List.getElem?_eq_getElem hlt]; exact List.getElem_mem hlt))
        have hdone : ∀ j ∈ zs.take k, 0 ≤ j ∧ j < 256 := fun j hj => by have := wfu8 (HW.out j (List.mem_of_mem_take hj)); omega
        have hnext : zs.take (k + 1) = zs.take k ++ [zs.getD k 0] := by rw [List.take_add_one, List.getD_eq_getElem?_getD, List.getElem?_eq_getElem hlt]; rfl
        have HN := Lib.hid hnext
        have HD := Lib.hid hdone
        have hcw : wr.cell? (a.add k) = some (.int .u8 (zs.getD k 0)) := (hSt.cell_old (block_lt hca)).trans hca
        have dk : decide (k < zs.length) = true := decide_eq_true hlt
        have HS := Lib.hid hSt
        obtain ⟨c0, c1, c2, c3, _⟩ := cells_known4 k6
        have K6 := Lib.hid k6
        have K8 := Lib.hid k8
        clear hca hSt hnext hdone k6 k8
        generalize hzk : zs.getD k 0 = z at *
        clear hzk
        obtain ⟨z0, z1⟩ := hz
        go_wp2_with fail
        obtain ⟨t12, v1, e1, e2, h1, k12, s1⟩ := HS.out.made (vObj x 1 0 0 256)
        rw [e1, e2]
        have FACTS : Hid (∀ w', Loc [t12, t8, t6] w v1 w' → (w'.heap[t6]? = some (pObj 1 0 0 256) ∧ w'.heap[t8]? = some (pObj 2 0 0 256) ∧ w'.heap[t12]? = some (vObj x 1 0 0 256))) := Lib.hid fun w' hw =>
          have b := fun t ht => hw.block t (h1.loc t ht).2 (fun x => x.2 ht)
          ⟨(b t6 (by simp)).trans (s1.keeps K6.out), (b t8 (by simp)).trans (s1.keeps K8.out), (b t12 (by simp)).trans k12⟩
        have H1 := Lib.hid h1
        clear e1 e2 k12 s1 h1 K6 K8 HS c0 c1 c2 c3
        refine wp_region_each 15 planC (fun a b => Loc [t12, t8, t6] w a b) (Loc [t12, t8, t6] w v1) (fun w' => St [t12, t8, t6] w w' p ⟨x, ⟨1, 0, 0, 256⟩⟩ (zs.take k) (2 * k)) [Is ?v12_0, Is ?v12_1, Is ?v12_2, Is ?v12_3, Is ?v12_4, Is ?v12_5, Is ?v12_6, Is ?v12_7, Is ?v12_8, Is ?v12_9, Is ?v12_10, Is ?v12_11, Is ?v12_12, Is ?v12_13, Is ?v12_14] [fun _ _ => True, fun _ _ => True, fun _ _ => True, fun _ _ => True, fun _ _ => True, fun _ _ => True, fun _ w' => St [t12, t8, t6] w w' p ⟨x, ⟨1, 0, 0, 256⟩⟩ (zs.take k) (2 * k + 1), fun _ _ => True, fun _ _ => True, fun _ _ => True, fun _ _ => True, fun _ _ => True, fun _ _ => True, fun _ _ => True, fun _ _ => True] (by kernel_rfl) (by kernel_rfl) (fun _ _ h => h.size) ((Step.refl _ _).drew) (H1.out.still (Step.refl _ _).drew) ?stab12 ?stabD12 ?obl12 ?fin12
        case stab12 => exact fun w w' h => ⟨fun k => k.trans h (fun _ x => x.elim), fun k => k.still h, ⟨fun _ k => k, fun _ k => k, fun _ k => k, fun _ k => k, fun _ k => k, fun _ k => k, fun _ k => k, fun _ k => k, fun _ k => k, fun _ k => k, fun _ k => k, fun _ k => k, fun _ k => k, fun _ k => k, fun _ k => k, trivial⟩, ⟨fun _ k => k, fun _ k => k, fun _ k => k, fun _ k => k, fun _ k => k, fun _ k => k, fun _ k => k.still h, fun _ k => k, fun _ k => k, fun _ k => k, fun _ k => k, fun _ k => k, fun _ k => k, fun _ k => k, fun _ k => k, trivial⟩⟩
        case stabD12 => exact fun w w' h => ⟨fun k => k.trans h (fun _ x => .inl x), fun _ _ k => k, fun _ _ k => k, fun _ _ k => k, fun _ _ k => k, fun _ _ k => k, fun _ _ k => k, fun _ _ k => k, fun _ _ k => k, fun _ _ k => k, fun _ _ k => k, fun _ _ k => k, fun _ _ k => k, fun _ _ k => k, fun _ _ k => k, fun _ _ k => k, trivial⟩
        case obl12 =>
          refine ⟨?o12_0, ?o12_1, ?o12_2, ?o12_3, ?o12_4, ?o12_5, ?o12_6, ?o12_7, ?o12_8, ?o12_9, ?o12_10, ?o12_11, ?o12_12, ?o12_13, ?o12_14, trivial⟩
          case o12_0 =>
            intro xv wq hH hS H hU aq ha Q' hQ
            obtain ⟨f6, f8, f12⟩ := FACTS.out _ hH; obtain ⟨c0, c1, c2, c3, _⟩ := cells_known4 f6; obtain ⟨d0, d1, d2, d3, _⟩ := cells_known4 f8; obtain ⟨g0, g1, g2, g3, g4, _⟩ := cells_known5 f12; clear f6 f8 f12
            change aq = puts _ xv [] at ha
            simp only [puts] at ha
            subst ha; clear H 
            clear hU hS
            go_wp2_with fail
            (try refine hQ _ _ ?_)
            refine ⟨Step.refl _ _, ?_, trivial, nofun⟩
            exact (rfl : _ = _)
          case o12_1 =>
            intro xv wq hH hS H hU aq ha Q' hQ
            obtain ⟨f6, f8, f12⟩ := FACTS.out _ hH; obtain ⟨c0, c1, c2, c3, _⟩ := cells_known4 f6; obtain ⟨d0, d1, d2, d3, _⟩ := cells_known4 f8; obtain ⟨g0, g1, g2, g3, g4, _⟩ := cells_known5 f12; clear f6 f8 f12
            change aq = puts _ xv [] at ha
            simp only [puts] at ha
            subst ha; clear H 
            clear hU hS
            go_wp2_with fail
            (try refine hQ _ _ ?_)
            refine ⟨Step.refl _ _, ?_, trivial, nofun⟩
            exact (rfl : _ = _)
          case o12_2 =>
            intro xv wq hH hS H hU aq ha Q' hQ
            obtain ⟨f6, f8, f12⟩ := FACTS.out _ hH; obtain ⟨c0, c1, c2, c3, _⟩ := cells_known4 f6; obtain ⟨d0, d1, d2, d3, _⟩ := cells_known4 f8; obtain ⟨g0, g1, g2, g3, g4, _⟩ := cells_known5 f12; clear f6 f8 f12
            change aq = puts _ xv [] at ha
            simp only [puts] at ha
            subst ha; clear H 
            clear hU hS
            go_wp2_with fail
            (try refine hQ _ _ ?_)
            refine ⟨Step.refl _ _, ?_, trivial, nofun⟩
            exact (rfl : _ = _)
          case o12_3 =>
            intro xv wq hH hS H hU aq ha Q' hQ
            obtain ⟨f6, f8, f12⟩ := FACTS.out _ hH; obtain ⟨c0, c1, c2, c3, _⟩ := cells_known4 f6; obtain ⟨d0, d1, d2, d3, _⟩ := cells_known4 f8; obtain ⟨g0, g1, g2, g3, g4, _⟩ := cells_known5 f12; clear f6 f8 f12
            have h2 : xv 2 = _ := H 2 (by kernel_rfl)
            change aq = puts _ xv [(2, some 59)] at ha
            simp only [puts, Act.put, List.setIfInBounds_toArray, List.set_cons_zero, List.set_cons_succ, h2] at ha
            subst ha; clear H h2
            clear hU hS
            go_wp2_with fail
            (try refine hQ _ _ ?_)
            refine ⟨Step.refl _ _, ?_, trivial, nofun⟩
            exact (rfl : _ = _)
          case o12_4 =>
            intro xv wq hH hS H hU aq ha Q' hQ
            obtain ⟨f6, f8, f12⟩ := FACTS.out _ hH; obtain ⟨c0, c1, c2, c3, _⟩ := cells_known4 f6; obtain ⟨d0, d1, d2, d3, _⟩ := cells_known4 f8; obtain ⟨g0, g1, g2, g3, g4, _⟩ := cells_known5 f12; clear f6 f8 f12
            have h1 : xv 1 = _ := H 1 (by kernel_rfl)
            have h3 : xv 3 = _ := H 3 (by kernel_rfl)
            change aq = puts _ xv [(1, some 58), (3, some 60)] at ha
            simp only [puts, Act.put, List.setIfInBounds_toArray, List.set_cons_zero, List.set_cons_succ, h1, h3] at ha
            subst ha; clear H h1 h3
            clear hU hS
            go_wp2_with fail
            refine (move_at (x := z) (by decide) (by unfold wrap64; omega) _).mono ?_; rintro e w4 ⟨rfl, s4⟩
            go_wp2_with fail
            (try refine hQ _ _ ?_)
            refine ⟨s4, ?_, trivial, nofun⟩
            exact (rfl : _ = _)
          case o12_5 =>
            intro xv wq hH hS H hU aq ha Q' hQ
            obtain ⟨f6, f8, f12⟩ := FACTS.out _ hH; obtain ⟨c0, c1, c2, c3, _⟩ := cells_known4 f6; obtain ⟨d0, d1, d2, d3, _⟩ := cells_known4 f8; obtain ⟨g0, g1, g2, g3, g4, _⟩ := cells_known5 f12; clear f6 f8 f12
            change aq = puts _ xv [] at ha
            simp only [puts] at ha
            subst ha; clear H 
            clear hU hS
            go_wp2_with fail
            (try refine hQ _ _ ?_)
            refine ⟨Step.refl _ _, ?_, trivial, nofun⟩
            exact (rfl : _ = _)
          case o12_6 =>
            intro xv wq hH hS H hU aq ha Q' hQ
            obtain ⟨f6, f8, f12⟩ := FACTS.out _ hH; obtain ⟨c0, c1, c2, c3, _⟩ := cells_known4 f6; obtain ⟨d0, d1, d2, d3, _⟩ := cells_known4 f8; obtain ⟨g0, g1, g2, g3, g4, _⟩ := cells_known5 f12; clear f6 f8 f12
            have h0 : xv 0 = _ := H 0 (by kernel_rfl)
            have h4 : xv 4 = _ := H 4 (by kernel_rfl)
            have h5 : xv 5 = _ := H 5 (by kernel_rfl)
            change aq = puts _ xv [(0, some 57), (4, some 61), (5, some 62)] at ha
            simp only [puts, Act.put, List.setIfInBounds_toArray, List.set_cons_zero, List.set_cons_succ, h0, h4, h5] at ha
            subst ha; clear H h0 h4 h5
            have L := Lib.hid (hS (by kernel_rfl))
            clear hU hS
            go_wp2_with fail
            refine (st_store1 L.out (by omega) HD.out z0 (by omega)).mono ?_; rintro e w4 ⟨rfl, hl, hst⟩
            have HL := Lib.hid hst
            have HO := Lib.hid hl
            clear hst hl
            go_wp2_with fail
            (try refine hQ _ _ ?_)
            refine ⟨HO.out, ?_, HL.out, nofun⟩
            exact (rfl : _ = _)
          case o12_7 =>
            intro xv wq hH hS H hU aq ha Q' hQ
            obtain ⟨f6, f8, f12⟩ := FACTS.out _ hH; obtain ⟨c0, c1, c2, c3, _⟩ := cells_known4 f6; obtain ⟨d0, d1, d2, d3, _⟩ := cells_known4 f8; obtain ⟨g0, g1, g2, g3, g4, _⟩ := cells_known5 f12; clear f6 f8 f12
            have h6 : xv 6 = _ := H 6 (by kernel_rfl)
            change aq = puts _ xv [(6, some 63)] at ha
            simp only [puts, Act.put, List.setIfInBounds_toArray, List.set_cons_zero, List.set_cons_succ, h6] at ha
            subst ha; clear H h6
            clear hU hS
            go_wp2_with fail
            (try refine hQ _ _ ?_)
            refine ⟨Step.refl _ _, ?_, trivial, nofun⟩
            exact (rfl : _ = _)
          case o12_8 =>
            intro xv wq hH hS H hU aq ha Q' hQ
            obtain ⟨f6, f8, f12⟩ := FACTS.out _ hH; obtain ⟨c0, c1, c2, c3, _⟩ := cells_known4 f6; obtain ⟨d0, d1, d2, d3, _⟩ := cells_known4 f8; obtain ⟨g0, g1, g2, g3, g4, _⟩ := cells_known5 f12; clear f6 f8 f12
            have h7 : xv 7 = _ := H 7 (by kernel_rfl)
            change aq = puts _ xv [(7, some 64)] at ha
            simp only [puts, Act.put, List.setIfInBounds_toArray, List.set_cons_zero, List.set_cons_succ, h7] at ha
            subst ha; clear H h7
            clear hU hS
            go_wp2_with fail
            (try refine hQ _ _ ?_)
            refine ⟨Step.refl _ _, ?_, trivial, nofun⟩
            exact (rfl : _ = _)
          case o12_9 =>
            intro xv wq hH hS H hU aq ha Q' hQ
            obtain ⟨f6, f8, f12⟩ := FACTS.out _ hH; obtain ⟨c0, c1, c2, c3, _⟩ := cells_known4 f6; obtain ⟨d0, d1, d2, d3, _⟩ := cells_known4 f8; obtain ⟨g0, g1, g2, g3, g4, _⟩ := cells_known5 f12; clear f6 f8 f12
            have h8 : xv 8 = _ := H 8 (by kernel_rfl)
            change aq = puts _ xv [(8, some 65)] at ha
            simp only [puts, Act.put, List.setIfInBounds_toArray, List.set_cons_zero, List.set_cons_succ, h8] at ha
            subst ha; clear H h8
            clear hU hS
            go_wp2_with fail
            (try refine hQ _ _ ?_)
            refine ⟨Step.refl _ _, ?_, trivial, nofun⟩
            exact (rfl : _ = _)
          case o12_10 =>
            intro xv wq hH hS H hU aq ha Q' hQ
            obtain ⟨f6, f8, f12⟩ := FACTS.out _ hH; obtain ⟨c0, c1, c2, c3, _⟩ := cells_known4 f6; obtain ⟨d0, d1, d2, d3, _⟩ := cells_known4 f8; obtain ⟨g0, g1, g2, g3, g4, _⟩ := cells_known5 f12; clear f6 f8 f12
            have h8 : xv 8 = _ := H 8 (by kernel_rfl)
            change aq = puts _ xv [(8, some 65)] at ha
            simp only [puts, Act.put, List.setIfInBounds_toArray, List.set_cons_zero, List.set_cons_succ, h8] at ha
            subst ha; clear H h8
            clear hU hS
            go_wp2_with fail
            (try refine hQ _ _ ?_)
            refine ⟨Step.refl _ _, ?_, trivial, nofun⟩
            exact (rfl : _ = _)
          case o12_11 =>
            intro xv wq hH hS H hU aq ha Q' hQ
            obtain ⟨f6, f8, f12⟩ := FACTS.out _ hH; obtain ⟨c0, c1, c2, c3, _⟩ := cells_known4 f6; obtain ⟨d0, d1, d2, d3, _⟩ := cells_known4 f8; obtain ⟨g0, g1, g2, g3, g4, _⟩ := cells_known5 f12; clear f6 f8 f12
            have h8 : xv 8 = _ := H 8 (by kernel_rfl)
            change aq = puts _ xv [(8, some 65)] at ha
            simp only [puts, Act.put, List.setIfInBounds_toArray, List.set_cons_zero, List.set_cons_succ, h8] at ha
            subst ha; clear H h8
            clear hU hS
            go_wp2_with fail
            (try refine hQ _ _ ?_)
            refine ⟨Step.refl _ _, ?_, trivial, nofun⟩
            exact (rfl : _ = _)
          case o12_12 =>
            intro xv wq hH hS H hU aq ha Q' hQ
            obtain ⟨f6, f8, f12⟩ := FACTS.out _ hH; obtain ⟨c0, c1, c2, c3, _⟩ := cells_known4 f6; obtain ⟨d0, d1, d2, d3, _⟩ := cells_known4 f8; obtain ⟨g0, g1, g2, g3, g4, _⟩ := cells_known5 f12; clear f6 f8 f12
            have h8 : xv 8 = _ := H 8 (by kernel_rfl)
            have h11 : xv 11 = _ := H 11 (by kernel_rfl)
            change aq = puts _ xv [(8, some 65), (11, some 68)] at ha
            simp only [puts, Act.put, List.setIfInBounds_toArray, List.set_cons_zero, List.set_cons_succ, h8, h11] at ha
            subst ha; clear H h8 h11
            clear hU hS
            go_wp2_with fail
            (try refine hQ _ _ ?_)
            refine ⟨Step.refl _ _, ?_, trivial, nofun⟩
            exact (rfl : _ = _)
          case o12_13 =>
            intro xv wq hH hS H hU aq ha Q' hQ
            obtain ⟨f6, f8, f12⟩ := FACTS.out _ hH; obtain ⟨c0, c1, c2, c3, _⟩ := cells_known4 f6; obtain ⟨d0, d1, d2, d3, _⟩ := cells_known4 f8; obtain ⟨g0, g1, g2, g3, g4, _⟩ := cells_known5 f12; clear f6 f8 f12
            have h8 : xv 8 = _ := H 8 (by kernel_rfl)
            have h10 : xv 10 = _ := H 10 (by kernel_rfl)
            have h12 : xv 12 = _ := H 12 (by kernel_rfl)
            change aq = puts _ xv [(8, some 65), (10, some 67), (12, some 69)] at ha
            simp only [puts, Act.put, List.setIfInBounds_toArray, List.set_cons_zero, List.set_cons_succ, h8, h10, h12] at ha
            subst ha; clear H h8 h10 h12
            clear hU hS
            go_wp2_with fail
            refine (move_at (x := z) (by decide) (by unfold wrap64; omega) _).mono ?_; rintro e w4 ⟨rfl, s4⟩
            go_wp2_with fail
            (try refine hQ _ _ ?_)
            refine ⟨s4, ?_, trivial, nofun⟩
            exact (rfl : _ = _)
          case o12_14 =>
            intro xv wq hH hS H hU aq ha Q' hQ
            obtain ⟨f6, f8, f12⟩ := FACTS.out _ hH; obtain ⟨c0, c1, c2, c3, _⟩ := cells_known4 f6; obtain ⟨d0, d1, d2, d3, _⟩ := cells_known4 f8; obtain ⟨g0, g1, g2, g3, g4, _⟩ := cells_known5 f12; clear f6 f8 f12
            have h8 : xv 8 = _ := H 8 (by kernel_rfl)
            change aq = puts _ xv [(8, some 65)] at ha
            simp only [puts, Act.put, List.setIfInBounds_toArray, List.set_cons_zero, List.set_cons_succ, h8] at ha
            subst ha; clear H h8
            clear hU hS
            go_wp2_with fail
            (try refine hQ _ _ ?_)
            refine ⟨Step.refl _ _, ?_, trivial, nofun⟩
            exact (rfl : _ = _)
        intro xv v2 hH hS H hU hsz hF hN
        have h0 : xv 0 = _ := H 0 (by decide) (by kernel_rfl)
        have h1 : xv 1 = _ := H 1 (by decide) (by kernel_rfl)
        have h2 : xv 2 = _ := H 2 (by decide) (by kernel_rfl)
        have h3 : xv 3 = _ := H 3 (by decide) (by kernel_rfl)
        have h4 : xv 4 = _ := H 4 (by decide) (by kernel_rfl)
        have h5 : xv 5 = _ := H 5 (by decide) (by kernel_rfl)
        have h6 : xv 6 = _ := H 6 (by decide) (by kernel_rfl)
        have h7 : xv 7 = _ := H 7 (by decide) (by kernel_rfl)
        have h8 : xv 8 = _ := H 8 (by decide) (by kernel_rfl)
        have h9 : xv 9 = _ := H 9 (by decide) (by kernel_rfl)
        have h10 : xv 10 = _ := H 10 (by decide) (by kernel_rfl)
        have h11 : xv 11 = _ := H 11 (by decide) (by kernel_rfl)
        have h12 : xv 12 = _ := H 12 (by decide) (by kernel_rfl)
        have h13 : xv 13 = _ := H 13 (by decide) (by kernel_rfl)
        have h14 : xv 14 = _ := H 14 (by decide) (by kernel_rfl)
        simp only [planC, puts, Act.put, List.setIfInBounds_toArray, List.set_cons_zero, List.set_cons_succ, List.drop_succ_cons, List.drop_zero, h0, h1, h2, h3, h4, h5, h6, h7, h8, h9, h10, h11, h12, h13, h14]
        have hL := hU 6 (by decide) (by kernel_rfl)
        clear H hF hN hS hU h0 h1 h2 h3 h4 h5 h6 h7 h8 h9 h10 h11 h12 h13 h14
        have HL : Hid (St [t12, t8, t6] w v2 p ⟨x, ⟨1, 0, 0, 256⟩⟩ (zs.take k) (2 * k + 1)) := Lib.hid hL
        have F2 := Lib.hid (FACTS.out _ hH)
        clear hL hH hsz FACTS H1
        go_wp2_with fail
        refine (st_store2 HL.out (by omega) z0 (by omega)).mono ?_; rintro e v3 ⟨rfl, hl, hst⟩
        have K6 := Lib.hid ((hl.block t6 (HL.out.loc t6 (by simp)).2 (fun x => x.2 (by simp))).trans F2.out.1)
        have K8 := Lib.hid ((hl.block t8 (HL.out.loc t8 (by simp)).2 (fun x => x.2 (by simp))).trans F2.out.2.1)
        have H3 := Lib.hid hst
        clear hl hst HL F2
        go_wp2_with fail
        go_roundw
        case rel => exact ⟨k + 1, by omega, by go_num, by rw [HN.out]; exact H3.out.drop, K6.out, K8.out⟩
        case measure => simp [intOf]; omega
      · have dk : decide (k < zs.length) = false := decide_eq_false hlt
        have hkn : k = zs.length := by omega
        have hSt' : St [t8, t6] w wr p ⟨x, ⟨1, 0, 0, 256⟩⟩ zs 80 := by
          obtain ⟨l, f, m, g1, g2, g3, g4⟩ := hSt
          rw [hkn, List.take_length] at g4
          exact ⟨l, f, m, g1, by omega, g3, g4⟩
        have HS := Lib.hid hSt'
        obtain ⟨c0, c1, c2, c3, _⟩ := cells_known4 k6
        have K6 := Lib.hid k6
        have K8 := Lib.hid k8
        clear hSt hSt' hkn k6 k8
        go_wp2_with fail
        refine (st_clear HS.out (fun j hj => by have := wfu8 (HW.out j hj); omega)).mono ?_; rintro e w7 ⟨rfl, hl, h7⟩
        have K6' := Lib.hid ((hl.block t6 (HS.out.loc t6 (by simp)).2 (fun x => x.2 (by simp))).trans K6.out)
        have K8' := Lib.hid ((hl.block t8 (HS.out.loc t8 (by simp)).2 (fun x => x.2 (by simp))).trans K8.out)
        have H7 := Lib.hid h7
        clear hl h7 HS K6 K8 c0 c1 c2 c3
        go_wp2_with fail
        go_loopw [14, 15, 16, 17, 18, 83] (fun _ _ _ _ _ i wr => ∃ k : Nat, k ≤ zs.length ∧ i = .int .i64 k ∧ CInv2 w wr p ⟨x, ⟨1, 0, 0, 256⟩⟩ t6 t8 zs) (fun _ _ _ _ _ i _ => zs.length - (intOf i).toNat)
        case atStart => exact ⟨0, by omega, rfl, H7.out, K6'.out, K8'.out⟩
        case round =>
          obtain ⟨k, hk, rfl, hI⟩ := hrel
          clear H7 K6' K8' dk hlt
          obtain ⟨hSt, k6, k8⟩ := hI
          by_cases hlt : k < zs.length
          · obtain ⟨a, rfl, hca⟩ := HC.out k hlt
            have hmem : zs.getD k 0 ∈ zs := by rw [List.getD_eq_getElem?_getD, List.getElem?_eq_getElem hlt]; exact List.getElem_mem hlt
            have hz : 0 ≤ zs.getD k 0 ∧ zs.getD k 0 ≤ 255 := wfu8 (HW.out _ hmem)
            have hcw : wr.cell? (a.add k) = some (.int .u8 (zs.getD k 0)) := (hSt.cell_old (block_lt hca)).trans hca
            have dk : decide (k < zs.length) = true := decide_eq_true hlt
            have HS := Lib.hid hSt
            have HM := Lib.hid hmem
            obtain ⟨c0, c1, c2, c3, _⟩ := cells_known4 k6
            have K6 := Lib.hid k6
            have K8 := Lib.hid k8
            clear hca hSt k6 k8 hmem
            generalize hzk : zs.getD k 0 = z at *
            clear hzk
            obtain ⟨z0, z1⟩ := hz
            go_wp2_with fail
            refine (move_at (x := z) (by decide) (by unfold wrap64; omega) _).mono ?_; rintro e v1 ⟨rfl, s1⟩
            have H1 := Lib.hid (HS.out.still s1)
            have K6a := Lib.hid (s1.keeps K6.out)
            have K8a := Lib.hid (s1.keeps K8.out)
            clear s1 HS K6 K8 c0 c1 c2 c3 hcw
            go_wp2_with fail
            refine (st_load1 H1.out z0 (by omega)).mono ?_; rintro e v2 ⟨rfl, h2, s2⟩
            have K6b := Lib.hid (s2.keeps K6a.out)
            have K8b := Lib.hid (s2.keeps K8a.out)
            have H2 := Lib.hid h2
            clear s2 h2 H1 K6a K8a
            obtain ⟨d0, d1, d2, d3, _⟩ := cells_known4 K8b.out
            have l8 := lt_obj K8b.out
            go_wp2_with fail
            obtain ⟨t15, v3, r1, r2, h3, k15, s3⟩ := H2.out.made (vObj 0 0 0 0 0)
            rw [r1]
            refine (move_at (x := z) (by decide) (by unfold wrap64; omega) _).mono ?_; rintro e v4 ⟨rfl, s4⟩
            have H4 := Lib.hid (h3.still s4)
            have K6c := Lib.hid (s4.keeps (s3.keeps K6b.out))
            have K8c := Lib.hid (s4.keeps (s3.keeps K8b.out))
            have K15 := Lib.hid (s4.keeps k15)
            clear s4 s3 k15 h3 H2 K6b K8b d0 d1 d2 d3 l8
            rw [r2]
            clear r1 r2
            go_wp2_with fail
            refine (st_load2 H4.out z0 (by omega) HM.out).mono ?_; rintro e v5 ⟨rfl, h5, s5⟩
            have K6d := Lib.hid (s5.keeps K6c.out)
            have K8d := Lib.hid (s5.keeps K8c.out)
            have K15d := Lib.hid (s5.keeps K15.out)
            have H5 := Lib.hid h5
            clear s5 h5 H4 K6c K8c K15
            obtain ⟨d0, d1, d2, d3, _⟩ := cells_known4 K6d.out
            have l6 := lt_obj K6d.out
            obtain ⟨g0, g1, g2, g3, g4, _⟩ := cells_known5 K15d.out
            have l15 := lt_obj K15d.out
            go_wp2_with fail
            go_roundw
            case rel => exact ⟨k + 1, by omega, by go_num, (H5.out.al _).drop.drop, (Step.alloc _ _ _).keeps K6d.out, (Step.alloc _ _ _).keeps K8d.out⟩
            case measure => simp [intOf]; omega
          · have dk : decide (k < zs.length) = false := decide_eq_false hlt
            have HS := Lib.hid hSt
            obtain ⟨c0, c1, c2, c3, _⟩ := cells_known4 k6
            obtain ⟨d0, d1, d2, d3, _⟩ := cells_known4 k8
            clear hSt k6 k8
            go_wp2_with fail
            refine (st_live HS.out (.inl rfl)).mono ?_; rintro e v1 ⟨rfl, rfl⟩
            go_wp2_with fail
            refine (st_live HS.out (.inr rfl)).mono ?_; rintro e v1 ⟨rfl, rfl⟩
            go_wp2_with fail
            go_ret
            exact ⟨rfl, HS.out.below⟩

/-! ### The row. -/

set_option maxRecDepth 100000 in
theorem lifted (os : Os) (started : os.Started) (H : Type) (enc : TypeId × Value → H) :
    ReturnsInHanded {} Try.checked os 6 .any (Rows.heapClearsSpec.pre6 enc Try.prog Try.f6 Rows.heapClearsRow.domain false) (Rows.heapClearsSpec.post enc Try.prog Try.f6 false true false false) := by
  refine returnsInHanded_of_change (C := Try.checked) own started (by kernel_rfl) Try.func6
    (ChangeSpec.witness6 (enc := enc) (C := Try.checked) false ⟨#[], #[.slice none 0 0, .int .u64 0], []⟩ 8 (by kernel_rfl) (by kernel_rfl) (by kernel_rfl) (by kernel_rfl)) ?_
  intro W base args ds gs before hval0 hW hcnd _
  have hval : ∀ (j : Nat) t v, Try.f6.params[j]? = some t → args[j]? = some v → Value.okWide Try.prog W .any base t v := hval0
  have hW' := hW
  obtain ⟨p, q, hA0, hV, rfl, hfz, hnd⟩ := hW
  have hA : DataW.TrodAll enc Try.prog W 0 (fun _ => true) true Try.f6.params.toList args.toList ds p := hA0
  rw [Try.params6] at hA hval
  obtain ⟨v0, vs0, d0, ds0, p0, q0, hargs, rfl, rfl, h0, r0⟩ := trodAll_cons hA
  obtain ⟨v1, vs1, d1, ds1, p1, q1, rfl, rfl, rfl, h1, r1⟩ := trodAll_cons r0
  obtain ⟨rfl, rfl, rfl⟩ := trodAll_nil r1
  obtain rfl : args = #[v0, v1] := by cases args; simp_all
  obtain ⟨rfl, rfl⟩ := trodVars_none hV
  obtain ⟨zs, hzs⟩ := ints_in Try.underlying51 Try.underlying5 (by kernel_rfl) (hval 0 51 v0 rfl rfl) h0
  obtain ⟨a1, rfl, rfl, rfl, w1⟩ := open_int Try.underlying39 (hval 1 39 v1 rfl rfl) h1
  clear hA0 hval0
  simp only [List.append_nil] at hW'
  refine (walk v0 zs a1 W hzs).mono fun e W' ⟨he, hb⟩ => ?_
  subst he
  exact ⟨_, rfl, law_post laidOut (by kernel_rfl) rfl rfl rfl Try.underlying4 hW' hb⟩

theorem over : Rows.heapClearsRow.holds Try.pinned (OpenSpec.ofChange Rows.heapClearsSpec) :=
  OpenClaim.holds_of_wide 6 Try.f6 rfl rfl rfl rfl rfl rfl rfl ⟨rfl, rfl, rfl, rfl, rfl⟩ rfl rfl rfl rfl rfl (by kernel_rfl) Try.func6 (by kernel_rfl)
    (of_decide_eq_true (by kernel_rfl)) (by unfold Func.isWrapper; first | (rw [if_pos (by decide +kernel)]; kernel_rfl) | (rw [if_neg (by decide +kernel)]; exact ⟨rfl, rfl⟩))
    (fun os started H enc _ => lifted os started H enc)

/-- The statement. -/
theorem proved : Rows.HeapClearsSaid :=
  over
#print axioms proved
end Go.Proofs.Ytjeoendenecidaa.heapClears
