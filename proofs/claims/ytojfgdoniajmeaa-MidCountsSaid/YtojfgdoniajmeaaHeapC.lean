/- The heap's places as keys of its map; its calls Load and Store. -/
import Derived.Test.YtojfgdoniajmeaaHeapB
namespace Go.Proofs.Ytojfgdoniajmeaa
set_option linter.unusedVariables false
set_option linter.unusedSimpArgs false
set_option maxRecDepth 100000
open Go.RowKit

theorem laidOut : laidOutB Try.prog = true := by kernel_rfl
theorem place_law : Maps.Keyed Try.prog 164 :=
  Maps.Keyed.of_law (deep_law_laid laidOut (m := 2) (by omega) (of_decide_eq_true (by kernel_rfl)) (by kernel_rfl) (by kernel_rfl))

theorem place_key (b o : Int) (hb : (Lit.int .i64 b).wf = true) (ho : (Lit.int .i64 o).wf = true) : keyOf Try.prog 164 (.agg #[.int .i64 b, .int .i64 o]) = some (plKey b o) := by
  have h1 : Try.prog.keyType 164 = true := by kernel_rfl
  have h2 : Value.formed Try.prog 164 (.agg #[.int .i64 b, .int .i64 o]) = true := by kernel_rfl
  have h3 : Try.prog.cellsOf 3 = 1 := by kernel_rfl
  have h6 : Try.prog.cellsOf 164 = 2 := by kernel_rfl
  have h4 : ∀ n, Try.prog.keyLits (n + 2) 164 [.int .i64 b, .int .i64 o] = some [.int .i64 b, .int .i64 o] := by
    intro n
    unfold Program.keyLits
    rw [Try.underlying164]
    simp [h3, h6]
    unfold Program.keyLits
    rw [Try.underlying3]
    simp [hb, ho]
  unfold keyOf
  rw [Try.underlying164]
  have h5 : ∃ n, Try.prog.types.size + 1 = n + 2 := ⟨Try.prog.types.size - 1, by have : 1 ≤ Try.prog.types.size := of_decide_eq_true (by kernel_rfl); omega⟩
  obtain ⟨n, hn⟩ := h5
  simp only [h1, h2, Bool.and_self, if_true]
  rw [hn]
  show Option.map _ (Try.prog.keyLits (n + 2) 164 [.int .i64 b, .int .i64 o]) = _
  rw [h4]; rfl

theorem plKey_inj {a b c d : Int} (h1 : (Lit.int .i64 a).wf = true) (h2 : (Lit.int .i64 b).wf = true) (h3 : (Lit.int .i64 c).wf = true) (h4 : (Lit.int .i64 d).wf = true) (h : plKey a b = plKey c d) : a = c ∧ b = d := by
  have e := place_law.inj (place_key a b h1 h2) (h ▸ place_key c d h3 h4)
  simpa using e

theorem zero_value (w : World) : (zeroValue 98).run Try.prog w = .ok HV.zero.val w := by kernel_rfl

/-- what is loaded of a place -/
def getOf (f : Lit → Option HV) (b off : Int) : HV := (f (plKey b off)).getD HV.zero

set_option maxHeartbeats 4000000 in
set_option maxRecDepth 100000 in
theorem load_any (p : Nat) (b off lo hi n : Int) (l : List HB) (f : Lit → Option HV) (m : Nat) (F : Nat → Prop) (w : World) (h : HeapAt w p l f m F) (hl : 0 < l.length)
    (b0 : -9223372036854775808 ≤ b) (b1 : b ≤ 9223372036854775807) (o0 : -9223372036854775808 ≤ off) (o1 : off ≤ 9223372036854775807) (i0 : -9223372036854775808 ≤ hi) (i1 : hi ≤ 9223372036854775807) :
    Calls Try.prog 64 #[.pointer (some ⟨p, 0, none⟩), .agg #[.int .i64 b, .int .i64 off, .int .i64 lo, .int .i64 hi], .int .i64 n] w fun e w' =>
      e = .returned (.tuple #[(if atOf l b off lo hi n = 0 then getOf f b off else HV.zero).val, .int .i64 (atOf l b off lo hi n)]) ∧ Step (fun _ => False) w w' := by
  have hat := fun w h => at_any p b off lo hi n l f m F w h hl o0 o1 i0 i1
  obtain ⟨g, cap, mb, cur, P⟩ := h.parts hl
  have hpw := lt_known P.struct
  have hmw := P.map.lt
  have c0 := cell_known P.struct (i := 0) rfl
  have c1 := cell_known P.struct (i := 1) rfl
  have AT := Lib.hid hat
  have H1 := Lib.hid h
  have PP := Lib.hid P
  clear hat h P hl
  by_cases hz : atOf l b off lo hi n = 0
  · rw [if_pos hz]
    have AT0 : Hid (∀ w, HeapAt w p l f m F → Calls Try.prog 90 #[.pointer (some ⟨p, 0, none⟩), .agg #[.int .i64 b, .int .i64 off, .int .i64 lo, .int .i64 hi], .int .i64 n] w fun e w' => e = .returned (.int .i64 0) ∧ Step (fun _ => False) w w') := by
      have := AT.out
      rw [hz] at this
      exact Lib.hid this
    rw [hz]
    have hv : ∃ x : HV, x = getOf f b off := ⟨_, rfl⟩
    obtain ⟨x, hx⟩ := hv
    rw [← hx]
    have lk : ∀ W : World, W.heap[mb]? = w.heap[mb]? → (Instr.lookup 90 (.map (some mb)) (.agg #[.int .i64 b, .int .i64 off]) false).run Try.prog W = .ok (.agg #[.int .u64 x.num, .int .i64 x.ptr.block, .int .i64 x.ptr.off, .int .i64 x.ptr.low, .int .i64 x.ptr.high]) W := by
      intro W hW
      have h := (PP.out.map.same hW).lookup place_law Try.underlying90 (zero_value W) (place_key b off (by go_wf) (by go_wf))
      rw [h, hx]
      unfold getOf
      cases f (plKey b off) <;> rfl
    have LK := Lib.hid lk
    clear lk hx hz AT
    go_enter Try.func64, Try.ntmps64
    go_wp2_with fail
    refine (AT0.out _ ((H1.out.al _).al _)).mono ?_; rintro e w1 ⟨rfl, hst⟩
    have kp : w1.heap[p]? = w.heap[p]? := by rw [hst.block p (by simp; omega) (fun k => k), heap_alloc_old _ _ (by simp; omega), heap_alloc_old _ _ hpw]
    have km : w1.heap[mb]? = w.heap[mb]? := by rw [hst.block mb (by simp; omega) (fun k => k), heap_alloc_old _ _ (by simp; omega), heap_alloc_old _ _ hmw]
    have ka : w1.heap[w.heap.size]? = some (.cells #[.int .i64 b, .int .i64 off, .int .i64 lo, .int .i64 hi] 94 (0, 0)) := by
      rw [hst.block _ (by simp; omega) (fun k => k), heap_alloc_old _ _ (by simp)]; exact heap_alloc_new w _
    have kr : w1.heap[w.heap.size + 1]? = some (.cells #[.int .u64 0, .int .i64 0, .int .i64 0, .int .i64 0, .int .i64 0] 98 (0, 0)) := by
      rw [hst.block _ (by simp) (fun k => k)]
      exact (congrArg _ (by simp)).trans (heap_alloc_new (w.alloc _) _)
    have l1 := LK.out w1.drew km
    have d1 : w1.cell? ⟨p, 1, none⟩ = some (.map (some mb)) := (cell_of kp).trans c1
    have a0 := cell_known ka (i := 0) rfl
    have a1 := cell_known ka (i := 1) rfl
    have r0 := cell_known kr (i := 0) rfl
    have r1 := cell_known kr (i := 1) rfl
    have r2 := cell_known kr (i := 2) rfl
    have r3 := cell_known kr (i := 3) rfl
    have r4 := cell_known kr (i := 4) rfl
    have q0 := free_known kr 0
    have q1 := free_known kr 1
    have q2 := free_known kr 2
    have q3 := free_known kr 3
    have q4 := free_known kr 4
    have HS := Lib.hid hst
    clear hst kp km ka kr c0 c1
    go_wp2_with fail
    go_region
    all_goals
      go_wp2_with fail
      refine bodyPost_ret (v := .tuple #[x.val, .int .i64 0]) (by simp [results, Try.results64, go_sem, r0, r1, r2, r3, r4, HV.val]) rfl ⟨rfl, ?_⟩
      exact ((((((((Step.refl _ w).al _).al _).trans HS.out (fun _ k => k.elim)).set (Or.inr (Nat.le_succ _)) _).set (Or.inr (Nat.le_succ _)) _).set (Or.inr (Nat.le_succ _)) _).set (Or.inr (Nat.le_succ _)) _).set (Or.inr (Nat.le_succ _)) _ |>.drew
  · rw [if_neg hz]
    generalize atOf l b off lo hi n = code at *
    have hz1 : (code == 0) = false := beq_eq_false_iff_ne.2 hz
    have hz2 : (code != 0) = true := bne_iff_ne.2 hz
    clear hz
    go_enter Try.func64, Try.ntmps64
    go_wp2_with fail
    refine (AT.out _ ((H1.out.al _).al _)).mono ?_; rintro e w1 ⟨rfl, hst⟩
    obtain ⟨hc, hf⟩ := scell hst
    have hsz := hst.size
    have HS := Lib.hid hst
    clear hst
    go_wp2_with fail
    refine bodyPost_ret (v := .tuple #[HV.zero.val, .int .i64 code]) (by simp [results, Try.results64, go_sem, hc, HV.val, HV.zero]) rfl ⟨rfl, ?_⟩
    exact ((((((((Step.refl _ w).al _).al _).trans HS.out (fun _ k => k.elim)).set (Or.inr (Nat.le_succ _)) _).set (Or.inr (Nat.le_succ _)) _).set (Or.inr (Nat.le_succ _)) _).set (Or.inr (Nat.le_succ _)) _).set (Or.inr (Nat.le_succ _)) _

/-- one block's number of that list, changed -/
def setAt (l : List HB) (b : Int) (g : HB → HB) : List HB := l.modify b.toNat g

set_option maxHeartbeats 4000000 in
set_option maxRecDepth 100000 in
theorem store_any (p : Nat) (b off lo hi n : Int) (x : HV) (l : List HB) (f : Lit → Option HV) (m : Nat) (F : Nat → Prop) (w : World) (h : HeapAt w p l f m F) (hl : 0 < l.length) (hm : m < 4294967296)
    (b0 : -9223372036854775808 ≤ b) (b1 : b ≤ 9223372036854775807) (o0 : -9223372036854775808 ≤ off) (o1 : off ≤ 9223372036854775807) (i0 : -9223372036854775808 ≤ hi) (i1 : hi ≤ 9223372036854775807) :
    Calls Try.prog 91 #[.pointer (some ⟨p, 0, none⟩), .agg #[.int .i64 b, .int .i64 off, .int .i64 lo, .int .i64 hi], .int .i64 n, x.val] w fun e w' =>
      e = .returned (.int .i64 (atOf l b off lo hi n)) ∧ if atOf l b off lo hi n = 0 then Step F w w' ∧ HeapAt w' p (setAt l b fun y => { y with used := true }) (fun kl => if kl.sameKey (plKey b off) then some x else f kl) (m + 1) F else Step (fun _ => False) w w' := by
  have hat := fun w h => at_any p b off lo hi n l f m F w h hl o0 o1 i0 i1
  obtain ⟨g, cap, mb, cur, P⟩ := h.parts hl
  have hpw := lt_known P.struct
  have hgw := lt_known P.row
  have hmw := P.map.lt
  have AT := Lib.hid hat
  have H1 := Lib.hid h
  have PP := Lib.hid P
  clear hat h
  by_cases hz : atOf l b off lo hi n = 0
  · simp only [if_pos hz]
    have hb : 0 < b ∧ b < l.length := by
      unfold atOf at hz
      split at hz
      · omega
      · split at hz
        · omega
        · split at hz
          · omega
          · rename_i hlv
            have : liveOf l b = true := by simpa using hlv
            unfold liveOf at this
            simp at this
            omega
    have AT0 : Hid (∀ w, HeapAt w p l f m F → Calls Try.prog 90 #[.pointer (some ⟨p, 0, none⟩), .agg #[.int .i64 b, .int .i64 off, .int .i64 lo, .int .i64 hi], .int .i64 n] w fun e w' => e = .returned (.int .i64 0) ∧ Step (fun _ => False) w w') := by
      have := AT.out
      rw [hz] at this
      exact Lib.hid this
    rw [hz]
    clear hz AT
    obtain ⟨i, rfl⟩ := Int.eq_ofNat_of_zero_le (show 0 ≤ b by omega)
    have hi' : i < l.length := by omega
    have hroom := P.room
    have htop := P.top
    unfold maxLen at htop
    obtain ⟨_, _, _, cu⟩ := P.cell i hi'
    have gm := P.gm
    have gp := P.gp
    have mp := P.mp
    have fu := free_known P.row (i * 4 + 3)
    have c0 := cell_known P.struct (i := 0) rfl
    have c1 := cell_known P.struct (i := 1) rfl
    clear P hl
    have hxv : x.val = .agg #[.int .u64 x.num, .int .i64 x.ptr.block, .int .i64 x.ptr.off, .int .i64 x.ptr.low, .int .i64 x.ptr.high] := rfl
    rw [hxv]
    go_enter Try.func91, Try.ntmps91
    go_wp2_with fail
    refine (AT0.out _ ((H1.out.al _).al _)).mono ?_; rintro e w1 ⟨rfl, hst⟩
    have keep : ∀ b, b < w.heap.size → w1.heap[b]? = w.heap[b]? := fun b hb => by rw [hst.block b (by simp; omega) (fun k => k), heap_alloc_old _ _ (by simp; omega), heap_alloc_old _ _ hb]
    have ka : w1.heap[w.heap.size]? = some (.cells #[.int .i64 i, .int .i64 off, .int .i64 lo, .int .i64 hi] 94 (0, 0)) := by
      rw [hst.block _ (by simp; omega) (fun k => k), heap_alloc_old _ _ (by simp)]; exact heap_alloc_new w _
    have kr : w1.heap[w.heap.size + 1]? = some (.cells #[.int .u64 x.num, .int .i64 x.ptr.block, .int .i64 x.ptr.off, .int .i64 x.ptr.low, .int .i64 x.ptr.high] 98 (0, 0)) := by
      rw [hst.block _ (by simp) (fun k => k)]
      exact (congrArg _ (by simp)).trans (heap_alloc_new (w.alloc _) _)
    have hmap : MapAt Try.prog 164 w1.drew mb m (fun kl => (f kl).map HV.val) := PP.out.map.same (keep mb hmw)
    obtain ⟨w2, hu, hm2, hg2, hz2⟩ := hmap.update place_law Try.underlying90 (by simp only [maxLen]; omega) (place_key i off (by go_wf) (by go_wf)) x.val
    rw [hxv] at hu
    have d0 : w1.cell? ⟨p, 0, none⟩ = _ := (cell_of (keep p hpw)).trans c0
    have d1 : w1.cell? ⟨p, 1, none⟩ = _ := (cell_of (keep p hpw)).trans c1
    obtain ⟨a0, a1, _⟩ := cells_known4 ka
    obtain ⟨r0, r1, r2, r3, r4, _⟩ := cells_known5 kr
    have keep2 : ∀ b, b < w1.heap.size → b ≠ mb → w2.heap[b]? = w1.heap[b]? := fun b hb hn => hg2.block b hb (fun e => hn (Option.some.inj e))
    have hs1 : w.heap.size + 1 < w1.heap.size := by have := hst.size; simp at this; omega
    have e0 : w2.cell? ⟨p, 0, none⟩ = _ := (cell_of (keep2 p (by omega) mp.symm)).trans d0
    have e2 : w2.cell? ⟨w.heap.size, 0, none⟩ = _ := (cell_of (keep2 w.heap.size (by omega) (by omega))).trans a0
    have e3 : w2.cell? ⟨g, i * 4 + 3, none⟩ = _ := ((cell_of (keep2 g (by omega) gm)).trans (cell_of (keep g hgw))).trans cu
    have e4 : w2.frozen? ⟨g, i * 4 + 3, none⟩ = _ := ((frozen_of (keep2 g (by omega) gm)).trans (frozen_of (keep g hgw))).trans fu
    have KP := Lib.hid keep
    have KP2 := Lib.hid keep2
    have HS := Lib.hid hst
    have HM := Lib.hid hm2
    have HG := Lib.hid hg2
    clear keep keep2 hst hm2 hg2 hmap ka kr c0 c1 cu fu
    go_wp2_with fail
    go_region
    all_goals
      go_wp2_with fail
      go_region
      all_goals
        go_wp2_with fail
        go_ret
        refine ⟨rfl, ?_, ?_⟩
        · have P := PP.out
          refine (((((Step.refl F w).al _).al _).trans HS.out (fun _ k => k.elim)).trans (G := fun x => x = mb) (Step.of_grown HG.out |>.from_drewN (n := 1)) ?_ |>.set (Or.inl P.hg) _).drew
          intro x hx; subst hx; exact Or.inl P.hm
        · have P := PP.out
          have kg : w2.heap[g]? = some (.cells cur 114 (0, 0)) := ((KP2.out g (by omega) gm).trans (KP.out g hgw)).trans P.row
          refine (P.field (fun y => { y with used := true }) i 3 (.bool true) (by omega) (fun y => rfl) hi' (f' := fun kl => if kl.sameKey (plKey i off) then some x else f kl) (n' := m + 1) ?_ ?_ ?_ ?_ ?_).whole
          · show ((w2.setCell _ _).heap[p]?) = _
            rw [setCell_other _ _ gp.symm, KP2.out p (by omega) mp.symm, KP.out p hpw]
          · exact setCell_known kg _ _
          · refine (HM.out.same (w' := (w2.setCell _ _).drew) ?_).congr ?_
            · show ((w2.setCell _ _).heap[mb]?) = _
              rw [setCell_other _ _ gm.symm]
            · intro kl _
              by_cases h : kl.sameKey (plKey i off) = true
              · simp [h]
              · simp [h]
          · intro kl v hv
            by_cases h : kl.sameKey (plKey i off) = true
            · exact ⟨i, off, by go_wf, by go_wf, WideAt.sameKey_eq h⟩
            · have hv : (if kl.sameKey (plKey i off) = true then some x else f kl) = some v := hv
              rw [if_neg h] at hv; exact P.dom kl v hv
          · intro b o wb wo hu'
            rw [show i = (i : Int).toNat from rfl, blockOf_modify l i _ (by omega) (by omega)] at hu'
            by_cases e : b = i
            · rw [if_pos e] at hu'; cases hu'
            · rw [if_neg e] at hu'
              show (if (plKey b o).sameKey (plKey i off) = true then some x else f (plKey b o)) = none
              rw [if_neg (fun k => e (plKey_inj wb wo (by go_wf) (by go_wf) (WideAt.sameKey_eq k)).1)]
              exact P.clean b o wb wo hu'
  · simp only [if_neg hz]
    generalize atOf l b off lo hi n = code at *
    have hz1 : (code == 0) = false := beq_eq_false_iff_ne.2 hz
    clear hz
    go_enter Try.func91, Try.ntmps91
    go_wp2_with fail
    refine (AT.out _ ((H1.out.al _).al _)).mono ?_; rintro e w1 ⟨rfl, hst⟩
    have HS := Lib.hid hst
    clear hst
    go_wp2_with fail
    go_ret
    exact ⟨rfl, ((Step.refl _ w).al _).al _ |>.trans HS.out (fun _ k => k.elim)⟩

end Go.Proofs.Ytojfgdoniajmeaa
