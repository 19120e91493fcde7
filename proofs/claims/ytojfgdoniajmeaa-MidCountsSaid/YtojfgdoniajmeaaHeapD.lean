/- The heap's call Clear: what stands in a block is struck out of the map. -/
import Derived.Test.YtojfgdoniajmeaaHeapC
import Derived.Maps.RangeWalk
namespace Go.Proofs.Ytojfgdoniajmeaa
set_option linter.unusedVariables false
set_option linter.unusedSimpArgs false
set_option maxRecDepth 100000
open Go.RowKit

/-- is a key a place of that block? -/
noncomputable def inBlock (blk : Int) (kl : Lit) : Bool := by
  classical exact decide (∃ o, (Lit.int .i64 o).wf = true ∧ kl = plKey blk o)
theorem inBlock_key (blk b o : Int) (h0 : (Lit.int .i64 blk).wf = true) (h1 : (Lit.int .i64 b).wf = true) (h2 : (Lit.int .i64 o).wf = true) : inBlock blk (plKey b o) = (b == blk) := by
  unfold inBlock
  rw [Bool.eq_iff_iff]
  simp only [decide_eq_true_eq, beq_iff_eq]
  constructor
  · rintro ⟨o', w', h⟩; exact (plKey_inj h1 h2 h0 w' h).1
  · rintro rfl; exact ⟨o, h2, rfl⟩

/-- what a map has, when the keys that are left are still to come -/
noncomputable def partOf (f : Lit → Option HV) (blk : Int) (left : Lit → Bool) : Lit → Option HV := fun kl => if !left kl && inBlock blk kl then none else f kl

theorem part_stays (f : Lit → Option HV) (blk : Int) (left : Lit → Bool) (kl : Lit) (hk : WideAt.IsKeyLit kl) (hi : inBlock blk kl = false) (z : Lit) :
    partOf f blk (fun x => left x && !x.sameKey kl) z = partOf f blk left z := by
  unfold partOf
  by_cases h : z = kl
  · subst h; simp [hi]
  · simp [Maps.sameKey_ne h]
theorem part_struck (f : Lit → Option HV) (blk : Int) (left : Lit → Bool) (kl : Lit) (hi : inBlock blk kl = true) (z : Lit) :
    partOf f blk (fun x => left x && !x.sameKey kl) z = if z.sameKey kl then none else partOf f blk left z := by
  unfold partOf
  by_cases h : z.sameKey kl = true
  · obtain rfl := WideAt.sameKey_eq h
    simp [hi, h]
  · simp [h]

/-- the predicate: is a place one of that block? -/
theorem closure_any (b o blk : Int) (v : HV) (bx : Nat) (W : World) (hx : W.cell? ⟨bx, 0, none⟩ = some (.int .i64 blk)) (hb : bx < W.heap.size) :
    Calls Try.prog 83 (#[.agg #[.int .i64 b, .int .i64 o], .agg #[.int .u64 v.num, .int .i64 v.ptr.block, .int .i64 v.ptr.off, .int .i64 v.ptr.low, .int .i64 v.ptr.high]] ++ #[.pointer (some ⟨bx, 0, none⟩)]) W fun e w' => e = .returned (.bool (b == blk)) ∧ W.grownBy w' none := by
  go_enter Try.func83, Try.ntmps83
  go_wp2
  go_ret
  exact ⟨rfl, Step.none (((Step.refl _ W).al _).al _)⟩

set_option maxHeartbeats 4000000 in
set_option maxRecDepth 100000 in
theorem delete_any (mb bx n : Nat) (blk : Int) (f : Lit → Option HV) (w : World) (hd : Places f) (hblk : (Lit.int .i64 blk).wf = true) (hm : MapAt Try.prog 164 w mb n (fun kl => (f kl).map HV.val))
    (hx : w.cell? ⟨bx, 0, none⟩ = some (.int .i64 blk)) (hb : bx < w.heap.size) (hne : bx ≠ mb) :
    Calls Try.prog 82 #[.map (some mb), .func (.func 83) #[] #[.pointer (some ⟨bx, 0, none⟩)]] w fun e w' =>
      e = .returned (.tuple #[]) ∧ MapAt Try.prog 164 w' mb n (fun kl => (if inBlock blk kl then none else f kl : Option HV).map HV.val) ∧ w.grownBy w' (some mb) := by
  obtain ⟨D, hown, hD⟩ := hm
  have HD := Lib.hid hD
  have HX := Lib.hid hx
  clear hD hx
  go_enter Try.func82, Try.ntmps82
  go_wp2_with (at_range; refine wpList_range_own _ rfl _ 90 rfl 164 98 place_law Try.underlying90 rv mb n _ rfl hown ?_; intro w0 hrg0 hg0 hs0)
  go_loopw [8] (fun _ wr => ∃ (left : Lit → Bool) (cnt : Nat) (D' : DataW Value), wr.ranges Try.prog 164 rv mb w.heap.size n D' left cnt ∧ (∀ kl, WideAt.IsKeyLit kl → ∀ z, D'.atKey kl z = outOf ((partOf f blk left kl).map HV.val) z) ∧ w.grownBy wr (some mb))
    (fun _ wr => wr.rangeLeft mb w.heap.size)
  case atStart =>
    refine ⟨_, _, D, hrg0, fun kl hk z => ?_, hg0.but _⟩
    rw [HD.out kl hk z]
    have h0 := HD.out kl hk
    cases hf : f kl with
    | none => unfold partOf; rw [hf]; simp
    | some x =>
      have hh : Maps.has D kl = true := Maps.has_true_of_atKey (y := .held x.val) (fun z => by rw [h0 z, hf]; rfl)
      unfold partOf; rw [hh, hf]; simp
  case round =>
    obtain ⟨left, cnt, D', hrg, hD', hgw⟩ := hrel
    have HD' := Lib.hid hD'
    have HG := Lib.hid hgw
    clear hD' hgw
    rcases hrg.next place_law 0 with ⟨h0, hl, hrun⟩ | ⟨key, v, kl, y, w1, cnt', hkey, hlk, hv, hat, hrun, hrg1, hlt, hgr, hsz, hen⟩
    · have HL := Lib.hid hl
      have HR := Lib.hid hrg
      clear hl hrg h0
      go_wp2_with fail
      go_end0
      refine ⟨rfl, ⟨D', HR.out.owns, fun kl hk z => ?_⟩, HG.out⟩
      rw [HD'.out kl hk z]
      unfold partOf
      rw [HL.out kl]; simp
    · have hk := place_law.key hkey
      have hy : y.1 = .held v := by simpa [rv] using (congrArg (fun o => (o.getD (.nil, [])).1) hv).symm
      obtain ⟨x, hfx, rfl⟩ : ∃ x : HV, f kl = some x ∧ v = x.val := by
        have e1 := (HD'.out kl hk .nil).symm.trans (hat .nil)
        rw [hy] at e1
        unfold partOf at e1
        rw [hlk] at e1
        simp only [Bool.not_true, Bool.false_and, Bool.false_eq_true, if_false] at e1
        cases hf : f kl with
        | none => rw [hf] at e1; cases e1
        | some x => rw [hf] at e1; exact ⟨x, rfl, by simpa [outOf] using e1.symm⟩
      obtain ⟨bb, oo, hb1, ho1, rfl⟩ := hd _ _ hfx
      obtain rfl : key = .agg #[.int .i64 bb, .int .i64 oo] := place_law.inj hkey (place_key bb oo hb1 ho1)
      have hin := inBlock_key blk bb oo hblk hb1 ho1
      have hxv : x.val = .agg #[.int .u64 x.num, .int .i64 x.ptr.block, .int .i64 x.ptr.off, .int .i64 x.ptr.low, .int .i64 x.ptr.high] := rfl
      rw [hxv] at hrun hen
      have hrl := hrg1.lt
      have hml := hrg1.owns.lt
      have hgw1 : w.grownBy wr (some mb) := HG.out
      have hsw := hgw1.size
      have hbx1 : w1.cell? ⟨bx, 0, none⟩ = some (.int .i64 blk) := by
        have e1 : w1.heap[bx]? = wr.heap[bx]? := hgr.block bx (by omega) (fun e => by have := Option.some.inj e; omega)
        have e2 : wr.heap[bx]? = w.heap[bx]? := hgw1.block bx hb (fun e => hne (Option.some.inj e))
        exact (cell_of (p := ⟨bx, 0, none⟩) (e1.trans e2)).trans HX.out
      have CL : Hid (∀ W, W.cell? ⟨bx, 0, none⟩ = some (.int .i64 blk) → bx < W.heap.size → Calls Try.prog 83 #[.agg #[.int .i64 bb, .int .i64 oo], .agg #[.int .u64 x.num, .int .i64 x.ptr.block, .int .i64 x.ptr.off, .int .i64 x.ptr.low, .int .i64 x.ptr.high], .pointer (some ⟨bx, 0, none⟩)] W fun e w' => e = .returned (.bool (bb == blk)) ∧ W.grownBy w' none) :=
        Lib.hid fun W h1 h2 => closure_any bb oo blk x bx W h1 h2
      have HSZ := Lib.hid hsz
      have HIN := Lib.hid hin
      have HFX := Lib.hid hfx
      have HAT := Lib.hid hat
      have HGR := Lib.hid hgr
      have HRG := Lib.hid hrg
      have HRG1 := Lib.hid hrg1
      have HKY := Lib.hid hkey
      clear hsz hin hfx hat hgr hrg hrg1 hxv hkey hv hy hgw1 hlk
      go_wp2_with fail
      have sw1 : Step (fun _ => False) w1 ((w1.alloc (Obj.cells #[Value.int IntKind.i64 bb, Value.int IntKind.i64 oo] 164)).alloc (Obj.cells #[Value.int IntKind.u64 x.num, Value.int IntKind.i64 x.ptr.block, Value.int IntKind.i64 x.ptr.off, Value.int IntKind.i64 x.ptr.low, Value.int IntKind.i64 x.ptr.high] 98)) := ((Step.refl _ w1).al _).al _
      refine (CL.out _ ((cell_of (sw1.block bx (by omega) (fun k => k))).trans hbx1) (by have := sw1.size; omega)).mono ?_; rintro e w2 ⟨rfl, hg2⟩
      have hs2 := hg2.size
      have hs2' : w1.heap.size + 1 + 1 ≤ w2.heap.size := by simpa using hs2
      have kk : w2.heap[w1.heap.size]? = some (.cells #[.int .i64 bb, .int .i64 oo] 164 (0, 0)) := by
        rw [hg2.block _ (by simp; omega) (by simp), heap_alloc_old _ _ (by simp)]; exact heap_alloc_new w1 _
      obtain ⟨k0, k1, _⟩ := cells_known2 kk
      have hrg2 := ((HRG1.out.alloc _).alloc _).kept hg2 (by simp) (by simp)
      have hgw2 : w.grownBy w2 (some mb) := by
        have s1 : Step (fun x => x = mb) w wr := Step.of_grown HG.out
        have s2 : Step (fun x => x = w.heap.size) wr w1 := Step.of_grown HGR.out
        have s3 : Step (fun _ => False) w1 w2 := sw1.trans (G := fun _ => False) (Step.of_grown_none hg2) (fun _ k => k.elim)
        exact (((s1.trans s2 (fun x e => Or.inr (by omega))).trans s3 (fun _ k => k.elim))).grown
      have HG2 := Lib.hid hg2
      have HGW2 := Lib.hid hgw2
      clear hg2 hgw2 sw1 kk
      by_cases hbb : bb = blk
      · have t1 : (bb == blk) = true := beq_iff_eq.2 hbb
        rw [t1]
        clear hbb
        go_wp2_with (at_delete; refine wpList_delete_ranges _ rfl _ _ 90 164 rfl 98 place_law Try.underlying90 rv mb w.heap.size n _ _ _ rfl hrg2 _ _ rfl HKY.out ?_; intro w3 cnt3 hrg3 hle hturn; go_frame)
        rw [Maps.strike_twice] at hrg3
        have HR3 := Lib.hid hrg3
        have HT := Lib.hid hturn
        go_roundw
        case rel =>
          refine ⟨_, cnt3, _, HR3.out, fun z hz q => ?_, ?_⟩
          · rw [part_struck f blk left _ (HIN.out.trans t1)]
            by_cases h : z.sameKey (plKey bb oo) = true
            · obtain rfl := WideAt.sameKey_eq h
              rw [Maps.atKey_del_same, if_pos h]; rfl
            · have hne : z ≠ plKey bb oo := fun e => h ((WideAt.sameKey_iff hk).2 e)
              rw [Maps.atKey_del_other hne, if_neg h]; exact HD'.out z hz q
          · exact ((Step.of_grown HGW2.out).trans (Step.of_grown HT.out.grown) (fun x e => Or.inl e)).grown
        case measure => rw [HR3.out.left_eq, HRG.out.left_eq]; omega
      · have t1 : (bb == blk) = false := beq_eq_false_iff_ne.2 hbb
        rw [t1]
        have HR2 := Lib.hid hrg2
        clear hbb hrg2
        go_wp2_with fail
        go_roundw
        case rel => exact ⟨_, cnt', D', HR2.out, fun z hz q => by rw [part_stays f blk left _ hk (HIN.out.trans t1)]; exact HD'.out z hz q, HGW2.out⟩
        case measure => rw [HR2.out.left_eq, HRG.out.left_eq]; exact hlt

end Go.Proofs.Ytojfgdoniajmeaa
