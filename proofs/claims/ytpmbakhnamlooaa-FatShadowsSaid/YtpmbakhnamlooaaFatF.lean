/- Package fat: a frame's registers are written; a block is made and freed. -/
import Derived.Test.YtpmbakhnamlooaaFatD
import Derived.Deep.Cut
namespace Go.Proofs.Ytpmbakhnamlooaa
set_option linter.unusedVariables false
set_option linter.unusedSimpArgs false
open Go.RowKit

/-- v is a slice of these registers' numbers, none of them in block gx -/
def NumsAt (w : World) (gx : Nat) (v : Value) (xs : List Int) : Prop :=
  ∃ (p : Option Addr) (cap : Nat), v = .slice p xs.length cap ∧ xs.length ≤ maxLen ∧ ∀ i, i < xs.length → ∃ a, p = some a ∧ a.block ≠ gx ∧ w.cell? (a.add i) = some (.int .u64 (xs.getD i 0))
theorem NumsAt.of_row {w : World} {F : Nat → Prop} {gx : Nat} {v : Value} {xs : List Int} (h : RowAt w F 38 1 v xs.length (xs.map (Value.int .u64))) (hn : ∀ b, F b → b ≠ gx) : NumsAt w gx v xs := by
  by_cases h0 : 0 < xs.length
  · obtain ⟨g, cap, cur, rfl, hF, hg, h1, h2, _, htk⟩ := h.some h0
    refine ⟨_, cap, rfl, by omega, fun i hi => ⟨_, rfl, hn g hF, ?_⟩⟩
    have hadd : (⟨g, 0, none⟩ : Addr).add i = ⟨g, i, none⟩ := by unfold Addr.add; split <;> simp_all
    rw [hadd]
    exact row_cell hg htk (by rw [List.getElem?_map, List.getD_eq_getElem?_getD, List.getElem?_eq_getElem hi]; rfl)
  · obtain ⟨a, cap, rfl⟩ := h.slice
    exact ⟨a, cap, rfl, by have : xs.length = 0 := by omega
                           rw [this]; simp [maxLen], fun i hi => by omega⟩

/-- registers after the first k of xs were written at those of l -/
def writeAcc (regs l xs : List Int) : Nat → List Int
  | 0 => regs
  | k + 1 => (writeAcc regs l xs k).set (l.getD k 0).toNat (xs.getD k 0)
theorem writeAcc_length (regs l xs : List Int) : ∀ k, (writeAcc regs l xs k).length = regs.length
  | 0 => rfl
  | k + 1 => by simp [writeAcc, writeAcc_length regs l xs k]

section
variable {w0 w w' w'' : World} {pf pw gx : Nat} {own own' own'' : Nat → Nat} {vn vp vk vs vc vr vl : Value} {regs slots : List Int} {lock key : Int}

/-- one register is written -/
theorem FrAt.set (h : FrAt w own pf pw gx vn vp vk vs vc vr vl regs slots lock key) (r : Nat) (x : Int) (hr : r < regs.length) : FrAt (w.setCell ⟨gx, r, none⟩ (.int .u64 x)) own pf pw gx vn vp vk vs vc vr vl (regs.set r x) slots lock key := by
  obtain ⟨f1, f2, f3, f4⟩ := h.free
  refine ⟨(set_other _ _ f3).trans h.struct, ?_, h.slots.same fun b hb _ => set_other _ _ hb.2.1, f1, f2, f3, by simpa using f4⟩
  obtain ⟨h1, ⟨_, h2⟩ | ⟨b, cap, cur, e, rfl, hg, h3, h4, h5, h6⟩⟩ := h.regs
  · omega
  · refine ⟨by simp, .inr ⟨b, cap, _, by simpa using e, rfl, set_known hg r _, by simpa using h3, h4, by simpa using h5, ?_⟩⟩
    rw [List.length_set, Array.toList_setIfInBounds, List.take_set, h6, List.map_set]

def planWrite : Plan where
  T := [[], [0], [0, 1], [0, 1, 2], [], [], [], [5, 6], [5, 6, 7], [0, 1, 2, 3, 4, 5, 6, 7, 8], [0, 1, 2, 3, 4, 5, 6, 7, 8, 9]]
  rd := [[], [(0, some 15)], [(1, some 16)], [(2, some 17)], [], [], [], [(5, some 20), (6, some 21)], [(7, some 22)]]
  all := [(8, some 23), (7, some 22), (6, some 21), (5, some 20), (4, some 19), (3, some 18), (2, some 17), (1, some 16), (0, some 15)]
  calm := [true, true, true, true, true, true, true, true, true]
  hard := []
  fresh := [false, false, false, false, false, false, false, false, false]

set_option maxHeartbeats 4000000 in
set_option maxRecDepth 100000 in
theorem write_any (h : FrAt w own pf pw gx vn vp vk vs vc vr vl regs slots lock key) {v vx : Value} {l xs : List Int} (hl : IntsAt .i64 w v l) (hlx : ∀ i, i < l.length → ∀ a cap, v = .slice (some a) l.length cap → a.block ≠ gx) (hr : ∀ r ∈ l, 0 ≤ r ∧ r < regs.length) (hx : NumsAt w gx vx xs) (hle : l.length ≤ xs.length) (hl0 : l.length ≤ 1000000) :
    Calls Try.prog 89 #[.pointer (some ⟨pf, 0, none⟩), v, vx] w fun e w' => e = .returned (.tuple #[]) ∧ FrAt w' own pf pw gx vn vp vk vs vc vr vl (writeAcc regs l xs l.length) slots lock key ∧ Step (fun b => b = gx) w w' := by
  obtain ⟨⟨p, cap, rfl, hcap, hmax, hcell⟩, hwf⟩ := hl
  obtain ⟨q, qcap, rfl, hxm, hxc⟩ := hx
  have HC := Lib.hid (show ∀ i, i < l.length → ∃ a, p = some a ∧ a.block ≠ gx ∧ w.cell? (a.add i) = some (.int .i64 (l.getD i 0)) from fun i hi => by
    obtain ⟨a, e1, e2⟩ := hcell i hi
    exact ⟨a, e1, hlx i hi a cap (by rw [e1]), e2⟩)
  have HX := Lib.hid hxc
  have HR := Lib.hid hr
  have HF := Lib.hid h
  clear hcell hr h hwf hxc hlx
  go_enter Try.func89, Try.ntmps89
  go_wp2_with fail
  go_loopw [6, 7, 10] (fun _ _ i wr => ∃ k : Nat, k ≤ l.length ∧ i = .int .i64 k ∧ FrAt wr own pf pw gx vn vp vk vs vc vr vl (writeAcc regs l xs k) slots lock key ∧ Step (fun b => b = gx) w wr) (fun _ _ i _ => l.length - (intOf i).toNat)
  case atStart => exact ⟨0, by omega, rfl, HF.out, Step.refl _ _⟩
  case round =>
    obtain ⟨k, hk, rfl, hfr, hst⟩ := hrel
    by_cases hlt : k < l.length
    · have hd : decide (k < l.length) = true := decide_eq_true hlt
      obtain ⟨a, hpa, hag, hca⟩ := HC.out k hlt
      obtain ⟨b, hqb, hbg, hcb⟩ := HX.out k (by omega)
      subst hpa hqb
      have hr := HR.out (l.getD k 0) (by rw [List.getD_eq_getElem?_getD, List.getElem?_eq_getElem hlt]; exact List.getElem_mem hlt)
      have hlen := writeAcc_length regs l xs k
      have hbb : (b.add k).block = b.block := by unfold Addr.add; split <;> rfl
      have haa : (a.add k).block = a.block := by unfold Addr.add; split <;> rfl
      have hca := (hst.cell (block_lt hca) fun x => hag (haa.symm.trans x)).trans hca
      have hcb := (hst.cell (block_lt hcb) fun x => hbg (hbb.symm.trans x)).trans hcb
      obtain ⟨g, rcap, cur, rfl, hgx, hg, hn1, hn2, hsz, htk⟩ := hfr.regs.some (by omega)
      obtain rfl : gx = g := hgx.symm
      clear hgx
      rw [hlen] at hn1
      have hreg : wr.cell? ⟨gx, (l.getD k 0).toNat, none⟩ = some (.int .u64 ((writeAcc regs l xs k).getD (l.getD k 0).toNat 0)) := row_cell hg htk (by
        rw [List.getElem?_map, List.getD_eq_getElem?_getD (l := writeAcc regs l xs k), List.getElem?_eq_getElem (show (l.getD k 0).toNat < (writeAcc regs l xs k).length by omega)]; rfl)
      have hfz := free_known hg
      have hw1 : writeAcc regs l xs (k + 1) = (writeAcc regs l xs k).set (l.getD k 0).toNat (xs.getD k 0) := rfl
      have hlen2 : (l.getD k 0).toNat < (writeAcc regs l xs k).length := by omega
      have HL2 := Lib.hid hlen2
      clear hlen2
      have FACTS := Lib.hid (show ∀ y, Step (fun _ => False) wr y → y.cell? ⟨pf, 6, none⟩ = some (.slice (some ⟨gx, 0, none⟩) regs.length rcap) ∧ y.cell? (b.add k) = some (.int .u64 (xs.getD k 0)) ∧ y.cell? ⟨gx, (l.getD k 0).toNat, none⟩ = some (.int .u64 ((writeAcc regs l xs k).getD (l.getD k 0).toNat 0)) ∧ y.frozen? ⟨gx, (l.getD k 0).toNat, none⟩ = false from fun y hy =>
        ⟨by have := hy.keeps hfr.struct; rw [hlen] at this; exact cell_known this rfl, (hy.cell (block_lt hcb) fun x => x).trans hcb, (hy.cell (block_lt hreg) fun x => x).trans hreg, (hy.frozen (block_lt hreg) fun x => x).trans (hfz _)⟩)
      have HST := Lib.hid hst
      have HFR := Lib.hid hfr
      have HW1 := Lib.hid hw1
      have HLT := Lib.hid hlt
      clear hfr hst hg htk hsz hw1 hcb hreg hfz hlen
      generalize l.getD k 0 = r at *
      generalize xs.getD k 0 = x at *
      generalize (writeAcc regs l xs k).getD r.toNat 0 = x0 at *
      go_upto_region 3 with fail
      refine wp_region_each 9 planWrite (fun _ _ => False) (Step (fun _ => False) wr) (fun _ => True) [Is ?v3_1_0, Is ?v3_1_1, Is ?v3_1_2, Is ?v3_1_3, Is ?v3_1_4, Is ?v3_1_5, Is ?v3_1_6, Is ?v3_1_7, Is ?v3_1_8] [] (by kernel_rfl) (by kernel_rfl) (fun _ _ h => h.elim) ((Step.refl _ _).drew) (trivial) ?stab3_1 ?stabD3_1 ?obl3_1 ?fin3_1
      case stab3_1 => exact fun w w' h => ⟨fun k => k.trans h (fun _ x => x.elim), fun _ => trivial, ⟨fun _ k => k, fun _ k => k, fun _ k => k, fun _ k => k, fun _ k => k, fun _ k => k, fun _ k => k, fun _ k => k, fun _ k => k, trivial⟩, trivial⟩
      case stabD3_1 => exact fun _ _ h => h.elim
      case obl3_1 =>
        refine ⟨?o3_1_0, ?o3_1_1, ?o3_1_2, ?o3_1_3, ?o3_1_4, ?o3_1_5, ?o3_1_6, ?o3_1_7, ?o3_1_8, trivial⟩
        all_goals intro xv wq hH hS H hU aq ha Q' hQ
        case o3_1_0 => cases rd0 ha; clear H hU hS; go_wp2_with fail; (try refine hQ _ _ ?_); refine ⟨Step.refl _ _, ?_, trivial, nofun⟩; exact (rfl : _ = _)
        case o3_1_1 | o3_1_2 => have ha := rd1 ha H (by kernel_rfl) rfl; simp only [q3, q5, q6, q7] at ha; subst ha; clear H hU hS; go_wp2_with fail; (try refine hQ _ _ ?_); refine ⟨Step.refl _ _, ?_, trivial, nofun⟩; exact (rfl : _ = _)
        case o3_1_3 => obtain ⟨cf, cx, _⟩ := FACTS.out _ hH; have ha := rd1 ha H (by kernel_rfl) rfl; simp only [q3, q5, q6, q7] at ha; subst ha; clear H hU hS; go_wp2_with fail; (try refine hQ _ _ ?_); refine ⟨Step.refl _ _, ?_, trivial, nofun⟩; exact (rfl : _ = _)
        case o3_1_4 | o3_1_5 | o3_1_6 => cases rd0 ha; clear H hU hS; go_wp2_with fail; (try refine hQ _ _ ?_); refine ⟨Step.refl _ _, ?_, trivial, nofun⟩; exact (rfl : _ = _)
        case o3_1_7 => obtain ⟨cf, cx, _⟩ := FACTS.out _ hH; have ha := rd2 ha H (by kernel_rfl) (by kernel_rfl) rfl rfl; simp only [q3, q5, q6, q7] at ha; subst ha; clear H hU hS; go_wp2_with fail; (try refine hQ _ _ ?_); refine ⟨Step.refl _ _, ?_, trivial, nofun⟩; exact (rfl : _ = _)
        case o3_1_8 => obtain ⟨cf, cx, _⟩ := FACTS.out _ hH; have ha := rd1 ha H (by kernel_rfl) rfl; simp only [q3, q5, q6, q7] at ha; subst ha; clear H hU hS; go_wp2_with fail; (try refine hQ _ _ ?_); refine ⟨Step.refl _ _, ?_, trivial, nofun⟩; exact (rfl : _ = _)
      intro xv w4 hH hS H hU hsz hF hN
      have h0 : xv 0 = _ := H 0 (by decide) (by kernel_rfl); have h1 : xv 1 = _ := H 1 (by decide) (by kernel_rfl); have h2 : xv 2 = _ := H 2 (by decide) (by kernel_rfl); have h3 : xv 3 = _ := H 3 (by decide) (by kernel_rfl); have h4 : xv 4 = _ := H 4 (by decide) (by kernel_rfl); have h5 : xv 5 = _ := H 5 (by decide) (by kernel_rfl); have h6 : xv 6 = _ := H 6 (by decide) (by kernel_rfl); have h7 : xv 7 = _ := H 7 (by decide) (by kernel_rfl); have h8 : xv 8 = _ := H 8 (by decide) (by kernel_rfl)
      simp only [planWrite, q1, q2, q3, q5, q6, q7, q4, List.drop_succ_cons, List.drop_zero, h0, h1, h2, h3, h4, h5, h6, h7, h8]
      clear H hF hN hS hU h0 h1 h2 h3 h4 h5 h6 h7 h8
      obtain ⟨_, _, c0, z0⟩ := FACTS.out _ hH
      have H4 := Lib.hid hH
      clear hH
      go_wp2_with fail
      go_roundw
      case rel =>
        have hlt := HLT.out
        refine ⟨k + 1, hlt, by go_num, ?_, ?_⟩
        · rw [HW1.out]
          exact (HFR.out.still H4.out).set r.toNat x HL2.out
        · exact (HST.out.then H4.out).set (.inl rfl) _
      case measure =>
        have hlt := HLT.out
        simp [intOf]; omega
    · have hd : decide (k < l.length) = false := decide_eq_false hlt
      have e : k = l.length := by omega
      subst e
      have HFR := Lib.hid hfr
      clear hfr
      go_wp2_with fail
      go_end0
      exact ⟨rfl, HFR.out, hst⟩
end
end Go.Proofs.Ytpmbakhnamlooaa
