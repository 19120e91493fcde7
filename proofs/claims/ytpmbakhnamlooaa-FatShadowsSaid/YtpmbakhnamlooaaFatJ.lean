/- Package fat: a new block is made. -/
import Derived.Test.YtpmbakhnamlooaaFatI
namespace Go.Proofs.Ytpmbakhnamlooaa
set_option linter.unusedVariables false
set_option linter.unusedSimpArgs false
open Go.RowKit

section
variable {w0 w w' w'' : World} {pf pw gx : Nat} {own own' own'' : Nat → Nat} {vn vp vk vs vc vr vl : Value} {regs slots : List Int} {lock key : Int} {fnv : List UInt8 → Option Value} {tops : List UInt8 → Option Int} {st : FSt} {c : Nat} {bf bt bm bs bb : Nat} {ul ui uo : Value}

/-- a number of the machine's struct is another one -/
theorem FParts.scalar (h : FParts w0 w pw own fnv tops st c bf bt bm bs bb ul ui uo) (i : Nat) (v : Value) {st' : FSt} {ui' : Value}
    (e : (#[.map (some bf), .map (some bt), .map (some bm), .map (some bs), ul, .int .u64 st.keys, .map (some bb), .int .i64 st.free, .int .i64 st.top, ui, uo, .int .i64 st.fuel, .int .i64 st.steps, .int .i64 st.checks] : Array Value).setIfInBounds i v = #[.map (some bf), .map (some bt), .map (some bm), .map (some bs), ul, .int .u64 st'.keys, .map (some bb), .int .i64 st'.free, .int .i64 st'.top, ui', uo, .int .i64 st'.fuel, .int .i64 st'.steps, .int .i64 st'.checks])
    (hm : st'.mem = st.mem) (hs : st'.shadow = st.shadow) (hl : st'.locks = st.locks) (hb : st'.blocks = st.blocks) (ho : st'.out = st.out) (hi : IntsAt .u8 w0 ui' st'.input) : FParts w0 (w.setCell ⟨pw, i, none⟩ v) pw own fnv tops st' c bf bt bm bs bb ul ui' uo ∧ Chg own own w (w.setCell ⟨pw, i, none⟩ v) := by
  have t1 := h.tag.1
  have s : Step (fun b => own b ≠ 0) w (w.setCell ⟨pw, i, none⟩ v) := Step.setCell _ _ _ _ (by show own pw ≠ 0; omega)
  have hz : (w.setCell ⟨pw, i, none⟩ v).heap.size = w.heap.size := by simp
  refine ⟨h.next 0 (Nat.le_refl c) s (fun _ _ => rfl) (fun b hb => by rw [hz]; exact (h.low b hb).2) (fun b _ h1 _ => set_other _ _ fun e => h1 (by rw [e]; exact t1)) (by decide) ?_ (by simpa using hm) (by simpa using hs) (by simpa using hl) (by simpa using hb) (by simpa using ho) hi, ⟨s, fun _ _ => rfl⟩⟩
  rw [set_known h.struct, e]

/-- a new block may be made -/
def roomF (st : FSt) (n : Int) : Bool := decide (1 ≤ n) && decide (n ≤ 4194304) && decide (st.free + n ≤ 2097152)
def mallocF (st : FSt) (n : Int) : FSt :=
  { st with keys := st.keys + 1, locks := st.locks ++ [st.keys + 1], blocks := fun x => if x = st.free then some (st.free + n, (st.locks.length : Int)) else st.blocks x, free := (st.free + max n 16 + 15) / 16 * 16 }
def mallocV (st : FSt) (n : Int) : List Int := [st.free, st.free, st.free + n, st.keys + 1, st.locks.length]

set_option maxHeartbeats 1000000 in
set_option maxRecDepth 100000 in
theorem malloc_no (P : FParts w0 w pw own fnv tops st c bf bt bm bs bb ul ui uo) (hF : FrAt w own pf pw gx vn vp vk vs vc vr vl regs slots lock key) (n : Int) (hn : is64 n) (hf : 0 ≤ st.free ∧ st.free ≤ 4000000) (h : roomF st n = false) :
    Calls Try.prog 90 #[.pointer (some ⟨pf, 0, none⟩), .int .u64 n] w fun e w' => e = .panicked [{ v := stopV 3 0, recovered := false }] ∧ w = w' := by
  have c0 := cell_known hF.struct (i := 0) rfl
  have c7 := P.cells.1.2.2.2.2.2.2.2.1
  unfold is64 at hn
  clear P hF
  unfold roomF at h
  by_cases e1 : 1 ≤ n
  · by_cases e2 : n ≤ 4194304
    · have e3 : ¬ st.free + n ≤ 2097152 := by simpa [e1, e2] using h
      have d1 : decide (1 ≤ n) = true := decide_eq_true e1
      have d2 : decide (n ≤ 4194304) = true := decide_eq_true e2
      have d3 : decide (st.free + n ≤ 2097152) = false := decide_eq_false e3
      clear h e3
      go_enter Try.func90, Try.ntmps90
      go_wp2_with fail
      refine (need_no _ _).mono ?_
      rintro e w' ⟨rfl, rfl⟩
      exact ⟨rfl, rfl, rfl⟩
    · have d1 : decide (1 ≤ n) = true := decide_eq_true e1
      have d2 : decide (n ≤ 4194304) = false := decide_eq_false e2
      clear h
      go_enter Try.func90, Try.ntmps90
      go_wp2_with fail
      refine (need_no _ _).mono ?_
      rintro e w' ⟨rfl, rfl⟩
      exact ⟨rfl, rfl, rfl⟩
  · have d1 : decide (1 ≤ n) = false := decide_eq_false e1
    clear h
    go_enter Try.func90, Try.ntmps90
    go_wp2_with fail
    refine (need_no _ _).mono ?_
    rintro e w' ⟨rfl, rfl⟩
    exact ⟨rfl, rfl, rfl⟩

/-- the machine behind a call of its own, made from ws -/
def After (w0 ws : World) (own : Nat → Nat) (pw : Nat) (fnv : List UInt8 → Option Value) (tops : List UInt8 → Option Int) (st : FSt) (c : Nat) (_ : Value) (w : World) : Prop := ∃ own', Chg own own' ws w ∧ FWAt w0 w pw own' fnv tops st c
theorem After.stable {ws : World} {y : Value} (h : Step (fun _ => False) w w') (k : After w0 ws own pw fnv tops st c y w) : After w0 ws own pw fnv tops st c y w' := by
  obtain ⟨own', k1, k2⟩ := k
  exact ⟨own', k1.trans (Chg.calm own' h), k2.still h⟩
/-- what a walk reads of frame and machine while a lock is made -/
def FreeSeen (pf pw : Nat) (n : Int) (x : World) : Prop := x.cell? ⟨pf, 0, none⟩ = some (.pointer (some ⟨pw, 0, none⟩)) ∧ x.cell? ⟨pw, 7, none⟩ = some (.int .i64 n)
theorem FreeSeen.stable {n : Int} (h : Step (fun _ => False) w w') (k : FreeSeen pf pw n w) : FreeSeen pf pw n w' := ⟨(h.cell (block_lt k.1) fun x => x).trans k.1, (h.cell (block_lt k.2) fun x => x).trans k.2⟩
theorem FWAt.freeSeen (h : FWAt w0 w pw own fnv tops st c) (hF : FrAt w own pf pw gx vn vp vk vs vc vr vl regs slots lock key) : FreeSeen pf pw st.free w := by
  obtain ⟨_, _, _, _, _, _, _, _, P⟩ := h
  exact ⟨cell_known hF.struct rfl, P.cells.1.2.2.2.2.2.2.2.1⟩

def planMalloc2 : Plan where
  T := [[], [0], [0, 1], [0, 1, 2], [0, 1, 2, 3], [0, 1, 2, 3, 4], [0, 1, 2, 3, 4, 5], [0, 1, 2, 3, 4, 5, 6], [], [8], [8, 9], [8, 9, 10], [8, 9, 10, 11], [0, 1, 2, 3, 4, 5, 6, 7, 8, 9, 10, 11, 12], [0, 1, 2, 3, 4, 5, 6, 7, 8, 9, 10, 11, 12, 13]]
  rd := [[], [(0, some 27)], [(1, some 28)], [(2, some 29)], [(3, some 30)], [(4, some 31)], [(5, some 32)], [(6, some 33)], [], [(8, some 35)], [(9, some 36)], [(10, some 37)], [(11, some 38)]]
  all := [(12, some 39), (11, some 38), (10, some 37), (9, some 36), (8, some 35), (7, some 34), (6, some 33), (5, some 32), (4, some 31), (3, some 30), (2, some 29), (1, some 28), (0, some 27)]
  calm := [true, true, true, true, true, true, true, true, true, true, true, true, false]
  hard := [true, true, true, true, true, true, true, true, true, true, true, true, true]
  fresh := [false, false, false, false, false, false, false, false, false, false, false, false, false]

def planMalloc4 : Plan where
  T := [[], [0], [0, 1], [0, 1, 2], [], [4], [4, 5], [4, 5, 6], [4, 5, 6, 7], [4, 5, 6, 7, 8], [4, 5, 6, 7, 8, 9], [], [11], [11, 12], [4, 5, 6, 7, 8, 9, 10, 11, 12, 13], [4, 5, 6, 7, 8, 9, 10, 11, 12, 13, 14], [0, 1, 2, 3, 4, 5, 6, 7, 8, 9, 10, 11, 12, 13, 14, 15], [0, 1, 2, 3, 4, 5, 6, 7, 8, 9, 10, 11, 12, 13, 14, 15, 16], [0, 1, 2, 3, 4, 5, 6, 7, 8, 9, 10, 11, 12, 13, 14, 15, 16, 17]]
  rd := [[], [(0, some 53)], [(1, some 54)], [(2, some 55)], [], [(4, some 57)], [(5, some 58)], [(6, some 59)], [(7, some 60)], [(8, some 61)], [(9, some 62)], [], [(11, some 64)], [(12, some 65)], [(10, some 63), (13, some 66)], [(14, some 67)]]
  all := [(15, some 68), (14, some 67), (13, some 66), (12, some 65), (11, some 64), (10, some 63), (9, some 62), (8, some 61), (7, some 60), (6, some 59), (5, some 58), (4, some 57), (3, some 56), (2, some 55), (1, some 54), (0, some 53)]
  calm := [true, true, true, true, true, true, true, true, true, true, true, true, true, true, true, true]
  hard := []
  fresh := [false, false, false, false, false, false, false, false, false, false, false, false, false, false, false, false]

set_option maxHeartbeats 4000000 in
set_option maxRecDepth 100000 in
theorem malloc_ok (hW : FWAt w0 w pw own fnv tops st c) (hF : FrAt w own pf pw gx vn vp vk vs vc vr vl regs slots lock key) (n : Int) (hc : c ≤ 100000000) (hk : 0 ≤ st.keys ∧ st.keys ≤ 100000000) (hf : 0 ≤ st.free ∧ st.free ≤ 4000000) (h : roomF st n = true) :
    Calls Try.prog 90 #[.pointer (some ⟨pf, 0, none⟩), .int .u64 n] w fun e w' => ∃ vo, e = .returned vo ∧ ∃ own', Chg own own' w w' ∧ FWAt w0 w' pw own' fnv tops (mallocF st n) (c + 2) ∧
      RowAt w' (fun b => w.heap.size ≤ b ∧ own' b = 0) 38 1 vo 5 ((mallocV st n).map (Value.int .u64)) := by
  have hW0 := hW
  obtain ⟨bf, bt, bm, bs, bb, ul, ui, uo, P⟩ := hW
  have c0 := cell_known hF.struct (i := 0) rfl
  have c7 := P.cells.1.2.2.2.2.2.2.2.1
  unfold roomF at h
  simp only [Bool.and_eq_true, decide_eq_true_eq] at h
  obtain ⟨⟨e1, e2⟩, e3⟩ := h
  have d1 : decide (1 ≤ n) = true := decide_eq_true e1
  have d2 : decide (n ≤ 4194304) = true := decide_eq_true e2
  have d3 : decide (st.free + n ≤ 2097152) = true := decide_eq_true e3
  have FH := Lib.hid (show ∀ y, FWAt w0 y pw own fnv tops st c → _ from fun y hy => fresh_any hy (by omega) (by omega))
  have PF := Lib.hid hF
  have PP := Lib.hid hW0
  clear P hF hW0
  go_enter Try.func90, Try.ntmps90
  go_wp2_with fail
  refine (need_ok _ _).mono ?_
  rintro e w' ⟨rfl, rfl⟩
  have FS := Lib.hid (PP.out.freeSeen PF.out)
  clear c0 c7
  go_upto_region 2 with fail
  refine wp_region_each 13 planMalloc2 (fun a b => a.heap.size ≤ b.heap.size ∧ (FreeSeen pf pw st.free a → FreeSeen pf pw st.free b)) (FreeSeen pf pw st.free) (fun x => FWAt w0 x pw own fnv tops st c ∧ Chg own own w x) [Is ?v2_1_0, Is ?v2_1_1, Is ?v2_1_2, Is ?v2_1_3, Is ?v2_1_4, Is ?v2_1_5, Is ?v2_1_6, Is ?v2_1_7, Is ?v2_1_8, Is ?v2_1_9, Is ?v2_1_10, Is ?v2_1_11, Is ?v2_1_12] [fun _ _ => True, fun _ _ => True, fun _ _ => True, fun _ _ => True, fun _ _ => True, fun _ _ => True, fun _ _ => True, fun _ _ => True, fun _ _ => True, fun _ _ => True, fun _ _ => True, fun _ _ => True, After w0 w own pw fnv tops { st with keys := st.keys + 1, locks := st.locks ++ [st.keys + 1] } (c + 1)] (by kernel_rfl) (by kernel_rfl) (fun _ _ h => h.1) (FS.out) (⟨PP.out.still (Step.refl _ _).drew, Chg.calm own (Step.refl _ _).drew⟩) ?stab2_1 ?stabD2_1 ?obl2_1 ?fin2_1
  case stab2_1 => exact fun w w' h => ⟨fun k => k.stable h, fun k => ⟨k.1.still h, k.2.trans (Chg.calm own h)⟩, ⟨fun _ k => k, fun _ k => k, fun _ k => k, fun _ k => k, fun _ k => k, fun _ k => k, fun _ k => k, fun _ k => k, fun _ k => k, fun _ k => k, fun _ k => k, fun _ k => k, fun _ k => k, trivial⟩, ⟨fun _ k => k, fun _ k => k, fun _ k => k, fun _ k => k, fun _ k => k, fun _ k => k, fun _ k => k, fun _ k => k, fun _ k => k, fun _ k => k, fun _ k => k, fun _ k => k, fun _ k => k.stable h, trivial⟩⟩
  case stabD2_1 => exact fun w w' h => ⟨fun k => h.2 k, fun _ _ k => k, fun _ _ k => k, fun _ _ k => k, fun _ _ k => k, fun _ _ k => k, fun _ _ k => k, fun _ _ k => k, fun _ _ k => k, fun _ _ k => k, fun _ _ k => k, fun _ _ k => k, fun _ _ k => k, fun _ _ k => k, trivial⟩
  case obl2_1 =>
    refine ⟨?o2_1_0, ?o2_1_1, ?o2_1_2, ?o2_1_3, ?o2_1_4, ?o2_1_5, ?o2_1_6, ?o2_1_7, ?o2_1_8, ?o2_1_9, ?o2_1_10, ?o2_1_11, ?o2_1_12, trivial⟩
    all_goals intro xv wq hH hS H hU aq ha Q' hQ
    case o2_1_0 => cases rd0 ha; clear H hU hS; go_wp2_with fail; (try refine hQ _ _ ?_); refine ⟨Step.refl _ _, ?_, trivial, nofun⟩; exact (rfl : _ = _)
    case o2_1_1 | o2_1_2 => have ha := rd1 ha H (by kernel_rfl) rfl; simp only [q3, q5, q6, q7] at ha; subst ha; clear H hU hS; go_wp2_with fail; (try refine hQ _ _ ?_); refine ⟨Step.refl _ _, ?_, trivial, nofun⟩; exact (rfl : _ = _)
    case o2_1_3 => obtain ⟨c0, c7⟩ := hH; have ha := rd1 ha H (by kernel_rfl) rfl; simp only [q3, q5, q6, q7] at ha; subst ha; clear H hU hS; go_wp2_with fail; (try refine hQ _ _ ?_); refine ⟨Step.refl _ _, ?_, trivial, nofun⟩; exact (rfl : _ = _)
    case o2_1_4 | o2_1_5 => have ha := rd1 ha H (by kernel_rfl) rfl; simp only [q3, q5, q6, q7] at ha; subst ha; clear H hU hS; go_wp2_with fail; (try refine hQ _ _ ?_); refine ⟨Step.refl _ _, ?_, trivial, nofun⟩; exact (rfl : _ = _)
    case o2_1_6 | o2_1_7 => obtain ⟨c0, c7⟩ := hH; have ha := rd1 ha H (by kernel_rfl) rfl; simp only [q3, q5, q6, q7] at ha; subst ha; clear H hU hS; go_wp2_with fail; (try refine hQ _ _ ?_); refine ⟨Step.refl _ _, ?_, trivial, nofun⟩; exact (rfl : _ = _)
    case o2_1_8 => cases rd0 ha; clear H hU hS; go_wp2_with fail; (try refine hQ _ _ ?_); refine ⟨Step.refl _ _, ?_, trivial, nofun⟩; exact (rfl : _ = _)
    case o2_1_9 | o2_1_10 => have ha := rd1 ha H (by kernel_rfl) rfl; simp only [q3, q5, q6, q7] at ha; subst ha; clear H hU hS; go_wp2_with fail; (try refine hQ _ _ ?_); refine ⟨Step.refl _ _, ?_, trivial, nofun⟩; exact (rfl : _ = _)
    case o2_1_11 => obtain ⟨c0, c7⟩ := hH; have ha := rd1 ha H (by kernel_rfl) rfl; simp only [q3, q5, q6, q7] at ha; subst ha; clear H hU hS; go_wp2_with fail; (try refine hQ _ _ ?_); refine ⟨Step.refl _ _, ?_, trivial, nofun⟩; exact (rfl : _ = _)
    case o2_1_12 =>
      obtain ⟨c0, c7⟩ := hH; have h11 : xv 11 = _ := H 11 (by kernel_rfl); change aq = puts _ xv [(11, some 38)] at ha; simp only [q1, q2, q3, q5, q6, q7, h11] at ha; subst ha; clear H h11
      have L := hS (by kernel_rfl)
      clear hU hS
      go_wp2_with fail
      refine (FH.out _ L.1).mono ?_
      rintro e w4 ⟨rfl, own1, hch, hat⟩
      go_wp2_with fail
      (try refine hQ _ _ ?_)
      refine ⟨⟨hch.step.size, fun k => hat.freeSeen ((PF.out.keep L.2).keep hch)⟩, ?_, ⟨own1, L.2.trans hch, hat⟩, nofun⟩
      exact (rfl : _ = _)
  intro xv w2 hH hS H hU hsz hF hN
  have h0 : xv 0 = _ := H 0 (by decide) (by kernel_rfl); have h1 : xv 1 = _ := H 1 (by decide) (by kernel_rfl); have h2 : xv 2 = _ := H 2 (by decide) (by kernel_rfl); have h3 : xv 3 = _ := H 3 (by decide) (by kernel_rfl); have h4 : xv 4 = _ := H 4 (by decide) (by kernel_rfl); have h5 : xv 5 = _ := H 5 (by decide) (by kernel_rfl); have h6 : xv 6 = _ := H 6 (by decide) (by kernel_rfl); have h7 : xv 7 = _ := H 7 (by decide) (by kernel_rfl); have h8 : xv 8 = _ := H 8 (by decide) (by kernel_rfl); have h9 : xv 9 = _ := H 9 (by decide) (by kernel_rfl); have h10 : xv 10 = _ := H 10 (by decide) (by kernel_rfl); have h11 : xv 11 = _ := H 11 (by decide) (by kernel_rfl); have h12 : xv 12 = _ := H 12 (by decide) (by kernel_rfl)
  simp only [planMalloc2, q1, q2, q3, q5, q6, q7, q4, List.drop_succ_cons, List.drop_zero, h0, h1, h2, h3, h4, h5, h6, h7, h8, h9, h10, h11, h12]
  have hL := hU 12 (by decide) (by kernel_rfl)
  clear H hF hN hS hU h0 h1 h2 h3 h4 h5 h6 h7 h8 h9 h10 h11 h12
  obtain ⟨own1, ch1, at1⟩ := hL
  clear hH
  have F2 := PF.out.keep ch1
  obtain ⟨bf, bt, bm, bs, bb, ul, ui, uo, P2⟩ := at1
  have c0 := cell_known F2.struct (i := 0) rfl
  have c6 := P2.cells.1.2.2.2.2.2.2.1
  have hmax : c + 1 < maxLen := by simp only [maxLen]; omega
  obtain ⟨w3, run, im, gr, sz⟩ := P2.blocks.update (a := st.free) (t := 69) (e := 160) Try.underlying38 Try.underlying69 hmax (by simp [Lit.wf, IntKind.min, IntKind.max, IntKind.bits, IntKind.signed]; omega) (madeV (st.free + n, (st.locks.length : Int)))
  have HP2 := Lib.hid P2
  have HF2 := Lib.hid F2
  have IM := Lib.hid im
  have GR := Lib.hid gr
  have SZ := Lib.hid sz
  have CH1 := Lib.hid ch1
  clear P2 F2 im gr sz ch1
  unfold madeV at run
  go_wp2_with fail
  have P2 := HP2.out
  obtain ⟨t1, t2, t3, t4, t5, t7⟩ := P2.tag
  have s3 : Step (fun b => b = bb) w2 w3 := Step.of_grown GR.out
  have s3' : Step (fun b => own1 b ≠ 0) w2 w3 := s3.mono fun b _ e => by rw [e, t7]; decide
  have CH3 := Lib.hid (CH1.out.trans (⟨s3', fun _ _ => rfl⟩ : Chg own1 own1 w2 w3))
  have P3 : FParts w0 w3 pw own1 fnv tops { st with keys := st.keys + 1, locks := st.locks ++ [st.keys + 1], blocks := fun x => if x = st.free then some (st.free + n, (st.locks.length : Int)) else st.blocks x } (c + 2) bf bt bm bs bb ul ui uo := by
    refine P2.next 7 (by omega) s3' (fun _ _ => rfl) (fun b hb => Nat.lt_of_lt_of_le (P2.low b hb).2 s3.size) (fun b h0 h1 h2 => s3.block b (P2.low b h0).2 fun e => h2 (by rw [e, t7])) (by decide) ?_ (by simp) (by simp) (by simp) ?_ (by simp) P2.input
    · exact (s3.block _ (lt_known P2.struct) fun e => by rw [e] at t1; omega).trans P2.struct
    · rw [if_pos rfl]
      exact (IM.out.le (by omega)).congr fun y => by
        show _ = ((if y = st.free then some (st.free + n, (st.locks.length : Int)) else st.blocks y).map madeV)
        split <;> rfl
  have F3 := HF2.out.keep (⟨s3', fun _ _ => rfl⟩ : Chg own1 own1 w2 w3)
  have c0 := cell_known F3.struct (i := 0) rfl
  have c7 := P3.cells.1.2.2.2.2.2.2.2.1
  simp only at c7
  have hpw := lt_known P3.struct
  have hpf := lt_known F3.struct
  have HP3 := Lib.hid P3
  have HF3 := Lib.hid F3
  clear P2 s3 s3' P3 F3 t1 t2 t3 t4 t5 t7 run
  have EV := Lib.hid (show ∀ x, x = max n 16 → (st.free + x + 15) / 16 * 16 = (mallocF st n).free from fun x hx => by subst hx; rfl)
  rcases (by omega : 16 ≤ n ∨ n < 16) with h16 | h16
  · skip
    go_upto_region 4 with fail
    refine wp_region_each 16 planMalloc4 (fun _ _ => False) (Step (fun _ => False) w3) (fun _ => True) [Is ?v4_2_0, Is ?v4_2_1, Is ?v4_2_2, Is ?v4_2_3, Is ?v4_2_4, Is ?v4_2_5, Is ?v4_2_6, Is ?v4_2_7, Is ?v4_2_8, Is ?v4_2_9, Is ?v4_2_10, Is ?v4_2_11, Is ?v4_2_12, Is ?v4_2_13, Is ?v4_2_14, Is ?v4_2_15] [] (by kernel_rfl) (by kernel_rfl) (fun _ _ h => h.elim) ((Step.refl _ _).drew) (trivial) ?stab4_2 ?stabD4_2 ?obl4_2 ?fin4_2
    case stab4_2 => exact fun w w' h => ⟨fun k => k.trans h (fun _ x => x.elim), fun _ => trivial, ⟨fun _ k => k, fun _ k => k, fun _ k => k, fun _ k => k, fun _ k => k, fun _ k => k, fun _ k => k, fun _ k => k, fun _ k => k, fun _ k => k, fun _ k => k, fun _ k => k, fun _ k => k, fun _ k => k, fun _ k => k, fun _ k => k, trivial⟩, trivial⟩
    case stabD4_2 => exact fun _ _ h => h.elim
    case obl4_2 =>
      refine ⟨?o4_2_0, ?o4_2_1, ?o4_2_2, ?o4_2_3, ?o4_2_4, ?o4_2_5, ?o4_2_6, ?o4_2_7, ?o4_2_8, ?o4_2_9, ?o4_2_10, ?o4_2_11, ?o4_2_12, ?o4_2_13, ?o4_2_14, ?o4_2_15, trivial⟩
      all_goals intro xv wq hH hS H hU aq ha Q' hQ
      case o4_2_0 => cases rd0 ha; clear H hU hS; go_wp2_with fail; (try refine hQ _ _ ?_); refine ⟨Step.refl _ _, ?_, trivial, nofun⟩; exact (rfl : _ = _)
      case o4_2_1 | o4_2_2 => have ha := rd1 ha H (by kernel_rfl) rfl; simp only [q3, q5, q6, q7] at ha; subst ha; clear H hU hS; go_wp2_with fail; (try refine hQ _ _ ?_); refine ⟨Step.refl _ _, ?_, trivial, nofun⟩; exact (rfl : _ = _)
      case o4_2_3 => have cc := scell hH; have ha := rd1 ha H (by kernel_rfl) rfl; simp only [q3, q5, q6, q7] at ha; subst ha; clear H hU hS; go_wp2_with fail; (try refine hQ _ _ ?_); refine ⟨Step.refl _ _, ?_, trivial, nofun⟩; exact (rfl : _ = _)
      case o4_2_4 => cases rd0 ha; clear H hU hS; go_wp2_with fail; (try refine hQ _ _ ?_); refine ⟨Step.refl _ _, ?_, trivial, nofun⟩; exact (rfl : _ = _)
      case o4_2_5 | o4_2_6 => have ha := rd1 ha H (by kernel_rfl) rfl; simp only [q3, q5, q6, q7] at ha; subst ha; clear H hU hS; go_wp2_with fail; (try refine hQ _ _ ?_); refine ⟨Step.refl _ _, ?_, trivial, nofun⟩; exact (rfl : _ = _)
      case o4_2_7 => have cc := scell hH; have ha := rd1 ha H (by kernel_rfl) rfl; simp only [q3, q5, q6, q7] at ha; subst ha; clear H hU hS; go_wp2_with fail; (try refine hQ _ _ ?_); refine ⟨Step.refl _ _, ?_, trivial, nofun⟩; exact (rfl : _ = _)
      case o4_2_8 | o4_2_9 => have ha := rd1 ha H (by kernel_rfl) rfl; simp only [q3, q5, q6, q7] at ha; subst ha; clear H hU hS; go_wp2_with fail; (try refine hQ _ _ ?_); refine ⟨Step.refl _ _, ?_, trivial, nofun⟩; exact (rfl : _ = _)
      case o4_2_10 => have cc := scell hH; have ha := rd1 ha H (by kernel_rfl) rfl; simp only [q3, q5, q6, q7] at ha; subst ha; clear H hU hS; go_wp2_with fail; (try refine hQ _ _ ?_); refine ⟨Step.refl _ _, ?_, trivial, nofun⟩; exact (rfl : _ = _)
      case o4_2_11 => cases rd0 ha; clear H hU hS; go_wp2_with fail; (try refine hQ _ _ ?_); refine ⟨Step.refl _ _, ?_, trivial, nofun⟩; exact (rfl : _ = _)
      case o4_2_12 | o4_2_13 => have cc := scell hH; have ha := rd1 ha H (by kernel_rfl) rfl; simp only [q3, q5, q6, q7] at ha; subst ha; clear H hU hS; go_wp2_with fail; (try refine hQ _ _ ?_); refine ⟨Step.refl _ _, ?_, trivial, nofun⟩; exact (rfl : _ = _)
      case o4_2_14 => have cc := scell hH; have ha := rd2 ha H (by kernel_rfl) (by kernel_rfl) rfl rfl; simp only [q3, q5, q6, q7] at ha; subst ha; clear H hU hS; go_wp2_with fail; (try refine hQ _ _ ?_); refine ⟨Step.refl _ _, ?_, trivial, nofun⟩; exact (rfl : _ = _)
      case o4_2_15 => have cc := scell hH; have h14 : xv 14 = _ := H 14 (by kernel_rfl); change aq = puts _ xv [(14, some 67)] at ha; simp only [q1, q2, q3, q5, q6, q7, h14] at ha; subst ha; clear H h14; clear hU hS; go_wp2_with fail; refine (up_any _ (by omega) (by omega) _).mono ?_; rintro e w4 ⟨rfl, s4⟩; go_wp2_with fail; (try refine hQ _ _ ?_); refine ⟨(by subst s4; exact Step.refl _ _), ?_, trivial, nofun⟩; exact (rfl : _ = _)
    intro xv w4 hH hS H hU hsz hF hN
    have h0 : xv 0 = _ := H 0 (by decide) (by kernel_rfl); have h1 : xv 1 = _ := H 1 (by decide) (by kernel_rfl); have h2 : xv 2 = _ := H 2 (by decide) (by kernel_rfl); have h3 : xv 3 = _ := H 3 (by decide) (by kernel_rfl); have h4 : xv 4 = _ := H 4 (by decide) (by kernel_rfl); have h5 : xv 5 = _ := H 5 (by decide) (by kernel_rfl); have h6 : xv 6 = _ := H 6 (by decide) (by kernel_rfl); have h7 : xv 7 = _ := H 7 (by decide) (by kernel_rfl); have h8 : xv 8 = _ := H 8 (by decide) (by kernel_rfl); have h9 : xv 9 = _ := H 9 (by decide) (by kernel_rfl); have h10 : xv 10 = _ := H 10 (by decide) (by kernel_rfl); have h11 : xv 11 = _ := H 11 (by decide) (by kernel_rfl); have h12 : xv 12 = _ := H 12 (by decide) (by kernel_rfl); have h13 : xv 13 = _ := H 13 (by decide) (by kernel_rfl); have h14 : xv 14 = _ := H 14 (by decide) (by kernel_rfl); have h15 : xv 15 = _ := H 15 (by decide) (by kernel_rfl)
    simp only [planMalloc4, q1, q2, q3, q5, q6, q7, q4, List.drop_succ_cons, List.drop_zero, h0, h1, h2, h3, h4, h5, h6, h7, h8, h9, h10, h11, h12, h13, h14, h15]
    clear H hF hN hS hU h0 h1 h2 h3 h4 h5 h6 h7 h8 h9 h10 h11 h12 h13 h14 h15
    obtain ⟨P5, ch5⟩ := (HP3.out.still hH).scalar 7 (.int .i64 (mallocF st n).free) (st' := mallocF st n) (ui' := ui) rfl rfl rfl rfl rfl rfl HP3.out.input
    have F5 := (HF3.out.still hH).keep ch5
    have CH5 := Lib.hid ((CH3.out.trans (Chg.calm own1 hH)).trans ch5)
    have f7 : w4.frozen? ⟨pw, 7, none⟩ = false := (HP3.out.still hH).cells.2 7
    have c7' := (HP3.out.still hH).cells.1.2.2.2.2.2.2.2.1
    simp only at c7'
    have HP5 := Lib.hid P5
    have HF5 := Lib.hid F5
    clear P5 F5 ch5 c0 c7 hH
    go_upto_region 5 with fail
    (first | rw [EV.out n (by omega)] | rw [EV.out 16 (by omega)])
    clear f7 c7'
    generalize w4.setCell ⟨pw, 7, none⟩ (.int .i64 (mallocF st n).free) = w5 at HP5 HF5 CH5 ⊢
    have c0 := cell_known HF5.out.struct (i := 0) rfl
    have c4 := HP5.out.cells.1.2.2.2.2.1
    obtain ⟨gl, lcap, cur, eul, hgl, hrow, hn1, hn2, hsz2, htk⟩ := HP5.out.locks.some (by simp [mallocF])
    have el : (mallocF st n).locks.length = st.locks.length + 1 := by simp [mallocF]
    rw [el] at eul
    subst eul
    have cl : w5.cell? ⟨gl, st.locks.length, none⟩ = some (.int .u64 (st.keys + 1)) := row_cell hrow htk (by simp [mallocF])
    have hll : st.locks.length ≤ 1000000000 := by have := HP5.out.lens.1; rw [el] at this; omega
    have HL := Lib.hid hll
    clear hrow htk hsz2 el hgl
    go_wp2_with fail
    go_ret
    refine ⟨_, rfl, own1, CH5.out.trans (Chg.calm own1 (Step.alloc _ _ _)), HP5.out.whole.still (Step.alloc _ _ _), ?_⟩
    have hsz := CH5.out.step.size
    have hf0 := HP5.out.whole.fresh0
    exact ⟨rfl, .inr ⟨w5.heap.size, 5, _, rfl, ⟨hsz, hf0⟩, heap_alloc_new _ _, by omega, by simp [maxLen], rfl, rfl⟩⟩
  · skip
    go_upto_region 4 with fail
    refine wp_region_each 16 planMalloc4 (fun _ _ => False) (Step (fun _ => False) w3) (fun _ => True) [Is ?v4_3_0, Is ?v4_3_1, Is ?v4_3_2, Is ?v4_3_3, Is ?v4_3_4, Is ?v4_3_5, Is ?v4_3_6, Is ?v4_3_7, Is ?v4_3_8, Is ?v4_3_9, Is ?v4_3_10, Is ?v4_3_11, Is ?v4_3_12, Is ?v4_3_13, Is ?v4_3_14, Is ?v4_3_15] [] (by kernel_rfl) (by kernel_rfl) (fun _ _ h => h.elim) ((Step.refl _ _).drew) (trivial) ?stab4_3 ?stabD4_3 ?obl4_3 ?fin4_3
    case stab4_3 => exact fun w w' h => ⟨fun k => k.trans h (fun _ x => x.elim), fun _ => trivial, ⟨fun _ k => k, fun _ k => k, fun _ k => k, fun _ k => k, fun _ k => k, fun _ k => k, fun _ k => k, fun _ k => k, fun _ k => k, fun _ k => k, fun _ k => k, fun _ k => k, fun _ k => k, fun _ k => k, fun _ k => k, fun _ k => k, trivial⟩, trivial⟩
    case stabD4_3 => exact fun _ _ h => h.elim
    case obl4_3 =>
      refine ⟨?o4_3_0, ?o4_3_1, ?o4_3_2, ?o4_3_3, ?o4_3_4, ?o4_3_5, ?o4_3_6, ?o4_3_7, ?o4_3_8, ?o4_3_9, ?o4_3_10, ?o4_3_11, ?o4_3_12, ?o4_3_13, ?o4_3_14, ?o4_3_15, trivial⟩
      all_goals intro xv wq hH hS H hU aq ha Q' hQ
      case o4_3_0 => cases rd0 ha; clear H hU hS; go_wp2_with fail; (try refine hQ _ _ ?_); refine ⟨Step.refl _ _, ?_, trivial, nofun⟩; exact (rfl : _ = _)
      case o4_3_1 | o4_3_2 => have ha := rd1 ha H (by kernel_rfl) rfl; simp only [q3, q5, q6, q7] at ha; subst ha; clear H hU hS; go_wp2_with fail; (try refine hQ _ _ ?_); refine ⟨Step.refl _ _, ?_, trivial, nofun⟩; exact (rfl : _ = _)
      case o4_3_3 => have cc := scell hH; have ha := rd1 ha H (by kernel_rfl) rfl; simp only [q3, q5, q6, q7] at ha; subst ha; clear H hU hS; go_wp2_with fail; (try refine hQ _ _ ?_); refine ⟨Step.refl _ _, ?_, trivial, nofun⟩; exact (rfl : _ = _)
      case o4_3_4 => cases rd0 ha; clear H hU hS; go_wp2_with fail; (try refine hQ _ _ ?_); refine ⟨Step.refl _ _, ?_, trivial, nofun⟩; exact (rfl : _ = _)
      case o4_3_5 | o4_3_6 => have ha := rd1 ha H (by kernel_rfl) rfl; simp only [q3, q5, q6, q7] at ha; subst ha; clear H hU hS; go_wp2_with fail; (try refine hQ _ _ ?_); refine ⟨Step.refl _ _, ?_, trivial, nofun⟩; exact (rfl : _ = _)
      case o4_3_7 => have cc := scell hH; have ha := rd1 ha H (by kernel_rfl) rfl; simp only [q3, q5, q6, q7] at ha; subst ha; clear H hU hS; go_wp2_with fail; (try refine hQ _ _ ?_); refine ⟨Step.refl _ _, ?_, trivial, nofun⟩; exact (rfl : _ = _)
      case o4_3_8 | o4_3_9 => have ha := rd1 ha H (by kernel_rfl) rfl; simp only [q3, q5, q6, q7] at ha; subst ha; clear H hU hS; go_wp2_with fail; (try refine hQ _ _ ?_); refine ⟨Step.refl _ _, ?_, trivial, nofun⟩; exact (rfl : _ = _)
      case o4_3_10 => have cc := scell hH; have ha := rd1 ha H (by kernel_rfl) rfl; simp only [q3, q5, q6, q7] at ha; subst ha; clear H hU hS; go_wp2_with fail; (try refine hQ _ _ ?_); refine ⟨Step.refl _ _, ?_, trivial, nofun⟩; exact (rfl : _ = _)
      case o4_3_11 => cases rd0 ha; clear H hU hS; go_wp2_with fail; (try refine hQ _ _ ?_); refine ⟨Step.refl _ _, ?_, trivial, nofun⟩; exact (rfl : _ = _)
      case o4_3_12 | o4_3_13 => have cc := scell hH; have ha := rd1 ha H (by kernel_rfl) rfl; simp only [q3, q5, q6, q7] at ha; subst ha; clear H hU hS; go_wp2_with fail; (try refine hQ _ _ ?_); refine ⟨Step.refl _ _, ?_, trivial, nofun⟩; exact (rfl : _ = _)
      case o4_3_14 => have cc := scell hH; have ha := rd2 ha H (by kernel_rfl) (by kernel_rfl) rfl rfl; simp only [q3, q5, q6, q7] at ha; subst ha; clear H hU hS; go_wp2_with fail; (try refine hQ _ _ ?_); refine ⟨Step.refl _ _, ?_, trivial, nofun⟩; exact (rfl : _ = _)
      case o4_3_15 => have cc := scell hH; have h14 : xv 14 = _ := H 14 (by kernel_rfl); change aq = puts _ xv [(14, some 67)] at ha; simp only [q1, q2, q3, q5, q6, q7, h14] at ha; subst ha; clear H h14; clear hU hS; go_wp2_with fail; refine (up_any _ (by omega) (by omega) _).mono ?_; rintro e w4 ⟨rfl, s4⟩; go_wp2_with fail; (try refine hQ _ _ ?_); refine ⟨(by subst s4; exact Step.refl _ _), ?_, trivial, nofun⟩; exact (rfl : _ = _)
    intro xv w4 hH hS H hU hsz hF hN
    have h0 : xv 0 = _ := H 0 (by decide) (by kernel_rfl); have h1 : xv 1 = _ := H 1 (by decide) (by kernel_rfl); have h2 : xv 2 = _ := H 2 (by decide) (by kernel_rfl); have h3 : xv 3 = _ := H 3 (by decide) (by kernel_rfl); have h4 : xv 4 = _ := H 4 (by decide) (by kernel_rfl); have h5 : xv 5 = _ := H 5 (by decide) (by kernel_rfl); have h6 : xv 6 = _ := H 6 (by decide) (by kernel_rfl); have h7 : xv 7 = _ := H 7 (by decide) (by kernel_rfl); have h8 : xv 8 = _ := H 8 (by decide) (by kernel_rfl); have h9 : xv 9 = _ := H 9 (by decide) (by kernel_rfl); have h10 : xv 10 = _ := H 10 (by decide) (by kernel_rfl); have h11 : xv 11 = _ := H 11 (by decide) (by kernel_rfl); have h12 : xv 12 = _ := H 12 (by decide) (by kernel_rfl); have h13 : xv 13 = _ := H 13 (by decide) (by kernel_rfl); have h14 : xv 14 = _ := H 14 (by decide) (by kernel_rfl); have h15 : xv 15 = _ := H 15 (by decide) (by kernel_rfl)
    simp only [planMalloc4, q1, q2, q3, q5, q6, q7, q4, List.drop_succ_cons, List.drop_zero, h0, h1, h2, h3, h4, h5, h6, h7, h8, h9, h10, h11, h12, h13, h14, h15]
    clear H hF hN hS hU h0 h1 h2 h3 h4 h5 h6 h7 h8 h9 h10 h11 h12 h13 h14 h15
    obtain ⟨P5, ch5⟩ := (HP3.out.still hH).scalar 7 (.int .i64 (mallocF st n).free) (st' := mallocF st n) (ui' := ui) rfl rfl rfl rfl rfl rfl HP3.out.input
    have F5 := (HF3.out.still hH).keep ch5
    have CH5 := Lib.hid ((CH3.out.trans (Chg.calm own1 hH)).trans ch5)
    have f7 : w4.frozen? ⟨pw, 7, none⟩ = false := (HP3.out.still hH).cells.2 7
    have c7' := (HP3.out.still hH).cells.1.2.2.2.2.2.2.2.1
    simp only at c7'
    have HP5 := Lib.hid P5
    have HF5 := Lib.hid F5
    clear P5 F5 ch5 c0 c7 hH
    go_upto_region 5 with fail
    (first | rw [EV.out n (by omega)] | rw [EV.out 16 (by omega)])
    clear f7 c7'
    generalize w4.setCell ⟨pw, 7, none⟩ (.int .i64 (mallocF st n).free) = w5 at HP5 HF5 CH5 ⊢
    have c0 := cell_known HF5.out.struct (i := 0) rfl
    have c4 := HP5.out.cells.1.2.2.2.2.1
    obtain ⟨gl, lcap, cur, eul, hgl, hrow, hn1, hn2, hsz2, htk⟩ := HP5.out.locks.some (by simp [mallocF])
    have el : (mallocF st n).locks.length = st.locks.length + 1 := by simp [mallocF]
    rw [el] at eul
    subst eul
    have cl : w5.cell? ⟨gl, st.locks.length, none⟩ = some (.int .u64 (st.keys + 1)) := row_cell hrow htk (by simp [mallocF])
    have hll : st.locks.length ≤ 1000000000 := by have := HP5.out.lens.1; rw [el] at this; omega
    have HL := Lib.hid hll
    clear hrow htk hsz2 el hgl
    go_wp2_with fail
    go_ret
    refine ⟨_, rfl, own1, CH5.out.trans (Chg.calm own1 (Step.alloc _ _ _)), HP5.out.whole.still (Step.alloc _ _ _), ?_⟩
    have hsz := CH5.out.step.size
    have hf0 := HP5.out.whole.fresh0
    exact ⟨rfl, .inr ⟨w5.heap.size, 5, _, rfl, ⟨hsz, hf0⟩, heap_alloc_new _ _, by omega, by simp [maxLen], rfl, rfl⟩⟩
end
end Go.Proofs.Ytpmbakhnamlooaa
