/- Package mid: Run. -/
import Derived.Test.YtojfgdoniajmeaaMidX
import Derived.Test.YtojfgdoniajmeaaMGooH
namespace Go.Proofs.Ytojfgdoniajmeaa
set_option linter.unusedVariables false
set_option linter.unusedSimpArgs false
open Go.RowKit

/-- a machine at first -/
def st0 (fuel : Int) (input : List Int) : MSt := ⟨[⟨0, false, false, false⟩], fun _ => none, input, [], fuel, 0⟩
/-- what a run tells -/
structure RunR where
  state : Int
  code : Int
  why : Int
  out : List Int
  steps : Int
def faultR : RunR := ⟨4, 0, 0, [], 0⟩
/-- Run, plain -/
noncomputable def runUM (ts : List Tp) (fs : List FFn) (input : List Int) (fuel : Int) : RunR :=
  if goodUM ts fs then
    let r := callM (fnOf fs) (topsM ts (st0 fuel input) (fun _ => none)).2 fuel.toNat (topsM ts (st0 fuel input) (fun _ => none)).1 (getFn fs [109, 97, 105, 110]) []
    ⟨(runE r).1, (runE r).2.1, (runE r).2.2, (runS r).out, (runS r).steps⟩
  else faultR

/-- a unit is so small that it may be run -/
structure UnitOk (ts : List Tp) (fs : List FFn) : Prop where
  tops : ts.length ≤ 400
  fns : fs.length ≤ 400
  fn : ∀ f ∈ fs, f.kinds.length ≤ 1000 ∧ f.params.length ≤ 1000 ∧ f.slots.length ≤ 1000 ∧ f.code.length ≤ 100000 ∧ f.name.size ≤ maxLen
  ins : ∀ f ∈ fs, ∀ i ∈ f.code, i.name.size ≤ maxLen ∧ is64 i.n ∧ i.args.length ≤ 1000 ∧ i.outs.length ≤ 1000 ∧ (Lit.int .i64 i.op).wf = true
theorem UnitOk.fnOk {ts : List Tp} {fs : List FFn} (h : UnitOk ts fs) : ∀ f ∈ fs, FnOk f ∧ ∀ i ∈ f.code, i.name.size ≤ maxLen := fun f hf => by
  have h1 := h.fn f hf
  exact ⟨⟨by omega, by omega, by omega, by omega, fun i hi => by have := h.ins f hf i hi; exact ⟨this.2.2.2.2, by omega, by omega⟩, h1.2.2.2.2⟩, fun i hi => (h.ins f hf i hi).1⟩
theorem goodM_of {ts : List Tp} {fs : List FFn} (hok : UnitOk ts fs) (hg : goodUM ts fs = true) : ∀ s g, fnOf fs s = some g → GoodM (fnOf fs) g := by
  intro s g hs
  have hm := fnOf_mem hs
  simp only [goodUM, Bool.and_eq_true] at hg
  obtain ⟨⟨⟨h1, h2⟩, h3⟩, h4⟩ := hg
  have hf := fnsMB_fun _ _ h2 g hm
  have h5 := hok.fn g hm
  have h6 := hok.ins g hm
  obtain ⟨f1, f2, f3, f4, f5, f6, f7⟩ := funM_parts hf
  refine ⟨h5.1, fun n hn => ?_, ⟨fun r hr => regM_in (f3 r hr) (by decide), h5.2.1⟩, h5.2.2.1, ⟨f7, h5.2.2.2.1⟩, fun i hi => ⟨f5 i hi, (h6 i hi).1, (h6 i hi).2.1, (h6 i hi).2.2.1⟩, fun i hi => ?_, fun i hi h16 => ?_⟩
  · unfold sizesM at f2
    have := List.all_eq_true.1 f2 n hn
    simpa using this
  · unfold lastOpM at f6
    rw [hi] at f6
    simp only [Bool.or_eq_true, beq_iff_eq] at f6
    omega
  · rw [List.all_eq_true] at h3
    have h7 := h3 g hm
    rw [List.all_eq_true] at h7
    have h8 := h7 i hi
    unfold insMB at h8
    rw [h16] at h8
    cases hfo : fnOf fs i.name.data.toList with
    | none => rw [hfo] at h8; simp at h8
    | some q =>
      have hq : getFn fs i.name.data.toList = q := by unfold getFn; rw [hfo]; rfl
      rw [hfo, hq] at h8
      refine ⟨q, rfl, ?_⟩
      by_cases e : i.args.length = q.params.length
      · exact e
      · have e2 : ((i.args.length : Int) != q.params.length) = true := by rw [bne_iff_ne]; omega
        rw [e2] at h8
        simp at h8
theorem topsB_size {ts : List Tp} : ∀ {pre : List Tp}, topsB pre ts = true → ∀ t ∈ ts, 0 ≤ t.2 ∧ t.2 ≤ 4194304 := by
  induction ts with
  | nil => intro pre _ t h; cases h
  | cons x l ih =>
    intro pre h t ht
    simp only [topsB, okTop, Bool.and_eq_true, Bool.not_eq_true', decide_eq_false_iff_not, Int.not_lt] at h
    rcases List.mem_cons.1 ht with e | e
    · rw [e]; exact ⟨h.1.1.2, h.1.2⟩
    · exact ih h.2 t e
theorem set6_known {w : World} {b : Nat} {T : TypeId} {u0 u1 u2 u3 u4 u5 : Value} (h : w.heap[b]? = some (.cells #[u0, u1, u2, u3, u4, u5] T (0, 0))) (v0 v1 v2 v3 v4 v5 : Value) : (((((((w).setCell ⟨b, 0, none⟩ v0).setCell ⟨b, 1, none⟩ v1).setCell ⟨b, 2, none⟩ v2).setCell ⟨b, 3, none⟩ v3).setCell ⟨b, 4, none⟩ v4).setCell ⟨b, 5, none⟩ v5).heap[b]? = some (.cells #[v0, v1, v2, v3, v4, v5] T (0, 0)) := by
  have h0 : ((w).setCell ⟨b, 0, none⟩ v0).heap[b]? = some (.cells #[v0, u1, u2, u3, u4, u5] T (0, 0)) := by rw [set_known h]; rfl
  have h1 : (((w).setCell ⟨b, 0, none⟩ v0).setCell ⟨b, 1, none⟩ v1).heap[b]? = some (.cells #[v0, v1, u2, u3, u4, u5] T (0, 0)) := by rw [set_known h0]; rfl
  have h2 : ((((w).setCell ⟨b, 0, none⟩ v0).setCell ⟨b, 1, none⟩ v1).setCell ⟨b, 2, none⟩ v2).heap[b]? = some (.cells #[v0, v1, v2, u3, u4, u5] T (0, 0)) := by rw [set_known h1]; rfl
  have h3 : (((((w).setCell ⟨b, 0, none⟩ v0).setCell ⟨b, 1, none⟩ v1).setCell ⟨b, 2, none⟩ v2).setCell ⟨b, 3, none⟩ v3).heap[b]? = some (.cells #[v0, v1, v2, v3, u4, u5] T (0, 0)) := by rw [set_known h2]; rfl
  have h4 : ((((((w).setCell ⟨b, 0, none⟩ v0).setCell ⟨b, 1, none⟩ v1).setCell ⟨b, 2, none⟩ v2).setCell ⟨b, 3, none⟩ v3).setCell ⟨b, 4, none⟩ v4).heap[b]? = some (.cells #[v0, v1, v2, v3, v4, u5] T (0, 0)) := by rw [set_known h3]; rfl
  have h5 : (((((((w).setCell ⟨b, 0, none⟩ v0).setCell ⟨b, 1, none⟩ v1).setCell ⟨b, 2, none⟩ v2).setCell ⟨b, 3, none⟩ v3).setCell ⟨b, 4, none⟩ v4).setCell ⟨b, 5, none⟩ v5).heap[b]? = some (.cells #[v0, v1, v2, v3, v4, v5] T (0, 0)) := by rw [set_known h4]; rfl
  exact h5
theorem set6_step {F : Nat → Prop} {a w : World} {b : Nat} (s : Step F a w) (hb : F b ∨ a.heap.size ≤ b) (v0 v1 v2 v3 v4 v5 : Value) : Step F a (((((((w).setCell ⟨b, 0, none⟩ v0).setCell ⟨b, 1, none⟩ v1).setCell ⟨b, 2, none⟩ v2).setCell ⟨b, 3, none⟩ v3).setCell ⟨b, 4, none⟩ v4).setCell ⟨b, 5, none⟩ v5) :=
  (((((s.set (p := ⟨b, 0, none⟩) hb v0).set (p := ⟨b, 1, none⟩) hb v1).set (p := ⟨b, 2, none⟩) hb v2).set (p := ⟨b, 3, none⟩) hb v3).set (p := ⟨b, 4, none⟩) hb v4).set (p := ⟨b, 5, none⟩) hb v5
theorem cells_known6 {w : World} {b : Nat} {v0 v1 v2 v3 v4 v5 : Value} {T : TypeId} (h : w.heap[b]? = some (.cells #[v0, v1, v2, v3, v4, v5] T (0, 0))) : w.cell? ⟨b, 0, none⟩ = some v0 ∧ w.cell? ⟨b, 1, none⟩ = some v1 ∧ w.cell? ⟨b, 2, none⟩ = some v2 ∧ w.cell? ⟨b, 3, none⟩ = some v3 ∧ w.cell? ⟨b, 4, none⟩ = some v4 ∧ w.cell? ⟨b, 5, none⟩ = some v5 :=
  ⟨cell_known h rfl, cell_known h rfl, cell_known h rfl, cell_known h rfl, cell_known h rfl, cell_known h rfl⟩
/-- what Run answers -/
def resV (r : RunR) (vo : Value) : Value := .agg #[.int .i64 r.state, .int .u8 r.code, .int .i64 r.why, vo, .int .i64 r.steps, .int .i64 0]
def RunPost (w : World) (r : RunR) (e : Ending) (w' : World) : Prop := ∃ vo, e = .returned (resV r vo) ∧ RowAt w' (fun b => w.heap.size ≤ b) 5 1 vo r.out.length (r.out.map (Value.int .u8)) ∧ Step (fun _ => False) w w'
theorem fault_post {w w' : World} (s : Step (fun _ => False) w w') : RunPost w faultR (.returned (.agg #[.int .i64 4, .int .u8 0, .int .i64 0, .slice none 0 0, .int .i64 0, .int .i64 0])) w' := ⟨.slice none 0 0, rfl, rowAt_nil _ _ _ _, s⟩
/-- which block is of which part, of a new machine: its heap stands from L on -/
def ownN (L M : Nat) (b : Nat) : Nat := if b = M + 2 then 1 else if b = M + 1 then 2 else if b = M then 3 else if L ≤ b ∧ b < M then 4 else 0
theorem mw_new {w w4 w7 : World} {L M p : Nat} {vi : Value} {input : List Int} {fuel : Int} (hL : w.heap.size ≤ L) (hM : w4.heap.size = M) (hh : HeapAt w4 p [⟨0, false, false, false⟩] (fun _ => none) 0 (fun g => L ≤ g)) (s47 : Step (fun _ => False) w4 w7) (hz : w7.heap.size = M + 3) (s : Step (fun _ => False) w w7)
    (hs : w7.heap[M + 2]? = some (.cells #[.pointer (some ⟨p, 0, none⟩), .map (some M), .map (some (M + 1)), vi, .slice none 0 0, .int .i64 fuel, .int .i64 0] 70 (0, 0)))
    (mt : SMap Try.prog 9 w7 M 0 (fun _ => none)) (mf : SMap Try.prog 9 w7 (M + 1) 0 (fun _ => none)) (hi : IntsAt .u8 w vi input) (hLM : L ≤ M) :
    MWAt w w7 (M + 2) (ownN L M) (fun _ => none) (fun _ => none) (st0 fuel input) 1 := by
  have o4 : ∀ b, L ≤ b ∧ b < M → ownN L M b = 4 := fun b hb => by
    unfold ownN
    rw [if_neg (by omega), if_neg (by omega), if_neg (by omega), if_pos hb]
  refine ⟨p, M, M + 1, vi, .slice none 0 0, hs, ⟨by simp [ownN], by simp [ownN], by simp [ownN]⟩, mf.le (by omega), (mt.congr fun _ => rfl).le (by omega), ?_, rowAt_nil _ _ _ _, hi, fun b hb => ?_, s.mono fun b _ x => x.elim, by simp [st0]⟩
  · exact (((hh.now (by simp)).same fun b _ hb => s47.block b hb fun x => x).mono fun b hb => o4 b ⟨hb.1, by rw [← hM]; exact hb.2⟩).less (by omega)
  · unfold ownN at hb
    repeat' (split at hb)
    all_goals omega
def planRunR5 : Plan where
  T := [[], [0], [], [2], [], [4], [], [6], [6, 7], [6, 7, 8], [], [10], [10, 11], [10, 11, 12], [0, 1, 2, 3, 4, 5, 6, 7, 8, 9, 10, 11, 12, 13], [0, 1, 2, 3, 4, 5, 6, 7, 8, 9, 10, 11, 12, 13, 14]]
  rd := [[], [(0, some 23)], [], [(2, some 25)], [], [(4, some 27)], [], [(6, some 29)], [(7, some 30)], [(8, some 31)], [], [(10, some 33)], [(11, some 34)], [(12, some 35)]]
  all := [(13, some 36), (12, some 35), (11, some 34), (10, some 33), (9, some 32), (8, some 31), (7, some 30), (6, some 29), (5, some 28), (4, some 27), (3, some 26), (2, some 25), (1, some 24), (0, some 23)]
  calm := [true, true, true, true, true, true, true, true, true, true, true, true, true, true]
  hard := []
  fresh := [false, false, false, false, false, false, false, false, false, false, false, false, false, false]

set_option maxHeartbeats 4000000 in
set_option maxRecDepth 100000 in
theorem Run_any {w : World} {vt vf vi : Value} {ts : List Tp} {fs : List FFn} {input : List Int} {fuel : Int} (ht : TopsAt w vt ts) (hf : FnsAt w vf fs) (hi : IntsAt .u8 w vi input) (hok : UnitOk ts fs) (hfu : fuel ≤ 100000) :
    Calls Try.prog 14 #[.agg #[vt, vf], vi, .int .i64 fuel] w (RunPost w (runUM ts fs input fuel)) := by
  have hmm := @run_makeMap Try.prog
  have HTI := Lib.hid ht
  have HFI := Lib.hid hf
  have HII := Lib.hid hi
  have HOK := Lib.hid hok
  obtain ⟨pt, ct, rfl, ht1, ht2, htc⟩ := ht
  obtain ⟨pf, cf, rfl, hf1, hf2, hfc⟩ := hf
  obtain ⟨⟨pi, ci, rfl, hi1, hi2, hi3⟩, hi4⟩ := hi
  clear htc hfc hi3 hi4 hok hi1 hi2 hf1 hf2 ht1 ht2
  obtain ⟨R, hR⟩ : ∃ R, R = runUM ts fs input fuel := ⟨_, rfl⟩
  have HRR := Lib.hid hR
  rw [← hR]
  clear hR
  have k1 := heap_alloc_new w (.cells #[.slice pt ts.length ct, .slice pf fs.length cf] 25 (0, 0))
  have s1 := Step.alloc (fun _ => False) w (.cells #[.slice pt ts.length ct, .slice pf fs.length cf] 25 (0, 0))
  generalize hw1 : w.alloc (.cells #[.slice pt ts.length ct, .slice pf fs.length cf] 25 (0, 0)) = w1 at *
  have hz1 : w1.heap.size = w.heap.size + 1 := by rw [← hw1]; simp
  have k2 := heap_alloc_new w1 (.cells #[.int .i64 0, .int .u8 0, .int .i64 0, .slice none 0 0, .int .i64 0, .int .i64 0] 31 (0, 0))
  have s2 := Step.alloc (fun _ => False) w1 (.cells #[.int .i64 0, .int .u8 0, .int .i64 0, .slice none 0 0, .int .i64 0, .int .i64 0] 31 (0, 0))
  replace k1 := s2.keeps k1
  rw [hz1] at k2
  have HB0 := Lib.hid (show w.heap.size + 2 ≤ (w1.alloc (.cells #[.int .i64 0, .int .u8 0, .int .i64 0, .slice none 0 0, .int .i64 0, .int .i64 0] 31 (0, 0))).heap.size from by simp [hz1])
  have S2 := Lib.hid (s1.then s2)
  clear s1 s2
  go_enter Try.func14, Try.ntmps14
  go_upto_region 1 with fail
  (try rw [hz1])
  clear hw1 hz1
  generalize w1.alloc (.cells #[.int .i64 0, .int .u8 0, .int .i64 0, .slice none 0 0, .int .i64 0, .int .i64 0] 31 (0, 0)) = w2 at *
  obtain ⟨B, hB⟩ : ∃ B, w.heap.size = B := ⟨_, rfl⟩
  rw [hB] at k1 k2 HB0 ⊢
  have HBB := Lib.hid hB
  have KU := Lib.hid k1
  have KR := Lib.hid k2
  clear k1 k2 hB
  obtain ⟨u0, u1, _, _⟩ := cells_known2 KU.out
  go_wp2_with fail
  refine (good_any (w0 := w) (w := w2) HTI.out HFI.out (by have := HOK.out.tops; omega) (by have := HOK.out.fns; omega) HOK.out.fnOk (fun b hb => S2.out.block b hb fun x => x) S2.out.size).mono ?_
  rintro e w3 ⟨rfl, s3⟩
  have S3 := Lib.hid (S2.out.then s3)
  have KU3 := Lib.hid (s3.keeps KU.out)
  have HRES := Lib.hid (s3.keeps KR.out)
  have HB3 := Lib.hid (show B + 2 ≤ w3.heap.size from Nat.le_trans HB0.out s3.size)
  clear s3 u0 u1
  cases hg : goodUM ts fs with
  | false =>
    have HRF := Lib.hid (show R = faultR from HRR.out.trans (by unfold runUM; rw [hg]; rfl))
    clear hg HRR
    have r0 := cell_known HRES.out (i := 0) rfl
    have y0 := free_known HRES.out 0
    have r1 := cell_known HRES.out (i := 1) rfl
    have y1 := free_known HRES.out 1
    have r2 := cell_known HRES.out (i := 2) rfl
    have y2 := free_known HRES.out 2
    have r3 := cell_known HRES.out (i := 3) rfl
    have y3 := free_known HRES.out 3
    have r4 := cell_known HRES.out (i := 4) rfl
    have y4 := free_known HRES.out 4
    have r5 := cell_known HRES.out (i := 5) rfl
    have y5 := free_known HRES.out 5
    go_wp2_with fail
    have hk7 := set6_known HRES.out (.int .i64 4) (.int .u8 0) (.int .i64 0) (.slice none 0 0) (.int .i64 0) (.int .i64 0)
    have S7 := Lib.hid (set6_step S3.out (.inr (show w.heap.size ≤ B + 1 by have := HBB.out; omega)) (.int .i64 4) (.int .u8 0) (.int .i64 0) (.slice none 0 0) (.int .i64 0) (.int .i64 0))
    generalize (((((((w3).setCell ⟨B + 1, 0, none⟩ (.int .i64 4)).setCell ⟨B + 1, 1, none⟩ (.int .u8 0)).setCell ⟨B + 1, 2, none⟩ (.int .i64 0)).setCell ⟨B + 1, 3, none⟩ (.slice none 0 0)).setCell ⟨B + 1, 4, none⟩ (.int .i64 0)).setCell ⟨B + 1, 5, none⟩ (.int .i64 0)) = w7 at *
    obtain ⟨q0', q1', q2', q3', q4', q5'⟩ := cells_known6 hk7
    clear hk7 r0 r1 r2 r3 r4 r5 y0 y1 y2 y3 y4 y5
    simp [bodyPost, results, Try.results14, go_sem, q0', q1', q2', q3', q4', q5']
    rw [HRF.out]
    exact fault_post S7.out
  | true =>
    have hmb : mainB fs = true := by simp only [goodUM, Bool.and_eq_true] at hg; exact hg.2
    rw [mainB_eq, Bool.and_eq_true] at hmb
    obtain ⟨gm, hgm⟩ := Option.isSome_iff_exists.1 hmb.1
    have hgp : gm.params = [] := by
      have := hmb.2
      rw [getFn, hgm, beq_iff_eq] at this
      exact List.length_eq_zero_iff.1 this
    have hgf : getFn fs [109, 97, 105, 110] = gm := by rw [getFn, hgm]; rfl
    have HRT := Lib.hid (show R = ⟨(runE (callM (fnOf fs) (topsM ts (st0 fuel input) (fun _ => none)).2 fuel.toNat (topsM ts (st0 fuel input) (fun _ => none)).1 gm [])).1, (runE (callM (fnOf fs) (topsM ts (st0 fuel input) (fun _ => none)).2 fuel.toNat (topsM ts (st0 fuel input) (fun _ => none)).1 gm [])).2.1, (runE (callM (fnOf fs) (topsM ts (st0 fuel input) (fun _ => none)).2 fuel.toNat (topsM ts (st0 fuel input) (fun _ => none)).1 gm [])).2.2, (runS (callM (fnOf fs) (topsM ts (st0 fuel input) (fun _ => none)).2 fuel.toNat (topsM ts (st0 fuel input) (fun _ => none)).1 gm [])).out, (runS (callM (fnOf fs) (topsM ts (st0 fuel input) (fun _ => none)).2 fuel.toNat (topsM ts (st0 fuel input) (fun _ => none)).1 gm [])).steps⟩ from HRR.out.trans (by unfold runUM; rw [hg, hgf]; rfl))
    have HGM := Lib.hid (And.intro hgm hgp)
    have HGF := Lib.hid (goodM_of HOK.out hg)
    have HTS := Lib.hid (show ∀ t ∈ ts, 0 ≤ t.2 ∧ t.2 ≤ 4194304 from topsB_size (pre := []) (by simp only [goodUM, Bool.and_eq_true] at hg; exact hg.1.1.1))
    have HII8 := Lib.hid (show SInvM (fun _ => none) (st0 fuel input) 2000 from ⟨nofun, ⟨by simp [st0], by simp [st0]⟩, ⟨by simp [st0], .inr rfl, hfu⟩, fun b hb => wfu8 (HII.out.wf b hb), nofun, nofun⟩)
    clear hg HRR hmb hgm hgp hgf
    go_wp2_with fail
    refine (new_any w3).mono ?_
    rintro e w4 ⟨p, rfl, s4, hh⟩
    have HH := Lib.hid hh
    have S4 := Lib.hid s4
    clear hh s4
    have im5 := smap_made w4 Try.prog 9
    have s5 := Step.alloc (fun _ => False) w4 (.map #[] 0)
    generalize hw5 : w4.alloc (.map #[] 0) = w5 at *
    have hz5 : w5.heap.size = w4.heap.size + 1 := by rw [← hw5]; simp
    have im6 := smap_made w5 Try.prog 9
    have s6 := Step.alloc (fun _ => False) w5 (.map #[] 0)
    have im5' := SMap.same im5 (s6.block _ im5.lt fun x => x)
    generalize hw6 : w5.alloc (.map #[] 0) = w6 at *
    have hz6 : w6.heap.size = w4.heap.size + 2 := by rw [← hw6]; simp [hz5]
    rw [hz5] at im6
    obtain ⟨M, hM⟩ : ∃ M, w4.heap.size = M := ⟨_, rfl⟩
    rw [hM] at im5' im6 hz5 hz6
    have k7 := heap_alloc_new w6 (.cells #[.pointer (some ⟨p, 0, none⟩), .map (some M), .map (some (M + 1)), .slice pi input.length ci, .slice none 0 0, .int .i64 fuel, .int .i64 0] 70 (0, 0))
    have s7 := Step.alloc (fun _ => False) w6 (.cells #[.pointer (some ⟨p, 0, none⟩), .map (some M), .map (some (M + 1)), .slice pi input.length ci, .slice none 0 0, .int .i64 fuel, .int .i64 0] 70 (0, 0))
    have im5'' := SMap.same im5' (s7.block _ im5'.lt fun x => x)
    have im6' := SMap.same im6 (s7.block _ im6.lt fun x => x)
    generalize hw7 : w6.alloc (.cells #[.pointer (some ⟨p, 0, none⟩), .map (some M), .map (some (M + 1)), .slice pi input.length ci, .slice none 0 0, .int .i64 fuel, .int .i64 0] 70 (0, 0)) = w7 at *
    have hz7 : w7.heap.size = M + 3 := by rw [← hw7]; simp [hz6]
    rw [hz6] at k7
    have s47 := (s5.then s6).then s7
    have MW := Lib.hid (mw_new (L := w3.heap.size) S3.out.size hM HH.out s47 hz7 ((S3.out.then S4.out).then s47) k7 im5'' im6' HII.out (by rw [← hM]; exact S4.out.size))
    have KU7 := Lib.hid ((S4.out.then s47).keeps KU3.out)
    have KR7 := Lib.hid ((S4.out.then s47).keeps HRES.out)
    have S7 := Lib.hid ((S3.out.then S4.out).then s47)
    have HO0 := Lib.hid (show ownN w3.heap.size M B = 0 ∧ ownN w3.heap.size M (B + 1) = 0 from by
      have h1 := HB3.out
      have h2 : w3.heap.size ≤ M := by rw [← hM]; exact S4.out.size
      unfold ownN
      constructor
      · rw [if_neg (by omega), if_neg (by omega), if_neg (by omega), if_neg (by omega)]
      · rw [if_neg (by omega), if_neg (by omega), if_neg (by omega), if_neg (by omega)])
    generalize ownN w3.heap.size M = own7 at *
    clear im5 s5 im6 s6 im5' k7 s7 im5'' im6' s47
    go_upto_region 4 with fail
    clear hw5 hw6 hw7 hz5 hz6 hz7 hM
    obtain ⟨u0, u1, _, _⟩ := cells_known2 KU7.out
    have RUN := Lib.hid (run_any (w0 := w) (w := w7) (pw := M + 2) (own := own7) (st := st0 fuel input) (c := 1) HTI.out HFI.out (by have := HOK.out.fns; omega) (by have := HOK.out.tops; omega) HTS.out (fun f hf => (HOK.out.fn f hf).2.2.2.2) HGF.out HGM.out.1 HGM.out.2 (N := fuel.toNat) ⟨rfl, hfu, rfl⟩ HII8.out (by omega) (by simp [st0]) MW.out)
    go_wp2_with fail
    refine RUN.out.mono ?_
    rintro e w8 ⟨r, hr, rfl, own', fv, c', hch, hat⟩
    have HQ := Lib.hid (show R = ⟨(runE r).1, (runE r).2.1, (runE r).2.2, (runS r).out, (runS r).steps⟩ from by rw [hr]; exact HRT.out)
    generalize (runE r).1 = rs at *
    generalize (runE r).2.1 = rc at *
    generalize (runE r).2.2 = ry at *
    generalize runS r = stt at *
    have ho8 := hch.stays0 KR7.out HO0.out.2
    have HRES8 := Lib.hid (hch.keeps KR7.out HO0.out.2)
    have HO8 := Lib.hid ho8
    have S8 := Lib.hid (S7.out.trans hch.step fun b hb => .inr (MW.out.low b hb).1)
    clear hr ho8 hch u0 u1 RUN HRT HGM HGF HTS HII8
    obtain ⟨ph, bt, bf, ui, uo, P⟩ := hat
    obtain ⟨oa, oc, evo⟩ := P.out.slice
    subst evo
    have sb := Step.alloc (fun _ => False) w8 (.cells #[.int .i64 rs, .int .u8 rc, .int .i64 ry] 72 (0, 0))
    have P9 := P.still sb
    have kb := heap_alloc_new w8 (.cells #[.int .i64 rs, .int .u8 rc, .int .i64 ry] 72 (0, 0))
    have HRES9 := Lib.hid (sb.keeps HRES8.out)
    have S9 := Lib.hid (S8.out.then sb)
    clear P sb
    go_upto_region 5 with fail
    generalize w8.alloc (.cells #[.int .i64 rs, .int .u8 rc, .int .i64 ry] 72 (0, 0)) = w9 at *
    generalize w8.heap.size = tb at *
    have PP9 := Lib.hid P9
    have FX := Lib.hid (show ∀ y, Step (fun _ => False) w9 y → y.cell? ⟨tb, 0, none⟩ = some (.int .i64 rs) ∧ y.cell? ⟨tb, 1, none⟩ = some (.int .u8 rc) ∧ y.cell? ⟨tb, 2, none⟩ = some (.int .i64 ry) ∧ y.cell? ⟨M + 2, 4, none⟩ = some (.slice oa stt.out.length oc) ∧ y.cell? ⟨M + 2, 6, none⟩ = some (.int .i64 stt.steps) from fun y hy => ⟨cell_known (hy.keeps kb) rfl, cell_known (hy.keeps kb) rfl, cell_known (hy.keeps kb) rfl, cell_known (hy.keeps P9.struct) rfl, cell_known (hy.keeps P9.struct) rfl⟩)
    clear kb P9
    refine wp_region_each 14 planRunR5 (fun _ _ => False) (Step (fun _ => False) w9) (fun _ => True) [Is ?v5_1_0, Is ?v5_1_1, Is ?v5_1_2, Is ?v5_1_3, Is ?v5_1_4, Is ?v5_1_5, Is ?v5_1_6, Is ?v5_1_7, Is ?v5_1_8, Is ?v5_1_9, Is ?v5_1_10, Is ?v5_1_11, Is ?v5_1_12, Is ?v5_1_13] [] (by kernel_rfl) (by kernel_rfl) (fun _ _ h => h.elim) ((Step.refl _ _).drew) (trivial) ?stab5_1 ?stabD5_1 ?obl5_1 ?fin5_1
    case stab5_1 => exact fun w w' h => ⟨fun k => k.trans h (fun _ x => x.elim), fun _ => trivial, ⟨fun _ k => k, fun _ k => k, fun _ k => k, fun _ k => k, fun _ k => k, fun _ k => k, fun _ k => k, fun _ k => k, fun _ k => k, fun _ k => k, fun _ k => k, fun _ k => k, fun _ k => k, fun _ k => k, trivial⟩, trivial⟩
    case stabD5_1 => exact fun _ _ h => h.elim
    case obl5_1 =>
      refine ⟨?o5_1_0, ?o5_1_1, ?o5_1_2, ?o5_1_3, ?o5_1_4, ?o5_1_5, ?o5_1_6, ?o5_1_7, ?o5_1_8, ?o5_1_9, ?o5_1_10, ?o5_1_11, ?o5_1_12, ?o5_1_13, trivial⟩
      all_goals intro xv wq hH hS H hU aq ha Q' hQ
      case o5_1_0 => cases rd0 ha; clear H hU hS; go_wp2_with fail; (try refine hQ _ _ ?_); refine ⟨Step.refl _ _, ?_, trivial, nofun⟩; exact (rfl : _ = _)
      case o5_1_1 => obtain ⟨t0, t1, t2, m4, m6⟩ := FX.out _ hH; have ha := rd1 ha H (by kernel_rfl) rfl; simp only [q3, q5, q6, q7] at ha; subst ha; clear H hU hS; go_wp2_with fail; (try refine hQ _ _ ?_); refine ⟨Step.refl _ _, ?_, trivial, nofun⟩; exact (rfl : _ = _)
      case o5_1_2 => cases rd0 ha; clear H hU hS; go_wp2_with fail; (try refine hQ _ _ ?_); refine ⟨Step.refl _ _, ?_, trivial, nofun⟩; exact (rfl : _ = _)
      case o5_1_3 => obtain ⟨t0, t1, t2, m4, m6⟩ := FX.out _ hH; have ha := rd1 ha H (by kernel_rfl) rfl; simp only [q3, q5, q6, q7] at ha; subst ha; clear H hU hS; go_wp2_with fail; (try refine hQ _ _ ?_); refine ⟨Step.refl _ _, ?_, trivial, nofun⟩; exact (rfl : _ = _)
      case o5_1_4 => cases rd0 ha; clear H hU hS; go_wp2_with fail; (try refine hQ _ _ ?_); refine ⟨Step.refl _ _, ?_, trivial, nofun⟩; exact (rfl : _ = _)
      case o5_1_5 => obtain ⟨t0, t1, t2, m4, m6⟩ := FX.out _ hH; have ha := rd1 ha H (by kernel_rfl) rfl; simp only [q3, q5, q6, q7] at ha; subst ha; clear H hU hS; go_wp2_with fail; (try refine hQ _ _ ?_); refine ⟨Step.refl _ _, ?_, trivial, nofun⟩; exact (rfl : _ = _)
      case o5_1_6 => cases rd0 ha; clear H hU hS; go_wp2_with fail; (try refine hQ _ _ ?_); refine ⟨Step.refl _ _, ?_, trivial, nofun⟩; exact (rfl : _ = _)
      case o5_1_7 | o5_1_8 => have ha := rd1 ha H (by kernel_rfl) rfl; simp only [q3, q5, q6, q7] at ha; subst ha; clear H hU hS; go_wp2_with fail; (try refine hQ _ _ ?_); refine ⟨Step.refl _ _, ?_, trivial, nofun⟩; exact (rfl : _ = _)
      case o5_1_9 => obtain ⟨t0, t1, t2, m4, m6⟩ := FX.out _ hH; have ha := rd1 ha H (by kernel_rfl) rfl; simp only [q3, q5, q6, q7] at ha; subst ha; clear H hU hS; go_wp2_with fail; (try refine hQ _ _ ?_); refine ⟨Step.refl _ _, ?_, trivial, nofun⟩; exact (rfl : _ = _)
      case o5_1_10 => cases rd0 ha; clear H hU hS; go_wp2_with fail; (try refine hQ _ _ ?_); refine ⟨Step.refl _ _, ?_, trivial, nofun⟩; exact (rfl : _ = _)
      case o5_1_11 | o5_1_12 => have ha := rd1 ha H (by kernel_rfl) rfl; simp only [q3, q5, q6, q7] at ha; subst ha; clear H hU hS; go_wp2_with fail; (try refine hQ _ _ ?_); refine ⟨Step.refl _ _, ?_, trivial, nofun⟩; exact (rfl : _ = _)
      case o5_1_13 => obtain ⟨t0, t1, t2, m4, m6⟩ := FX.out _ hH; have ha := rd1 ha H (by kernel_rfl) rfl; simp only [q3, q5, q6, q7] at ha; subst ha; clear H hU hS; go_wp2_with fail; (try refine hQ _ _ ?_); refine ⟨Step.refl _ _, ?_, trivial, nofun⟩; exact (rfl : _ = _)
    intro xv w10 hH hS H hU hsz hF hN
    have h0 : xv 0 = _ := H 0 (by decide) (by kernel_rfl); have h1 : xv 1 = _ := H 1 (by decide) (by kernel_rfl); have h2 : xv 2 = _ := H 2 (by decide) (by kernel_rfl); have h3 : xv 3 = _ := H 3 (by decide) (by kernel_rfl); have h4 : xv 4 = _ := H 4 (by decide) (by kernel_rfl); have h5 : xv 5 = _ := H 5 (by decide) (by kernel_rfl); have h6 : xv 6 = _ := H 6 (by decide) (by kernel_rfl); have h7 : xv 7 = _ := H 7 (by decide) (by kernel_rfl); have h8 : xv 8 = _ := H 8 (by decide) (by kernel_rfl); have h9 : xv 9 = _ := H 9 (by decide) (by kernel_rfl); have h10 : xv 10 = _ := H 10 (by decide) (by kernel_rfl); have h11 : xv 11 = _ := H 11 (by decide) (by kernel_rfl); have h12 : xv 12 = _ := H 12 (by decide) (by kernel_rfl); have h13 : xv 13 = _ := H 13 (by decide) (by kernel_rfl)
    simp only [planRunR5, q1, q2, q3, q5, q6, q7, q4, List.drop_succ_cons, List.drop_zero, h0, h1, h2, h3, h4, h5, h6, h7, h8, h9, h10, h11, h12, h13]
    clear H hF hN hS hU h0 h1 h2 h3 h4 h5 h6 h7 h8 h9 h10 h11 h12 h13
    have HRES10 := Lib.hid (hH.keeps HRES9.out)
    have S10 := Lib.hid (S9.out.then hH)
    have OUT10 := Lib.hid (PP9.out.still hH).out
    clear hH
    have r0 := cell_known HRES10.out (i := 0) rfl
    have y0 := free_known HRES10.out 0
    have r1 := cell_known HRES10.out (i := 1) rfl
    have y1 := free_known HRES10.out 1
    have r2 := cell_known HRES10.out (i := 2) rfl
    have y2 := free_known HRES10.out 2
    have r3 := cell_known HRES10.out (i := 3) rfl
    have y3 := free_known HRES10.out 3
    have r4 := cell_known HRES10.out (i := 4) rfl
    have y4 := free_known HRES10.out 4
    have r5 := cell_known HRES10.out (i := 5) rfl
    have y5 := free_known HRES10.out 5
    go_wp2_with fail
    have hk7 := set6_known HRES10.out (.int .i64 rs) (.int .u8 rc) (.int .i64 ry) (.slice oa stt.out.length oc) (.int .i64 stt.steps) (.int .i64 0)
    have S11 := Lib.hid (set6_step S10.out (.inr (show w.heap.size ≤ B + 1 by have := HBB.out; omega)) (.int .i64 rs) (.int .u8 rc) (.int .i64 ry) (.slice oa stt.out.length oc) (.int .i64 stt.steps) (.int .i64 0))
    have S12 := Lib.hid (set6_step (Step.refl (fun b => b = B + 1) w10) (.inl rfl) (.int .i64 rs) (.int .u8 rc) (.int .i64 ry) (.slice oa stt.out.length oc) (.int .i64 stt.steps) (.int .i64 0))
    generalize (((((((w10).setCell ⟨B + 1, 0, none⟩ (.int .i64 rs)).setCell ⟨B + 1, 1, none⟩ (.int .u8 rc)).setCell ⟨B + 1, 2, none⟩ (.int .i64 ry)).setCell ⟨B + 1, 3, none⟩ (.slice oa stt.out.length oc)).setCell ⟨B + 1, 4, none⟩ (.int .i64 stt.steps)).setCell ⟨B + 1, 5, none⟩ (.int .i64 0)) = w11 at *
    obtain ⟨q0', q1', q2', q3', q4', q5'⟩ := cells_known6 hk7
    clear hk7 r0 r1 r2 r3 r4 r5 y0 y1 y2 y3 y4 y5
    simp [bodyPost, results, Try.results14, go_sem, q0', q1', q2', q3', q4', q5']
    rw [HQ.out]
    refine ⟨.slice oa stt.out.length oc, rfl, ?_, S11.out⟩
    have ho := HO8.out
    exact (OUT10.out.same fun b hb hlt => S12.out.block b hlt fun e => by rw [e] at hb; omega).mono fun b hb => (PP9.out.low b (by omega)).1
end Go.Proofs.Ytojfgdoniajmeaa
