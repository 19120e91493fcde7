/- Package mid's laws: a unit of one function; the document's example. -/
import Derived.Test.YtojfgdoniajmeaaMRunA
namespace Go.Proofs.Ytojfgdoniajmeaa
set_option linter.unusedVariables false
set_option linter.unusedSimpArgs false
open Go.RowKit

def aloneM (ks sl : List Int) (code : List FIns) : FFn := ⟨mainN, [], ks, sl, code⟩
theorem add_zero_add (b j : Nat) : ((⟨b, 0, none⟩ : Addr).add (0 * 5)).add j = ⟨b, j, none⟩ := by
  unfold Addr.add
  by_cases h0 : j = 0 <;> simp [h0]
def insOkB (i : FIns) : Bool := decide (i.name.size ≤ 100) && decide (0 ≤ i.n) && decide (i.n < 18446744073709551616) && decide (i.args.length ≤ 1000) && decide (i.outs.length ≤ 1000) && decide (0 ≤ i.op) && decide (i.op ≤ 100)
theorem insOk_of {i : FIns} (h : insOkB i = true) : i.name.size ≤ maxLen ∧ is64 i.n ∧ i.args.length ≤ 1000 ∧ i.outs.length ≤ 1000 ∧ (Lit.int .i64 i.op).wf = true := by
  unfold insOkB at h
  simp only [Bool.and_eq_true, decide_eq_true_eq] at h
  refine ⟨by simp only [maxLen]; omega, ⟨by omega, by omega⟩, by omega, by omega, ?_⟩
  simp only [Lit.wf, Bool.and_eq_true, decide_eq_true_eq]
  have e1 : IntKind.i64.min = -9223372036854775808 := rfl
  have e2 : IntKind.i64.max = 9223372036854775807 := rfl
  omega
def fnOkB (f : FFn) : Bool := decide (f.kinds.length ≤ 1000) && decide (f.params.length ≤ 1000) && decide (f.slots.length ≤ 1000) && decide (f.code.length ≤ 100000) && decide (f.name.size ≤ 100) && f.code.all insOkB
theorem unitOk_of {ts : List Tp} {fs : List FFn} (h1 : ts.length ≤ 400) (h2 : fs.length ≤ 400) (h : fs.all fnOkB = true) : UnitOk ts fs := by
  rw [List.all_eq_true] at h
  refine ⟨h1, h2, fun f hf => ?_, fun f hf i hm => ?_⟩
  · have := h f hf
    simp only [fnOkB, Bool.and_eq_true, decide_eq_true_eq] at this
    obtain ⟨⟨⟨⟨⟨a, b⟩, c⟩, d⟩, e⟩, g⟩ := this
    exact ⟨a, b, c, d, by simp only [maxLen]; omega⟩
  · have := h f hf
    simp only [fnOkB, Bool.and_eq_true, List.all_eq_true] at this
    exact insOk_of (this.2 i hm)
section
variable {w w' : World}
theorem tops_nil (w : World) : TopsAt w (.slice none 0 0) [] := ⟨none, 0, rfl, by simp, by simp, fun k hk => absurd hk (Nat.not_lt_zero _)⟩
theorem fns_one {b : Nat} {cur : Array Value} {f : FFn} (h : w.heap[b]? = some (.cells cur 46 (0, 0))) (hf : FnAt w (.agg cur) f) : FnsAt w (.slice (some ⟨b, 0, none⟩) 1 1) [f] :=
  ⟨_, 1, rfl, by simp, by simp [maxLen], fun j hj => by
    have e : j = 0 := by simp at hj; omega
    subst e
    exact ⟨_, .agg cur, rfl, hf, fun j u hj => by rw [add_zero_add]; exact cell_known h hj⟩⟩
--@PLANS
set_option maxHeartbeats 1000000 in
set_option maxRecDepth 100000 in
theorem alone_any {vk vs vc : Value} {ks sl : List Int} {code : List FIns} (hk : IntsAt .i64 w vk ks) (hs : IntsAt .i64 w vs sl) (hc : CodeAt w vc code) :
    Calls Try.prog 17 #[vk, vs, vc] w fun e w' => ∃ b, e = .returned (.agg #[.slice none 0 0, .slice (some ⟨b, 0, none⟩) 1 1]) ∧ w.heap.size ≤ b ∧ w'.heap[b]? = some (.cells #[.string ⟨#[109, 97, 105, 110]⟩, .slice none 0 0, vk, vs, vc] 46 (0, 0)) ∧ FnAt w' (.agg #[.string ⟨#[109, 97, 105, 110]⟩, .slice none 0 0, vk, vs, vc]) (aloneM ks sl code) ∧ Step (fun _ => False) w w' := by
  have HK := Lib.hid hk
  have HS := Lib.hid hs
  have HC := Lib.hid hc
  obtain ⟨⟨pk, ck, rfl, _, _, _⟩, _⟩ := hk
  obtain ⟨⟨ps, cs, rfl, _, _, _⟩, _⟩ := hs
  obtain ⟨pc, cc, rfl, _, _, _⟩ := hc
  generalize hB : w.heap.size = B
  have k1 := heap_alloc_new w (.cells #[.slice none 0 0, .slice none 0 0] 25 (0, 0))
  have s1 := Step.alloc (fun _ => False) w (.cells #[.slice none 0 0, .slice none 0 0] 25 (0, 0))
  generalize hw1 : w.alloc (.cells #[.slice none 0 0, .slice none 0 0] 25 (0, 0)) = w1 at *
  have hz1 : w1.heap.size = B + 1 := by rw [← hw1]; simp [hB]
  have k2 := heap_alloc_new w1 (.cells #[.string ⟨#[109, 97, 105, 110]⟩, .slice none 0 0, .slice pk ks.length ck, .slice ps sl.length cs, .slice pc code.length cc] 46 (0, 0))
  have s2 := Step.alloc (fun _ => False) w1 (.cells #[.string ⟨#[109, 97, 105, 110]⟩, .slice none 0 0, .slice pk ks.length ck, .slice ps sl.length cs, .slice pc code.length cc] 46 (0, 0))
  replace k1 := s2.keeps k1
  replace s2 := s1.then s2
  rw [hz1] at k2
  rw [hB] at k1
  go_enter Try.func17, Try.ntmps17
  go_upto_region 1 with fail
  generalize hw2 : w1.alloc (.cells #[.string ⟨#[109, 97, 105, 110]⟩, .slice none 0 0, .slice pk ks.length ck, .slice ps sl.length cs, .slice pc code.length cc] 46 (0, 0)) = w2 at *
  obtain ⟨g0, g1, y0, y1⟩ := cells_known2 k1
  have hset := set2_known k1 (.slice none 0 0) (.slice (some ⟨B + 1, 0, none⟩) 1 1)
  have sset := ((Step.refl (fun b => b = B) w2).set (p := ⟨B, 0, none⟩) (.inl rfl) (.slice none 0 0)).set (p := ⟨B, 1, none⟩) (.inl rfl) (.slice (some ⟨B + 1, 0, none⟩) 1 1)
  have K2 := Lib.hid k2
  have S2 := Lib.hid s2
  clear k1 k2 s2 s1
  go_wp2_with fail
  generalize (w2.setCell ⟨B, 0, none⟩ (.slice none 0 0)).setCell ⟨B, 1, none⟩ (.slice (some ⟨B + 1, 0, none⟩) 1 1) = w3 at *
  obtain ⟨q0', q1', _, _⟩ := cells_known2 hset
  have K3 := Lib.hid ((sset.block _ (lt_obj K2.out) (by omega)).trans K2.out)
  have S3 := Lib.hid (S2.out.trans sset fun x hx => .inr (by omega))
  clear hset sset g0 g1 y0 y1 hw1 hw2 hz1
  simp [bodyPost, results, Try.results17, go_sem, q0', q1']
  refine ⟨K3.out, ⟨_, _, _, _, rfl, ints_nil _ _, HK.out.step S3.out fun _ x => x.elim, HS.out.step S3.out fun _ x => x.elim, codeAt_step HC.out S3.out⟩, S3.out⟩
/-- the document's example -/
def awakeM : List FIns := [insOf 1 0 0 0 7 0 [] [] 0, insOf 17 0 0 0 0 0 [] [] 0]
theorem awake_runs : runUM [] [aloneM [1] [] awakeM] [] 9 = ⟨1, 7, 0, [], 2⟩ := by kernel_rfl
theorem awake_good : goodUM [] [aloneM [1] [] awakeM] = true := by kernel_rfl
set_option maxHeartbeats 1000000 in
set_option maxRecDepth 100000 in
theorem awake_any (w : World) : Calls Try.prog 10 #[] w fun e w' => e = .returned (.bool true) ∧ Step (fun _ => False) w w' := by
  have k1 := heap_alloc_new w (.cells #[.int .i64 1] 3 (0, 0))
  have s1 := Step.alloc (fun _ => False) w (.cells #[.int .i64 1] 3 (0, 0))
  generalize hw1 : w.alloc (.cells #[.int .i64 1] 3 (0, 0)) = w1 at *
  have hz1 : w1.heap.size = w.heap.size + 1 := by rw [← hw1]; simp
  have k2 := heap_alloc_new w1 (.cells #[.int .i64 1, .int .i64 0, .int .i64 0, .int .i64 0, .int .u64 7, .int .i64 0, .string ⟨#[]⟩, .slice none 0 0, .slice none 0 0, .int .i64 0, .int .i64 17, .int .i64 0, .int .i64 0, .int .i64 0, .int .u64 0, .int .i64 0, .string ⟨#[]⟩, .slice none 0 0, .slice none 0 0, .int .i64 0] 42 (0, 0))
  have s2 := Step.alloc (fun _ => False) w1 (.cells #[.int .i64 1, .int .i64 0, .int .i64 0, .int .i64 0, .int .u64 7, .int .i64 0, .string ⟨#[]⟩, .slice none 0 0, .slice none 0 0, .int .i64 0, .int .i64 17, .int .i64 0, .int .i64 0, .int .i64 0, .int .u64 0, .int .i64 0, .string ⟨#[]⟩, .slice none 0 0, .slice none 0 0, .int .i64 0] 42 (0, 0))
  rw [hz1] at k2
  go_enter Try.func10, Try.ntmps10
  go_wp2_with fail
  replace k1 := s2.keeps k1
  have S2 := Lib.hid (s1.then s2)
  generalize w1.alloc (.cells #[.int .i64 1, .int .i64 0, .int .i64 0, .int .i64 0, .int .u64 7, .int .i64 0, .string ⟨#[]⟩, .slice none 0 0, .slice none 0 0, .int .i64 0, .int .i64 17, .int .i64 0, .int .i64 0, .int .i64 0, .int .u64 0, .int .i64 0, .string ⟨#[]⟩, .slice none 0 0, .slice none 0 0, .int .i64 0] 42 (0, 0)) = w2 at *
  have hk := (ints_keep (F := fun _ => False) (q := .i64) (zs := [1]) k1 rfl (fun x => x) rfl (by simp [maxLen]) (by decide)) w2 (Step.refl _ _)
  have hrow : CodeRow w2 _ _ awakeM := codeRow_of_block (vis := [insV (insOf 1 0 0 0 7 0 [] [] 0) (.slice none 0 0) (.slice none 0 0), insV (insOf 17 0 0 0 0 0 [] [] 0) (.slice none 0 0) (.slice none 0 0)]) k2 ⟨keeps_bare rfl rfl, keeps_bare rfl rfl, trivial⟩ (by simp [awakeM, maxLen])
  refine (alone_any hk (ints_nil _ _) hrow.code).mono ?_
  rintro e w3 ⟨b, rfl, hb, k3, hfn, s3⟩
  have HF := Lib.hid (fns_one k3 hfn)
  have HUN := Lib.hid (show UnitOk [] [aloneM [1] [] awakeM] from unitOk_of (by simp) (by simp) (by kernel_rfl))
  have S3 := Lib.hid (S2.out.then s3)
  clear k1 k2 s1 s2 hk hrow s3 hb k3 hfn hw1 hz1
  have k4 := heap_alloc_new w3 (.cells #[.slice none 0 0, .slice (some ⟨b, 0, none⟩) 1 1] 25 (0, 0))
  have s4 := Step.alloc (fun _ => False) w3 (.cells #[.slice none 0 0, .slice (some ⟨b, 0, none⟩) 1 1] 25 (0, 0))
  go_upto_region 2 with fail
  generalize w3.alloc (.cells #[.slice none 0 0, .slice (some ⟨b, 0, none⟩) 1 1] 25 (0, 0)) = w4 at *
  generalize w3.heap.size = B at *
  have K4 := Lib.hid k4
  have S4 := Lib.hid s4
  clear k4 s4
  have RUN := Lib.hid (Run_any (w := w4) (fuel := 9) (tops_nil w4) (fnsAt_step HF.out S4.out) (ints_nil .u8 w4) HUN.out (by omega))
  rw [awake_runs] at RUN
  obtain ⟨u0, u1, _, _⟩ := cells_known2 K4.out
  go_wp2_with fail
  refine RUN.out.mono ?_
  rintro e w5 ⟨vo, rfl, hrow, s5⟩
  obtain ⟨oa, oc, rfl⟩ := hrow.slice
  have S5 := Lib.hid s5
  clear hrow s5 u0 u1
  unfold resV
  have k6 := heap_alloc_new w5 (.cells #[.int .i64 1, .int .u8 7, .int .i64 0, .slice oa 0 oc, .int .i64 2, .int .i64 0] 31 (0, 0))
  have s6 := Step.alloc (fun _ => False) w5 (.cells #[.int .i64 1, .int .u8 7, .int .i64 0, .slice oa 0 oc, .int .i64 2, .int .i64 0] 31 (0, 0))
  go_upto_region 3 with fail
  generalize w5.alloc (.cells #[.int .i64 1, .int .u8 7, .int .i64 0, .slice oa 0 oc, .int .i64 2, .int .i64 0] 31 (0, 0)) = w6 at *
  have S6 := Lib.hid (S5.out.then s6)
  have K46 := Lib.hid (S6.out.keeps K4.out)
  have K6 := Lib.hid k6
  clear k6 s6
  obtain ⟨u0, u1, _, _⟩ := cells_known2 K46.out
  have GA := Lib.hid (good_any (w0 := w6) (w := w6) (tops_nil w6) (fnsAt_step HF.out (S4.out.then S6.out)) (by simp) (by simp) HUN.out.fnOk (fun _ _ => rfl) (Nat.le_refl _))
  rw [awake_good] at GA
  go_wp2_with fail
  refine GA.out.mono ?_
  rintro e w7 ⟨rfl, s7⟩
  obtain ⟨r0, r1, r2, r3, r4, r5⟩ := cells_known6 (s7.keeps K6.out)
  have S7 := Lib.hid ((S3.out.then (S4.out.then S6.out)).then s7)
  clear s7 u0 u1 GA
  go_wp2_with fail
  go_ret
  exact ⟨rfl, S7.out⟩
end
end Go.Proofs.Ytojfgdoniajmeaa
