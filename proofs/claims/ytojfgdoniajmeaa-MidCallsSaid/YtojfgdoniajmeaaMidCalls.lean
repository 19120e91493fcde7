/- MidCalls returns true for every byte, without conditions. -/
import Derived.Test.YtojfgdoniajmeaaRows
import Derived.Lib.SmallJoins
import Derived.Test.YtojfgdoniajmeaaMPureA
import Derived.Test.YtojfgdoniajmeaaLibF
import Derived.Test.YtojfgdoniajmeaaLibK
import Derived.Test.YtojfgdoniajmeaaMidF
namespace Go.Proofs.Ytojfgdoniajmeaa.midCalls
open Go.ChangeShapes Go.WideShapes Go.ChangeAt Go.RowKit Go.Joins
set_option linter.unusedVariables false
set_option linter.unusedSimpArgs false

theorem own : ownKnob Try.prog.godebug = none := by kernel_rfl

theorem laidOut : laidOutB Try.prog = true := by kernel_rfl
theorem fn_info : (Try.prog.info? 46).map (fun i => (i.zero, i.size, i.bytes)) = some (some (.agg #[.string ⟨#[]⟩, .slice none 0 0, .slice none 0 0, .slice none 0 0, .slice none 0 0]), 5, 112) := by kernel_rfl
/-- functions in a row of two -/
theorem fns_two {w : World} {F : Nat → Prop} {p : Option Addr} {c : Nat} {c1 c2 : Array Value} {f1 f2 : FFn} (hs1 : c1.size = 5) (hs2 : c2.size = 5) (hr : RowAt w F 46 5 (.slice p 2 c) 2 (c1.toList ++ c2.toList)) (h1 : FnAt w (.agg c1) f1) (h2 : FnAt w (.agg c2) f2) : FnsAt w (.slice p 2 c) [f1, f2] := by
  obtain ⟨g, cap, cur, e, hF, hg, hn1, hn2, hsz, htk⟩ := hr.some (by omega)
  cases e
  refine ⟨_, c, rfl, hn1, hn2, fun k hk => ?_⟩
  have ad : ∀ k j : Nat, (((⟨g, 0, none⟩ : Addr).add (k * 5)).add j) = ⟨g, k * 5 + j, none⟩ := fun k j => by
    unfold Addr.add
    by_cases h0 : k * 5 = 0
    · by_cases h9 : j = 0
      · simp [h0, h9]
      · simp [h0, h9]
    · by_cases h9 : j = 0
      · simp [h0, h9]
      · simp [h0, h9]
  have hk2 : k < 2 := by simpa using hk
  rcases (by omega : k = 0 ∨ k = 1) with rfl | rfl
  · refine ⟨_, .agg c1, rfl, h1, fun j u hj => ?_⟩
    have hj : c1[j]? = some u := hj
    have hj5 : j < 5 := by rw [← hs1]; exact (Array.getElem?_eq_some_iff.1 hj).1
    rw [ad]
    exact row_cell hg htk (by rw [List.getElem?_append_left (by rw [Array.length_toList, hs1]; omega), show 0 * 5 + j = j by omega, Array.getElem?_toList]; exact hj)
  · refine ⟨_, .agg c2, rfl, h2, fun j u hj => ?_⟩
    have hj : c2[j]? = some u := hj
    rw [ad]
    exact row_cell hg htk (by rw [List.getElem?_append_right (by rw [Array.length_toList, hs1]; omega), Array.length_toList, hs1, show 1 * 5 + j - 5 = j by omega, Array.getElem?_toList]; exact hj)
set_option maxHeartbeats 4000000 in
set_option maxRecDepth 100000 in
theorem walk (n : Int) (hn0 : 0 ≤ n) (hn9 : n ≤ 255) (w : World) : Calls Try.prog 9 #[.int .u8 n] w fun e w' => e = .returned (.bool true) ∧ Below w.heap.size w w' := by
  go_enter Try.func9, Try.ntmps9
  go_wp2_with fail
  refine (awake_any w).mono ?_
  rintro e w1 ⟨rfl, s0⟩
  have S0 := Lib.hid s0
  clear s0
  obtain ⟨t1, w2, e1, z1, k1, s1⟩ := made0 w1 (.cells #[.int .i64 1, .int .i64 1, .int .i64 1, .int .i64 1] 3 (0, 0))
  obtain ⟨t2, w3, e2, z2, k2, s2⟩ := made0 w2 (.cells #[.int .i64 1, .int .i64 0] 3 (0, 0))
  obtain ⟨t3, w4, e3, z3, k3, s3⟩ := made0 w3 (.cells #[.int .i64 1, .int .i64 0] 3 (0, 0))
  obtain ⟨t4, w5, e4, z4, k4, s4⟩ := made0 w4 (.cells #[.int .i64 19, .int .i64 0, .int .i64 0, .int .i64 0, .int .u64 0, .int .i64 0, .string ⟨#[]⟩, .slice none 0 0, .slice none 0 0, .int .i64 2, .int .i64 17, .int .i64 0, .int .i64 1, .int .i64 0, .int .u64 0, .int .i64 0, .string ⟨#[]⟩, .slice none 0 0, .slice none 0 0, .int .i64 0, .int .i64 3, .int .i64 1, .int .i64 1, .int .i64 0, .int .u64 1, .int .i64 0, .string ⟨#[]⟩, .slice none 0 0, .slice none 0 0, .int .i64 0, .int .i64 1, .int .i64 2, .int .i64 0, .int .i64 0, .int .u64 1, .int .i64 0, .string ⟨#[]⟩, .slice none 0 0, .slice none 0 0, .int .i64 0, .int .i64 3, .int .i64 0, .int .i64 0, .int .i64 2, .int .u64 2, .int .i64 0, .string ⟨#[]⟩, .slice none 0 0, .slice none 0 0, .int .i64 0, .int .i64 16, .int .i64 3, .int .i64 0, .int .i64 0, .int .u64 0, .int .i64 0, .string ⟨#[102]⟩, .slice (some ⟨t3, 0, none⟩) 2 2, .slice none 0 0, .int .i64 0, .int .i64 17, .int .i64 0, .int .i64 3, .int .i64 0, .int .u64 0, .int .i64 0, .string ⟨#[]⟩, .slice none 0 0, .slice none 0 0, .int .i64 0] 42 (0, 0))
  obtain ⟨t5, w6, e5, z5, k5, s5⟩ := made0 w5 (.cells #[.string ⟨#[102]⟩, .slice (some ⟨t2, 0, none⟩) 2 2, .slice (some ⟨t1, 0, none⟩) 4 4, .slice none 0 0, .slice (some ⟨t4, 0, none⟩) 7 7] 46 (0, 0))
  go_upto_region 4 with fail
  obtain ⟨t6, w7, e6, z6, k6, s6⟩ := made0 w6 (.cells #[.int .i64 1, .int .i64 1] 3 (0, 0))
  obtain ⟨t7, w8, e7, z7, k7, s7⟩ := made0 w7 (.cells #[.int .i64 1, .int .i64 0] 3 (0, 0))
  obtain ⟨t8, w9, e8, z8, k8, s8⟩ := made0 w8 (.cells #[.int .i64 1, .int .i64 0, .int .i64 0, .int .i64 0, .int .u64 n, .int .i64 0, .string ⟨#[]⟩, .slice none 0 0, .slice none 0 0, .int .i64 0, .int .i64 16, .int .i64 1, .int .i64 0, .int .i64 0, .int .u64 0, .int .i64 0, .string ⟨#[102]⟩, .slice (some ⟨t7, 0, none⟩) 2 2, .slice none 0 0, .int .i64 0, .int .i64 20, .int .i64 0, .int .i64 1, .int .i64 0, .int .u64 0, .int .i64 0, .string ⟨#[]⟩, .slice none 0 0, .slice none 0 0, .int .i64 0, .int .i64 1, .int .i64 0, .int .i64 0, .int .i64 0, .int .u64 8, .int .i64 0, .string ⟨#[]⟩, .slice none 0 0, .slice none 0 0, .int .i64 0, .int .i64 3, .int .i64 1, .int .i64 1, .int .i64 0, .int .u64 7, .int .i64 0, .string ⟨#[]⟩, .slice none 0 0, .slice none 0 0, .int .i64 0, .int .i64 17, .int .i64 0, .int .i64 1, .int .i64 0, .int .u64 0, .int .i64 0, .string ⟨#[]⟩, .slice none 0 0, .slice none 0 0, .int .i64 0] 42 (0, 0))
  have l3 : t3 ≠ t4 := by have := lt_obj k3; omega
  have l7 : t7 ≠ t8 := by have := lt_obj k7; omega
  have hks := (ints_keep (F := fun _ => False) (q := .i64) (zs := [1, 1, 1, 1]) k1 rfl (fun x => x) rfl (by simp [maxLen]) (by decide)) w9 ((((((s2.then s3).then s4).then s5).then s6).then s7).then s8)
  have hps := (ints_keep (F := fun _ => False) (q := .i64) (zs := [1, 0]) k2 rfl (fun x => x) rfl (by simp [maxLen]) (by decide)) w9 (((((s3.then s4).then s5).then s6).then s7).then s8)
  have hargs := ints_keep (F := fun x => x = t4) (q := .i64) (zs := [1, 0]) (s4.keeps k3) rfl (fun h => l3 h) rfl (by simp [maxLen]) (by decide)
  have hrow : CodeRow w5 _ _ callsC := codeRow_of_block (vis := [insV (insOf 19 0 0 0 0 0 [] [] 2) (.slice none 0 0) (.slice none 0 0), insV (insOf 17 0 1 0 0 0 [] [] 0) (.slice none 0 0) (.slice none 0 0), insV (insOf 3 1 1 0 1 0 [] [] 0) (.slice none 0 0) (.slice none 0 0), insV (insOf 1 2 0 0 1 0 [] [] 0) (.slice none 0 0) (.slice none 0 0), insV (insOf 3 0 0 2 2 0 [] [] 0) (.slice none 0 0) (.slice none 0 0), insV (⟨16, 3, 0, 0, 0, 0, fN, [1, 0], [], 0⟩) (.slice (some ⟨t3, 0, none⟩) 2 2) (.slice none 0 0), insV (insOf 17 0 3 0 0 0 [] [] 0) (.slice none 0 0) (.slice none 0 0)]) k4 ⟨keeps_bare rfl rfl, keeps_bare rfl rfl, keeps_bare rfl rfl, keeps_bare rfl rfl, keeps_bare rfl rfl, fun y hy => ⟨_, _, rfl, hargs y hy, ints_nil _ _⟩, keeps_bare rfl rfl, trivial⟩ (by simp [callsC, maxLen])
  have hcf := codeAt_step hrow.code (((s5.then s6).then s7).then s8)
  have FB := Lib.hid (show FnAt w9 (.agg #[.string ⟨#[102]⟩, .slice (some ⟨t2, 0, none⟩) 2 2, .slice (some ⟨t1, 0, none⟩) 4 4, .slice none 0 0, .slice (some ⟨t4, 0, none⟩) 7 7]) callsF from ⟨_, _, _, _, rfl, hps, hks, ints_nil _ _, hcf⟩)
  have hkm := (ints_keep (F := fun _ => False) (q := .i64) (zs := [1, 1]) k6 rfl (fun x => x) rfl (by simp [maxLen]) (by decide)) w9 (s7.then s8)
  have hargm := ints_keep (F := fun x => x = t8) (q := .i64) (zs := [1, 0]) (s8.keeps k7) rfl (fun h => l7 h) rfl (by simp [maxLen]) (by decide)
  have hrowm : CodeRow w9 _ _ (callsM n) := codeRow_of_block (vis := [insV (insOf 1 0 0 0 n 0 [] [] 0) (.slice none 0 0) (.slice none 0 0), insV (⟨16, 1, 0, 0, 0, 0, fN, [1, 0], [], 0⟩) (.slice (some ⟨t7, 0, none⟩) 2 2) (.slice none 0 0), insV (insOf 20 0 1 0 0 0 [] [] 0) (.slice none 0 0) (.slice none 0 0), insV (insOf 1 0 0 0 8 0 [] [] 0) (.slice none 0 0) (.slice none 0 0), insV (insOf 3 1 1 0 7 0 [] [] 0) (.slice none 0 0) (.slice none 0 0), insV (insOf 17 0 1 0 0 0 [] [] 0) (.slice none 0 0) (.slice none 0 0)]) k8 ⟨keeps_bare rfl rfl, fun y hy => ⟨_, _, rfl, hargm y hy, ints_nil _ _⟩, keeps_bare rfl rfl, keeps_bare rfl rfl, keeps_bare rfl rfl, keeps_bare rfl rfl, trivial⟩ (by simp [callsM, maxLen])
  have FA := Lib.hid (show FnAt w9 (.agg #[.string ⟨#[109, 97, 105, 110]⟩, .slice none 0 0, .slice (some ⟨t6, 0, none⟩) 2 2, .slice none 0 0, .slice (some ⟨t8, 0, none⟩) 6 6]) (aloneM [1, 1] [] (callsM n)) from ⟨_, _, _, _, rfl, ints_nil _ _, hkm, ints_nil _ _, hrowm.code⟩)
  have HKM := Lib.hid hkm
  have HCM := Lib.hid hrowm.code
  have K5 := Lib.hid (((s6.then s7).then s8).keeps k5)
  have S9 := Lib.hid ((((((((S0.out.then s1).then s2).then s3).then s4).then s5).then s6).then s7).then s8)
  clear hks hps hargs hrow hcf hkm hargm hrowm s1 s2 s3 s4 s5 s6 s7 s8 k1 k2 k3 k4 k5 k6 k7 k8 l3 l7
  go_wp2_with fail
  clear e1 e2 e3 e4 e5 e6 e7 e8 z1 z2 z3 z4 z5 z6 z7 z8
  refine (alone_any HKM.out (ints_nil _ _) HCM.out).mono ?_
  rintro e w10 ⟨b, rfl, hb, k10, _, s10⟩
  obtain ⟨B, w11, e11, z11, k11, s11⟩ := made0 w10 (.cells #[.slice none 0 0, .slice (some ⟨b, 0, none⟩) 1 1] 25 (0, 0))
  go_upto_region 5 with fail
  have hlt := lt_obj k10
  have hbB : b ≠ B := by omega
  have hBz : w9.heap.size ≤ B := by have := s10.size; omega
  have K10 := Lib.hid (s11.keeps k10)
  have K11 := Lib.hid k11
  have S11 := Lib.hid (s10.then s11)
  have HBB := Lib.hid (And.intro hb (And.intro hbB hBz))
  clear e11 z11 hlt k10 k11 s10 s11 hb hbB hBz
  obtain ⟨u0, u1, y0, y1⟩ := cells_known2 K11.out
  obtain ⟨f0, f1, f2, f3, f4, _⟩ := cells_known5 (S11.out.keeps K5.out)
  obtain ⟨t12, w12, e12, z12, k12, s12⟩ := made0 w11 (.cells #[.string ⟨#[102]⟩, .slice (some ⟨t2, 0, none⟩) 2 2, .slice (some ⟨t1, 0, none⟩) 4 4, .slice none 0 0, .slice (some ⟨t4, 0, none⟩) 7 7] 46 (0, 0))
  obtain ⟨i0, hi, hz0, hz1, hz2⟩ := info_parts fn_info
  have ROW := Lib.hid (row_of_block (n := 1) (size := 5) (s12.keeps K10.out) rfl (by simp [maxLen]))
  have K12 := Lib.hid k12
  have S12 := Lib.hid s12
  have Z12 := Lib.hid z12
  clear k12 s12
  go_wp2_with (first | (at_builtin; refine wpList_append_row rfl (.tmp 34) (.tmp 36) 23 rfl (fun x => x = b) 46 i0 _ 5 112 Try.underlying23 hi hz0 hz1 hz2 rfl _ _ _ rfl ROW.out ⟨t12, 0, none⟩ 1 1 [.string ⟨#[102]⟩, .slice (some ⟨t2, 0, none⟩) 2 2, .slice (some ⟨t1, 0, none⟩) 4 4, .slice none 0 0, .slice (some ⟨t4, 0, none⟩) 7 7] rfl (by omega) rfl ?c1 ?c2 ?c3 ?c4 ?_))
  case c1 => intro j u hj; exact cell_known K12.out (by rw [← Array.getElem?_toList]; exact hj)
  case c2 => exact ⟨rfl, rfl, rfl, rfl, rfl⟩
  case c3 => simp [maxLen]
  intro g13 cap13 w13 hrow13 hst13 hz13
  have hb0 := HBB.out
  have hltB := lt_obj K11.out
  have k13 := (hst13.block B (Nat.lt_of_lt_of_le hltB S12.out.size) (fun h => hb0.2.1 h.symm)).trans (S12.out.keeps K11.out)
  clear u0 u1 y0 y1 f0 f1 f2 f3 f4 e12 z12
  obtain ⟨u0, u1, y0, y1⟩ := cells_known2 k13
  have hset : (w13.setCell ⟨B, 1, none⟩ (.slice (some ⟨g13, 0, none⟩) 2 cap13)).heap[B]? = some (.cells #[.slice none 0 0, .slice (some ⟨g13, 0, none⟩) 2 cap13] 25 (0, 0)) := by rw [set_known k13]; rfl
  have hz12 : w12.heap.size ≠ B := by have := S12.out.size; omega
  have hrow14 : RowAt (w13.setCell ⟨B, 1, none⟩ (.slice (some ⟨g13, 0, none⟩) 2 cap13)) _ 46 5 (.slice (some ⟨g13, 0, none⟩) 2 cap13) 2 _ := hrow13.same fun x hx _ => set_other _ _ (fun e => by rcases hx with h | h; exact hb0.2.1 (h.symm.trans e); exact hz12 (h.symm.trans e))
  have s14 : Step (fun _ => False) w9 (w13.setCell ⟨B, 1, none⟩ (.slice (some ⟨g13, 0, none⟩) 2 cap13)) := ((S11.out.then S12.out).trans hst13 fun x hx => .inr (by rw [hx]; exact hb0.1)).set (p := ⟨B, 1, none⟩) (.inr hb0.2.2) _
  go_upto_region 6 with fail
  clear u0 u1 y0 y1
  generalize w13.setCell ⟨B, 1, none⟩ (.slice (some ⟨g13, 0, none⟩) 2 cap13) = w14 at *
  have HFN := Lib.hid (fns_two rfl rfl hrow14 (fnAt_step FA.out s14) (fnAt_step FB.out s14))
  have S14 := Lib.hid (S9.out.then s14)
  have HUN := Lib.hid (show UnitOk [] [aloneM [1, 1] [] (callsM n), callsF] from unitOk_of (by simp) (by simp) (by
    have e1 : decide (0 ≤ n) = true := decide_eq_true hn0
    have e2 : decide (n < 18446744073709551616) = true := decide_eq_true (by omega)
    have f1 : insOkB (insOf 1 0 0 0 n 0 [] [] 0) = true := by
      show (true && decide (0 ≤ n) && decide (n < 18446744073709551616) && true && true && true && true) = true
      rw [e1, e2]; rfl
    have f3 : (callsM n).all insOkB = true := by
      unfold callsM
      rw [List.all_cons, f1]; rfl
    have f4 : fnOkB callsF = true := by kernel_rfl
    rw [List.all_cons, List.all_cons, List.all_nil, f4]
    unfold fnOkB
    rw [show (aloneM [1, 1] [] (callsM n)).code = callsM n from rfl, f3]; rfl))
  have RUN := Lib.hid (Run_any (w := w14) (fuel := 3000) (tops_nil w14) HFN.out (ints_nil .u8 w14) HUN.out (by omega))
  rw [calls_run hn0 hn9] at RUN
  obtain ⟨u0, u1, _, _⟩ := cells_known2 hset
  have htl := tri_lo n.toNat
  have hth := tri_hi n.toNat (by omega)
  have htt := tri_two n.toNat
  have hcn : ((n.toNat : Nat) : Int) = n := by omega
  rw [hcn] at htt hth
  generalize tri n.toNat = T at *
  have hT9 : T ≤ 65025 := by omega
  clear hcn hth hset hrow14 hrow13 hst13 hz13 k13 s14 hb0 hltB hz12 HFN HUN FA FB
  go_wp2_with fail
  refine RUN.out.mono ?_
  rintro e w15 ⟨vo, rfl, hrow, s15⟩
  obtain ⟨g, cap, cur, eg, _, hg, _, _, _, htk⟩ := hrow.some (by simp)
  subst eg
  have S15 := Lib.hid (S14.out.then s15)
  unfold resV
  simp only
  have k16 := heap_alloc_new w15 (.cells #[.int .i64 1, .int .u8 (T / 256 % 256), .int .i64 0, .slice (some ⟨g, 0, none⟩) 1 cap, .int .i64 (6 * n + 8), .int .i64 0] 31 (0, 0))
  have s16 := Step.alloc (fun _ => False) w15 (.cells #[.int .i64 1, .int .u8 (T / 256 % 256), .int .i64 0, .slice (some ⟨g, 0, none⟩) 1 cap, .int .i64 (6 * n + 8), .int .i64 0] 31 (0, 0))
  go_upto_region 7 with fail
  generalize w15.alloc (.cells #[.int .i64 1, .int .u8 (T / 256 % 256), .int .i64 0, .slice (some ⟨g, 0, none⟩) 1 cap, .int .i64 (6 * n + 8), .int .i64 0] 31 (0, 0)) = w16 at *
  generalize w15.heap.size = t16 at *
  have hc0 := row_cell (size := 1) (s16.keeps hg) htk (j := 0) (u := .int .u8 (T % 256)) rfl
  have S16 := Lib.hid (S15.out.then s16)
  obtain ⟨c0, c1, c2, c3, c4, c5⟩ := cells_known6 k16
  clear hrow s15 RUN u0 u1 hg htk k16 s16
  have hw1 : wrap64 (n + 1) = n + 1 := Go.IntWalk.wrap64_in _ ⟨by omega, by omega⟩
  have hw2 : wrap64 (n * (n + 1)) = 2 * T := by rw [← htt]; exact Go.IntWalk.wrap64_in _ ⟨by omega, by omega⟩
  have hw3 : (2 * T).tdiv 2 = T := by rw [Int.tdiv_eq_ediv_of_nonneg (by omega)]; omega
  have hw4 : T.tmod 256 = T % 256 := Int.tmod_eq_emod_of_nonneg htl
  have hw5 : (T.tdiv 256).tmod 256 = T / 256 % 256 := by rw [Int.tdiv_eq_ediv_of_nonneg htl]; exact Int.tmod_eq_emod_of_nonneg (by omega)
  clear htt
  go_wp2_with fail
  go_ret
  exact ⟨rfl, S16.out.below (Nat.le_refl _) fun _ x => x.elim⟩

/-! ### The row. -/

set_option maxRecDepth 100000 in
theorem lifted (os : Os) (started : os.Started) (H : Type) (enc : TypeId × Value → H) :
    ReturnsInHanded {} Try.checked os 9 .any (Rows.midCallsSpec.pre6 enc Try.prog Try.f9 Rows.midCallsRow.domain false) (Rows.midCallsSpec.post enc Try.prog Try.f9 false true false false) := by
  refine returnsInHanded_of_change (C := Try.checked) own started (by kernel_rfl) Try.func9
    (ChangeSpec.witness6 (enc := enc) (C := Try.checked) false ⟨#[], #[.int .u8 0], []⟩ 8 (by kernel_rfl) (by kernel_rfl) (by kernel_rfl) (by kernel_rfl)) ?_
  intro W base args ds gs before hval0 hW hcnd _
  have hval : ∀ (j : Nat) t v, Try.f9.params[j]? = some t → args[j]? = some v → Value.okWide Try.prog W .any base t v := hval0
  have hW' := hW
  obtain ⟨p, q, hA0, hV, rfl, hfz, hnd⟩ := hW
  have hA : DataW.TrodAll enc Try.prog W 0 (fun _ => true) true Try.f9.params.toList args.toList ds p := hA0
  rw [Try.params9] at hA hval
  obtain ⟨v0, vs0, d0, ds0, p0, q0, hargs, rfl, rfl, h0, r0⟩ := trodAll_cons hA
  obtain ⟨rfl, rfl, rfl⟩ := trodAll_nil r0
  obtain rfl : args = #[v0] := by cases args; simp_all
  obtain ⟨rfl, rfl⟩ := trodVars_none hV
  obtain ⟨x, rfl, rfl, rfl, hx⟩ := open_int Try.underlying5 (hval 0 5 v0 rfl rfl) h0
  clear hA0 hval0
  simp only [List.append_nil] at hW'
  refine (walk x (wfu8 hx).1 (wfu8 hx).2 W).mono fun e W' ⟨he, hb⟩ => ?_
  subst he
  exact ⟨_, rfl, law_post laidOut (by kernel_rfl) rfl rfl rfl Try.underlying4 hW' hb⟩

theorem over : Rows.midCallsRow.holds Try.pinned (OpenSpec.ofChange Rows.midCallsSpec) :=
  OpenClaim.holds_of_wide 9 Try.f9 rfl rfl rfl rfl rfl rfl rfl ⟨rfl, rfl, rfl, rfl, rfl⟩ rfl rfl rfl rfl rfl (by kernel_rfl) Try.func9 (by kernel_rfl)
    (of_decide_eq_true (by kernel_rfl)) (by unfold Func.isWrapper; first | (rw [if_pos (by decide +kernel)]; kernel_rfl) | (rw [if_neg (by decide +kernel)]; exact ⟨rfl, rfl⟩))
    (fun os started H enc _ => lifted os started H enc)

/-- The statement. -/
theorem proved : Rows.MidCallsSaid :=
  over
#print axioms proved
end Go.Proofs.Ytojfgdoniajmeaa.midCalls
