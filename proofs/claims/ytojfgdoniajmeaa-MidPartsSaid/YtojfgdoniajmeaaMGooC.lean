/- Package mid: what an Op asks for beside its form. -/
import Derived.Test.YtojfgdoniajmeaaMGooB
import Derived.Deep.DeepCutAuto
namespace Go.Proofs.Ytojfgdoniajmeaa
set_option linter.unusedVariables false
set_option linter.unusedSimpArgs false
open Go.RowKit

/-- a list's parts at two places -/
theorem ints_facts {k : IntKind} {w : World} {p : Option Addr} {l : List Int} {cap : Nat} (h : IntsAt k w (.slice p l.length cap) l) {r : Int} (h0 : 0 ≤ r) (h1 : r < l.length) : ∃ a, p = some a ∧ ∀ y, Step (fun _ => False) w y → y.cell? (a.add r.toNat) = some (.int k (l.getD r.toNat 0)) := by
  obtain ⟨⟨p', cap', e, hcap, hmax, hcell⟩, hwf⟩ := h
  cases e
  obtain ⟨a, ha, hc⟩ := hcell r.toNat (by omega)
  exact ⟨a, ha, fun y hy => (hy.cell (block_lt hc) fun x => x).trans hc⟩
section
variable {w0 w w' : World}
def planEx3 : Plan where
  T := [[], [0], [], [2], [0, 1, 2, 3], [0, 1, 2, 3, 4], [], [6], [], [8], [6, 7, 8, 9], [6, 7, 8, 9, 10], [0, 1, 2, 3, 4, 5, 6, 7, 8, 9, 10, 11], [0, 1, 2, 3, 4, 5, 6, 7, 8, 9, 10, 11, 12]]
  rd := [[], [(0, some 9)], [], [(2, some 11)], [(1, some 10), (3, some 12)], [(4, some 13)], [], [(6, some 15)], [], [(8, some 17)], [(7, some 16), (9, some 18)], [(10, some 19)]]
  all := [(11, some 20), (10, some 19), (9, some 18), (8, some 17), (7, some 16), (6, some 15), (5, some 14), (4, some 13), (3, some 12), (2, some 11), (1, some 10), (0, some 9)]
  calm := [true, true, true, true, true, true, true, true, true, true, true, true]
  hard := []
  fresh := [false, false, false, false, false, false, false, false, false, false, false, false]

set_option maxHeartbeats 4000000 in
set_option maxRecDepth 100000 in
theorem extra_any {f : FFn} {pp pk ps pc pa po : Option Addr} {cp ck cs cc ca co : Nat} {i : FIns} (hk : IntsAt .i64 w (.slice pk f.kinds.length ck) f.kinds) (hkl : f.kinds.length ≤ 1000000) (hsl : f.slots.length ≤ 1000000)
    (h2 : i.op = 2 → (0 ≤ i.dst ∧ i.dst < f.kinds.length) ∧ (0 ≤ i.a ∧ i.a < f.kinds.length)) (h11 : i.op = 11 → 0 ≤ i.dst ∧ i.dst < f.kinds.length) (h12 : i.op = 12 → 0 ≤ i.b ∧ i.b < f.kinds.length) :
    Calls Try.prog 59 #[fnV f.name pp f.params.length cp pk f.kinds.length ck ps f.slots.length cs pc f.code.length cc, .agg #[.int .i64 i.op, .int .i64 i.dst, .int .i64 i.a, .int .i64 i.b, .int .u64 i.n, .int .i64 i.size, .string i.name, .slice pa i.args.length ca, .slice po i.outs.length co, .int .i64 i.to]] w fun e w' => e = .returned (.bool (extraM f i)) ∧ Step (fun _ => False) w w' := by
  obtain ⟨op, dst, ra, rb, n, size, name, args, outs, tt⟩ := i
  simp only at *
  obtain ⟨zz, hzz⟩ : ∃ zz, zz = extraM f ⟨op, dst, ra, rb, n, size, name, args, outs, tt⟩ := ⟨_, rfl⟩
  rw [← hzz]
  have HZ := Lib.hid hzz
  have HK := Lib.hid hk
  have H2 := Lib.hid h2
  have H11 := Lib.hid h11
  have H12 := Lib.hid h12
  clear hzz hk h2 h11 h12
  unfold fnV
  go_enter Try.func59, Try.ntmps59
  go_upto_region 1 with fail
  have k2 := heap_alloc_new w (.cells #[.string f.name, .slice pp f.params.length cp, .slice pk f.kinds.length ck, .slice ps f.slots.length cs, .slice pc f.code.length cc] 46 (0, 0))
  have s2 := Step.alloc (fun _ => False) w (.cells #[.string f.name, .slice pp f.params.length cp, .slice pk f.kinds.length ck, .slice ps f.slots.length cs, .slice pc f.code.length cc] 46 (0, 0))
  generalize hw2 : w.alloc (.cells #[.string f.name, .slice pp f.params.length cp, .slice pk f.kinds.length ck, .slice ps f.slots.length cs, .slice pc f.code.length cc] 46 (0, 0)) = w2 at *
  have hz2 : w2.heap.size = w.heap.size + 1 := by rw [← hw2]; simp
  have k3 := heap_alloc_new w2 (.cells #[.int .i64 op, .int .i64 dst, .int .i64 ra, .int .i64 rb, .int .u64 n, .int .i64 size, .string name, .slice pa args.length ca, .slice po outs.length co, .int .i64 tt] 42 (0, 0))
  have s3 := s2.then (Step.alloc (fun _ => False) w2 (.cells #[.int .i64 op, .int .i64 dst, .int .i64 ra, .int .i64 rb, .int .u64 n, .int .i64 size, .string name, .slice pa args.length ca, .slice po outs.length co, .int .i64 tt] 42 (0, 0)))
  have k2' := (heap_alloc_old w2 (.cells #[.int .i64 op, .int .i64 dst, .int .i64 ra, .int .i64 rb, .int .u64 n, .int .i64 size, .string name, .slice pa args.length ca, .slice po outs.length co, .int .i64 tt] 42 (0, 0)) (lt_obj k2)).trans k2
  rw [hz2] at k3
  have K2 := Lib.hid k2'
  have K3 := Lib.hid k3
  have S3 := Lib.hid s3
  clear hw2 k2 k2' k3 s2 s3 hz2
  generalize w2.alloc (.cells #[.int .i64 op, .int .i64 dst, .int .i64 ra, .int .i64 rb, .int .u64 n, .int .i64 size, .string name, .slice pa args.length ca, .slice po outs.length co, .int .i64 tt] 42 (0, 0)) = w3 at *
  generalize w.heap.size = B2 at *
  have FF := Lib.hid (show ∀ y, Step (fun _ => False) w3 y → _ from fun y (hy : Step (fun _ => False) w3 y) => And.intro (cells_known5 (hy.keeps K2.out)) (hy.keeps K3.out))
  obtain ⟨⟨f0, f1, f2, f3, f4, _⟩, k3⟩ := FF.out _ (Step.refl _ _)
  have i0 := cell_known k3 (i := 0) rfl
  have i1 := cell_known k3 (i := 1) rfl
  have i2 := cell_known k3 (i := 2) rfl
  have i3 := cell_known k3 (i := 3) rfl
  have i4 := cell_known k3 (i := 4) rfl
  have i5 := cell_known k3 (i := 5) rfl
  clear k3
  by_cases e2 : op = 2
  · subst e2
    obtain ⟨⟨d0, d1⟩, ⟨a0, a1⟩⟩ := H2.out rfl
    clear H2 H11 H12
    have hks := HK.out.step S3.out fun _ h => h.elim
    obtain ⟨ak, hak, fd⟩ := ints_facts hks d0 d1
    obtain ⟨ak', hak', fa⟩ := ints_facts hks a0 a1
    subst hak
    cases hak'
    have FD := Lib.hid fd
    have FA := Lib.hid fa
    have HR := Lib.hid (show zz = (f.kinds.getD dst.toNat 0 == f.kinds.getD ra.toNat 0) from by rw [HZ.out]; rfl)
    generalize f.kinds.getD dst.toNat 0 = kd at *
    generalize f.kinds.getD ra.toNat 0 = ka at *
    clear fd fa hks
    go_upto_region 3 with fail
    clear f0 f1 f2 f3 f4 i0 i1 i2 i3 i4 i5
    refine wp_region_each 12 planEx3 (fun _ _ => False) (Step (fun _ => False) w3) (fun _ => True) [Is ?v3_1_0, Is ?v3_1_1, Is ?v3_1_2, Is ?v3_1_3, Is ?v3_1_4, Is ?v3_1_5, Is ?v3_1_6, Is ?v3_1_7, Is ?v3_1_8, Is ?v3_1_9, Is ?v3_1_10, Is ?v3_1_11] [] (by kernel_rfl) (by kernel_rfl) (fun _ _ h => h.elim) ((Step.refl _ _).drew) (trivial) ?stab3_1 ?stabD3_1 ?obl3_1 ?fin3_1
    case stab3_1 => exact fun w w' h => ⟨fun k => k.trans h (fun _ x => x.elim), fun _ => trivial, ⟨fun _ k => k, fun _ k => k, fun _ k => k, fun _ k => k, fun _ k => k, fun _ k => k, fun _ k => k, fun _ k => k, fun _ k => k, fun _ k => k, fun _ k => k, fun _ k => k, trivial⟩, trivial⟩
    case stabD3_1 => exact fun _ _ h => h.elim
    case obl3_1 =>
      refine ⟨?o3_1_0, ?o3_1_1, ?o3_1_2, ?o3_1_3, ?o3_1_4, ?o3_1_5, ?o3_1_6, ?o3_1_7, ?o3_1_8, ?o3_1_9, ?o3_1_10, ?o3_1_11, trivial⟩
      all_goals intro xv wq hH hS H hU aq ha Q' hQ
      case o3_1_0 => cases rd0 ha; clear H hU hS; go_wp2_with fail; (try refine hQ _ _ ?_); refine ⟨Step.refl _ _, ?_, trivial, nofun⟩; exact (rfl : _ = _)
      case o3_1_1 => obtain ⟨⟨f0, f1, f2, f3, f4, _⟩, k3⟩ := FF.out _ hH; have i1 := cell_known k3 (i := 1) rfl; have i2 := cell_known k3 (i := 2) rfl; have fd := FD.out _ hH; have fa := FA.out _ hH; clear k3; have ha := rd1 ha H (by kernel_rfl) rfl; simp only [q3, q5, q6, q7] at ha; subst ha; clear H hU hS; go_wp2_with fail; (try refine hQ _ _ ?_); refine ⟨Step.refl _ _, ?_, trivial, nofun⟩; exact (rfl : _ = _)
      case o3_1_2 => cases rd0 ha; clear H hU hS; go_wp2_with fail; (try refine hQ _ _ ?_); refine ⟨Step.refl _ _, ?_, trivial, nofun⟩; exact (rfl : _ = _)
      case o3_1_3 => obtain ⟨⟨f0, f1, f2, f3, f4, _⟩, k3⟩ := FF.out _ hH; have i1 := cell_known k3 (i := 1) rfl; have i2 := cell_known k3 (i := 2) rfl; have fd := FD.out _ hH; have fa := FA.out _ hH; clear k3; have ha := rd1 ha H (by kernel_rfl) rfl; simp only [q3, q5, q6, q7] at ha; subst ha; clear H hU hS; go_wp2_with fail; (try refine hQ _ _ ?_); refine ⟨Step.refl _ _, ?_, trivial, nofun⟩; exact (rfl : _ = _)
      case o3_1_4 => obtain ⟨⟨f0, f1, f2, f3, f4, _⟩, k3⟩ := FF.out _ hH; have i1 := cell_known k3 (i := 1) rfl; have i2 := cell_known k3 (i := 2) rfl; have fd := FD.out _ hH; have fa := FA.out _ hH; clear k3; have ha := rd2 ha H (by kernel_rfl) (by kernel_rfl) rfl rfl; simp only [q3, q5, q6, q7] at ha; subst ha; clear H hU hS; go_wp2_with fail; (try refine hQ _ _ ?_); refine ⟨Step.refl _ _, ?_, trivial, nofun⟩; exact (rfl : _ = _)
      case o3_1_5 => obtain ⟨⟨f0, f1, f2, f3, f4, _⟩, k3⟩ := FF.out _ hH; have i1 := cell_known k3 (i := 1) rfl; have i2 := cell_known k3 (i := 2) rfl; have fd := FD.out _ hH; have fa := FA.out _ hH; clear k3; have ha := rd1 ha H (by kernel_rfl) rfl; simp only [q3, q5, q6, q7] at ha; subst ha; clear H hU hS; go_wp2_with fail; (try refine hQ _ _ ?_); refine ⟨Step.refl _ _, ?_, trivial, nofun⟩; exact (rfl : _ = _)
      case o3_1_6 => cases rd0 ha; clear H hU hS; go_wp2_with fail; (try refine hQ _ _ ?_); refine ⟨Step.refl _ _, ?_, trivial, nofun⟩; exact (rfl : _ = _)
      case o3_1_7 => obtain ⟨⟨f0, f1, f2, f3, f4, _⟩, k3⟩ := FF.out _ hH; have i1 := cell_known k3 (i := 1) rfl; have i2 := cell_known k3 (i := 2) rfl; have fd := FD.out _ hH; have fa := FA.out _ hH; clear k3; have ha := rd1 ha H (by kernel_rfl) rfl; simp only [q3, q5, q6, q7] at ha; subst ha; clear H hU hS; go_wp2_with fail; (try refine hQ _ _ ?_); refine ⟨Step.refl _ _, ?_, trivial, nofun⟩; exact (rfl : _ = _)
      case o3_1_8 => cases rd0 ha; clear H hU hS; go_wp2_with fail; (try refine hQ _ _ ?_); refine ⟨Step.refl _ _, ?_, trivial, nofun⟩; exact (rfl : _ = _)
      case o3_1_9 => obtain ⟨⟨f0, f1, f2, f3, f4, _⟩, k3⟩ := FF.out _ hH; have i1 := cell_known k3 (i := 1) rfl; have i2 := cell_known k3 (i := 2) rfl; have fd := FD.out _ hH; have fa := FA.out _ hH; clear k3; have ha := rd1 ha H (by kernel_rfl) rfl; simp only [q3, q5, q6, q7] at ha; subst ha; clear H hU hS; go_wp2_with fail; (try refine hQ _ _ ?_); refine ⟨Step.refl _ _, ?_, trivial, nofun⟩; exact (rfl : _ = _)
      case o3_1_10 => obtain ⟨⟨f0, f1, f2, f3, f4, _⟩, k3⟩ := FF.out _ hH; have i1 := cell_known k3 (i := 1) rfl; have i2 := cell_known k3 (i := 2) rfl; have fd := FD.out _ hH; have fa := FA.out _ hH; clear k3; have ha := rd2 ha H (by kernel_rfl) (by kernel_rfl) rfl rfl; simp only [q3, q5, q6, q7] at ha; subst ha; clear H hU hS; go_wp2_with fail; (try refine hQ _ _ ?_); refine ⟨Step.refl _ _, ?_, trivial, nofun⟩; exact (rfl : _ = _)
      case o3_1_11 => obtain ⟨⟨f0, f1, f2, f3, f4, _⟩, k3⟩ := FF.out _ hH; have i1 := cell_known k3 (i := 1) rfl; have i2 := cell_known k3 (i := 2) rfl; have fd := FD.out _ hH; have fa := FA.out _ hH; clear k3; have ha := rd1 ha H (by kernel_rfl) rfl; simp only [q3, q5, q6, q7] at ha; subst ha; clear H hU hS; go_wp2_with fail; (try refine hQ _ _ ?_); refine ⟨Step.refl _ _, ?_, trivial, nofun⟩; exact (rfl : _ = _)
    intro xv w4 hH hS H hU hsz hF hN
    have h0 : xv 0 = _ := H 0 (by decide) (by kernel_rfl); have h1 : xv 1 = _ := H 1 (by decide) (by kernel_rfl); have h2 : xv 2 = _ := H 2 (by decide) (by kernel_rfl); have h3 : xv 3 = _ := H 3 (by decide) (by kernel_rfl); have h4 : xv 4 = _ := H 4 (by decide) (by kernel_rfl); have h5 : xv 5 = _ := H 5 (by decide) (by kernel_rfl); have h6 : xv 6 = _ := H 6 (by decide) (by kernel_rfl); have h7 : xv 7 = _ := H 7 (by decide) (by kernel_rfl); have h8 : xv 8 = _ := H 8 (by decide) (by kernel_rfl); have h9 : xv 9 = _ := H 9 (by decide) (by kernel_rfl); have h10 : xv 10 = _ := H 10 (by decide) (by kernel_rfl); have h11 : xv 11 = _ := H 11 (by decide) (by kernel_rfl)
    simp only [planEx3, q1, q2, q3, q5, q6, q7, q4, List.drop_succ_cons, List.drop_zero, h0, h1, h2, h3, h4, h5, h6, h7, h8, h9, h10, h11]
    clear H hF hN hS hU h0 h1 h2 h3 h4 h5 h6 h7 h8 h9 h10 h11
    have S4 := Lib.hid (S3.out.then hH)
    clear hH
    go_wp2_with fail
    go_ret
    exact ⟨by (rw [HR.out]; try rfl), S4.out⟩
  · have b2 : (op == 2) = false := beq_false_of_ne e2
    clear H2
    by_cases e3 : op = 3
    · subst e3
      clear H11 H12
      have HR := Lib.hid (show zz = (decide (1 ≤ n) && decide (n ≤ 27)) from by rw [HZ.out]; rfl)
      cases hb1 : decide (1 ≤ n) with
      | false =>
        have HB1 := Lib.hid hb1
        go_wp2_with fail
        go_ret
        exact ⟨by rw [HR.out, HB1.out]; rfl, S3.out⟩
      | true =>
        have HB1 := Lib.hid hb1
        cases hb2 : decide (n ≤ 27) with
        | false =>
          have HB2 := Lib.hid hb2
          go_wp2_with fail
          go_ret
          exact ⟨by rw [HR.out, HB1.out, HB2.out]; rfl, S3.out⟩
        | true =>
          have HB2 := Lib.hid hb2
          go_wp2_with fail
          go_ret
          exact ⟨by rw [HR.out, HB1.out, HB2.out]; rfl, S3.out⟩
    · have b3 : (op == 3) = false := beq_false_of_ne e3
      by_cases e7 : op = 7
      · subst e7
        clear H11 H12
        have HR := Lib.hid (show zz = decide (n < (f.slots.length : Int)) from by rw [HZ.out]; rfl)
        go_wp2_with fail
        go_ret
        exact ⟨by (rw [HR.out]; try rfl), S3.out⟩
      · have b7 : (op == 7) = false := beq_false_of_ne e7
        by_cases e13 : op = 13
        · subst e13
          clear H11 H12
          have HR := Lib.hid (show zz = decide (n < (f.slots.length : Int)) from by rw [HZ.out]; rfl)
          go_wp2_with fail
          go_ret
          exact ⟨by (rw [HR.out]; try rfl), S3.out⟩
        · have b13 : (op == 13) = false := beq_false_of_ne e13
          by_cases e9 : op = 9
          · subst e9
            clear H11 H12
            have HR := Lib.hid (show zz = (decide (n < 4194304) && decide (1 ≤ size) && decide (size ≤ 4194304)) from by rw [HZ.out]; rfl)
            cases hb1 : decide (n < 4194304) with
            | false =>
              have HB1 := Lib.hid hb1
              go_wp2_with fail
              go_ret
              exact ⟨by rw [HR.out, HB1.out]; rfl, S3.out⟩
            | true =>
              have HB1 := Lib.hid hb1
              cases hb2 : decide (1 ≤ size) with
              | false =>
                have HB2 := Lib.hid hb2
                go_wp2_with fail
                go_ret
                exact ⟨by rw [HR.out, HB1.out, HB2.out]; rfl, S3.out⟩
              | true =>
                have HB2 := Lib.hid hb2
                cases hb3 : decide (size ≤ 4194304) with
                | false =>
                  have HB3 := Lib.hid hb3
                  go_wp2_with fail
                  go_ret
                  exact ⟨by rw [HR.out, HB1.out, HB2.out, HB3.out]; rfl, S3.out⟩
                | true =>
                  have HB3 := Lib.hid hb3
                  go_wp2_with fail
                  go_ret
                  exact ⟨by rw [HR.out, HB1.out, HB2.out, HB3.out]; rfl, S3.out⟩
          · have b9 : (op == 9) = false := beq_false_of_ne e9
            by_cases e11 : op = 11
            · subst e11
              have HR := Lib.hid (show zz = (f.kinds.getD dst.toNat 0 == 1 || size == 8) from by rw [HZ.out]; rfl)
              obtain ⟨d0, d1⟩ := H11.out rfl
              clear H11 H12
              obtain ⟨ak, rfl, fd⟩ := ints_facts (HK.out.step S3.out fun _ h => h.elim) d0 d1
              have fd := fd _ (Step.refl _ _)
              generalize f.kinds.getD dst.toNat 0 = kd at *
              cases hb1 : (kd == 1) with
              | true =>
                have HB1 := Lib.hid hb1
                go_wp2_with fail
                go_ret
                exact ⟨by rw [HR.out, HB1.out]; rfl, S3.out⟩
              | false =>
                have HB1 := Lib.hid hb1
                go_wp2_with fail
                go_ret
                exact ⟨by rw [HR.out, HB1.out]; rfl, S3.out⟩
            · have b11 : (op == 11) = false := beq_false_of_ne e11
              by_cases e12 : op = 12
              · subst e12
                have HR := Lib.hid (show zz = (f.kinds.getD rb.toNat 0 == 1 || size == 8) from by rw [HZ.out]; rfl)
                obtain ⟨d0, d1⟩ := H12.out rfl
                clear H11 H12
                obtain ⟨ak, rfl, fd⟩ := ints_facts (HK.out.step S3.out fun _ h => h.elim) d0 d1
                have fd := fd _ (Step.refl _ _)
                generalize f.kinds.getD rb.toNat 0 = kd at *
                cases hb1 : (kd == 1) with
                | true =>
                  have HB1 := Lib.hid hb1
                  go_wp2_with fail
                  go_ret
                  exact ⟨by rw [HR.out, HB1.out]; rfl, S3.out⟩
                | false =>
                  have HB1 := Lib.hid hb1
                  go_wp2_with fail
                  go_ret
                  exact ⟨by rw [HR.out, HB1.out]; rfl, S3.out⟩
              · have b12 : (op == 12) = false := beq_false_of_ne e12
                clear H11 H12
                have HR := Lib.hid (show zz = true from by
                  rw [HZ.out]
                  unfold extraM
                  rw [if_neg e2, if_neg e3, if_neg (fun h => h.elim e7 e13), if_neg e9, if_neg e11, if_neg e12])
                go_wp2_with fail
                go_ret
                exact ⟨by (rw [HR.out]; try rfl), S3.out⟩
end
end Go.Proofs.Ytojfgdoniajmeaa
