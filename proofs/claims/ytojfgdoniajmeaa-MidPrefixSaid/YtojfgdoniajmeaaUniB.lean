/- The laws' guards: a unit that is soon gone through. -/
import Derived.Test.YtojfgdoniajmeaaUniA
import Derived.Deep.Cut
import Derived.WalkLawsBesides
import Derived.WalkSpells
namespace Go.Proofs.Ytojfgdoniajmeaa
set_option linter.unusedVariables false
set_option linter.unusedSimpArgs false
open Go.RowKit
/-- what Few's answer 'true' tells -/
def FewOk (ts : List Tp) (fs : List FFn) : Prop :=
  ts.length ≤ 20 ∧ fs.length ≤ 12 ∧ ∀ f ∈ fs, f.code.length ≤ 200 ∧ f.kinds.length ≤ 100 ∧ f.params.length ≤ 20 ∧ f.slots.length ≤ 8 ∧ ∀ i ∈ f.code, i.args.length ≤ 30 ∧ i.outs.length ≤ 30
section
variable {w0 w w' : World}
set_option maxHeartbeats 4000000 in
set_option maxRecDepth 100000 in
theorem few_any {vt vf : Value} {ts : List Tp} {fs : List FFn} (ht : TopsAt w0 vt ts) (hf : FnsAt w0 vf fs)
    (hw : ∀ b, b < w0.heap.size → w.heap[b]? = w0.heap[b]?) (hz : w0.heap.size ≤ w.heap.size) :
    Calls Try.prog 11 #[.agg #[vt, vf]] w fun e w' => ∃ b, e = .returned (.bool b) ∧ (b = true → FewOk ts fs) ∧ Step (fun _ => False) w w' := by
  obtain ⟨pt, ct, rfl, ht1, ht2, _⟩ := ht
  obtain ⟨pf, cf, rfl, hf1, hf2, hfc⟩ := hf
  have HW := Lib.hid hw
  have HFC := Lib.hid hfc
  clear hw hfc
  have k1 := heap_alloc_new w (.cells #[.slice pt ts.length ct, .slice pf fs.length cf] 25 (0, 0))
  have s1 := Step.alloc (fun _ => False) w (.cells #[.slice pt ts.length ct, .slice pf fs.length cf] 25 (0, 0))
  generalize hB : w.heap.size = B at *
  go_enter Try.func11, Try.ntmps11
  go_upto_region 1 with fail
  generalize w.alloc (.cells #[.slice pt ts.length ct, .slice pf fs.length cf] 25 (0, 0)) = w1 at *
  have K1 := Lib.hid k1
  have S1 := Lib.hid s1
  obtain ⟨u0, u1, _, _⟩ := cells_known2 k1
  clear k1 s1
  cases hb1 : decide (20 < (ts.length : Int)) with
  | true =>
    go_wp2_with fail
    go_ret
    exact ⟨_, rfl, nofun, S1.out⟩
  | false =>
    cases hb2 : decide (12 < (fs.length : Int)) with
    | true =>
      go_wp2_with fail
      go_ret
      exact ⟨_, rfl, nofun, S1.out⟩
    | false =>
      have hts : ts.length ≤ 20 := by have := of_decide_eq_false hb1; omega
      have hfs : fs.length ≤ 12 := by have := of_decide_eq_false hb2; omega
      go_wp2_with fail
      go_loopw [4, 6, 20] (fun _ _ i wr => ∃ k : Nat, k ≤ fs.length ∧ i = .int .i64 k ∧ (∀ j (hj : j < fs.length), j < k → fs[j].code.length ≤ 200 ∧ fs[j].kinds.length ≤ 100 ∧ fs[j].params.length ≤ 20 ∧ fs[j].slots.length ≤ 8 ∧ ∀ i ∈ fs[j].code, i.args.length ≤ 30 ∧ i.outs.length ≤ 30) ∧ wr.heap[B]? = some (.cells #[.slice pt ts.length ct, .slice pf fs.length cf] 25 (0, 0)) ∧ Step (fun _ => False) w wr) (fun _ _ i _ => fs.length - (intOf i).toNat)
      case atStart => exact ⟨0, by omega, rfl, fun j hj h => absurd h (Nat.not_lt_zero _), K1.out, S1.out⟩
      case round =>
        obtain ⟨k, hk, rfl, hall, hkb, hst⟩ := hrel
        have HALL := Lib.hid hall
        have KB := Lib.hid hkb
        have ST := Lib.hid hst
        clear hall hkb hst u0 u1
        by_cases hlt : k < fs.length
        · have hd : decide (k < fs.length) = true := decide_eq_true hlt
          obtain ⟨a, fval, rfl, hfn, hcells⟩ := HFC.out k hlt
          obtain ⟨vp, vk, vs, vc, efv, ⟨⟨pp, pc, rfl, _, _, _⟩, _⟩, ⟨⟨pk, kc, rfl, _, _, _⟩, _⟩, ⟨⟨ps, sc, rfl, _, _, _⟩, _⟩, ⟨pcd, cc, rfl, hcc, hcm, hcl⟩⟩ := hfn
          subst efv
          have HK := Lib.hid (show ∀ P : FFn → Prop, P fs[k] → (∀ j (hj : j < fs.length), j < k → P fs[j]) → ∀ j (hj : j < fs.length), j < k + 1 → P fs[j] from fun P h1 h2 j hj hjk => by
            by_cases e : j = k
            · subst e; exact h1
            · exact h2 j hj (by omega))
          have HCL := Lib.hid hcl
          clear hcl
          generalize fs[k] = f at *
          have ce : ∀ j u, (#[.string f.name, .slice pp f.params.length pc, .slice pk f.kinds.length kc, .slice ps f.slots.length sc, .slice pcd f.code.length cc] : Array Value)[j]? = some u → wr.cell? ((a.add (k * 5)).add j) = some u := fun j u h => by
            have h1 := hcells j u h
            exact (ST.out.cell (by rw [hB]; exact Nat.lt_of_lt_of_le (block_lt h1) hz) fun x => x).trans ((cell_of (HW.out _ (block_lt h1))).trans h1)
          have e0 : wr.cell? (a.add (k * 5)) = some (.string f.name) := by have := ce 0 _ rfl; simpa [Addr.add] using this
          have e1 : wr.cell? ⟨(a.add (k * 5)).block, (a.add (k * 5)).off + 1, none⟩ = some (.slice pp f.params.length pc) := ce 1 _ rfl
          have e2 : wr.cell? ⟨(a.add (k * 5)).block, (a.add (k * 5)).off + 2, none⟩ = some (.slice pk f.kinds.length kc) := ce 2 _ rfl
          have e3 : wr.cell? ⟨(a.add (k * 5)).block, (a.add (k * 5)).off + 3, none⟩ = some (.slice ps f.slots.length sc) := ce 3 _ rfl
          have e4 : wr.cell? ⟨(a.add (k * 5)).block, (a.add (k * 5)).off + 4, none⟩ = some (.slice pcd f.code.length cc) := ce 4 _ rfl
          clear ce hcells
          go_upto_region 6 with fail
          have kb := heap_alloc_new wr (.cells #[.string f.name, .slice pp f.params.length pc, .slice pk f.kinds.length kc, .slice ps f.slots.length sc, .slice pcd f.code.length cc] 46 (0, 0))
          have s4 := Step.alloc (fun _ => False) wr (.cells #[.string f.name, .slice pp f.params.length pc, .slice pk f.kinds.length kc, .slice ps f.slots.length sc, .slice pcd f.code.length cc] 46 (0, 0))
          have KB4 := Lib.hid (s4.keeps KB.out)
          have ST4 := Lib.hid (ST.out.then s4)
          clear e0 e1 e2 e3 e4 s4
          generalize wr.alloc (.cells #[.string f.name, .slice pp f.params.length pc, .slice pk f.kinds.length kc, .slice ps f.slots.length sc, .slice pcd f.code.length cc] 46 (0, 0)) = w4 at *
          obtain ⟨c0, c1, c2, c3, c4, _⟩ := cells_known5 kb
          clear kb
          cases hc0 : decide (200 < (f.code.length : Int)) with
          | true =>
            go_wp2_with fail
            go_ret
            exact ⟨_, rfl, nofun, ST4.out⟩
          | false =>
            cases hc1 : decide (100 < (f.kinds.length : Int)) with
            | true =>
              go_wp2_with fail
              go_ret
              exact ⟨_, rfl, nofun, ST4.out⟩
            | false =>
              cases hc2 : decide (20 < (f.params.length : Int)) with
              | true =>
                go_wp2_with fail
                go_ret
                exact ⟨_, rfl, nofun, ST4.out⟩
              | false =>
                cases hc3 : decide (8 < (f.slots.length : Int)) with
                | true =>
                  go_wp2_with fail
                  go_ret
                  exact ⟨_, rfl, nofun, ST4.out⟩
                | false =>
                  have hl0 : f.code.length ≤ 200 := by have := of_decide_eq_false hc0; omega
                  have hl1 : f.kinds.length ≤ 100 := by have := of_decide_eq_false hc1; omega
                  have hl2 : f.params.length ≤ 20 := by have := of_decide_eq_false hc2; omega
                  have hl3 : f.slots.length ≤ 8 := by have := of_decide_eq_false hc3; omega
                  go_wp2_with fail
                  go_loopw [6, 49] (fun _ i wr => ∃ j : Nat, j ≤ f.code.length ∧ i = .int .i64 j ∧ (∀ q (hq : q < f.code.length), q < j → f.code[q].args.length ≤ 30 ∧ f.code[q].outs.length ≤ 30) ∧ wr.heap[B]? = some (.cells #[.slice pt ts.length ct, .slice (some a) fs.length cf] 25 (0, 0)) ∧ Step (fun _ => False) w wr) (fun _ i _ => f.code.length - (intOf i).toNat)
                  case atStart => exact ⟨0, by omega, rfl, fun j hj h => absurd h (Nat.not_lt_zero _), KB4.out, ST4.out⟩
                  case round =>
                    obtain ⟨j, hj, rfl, hjall, hkb, hst⟩ := hrel
                    have HJ := Lib.hid hjall
                    have KB5 := Lib.hid hkb
                    have ST5 := Lib.hid hst
                    clear hjall hkb hst c0 c1 c2 c3 c4 hc0 hc1 hc2 hc3
                    by_cases hjl : j < f.code.length
                    · have hdj : decide (j < f.code.length) = true := decide_eq_true hjl
                      obtain ⟨b, vi, rfl, hins, hcells⟩ := HCL.out j hjl
                      obtain ⟨va, vo, rfl, ⟨⟨pa, ca, rfl, _, _, _⟩, _⟩, ⟨⟨po, co, rfl, _, _, _⟩, _⟩⟩ := hins
                      have HK2 := Lib.hid (show ∀ P : FIns → Prop, P f.code[j] → (∀ q (hq : q < f.code.length), q < j → P f.code[q]) → ∀ q (hq : q < f.code.length), q < j + 1 → P f.code[q] from fun P h1 h2 q hq hqk => by
                        by_cases e : q = j
                        · subst e; exact h1
                        · exact h2 q hq (by omega))
                      generalize f.code[j] = x at *
                      obtain ⟨op, dst, ra, rb, n, size, name, args, outs, tt⟩ := x
                      simp only at hcells
                      have ce : ∀ i u, (#[.int .i64 op, .int .i64 dst, .int .i64 ra, .int .i64 rb, .int .u64 n, .int .i64 size, .string name, .slice pa args.length ca, .slice po outs.length co, .int .i64 tt] : Array Value)[i]? = some u → wr.cell? ((b.add (j * 10)).add i) = some u := fun i u h => by
                        have h1 := hcells i u h
                        exact (ST5.out.cell (by rw [hB]; exact Nat.lt_of_lt_of_le (block_lt h1) hz) fun x => x).trans ((cell_of (HW.out _ (block_lt h1))).trans h1)
                      have e0 : wr.cell? (b.add (j * 10)) = some (.int .i64 op) := by have := ce 0 _ rfl; simpa [Addr.add] using this
                      have e1 : wr.cell? ⟨(b.add (j * 10)).block, (b.add (j * 10)).off + 1, none⟩ = some (.int .i64 dst) := ce 1 _ rfl
                      have e2 : wr.cell? ⟨(b.add (j * 10)).block, (b.add (j * 10)).off + 2, none⟩ = some (.int .i64 ra) := ce 2 _ rfl
                      have e3 : wr.cell? ⟨(b.add (j * 10)).block, (b.add (j * 10)).off + 3, none⟩ = some (.int .i64 rb) := ce 3 _ rfl
                      have e4 : wr.cell? ⟨(b.add (j * 10)).block, (b.add (j * 10)).off + 4, none⟩ = some (.int .u64 n) := ce 4 _ rfl
                      have e5 : wr.cell? ⟨(b.add (j * 10)).block, (b.add (j * 10)).off + 5, none⟩ = some (.int .i64 size) := ce 5 _ rfl
                      have e6 : wr.cell? ⟨(b.add (j * 10)).block, (b.add (j * 10)).off + 6, none⟩ = some (.string name) := ce 6 _ rfl
                      have e7 : wr.cell? ⟨(b.add (j * 10)).block, (b.add (j * 10)).off + 7, none⟩ = some (.slice pa args.length ca) := ce 7 _ rfl
                      have e8 : wr.cell? ⟨(b.add (j * 10)).block, (b.add (j * 10)).off + 8, none⟩ = some (.slice po outs.length co) := ce 8 _ rfl
                      have e9 : wr.cell? ⟨(b.add (j * 10)).block, (b.add (j * 10)).off + 9, none⟩ = some (.int .i64 tt) := ce 9 _ rfl
                      clear ce hcells
                      go_upto_region 11 with fail
                      have kb := heap_alloc_new wr (.cells #[.int .i64 op, .int .i64 dst, .int .i64 ra, .int .i64 rb, .int .u64 n, .int .i64 size, .string name, .slice pa args.length ca, .slice po outs.length co, .int .i64 tt] 42 (0, 0))
                      have s6 := Step.alloc (fun _ => False) wr (.cells #[.int .i64 op, .int .i64 dst, .int .i64 ra, .int .i64 rb, .int .u64 n, .int .i64 size, .string name, .slice pa args.length ca, .slice po outs.length co, .int .i64 tt] 42 (0, 0))
                      have KB6 := Lib.hid (s6.keeps KB5.out)
                      have ST6 := Lib.hid (ST5.out.then s6)
                      clear e0 e1 e2 e3 e4 e5 e6 e7 e8 e9 s6
                      generalize wr.alloc (.cells #[.int .i64 op, .int .i64 dst, .int .i64 ra, .int .i64 rb, .int .u64 n, .int .i64 size, .string name, .slice pa args.length ca, .slice po outs.length co, .int .i64 tt] 42 (0, 0)) = w6 at *
                      have i7 := cell_known kb (i := 7) rfl
                      have i8 := cell_known kb (i := 8) rfl
                      clear kb
                      cases hd1 : decide (30 < (args.length : Int)) with
                      | true =>
                        go_wp2_with fail
                        go_ret
                        exact .inl ⟨rfl, ST6.out⟩
                      | false =>
                        cases hd2 : decide (30 < (outs.length : Int)) with
                        | true =>
                          go_wp2_with fail
                          go_ret
                          exact .inl ⟨rfl, ST6.out⟩
                        | false =>
                          have hm1 : args.length ≤ 30 := by have := of_decide_eq_false hd1; omega
                          have hm2 : outs.length ≤ 30 := by have := of_decide_eq_false hd2; omega
                          go_wp2_with fail
                          go_roundw
                          case rel => exact ⟨j + 1, by omega, by go_num, HK2.out (fun i => i.args.length ≤ 30 ∧ i.outs.length ≤ 30) ⟨hm1, hm2⟩ HJ.out, KB6.out, ST6.out⟩
                          case measure => simp [intOf]; omega
                    · have hdj : decide (j < f.code.length) = false := decide_eq_false hjl
                      have e : j = f.code.length := by omega
                      go_wp2_with fail
                      go_roundw
                      case rel =>
                        refine ⟨k + 1, by omega, by go_num, HK.out (fun f => f.code.length ≤ 200 ∧ f.kinds.length ≤ 100 ∧ f.params.length ≤ 20 ∧ f.slots.length ≤ 8 ∧ ∀ i ∈ f.code, i.args.length ≤ 30 ∧ i.outs.length ≤ 30) ⟨hl0, hl1, hl2, hl3, fun i hi => ?_⟩ HALL.out, KB5.out, ST5.out⟩
                        obtain ⟨q, hq, rfl⟩ := List.mem_iff_getElem.1 hi
                        exact HJ.out q hq (by omega)
                      case measure => simp [intOf]; omega
        · have hd : decide (k < fs.length) = false := decide_eq_false hlt
          have e : k = fs.length := by omega
          go_wp2_with fail
          go_ret
          exact ⟨_, rfl, fun _ => ⟨hts, hfs, fun f hf => by
            obtain ⟨j, hj, rfl⟩ := List.mem_iff_getElem.1 hf
            exact HALL.out j hj (by omega)⟩, ST.out⟩
end
end Go.Proofs.Ytojfgdoniajmeaa
