/- Package mid: what a function answers. -/
import Derived.Test.YtojfgdoniajmeaaMGooE
namespace Go.Proofs.Ytojfgdoniajmeaa
set_option linter.unusedVariables false
set_option linter.unusedSimpArgs false
open Go.RowKit

theorem ansK_cut {ks : List Int} {l : List FIns} {k : Nat} (h : k < l.length) (kd : Int) : ansK ks (l.drop k) kd = if l[k].op = 17 ∧ 0 ≤ l[k].a then if clash kd (ks.getD l[k].a.toNat 0) then (0, false) else ansK ks (l.drop (k + 1)) (ks.getD l[k].a.toNat 0) else ansK ks (l.drop (k + 1)) kd := by
  rw [List.drop_eq_getElem_cons h, ansK]
section
variable {w0 w w' : World}
set_option maxHeartbeats 4000000 in
set_option maxRecDepth 100000 in
theorem answers_any {v : Value} {f : FFn} (hf : FnAt w0 v f) (hok : FnOk f) (hans : AnsOk f) (hw : ∀ b, b < w0.heap.size → w.heap[b]? = w0.heap[b]?) (hz : w0.heap.size ≤ w.heap.size) :
    Calls Try.prog 30 #[v] w fun e w' => e = .returned (.tuple #[.int .i64 (ansK f.kinds f.code 0).1, .bool (ansK f.kinds f.code 0).2]) ∧ Step (fun _ => False) w w' := by
  obtain ⟨vp, vk, vs, vc, rfl, hpar, hkin, hslo, hcode⟩ := hf
  have hkin := hkin.old hw
  obtain ⟨⟨pp, cp, rfl, _, _, _⟩, _⟩ := hpar
  obtain ⟨pk, ck, rfl, _, _, _⟩ := hkin.ex
  obtain ⟨⟨ps, cs, rfl, _, _, _⟩, _⟩ := hslo
  obtain ⟨pc, cc, rfl, hcc, hcm, hcl⟩ := hcode
  have HW := Lib.hid hw
  have HCL := Lib.hid hcl
  have HANS := Lib.hid hans
  have hfcl := hok.code
  obtain ⟨zz, hzz⟩ : ∃ zz, zz = ansK f.kinds f.code 0 := ⟨_, rfl⟩
  rw [← hzz]
  have k1 := heap_alloc_new w (.cells #[.string f.name, .slice pp f.params.length cp, .slice pk f.kinds.length ck, .slice ps f.slots.length cs, .slice pc f.code.length cc] 46 (0, 0))
  have s1 := Step.alloc (fun _ => False) w (.cells #[.string f.name, .slice pp f.params.length cp, .slice pk f.kinds.length ck, .slice ps f.slots.length cs, .slice pc f.code.length cc] 46 (0, 0))
  go_enter Try.func30, Try.ntmps30
  go_upto_region 1 with fail
  generalize w.alloc (.cells #[.string f.name, .slice pp f.params.length cp, .slice pk f.kinds.length ck, .slice ps f.slots.length cs, .slice pc f.code.length cc] 46 (0, 0)) = w1 at *
  have S1 := Lib.hid s1
  have K1 := Lib.hid (show ∀ y, Step (fun _ => False) w1 y → _ from fun y (hy : Step (fun _ => False) w1 y) => cells_known5 (hy.keeps k1))
  have HKI := Lib.hid (show ∀ y, Step (fun _ => False) w1 y → IntsAt .i64 y (.slice pk f.kinds.length ck) f.kinds from fun y hy => hkin.step (s1.then hy) fun _ h => h.elim)
  have HZ := Lib.hid hzz
  obtain ⟨f0, f1, f2, f3, f4, _⟩ := K1.out w1 (Step.refl _ _)
  clear k1 s1 hw hcl hans hkin hzz
  go_wp2_with fail
  clear f0 f1 f2 f3 f4
  go_loopw [4, 6, 10] (fun s4 _ q wr => ∃ (k : Nat) (kd : Int), k ≤ f.code.length ∧ q = .int .i64 k ∧ s4 = .int .i64 kd ∧ (kd = 0 ∨ kd = 1 ∨ kd = 2) ∧ zz = ansK f.kinds (f.code.drop k) kd ∧ Step (fun _ => False) w1 wr) (fun _ _ q _ => f.code.length - (intOf q).toNat)
  case atStart => exact ⟨0, 0, by omega, rfl, rfl, .inl rfl, HZ.out, Step.refl _ _⟩
  case round =>
  obtain ⟨k, kd, hk, rfl, rfl, hkd, heq, hst⟩ := hrel
  have HKD := Lib.hid hkd
  have HEQ := Lib.hid heq
  have ST := Lib.hid hst
  clear hkd heq hst
  have HS := Lib.hid (S1.out.then ST.out)
  by_cases hlt : k < f.code.length
  · have hd : decide (k < f.code.length) = true := decide_eq_true hlt
    obtain ⟨ac, vi, rfl, hins, hcells⟩ := HCL.out k hlt
    obtain ⟨va, vo, rfl, ⟨⟨pa, ca, rfl, _, _, _⟩, _⟩, ⟨⟨po, co, rfl, _, _, _⟩, _⟩⟩ := hins
    have hcut := HEQ.out.trans (ansK_cut hlt kd)
    have hret := HANS.out.rets f.code[k] (List.getElem_mem hlt)
    generalize f.code[k] = i at *
    obtain ⟨op, dst, a, b, n, size, name, args, outs, tt⟩ := i
    simp only at hcells hcut hret
    have HCUT := Lib.hid hcut
    have HRET := Lib.hid hret
    clear hcut hret
    have ce : ∀ j u, (#[.int .i64 op, .int .i64 dst, .int .i64 a, .int .i64 b, .int .u64 n, .int .i64 size, .string name, .slice pa args.length ca, .slice po outs.length co, .int .i64 tt] : Array Value)[j]? = some u → wr.cell? ((ac.add (k * 10)).add j) = some u := fun j u h => by
      have h1 := hcells j u h
      exact (HS.out.cell (Nat.lt_of_lt_of_le (block_lt h1) hz) fun x => x).trans ((cell_of (HW.out _ (block_lt h1))).trans h1)
    have e0 : wr.cell? (ac.add (k * 10)) = some (.int .i64 op) := by have := ce 0 _ rfl; simpa [Addr.add] using this
    have e1 : wr.cell? ⟨(ac.add (k * 10)).block, (ac.add (k * 10)).off + 1, none⟩ = some (.int .i64 dst) := ce 1 _ rfl
    have e2 : wr.cell? ⟨(ac.add (k * 10)).block, (ac.add (k * 10)).off + 2, none⟩ = some (.int .i64 a) := ce 2 _ rfl
    have e3 : wr.cell? ⟨(ac.add (k * 10)).block, (ac.add (k * 10)).off + 3, none⟩ = some (.int .i64 b) := ce 3 _ rfl
    have e4 : wr.cell? ⟨(ac.add (k * 10)).block, (ac.add (k * 10)).off + 4, none⟩ = some (.int .u64 n) := ce 4 _ rfl
    have e5 : wr.cell? ⟨(ac.add (k * 10)).block, (ac.add (k * 10)).off + 5, none⟩ = some (.int .i64 size) := ce 5 _ rfl
    have e6 : wr.cell? ⟨(ac.add (k * 10)).block, (ac.add (k * 10)).off + 6, none⟩ = some (.string name) := ce 6 _ rfl
    have e7 : wr.cell? ⟨(ac.add (k * 10)).block, (ac.add (k * 10)).off + 7, none⟩ = some (.slice pa args.length ca) := ce 7 _ rfl
    have e8 : wr.cell? ⟨(ac.add (k * 10)).block, (ac.add (k * 10)).off + 8, none⟩ = some (.slice po outs.length co) := ce 8 _ rfl
    have e9 : wr.cell? ⟨(ac.add (k * 10)).block, (ac.add (k * 10)).off + 9, none⟩ = some (.int .i64 tt) := ce 9 _ rfl
    clear ce hcells
    go_upto_region 5 with fail
    clear e0 e1 e2 e3 e4 e5 e6 e7 e8 e9
    have kb := heap_alloc_new wr (.cells #[.int .i64 op, .int .i64 dst, .int .i64 a, .int .i64 b, .int .u64 n, .int .i64 size, .string name, .slice pa args.length ca, .slice po outs.length co, .int .i64 tt] 42 (0, 0))
    have S5 := Lib.hid (Step.alloc (fun _ => False) wr (.cells #[.int .i64 op, .int .i64 dst, .int .i64 a, .int .i64 b, .int .u64 n, .int .i64 size, .string name, .slice pa args.length ca, .slice po outs.length co, .int .i64 tt] 42 (0, 0)))
    generalize wr.alloc (.cells #[.int .i64 op, .int .i64 dst, .int .i64 a, .int .i64 b, .int .u64 n, .int .i64 size, .string name, .slice pa args.length ca, .slice po outs.length co, .int .i64 tt] 42 (0, 0)) = w5 at *
    have b0 := cell_known kb (i := 0) rfl
    have b2 := cell_known kb (i := 2) rfl
    clear kb
    have T5 := Lib.hid (ST.out.then S5.out)
    obtain ⟨f0, f1, f2, f3, f4, _⟩ := K1.out w5 T5.out
    by_cases h17 : op = 17
    · subst h17
      by_cases ha : a < 0
      · have had : decide (a < 0) = true := decide_eq_true ha
        have HN := Lib.hid (show zz = ansK f.kinds (f.code.drop (k + 1)) kd from HCUT.out.trans (if_neg (fun h => by omega)))
        clear HCUT HRET ha
        go_wp2_with fail
        go_roundw
        case rel => exact ⟨k + 1, kd, by omega, by go_num, rfl, HKD.out, HN.out, T5.out⟩
        case measure => simp [intOf]; omega
      · have had : decide (a < 0) = false := decide_eq_false ha
        have hr : 0 ≤ a ∧ a < (f.kinds.length : Int) := by have := HRET.out rfl; omega
        have HN := Lib.hid (show zz = if clash kd (f.kinds.getD a.toNat 0) then (0, false) else ansK f.kinds (f.code.drop (k + 1)) (f.kinds.getD a.toNat 0) from HCUT.out.trans (if_pos ⟨rfl, hr.1⟩))
        obtain ⟨ak, rfl, fk⟩ := ints_facts (HKI.out w5 T5.out) hr.1 hr.2
        have fk := fk w5 (Step.refl _ _)
        have hx := HANS.out.k12 (f.kinds.getD a.toNat 0) (by rw [List.getD_eq_getElem?_getD, List.getElem?_eq_getElem (show a.toNat < f.kinds.length by omega)]; exact List.getElem_mem _)
        generalize f.kinds.getD a.toNat 0 = x at *
        have hor := or3 HKD.out hx
        have HX := Lib.hid hx
        clear HCUT HRET ha hx
        cases hcl : clash kd x with
        | true =>
          have HC := Lib.hid hcl
          rw [hcl] at hor
          have HN2 := Lib.hid (HN.out.trans (if_pos hcl))
          clear HN hcl
          go_wp2_with fail
          go_ret2
          exact ⟨by (rw [HN2.out]; rfl), S1.out.then T5.out⟩
        | false =>
          rw [hcl] at hor
          have HN2 := Lib.hid (HN.out.trans (if_neg (by rw [hcl]; simp)))
          clear HN hcl
          go_wp2_with fail
          go_roundw
          case rel => exact ⟨k + 1, x, by omega, by go_num, rfl, .inr HX.out, HN2.out, T5.out⟩
          case measure => simp [intOf]; omega
    · have e17 : (op != 17) = true := by simpa using h17
      have HN := Lib.hid (show zz = ansK f.kinds (f.code.drop (k + 1)) kd from HCUT.out.trans (if_neg (fun h => h17 h.1)))
      clear HCUT HRET
      go_wp2_with fail
      go_roundw
      case rel => exact ⟨k + 1, kd, by omega, by go_num, rfl, HKD.out, HN.out, T5.out⟩
      case measure => simp [intOf]; omega
  · have hd : decide (k < f.code.length) = false := decide_eq_false hlt
    have e : k = f.code.length := by omega
    subst e
    have h1 := HEQ.out
    rw [List.drop_length] at h1
    have HN := Lib.hid h1
    clear h1 HEQ hlt hk
    go_wp2_with fail
    go_ret2
    exact ⟨by rw [HN.out]; rfl, HS.out⟩
set_option maxHeartbeats 1000000 in
set_option maxRecDepth 100000 in
theorem one_any {v : Value} {f : FFn} (hf : FnAt w0 v f) (hok : FnOk f) (hw : ∀ b, b < w0.heap.size → w.heap[b]? = w0.heap[b]?) (hz : w0.heap.size ≤ w.heap.size) :
    Calls Try.prog 18 #[v] w fun e w' => e = .returned (.tuple #[.int .i64 (oneM f).1, .bool (oneM f).2]) ∧ Step (fun _ => False) w w' := by
  have FA := Lib.hid (show ∀ y, Step (fun _ => False) w y → _ from fun y (hy : Step (fun _ => False) w y) => function_any (w := y) hf hok (fun b hb => (hy.block b (Nat.lt_of_lt_of_le hb hz) fun x => x).trans (hw b hb)) (Nat.le_trans hz hy.size))
  have AA := Lib.hid (show funM f = true → ∀ y, Step (fun _ => False) w y → _ from fun hfm y (hy : Step (fun _ => False) w y) => answers_any (w := y) hf hok (ansOk_of hfm) (fun b hb => (hy.block b (Nat.lt_of_lt_of_le hb hz) fun x => x).trans (hw b hb)) (Nat.le_trans hz hy.size))
  obtain ⟨vp, vk, vs, vc, rfl, ⟨⟨pp, cp, rfl, _, _, _⟩, _⟩, ⟨⟨pk, ck, rfl, _, _, _⟩, _⟩, ⟨⟨ps, cs, rfl, _, _, _⟩, _⟩, ⟨pc, cc, rfl, _, _, _⟩⟩ := hf
  have HR := Lib.hid (show oneM f = if funM f then ansK f.kinds f.code 0 else (0, false) from rfl)
  generalize oneM f = r at *
  generalize ansK f.kinds f.code 0 = r2 at *
  have k1 := heap_alloc_new w (.cells #[.string f.name, .slice pp f.params.length cp, .slice pk f.kinds.length ck, .slice ps f.slots.length cs, .slice pc f.code.length cc] 46 (0, 0))
  have S1 := Lib.hid (Step.alloc (fun _ => False) w (.cells #[.string f.name, .slice pp f.params.length cp, .slice pk f.kinds.length ck, .slice ps f.slots.length cs, .slice pc f.code.length cc] 46 (0, 0)))
  go_enter Try.func18, Try.ntmps18
  go_upto_region 1 with fail
  generalize w.alloc (.cells #[.string f.name, .slice pp f.params.length cp, .slice pk f.kinds.length ck, .slice ps f.slots.length cs, .slice pc f.code.length cc] 46 (0, 0)) = w1 at *
  have K1 := Lib.hid k1
  clear k1
  obtain ⟨f0, f1, f2, f3, f4, _⟩ := cells_known5 K1.out
  cases hfm : funM f with
  | false =>
    have HR2 := Lib.hid (HR.out.trans (if_neg (by rw [hfm]; simp)))
    have FA2 := Lib.hid (FA.out _ S1.out)
    rw [hfm] at FA2
    clear HR AA FA hfm
    go_wp2_with fail
    refine FA2.out.mono ?_
    rintro e w2 ⟨rfl, s2⟩
    have S2 := Lib.hid (S1.out.then s2)
    clear s2 FA2
    go_wp2_with fail
    go_ret2
    exact ⟨by (rw [HR2.out]; rfl), S2.out⟩
  | true =>
    have HR2 := Lib.hid (HR.out.trans (if_pos hfm))
    have FA2 := Lib.hid (FA.out _ S1.out)
    have AA2 := Lib.hid (AA.out hfm)
    rw [hfm] at FA2
    clear HR AA FA hfm
    go_wp2_with fail
    refine FA2.out.mono ?_
    rintro e w2 ⟨rfl, s2⟩
    have S2 := Lib.hid (S1.out.then s2)
    clear FA2 f0 f1 f2 f3 f4
    obtain ⟨f0, f1, f2, f3, f4, _⟩ := cells_known5 (s2.keeps K1.out)
    clear s2
    go_wp2_with fail
    refine (AA2.out _ S2.out).mono ?_
    rintro e w3 ⟨rfl, s3⟩
    have S3 := Lib.hid (S2.out.then s3)
    clear s3 AA2 f0 f1 f2 f3 f4
    go_wp2_with fail
    go_ret2
    exact ⟨by (rw [HR2.out]; rfl), S3.out⟩
end
end Go.Proofs.Ytojfgdoniajmeaa
