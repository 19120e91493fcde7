/- Package fat: a unit's run. -/
import Derived.Test.YtpmbakhnamlooaaFatW
namespace Go.Proofs.Ytpmbakhnamlooaa
set_option linter.unusedVariables false
set_option linter.unusedSimpArgs false
open Go.RowKit

section
variable {w0 w w' w1 w2 : World} {pw : Nat} {own own' : Nat → Nat} {fnv : List UInt8 → Option Value} {tops : List UInt8 → Option Int} {st : FSt} {c : Nat} {fns : List UInt8 → Option FFn}

/-- each name's last function stands there -/
def FnvOk (w0 : World) (fs : List FFn) (fv : List UInt8 → Option Value) : Prop := ∀ s, (∀ f, fnOf fs s = some f → ∃ v, fv s = some v ∧ FnAt w0 v f) ∧ (fnOf fs s = none → fv s = none)
/-- the machine's functions are others -/
theorem FParts.fnsNext {fnv' : List UInt8 → Option Value} {bf bt bm bs bb : Nat} {vl vi vo : Value} (P : FParts w0 w pw own fnv tops st c bf bt bm bs bb vl vi vo) (s : Step (fun b => b = bf) w w') (im : SMap Try.prog 9 w' bf (c + 1) fnv') : FParts w0 w' pw own fnv' tops st (c + 1) bf bt bm bs bb vl vi vo ∧ Chg own own w w' := by
  obtain ⟨t1, t2, t3, t4, t5, t7⟩ := P.tag
  have hz := s.size
  have k : ∀ b, b < w.heap.size → own b ≠ 2 → w'.heap[b]? = w.heap[b]? := fun b hb ho => s.block b hb fun e => ho (by rw [e]; exact t2)
  refine ⟨⟨(k pw (lt_obj P.struct) (by omega)).trans P.struct, P.tag, im, (P.tops.same (k _ P.tops.lt (by omega))).le (by omega), (P.mem.same (k _ P.mem.lt (by omega))).le (by omega), (P.shadow.same (k _ P.shadow.lt (by omega))).le (by omega), (P.blocks.same (k _ P.blocks.lt (by omega))).le (by omega),
    P.locks.same fun b hb hlt => k b hlt (by omega), P.out.same fun b hb hlt => k b hlt (by omega), P.input, fun b hb => by have := P.low b hb; omega, P.step.trans s fun b hb => .inl (by have := P.low bf (by omega); omega), by have := P.lens; omega⟩, s.mono fun b _ e => by rw [e, t2]; decide, fun _ _ => rfl⟩
/-- how a run ends: its state -/
def runS : Res → FSt
  | .ret st _ => st
  | .stop st _ _ => st
/-- how a run ends: how it stops, by which code -/
def runE : Res → Int × Int
  | .ret _ v => (1, (v ++ [0]).getD 0 0 % 256)
  | .stop _ s code => (s, code)
def planRun5 : Plan where
  T := [[], [0], [0, 1], [0, 1, 2], [], [4], [], [0, 1, 2, 3, 4, 5, 6]]
  rd := [[], [(0, some 16)], [(1, some 17)], [(2, some 18)], [], [(4, some 20)], []]
  all := [(6, some 22), (5, some 21), (4, some 20), (3, some 19), (2, some 18), (1, some 17), (0, some 16)]
  calm := [true, true, true, true, true, true, true]
  hard := []
  fresh := [false, false, false, false, false, false, false]

set_option maxHeartbeats 4000000 in
set_option maxRecDepth 100000 in
theorem run_any {vt vf : Value} {fs : List FFn} (hf : FnsAt w0 vf fs) (hlen : fs.length ≤ 1000) (hnm : ∀ f ∈ fs, f.name.size ≤ maxLen) (hc : c ≤ 100000) (hG : ∀ s g, fnOf fs s = some g → GoodFn (fnOf fs) g) {gm : FFn} (hM : fnOf fs [109, 97, 105, 110] = some gm) (hP0 : gm.params = []) (hS : SInv tops st 2) (hco : (c : Int) + fs.length + 12 ≤ 1000 + 20 * st.steps) {N : Nat} (hN : (st.fuel - st.steps).toNat ≤ N) (hW : FWAt w0 w pw own (fun _ => none) tops st c) :
    Calls Try.prog 27 #[.pointer (some ⟨pw, 0, none⟩), .agg #[vt, vf]] w fun e w' => ∃ r, r = callF (fnOf fs) tops N st gm [] ∧ e = .returned (.agg #[.int .i64 (runE r).1, .int .u8 (runE r).2]) ∧ ∃ own' fv c', Chg own own' w w' ∧ FWAt w0 w' pw own' fv tops (runS r) c' := by
  have hmf : ∀ (fn : Fn) (first cap : Array Value) (w : World), (Instr.makeFunc fn first cap).run Try.prog w = .ok (.func fn first cap) w := fun _ _ _ _ => rfl
  obtain ⟨pf, fcap, rfl, hf1, hf2, hfc⟩ := hf
  have HW := Lib.hid hW
  have HFC := Lib.hid hfc
  have HG := Lib.hid hG
  have HM := Lib.hid hM
  have HP0 := Lib.hid hP0
  have HS := Lib.hid hS
  have HCO := Lib.hid hco
  have HN := Lib.hid hN
  clear hW hfc hf2 hG hM hP0 hS hco hN
  go_enter_defers Try.func27, Try.ntmps27
  have sa := (Step.alloc (fun _ => False) w (.cells #[vt, .slice pf fs.length fcap] 25 (0, 0))).then (Step.alloc (fun _ => False) _ (.cells #[.int .i64 0, .int .u8 0] 74 (0, 0)))
  have kr := heap_alloc_new (w.alloc (.cells #[vt, .slice pf fs.length fcap] 25 (0, 0))) (.cells #[.int .i64 0, .int .u8 0] 74 (0, 0))
  go_wp2_with fail
  have SA := Lib.hid sa
  have KR := Lib.hid kr
  clear sa kr
  generalize (w.alloc (.cells #[vt, .slice pf fs.length fcap] 25 (0, 0))).alloc (.cells #[.int .i64 0, .int .u8 0] 74 (0, 0)) = w1 at *
  have hfl : fs.length ≤ 1000 := hlen
  go_loopw [6, 12] (fun _ i wr => ∃ (k : Nat) (fv : List UInt8 → Option Value), k ≤ fs.length ∧ i = .int .i64 k ∧ FnvOk w0 (fs.take k) fv ∧ Chg own own w1 wr ∧ FWAt w0 wr pw own fv tops st (c + k)) (fun _ i _ => fs.length - (intOf i).toNat)
  case atStart => exact ⟨0, _, by omega, rfl, fun s => ⟨fun f h => by simp [fnOf] at h, fun _ => rfl⟩, Chg.refl _ _, HW.out.still SA.out⟩
  case round =>
    obtain ⟨k, fv, hk, rfl, hfv, hch, hat⟩ := hrel
    have HFV := Lib.hid hfv
    have HCH := Lib.hid hch
    have HAT := Lib.hid hat
    clear hfv hch hat
    by_cases hlt : k < fs.length
    · have hd : decide (k < fs.length) = true := decide_eq_true hlt
      obtain ⟨a, fval, epf, hfn, hcells⟩ := HFC.out k hlt
      subst epf
      have HFN := Lib.hid hfn
      obtain ⟨vp, vk, vs, vc, efv, ⟨⟨pp, pc, rfl, _, _, _⟩, _⟩, ⟨⟨pk, kc, rfl, _, _, _⟩, _⟩, ⟨⟨ps, sc, rfl, _, _, _⟩, _⟩, ⟨pcd, cc, rfl, _, _, _⟩⟩ := hfn
      subst efv
      generalize hge : fs[k] = f at *
      have ce : ∀ j u, (#[.string f.name, .slice pp f.params.length pc, .slice pk f.kinds.length kc, .slice ps f.slots.length sc, .slice pcd f.code.length cc] : Array Value)[j]? = some u → wr.cell? ((a.add (k * 5)).add j) = some u := fun j u h => by
        have h1 := hcells j u h
        rw [HAT.out.cell_old (block_lt h1)]; exact h1
      have e0 : wr.cell? (a.add (k * 5)) = some (.string f.name) := by have := ce 0 _ rfl; simpa [Addr.add] using this
      have e1 : wr.cell? ⟨(a.add (k * 5)).block, (a.add (k * 5)).off + 1, none⟩ = some (.slice pp f.params.length pc) := ce 1 _ rfl
      have e2 : wr.cell? ⟨(a.add (k * 5)).block, (a.add (k * 5)).off + 2, none⟩ = some (.slice pk f.kinds.length kc) := ce 2 _ rfl
      have e3 : wr.cell? ⟨(a.add (k * 5)).block, (a.add (k * 5)).off + 3, none⟩ = some (.slice ps f.slots.length sc) := ce 3 _ rfl
      have e4 : wr.cell? ⟨(a.add (k * 5)).block, (a.add (k * 5)).off + 4, none⟩ = some (.slice pcd f.code.length cc) := ce 4 _ rfl
      have HGE := Lib.hid hge
      clear ce hcells hge
      go_upto_region 5 with fail
      have kb := heap_alloc_new wr (.cells #[.string f.name, .slice pp f.params.length pc, .slice pk f.kinds.length kc, .slice ps f.slots.length sc, .slice pcd f.code.length cc] 54 (0, 0))
      have S2 := Lib.hid (Step.alloc (fun _ => False) wr (.cells #[.string f.name, .slice pp f.params.length pc, .slice pk f.kinds.length kc, .slice ps f.slots.length sc, .slice pcd f.code.length cc] 54 (0, 0)))
      generalize wr.alloc (.cells #[.string f.name, .slice pp f.params.length pc, .slice pk f.kinds.length kc, .slice ps f.slots.length sc, .slice pcd f.code.length cc] 54 (0, 0)) = w2 at kb S2 ⊢
      generalize wr.heap.size = tb at kb ⊢
      have KB := Lib.hid kb
      obtain ⟨bf, bt, bm, bs, bb, ul, ui, uo, P⟩ := (HAT.out.still S2.out)
      have FX := Lib.hid (show ∀ y, Step (fun _ => False) w2 y → y.cell? ⟨pw, 0, none⟩ = some (.map (some bf)) from fun y hy => cell_known (hy.keeps P.struct) rfl)
      have HP := Lib.hid P
      clear kb P e0 e1 e2 e3 e4
      refine wp_region_each 7 planRun5 (fun _ _ => False) (Step (fun _ => False) w2) (fun _ => True) [Is ?v5_1_0, Is ?v5_1_1, Is ?v5_1_2, Is ?v5_1_3, Is ?v5_1_4, Is ?v5_1_5, Is ?v5_1_6] [] (by kernel_rfl) (by kernel_rfl) (fun _ _ h => h.elim) ((Step.refl _ _).drew) (trivial) ?stab5_1 ?stabD5_1 ?obl5_1 ?fin5_1
      case stab5_1 => exact fun w w' h => ⟨fun k => k.trans h (fun _ x => x.elim), fun _ => trivial, ⟨fun _ k => k, fun _ k => k, fun _ k => k, fun _ k => k, fun _ k => k, fun _ k => k, fun _ k => k, trivial⟩, trivial⟩
      case stabD5_1 => exact fun _ _ h => h.elim
      case obl5_1 =>
        refine ⟨?o5_1_0, ?o5_1_1, ?o5_1_2, ?o5_1_3, ?o5_1_4, ?o5_1_5, ?o5_1_6, trivial⟩
        all_goals intro xv wq hH hS H hU aq ha Q' hQ
        case o5_1_0 => cases rd0 ha; clear H hU hS; go_wp2_with fail; (try refine hQ _ _ ?_); refine ⟨Step.refl _ _, ?_, trivial, nofun⟩; exact (rfl : _ = _)
        case o5_1_1 | o5_1_2 => have ha := rd1 ha H (by kernel_rfl) rfl; simp only [q3, q5, q6, q7] at ha; subst ha; clear H hU hS; go_wp2_with fail; (try refine hQ _ _ ?_); refine ⟨Step.refl _ _, ?_, trivial, nofun⟩; exact (rfl : _ = _)
        case o5_1_3 => obtain ⟨g0, g1, g2, g3, g4, _⟩ := cells_known5 (hH.keeps KB.out); have m0 := FX.out _ hH; have ha := rd1 ha H (by kernel_rfl) rfl; simp only [q3, q5, q6, q7] at ha; subst ha; clear H hU hS; go_wp2_with fail; (try refine hQ _ _ ?_); refine ⟨Step.refl _ _, ?_, trivial, nofun⟩; exact (rfl : _ = _)
        case o5_1_4 => cases rd0 ha; clear H hU hS; go_wp2_with fail; (try refine hQ _ _ ?_); refine ⟨Step.refl _ _, ?_, trivial, nofun⟩; exact (rfl : _ = _)
        case o5_1_5 => obtain ⟨g0, g1, g2, g3, g4, _⟩ := cells_known5 (hH.keeps KB.out); have m0 := FX.out _ hH; have ha := rd1 ha H (by kernel_rfl) rfl; simp only [q3, q5, q6, q7] at ha; subst ha; clear H hU hS; go_wp2_with fail; (try refine hQ _ _ ?_); refine ⟨Step.refl _ _, ?_, trivial, nofun⟩; exact (rfl : _ = _)
        case o5_1_6 => obtain ⟨g0, g1, g2, g3, g4, _⟩ := cells_known5 (hH.keeps KB.out); have m0 := FX.out _ hH; cases rd0 ha; clear H hU hS; go_wp2_with fail; (try refine hQ _ _ ?_); refine ⟨Step.refl _ _, ?_, trivial, nofun⟩; exact (rfl : _ = _)
      intro xv w3 hH hS H hU hsz hF hN
      have h0 : xv 0 = _ := H 0 (by decide) (by kernel_rfl); have h1 : xv 1 = _ := H 1 (by decide) (by kernel_rfl); have h2 : xv 2 = _ := H 2 (by decide) (by kernel_rfl); have h3 : xv 3 = _ := H 3 (by decide) (by kernel_rfl); have h4 : xv 4 = _ := H 4 (by decide) (by kernel_rfl); have h5 : xv 5 = _ := H 5 (by decide) (by kernel_rfl); have h6 : xv 6 = _ := H 6 (by decide) (by kernel_rfl)
      simp only [planRun5, q1, q2, q3, q5, q6, q7, q4, List.drop_succ_cons, List.drop_zero, h0, h1, h2, h3, h4, h5, h6]
      clear H hF hN hS hU h0 h1 h2 h3 h4 h5 h6
      have m0 := FX.out _ hH
      have hmax : c + k < maxLen := by simp only [maxLen]; omega
      have hns : f.name.size ≤ maxLen := hnm f (by rw [← HGE.out]; exact List.getElem_mem _)
      obtain ⟨w5, run, im, gr, sz⟩ := (HP.out.fns.same (hH.block _ HP.out.fns.lt fun x => x)).update (t := 57) (e := 54) Try.underlying9 Try.underlying57 hmax (s := f.name) hns (.agg #[.string f.name, .slice pp f.params.length pc, .slice pk f.kinds.length kc, .slice ps f.slots.length sc, .slice pcd f.code.length cc])
      have IM := Lib.hid im
      have GR := Lib.hid gr
      have HH := Lib.hid hH
      clear im gr sz hH hns
      go_wp2_with fail
      go_roundw
      case rel =>
        have s5 : Step (fun b => b = bf) w2 w5 := (HH.out.mono fun _ _ x => x.elim).trans (Step.of_grown GR.out) fun _ x => .inl x
        obtain ⟨P5, ch5⟩ := HP.out.fnsNext s5 IM.out
        refine ⟨k + 1, _, by omega, by go_num, ?_, (HCH.out.trans (Chg.calm own S2.out)).trans ch5, ⟨_, _, _, _, _, _, _, _, P5⟩⟩
        intro s
        have et : fs.take (k + 1) = fs.take k ++ [f] := by rw [List.take_succ_eq_append_getElem hlt, HGE.out]
        rw [et]
        unfold fnOf
        rw [List.reverse_append, List.reverse_singleton, List.singleton_append, List.find?_cons]
        by_cases e : f.name.data.toList = s
        · have eb : (f.name.data.toList == s) = true := beq_iff_eq.2 e
          rw [eb]
          simp only
          refine ⟨fun f' h => ?_, fun h => by cases h⟩
          cases h
          exact ⟨_, by rw [if_pos e.symm], HFN.out⟩
        · have eb : (f.name.data.toList == s) = false := beq_false_of_ne e
          rw [eb]
          simp only
          rw [if_neg (fun h => e h.symm)]
          exact HFV.out s
      case measure => simp [intOf]; omega
    · have hd : decide (k < fs.length) = false := decide_eq_false hlt
      have ek : k = fs.length := by omega
      subst ek
      have hfv := HFV.out
      rw [List.take_length] at hfv
      have hE : UEnv w0 fv (fnOf fs) := fun s f h => by
        obtain ⟨v, h1, h2⟩ := (hfv s).1 f h
        exact ⟨v, h1, h2, HG.out s f h⟩
      obtain ⟨mv, hmv, hma, hmg⟩ := hE _ _ HM.out
      obtain ⟨bf, fnf⟩ := fn_facts (nm := ⟨#[109, 97, 105, 110]⟩) HAT.out (by decide) hmv
      have FN := Lib.hid (fnf wr (Step.refl _ _))
      have CA := Lib.hid (callC_all (pw := pw) (tops := tops) hE N wr own st (c + fs.length) gm mv [] (.slice none 0 0) (fun _ => False) HAT.out HS.out (by have := HCO.out; omega) hma hmg (by rw [HP0.out]) (by simp) (rowAt_nil _ _ _ _) (fun _ h => h.elim) HN.out)
      obtain ⟨m0, lk⟩ := FN.out
      have LK := Lib.hid lk
      clear hfv hE hmv hma hmg fnf hlt
      go_wp2_with fail
      refine CA.out.mono ?_
      rintro e w' hpost
      cases hr : callF (fnOf fs) tops N st gm [] with
      | ret st' v =>
        rw [hr] at hpost
        obtain ⟨vo, rfl, own', c', hch, hat, hcb, hrow⟩ := hpost
        have HR := Lib.hid hr
        have HCH2 := Lib.hid ((HCH.out.trans hch))
        have HAT2 := Lib.hid hat
        have HROW := Lib.hid hrow
        have HVL := Lib.hid (show v.length ≤ 1000 from by
          obtain ⟨j, hj, _, hjl⟩ := callF_ret hr
          rw [hjl]; exact ((HG.out _ _ HM.out).ins j hj).2.2.2.1)
        clear hr hch hat hrow hcb m0 lk
        obtain ⟨ra, rcap, er⟩ := HROW.out.slice
        obtain ⟨i0, hi, hz0, hz1, hz2⟩ := info_parts u64_info
        subst er
        go_wp2_with (first | (at_builtin; refine wpList_append_row rfl (.tmp 30) (.tmp 31) 44 rfl (fun b => wr.heap.size ≤ b ∧ own' b = 0) 38 i0 _ 1 8 Try.underlying44 hi hz0 hz1 hz2 rfl _ _ _ rfl (HROW.out.al _) ⟨w'.heap.size, 0, none⟩ 1 1 [.int .u64 0] rfl (by omega) rfl ?c1 ?c2 ?c3 ?c4 ?_))
        case c1 => exact new_cells rfl [_] _
        case c2 => exact fun u hu => by rw [List.mem_singleton.1 hu]; rfl
        case c3 => simp only [maxLen]; have := HVL.out; omega
        case c4 => have := HVL.out; omega
        intro g3 cap3 w3 hrow3 hst3 hz3
        have em : List.map (Value.int .u64) v ++ [Value.int .u64 0] = (v ++ [0]).map (Value.int .u64) := by rw [List.map_append]; rfl
        have hr3 := hrow3
        rw [em] at hr3
        obtain ⟨g3', cap3', cur3, e3, hF3, hg3, _, _, _, htk3⟩ := hr3.some (by omega)
        have eg : g3' = g3 := by simp only [Value.slice.injEq, Option.some.injEq, Addr.mk.injEq, true_and, and_true] at e3; exact e3.1.symm
        subst eg
        have hx0 : w3.cell? ⟨g3', 0, none⟩ = some (.int .u64 ((v ++ [0]).getD 0 0)) := row_cell (j := 0) hg3 htk3 (by
          cases v <;> rfl)
        have S3 := Lib.hid ((Step.alloc (fun b => wr.heap.size ≤ b ∧ own' b = 0) w' (.cells #[.int .u64 0] 38 (0, 0))).trans hst3 fun _ x => .inl x)
        clear hrow3 hst3 hr3 hg3 htk3 e3 em
        have hz1 := SA.out.size
        have hz2' := HCH.out.step.size
        have hp0 : own (w.heap.size + 1) = 0 := by
          by_cases h : own (w.heap.size + 1) = 0
          · exact h
          · have := (HW.out.low _ h).2; omega
        have kr1 : w1.heap[w.heap.size + 1]? = some (.cells #[.int .i64 0, .int .u8 0] 74 (0, 0)) := by have := KR.out; simpa using this
        have hlt1 := lt_obj kr1
        have kr2 := HCH2.out.keeps kr1 hp0
        have kr3 := (S3.out.block _ (lt_obj kr2) (fun e => by omega)).trans kr2
        obtain ⟨k0, k1, k2, k3⟩ := cells_known2 kr3
        have HST := Lib.hid (show own' (w.heap.size + 1) = 0 from HCH2.out.stays0 kr1 hp0)
        have HKR := Lib.hid kr3
        have HALL := Lib.hid ((Chg.calm own SA.out).trans HCH2.out)
        have HWS := Lib.hid (show w0.heap.size ≤ w.heap.size from by
          obtain ⟨_, _, _, _, _, _, _, _, P⟩ := HW.out
          exact P.step.size)
        have HZ := Lib.hid (show w.heap.size ≤ wr.heap.size from by omega)
        have AT3 := Lib.hid (show FWAt w0 w3 pw own' fv tops st' c' from HAT2.out.off (fun b _ hlt e => by
          by_cases hb : wr.heap.size ≤ b ∧ own' b = 0
          · have := HWS.out; have := HZ.out; omega
          · exact absurd (S3.out.block b hlt hb) e) (S3.out.mono fun b _ e => e.2))
        clear kr1 kr2 kr3 hp0 hlt1 hz1 hz2' hF3
        have HX := Lib.hid (show runE (callF (fnOf fs) tops N st gm []) = (1, (v ++ [0]).getD 0 0 % 256) from by rw [HR.out]; rfl)
        generalize (v ++ [0]).getD 0 0 = x0 at *
        go_wp2_with fail
        change Leaves _ _ _ _ _ _ _
        refine leaves_cons (f := 40) (args := #[.pointer (some ⟨w.heap.size + 1, 0, none⟩)]) (by simp) (by simp [go_sem]) ?_
        have SX := Lib.hid (((Step.refl (fun b => b = w.heap.size + 1) w3).set (p := ⟨w.heap.size + 1, 0, none⟩) (.inl rfl) (.int .i64 1)).set (p := ⟨w.heap.size + 1, 1, none⟩) (.inl rfl) (.int .u8 (x0 % 256)))
        have HY := Lib.hid (set2_known HKR.out (.int .i64 1) (.int .u8 (x0 % 256)))
        generalize (w3.setCell ⟨w.heap.size + 1, 0, none⟩ (.int .i64 1)).setCell ⟨w.heap.size + 1, 1, none⟩ (.int .u8 (x0 % 256)) = w4 at *
        refine (catch_idle _ w4).mono ?_
        rintro e u' w2 ⟨rfl, rfl, rfl⟩
        have SX2 := Lib.hid (SX.out.al (.cells #[.int .i64 0, .int .u8 0] 74 (0, 0)))
        obtain ⟨y0, y1, _, _⟩ := cells_known2 ((heap_alloc_old w4 (.cells #[.int .i64 0, .int .u8 0] 74 (0, 0)) (lt_obj HY.out)).trans HY.out)
        generalize w4.alloc (.cells #[.int .i64 0, .int .u8 0] 74 (0, 0)) = w2 at *
        simp [Leaves, settle, results, Try.results27, go_sem, y0, y1]
        have hws := HWS.out
        have hz := HZ.out
        rw [HX.out, HR.out]
        exact ⟨⟨rfl, rfl⟩, own', ⟨(HALL.out.step.trans S3.out fun b hb => .inr (by omega)).trans SX2.out fun b hb => .inr (by omega), HALL.out.same⟩, fv, c', AT3.out.offReg HST.out (by omega) SX2.out⟩
      | stop st' s code =>
        rw [hr] at hpost
        obtain ⟨rfl, own', c', hch, hat⟩ := hpost
        have HR := Lib.hid hr
        have hall := (Chg.calm own SA.out).trans (HCH.out.trans hch)
        have hp0 : own (w.heap.size + 1) = 0 := by
          by_cases h : own (w.heap.size + 1) = 0
          · exact h
          · have := (HW.out.low _ h).2; omega
        have kr1 : w1.heap[w.heap.size + 1]? = some (.cells #[.int .i64 0, .int .u8 0] 74 (0, 0)) := by have := KR.out; simpa using this
        have hz1 := SA.out.size
        have kr2 := (HCH.out.trans hch).keeps kr1 hp0
        obtain ⟨k0, k1, k2, k3⟩ := cells_known2 kr2
        have HST := Lib.hid (show own' (w.heap.size + 1) = 0 from (HCH.out.trans hch).stays0 kr1 hp0)
        have HCH2 := Lib.hid hall
        have HAT2 := Lib.hid hat
        have HK := Lib.hid (lt_obj kr2)
        have HKR := Lib.hid kr2
        have HWS := Lib.hid (show w0.heap.size ≤ w.heap.size from by
          obtain ⟨_, _, _, _, _, _, _, _, P⟩ := HW.out
          exact P.step.size)
        clear hr hch hat kr1 kr2 hall hp0
        go_wp2_with fail
        refine leaves_cons (f := 40) (args := #[.pointer (some ⟨w.heap.size + 1, 0, none⟩)]) (by simp) (by simp [go_sem]) ?_
        refine (catch_panic _ s code 0 0 [] w' k0 k1 k2 k3).mono ?_
        rintro e u' w2 ⟨rfl, rfl, rfl⟩
        have SX := Lib.hid (show Step (fun b => b = w.heap.size + 1) w' (((w'.alloc (.cells #[.int .i64 s, .int .u8 code] 74)).setCell ⟨w.heap.size + 1, 0, none⟩ (.int .i64 s)).setCell ⟨w.heap.size + 1, 1, none⟩ (.int .u8 code)) from ((Step.alloc (fun b => b = w.heap.size + 1) w' _).set (p := ⟨w.heap.size + 1, 0, none⟩) (.inl rfl) _).set (p := ⟨w.heap.size + 1, 1, none⟩) (.inl rfl) _)
        have a0 : ((((w'.alloc (.cells #[.int .i64 s, .int .u8 code] 74)).setCell ⟨w.heap.size + 1, 0, none⟩ (.int .i64 s)).setCell ⟨w.heap.size + 1, 1, none⟩ (.int .u8 code)).heap[w.heap.size + 1]?) = some (.cells #[.int .i64 s, .int .u8 code] 74 (0, 0)) := set2_known ((heap_alloc_old w' _ HK.out).trans HKR.out) _ _
        obtain ⟨y0, y1, _, _⟩ := cells_known2 a0
        have HY := Lib.hid a0
        clear a0
        generalize ((w'.alloc (.cells #[.int .i64 s, .int .u8 code] 74)).setCell ⟨w.heap.size + 1, 0, none⟩ (.int .i64 s)).setCell ⟨w.heap.size + 1, 1, none⟩ (.int .u8 code) = w2 at *
        simp [Leaves, settle, results, Try.results27, go_sem, y0, y1]
        have hws := HWS.out
        rw [HR.out]
        exact ⟨⟨rfl, rfl⟩, own', ⟨HCH2.out.step.trans SX.out fun b hb => .inr (by omega), HCH2.out.same⟩, fv, c', HAT2.out.offReg HST.out (by omega) SX.out⟩
end
end Go.Proofs.Ytpmbakhnamlooaa
