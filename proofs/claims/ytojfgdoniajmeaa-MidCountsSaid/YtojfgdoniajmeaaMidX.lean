/- Package mid: calls, with any fuel; a unit's run. -/
import Derived.Test.YtojfgdoniajmeaaMidM
import Derived.Test.YtojfgdoniajmeaaMidV
import Derived.Test.YtojfgdoniajmeaaMGooG
namespace Go.Proofs.Ytojfgdoniajmeaa
set_option linter.unusedVariables false
set_option linter.unusedSimpArgs false
open Go.RowKit

section
variable {w0 w w' w1 w2 : World} {pw : Nat} {own own' : Nat → Nat} {fnv : List UInt8 → Option Value} {tops tops' : List UInt8 → Option HP} {st : MSt} {c : Nat} {fns : List UInt8 → Option FFn} {ph bt bf : Nat} {vi vo : Value}

theorem callC_all (hE : UEnvM w0 fnv fns) (n : Nat) : CallC w0 pw fnv fns tops n := by
  induction n using Nat.strongRecOn with
  | ind n ih => exact call_any n hE ih
/-- the machine's functions are others -/
theorem MParts.fnsNext {fnv' : List UInt8 → Option Value} (P : MParts w0 w pw own fnv tops st c ph bt bf vi vo) (s : Step (fun b => b = bf) w w') (im : SMap Try.prog 9 w' bf (c + 1) fnv') : MParts w0 w' pw own fnv' tops st (c + 1) ph bt bf vi vo ∧ Chg own own w w' := by
  obtain ⟨t1, t2, t3⟩ := P.tag
  have hz := s.size
  have k : ∀ b, b < w.heap.size → own b ≠ 2 → w'.heap[b]? = w.heap[b]? := fun b hb ho => s.block b hb fun e => ho (by rw [e]; exact t2)
  exact ⟨⟨(k pw (lt_obj P.struct) (by omega)).trans P.struct, P.tag, im, (P.tops.same (k _ P.tops.lt (by omega))).le (by omega), (P.heap.same fun b hb hlt => k b hlt (by omega)).less (by omega), P.out.same fun b hb hlt => k b hlt (by omega), P.input, fun b hb => by have := P.low b hb; omega, P.step.trans s fun b hb => .inl (by have := P.low bf (by omega); omega), by have := P.lens; omega⟩, s.mono fun b _ e => by rw [e, t2]; decide, fun _ _ => rfl⟩
/-- the machine's variables are others -/
theorem MParts.topsNext (P : MParts w0 w pw own fnv tops st c ph bt bf vi vo) (s : Step (fun b => b = bt) w w') (im : SMap Try.prog 9 w' bt (c + 1) (fun s => (tops' s).map HP.val)) : MParts w0 w' pw own fnv tops' st (c + 1) ph bt bf vi vo ∧ Chg own own w w' := by
  obtain ⟨t1, t2, t3⟩ := P.tag
  have hz := s.size
  have k : ∀ b, b < w.heap.size → own b ≠ 3 → w'.heap[b]? = w.heap[b]? := fun b hb ho => s.block b hb fun e => ho (by rw [e]; exact t3)
  exact ⟨⟨(k pw (lt_obj P.struct) (by omega)).trans P.struct, P.tag, (P.fns.same (k _ P.fns.lt (by omega))).le (by omega), im, (P.heap.same fun b hb hlt => k b hlt (by omega)).less (by omega), P.out.same fun b hb hlt => k b hlt (by omega), P.input, fun b hb => by have := P.low b hb; omega, P.step.trans s fun b hb => .inl (by have := P.low bt (by omega); omega), by have := P.lens; omega⟩, s.mono fun b _ e => by rw [e, t3]; decide, fun _ _ => rfl⟩
/-- variables are given their blocks -/
def topsM : List Tp → MSt → (List UInt8 → Option HP) → MSt × (List UInt8 → Option HP)
  | [], st, m => (st, m)
  | t :: l, st, m => topsM l { st with blks := st.blks ++ [⟨t.2, false, true, false⟩] } (fun s => if s = t.1.data.toList then some ⟨st.blks.length, 0, 0, t.2⟩ else m s)
theorem topsM_cut (ts : List Tp) {k : Nat} (h : k < ts.length) (st : MSt) (m : List UInt8 → Option HP) : topsM (ts.drop k) st m = topsM (ts.drop (k + 1)) { st with blks := st.blks ++ [⟨ts[k].2, false, true, false⟩] } (fun s => if s = ts[k].1.data.toList then some ⟨st.blks.length, 0, 0, ts[k].2⟩ else m s) := by
  rw [List.drop_eq_getElem_cons h]
  rfl
/-- how a run ends: its state -/
def runS : MRes → MSt
  | .ret st _ => st
  | .stop st _ _ _ => st
/-- how a run ends: how it stops, by which code, by which error -/
def runE : MRes → Int × Int × Int
  | .ret _ v => (1, v.num % 256, 0)
  | .stop _ s code why => (s, code, why)
theorem SInvM.top {d : Int} {n : Int} {nm : List UInt8} (h : SInvM tops st (d + 1)) (hd : 0 ≤ d) (hn : 0 ≤ n ∧ n ≤ 4194304) (hb : st.blks.length ≤ 2000000000) : SInvM (fun s => if s = nm then some ⟨st.blks.length, 0, 0, n⟩ else tops s) { st with blks := st.blks ++ [⟨n, false, true, false⟩] } d := by
  refine ⟨h.cells, ?_, h.steps, h.input, h.out, fun s p e => ?_⟩
  · have := h.blks
    simp only [List.length_append, List.length_cons, List.length_nil]
    omega
  · by_cases e1 : s = nm
    · simp only [if_pos e1, Option.some.injEq] at e
      subst e
      unfold HP.ok i64B
      simp only
      omega
    · simp only [if_neg e1] at e
      exact h.tops s p e
/-- a block was made, and named -/
def NamedAt (W : World) (own : Nat → Nat) (ph bt : Nat) (l : List HB) (f : Lit → Option HV) (m n : Nat) (g : List UInt8 → Option Value) (_ : Value) (w : World) : Prop :=
  ∃ wm, HeapAt wm ph l f m (fun b => own b = 4 ∨ W.heap.size ≤ b) ∧ Step (fun b => own b = 4) W wm ∧ Step (fun b => b = bt) wm w ∧ SMap Try.prog 9 w bt n g
theorem NamedAt.stable {W : World} {own : Nat → Nat} {ph bt : Nat} {l : List HB} {f : Lit → Option HV} {m n : Nat} {g : List UInt8 → Option Value} {y : Value} (h : Step (fun _ => False) w w') (k : NamedAt W own ph bt l f m n g y w) : NamedAt W own ph bt l f m n g y w' := by
  obtain ⟨wm, k1, k2, k3, k4⟩ := k
  exact ⟨wm, k1, k2, k3.trans h fun _ x => x.elim, k4.same (h.block _ k4.lt fun x => x)⟩
/-- a block was made -/
def MadeAt (W : World) (own : Nat → Nat) (ph : Nat) (l : List HB) (f : Lit → Option HV) (m : Nat) (_ : Value) (w : World) : Prop := HeapAt w ph l f m (fun b => own b = 4 ∨ W.heap.size ≤ b) ∧ Step (fun b => own b = 4) W w
theorem MadeAt.stable {W : World} {own : Nat → Nat} {ph : Nat} {l : List HB} {f : Lit → Option HV} {m : Nat} {y : Value} (h : Step (fun _ => False) w w') (k : MadeAt W own ph l f m y w) : MadeAt W own ph l f m y w' :=
  ⟨k.1.same fun b _ hb => h.block b hb fun x => x, k.2.trans h fun _ x => x.elim⟩
def planRun5 : Plan where
  T := [[], [0], [0, 1], [0, 1, 2], [], [4], [], [6], [6, 7], [6, 7, 8], [], [10], [6, 7, 8, 9, 10, 11], [6, 7, 8, 9, 10, 11, 12], [6, 7, 8, 9, 10, 11, 12, 13], [6, 7, 8, 9, 10, 11, 12, 13], [0, 1, 2, 3, 4, 5, 6, 7, 8, 9, 10, 11, 12, 13, 14]]
  rd := [[], [(0, some 18)], [(1, some 19)], [(2, some 20)], [], [(4, some 22)], [], [(6, some 24)], [(7, some 25)], [(8, some 26)], [], [(10, some 28)], [(9, some 27), (11, some 29)], [(12, some 30)], [(13, some 17)], [(13, some 17)], [(3, some 21), (5, some 23), (14, some 31)]]
  all := [(16, none), (15, some 32), (14, some 31), (13, some 17), (12, some 30), (11, some 29), (10, some 28), (9, some 27), (8, some 26), (7, some 25), (6, some 24), (5, some 23), (4, some 22), (3, some 21), (2, some 20), (1, some 19), (0, some 18)]
  calm := [true, true, true, true, true, true, true, true, true, true, true, true, false, true, true, true, false]
  hard := [true, true, true, true, true, true, true, true, true, true, true, true, true, true, true, true, true]
  fresh := [false, false, false, false, false, false, false, false, false, false, false, false, false, false, false, false, false]

def planRun10 : Plan where
  T := [[], [0], [0, 1], [0, 1, 2], [], [4], [], [0, 1, 2, 3, 4, 5, 6]]
  rd := [[], [(0, some 41)], [(1, some 42)], [(2, some 43)], [], [(4, some 45)], []]
  all := [(6, some 47), (5, some 46), (4, some 45), (3, some 44), (2, some 43), (1, some 42), (0, some 41)]
  calm := [true, true, true, true, true, true, true]
  hard := []
  fresh := [false, false, false, false, false, false, false]

set_option maxHeartbeats 4000000 in
set_option maxRecDepth 100000 in
theorem run_any {vt vf : Value} {ts : List Tp} {fs : List FFn} (ht : TopsAt w0 vt ts) (hf : FnsAt w0 vf fs) (hlen : fs.length ≤ 400) (htl : ts.length ≤ 400) (htn : ∀ t ∈ ts, 0 ≤ t.2 ∧ t.2 ≤ 4194304) (hnm : ∀ f ∈ fs, f.name.size ≤ maxLen) (hG : ∀ s g, fnOf fs s = some g → GoodM (fnOf fs) g) {gm : FFn} (hM : fnOf fs [109, 97, 105, 110] = some gm) (hP0 : gm.params = []) {N : Nat} (hst0 : st.steps = 0 ∧ st.fuel ≤ 100000 ∧ st.blks.length = 1) (hS : SInvM (fun _ => none) st 2000) (hc : c ≤ 10) (hN : (st.fuel - st.steps).toNat ≤ N) (hW : MWAt w0 w pw own (fun _ => none) (fun _ => none) st c) :
    Calls Try.prog 26 #[.pointer (some ⟨pw, 0, none⟩), .agg #[vt, vf]] w fun e w' => ∃ r, r = callM (fnOf fs) (topsM ts st (fun _ => none)).2 N (topsM ts st (fun _ => none)).1 gm [] ∧ e = .returned (.agg #[.int .i64 (runE r).1, .int .u8 (runE r).2.1, .int .i64 (runE r).2.2]) ∧ ∃ own' fv c', Chg own own' w w' ∧ MWAt w0 w' pw own' fv (topsM ts st (fun _ => none)).2 (runS r) c' := by
  have hmf : ∀ (fn : Fn) (first cap : Array Value) (w : World), (Instr.makeFunc fn first cap).run Try.prog w = .ok (.func fn first cap) w := fun _ _ _ _ => rfl
  obtain ⟨sT, hsT⟩ : ∃ s, (topsM ts st (fun _ => none)).1 = s := ⟨_, rfl⟩
  obtain ⟨tT, htT⟩ : ∃ s, (topsM ts st (fun _ => none)).2 = s := ⟨_, rfl⟩
  rw [hsT, htT]
  replace hsT := Lib.hid hsT
  replace htT := Lib.hid htT
  obtain ⟨pf, fcap, rfl, hf1, hf2, hfc⟩ := hf
  obtain ⟨pt, tcap, rfl, ht1, ht2, htc⟩ := ht
  have HW := Lib.hid hW
  have HFC := Lib.hid hfc
  have HTC := Lib.hid htc
  have HTN := Lib.hid htn
  have HNM := Lib.hid hnm
  have HG := Lib.hid hG
  have HM := Lib.hid hM
  have HP0 := Lib.hid hP0
  have HS := Lib.hid hS
  have HST0 := Lib.hid hst0
  have HN := Lib.hid hN
  clear hW hfc hf2 htc ht2 hG hM hP0 hS hN htn hnm hst0
  go_enter_defers Try.func26, Try.ntmps26
  have sa := (Step.alloc (fun _ => False) w (.cells #[.slice pt ts.length tcap, .slice pf fs.length fcap] 25 (0, 0))).then (Step.alloc (fun _ => False) _ (.cells #[.int .i64 0, .int .u8 0, .int .i64 0] 72 (0, 0)))
  have kr := heap_alloc_new (w.alloc (.cells #[.slice pt ts.length tcap, .slice pf fs.length fcap] 25 (0, 0))) (.cells #[.int .i64 0, .int .u8 0, .int .i64 0] 72 (0, 0))
  have ku := (Step.alloc (fun _ => False) (w.alloc (.cells #[.slice pt ts.length tcap, .slice pf fs.length fcap] 25 (0, 0))) (.cells #[.int .i64 0, .int .u8 0, .int .i64 0] 72 (0, 0))).keeps (heap_alloc_new w (.cells #[.slice pt ts.length tcap, .slice pf fs.length fcap] 25 (0, 0)))
  go_upto_region 2 with fail
  have SA := Lib.hid sa
  have KR := Lib.hid kr
  have KU := Lib.hid ku
  clear sa kr ku
  generalize (w.alloc (.cells #[.slice pt ts.length tcap, .slice pf fs.length fcap] 25 (0, 0))).alloc (.cells #[.int .i64 0, .int .u8 0, .int .i64 0] 72 (0, 0)) = w1 at *
  have HU0 := Lib.hid (show own w.heap.size = 0 ∧ own (w.heap.size + 1) = 0 from by
    have h : ∀ b, w.heap.size ≤ b → own b = 0 := fun b hb => by
      by_cases e : own b = 0
      · exact e
      · have := (HW.out.low b e).2; omega
    exact ⟨h _ (Nat.le_refl _), h _ (by omega)⟩)
  obtain ⟨u0, u1, _, _⟩ := cells_known2 KU.out
  go_wp2_with fail
  clear u0 u1
  go_loopw [6, 13] (fun _ i wr => ∃ (k : Nat) (ownk : Nat → Nat) (stk : MSt) (tk : List UInt8 → Option HP), k ≤ ts.length ∧ i = .int .i64 k ∧ topsM ts st (fun _ => none) = topsM (ts.drop k) stk tk ∧ Chg own ownk w1 wr ∧ MWAt w0 wr pw ownk (fun _ => none) tk stk (c + 2 * k) ∧ SInvM tk stk (2000 - k) ∧ stk.blks.length = 1 + k ∧ stk.steps = 0 ∧ stk.fuel = st.fuel) (fun _ i _ => ts.length - (intOf i).toNat)
  case atStart => exact ⟨0, own, st, fun _ => none, by omega, rfl, rfl, Chg.refl _ _, HW.out.still SA.out, HS.out, HST0.out.2.2, HST0.out.1, rfl⟩
  case round =>
  obtain ⟨k, ownk, stk, tk, hk, rfl, htk, hch, hat, hsv, hbl, hsp, hfu⟩ := hrel
  have HTK := Lib.hid htk
  have HCH := Lib.hid hch
  have HAT := Lib.hid hat
  have HSV := Lib.hid hsv
  have HBL := Lib.hid hbl
  have HSP := Lib.hid (show stk.steps = 0 ∧ stk.fuel = st.fuel from ⟨hsp, hfu⟩)
  clear htk hch hat hsv hbl hsp hfu
  by_cases hlt : k < ts.length
  · have hd : decide (k < ts.length) = true := decide_eq_true hlt
    obtain ⟨a, rfl, hc0, hc1, hns, hwf⟩ := HTC.out k hlt
    have hc0 := (cell_of (HAT.out.since.block _ (block_lt hc0) (fun x => absurd x (by have := block_lt hc0; omega)))).trans hc0
    have hc1 := (cell_of (HAT.out.since.block _ (block_lt hc1) (fun x => absurd x (by have := block_lt hc1; omega)))).trans hc1
    have hc1 : wr.cell? ⟨(a.add (k * 2)).block, (a.add (k * 2)).off + 1, none⟩ = some (.int .i64 ts[k].2) := hc1
    have HCUT := Lib.hid (HTK.out.trans (topsM_cut ts hlt stk tk))
    have HSZ := Lib.hid (HTN.out _ (List.getElem_mem hlt))
    generalize ts[k] = t at *
    obtain ⟨nm, sz⟩ := t
    simp only at hc0 hc1 hns HCUT HSZ
    have HNS := Lib.hid hns
    clear hns hwf
    go_upto_region 5 with fail
    have kb := heap_alloc_new wr (.cells #[.string nm, .int .i64 sz] 52 (0, 0))
    have S2 := Lib.hid (Step.alloc (fun _ => False) wr (.cells #[.string nm, .int .i64 sz] 52 (0, 0)))
    clear hc0 hc1
    generalize wr.alloc (.cells #[.string nm, .int .i64 sz] 52 (0, 0)) = w2 at *
    have LT0 := Lib.hid (show ownk wr.heap.size = 0 from HAT.out.fresh0)
    generalize wr.heap.size = tb at *
    have KB := Lib.hid kb
    clear kb
    obtain ⟨ph, bt, bf, ui, uo, P⟩ := HAT.out.still S2.out
    have HPM := Lib.hid P
    have MK := Lib.hid (show ∀ y, Step (fun _ => False) w2 y → Calls Try.prog 33 #[.pointer (some ⟨ph, 0, none⟩), .int .i64 sz, .bool false] y fun e w' => e = .returned (.tuple #[.agg #[.int .i64 stk.blks.length, .int .i64 0, .int .i64 0, .int .i64 sz], .int .i64 0]) ∧ Step (fun b => ownk b = 4) y w' ∧ HeapAt w' ph (stk.blks ++ [⟨sz, false, true, false⟩]) stk.at_ (c + 2 * k) (fun b => ownk b = 4 ∨ y.heap.size ≤ b) from fun y hy => by
      refine (make_any ph sz false stk.blks stk.at_ (c + 2 * k) _ y (P.still hy).heap P.lens.1 (by have := HBL.out; omega)).mono ?_
      intro e w' h
      have hs := HSZ.out
      rw [if_neg (by omega)] at h
      exact h)
    have FX := Lib.hid (show ∀ y, Step (fun b => ownk b = 4 ∨ b = bt) w2 y → y.cell? ⟨pw, 0, none⟩ = some (.pointer (some ⟨ph, 0, none⟩)) ∧ y.cell? ⟨pw, 1, none⟩ = some (.map (some bt)) ∧ y.cell? ⟨tb, 0, none⟩ = some (.string nm) ∧ y.cell? ⟨tb, 1, none⟩ = some (.int .i64 sz) from fun y hy => by
      have k1 := (hy.block pw (lt_known P.struct) (fun e => by have := P.tag; rcases e with e | e; omega; rw [e] at this; omega)).trans P.struct
      have k2 := (hy.block tb (lt_known KB.out) (fun e => by have := LT0.out; have h := P.tag.2.2; rcases e with e | e; omega; rw [← e] at h; omega)).trans KB.out
      exact ⟨cell_known k1 rfl, cell_known k1 rfl, cell_known k2 rfl, cell_known k2 rfl⟩)
    clear P
    refine wp_region_each 17 planRun5 (fun a b => Step (fun x => ownk x = 4 ∨ x = bt) a b) (Step (fun x => ownk x = 4 ∨ x = bt) w2) (fun x => Step (fun _ => False) w2 x) [Is ?v5_1_0, Is ?v5_1_1, Is ?v5_1_2, Is ?v5_1_3, Is ?v5_1_4, Is ?v5_1_5, Is ?v5_1_6, Is ?v5_1_7, Is ?v5_1_8, Is ?v5_1_9, Is ?v5_1_10, Is ?v5_1_11, Is ?v5_1_12, Is ?v5_1_13, Is ?v5_1_14, Is ?v5_1_15, fun _ _ => True] [fun _ _ => True, fun _ _ => True, fun _ _ => True, fun _ _ => True, fun _ _ => True, fun _ _ => True, fun _ _ => True, fun _ _ => True, fun _ _ => True, fun _ _ => True, fun _ _ => True, fun _ _ => True, MadeAt w2 ownk ph (stk.blks ++ [⟨sz, false, true, false⟩]) stk.at_ (c + 2 * k), fun _ _ => True, fun _ _ => True, fun _ _ => True, NamedAt w2 ownk ph bt (stk.blks ++ [⟨sz, false, true, false⟩]) stk.at_ (c + 2 * k) (c + 2 * k + 1) (fun s => if s = nm.data.toList then some (.agg #[.int .i64 stk.blks.length, .int .i64 0, .int .i64 0, .int .i64 sz]) else (tk s).map HP.val)] (by kernel_rfl) (by kernel_rfl) (fun _ _ h => h.size) ((Step.refl _ _).drew) ((Step.refl _ _).drew) ?stab5_1 ?stabD5_1 ?obl5_1 ?fin5_1
    case stab5_1 => exact fun w w' h => ⟨fun k => k.trans h (fun _ x => x.elim), fun k => k.trans h (fun _ x => x.elim), ⟨fun _ k => k, fun _ k => k, fun _ k => k, fun _ k => k, fun _ k => k, fun _ k => k, fun _ k => k, fun _ k => k, fun _ k => k, fun _ k => k, fun _ k => k, fun _ k => k, fun _ k => k, fun _ k => k, fun _ k => k, fun _ k => k, fun _ k => k, trivial⟩, ⟨fun _ k => k, fun _ k => k, fun _ k => k, fun _ k => k, fun _ k => k, fun _ k => k, fun _ k => k, fun _ k => k, fun _ k => k, fun _ k => k, fun _ k => k, fun _ k => k, fun _ k => k.stable h, fun _ k => k, fun _ k => k, fun _ k => k, fun _ k => k.stable h, trivial⟩⟩
    case stabD5_1 => exact fun w w' h => ⟨fun k => k.trans h (fun _ x => .inl x), fun _ _ k => k, fun _ _ k => k, fun _ _ k => k, fun _ _ k => k, fun _ _ k => k, fun _ _ k => k, fun _ _ k => k, fun _ _ k => k, fun _ _ k => k, fun _ _ k => k, fun _ _ k => k, fun _ _ k => k, fun _ _ k => k, fun _ _ k => k, fun _ _ k => k, fun _ _ k => k, fun _ _ k => k, trivial⟩
    case obl5_1 =>
      refine ⟨?o5_1_0, ?o5_1_1, ?o5_1_2, ?o5_1_3, ?o5_1_4, ?o5_1_5, ?o5_1_6, ?o5_1_7, ?o5_1_8, ?o5_1_9, ?o5_1_10, ?o5_1_11, ?o5_1_12, ?o5_1_13, ?o5_1_14, ?o5_1_15, ?o5_1_16, trivial⟩
      all_goals intro xv wq hH hS H hU aq ha Q' hQ
      case o5_1_0 => cases rd0 ha; clear H hU hS; go_wp2_with fail; (try refine hQ _ _ ?_); refine ⟨Step.refl _ _, ?_, trivial, nofun⟩; exact (rfl : _ = _)
      case o5_1_1 | o5_1_2 => have ha := rd1 ha H (by kernel_rfl) rfl; simp only [q3, q5, q6, q7] at ha; subst ha; clear H hU hS; go_wp2_with fail; (try refine hQ _ _ ?_); refine ⟨Step.refl _ _, ?_, trivial, nofun⟩; exact (rfl : _ = _)
      case o5_1_3 => obtain ⟨m0, m1, x0, x1⟩ := FX.out _ hH; have ha := rd1 ha H (by kernel_rfl) rfl; simp only [q3, q5, q6, q7] at ha; subst ha; clear H hU hS; go_wp2_with fail; (try refine hQ _ _ ?_); refine ⟨Step.refl _ _, ?_, trivial, nofun⟩; exact (rfl : _ = _)
      case o5_1_4 => cases rd0 ha; clear H hU hS; go_wp2_with fail; (try refine hQ _ _ ?_); refine ⟨Step.refl _ _, ?_, trivial, nofun⟩; exact (rfl : _ = _)
      case o5_1_5 => obtain ⟨m0, m1, x0, x1⟩ := FX.out _ hH; have ha := rd1 ha H (by kernel_rfl) rfl; simp only [q3, q5, q6, q7] at ha; subst ha; clear H hU hS; go_wp2_with fail; (try refine hQ _ _ ?_); refine ⟨Step.refl _ _, ?_, trivial, nofun⟩; exact (rfl : _ = _)
      case o5_1_6 => cases rd0 ha; clear H hU hS; go_wp2_with fail; (try refine hQ _ _ ?_); refine ⟨Step.refl _ _, ?_, trivial, nofun⟩; exact (rfl : _ = _)
      case o5_1_7 | o5_1_8 => have ha := rd1 ha H (by kernel_rfl) rfl; simp only [q3, q5, q6, q7] at ha; subst ha; clear H hU hS; go_wp2_with fail; (try refine hQ _ _ ?_); refine ⟨Step.refl _ _, ?_, trivial, nofun⟩; exact (rfl : _ = _)
      case o5_1_9 => obtain ⟨m0, m1, x0, x1⟩ := FX.out _ hH; have ha := rd1 ha H (by kernel_rfl) rfl; simp only [q3, q5, q6, q7] at ha; subst ha; clear H hU hS; go_wp2_with fail; (try refine hQ _ _ ?_); refine ⟨Step.refl _ _, ?_, trivial, nofun⟩; exact (rfl : _ = _)
      case o5_1_10 => cases rd0 ha; clear H hU hS; go_wp2_with fail; (try refine hQ _ _ ?_); refine ⟨Step.refl _ _, ?_, trivial, nofun⟩; exact (rfl : _ = _)
      case o5_1_11 => obtain ⟨m0, m1, x0, x1⟩ := FX.out _ hH; have ha := rd1 ha H (by kernel_rfl) rfl; simp only [q3, q5, q6, q7] at ha; subst ha; clear H hU hS; go_wp2_with fail; (try refine hQ _ _ ?_); refine ⟨Step.refl _ _, ?_, trivial, nofun⟩; exact (rfl : _ = _)
      case o5_1_12 =>
        obtain ⟨m0, m1, x0, x1⟩ := FX.out _ hH; have h9 : xv 9 = _ := H 9 (by kernel_rfl); have h11 : xv 11 = _ := H 11 (by kernel_rfl); change aq = puts _ xv [(9, some 27), (11, some 29)] at ha; simp only [q1, q2, q3, q5, q6, q7, h9, h11] at ha; subst ha; clear H h9 h11
        have hS2 := Lib.hid (hS (by kernel_rfl))
        clear hU hS hH
        go_wp2_with fail
        refine (MK.out _ hS2.out).mono ?_
        rintro e w8 ⟨rfl, s8, hh8⟩
        have SH := Lib.hid (And.intro s8 hh8)
        clear s8 hh8
        go_wp2_with fail
        (try refine hQ _ _ ?_)
        refine ⟨SH.out.1.mono fun _ _ x => .inl x, ?_, ⟨SH.out.2.mono fun b hb => ?_, (hS2.out.mono fun _ _ x => x.elim).trans SH.out.1 fun _ x => .inl x⟩, nofun⟩
        exact (rfl : _ = _)
        rcases hb with hb | hb
        · exact .inl hb
        · exact .inr (Nat.le_trans hS2.out.size hb)
      case o5_1_13 | o5_1_14 | o5_1_15 => have ha := rd1 ha H (by kernel_rfl) rfl; simp only [q3, q5, q6, q7] at ha; subst ha; clear H hU hS; go_wp2_with fail; (try refine hQ _ _ ?_); refine ⟨Step.refl _ _, ?_, trivial, nofun⟩; exact (rfl : _ = _)
      case o5_1_16 =>
        obtain ⟨m0, m1, x0, x1⟩ := FX.out _ hH; have h3 : xv 3 = _ := H 3 (by kernel_rfl); have h5 : xv 5 = _ := H 5 (by kernel_rfl); have h14 : xv 14 = _ := H 14 (by kernel_rfl); change aq = puts _ xv [(3, some 21), (5, some 23), (14, some 31)] at ha; simp only [q1, q2, q3, q5, q6, q7, h3, h5, h14] at ha; subst ha; clear H h3 h5 h14
        have M : MadeAt w2 ownk ph (stk.blks ++ [⟨sz, false, true, false⟩]) stk.at_ (c + 2 * k) (xv 12) wq := hU 12 (by kernel_rfl)
        obtain ⟨M1, M2⟩ := M
        have hbt := HPM.out.tops.lt
        have ht3 := HPM.out.tag.2.2
        have hmax : c + 2 * k < maxLen := by simp only [maxLen]; omega
        obtain ⟨w5, run, im, gr, _⟩ := (HPM.out.tops.same (M2.block bt hbt (by omega))).update (t := 68) (e := 94) Try.underlying9 Try.underlying68 hmax (s := nm) HNS.out (.agg #[.int .i64 stk.blks.length, .int .i64 0, .int .i64 0, .int .i64 sz])
        have MM := Lib.hid (And.intro M1 (And.intro M2 (And.intro im gr)))
        clear hU hS M1 M2 im gr hH
        go_wp2_with fail
        refine hQ (.bool true) _ ?_
        exact ⟨(Step.of_grown MM.out.2.2.2).mono fun _ _ x => .inr x, trivial, ⟨wq, MM.out.1, MM.out.2.1, Step.of_grown MM.out.2.2.2, MM.out.2.2.1⟩, nofun⟩
    intro xv w3 hH hS H hU hsz hF hN
    have h0 : xv 0 = _ := H 0 (by decide) (by kernel_rfl); have h1 : xv 1 = _ := H 1 (by decide) (by kernel_rfl); have h2 : xv 2 = _ := H 2 (by decide) (by kernel_rfl); have h3 : xv 3 = _ := H 3 (by decide) (by kernel_rfl); have h4 : xv 4 = _ := H 4 (by decide) (by kernel_rfl); have h5 : xv 5 = _ := H 5 (by decide) (by kernel_rfl); have h6 : xv 6 = _ := H 6 (by decide) (by kernel_rfl); have h7 : xv 7 = _ := H 7 (by decide) (by kernel_rfl); have h8 : xv 8 = _ := H 8 (by decide) (by kernel_rfl); have h9 : xv 9 = _ := H 9 (by decide) (by kernel_rfl); have h10 : xv 10 = _ := H 10 (by decide) (by kernel_rfl); have h11 : xv 11 = _ := H 11 (by decide) (by kernel_rfl); have h12 : xv 12 = _ := H 12 (by decide) (by kernel_rfl); have h13 : xv 13 = _ := H 13 (by decide) (by kernel_rfl); have h14 : xv 14 = _ := H 14 (by decide) (by kernel_rfl); have h15 : xv 15 = _ := H 15 (by decide) (by kernel_rfl)
    simp only [planRun5, q1, q2, q3, q5, q6, q7, q4, List.drop_succ_cons, List.drop_zero, h0, h1, h2, h3, h4, h5, h6, h7, h8, h9, h10, h11, h12, h13, h14, h15]
    have hL := hU 16 (by decide) (by kernel_rfl)
    clear H hF hN hS hU h0 h1 h2 h3 h4 h5 h6 h7 h8 h9 h10 h11 h12 h13 h14 h15
    obtain ⟨wm, hm1, hm2, hm3, hm4⟩ : NamedAt w2 ownk ph bt (stk.blks ++ [(⟨sz, false, true, false⟩ : HB)]) stk.at_ (c + 2 * k) (c + 2 * k + 1) (fun s => if s = nm.data.toList then some (.agg #[.int .i64 stk.blks.length, .int .i64 0, .int .i64 0, .int .i64 sz]) else (tk s).map HP.val) (xv 16) w3 := hL
    obtain ⟨own1, ch1, P3⟩ := HPM.out.heapNext (c' := c + 2 * k + 1) (by omega) hm2 (hm1.less (by omega)) (fun b hb => hb) (by have := HPM.out.lens; simp only [List.length_append, List.length_cons, List.length_nil]; omega)
    obtain ⟨P5, ch5⟩ := P3.topsNext (tops' := fun s => if s = nm.data.toList then some ⟨stk.blks.length, 0, 0, sz⟩ else tk s) hm3 ((hm4.le (by omega)).congr fun s => by by_cases e : s = nm.data.toList <;> simp [e, HP.val, HP.cells])
    have W5 := Lib.hid P5.whole
    have CH5 := Lib.hid (((HCH.out.trans (Chg.calm ownk S2.out)).trans ch1).trans ch5)
    clear P3 P5 ch1 ch5 hm1 hm2 hm3 hm4 hH
    go_wp2_with fail
    go_roundw
    case rel =>
      have hs := HSP.out
      have hv := HSV.out
      have hbl := HBL.out
      refine ⟨k + 1, own1, _, _, by omega, by go_num, HCUT.out, CH5.out, ?_, ?_, ?_, hs.1, hs.2⟩
      · exact W5.out.le (by omega)
      · refine (SInvM.top (d := 2000 - ((k : Int) + 1)) (hv.le (by omega)) (by omega) HSZ.out (by omega)).le (by push_cast; omega)
      · simp only [List.length_append, List.length_cons, List.length_nil]; omega
    case measure => simp [intOf]; omega
  · have hd : decide (k < ts.length) = false := decide_eq_false hlt
    have e : k = ts.length := by omega
    subst e
    have h1 := HTK.out
    rw [List.drop_length, topsM] at h1
    have HTOP := Lib.hid h1
    have HRE := Lib.hid (show (topsM ts st (fun _ => none)).1 = stk ∧ (topsM ts st (fun _ => none)).2 = tk from by rw [h1]; exact ⟨rfl, rfl⟩)
    clear h1 HTK hlt hk
    have e1 : sT = stk := by rw [← hsT.out, HRE.out.1]
    have e2 : tT = tk := by rw [← htT.out, HRE.out.2]
    subst e1
    subst e2
    clear HRE HTOP
    have KU2 := Lib.hid (HCH.out.keeps KU.out HU0.out.1)
    obtain ⟨u0, u1, _, _⟩ := cells_known2 KU2.out
    go_wp2_with fail
    clear u0 u1
    have hfl : fs.length ≤ 400 := hlen
    generalize wr = w9 at *
    go_loopw [8, 37] (fun _ i wr => ∃ (k : Nat) (fv : List UInt8 → Option Value), k ≤ fs.length ∧ i = .int .i64 k ∧ FnvOk w0 (fs.take k) fv ∧ Chg ownk ownk w9 wr ∧ MWAt w0 wr pw ownk fv tT sT (c + 2 * ts.length + k)) (fun _ i _ => fs.length - (intOf i).toNat)
    case atStart => exact ⟨0, _, by omega, rfl, fun s => ⟨fun f h => by simp [fnOf] at h, fun _ => rfl⟩, Chg.refl _ _, HAT.out⟩
    case round =>
    obtain ⟨k, fv, hk, rfl, hfv, hch, hat⟩ := hrel
    have HFV := Lib.hid hfv
    have HCF := Lib.hid hch
    have HAF := Lib.hid hat
    clear hfv hch hat
    by_cases hlt : k < fs.length
    · have hd : decide (k < fs.length) = true := decide_eq_true hlt
      obtain ⟨a, fval, epf, hfn, hcells⟩ := HFC.out k hlt
      subst epf
      have HFN := Lib.hid hfn
      obtain ⟨vp, vk, vs, vc, efv, ⟨⟨pp, pc, rfl, _, _, _⟩, _⟩, ⟨⟨pk, kc, rfl, _, _, _⟩, _⟩, ⟨⟨ps, sc, rfl, _, _, _⟩, _⟩, ⟨pcd, cc, rfl, _, _, _⟩⟩ := hfn
      subst efv
      have HTKF := Lib.hid (List.take_succ_eq_append_getElem hlt)
      have HNF := Lib.hid (HNM.out _ (List.getElem_mem hlt))
      generalize fs[k] = f at *
      have ce : ∀ j u, (#[.string f.name, .slice pp f.params.length pc, .slice pk f.kinds.length kc, .slice ps f.slots.length sc, .slice pcd f.code.length cc] : Array Value)[j]? = some u → wr.cell? ((a.add (k * 5)).add j) = some u := fun j u h => by
        have h1 := hcells j u h
        rw [HAF.out.cell_old (block_lt h1)]; exact h1
      have e0 : wr.cell? (a.add (k * 5)) = some (.string f.name) := by have := ce 0 _ rfl; simpa [Addr.add] using this
      have e1 : wr.cell? ⟨(a.add (k * 5)).block, (a.add (k * 5)).off + 1, none⟩ = some (.slice pp f.params.length pc) := ce 1 _ rfl
      have e2 : wr.cell? ⟨(a.add (k * 5)).block, (a.add (k * 5)).off + 2, none⟩ = some (.slice pk f.kinds.length kc) := ce 2 _ rfl
      have e3 : wr.cell? ⟨(a.add (k * 5)).block, (a.add (k * 5)).off + 3, none⟩ = some (.slice ps f.slots.length sc) := ce 3 _ rfl
      have e4 : wr.cell? ⟨(a.add (k * 5)).block, (a.add (k * 5)).off + 4, none⟩ = some (.slice pcd f.code.length cc) := ce 4 _ rfl
      clear ce hcells
      go_upto_region 10 with fail
      have kb := heap_alloc_new wr (.cells #[.string f.name, .slice pp f.params.length pc, .slice pk f.kinds.length kc, .slice ps f.slots.length sc, .slice pcd f.code.length cc] 46 (0, 0))
      have S2 := Lib.hid (Step.alloc (fun _ => False) wr (.cells #[.string f.name, .slice pp f.params.length pc, .slice pk f.kinds.length kc, .slice ps f.slots.length sc, .slice pcd f.code.length cc] 46 (0, 0)))
      generalize wr.alloc (.cells #[.string f.name, .slice pp f.params.length pc, .slice pk f.kinds.length kc, .slice ps f.slots.length sc, .slice pcd f.code.length cc] 46 (0, 0)) = w2 at kb S2 ⊢
      generalize wr.heap.size = tb at kb ⊢
      have KB := Lib.hid kb
      obtain ⟨ph, bt, bf, ui, uo, P⟩ := (HAF.out.still S2.out)
      have FX := Lib.hid (show ∀ y, Step (fun _ => False) w2 y → y.cell? ⟨pw, 2, none⟩ = some (.map (some bf)) from fun y hy => cell_known (hy.keeps P.struct) rfl)
      have HPM := Lib.hid P
      clear kb P e0 e1 e2 e3 e4
      refine wp_region_each 7 planRun10 (fun _ _ => False) (Step (fun _ => False) w2) (fun _ => True) [Is ?v10_2_0, Is ?v10_2_1, Is ?v10_2_2, Is ?v10_2_3, Is ?v10_2_4, Is ?v10_2_5, Is ?v10_2_6] [] (by kernel_rfl) (by kernel_rfl) (fun _ _ h => h.elim) ((Step.refl _ _).drew) (trivial) ?stab10_2 ?stabD10_2 ?obl10_2 ?fin10_2
      case stab10_2 => exact fun w w' h => ⟨fun k => k.trans h (fun _ x => x.elim), fun _ => trivial, ⟨fun _ k => k, fun _ k => k, fun _ k => k, fun _ k => k, fun _ k => k, fun _ k => k, fun _ k => k, trivial⟩, trivial⟩
      case stabD10_2 => exact fun _ _ h => h.elim
      case obl10_2 =>
        refine ⟨?o10_2_0, ?o10_2_1, ?o10_2_2, ?o10_2_3, ?o10_2_4, ?o10_2_5, ?o10_2_6, trivial⟩
        all_goals intro xv wq hH hS H hU aq ha Q' hQ
        case o10_2_0 => cases rd0 ha; clear H hU hS; go_wp2_with fail; (try refine hQ _ _ ?_); refine ⟨Step.refl _ _, ?_, trivial, nofun⟩; exact (rfl : _ = _)
        case o10_2_1 | o10_2_2 => have ha := rd1 ha H (by kernel_rfl) rfl; simp only [q3, q5, q6, q7] at ha; subst ha; clear H hU hS; go_wp2_with fail; (try refine hQ _ _ ?_); refine ⟨Step.refl _ _, ?_, trivial, nofun⟩; exact (rfl : _ = _)
        case o10_2_3 => obtain ⟨g0, g1, g2, g3, g4, _⟩ := cells_known5 (hH.keeps KB.out); have m0 := FX.out _ hH; have ha := rd1 ha H (by kernel_rfl) rfl; simp only [q3, q5, q6, q7] at ha; subst ha; clear H hU hS; go_wp2_with fail; (try refine hQ _ _ ?_); refine ⟨Step.refl _ _, ?_, trivial, nofun⟩; exact (rfl : _ = _)
        case o10_2_4 => cases rd0 ha; clear H hU hS; go_wp2_with fail; (try refine hQ _ _ ?_); refine ⟨Step.refl _ _, ?_, trivial, nofun⟩; exact (rfl : _ = _)
        case o10_2_5 => obtain ⟨g0, g1, g2, g3, g4, _⟩ := cells_known5 (hH.keeps KB.out); have m0 := FX.out _ hH; have ha := rd1 ha H (by kernel_rfl) rfl; simp only [q3, q5, q6, q7] at ha; subst ha; clear H hU hS; go_wp2_with fail; (try refine hQ _ _ ?_); refine ⟨Step.refl _ _, ?_, trivial, nofun⟩; exact (rfl : _ = _)
        case o10_2_6 => obtain ⟨g0, g1, g2, g3, g4, _⟩ := cells_known5 (hH.keeps KB.out); have m0 := FX.out _ hH; cases rd0 ha; clear H hU hS; go_wp2_with fail; (try refine hQ _ _ ?_); refine ⟨Step.refl _ _, ?_, trivial, nofun⟩; exact (rfl : _ = _)
      intro xv w3 hH hS H hU hsz hF hN
      have h0 : xv 0 = _ := H 0 (by decide) (by kernel_rfl); have h1 : xv 1 = _ := H 1 (by decide) (by kernel_rfl); have h2 : xv 2 = _ := H 2 (by decide) (by kernel_rfl); have h3 : xv 3 = _ := H 3 (by decide) (by kernel_rfl); have h4 : xv 4 = _ := H 4 (by decide) (by kernel_rfl); have h5 : xv 5 = _ := H 5 (by decide) (by kernel_rfl); have h6 : xv 6 = _ := H 6 (by decide) (by kernel_rfl)
      simp only [planRun10, q1, q2, q3, q5, q6, q7, q4, List.drop_succ_cons, List.drop_zero, h0, h1, h2, h3, h4, h5, h6]
      clear H hF hN hS hU h0 h1 h2 h3 h4 h5 h6
      have m0 := FX.out _ hH
      have hmax : c + 2 * ts.length + k < maxLen := by simp only [maxLen]; omega
      obtain ⟨w5, run, im, gr, sz⟩ := (HPM.out.fns.same (hH.block _ HPM.out.fns.lt fun x => x)).update (t := 55) (e := 46) Try.underlying9 Try.underlying55 hmax (s := f.name) HNF.out (.agg #[.string f.name, .slice pp f.params.length pc, .slice pk f.kinds.length kc, .slice ps f.slots.length sc, .slice pcd f.code.length cc])
      have IM := Lib.hid im
      have GR := Lib.hid gr
      have HH := Lib.hid hH
      clear im gr sz hH
      go_wp2_with fail
      go_roundw
      case rel =>
        have s5 : Step (fun b => b = bf) w2 w5 := (HH.out.mono fun _ _ x => x.elim).trans (Step.of_grown GR.out) fun _ x => .inl x
        obtain ⟨P5, ch5⟩ := HPM.out.fnsNext s5 IM.out
        refine ⟨k + 1, _, by omega, by go_num, ?_, (HCF.out.trans (Chg.calm ownk S2.out)).trans ch5, P5.whole⟩
        rw [HTKF.out]
        exact HFV.out.snoc HFN.out
      case measure => simp [intOf]; omega
    · have hd : decide (k < fs.length) = false := decide_eq_false hlt
      have ek : k = fs.length := by omega
      subst ek
      have hfv := HFV.out
      rw [List.take_length] at hfv
      have hE : UEnvM w0 fv (fnOf fs) := fun s f h => by
        obtain ⟨v, h1, h2⟩ := (hfv s).1 f h
        exact ⟨v, h1, h2, HG.out s f h⟩
      obtain ⟨mv, hmv, hma, hmg⟩ := hE _ _ HM.out
      obtain ⟨bf, fnf⟩ := fn_facts (nm := ⟨#[109, 97, 105, 110]⟩) HAF.out (by decide) hmv
      have FN := Lib.hid (fnf wr (Step.refl _ _))
      have CA := Lib.hid (callC_all (pw := pw) (tops := tT) hE N wr ownk sT (c + 2 * ts.length + fs.length) gm mv [] (.slice none 0 0) HAF.out (HSV.out.le (by omega)) (by have := HSP.out; omega) hma hmg (by (rw [HP0.out]; rfl)) (by simp) (rowAt_nil _ _ _ _) (by have := HSP.out; have := HN.out; have := HST0.out; omega))
      obtain ⟨m0, lk⟩ := FN.out
      clear hfv hE hmv hma hmg fnf hlt HG FN
      go_wp2_with fail
      refine CA.out.mono ?_
      rintro e w' hpost
      have HCA := Lib.hid (HCH.out.trans HCF.out)
      cases hr : callM (fnOf fs) tT N sT gm [] with
      | ret st' v =>
        rw [hr] at hpost
        obtain ⟨rfl, own', c', hch, hat, hcb⟩ := hpost
        have HR := Lib.hid hr
        have HCH2 := Lib.hid (HCA.out.trans hch)
        have HAT2 := Lib.hid hat
        obtain ⟨xn, ⟨xb, xo, xl, xh⟩⟩ := v
        clear hr hch hat hcb m0 lk CA
        have hz1 := SA.out.size
        have kr1 : w1.heap[w.heap.size + 1]? = some (.cells #[.int .i64 0, .int .u8 0, .int .i64 0] 72 (0, 0)) := by have := KR.out; simpa using this
        have kr3 := HCH2.out.keeps kr1 HU0.out.2
        obtain ⟨k0, k1, k2, z0, z1, z2⟩ := cells_known3 kr3
        have HST := Lib.hid (show own' (w.heap.size + 1) = 0 from HCH2.out.stays0 kr1 HU0.out.2)
        have HKR := Lib.hid kr3
        have HALL := Lib.hid ((Chg.calm own SA.out).trans HCH2.out)
        have HWS := Lib.hid (show w0.heap.size ≤ w.heap.size from HW.out.since.size)
        have HX := Lib.hid (show runE (callM (fnOf fs) tT N sT gm []) = (1, xn % 256, 0) from by rw [HR.out]; rfl)
        clear kr1 kr3 hz1
        simp only [HV.val]
        have hfld : ∀ y, (Instr.field 98 (.agg #[.int .u64 xn, .int .i64 xb, .int .i64 xo, .int .i64 xl, .int .i64 xh]) 0).run Try.prog y = .ok (.int .u64 xn) y := fun y => by kernel_rfl
        go_wp2_with fail
        change Leaves _ _ _ _ _ _ _
        refine leaves_cons (f := 32) (args := #[.pointer (some ⟨w.heap.size + 1, 0, none⟩)]) (by simp) (by simp [go_sem]) ?_
        have SX := Lib.hid ((((Step.refl (fun b => b = w.heap.size + 1) w').set (p := ⟨w.heap.size + 1, 0, none⟩) (.inl rfl) (.int .i64 1)).set (p := ⟨w.heap.size + 1, 1, none⟩) (.inl rfl) (.int .u8 (xn % 256))).set (p := ⟨w.heap.size + 1, 2, none⟩) (.inl rfl) (.int .i64 0))
        have HY := Lib.hid (set3_known HKR.out (.int .i64 1) (.int .u8 (xn % 256)) (.int .i64 0))
        generalize ((w'.setCell ⟨w.heap.size + 1, 0, none⟩ (.int .i64 1)).setCell ⟨w.heap.size + 1, 1, none⟩ (.int .u8 (xn % 256))).setCell ⟨w.heap.size + 1, 2, none⟩ (.int .i64 0) = w4 at *
        refine (catch_idle _ w4).mono ?_
        rintro e u' w2 ⟨rfl, rfl, rfl⟩
        have SX2 := Lib.hid (SX.out.al (.cells #[.int .i64 0, .int .u8 0, .int .i64 0] 72 (0, 0)))
        obtain ⟨y0, y1, y2, _⟩ := cells_known3 ((heap_alloc_old w4 (.cells #[.int .i64 0, .int .u8 0, .int .i64 0] 72 (0, 0)) (lt_obj HY.out)).trans HY.out)
        generalize w4.alloc (.cells #[.int .i64 0, .int .u8 0, .int .i64 0] 72) = w2 at *
        simp [Leaves, settle, results, Try.results26, go_sem, y0, y1, y2]
        have hws := HWS.out
        rw [HX.out, HR.out]
        exact ⟨⟨rfl, rfl, rfl⟩, own', ⟨HALL.out.step.trans SX2.out fun b hb => .inr (by omega), HALL.out.same⟩, fv, c', HAT2.out.offReg HST.out (by omega) SX2.out⟩
      | stop st' s code why =>
        rw [hr] at hpost
        obtain ⟨rfl, own', c', hch, hat⟩ := hpost
        have HR := Lib.hid hr
        have hall := HCA.out.trans hch
        have kr1 : w1.heap[w.heap.size + 1]? = some (.cells #[.int .i64 0, .int .u8 0, .int .i64 0] 72 (0, 0)) := by have := KR.out; simpa using this
        have hz1 := SA.out.size
        have kr2 := hall.keeps kr1 HU0.out.2
        obtain ⟨k0, k1, k2, z0, z1, z2⟩ := cells_known3 kr2
        have HST := Lib.hid (show own' (w.heap.size + 1) = 0 from hall.stays0 kr1 HU0.out.2)
        have HCH2 := Lib.hid ((Chg.calm own SA.out).trans hall)
        have HAT2 := Lib.hid hat
        have HK := Lib.hid (lt_obj kr2)
        have HKR := Lib.hid kr2
        have HWS := Lib.hid (show w0.heap.size ≤ w.heap.size from HW.out.since.size)
        clear hr hch hat kr1 kr2 hall m0 lk CA
        go_wp2_with fail
        refine leaves_cons (f := 32) (args := #[.pointer (some ⟨w.heap.size + 1, 0, none⟩)]) (by simp) (by simp [go_sem]) ?_
        refine (catch_panic _ s code why 0 0 0 [] w' k0 k1 k2 z0 z1 z2).mono ?_
        rintro e u' w2 ⟨rfl, rfl, rfl⟩
        have SX := Lib.hid (show Step (fun b => b = w.heap.size + 1) w' ((((w'.alloc (.cells #[.int .i64 s, .int .u8 code, .int .i64 why] 72)).setCell ⟨w.heap.size + 1, 0, none⟩ (.int .i64 s)).setCell ⟨w.heap.size + 1, 1, none⟩ (.int .u8 code)).setCell ⟨w.heap.size + 1, 2, none⟩ (.int .i64 why)) from (((Step.alloc (fun b => b = w.heap.size + 1) w' _).set (p := ⟨w.heap.size + 1, 0, none⟩) (.inl rfl) _).set (p := ⟨w.heap.size + 1, 1, none⟩) (.inl rfl) _).set (p := ⟨w.heap.size + 1, 2, none⟩) (.inl rfl) _)
        have a0 : (((((w'.alloc (.cells #[.int .i64 s, .int .u8 code, .int .i64 why] 72)).setCell ⟨w.heap.size + 1, 0, none⟩ (.int .i64 s)).setCell ⟨w.heap.size + 1, 1, none⟩ (.int .u8 code)).setCell ⟨w.heap.size + 1, 2, none⟩ (.int .i64 why)).heap[w.heap.size + 1]?) = some (.cells #[.int .i64 s, .int .u8 code, .int .i64 why] 72 (0, 0)) := set3_known ((heap_alloc_old w' _ HK.out).trans HKR.out) _ _ _
        obtain ⟨y0, y1, y2, _⟩ := cells_known3 a0
        clear a0
        generalize (((w'.alloc (.cells #[.int .i64 s, .int .u8 code, .int .i64 why] 72)).setCell ⟨w.heap.size + 1, 0, none⟩ (.int .i64 s)).setCell ⟨w.heap.size + 1, 1, none⟩ (.int .u8 code)).setCell ⟨w.heap.size + 1, 2, none⟩ (.int .i64 why) = w2 at *
        simp [Leaves, settle, results, Try.results26, go_sem, y0, y1, y2]
        have hws := HWS.out
        rw [HR.out]
        exact ⟨⟨rfl, rfl, rfl⟩, own', ⟨HCH2.out.step.trans SX.out fun b hb => .inr (by omega), HCH2.out.same⟩, fv, c', HAT2.out.offReg HST.out (by omega) SX.out⟩
end
end Go.Proofs.Ytojfgdoniajmeaa
