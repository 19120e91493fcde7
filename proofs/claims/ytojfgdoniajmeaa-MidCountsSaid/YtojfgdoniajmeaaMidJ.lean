/- Package mid: what calls do; apply. -/
import Derived.Test.YtojfgdoniajmeaaMidI
namespace Go.Proofs.Ytojfgdoniajmeaa
set_option linter.unusedVariables false
set_option linter.unusedSimpArgs false
open Go.RowKit

/-- a function is as it may be -/
structure GoodM (fns : List UInt8 → Option FFn) (f : FFn) : Prop where
  kinds : f.kinds.length ≤ 1000
  sizes : ∀ n ∈ f.slots, 1 ≤ n ∧ n ≤ 65536
  params : (∀ r ∈ f.params, 0 ≤ r ∧ r < f.kinds.length) ∧ f.params.length ≤ 1000
  slots : f.slots.length ≤ 1000
  code : f.code ≠ [] ∧ f.code.length ≤ 100000
  ins : ∀ i ∈ f.code, goodIM f i = true ∧ i.name.size ≤ maxLen ∧ is64 i.n ∧ i.args.length ≤ 1000
  last : ∀ i, f.code.getLast? = some i → i.op = 17 ∨ i.op = 18 ∨ i.op = 22
  calls : ∀ i ∈ f.code, i.op = 16 → ∃ g, fns i.name.data.toList = some g ∧ i.args.length = g.params.length
/-- the functions' values are those of the functions -/
def UEnvM (w0 : World) (fnv : List UInt8 → Option Value) (fns : List UInt8 → Option FFn) : Prop := ∀ s f, fns s = some f → ∃ v, fnv s = some v ∧ FnAt w0 v f ∧ GoodM fns f

/-- how a call ends -/
def CallPost (w0 w : World) (pw : Nat) (own : Nat → Nat) (fnv : List UInt8 → Option Value) (tops : List UInt8 → Option HP) (r : MRes) (e : Ending) (w' : World) : Prop :=
  match r with
  | .ret st v => e = .returned v.val ∧ ∃ own' c, Chg own own' w w' ∧ MWAt w0 w' pw own' fnv tops st c ∧ (c : Int) ≤ 4000 + 2000 * st.steps
  | .stop st s code why => e = .panicked [{ v := stopV s code why, recovered := false }] ∧ ∃ own' c, Chg own own' w w' ∧ MWAt w0 w' pw own' fnv tops st c
/-- a row of values that is no part of the machine -/
def ValRow (w : World) (own : Nat → Nat) (v : Value) (l : List HV) : Prop := RowAt w (fun b => own b = 0) 98 5 v l.length (vrow l)
/-- what calls do, with so much to go -/
def CallC (w0 : World) (pw : Nat) (fnv : List UInt8 → Option Value) (fns : List UInt8 → Option FFn) (tops : List UInt8 → Option HP) (n : Nat) : Prop :=
  ∀ (w : World) (own : Nat → Nat) (st : MSt) (c : Nat) (g : FFn) (gv : Value) (args : List HV) (va : Value), MWAt w0 w pw own fnv tops st c → SInvM tops st 1002 → (c : Int) + 1002 ≤ 4000 + 2000 * st.steps → FnAt w0 gv g → GoodM fns g →
    args.length = g.params.length → (∀ y ∈ args, y.ok) → ValRow w own va args → (st.fuel - st.steps).toNat ≤ n →
    Calls Try.prog 34 #[.pointer (some ⟨pw, 0, none⟩), gv, va] w (CallPost w0 w pw own fnv tops (callM fns tops n st g args))

section
variable {w0 w w' w1 w2 : World} {pf pw gx : Nat} {own own' own'' : Nat → Nat} {vn vp vk vs vc vr vl : Value} {regs : List HV} {slots : List HP} {fnv : List UInt8 → Option Value} {tops : List UInt8 → Option HP} {st : MSt} {c : Nat} {fns : List UInt8 → Option FFn}

theorem CallPost.before {r : MRes} {e : Ending} (h : CallPost w0 w1 pw own fnv tops r e w') (s : Step (fun _ => False) w w1) : CallPost w0 w pw own fnv tops r e w' := by
  cases r with
  | ret st v => obtain ⟨h1, own', c, h2, h3⟩ := h; exact ⟨h1, own', c, (Chg.calm own s).trans h2, h3⟩
  | stop st s' code why => obtain ⟨h1, own', c, h2, h3⟩ := h; exact ⟨h1, own', c, (Chg.calm own s).trans h2, h3⟩
theorem val_info : (Try.prog.info? 98).map (fun i => (i.zero, i.size, i.bytes)) = some (some (.agg #[.int .u64 0, .int .i64 0, .int .i64 0, .int .i64 0, .int .i64 0]), 5, 40) := by kernel_rfl
theorem fn_facts (hW : MWAt w0 w pw own fnv tops st c) {nm : ByteArray} (hn : nm.size ≤ maxLen) {gv : Value} (hg : fnv nm.data.toList = some gv) : ∃ bf, ∀ y, Step (fun _ => False) w y → y.cell? ⟨pw, 2, none⟩ = some (.map (some bf)) ∧ (Instr.lookup 55 (.map (some bf)) (.string nm) false).run Try.prog y = .ok gv y := by
  obtain ⟨ph, bt, bf, vi, vo, P⟩ := hW
  refine ⟨bf, fun y hy => ⟨cell_known (hy.keeps P.struct) rfl, ?_⟩⟩
  have := (P.still hy).fns.lookup (t := 55) (e := 46) Try.underlying9 Try.underlying55 (zero_fn y) hn
  rw [hg] at this
  exact this
theorem vrow_snoc (l : List HV) (x : HV) : vrow (l ++ [x]) = vrow l ++ x.cells := by unfold vrow; simp
theorem pickV_snoc (regs : List HV) (l : List Int) (k : Nat) (hk : k < l.length) : pickV regs (l.take (k + 1)) = pickV regs (l.take k) ++ [rgV regs (l.getD k 0)] := by
  unfold pickV
  rw [List.take_succ_eq_append_getElem hk, List.map_append, List.getD_eq_getElem?_getD, List.getElem?_eq_getElem hk]; rfl

def planAp7 : Plan where
  T := [[], [0], [0, 1], [0, 1, 2], [], [4], [4, 5], [4, 5, 6], [4, 5, 6, 7], [4, 5, 6, 7, 8], [4, 5, 6, 7, 8, 9], [], [11], [4, 5, 6, 7, 8, 9, 10, 11, 12], [], [0, 1, 2, 3, 4, 5, 6, 7, 8, 9, 10, 11, 12, 13, 14], [0, 1, 2, 3, 4, 5, 6, 7, 8, 9, 10, 11, 12, 13, 14, 15]]
  rd := [[], [(0, some 26)], [(1, some 27)], [(2, some 28)], [], [(4, some 30)], [(5, some 31)], [(6, some 32)], [(7, some 33)], [(8, some 34)], [(9, some 35)], [], [(11, some 37)], [(10, some 36), (12, some 38)], []]
  all := [(14, some 40), (13, some 39), (12, some 38), (11, some 37), (10, some 36), (9, some 35), (8, some 34), (7, some 33), (6, some 32), (5, some 31), (4, some 30), (3, some 29), (2, some 28), (1, some 27), (0, some 26)]
  calm := [true, true, true, true, true, true, true, true, true, true, true, true, true, true, true]
  hard := []
  fresh := [false, false, false, false, false, false, false, false, false, false, false, false, false, false, false]

set_option maxHeartbeats 8000000 in
set_option maxRecDepth 100000 in
theorem apply_any {v : Value} {i : FIns} {n_ : Nat} {g : FFn} {gv : Value} (hW : MWAt w0 w pw own fnv tops st c) (hF : MFr w own pf pw gx vn vp vk vs vc vr vl regs slots) (hi : InsAt w0 v i) (hC : CallC w0 pw fnv fns tops n_) (hfn : fnv i.name.data.toList = some gv) (hgv : FnAt w0 gv g) (hgg : GoodM fns g) (hS : SInvM tops st 1002) (hc : (c : Int) + 1002 ≤ 4000 + 2000 * st.steps)
    (hok : ∀ y ∈ regs, y.ok) (hnm : i.name.size ≤ maxLen) (hla : i.args.length = g.params.length) (hr : ∀ r ∈ i.args, ok1 regs r) (hfuel : (st.fuel - st.steps).toNat ≤ n_) :
    Calls Try.prog 67 #[.pointer (some ⟨pf, 0, none⟩), v] w (CallPost w0 w pw own fnv tops (callM fns tops n_ st g (pickV regs i.args))) := by
  obtain ⟨va, vo, rfl, iargs, iouts⟩ := hi
  obtain ⟨op, dst, a, b, n, size, name, args, outs, tt⟩ := i
  simp only at *
  obtain ⟨i0, hi, hz0, hz1, hz2⟩ := info_parts val_info
  have hal : args.length ≤ 1000 := by have := hgg.params.2; omega
  obtain ⟨bf, fnf⟩ := fn_facts hW hnm hfn
  have CA := Lib.hid (show ∀ y vv own', MWAt w0 y pw own' fnv tops st c → ValRow y own' vv (pickV regs args) → _ from fun y vv own' hw hv => hC y own' st c g gv (pickV regs args) vv hw hS hc hgv hgg (by unfold pickV; simpa using hla) (by
    intro z hz
    unfold pickV at hz
    obtain ⟨r, _, rfl⟩ := List.mem_map.1 hz
    exact rgV_ok hok r) hv hfuel)
  have HW := Lib.hid hW
  have HF := Lib.hid hF
  have FF := Lib.hid (frame_facts hF)
  have FR := Lib.hid (reg_facts hF)
  have FN := Lib.hid fnf
  have HR := Lib.hid hr
  have HA := Lib.hid iargs
  clear hC hfn hgv hgg hS hc hok hnm hla hr hfuel fnf iargs iouts hW hF
  have HZ0 := Lib.hid (show (w.alloc (.cells #[.int .i64 op, .int .i64 dst, .int .i64 a, .int .i64 b, .int .u64 n, .int .i64 size, .string name, va, vo, .int .i64 tt] 42 (0, 0))).heap.size = w.heap.size + 1 from by simp)
  have KB0 := Lib.hid (heap_alloc_new w (.cells #[.int .i64 op, .int .i64 dst, .int .i64 a, .int .i64 b, .int .u64 n, .int .i64 size, .string name, va, vo, .int .i64 tt] 42 (0, 0)))
  have S0 := Lib.hid (Step.alloc (fun _ => False) w (.cells #[.int .i64 op, .int .i64 dst, .int .i64 a, .int .i64 b, .int .u64 n, .int .i64 size, .string name, va, vo, .int .i64 tt] 42 (0, 0)))
  obtain ⟨⟨ap, acap, rfl, ha1, ha2, hac⟩, _⟩ := HA.out
  have HAC := Lib.hid hac
  clear hac ha1 ha2 HA
  go_enter Try.func67, Try.ntmps67
  go_upto_region 1 with fail
  generalize w.alloc (.cells #[.int .i64 op, .int .i64 dst, .int .i64 a, .int .i64 b, .int .u64 n, .int .i64 size, .string name, .slice ap args.length acap, vo, .int .i64 tt] 42 (0, 0)) = wa at HZ0 KB0 S0 ⊢
  have kv := heap_alloc_new wa (.cells #[.int .u64 0, .int .i64 0, .int .i64 0, .int .i64 0, .int .i64 0] 98 (0, 0))
  have s2 := Step.alloc (fun _ => False) wa (.cells #[.int .u64 0, .int .i64 0, .int .i64 0, .int .i64 0, .int .i64 0] 98 (0, 0))
  rw [HZ0.out] at kv
  generalize wa.alloc (.cells #[.int .u64 0, .int .i64 0, .int .i64 0, .int .i64 0, .int .i64 0] 98 (0, 0)) = w1 at kv s2 ⊢
  have HT := Lib.hid (show w.heap.size ≠ w.heap.size + 1 ∧ own w.heap.size = 0 ∧ own (w.heap.size + 1) = 0 ∧ ∀ b, w.heap.size ≤ b → own b = 0 from by
    have h : ∀ b, w.heap.size ≤ b → own b = 0 := fun b hb => by
      by_cases e : own b = 0
      · exact e
      · have := (HW.out.low b e).2; omega
    exact ⟨by omega, h _ (Nat.le_refl _), h _ (by omega), h⟩)
  obtain ⟨tb, htb⟩ : ∃ tb, w.heap.size = tb := ⟨_, rfl⟩
  obtain ⟨tv, htv⟩ : ∃ tv, w.heap.size + 1 = tv := ⟨_, rfl⟩
  rw [htv] at kv HT ⊢
  rw [htb] at KB0 HT ⊢
  have KB := Lib.hid (s2.keeps KB0.out)
  have KV := Lib.hid kv
  have S1 := Lib.hid (S0.out.then s2)
  have HTB := Lib.hid htb
  have HTV := Lib.hid (show tv = tb + 1 from by omega)
  clear KB0 kv s2 htb htv HZ0 S0
  obtain ⟨b0, b1, b2, b3, b4, b5, b6, b7, b8, b9⟩ := box_facts KB.out _ (Step.refl _ _)
  go_wp2_with fail
  clear b0 b1 b2 b3 b4 b5 b6 b7 b8 b9
  go_loopw [5, 7, 11] (fun x _ i wr => ∃ k : Nat, k ≤ args.length ∧ i = .int .i64 k ∧ RowAt wr (fun b => w1.heap.size ≤ b) 98 5 x k (vrow (pickV regs (args.take k))) ∧ Step (fun _ => False) w1 wr) (fun _ _ i _ => args.length - (intOf i).toNat)
  case atStart => exact ⟨0, by omega, rfl, by simpa [pickV, vrow] using rowAt_nil _ _ _ _, Step.refl _ _⟩
  case round =>
    obtain ⟨k, hk, rfl, hrow, hst⟩ := hrel
    by_cases hlt : k < args.length
    · have hd : decide (k < args.length) = true := decide_eq_true hlt
      obtain ⟨ra, hpa, hca⟩ := HAC.out k hlt
      subst hpa
      have hca := ((HW.out.since.cell (block_lt hca) (fun x => absurd x (by have := block_lt hca; omega))).trans hca)
      have hca := ((S1.out.then hst).cell (block_lt hca) fun x => x).trans hca
      have hr := HR.out (args.getD k 0) (by rw [List.getD_eq_getElem?_getD, List.getElem?_eq_getElem hlt]; exact List.getElem_mem hlt)
      unfold ok1 at hr
      obtain ⟨rcap, rfl⟩ := regs_slice HF.out (by omega)
      have HPK := Lib.hid (pickV_snoc regs args k hlt)
      obtain ⟨f0, f3, f6, f7⟩ := FF.out _ (S1.out.then hst)
      have hpf := block_lt f6
      simp only at hpf
      obtain ⟨c0, c1, c2, c3, c4, zr⟩ := FR.out _ (S1.out.then hst) _ hr
      have HROW := Lib.hid hrow
      have HST := Lib.hid hst
      clear hrow hst
      generalize args.getD k 0 = r at *
      generalize rgV regs r = xx at *
      obtain ⟨xn, xb, xo, xl, xh⟩ := xx
      simp only at c0 c1 c2 c3 c4
      go_wp2_with (first | (at_builtin; refine wpList_append_row rfl (.tmp 15) (.tmp 23) 115 rfl (fun b => w1.heap.size ≤ b) 98 i0 _ 5 40 Try.underlying115 hi hz0 hz1 hz2 rfl _ _ _ rfl (HROW.out.al _) ⟨wr.heap.size, 0, none⟩ 1 1 [.int .u64 xn, .int .i64 xb, .int .i64 xo, .int .i64 xl, .int .i64 xh] rfl (by omega) rfl ?c1 ?c2 ?c3 ?c4 ?_))
      case c1 => exact new_cells rfl [_, _, _, _, _] _
      case c2 => intro u hu; simp at hu; rcases hu with rfl | rfl | rfl | rfl | rfl <;> rfl
      case c3 => simp only [maxLen]; omega
      case c4 => omega
      intro g' cap' w3 hr1 hst1 hz
      have HR1 := Lib.hid hr1
      have HS1 := Lib.hid hst1
      clear hr1 hst1
      go_wp2_with fail
      go_roundw
      case rel =>
        have hsz := HST.out.size
        refine ⟨k + 1, by omega, by go_num, ?_, ?_⟩
        · rw [HPK.out, vrow_snoc]
          exact HR1.out.mono fun b hb => by
            rcases hb with hb | hb
            · exact hb
            · rw [hb]; omega
        · exact HST.out.trans (((Step.refl (fun b => w1.heap.size ≤ b) wr).al _).trans HS1.out fun _ x => .inl x) fun b hb => .inr hb
      case measure => simp [intOf]; omega
    · have hd : decide (k < args.length) = false := decide_eq_false hlt
      have e : k = args.length := by omega
      subst e
      rw [List.take_length] at hrow
      have HROW := Lib.hid hrow
      have HST := Lib.hid hst
      clear hrow hst
      go_upto_region 7 with fail
      have S2 := Lib.hid (S1.out.then HST.out)
      have FB := Lib.hid (box_facts (HST.out.keeps KB.out))
      have KV2 := Lib.hid (HST.out.keeps KV.out)
      refine wp_region_each 15 planAp7 (fun _ _ => False) (Step (fun _ => False) wr) (fun _ => True) [Is ?v7_1_0, Is ?v7_1_1, Is ?v7_1_2, Is ?v7_1_3, Is ?v7_1_4, Is ?v7_1_5, Is ?v7_1_6, Is ?v7_1_7, Is ?v7_1_8, Is ?v7_1_9, Is ?v7_1_10, Is ?v7_1_11, Is ?v7_1_12, Is ?v7_1_13, Is ?v7_1_14] [] (by kernel_rfl) (by kernel_rfl) (fun _ _ h => h.elim) ((Step.refl _ _).drew) (trivial) ?stab7_1 ?stabD7_1 ?obl7_1 ?fin7_1
      case stab7_1 => exact fun w w' h => ⟨fun k => k.trans h (fun _ x => x.elim), fun _ => trivial, ⟨fun _ k => k, fun _ k => k, fun _ k => k, fun _ k => k, fun _ k => k, fun _ k => k, fun _ k => k, fun _ k => k, fun _ k => k, fun _ k => k, fun _ k => k, fun _ k => k, fun _ k => k, fun _ k => k, fun _ k => k, trivial⟩, trivial⟩
      case stabD7_1 => exact fun _ _ h => h.elim
      case obl7_1 =>
        refine ⟨?o7_1_0, ?o7_1_1, ?o7_1_2, ?o7_1_3, ?o7_1_4, ?o7_1_5, ?o7_1_6, ?o7_1_7, ?o7_1_8, ?o7_1_9, ?o7_1_10, ?o7_1_11, ?o7_1_12, ?o7_1_13, ?o7_1_14, trivial⟩
        all_goals intro xv wq hH hS H hU aq ha Q' hQ
        case o7_1_0 => cases rd0 ha; clear H hU hS; go_wp2_with fail; (try refine hQ _ _ ?_); refine ⟨Step.refl _ _, ?_, trivial, nofun⟩; exact (rfl : _ = _)
        case o7_1_1 | o7_1_2 => have ha := rd1 ha H (by kernel_rfl) rfl; simp only [q3, q5, q6, q7] at ha; subst ha; clear H hU hS; go_wp2_with fail; (try refine hQ _ _ ?_); refine ⟨Step.refl _ _, ?_, trivial, nofun⟩; exact (rfl : _ = _)
        case o7_1_3 => obtain ⟨f0, f3, f6, f7⟩ := FF.out _ (S2.out.then hH); obtain ⟨m0, lk⟩ := FN.out _ (S2.out.then hH); obtain ⟨b0, b1, b2, b3, b4, b5, b6, b7, b8, b9⟩ := FB.out _ hH; have ha := rd1 ha H (by kernel_rfl) rfl; simp only [q3, q5, q6, q7] at ha; subst ha; clear H hU hS; go_wp2_with fail; (try refine hQ _ _ ?_); refine ⟨Step.refl _ _, ?_, trivial, nofun⟩; exact (rfl : _ = _)
        case o7_1_4 => cases rd0 ha; clear H hU hS; go_wp2_with fail; (try refine hQ _ _ ?_); refine ⟨Step.refl _ _, ?_, trivial, nofun⟩; exact (rfl : _ = _)
        case o7_1_5 | o7_1_6 => have ha := rd1 ha H (by kernel_rfl) rfl; simp only [q3, q5, q6, q7] at ha; subst ha; clear H hU hS; go_wp2_with fail; (try refine hQ _ _ ?_); refine ⟨Step.refl _ _, ?_, trivial, nofun⟩; exact (rfl : _ = _)
        case o7_1_7 => obtain ⟨f0, f3, f6, f7⟩ := FF.out _ (S2.out.then hH); obtain ⟨m0, lk⟩ := FN.out _ (S2.out.then hH); obtain ⟨b0, b1, b2, b3, b4, b5, b6, b7, b8, b9⟩ := FB.out _ hH; have ha := rd1 ha H (by kernel_rfl) rfl; simp only [q3, q5, q6, q7] at ha; subst ha; clear H hU hS; go_wp2_with fail; (try refine hQ _ _ ?_); refine ⟨Step.refl _ _, ?_, trivial, nofun⟩; exact (rfl : _ = _)
        case o7_1_8 | o7_1_9 => have ha := rd1 ha H (by kernel_rfl) rfl; simp only [q3, q5, q6, q7] at ha; subst ha; clear H hU hS; go_wp2_with fail; (try refine hQ _ _ ?_); refine ⟨Step.refl _ _, ?_, trivial, nofun⟩; exact (rfl : _ = _)
        case o7_1_10 => obtain ⟨f0, f3, f6, f7⟩ := FF.out _ (S2.out.then hH); obtain ⟨m0, lk⟩ := FN.out _ (S2.out.then hH); obtain ⟨b0, b1, b2, b3, b4, b5, b6, b7, b8, b9⟩ := FB.out _ hH; have ha := rd1 ha H (by kernel_rfl) rfl; simp only [q3, q5, q6, q7] at ha; subst ha; clear H hU hS; go_wp2_with fail; (try refine hQ _ _ ?_); refine ⟨Step.refl _ _, ?_, trivial, nofun⟩; exact (rfl : _ = _)
        case o7_1_11 => cases rd0 ha; clear H hU hS; go_wp2_with fail; (try refine hQ _ _ ?_); refine ⟨Step.refl _ _, ?_, trivial, nofun⟩; exact (rfl : _ = _)
        case o7_1_12 => obtain ⟨f0, f3, f6, f7⟩ := FF.out _ (S2.out.then hH); obtain ⟨m0, lk⟩ := FN.out _ (S2.out.then hH); obtain ⟨b0, b1, b2, b3, b4, b5, b6, b7, b8, b9⟩ := FB.out _ hH; have ha := rd1 ha H (by kernel_rfl) rfl; simp only [q3, q5, q6, q7] at ha; subst ha; clear H hU hS; go_wp2_with fail; (try refine hQ _ _ ?_); refine ⟨Step.refl _ _, ?_, trivial, nofun⟩; exact (rfl : _ = _)
        case o7_1_13 => obtain ⟨f0, f3, f6, f7⟩ := FF.out _ (S2.out.then hH); obtain ⟨m0, lk⟩ := FN.out _ (S2.out.then hH); obtain ⟨b0, b1, b2, b3, b4, b5, b6, b7, b8, b9⟩ := FB.out _ hH; have ha := rd2 ha H (by kernel_rfl) (by kernel_rfl) rfl rfl; simp only [q3, q5, q6, q7] at ha; subst ha; clear H hU hS; go_wp2_with fail; (try refine hQ _ _ ?_); refine ⟨Step.refl _ _, ?_, trivial, nofun⟩; exact (rfl : _ = _)
        case o7_1_14 => cases rd0 ha; clear H hU hS; go_wp2_with fail; (try refine hQ _ _ ?_); refine ⟨Step.refl _ _, ?_, trivial, nofun⟩; exact (rfl : _ = _)
      intro xv w4 hH hS H hU hsz hF hN
      have h0 : xv 0 = _ := H 0 (by decide) (by kernel_rfl); have h1 : xv 1 = _ := H 1 (by decide) (by kernel_rfl); have h2 : xv 2 = _ := H 2 (by decide) (by kernel_rfl); have h3 : xv 3 = _ := H 3 (by decide) (by kernel_rfl); have h4 : xv 4 = _ := H 4 (by decide) (by kernel_rfl); have h5 : xv 5 = _ := H 5 (by decide) (by kernel_rfl); have h6 : xv 6 = _ := H 6 (by decide) (by kernel_rfl); have h7 : xv 7 = _ := H 7 (by decide) (by kernel_rfl); have h8 : xv 8 = _ := H 8 (by decide) (by kernel_rfl); have h9 : xv 9 = _ := H 9 (by decide) (by kernel_rfl); have h10 : xv 10 = _ := H 10 (by decide) (by kernel_rfl); have h11 : xv 11 = _ := H 11 (by decide) (by kernel_rfl); have h12 : xv 12 = _ := H 12 (by decide) (by kernel_rfl); have h13 : xv 13 = _ := H 13 (by decide) (by kernel_rfl); have h14 : xv 14 = _ := H 14 (by decide) (by kernel_rfl)
      simp only [planAp7, q1, q2, q3, q5, q6, q7, q4, List.drop_succ_cons, List.drop_zero, h0, h1, h2, h3, h4, h5, h6, h7, h8, h9, h10, h11, h12, h13, h14]
      clear H hF hN hS hU h0 h1 h2 h3 h4 h5 h6 h7 h8 h9 h10 h11 h12 h13 h14
      have R4 := Lib.hid (show ValRow w4 own u5 (pickV regs args) from by
        have e : (pickV regs args).length = args.length := by unfold pickV; simp
        unfold ValRow
        rw [e]
        refine (HROW.out.same fun b _ hb => hH.block b hb fun x => x).mono fun b hb => HT.out.2.2.2 b ?_
        have h1 := S1.out.size
        have h2 := HTB.out
        omega)
      have HW4 := Lib.hid (HW.out.still (S2.out.then hH))
      have K4 := Lib.hid (hH.keeps KV2.out)
      have S4 := Lib.hid (S2.out.then hH)
      clear hH
      go_wp2_with fail
      refine (CA.out _ _ own HW4.out R4.out).mono ?_
      generalize callM fns tops n_ st g (pickV regs args) = res at *
      rintro e w5 hpost
      cases res with
      | stop st' s code why =>
        obtain ⟨rfl, own1, c1, ch, at1⟩ := hpost
        have CH := Lib.hid ch
        have AT := Lib.hid at1
        clear ch at1
        go_wp2_with fail
        exact ⟨rfl, rfl, own1, c1, (Chg.calm own S4.out).trans CH.out, AT.out⟩
      | ret st' v =>
        obtain ⟨rfl, own1, c1, ch, at1, hc1⟩ := hpost
        obtain ⟨xn, ⟨xb, xo, xl, xh⟩⟩ := v
        have kv5 := ch.keeps K4.out HT.out.2.2.1
        have h0 := ch.stays0 K4.out HT.out.2.2.1
        obtain ⟨v0, v1, v2, v3, v4, y0, y1, y2, y3, y4⟩ := cells_known5 kv5
        have CH := Lib.hid ((Chg.calm own S4.out).trans ch)
        have AT := Lib.hid at1
        have HC1 := Lib.hid hc1
        have H0 := Lib.hid h0
        clear ch at1 hc1 h0 kv5
        simp only [HV.val]
        go_wp2_with fail
        have hle : w.heap.size ≤ tv := by have := HTB.out; have := HTV.out; omega
        refine bodyPost_ret (v := (HV.mk xn ⟨xb, xo, xl, xh⟩).val) (by simp [results, Try.results67, go_sem, v0, v1, v2, v3, v4, HV.val]) rfl ?_
        exact ⟨rfl, own1, c1, ⟨set5_step CH.out.step (.inr hle) _ _ _ _ _, CH.out.same⟩, AT.out.setV H0.out (Nat.le_trans HW.out.since.size hle) 0 ⟨xn, ⟨xb, xo, xl, xh⟩⟩, HC1.out⟩
end
end Go.Proofs.Ytojfgdoniajmeaa
