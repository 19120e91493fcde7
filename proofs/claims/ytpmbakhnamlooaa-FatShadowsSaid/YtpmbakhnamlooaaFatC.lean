/- Package fat's functions of bytes: load, store. -/
import Derived.Test.YtpmbakhnamlooaaFatB
import Derived.Deep.Cut
namespace Go.Proofs.Ytpmbakhnamlooaa
set_option linter.unusedVariables false
set_option linter.unusedSimpArgs false
open Go.RowKit

section
variable {w0 w w' w'' : World} {pw : Nat} {own own' own'' : Nat → Nat} {fnv : List UInt8 → Option Value} {tops : List UInt8 → Option Int} {st : FSt} {c : Nat} {bf bt bm bs bb : Nat} {vl vi vo : Value}

theorem zero_u8 (w : World) : (zeroValue 5).run Try.prog w = .ok (.int .u8 0) w := by
  kernel_rfl
def byteAt (mem : Int → Option Int) (a : Int) : Int := (mem a).getD 0
theorem byteAt_val (mem : Int → Option Int) (a : Int) : ((mem a).map (Value.int .u8)).getD (.int .u8 0) = .int .u8 (byteAt mem a) := by
  unfold byteAt; cases mem a <;> rfl
def loadAcc (mem : Int → Option Int) (a : Int) : Nat → Int
  | 0 => 0
  | k + 1 => bits .or .u64 (loadAcc mem a k) (IntKind.u64.wrap (byteAt mem (a + k) * 2 ^ (8 * k)))

/-- what is loaded -/
def loadF (mem : Int → Option Int) (a n : Int) : Int := nar (loadAcc mem a n.toNat) (8 * n) true

set_option maxHeartbeats 1000000 in
theorem load_ok (h : FWAt w0 w pw own fnv tops st c) (a n : Int) (hn : n = 1 ∨ n = 4 ∨ n = 8) (hp : placeF a n = true) (hm : ∀ x b, st.mem x = some b → 0 ≤ b ∧ b ≤ 255) :
    Calls Try.prog 87 #[.pointer (some ⟨pw, 0, none⟩), .int .u64 a, .int .i64 n] w fun e w' => e = .returned (.int .u64 (loadF st.mem a n)) ∧ w = w' := by
  obtain ⟨bf, bt, bm, bs, bb, vl, vi, vo, h⟩ := h
  have hpp := hp
  unfold placeF at hpp
  simp only [Bool.and_eq_true, beq_iff_eq, decide_eq_true_eq] at hpp
  obtain ⟨⟨_, p2⟩, p3⟩ := hpp
  have c2 := h.cells.1.2.2.1
  have hn1 : 1 ≤ n ∧ n ≤ 8 := by omega
  have LK := fun (k : Int) (h0 : 0 ≤ k) (h1 : k ≤ 8) => h.mem.lookup (a := a + k) (t := 67) (e := 5) Try.underlying38 Try.underlying67 (zero_u8 w) (by simp [Lit.wf, IntKind.min, IntKind.max, IntKind.bits, IntKind.signed]; omega)
  have PL := place_ok (.pointer (some ⟨pw, 0, none⟩)) a n hn hp
  have PL := Lib.hid PL
  have LK := Lib.hid LK
  clear hp hn h
  go_enter Try.func87, Try.ntmps87
  go_wp2_with fail
  refine (PL.out _).mono ?_; rintro e w' ⟨rfl, rfl⟩
  go_wp2_with fail
  go_loop [7, 8, 14] (fun x _ i => ∃ k : Nat, (k : Int) ≤ n ∧ i = .int .i64 k ∧ x = .int .u64 (loadAcc st.mem a k)) (fun _ _ i => (n - intOf i).toNat)
  case atStart => exact ⟨0, by omega, rfl, rfl⟩
  case round =>
    obtain ⟨k, hk, rfl, rfl⟩ := hrel
    by_cases hlt : (k : Int) < n
    · have hd : decide ((k : Int) < n) = true := decide_eq_true hlt
      have lk := LK.out k (by omega) (by omega)
      rw [byteAt_val] at lk
      have ew : IntKind.u64.wrap (k : Int) = k := by rw [IntKind.wrap_u64]; omega
      have ew2 : IntKind.u64.wrap (a + k) = a + k := by rw [IntKind.wrap_u64]; omega
      have hby : 0 ≤ byteAt st.mem (a + k) ∧ byteAt st.mem (a + k) ≤ 255 := by
        unfold byteAt
        cases e : st.mem (a + k) with
        | none => simp
        | some b => exact hm _ _ e
      have ha : loadAcc st.mem a (k + 1) = bits .or .u64 (loadAcc st.mem a k) (IntKind.u64.wrap (byteAt st.mem (a + k) * 2 ^ (8 * k))) := rfl
      generalize byteAt st.mem (a + k) = b at *
      generalize loadAcc st.mem a k = acc at *
      have HA := Lib.hid ha
      clear ha
      go_wp2_with fail
      go_round
      case rel => exact ⟨k + 1, by omega, by go_num, by rw [HA.out]⟩
      case measure => simp [intOf]; omega
    · have hd : decide ((k : Int) < n) = false := decide_eq_false hlt
      obtain rfl : (k : Int) = n := by omega
      have ek : IntKind.i64.wrap (8 * (k : Int)) = 8 * k := by rw [IntKind.wrap_i64]; omega
      have N := Lib.hid (narrow_in (loadAcc st.mem a k) (8 * k) true (by omega) (by omega))
      have hF : loadF st.mem a k = nar (loadAcc st.mem a k) (8 * k) true := by unfold loadF; simp
      have HF := Lib.hid hF
      clear hF
      generalize loadAcc st.mem a k = acc at *
      go_wp2_with fail
      refine (N.out _).mono ?_; rintro e w' ⟨rfl, rfl⟩
      go_wp2_with fail
      go_ret
      exact ⟨by rw [HF.out]; rfl, rfl⟩

theorem load_no (a n : Int) (hn : n = 1 ∨ n = 4 ∨ n = 8) (h0 : 0 ≤ a) (hp : placeF a n = false) (w : World) :
    Calls Try.prog 87 #[.pointer (some ⟨pw, 0, none⟩), .int .u64 a, .int .i64 n] w fun e w' => e = .panicked [{ v := stopV 4 0, recovered := false }] ∧ w = w' := by
  have PL := Lib.hid (place_no (.pointer (some ⟨pw, 0, none⟩)) a n hn h0 hp)
  clear hp hn
  go_enter Try.func87, Try.ntmps87
  go_wp2_with fail
  refine (PL.out _).mono ?_; rintro e w' ⟨rfl, rfl⟩
  exact ⟨rfl, rfl, rfl⟩
theorem store_no (a n x : Int) (hn : n = 1 ∨ n = 4 ∨ n = 8) (h0 : 0 ≤ a) (hp : placeF a n = false) (w : World) :
    Calls Try.prog 88 #[.pointer (some ⟨pw, 0, none⟩), .int .u64 a, .int .i64 n, .int .u64 x] w fun e w' => e = .panicked [{ v := stopV 4 0, recovered := false }] ∧ w = w' := by
  have PL := Lib.hid (place_no (.pointer (some ⟨pw, 0, none⟩)) a n hn h0 hp)
  clear hp hn
  go_enter Try.func88, Try.ntmps88
  go_wp2_with fail
  refine (PL.out _).mono ?_; rintro e w' ⟨rfl, rfl⟩
  exact ⟨rfl, rfl, rfl⟩
/-- memory after k bytes of x were put at a -/
def storeAcc (mem : Int → Option Int) (a x : Int) : Nat → Int → Option Int
  | 0 => mem
  | k + 1 => fun y => if y = a + k then some (x / 2 ^ (8 * k) % 256) else storeAcc mem a x k y
def planStore : Plan where
  T := [[], [0], [0, 1], [0, 1, 2], [], [], [5], [4, 5, 6], [], [], [9], [8, 9, 10], [8, 9, 10, 11], [0, 1, 2, 3, 4, 5, 6, 7, 8, 9, 10, 11, 12]]
  rd := [[], [(0, some 17)], [(1, some 18)], [(2, some 19)], [], [], [(5, some 22)], [(4, some 21), (6, some 23)], [], [], [(9, some 26)], [(8, some 25), (10, some 27)], [(11, some 28)]]
  all := [(12, some 29), (11, some 28), (10, some 27), (9, some 26), (8, some 25), (7, some 24), (6, some 23), (5, some 22), (4, some 21), (3, some 20), (2, some 19), (1, some 18), (0, some 17)]
  calm := [true, true, true, true, true, true, true, true, true, true, true, true, true]
  hard := []
  fresh := [false, false, false, false, false, false, false, false, false, false, false, false, false]

set_option maxHeartbeats 4000000 in
set_option maxRecDepth 100000 in
theorem store_ok (h : FWAt w0 w pw own fnv tops st c) (hc : c ≤ 1000000000) (a n x : Int) (hn : n = 1 ∨ n = 4 ∨ n = 8) (hp : placeF a n = true) :
    Calls Try.prog 88 #[.pointer (some ⟨pw, 0, none⟩), .int .u64 a, .int .i64 n, .int .u64 x] w fun e w' => e = .returned (.tuple #[]) ∧ Chg own own w w' ∧ FWAt w0 w' pw own fnv tops { st with mem := storeAcc st.mem a x n.toNat } (c + 8) := by
  have hpp := hp
  unfold placeF at hpp
  simp only [Bool.and_eq_true, beq_iff_eq, decide_eq_true_eq] at hpp
  obtain ⟨⟨_, p2⟩, p3⟩ := hpp
  have hn1 : 1 ≤ n ∧ n ≤ 8 := by omega
  have PL := Lib.hid (place_ok (.pointer (some ⟨pw, 0, none⟩)) a n hn hp)
  have HW := Lib.hid h
  clear hp hn h
  go_enter Try.func88, Try.ntmps88
  go_wp2_with fail
  refine (PL.out _).mono ?_; rintro e w' ⟨rfl, rfl⟩
  go_wp2_with fail
  go_loopw [8, 14] (fun _ i wr => ∃ k : Nat, (k : Int) ≤ n ∧ i = .int .i64 k ∧ Chg own own w wr ∧ FWAt w0 wr pw own fnv tops { st with mem := storeAcc st.mem a x k } (c + k)) (fun _ i _ => (n - intOf i).toNat)
  case atStart => exact ⟨0, by omega, rfl, Chg.refl _ _, HW.out⟩
  case round =>
    obtain ⟨k, hk, rfl, hch, hat⟩ := hrel
    have HC := Lib.hid hch
    have HA := Lib.hid hat
    clear hch hat
    obtain ⟨bf, bt, bm, bs, bb, vl, vi, vo, P⟩ := HA.out
    have FACTS := Lib.hid (show ∀ y, Step (fun _ => False) wr y → y.cell? ⟨pw, 2, none⟩ = some (.map (some bm)) from fun y hy => cell_known (hy.keeps P.struct) rfl)
    have HP := Lib.hid P
    clear P
    by_cases hlt : (k : Int) < n
    · have hd : decide ((k : Int) < n) = true := decide_eq_true hlt
      have ew : IntKind.u64.wrap (k : Int) = k := by rw [IntKind.wrap_u64]; omega
      have ew2 : IntKind.u64.wrap (a + k) = a + k := by rw [IntKind.wrap_u64]; omega
      go_upto_region 4 with fail
      refine wp_region_each 13 planStore (fun _ _ => False) (Step (fun _ => False) wr) (fun _ => True) [Is ?v4_1_0, Is ?v4_1_1, Is ?v4_1_2, Is ?v4_1_3, Is ?v4_1_4, Is ?v4_1_5, Is ?v4_1_6, Is ?v4_1_7, Is ?v4_1_8, Is ?v4_1_9, Is ?v4_1_10, Is ?v4_1_11, Is ?v4_1_12] [] (by kernel_rfl) (by kernel_rfl) (fun _ _ h => h.elim) ((Step.refl _ _).drew) (trivial) ?stab4_1 ?stabD4_1 ?obl4_1 ?fin4_1
      case stab4_1 => exact fun w w' h => ⟨fun k => k.trans h (fun _ x => x.elim), fun _ => trivial, ⟨fun _ k => k, fun _ k => k, fun _ k => k, fun _ k => k, fun _ k => k, fun _ k => k, fun _ k => k, fun _ k => k, fun _ k => k, fun _ k => k, fun _ k => k, fun _ k => k, fun _ k => k, trivial⟩, trivial⟩
      case stabD4_1 => exact fun _ _ h => h.elim
      case obl4_1 =>
        refine ⟨?o4_1_0, ?o4_1_1, ?o4_1_2, ?o4_1_3, ?o4_1_4, ?o4_1_5, ?o4_1_6, ?o4_1_7, ?o4_1_8, ?o4_1_9, ?o4_1_10, ?o4_1_11, ?o4_1_12, trivial⟩
        all_goals intro xv wq hH hS H hU aq ha Q' hQ
        case o4_1_0 => cases rd0 ha; clear H hU hS; go_wp2_with fail; (try refine hQ _ _ ?_); refine ⟨Step.refl _ _, ?_, trivial, nofun⟩; exact (rfl : _ = _)
        case o4_1_1 | o4_1_2 => have ha := rd1 ha H (by kernel_rfl) rfl; simp only [q3, q5, q6, q7] at ha; subst ha; clear H hU hS; go_wp2_with fail; (try refine hQ _ _ ?_); refine ⟨Step.refl _ _, ?_, trivial, nofun⟩; exact (rfl : _ = _)
        case o4_1_3 => have c2 := FACTS.out _ hH; have ha := rd1 ha H (by kernel_rfl) rfl; simp only [q3, q5, q6, q7] at ha; subst ha; clear H hU hS; go_wp2_with fail; (try refine hQ _ _ ?_); refine ⟨Step.refl _ _, ?_, trivial, nofun⟩; exact (rfl : _ = _)
        case o4_1_4 | o4_1_5 => cases rd0 ha; clear H hU hS; go_wp2_with fail; (try refine hQ _ _ ?_); refine ⟨Step.refl _ _, ?_, trivial, nofun⟩; exact (rfl : _ = _)
        case o4_1_6 => have c2 := FACTS.out _ hH; have ha := rd1 ha H (by kernel_rfl) rfl; simp only [q3, q5, q6, q7] at ha; subst ha; clear H hU hS; go_wp2_with fail; (try refine hQ _ _ ?_); refine ⟨Step.refl _ _, ?_, trivial, nofun⟩; exact (rfl : _ = _)
        case o4_1_7 => have c2 := FACTS.out _ hH; have ha := rd2 ha H (by kernel_rfl) (by kernel_rfl) rfl rfl; simp only [q3, q5, q6, q7] at ha; subst ha; clear H hU hS; go_wp2_with fail; (try refine hQ _ _ ?_); refine ⟨Step.refl _ _, ?_, trivial, nofun⟩; exact (rfl : _ = _)
        case o4_1_8 | o4_1_9 => cases rd0 ha; clear H hU hS; go_wp2_with fail; (try refine hQ _ _ ?_); refine ⟨Step.refl _ _, ?_, trivial, nofun⟩; exact (rfl : _ = _)
        case o4_1_10 => have c2 := FACTS.out _ hH; have ha := rd1 ha H (by kernel_rfl) rfl; simp only [q3, q5, q6, q7] at ha; subst ha; clear H hU hS; go_wp2_with fail; (try refine hQ _ _ ?_); refine ⟨Step.refl _ _, ?_, trivial, nofun⟩; exact (rfl : _ = _)
        case o4_1_11 => have c2 := FACTS.out _ hH; have ha := rd2 ha H (by kernel_rfl) (by kernel_rfl) rfl rfl; simp only [q3, q5, q6, q7] at ha; subst ha; clear H hU hS; go_wp2_with fail; (try refine hQ _ _ ?_); refine ⟨Step.refl _ _, ?_, trivial, nofun⟩; exact (rfl : _ = _)
        case o4_1_12 => have c2 := FACTS.out _ hH; have ha := rd1 ha H (by kernel_rfl) rfl; simp only [q3, q5, q6, q7] at ha; subst ha; clear H hU hS; go_wp2_with fail; (try refine hQ _ _ ?_); refine ⟨Step.refl _ _, ?_, trivial, nofun⟩; exact (rfl : _ = _)
      intro xv w4 hH hS H hU hsz hF hN
      have h0 : xv 0 = _ := H 0 (by decide) (by kernel_rfl); have h1 : xv 1 = _ := H 1 (by decide) (by kernel_rfl); have h2 : xv 2 = _ := H 2 (by decide) (by kernel_rfl); have h3 : xv 3 = _ := H 3 (by decide) (by kernel_rfl); have h4 : xv 4 = _ := H 4 (by decide) (by kernel_rfl); have h5 : xv 5 = _ := H 5 (by decide) (by kernel_rfl); have h6 : xv 6 = _ := H 6 (by decide) (by kernel_rfl); have h7 : xv 7 = _ := H 7 (by decide) (by kernel_rfl); have h8 : xv 8 = _ := H 8 (by decide) (by kernel_rfl); have h9 : xv 9 = _ := H 9 (by decide) (by kernel_rfl); have h10 : xv 10 = _ := H 10 (by decide) (by kernel_rfl); have h11 : xv 11 = _ := H 11 (by decide) (by kernel_rfl); have h12 : xv 12 = _ := H 12 (by decide) (by kernel_rfl)
      simp only [planStore, q1, q2, q3, q5, q6, q7, q4, List.drop_succ_cons, List.drop_zero, h0, h1, h2, h3, h4, h5, h6, h7, h8, h9, h10, h11, h12]
      clear H hF hN hS hU h0 h1 h2 h3 h4 h5 h6 h7 h8 h9 h10 h11 h12
      have c2 := FACTS.out _ hH
      have P := HP.out
      have hmax : c + k < maxLen := by simp only [maxLen]; omega
      obtain ⟨w5, run, im, gr, sz⟩ := (P.mem.same (hH.block _ P.mem.lt fun x => x)).update (a := a + k) (t := 67) (e := 5) Try.underlying38 Try.underlying67 hmax (by simp [Lit.wf, IntKind.min, IntKind.max, IntKind.bits, IntKind.signed]; omega) (.int .u8 (x / 2 ^ (8 * k) % 256))
      have IM := Lib.hid im
      have GR := Lib.hid gr
      have SZ := Lib.hid sz
      have HH := Lib.hid hH
      clear im gr sz hH
      go_wp2_with fail
      go_roundw
      case rel =>
        have P := HP.out
        have sz := SZ.out
        obtain ⟨t1, t2, t3, t4, t5, t7⟩ := P.tag
        have s5 : Step (fun b => b = bm) wr w5 := (HH.out.mono fun _ _ x => x.elim).trans (Step.of_grown GR.out) fun _ x => .inl x
        have s6 : Step (fun b => own b ≠ 0) wr w5 := s5.mono fun b _ e => by rw [e, t4]; decide
        have z5 := s5.size
        refine ⟨k + 1, by omega, by go_num, HC.out.trans ⟨s6, fun _ _ => rfl⟩, bf, bt, bm, bs, bb, vl, vi, vo, ?_⟩
        refine P.next 4 (c' := c + (k + 1)) (vl' := vl) (vi' := vi) (vo' := vo) (by omega) s6 (fun _ _ => rfl) (fun b hb => Nat.lt_of_lt_of_le (P.low b hb).2 z5) (fun b h0 h1 h2 => s5.block b (P.low b h0).2 fun e => h2 (by rw [e, t4])) (by decide) ?_ ?_ (by simp) (by simp) (by simp) (by simp) P.input
        · exact (s5.block _ (lt_known P.struct) fun e => by rw [e] at t1; omega).trans P.struct
        · rw [if_pos rfl]
          exact (IM.out.le (by omega)).congr fun y => by
            show _ = ((storeAcc st.mem a x (k + 1)) y).map (Value.int .u8)
            simp only [storeAcc]
            split <;> rfl
      case measure => simp [intOf]; omega
    · have hd : decide ((k : Int) < n) = false := decide_eq_false hlt
      go_wp2_with fail
      go_end0
      have e : n.toNat = k := by omega
      rw [e]
      exact ⟨rfl, HC.out, HA.out.le (by omega)⟩
end
end Go.Proofs.Ytpmbakhnamlooaa
