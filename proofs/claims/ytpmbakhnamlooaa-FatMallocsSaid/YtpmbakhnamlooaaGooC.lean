/- Package fat: lists of registers. -/
import Derived.Test.YtpmbakhnamlooaaGooB
namespace Go.Proofs.Ytpmbakhnamlooaa
set_option linter.unusedVariables false
set_option linter.unusedSimpArgs false
open Go.RowKit

theorem onceB_snoc (x : Int) : ∀ l : List Int, onceB (l ++ [x]) = (onceB l && !l.contains x)
  | [] => by simp [onceB]
  | y :: l => by
    have ih := onceB_snoc x l
    simp only [List.cons_append, onceB, ih, List.contains_append, List.contains_cons]
    by_cases e : x = y
    · subst e
      simp
    · have h1 : (x == y) = false := beq_false_of_ne e
      have h2 : (y == x) = false := beq_false_of_ne fun h => e h.symm
      simp [h1, h2, Bool.and_assoc]
theorem onceB_append : ∀ (l m : List Int), onceB (l ++ m) = true → onceB l = true
  | [], _, _ => rfl
  | y :: l, m, h => by
    simp only [List.cons_append, onceB, Bool.and_eq_true, Bool.not_eq_true', List.contains_append, Bool.or_eq_false_iff] at h ⊢
    exact ⟨h.1.1, onceB_append l m h.2⟩
theorem onceB_take {l : List Int} (h : onceB l = true) (k : Nat) : onceB (l.take k) = true := by
  rw [← List.take_append_drop k l] at h
  exact onceB_append _ _ h
theorem IntsAt.take {k : IntKind} {w : World} {p : Option Addr} {l : List Int} {cap : Nat} (h : IntsAt k w (.slice p l.length cap) l) {n : Nat} (hn : n ≤ l.length) : IntsAt k w (.slice p n cap) (l.take n) := by
  obtain ⟨⟨p', cap', e, h1, h2, h3⟩, h4⟩ := h
  cases e
  have hl : (l.take n).length = n := by simp; omega
  refine ⟨⟨p, cap, by rw [hl], by omega, h2, fun i hi => ?_⟩, fun z hz => h4 z (List.mem_of_mem_take hz)⟩
  obtain ⟨a, ha, hc⟩ := h3 i (by omega)
  refine ⟨a, ha, ?_⟩
  rw [hc, List.getD_eq_getElem?_getD, List.getD_eq_getElem?_getD, List.getElem?_take_of_lt (by omega)]

section
variable {w0 w w' : World} {nm : ByteArray} {pp pk ps pc : Option Addr} {np cp nk ck ns cs nc cc : Nat}
set_option maxHeartbeats 1000000 in
set_option maxRecDepth 100000 in
theorem list_any {v : Value} {l : List Int} (hl : IntsAt .i64 w v l) (n : Int) (once : Bool) (hlen : l.length ≤ 1000000) :
    Calls Try.prog 32 #[fnV nm pp np cp pk nk ck ps ns cs pc nc cc, v, .int .i64 n, .bool once] w fun e w' => e = .returned (.bool (listB nk l n once)) ∧ Step (fun _ => False) w w' := by
  have hl0 := hl
  obtain ⟨⟨p, cap, rfl, hcap, hmax, hcell⟩, hwf⟩ := hl
  have HC := Lib.hid hcell
  have HL := Lib.hid hl0
  have REG := Lib.hid (fun (r : Int) (w : World) => register_any (nm := nm) (pp := pp) (np := np) (cp := cp) (pk := pk) (nk := nk) (ck := ck) (ps := ps) (ns := ns) (cs := cs) (pc := pc) (nc := nc) (cc := cc) r true w)
  unfold fnV at *
  clear hcell hwf hl0
  have sa := Step.alloc (fun _ => False) w (.cells #[.string nm, .slice pp np cp, .slice pk nk ck, .slice ps ns cs, .slice pc nc cc] 54 (0, 0))
  have kb := heap_alloc_new w (.cells #[.string nm, .slice pp np cp, .slice pk nk ck, .slice ps ns cs, .slice pc nc cc] 54 (0, 0))
  have SA := Lib.hid sa
  have KB := Lib.hid kb
  clear sa kb
  by_cases hn : 0 ≤ n ∧ (l.length : Int) ≠ n
  · have d0 : decide (0 ≤ n) = true := decide_eq_true hn.1
    have d1 : ((l.length : Int) != n) = true := bne_iff_ne.2 hn.2
    have hres : listB nk l n once = false := by
      unfold listB
      have e1 : decide (n < 0) = false := decide_eq_false (by omega)
      have e2 : decide ((l.length : Int) = n) = false := decide_eq_false hn.2
      rw [e1, e2]; rfl
    have HR := Lib.hid hres
    clear hres hn
    go_enter Try.func32, Try.ntmps32
    go_wp2_with fail
    go_ret
    exact ⟨by rw [HR.out]; rfl, SA.out⟩
  · have hpre : (decide (n < 0) || decide ((l.length : Int) = n)) = true := by
      by_cases h0 : 0 ≤ n
      · have : (l.length : Int) = n := by
          by_cases e : (l.length : Int) = n
          · exact e
          · exact absurd ⟨h0, e⟩ hn
        simp [this]
      · have : n < 0 := by omega
        simp [this]
    have hres : listB nk l n once = (l.all (fun r => regB nk r true) && (!once || onceB l)) := by unfold listB; rw [hpre]; simp
    have HR := Lib.hid hres
    have hcases : decide (0 ≤ n) = false ∨ (decide (0 ≤ n) = true ∧ ((l.length : Int) != n) = false) := by
      by_cases h0 : 0 ≤ n
      · exact .inr ⟨decide_eq_true h0, by
          by_cases e : (l.length : Int) = n
          · rw [e]; simp
          · exact absurd ⟨h0, e⟩ hn⟩
      · exact .inl (decide_eq_false h0)
    clear hres hpre hn
    rcases hcases with d0 | ⟨d0, d1⟩
    all_goals
      go_enter Try.func32, Try.ntmps32
      go_wp2_with fail
      generalize w.alloc (.cells #[.string nm, .slice pp np cp, .slice pk nk ck, .slice ps ns cs, .slice pc nc cc] 54 (0, 0)) = w1 at *
      go_loopw [9, 10, 21] (fun _ _ i wr => ∃ k : Nat, k ≤ l.length ∧ i = .int .i64 k ∧ (l.take k).all (fun r => regB nk r true) = true ∧ (once = true → onceB (l.take k) = true) ∧ Step (fun _ => False) w1 wr) (fun _ _ i _ => l.length - (intOf i).toNat)
      case atStart => exact ⟨0, by omega, rfl, by simp, fun _ => by simp [onceB], Step.refl _ _⟩
      case round =>
        obtain ⟨k, hk, rfl, hall, honce, hst⟩ := hrel
        have HA := Lib.hid hall
        have HO := Lib.hid honce
        have HS := Lib.hid hst
        clear hall honce hst
        by_cases hlt : k < l.length
        · have hd : decide (k < l.length) = true := decide_eq_true hlt
          obtain ⟨a, hpa, hca⟩ := HC.out k hlt
          subst hpa
          have hca := ((SA.out.then HS.out).cell (block_lt hca) fun x => x).trans hca
          have hg : l.getD k 0 = l[k] := by rw [List.getD_eq_getElem?_getD, List.getElem?_eq_getElem hlt]; rfl
          have HG := Lib.hid hg
          obtain ⟨g0, g1, g2, g3, g4, _⟩ := cells_known5 (HS.out.keeps KB.out)
          have HTK := Lib.hid (List.take_succ_eq_append_getElem hlt)
          have HCT := Lib.hid (fun (y : World) (hy : Step (fun _ => False) wr y) (x : Int) => contains_any ((HL.out.take (Nat.le_of_lt hlt)).step ((SA.out.then HS.out).then hy) fun _ h => h.elim) x (by simp; omega))
          clear hg
          generalize l.getD k 0 = y at *
          go_wp2_with fail
          refine (REG.out y wr).mono ?_
          rintro e w2 ⟨rfl, hs2⟩
          have HS2 := Lib.hid hs2
          clear hs2 hca g0 g1 g2 g3 g4
          cases hreg : regB nk y true with
          | false =>
            have HREG := Lib.hid hreg
            clear hreg
            go_wp2_with fail
            go_ret
            refine ⟨?_, (SA.out.then HS.out).then HS2.out⟩
            have : l.all (fun r => regB nk r true) = false := by
              rw [List.all_eq_false]
              exact ⟨y, by rw [HG.out]; exact List.getElem_mem _, by rw [HREG.out]; simp⟩
            rw [HR.out, this]; rfl
          | true =>
            have HREG := Lib.hid hreg
            clear hreg
            cases honce1 : once with
            | false =>
              subst honce1
              go_wp2_with fail
              go_roundw
              case rel =>
                first
                  | refine ⟨k + 1, by omega, by go_num, ?_, nofun, HS.out.then HS2.out⟩
                  | ((repeat apply Exists.intro)
                     refine ⟨⟨k + 1, by omega, by go_num, ?_, nofun, HS.out.then HS2.out⟩, rfl⟩)
                rw [HTK.out, List.all_append, HA.out, ← HG.out]
                simp [HREG.out]
              case measure => simp [intOf]; omega
            | true =>
              subst honce1
              go_wp2_with fail
              refine (HCT.out w2 HS2.out y).mono ?_
              rintro e w3 ⟨rfl, rfl⟩
              cases hct : (l.take k).contains y with
              | true =>
                have HX := Lib.hid hct
                clear hct
                go_wp2_with fail
                go_ret
                refine ⟨?_, (SA.out.then HS.out).then HS2.out⟩
                have : onceB l = false := by
                  cases hh : onceB l with
                  | false => rfl
                  | true =>
                    have := onceB_take hh (k + 1)
                    rw [HTK.out, onceB_snoc, ← HG.out, HX.out] at this
                    simp at this
                rw [HR.out, this]; simp
              | false =>
                have HX := Lib.hid hct
                clear hct
                go_wp2_with fail
                go_roundw
                case rel =>
                  first
                    | refine ⟨k + 1, by omega, by go_num, ?_, fun _ => ?_, HS.out.then HS2.out⟩
                    | ((repeat apply Exists.intro)
                       refine ⟨⟨k + 1, by omega, by go_num, ?_, fun _ => ?_, HS.out.then HS2.out⟩, rfl⟩)
                  · rw [HTK.out, List.all_append, HA.out, ← HG.out]
                    simp [HREG.out]
                  · rw [HTK.out, onceB_snoc, ← HG.out, HX.out, HO.out (by trivial)]; rfl
                case measure => simp [intOf]; omega
        · have hd : decide (k < l.length) = false := decide_eq_false hlt
          have e : k = l.length := by omega
          subst e
          go_wp2_with fail
          go_ret
          refine ⟨?_, SA.out.then HS.out⟩
          have h1 := HA.out
          have h2 := HO.out
          rw [List.take_length] at h1 h2
          rw [HR.out, h1]
          cases once with
          | false => rfl
          | true => rw [h2 rfl]; rfl
end
end Go.Proofs.Ytpmbakhnamlooaa
