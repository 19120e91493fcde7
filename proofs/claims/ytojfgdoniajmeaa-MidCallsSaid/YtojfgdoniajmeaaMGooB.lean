/- Package mid: registers; slices' Index, Contains, IndexFunc, ContainsFunc. -/
import Derived.Test.YtojfgdoniajmeaaMGooA
namespace Go.Proofs.Ytojfgdoniajmeaa
set_option linter.unusedVariables false
set_option linter.unusedSimpArgs false
open Go.RowKit

theorem IntsAt.take {k : IntKind} {w : World} {p : Option Addr} {l : List Int} {cap : Nat} (h : IntsAt k w (.slice p l.length cap) l) {n : Nat} (hn : n ≤ l.length) : IntsAt k w (.slice p n cap) (l.take n) := by
  obtain ⟨⟨p', cap', e, h1, h2, h3⟩, h4⟩ := h
  cases e
  have hl : (l.take n).length = n := by simp; omega
  refine ⟨⟨p, cap, by rw [hl], by omega, h2, fun i hi => ?_⟩, fun z hz => h4 z (List.mem_of_mem_take hz)⟩
  obtain ⟨a, ha, hc⟩ := h3 i (by omega)
  refine ⟨a, ha, ?_⟩
  rw [hc, List.getD_eq_getElem?_getD, List.getD_eq_getElem?_getD, List.getElem?_take_of_lt (by omega)]
theorem bits_12 : Go.bits BinOp.and .i64 1 1 = 1 ∧ Go.bits BinOp.and .i64 1 2 = 0 ∧ Go.bits BinOp.and .i64 1 3 = 1 ∧ Go.bits BinOp.and .i64 2 1 = 0 ∧ Go.bits BinOp.and .i64 2 2 = 2 ∧ Go.bits BinOp.and .i64 2 3 = 2 := ⟨by kernel_rfl, by kernel_rfl, by kernel_rfl, by kernel_rfl, by kernel_rfl, by kernel_rfl⟩
section
variable {w0 w w' : World} {nm : ByteArray} {pp pk ps pc : Option Addr} {np cp nk ck ns cs nc cc : Nat}
theorem makeFunc_run : ∀ (fn : Fn) (first cap : Array Value) (w : World), (Instr.makeFunc fn first cap).run Try.prog w = .ok (.func fn first cap) w := fun _ _ _ _ => rfl
/-- a function's value, as far as its shape goes -/
def fnV (nm : ByteArray) (pp : Option Addr) (np cp : Nat) (pk : Option Addr) (nk ck : Nat) (ps : Option Addr) (ns cs : Nat) (pc : Option Addr) (nc cc : Nat) : Value :=
  .agg #[.string nm, .slice pp np cp, .slice pk nk ck, .slice ps ns cs, .slice pc nc cc]
set_option maxHeartbeats 2000000 in
set_option maxRecDepth 100000 in
theorem register_any {ks : List Int} (hk : IntsAt .i64 w (.slice pk ks.length ck) ks) (hkl : ks.length ≤ 1000000) (h12 : ∀ k ∈ ks, k = 1 ∨ k = 2) (r kind : Int) (none : Bool) (hkd : kind = 0 ∨ kind = 1 ∨ kind = 2 ∨ kind = 3) :
    Calls Try.prog 37 #[fnV nm pp np cp pk ks.length ck ps ns cs pc nc cc, .int .i64 r, .int .i64 kind, .bool none] w fun e w' => e = .returned (.bool (regM ks r kind none)) ∧ Step (fun _ => False) w w' := by
  unfold regM fnV
  have sa := Step.alloc (fun _ => False) w (.cells #[.string nm, .slice pp np cp, .slice pk ks.length ck, .slice ps ns cs, .slice pc nc cc] 46 (0, 0))
  have hk1 := hk.step sa fun _ h => h.elim
  obtain ⟨⟨p, cap, e, hcap, hmax, hcell⟩, hwf⟩ := hk1
  cases e
  have HC := Lib.hid hcell
  have H12 := Lib.hid h12
  have SA := Lib.hid sa
  clear sa hk hcell hwf h12 hcap hmax
  by_cases k0 : kind = 0
  · subst k0
    go_enter Try.func37, Try.ntmps37
    go_wp2_with fail
    go_ret
    exact ⟨rfl, SA.out⟩
  · have b0 : (kind == 0) = false := beq_false_of_ne k0
    rw [if_neg k0]
    cases hn : (none && r == -1) with
    | true =>
      simp only [Bool.and_eq_true, beq_iff_eq] at hn
      obtain ⟨rfl, rfl⟩ := hn
      go_enter Try.func37, Try.ntmps37
      go_wp2_with fail
      go_ret
      exact ⟨rfl, SA.out⟩
    | false =>
      have hn2 : none = false ∨ (none = true ∧ (r == -1) = false) := by
        cases none
        · exact .inl rfl
        · exact .inr ⟨rfl, by simpa using hn⟩
      rw [Bool.false_or]
      by_cases h : 0 ≤ r
      · have h0 : decide (0 ≤ r) = true := decide_eq_true h
        by_cases g : r < (ks.length : Int)
        · have g0 : decide (r < (ks.length : Int)) = true := decide_eq_true g
          obtain ⟨a, hpa, hca⟩ := HC.out r.toNat (by omega)
          subst hpa
          have hx := H12.out (ks.getD r.toNat 0) (by rw [List.getD_eq_getElem?_getD, List.getElem?_eq_getElem (show r.toNat < ks.length by omega)]; exact List.getElem_mem _)
          generalize ks.getD r.toNat 0 = x at *
          clear hn
          rcases hn2 with rfl | ⟨rfl, hn2⟩
          all_goals
            rcases hx with rfl | rfl
            all_goals
              rcases hkd with rfl | rfl | rfl | rfl
              all_goals first | exact absurd rfl k0 | skip
              all_goals
                go_enter Try.func37, Try.ntmps37
                go_wp2_with fail
                go_ret
                exact ⟨by simp [h, g, bits_12], SA.out⟩
        · have g0 : decide (r < (ks.length : Int)) = false := decide_eq_false g
          clear hn
          rcases hn2 with rfl | ⟨rfl, hn2⟩
          all_goals
            go_enter Try.func37, Try.ntmps37
            go_wp2_with fail
            go_ret
            exact ⟨by simp [g], SA.out⟩
      · have h0 : decide (0 ≤ r) = false := decide_eq_false h
        clear hn
        rcases hn2 with rfl | ⟨rfl, hn2⟩
        all_goals
          go_enter Try.func37, Try.ntmps37
          go_wp2_with fail
          go_ret
          exact ⟨by simp [h], SA.out⟩
set_option maxHeartbeats 1000000 in
set_option maxRecDepth 100000 in
theorem index_any {v : Value} {l : List Int} (hl : IntsAt .i64 w v l) (x : Int) (hlen : l.length ≤ 1000000) :
    Calls Try.prog 56 #[v, .int .i64 x] w fun e w' => ∃ r : Int, e = .returned (.int .i64 r) ∧ decide (0 ≤ r) = l.contains x ∧ w = w' := by
  obtain ⟨⟨p, cap, rfl, hcap, hmax, hcell⟩, hwf⟩ := hl
  have HC := Lib.hid hcell
  clear hcell hwf
  go_enter Try.func56, Try.ntmps56
  go_wp2_with fail
  go_loopw [5, 8] (fun _ i wr => ∃ k : Nat, k ≤ l.length ∧ i = .int .i64 k ∧ (l.take k).contains x = false ∧ wr = w) (fun _ i _ => l.length - (intOf i).toNat)
  case atStart => exact ⟨0, by omega, rfl, by simp, rfl⟩
  case round =>
    obtain ⟨k, hk, rfl, hno, rfl⟩ := hrel
    have HN := Lib.hid hno
    clear hno
    by_cases hlt : k < l.length
    · have hd : decide (k < l.length) = true := decide_eq_true hlt
      obtain ⟨a, hpa, hca⟩ := HC.out k hlt
      subst hpa
      have hg : l.getD k 0 = l[k] := by rw [List.getD_eq_getElem?_getD, List.getElem?_eq_getElem hlt]; rfl
      have HG := Lib.hid hg
      clear hg
      generalize l.getD k 0 = y at *
      by_cases he : x = y
      · have hb : (x == y) = true := beq_iff_eq.2 he
        go_wp2_with fail
        go_ret
        refine ⟨_, rfl, ?_, rfl⟩
        have hin : l.contains x = true := by
          rw [List.contains_iff_mem, he, HG.out]; exact List.getElem_mem _
        rw [hin]
        exact decide_eq_true (by omega)
      · have hb : (x == y) = false := beq_false_of_ne he
        go_wp2_with fail
        go_roundw
        case rel =>
          refine ⟨k + 1, by omega, by go_num, ?_, trivial⟩
          rw [List.take_succ_eq_append_getElem hlt, List.contains_append, HN.out, ← HG.out]
          simp [he]
        case measure => simp [intOf]; omega
    · have hd : decide (k < l.length) = false := decide_eq_false hlt
      have e : k = l.length := by omega
      subst e
      go_wp2_with fail
      go_ret
      refine ⟨_, rfl, ?_, rfl⟩
      have := HN.out
      rw [List.take_length] at this
      rw [this]; rfl
set_option maxRecDepth 100000 in
theorem contains_any {v : Value} {l : List Int} (hl : IntsAt .i64 w v l) (x : Int) (hlen : l.length ≤ 1000000) :
    Calls Try.prog 38 #[v, .int .i64 x] w fun e w' => e = .returned (.bool (l.contains x)) ∧ w = w' := by
  go_enter Try.func38, Try.ntmps38
  go_wp2_with fail
  refine (index_any hl x hlen).mono ?_
  rintro e w' ⟨r, rfl, hr, rfl⟩
  have HR := Lib.hid hr
  clear hr
  go_wp2_with fail
  go_ret
  exact ⟨by rw [← HR.out]; rfl, rfl⟩
set_option maxHeartbeats 1000000 in
set_option maxRecDepth 100000 in
theorem indexFunc_ins {v : Value} {l : List FIns} (hl : CodeAt w0 v l) (hw : ∀ b, b < w0.heap.size → w.heap[b]? = w0.heap[b]?) (hlen : l.length ≤ 1000000) {g : Nat} {lb : Array Value} (eg : ∀ args w, (callFunc g args).run Try.prog w = .ok (.enter g args) w) (Q : FIns → Bool)
    (hp : ∀ y, Step (fun _ => False) w y → ∀ x ∈ l, ∀ vi, InsAt w0 vi x → Calls Try.prog g (#[vi] ++ lb) y fun e w' => e = .returned (.bool (Q x)) ∧ Step (fun _ => False) y w') :
    Calls Try.prog 57 #[v, .func (.func g) #[] lb] w fun e w' => ∃ r : Int, e = .returned (.int .i64 r) ∧ decide (0 ≤ r) = l.any Q ∧ Step (fun _ => False) w w' := by
  obtain ⟨p, cap, rfl, hcap, hmax, hcell⟩ := hl
  have HC := Lib.hid hcell
  have HP := Lib.hid hp
  have HW := Lib.hid hw
  clear hcell hp hw
  go_enter Try.func57, Try.ntmps57
  go_wp2_with fail
  go_loopw [5, 8] (fun _ i wr => ∃ k : Nat, k ≤ l.length ∧ i = .int .i64 k ∧ (l.take k).any Q = false ∧ Step (fun _ => False) w wr) (fun _ i _ => l.length - (intOf i).toNat)
  case atStart => exact ⟨0, by omega, rfl, by simp, Step.refl _ _⟩
  case round =>
    obtain ⟨k, hk, rfl, hno, hst⟩ := hrel
    have HN := Lib.hid hno
    have HS := Lib.hid hst
    clear hno hst
    by_cases hlt : k < l.length
    · have hd : decide (k < l.length) = true := decide_eq_true hlt
      obtain ⟨a, vi, hpa, hins, hca⟩ := HC.out k hlt
      subst hpa
      have HCALL := Lib.hid (HP.out wr HS.out _ (List.getElem_mem hlt) vi hins)
      obtain ⟨va, vo, rfl, ⟨⟨pa, ca, rfl, _, _, _⟩, _⟩, ⟨⟨po, co, rfl, _, _, _⟩, _⟩⟩ := hins
      have hq : ∀ z, l[k] = z → Q l[k] = Q z := fun z h => by rw [h]
      have HLK := Lib.hid (List.getElem_mem hlt)
      have HTK := Lib.hid (List.take_succ_eq_append_getElem hlt)
      generalize hx : l[k] = x at *
      obtain ⟨op, dst, ra, rb, n, size, name, args, outs, to⟩ := x
      simp only at hca HCALL
      have ce : ∀ j u, (#[.int .i64 op, .int .i64 dst, .int .i64 ra, .int .i64 rb, .int .u64 n, .int .i64 size, .string name, .slice pa args.length ca, .slice po outs.length co, .int .i64 to] : Array Value)[j]? = some u → wr.cell? ((a.add (k * 10)).add j) = some u := fun j u h => by
        have h1 := hca j u h
        have h2 := (cell_of (HW.out _ (block_lt h1))).trans h1
        exact (HS.out.cell (block_lt h2) fun x => x).trans h2
      have e0 : wr.cell? (a.add (k * 10)) = some (.int .i64 op) := by have := ce 0 _ rfl; simpa [Addr.add] using this
      have e1 : wr.cell? ⟨(a.add (k * 10)).block, (a.add (k * 10)).off + 1, none⟩ = some (.int .i64 dst) := ce 1 _ rfl
      have e2 : wr.cell? ⟨(a.add (k * 10)).block, (a.add (k * 10)).off + 2, none⟩ = some (.int .i64 ra) := ce 2 _ rfl
      have e3 : wr.cell? ⟨(a.add (k * 10)).block, (a.add (k * 10)).off + 3, none⟩ = some (.int .i64 rb) := ce 3 _ rfl
      have e4 : wr.cell? ⟨(a.add (k * 10)).block, (a.add (k * 10)).off + 4, none⟩ = some (.int .u64 n) := ce 4 _ rfl
      have e5 : wr.cell? ⟨(a.add (k * 10)).block, (a.add (k * 10)).off + 5, none⟩ = some (.int .i64 size) := ce 5 _ rfl
      have e6 : wr.cell? ⟨(a.add (k * 10)).block, (a.add (k * 10)).off + 6, none⟩ = some (.string name) := ce 6 _ rfl
      have e7 : wr.cell? ⟨(a.add (k * 10)).block, (a.add (k * 10)).off + 7, none⟩ = some (.slice pa args.length ca) := ce 7 _ rfl
      have e8 : wr.cell? ⟨(a.add (k * 10)).block, (a.add (k * 10)).off + 8, none⟩ = some (.slice po outs.length co) := ce 8 _ rfl
      have e9 : wr.cell? ⟨(a.add (k * 10)).block, (a.add (k * 10)).off + 9, none⟩ = some (.int .i64 to) := ce 9 _ rfl
      clear ce hca hq hx
      generalize (⟨op, dst, ra, rb, n, size, name, args, outs, to⟩ : FIns) = z at *
      go_wp2_with fail
      refine HCALL.out.mono ?_
      rintro e w1 ⟨rfl, hs1⟩
      have HS1 := Lib.hid (HS.out.then hs1)
      clear hs1 e0 e1 e2 e3 e4 e5 e6 e7 e8 e9
      cases hq : Q z with
      | true =>
        have HQ := Lib.hid hq
        clear hq
        go_wp2_with fail
        go_ret
        refine ⟨_, rfl, ?_, HS1.out⟩
        have hin : l.any Q = true := List.any_eq_true.2 ⟨z, HLK.out, HQ.out⟩
        rw [hin]
        exact decide_eq_true (by omega)
      | false =>
        have HQ := Lib.hid hq
        clear hq
        go_wp2_with fail
        go_roundw
        case rel =>
          refine ⟨k + 1, by omega, by go_num, ?_, HS1.out⟩
          rw [HTK.out, List.any_append, HN.out]
          simp [HQ.out]
        case measure => simp [intOf]; omega
    · have hd : decide (k < l.length) = false := decide_eq_false hlt
      have e : k = l.length := by omega
      subst e
      go_wp2_with fail
      go_ret
      refine ⟨_, rfl, ?_, HS.out⟩
      have := HN.out
      rw [List.take_length] at this
      rw [this]; rfl
set_option maxRecDepth 100000 in
theorem containsFunc_ins {v : Value} {l : List FIns} (hl : CodeAt w0 v l) (hw : ∀ b, b < w0.heap.size → w.heap[b]? = w0.heap[b]?) (hlen : l.length ≤ 1000000) {g : Nat} {lb : Array Value} (eg : ∀ args w, (callFunc g args).run Try.prog w = .ok (.enter g args) w) (Q : FIns → Bool)
    (hp : ∀ y, Step (fun _ => False) w y → ∀ x ∈ l, ∀ vi, InsAt w0 vi x → Calls Try.prog g (#[vi] ++ lb) y fun e w' => e = .returned (.bool (Q x)) ∧ Step (fun _ => False) y w') :
    Calls Try.prog 39 #[v, .func (.func g) #[] lb] w fun e w' => e = .returned (.bool (l.any Q)) ∧ Step (fun _ => False) w w' := by
  have HH := Lib.hid (indexFunc_ins hl hw hlen eg Q hp)
  clear hp hl
  go_enter Try.func39, Try.ntmps39
  go_wp2_with fail
  refine HH.out.mono ?_
  rintro e w' ⟨r, rfl, hr, hs⟩
  have HR := Lib.hid hr
  have HS := Lib.hid hs
  clear hr hs
  go_wp2_with fail
  go_ret
  exact ⟨by rw [← HR.out]; rfl, HS.out⟩
end
end Go.Proofs.Ytojfgdoniajmeaa
