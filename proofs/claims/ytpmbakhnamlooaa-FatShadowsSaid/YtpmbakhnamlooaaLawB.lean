/- The laws' helpers: instructions that put numbers into registers. -/
import Derived.Test.YtpmbakhnamlooaaLawA
namespace Go.Proofs.Ytpmbakhnamlooaa
set_option linter.unusedVariables false
set_option linter.unusedSimpArgs false
open Go.RowKit

def constsC : Nat → List Int → List FIns
  | _, [] => []
  | i, x :: l => insOf 1 i 0 0 x 0 [] [] 0 :: constsC (i + 1) l
theorem constsC_snoc : ∀ (l : List Int) (i : Nat) (x : Int), constsC i (l ++ [x]) = constsC i l ++ [insOf 1 ((i + l.length : Nat) : Int) 0 0 x 0 [] [] 0]
  | [], i, x => rfl
  | y :: l, i, x => by
    rw [List.cons_append, constsC, constsC, constsC_snoc l (i + 1) x, List.cons_append, List.length_cons, show i + 1 + l.length = i + (l.length + 1) by omega]
theorem constsC_length : ∀ (l : List Int) (i : Nat), (constsC i l).length = l.length
  | [], _ => rfl
  | _ :: l, i => by rw [constsC, List.length_cons, constsC_length l, List.length_cons]
section
variable {w w' : World}
set_option maxHeartbeats 1000000 in
set_option maxRecDepth 100000 in
theorem consts_any {v : Value} {l : List Int} (hl : IntsAt .u64 w v l) (hlen : l.length ≤ 1000) :
    Calls Try.prog 19 #[v] w fun e w' => ∃ vo F, e = .returned vo ∧ CodeRow w' F vo (constsC 0 l) ∧ (∀ b, F b → w.heap.size ≤ b) ∧ Step (fun _ => False) w w' := by
  obtain ⟨⟨p, cap, rfl, hcap, hmax, hcell⟩, hwf⟩ := hl
  obtain ⟨i0, hi, hz0, hz1, hz2⟩ := info_parts ins_info
  have HC := Lib.hid hcell
  clear hcell hwf
  go_enter Try.func19, Try.ntmps19
  go_wp2_with fail
  go_loopw [3, 4, 5, 8] (fun x _ _ i wr => ∃ (k : Nat) (F : Nat → Prop), k ≤ l.length ∧ i = .int .i64 k ∧ CodeRow wr F x (constsC 0 (l.take k)) ∧ (∀ b, F b → w.heap.size ≤ b) ∧ Step (fun _ => False) w wr) (fun _ _ _ i _ => l.length - (intOf i).toNat)
  case atStart => exact ⟨0, fun _ => False, by omega, rfl, codeRow_nil _ _, fun _ h => h.elim, Step.refl _ _⟩
  case round =>
    obtain ⟨k, F, hk, rfl, ⟨vis, hrow, hkeep⟩, hF, hst⟩ := hrel
    obtain ⟨xs, hxs⟩ : ∃ xs, xs = vis.flatMap fun v => v.cells.toList := ⟨_, rfl⟩
    have HXS := Lib.hid hxs
    rw [← hxs] at hrow
    have ROW := Lib.hid hrow
    have KEEP := Lib.hid hkeep
    have ST := Lib.hid hst
    have HF := Lib.hid hF
    obtain ⟨xp, xc, rfl⟩ := hrow.slice
    clear hrow hkeep hst hF hxs
    by_cases hlt : k < l.length
    · have hd : decide (k < l.length) = true := decide_eq_true hlt
      obtain ⟨a, hpa, hca⟩ := HC.out k hlt
      subst hpa
      have hca := (ST.out.cell (block_lt hca) fun x => x).trans hca
      have hlen2 : (constsC 0 (l.take k)).length = k := by rw [constsC_length, List.length_take]; omega
      have htk : constsC 0 (l.take (k + 1)) = constsC 0 (l.take k) ++ [insOf 1 k 0 0 (l.getD k 0) 0 [] [] 0] := by
        rw [List.take_succ_eq_append_getElem hlt, constsC_snoc, List.length_take, show 0 + min k l.length = k by omega, List.getD_eq_getElem?_getD, List.getElem?_eq_getElem hlt]
        rfl
      have HTK := Lib.hid htk
      have HL2 := Lib.hid hlen2
      rw [hlen2] at ROW
      rw [hlen2]
      clear htk hlen2
      generalize l.getD k 0 = y at *
      have KB := Lib.hid (heap_alloc_new wr (.cells #[.int .i64 1, .int .i64 k, .int .i64 0, .int .i64 0, .int .u64 y, .int .i64 0, .string ⟨#[]⟩, .slice none 0 0, .slice none 0 0, .int .i64 0] 47 (0, 0)))
      go_wp2_with (first | (at_builtin; refine wpList_append_row rfl (.tmp 13) (.tmp 17) 42 rfl F 47 i0 _ 10 120 Try.underlying42 hi hz0 hz1 hz2 rfl _ _ _ rfl (ROW.out.al _) ⟨wr.heap.size, 0, none⟩ 1 1 [.int .i64 1, .int .i64 k, .int .i64 0, .int .i64 0, .int .u64 y, .int .i64 0, .string ⟨#[]⟩, .slice none 0 0, .slice none 0 0, .int .i64 0] rfl (by omega) rfl ?c1 ?c2 ?c3 ?c4 ?_))
      case c1 => exact new_cells rfl [_, _, _, _, _, _, _, _, _, _] _
      case c2 => exact fun u hu => by simp only [List.mem_cons, List.not_mem_nil, or_false] at hu; rcases hu with rfl | rfl | rfl | rfl | rfl | rfl | rfl | rfl | rfl | rfl <;> rfl
      case c3 => simp only [maxLen]; omega
      case c4 => omega
      intro g3 cap3 w3 hrow3 hst3 hz3
      have s1 := Step.alloc F wr (.cells #[.int .i64 1, .int .i64 k, .int .i64 0, .int .i64 0, .int .u64 y, .int .i64 0, .string ⟨#[]⟩, .slice none 0 0, .slice none 0 0, .int .i64 0] 47 (0, 0))
      have hcr := CodeRow.app (nvis := [insV (insOf 1 k 0 0 y 0 [] [] 0) (.slice none 0 0) (.slice none 0 0)]) (ncode := [insOf 1 k 0 0 y 0 [] [] 0]) (KEEP.out.go s1 fun b hb => .inl hb) ⟨keeps_bare rfl rfl, trivial⟩ hst3 (by rw [HL2.out, ← HXS.out, show (wr.alloc (.cells #[.int .i64 1, .int .i64 k, .int .i64 0, .int .i64 0, .int .u64 y, .int .i64 0, .string ⟨#[]⟩, .slice none 0 0, .slice none 0 0, .int .i64 0] 47 (0, 0))).heap.size = wr.heap.size + 1 by simp]; exact hrow3)
      rw [← HTK.out] at hcr
      have CR := Lib.hid hcr
      have ST3 := Lib.hid ((ST.out.then (Step.alloc (fun _ => False) wr (.cells #[.int .i64 1, .int .i64 k, .int .i64 0, .int .i64 0, .int .u64 y, .int .i64 0, .string ⟨#[]⟩, .slice none 0 0, .slice none 0 0, .int .i64 0] 47 (0, 0)))).trans hst3 fun x hx => .inr (HF.out x hx))
      clear hcr hst3 hrow3 s1
      go_wp2_with fail
      go_roundw
      case rel =>
        refine ⟨k + 1, _, by omega, by go_num, CR.out, fun b hb => ?_, ST3.out⟩
        have hwz := ST.out.size
        rcases hb with h | h
        · exact HF.out b h
        · have hz : (wr.alloc (.cells #[.int .i64 1, .int .i64 k, .int .i64 0, .int .i64 0, .int .u64 y, .int .i64 0, .string ⟨#[]⟩, .slice none 0 0, .slice none 0 0, .int .i64 0] 47 (0, 0))).heap.size = wr.heap.size + 1 := by simp
          omega
      case measure => simp [intOf]; omega
    · have hd : decide (k < l.length) = false := decide_eq_false hlt
      have e : k = l.length := by omega
      subst e
      have hc := (show CodeRow wr F _ (constsC 0 (l.take l.length)) from ⟨vis, by rw [← HXS.out]; exact ROW.out, KEEP.out⟩)
      have HCR := Lib.hid ((congrArg (fun c => CodeRow wr F _ (constsC 0 c)) (List.take_length (l := l))).mp hc)
      clear hc
      go_wp2_with fail
      go_ret
      exact ⟨_, F, rfl, HCR.out, HF.out, ST.out⟩
theorem KeepAll.sub {F G : Nat → Prop} (g : ∀ b, G b → F b ∨ w.heap.size ≤ b) {vs : List Value} {is : List FIns} (h : KeepAll F w vs is) : KeepAll G w vs is := h.go (Step.refl _ _) g
/-- just the row's own block -/
theorem CodeRow.narrow {F : Nat → Prop} {v : Value} {code : List FIns} (h : CodeRow w F v code) : ∃ G, CodeRow w G v code ∧ (∀ b, G b → F b) ∧ ∀ b, G b → b < w.heap.size := by
  obtain ⟨vis, ⟨hl, ⟨rfl, hn⟩ | ⟨g, cap, cur, rfl, hF, hg, h1, h2, h3, h4⟩⟩, hk⟩ := h
  · exact ⟨fun _ => False, ⟨vis, ⟨hl, .inl ⟨rfl, hn⟩⟩, hk.sub fun _ h => h.elim⟩, fun _ h => h.elim, fun _ h => h.elim⟩
  · exact ⟨fun b => b = g, ⟨vis, ⟨hl, .inr ⟨g, cap, cur, rfl, rfl, hg, h1, h2, h3, h4⟩⟩, hk.sub fun b e => .inl (by rw [e]; exact hF)⟩, fun b e => by rw [e]; exact hF, fun b e => by rw [e]; exact lt_obj hg⟩
theorem cells_one {F : Nat → Prop} : ∀ {vs : List Value} {is : List FIns}, KeepAll F w vs is → ∀ u ∈ (vs.flatMap fun v => v.cells.toList), u.oneCell' = true
  | [], [], _, u, hu => by cases hu
  | v :: vs, i :: is, h, u, hu => by
    rw [List.flatMap_cons] at hu
    rcases List.mem_append.1 hu with h1 | h1
    · obtain ⟨va, vo, rfl, ha, ho⟩ := h.1.now
      obtain ⟨⟨p, c, rfl, _⟩, _⟩ := ha
      obtain ⟨⟨q, d, rfl, _⟩, _⟩ := ho
      simp only [Value.cells, List.mem_cons, List.not_mem_nil, or_false] at h1
      rcases h1 with rfl | rfl | rfl | rfl | rfl | rfl | rfl | rfl | rfl | rfl <;> rfl
    · exact cells_one h.2 u h1
  | [], _ :: _, h, _, _ => h.elim
  | _ :: _, [], h, _, _ => h.elim
/-- append(code, ..): a row of instructions gets some more -/
theorem wpList_append_code {ops : Array Oper} {rest : List Oper} {o : Oper} {a : Act} {Q : Exit → Act → World → Prop} (hgd : o.guard = none) (s x : Operand)
    (ho : o.op = .call { callee := .builtin .append, args := #[s, x], argTypes := #[42, 42] })
    {F : Nat → Prop} {v : Value} {code ncode : List FIns} {nvis : List Value} {b m : Nat} (hs : a.eval s = v) (hrow : CodeRow w F v code) (hx : a.eval x = .slice (some ⟨b, 0, none⟩) m m)
    (hblk : w.heap[b]? = some (.cells (nvis.flatMap fun v => v.cells.toList).toArray 47 (0, 0))) (hn : KeepAll F w nvis ncode) (hm : ncode.length = m) (h0 : 0 < m) (hb : code.length + m ≤ 1000000)
    (h : ∀ g cap w' F', CodeRow w' F' (.slice (some ⟨g, 0, none⟩) (code.length + m) cap) (code ++ ncode) → (∀ b, F' b → F b ∨ w.heap.size ≤ b) → (∀ b, F' b → b < w'.heap.size) → Step F w w' → wpList Try.prog ops Q rest (a.put o.dst (.slice (some ⟨g, 0, none⟩) (code.length + m) cap)) w') : wpList Try.prog ops Q (o :: rest) a w := by
  obtain ⟨i0, hi, hz0, hz1, hz2⟩ := info_parts ins_info
  obtain ⟨vis, hr, hk⟩ := hrow
  refine wpList_append_row hgd s x 42 ho F 47 i0 _ 10 120 Try.underlying42 hi hz0 hz1 hz2 rfl v code.length _ hs hr ⟨b, 0, none⟩ m m (nvis.flatMap fun v => v.cells.toList) hx h0 (by rw [keepAll_flat hn, hm]) (fun j u hj => ?_) (cells_one hn) (by simp only [maxLen]; omega) (by omega) fun g cap w' hr' st hz => ?_
  · have e : (⟨b, 0, none⟩ : Addr).add j = ⟨b, j, none⟩ := by
      unfold Addr.add
      by_cases h0 : j = 0 <;> simp [h0]
    rw [e]
    exact cell_known hblk (by simpa using hj)
  · obtain ⟨G, hG, hGF, hGl⟩ := (CodeRow.app hk hn st (by rw [hm]; exact hr')).narrow
    exact h g cap w' G hG (fun b hb => by rcases hGF b hb with h1 | h1; exact .inl h1; exact .inr (by omega)) hGl st
end
end Go.Proofs.Ytpmbakhnamlooaa
