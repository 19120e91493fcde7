/- The heap's calls Clear, End, Free. -/
import Derived.Test.YtojfgdoniajmeaaHeapD
namespace Go.Proofs.Ytojfgdoniajmeaa
set_option linter.unusedVariables false
set_option linter.unusedSimpArgs false
set_option maxRecDepth 100000
open Go.RowKit

/-- what Clear and End answer -/
def goneOf (l : List HB) (b : Int) : Int := if b < 1 ∨ l.length ≤ b then 1 else if liveOf l b = false then 20 else 0
/-- a map without what stands in a block -/
noncomputable def struck (f : Lit → Option HV) (b : Int) : Lit → Option HV := fun kl => if inBlock b kl then none else f kl

theorem struck_swept {l : List HB} {f : Lit → Option HV} (h : Swept l f) (b : Int) (hb : (Lit.int .i64 b).wf = true) (g : HB → HB) (h0 : 0 ≤ b) (h1 : b < l.length) : Swept (l.modify b.toNat g) (struck f b) := by
  intro x o wx wo hu
  rw [blockOf_modify l b g h0 h1] at hu
  unfold struck
  rw [inBlock_key b x o hb wx wo]
  by_cases e : x = b
  · simp [e]
  · rw [if_neg e] at hu
    simp [e, h x o wx wo hu]
theorem struck_places {f : Lit → Option HV} (h : Places f) (b : Int) : Places (struck f b) := by
  intro kl v hv
  unfold struck at hv
  split at hv
  · cases hv
  · exact h kl v hv

set_option maxHeartbeats 4000000 in
set_option maxRecDepth 100000 in
theorem clear_any (p : Nat) (b : Int) (l : List HB) (f : Lit → Option HV) (m : Nat) (F : Nat → Prop) (w : World) (h : HeapAt w p l f m F) (hl : 0 < l.length)
    (b0 : -9223372036854775808 ≤ b) (b1 : b ≤ 9223372036854775807) :
    Calls Try.prog 60 #[.pointer (some ⟨p, 0, none⟩), .int .i64 b] w fun e w' =>
      e = .returned (.int .i64 (goneOf l b)) ∧ if goneOf l b = 0 then Step F w w' ∧ HeapAt w' p (setAt l b fun y => { y with used := false }) (struck f b) m F else Step (fun _ => False) w w' := by
  have hlive := fun w h => live_any p b l f m F w h hl
  obtain ⟨g, cap, mb, cur, P⟩ := h.parts hl
  have hpw := lt_known P.struct
  have hgw := lt_known P.row
  have hmw := P.map.lt
  have hroom := P.room
  have htop := P.top
  unfold maxLen at htop
  have gm := P.gm
  have gp := P.gp
  have mp := P.mp
  have c0 := cell_known P.struct (i := 0) rfl
  have c1 := cell_known P.struct (i := 1) rfl
  have LV := Lib.hid hlive
  have H1 := Lib.hid h
  have PP := Lib.hid P
  clear hlive h P
  by_cases hr : b < 1 ∨ l.length ≤ b
  · have e : goneOf l b = 1 := if_pos hr
    rw [e]
    clear e
    simp only [show ((1 : Int) = 0) = False from by simp, if_false]
    by_cases h1 : b < 1
    all_goals
      go_enter Try.func60, Try.ntmps60
      go_wp2_with fail
      go_quiet (fail)
      go_wp2_with fail
      go_ret
      exact ⟨rfl, ((Step.refl _ w).al _).drewN _⟩
  · have hr0 : 0 < b := by omega
    have hr1 : b < l.length := by omega
    obtain ⟨i, rfl⟩ := Int.eq_ofNat_of_zero_le (show 0 ≤ b by omega)
    have hi' : i < l.length := by omega
    have hi0 : 0 < i := by omega
    have t1 : decide ((i : Int) < 1) = false := decide_eq_false (by omega)
    have t2 : decide (l.length ≤ i) = false := decide_eq_false (by omega)
    have t3 : decide ((l.length : Int) ≤ (i : Int)) = false := decide_eq_false (by omega)
    cases hlv : liveOf l i with
    | false =>
      have e : goneOf l i = 20 := by unfold goneOf; rw [if_neg hr, if_pos hlv]
      rw [e]
      simp only [show ((20 : Int) = 0) = False from by simp, if_false]
      have L1 : Hid (∀ w, HeapAt w p l f m F → Calls Try.prog 81 #[.pointer (some ⟨p, 0, none⟩), .int .i64 i] w fun e w' => e = .returned (.bool false) ∧ w = w') := by
        have := LV.out
        rw [hlv] at this; exact Lib.hid this
      clear e hr hlv LV
      go_enter Try.func60, Try.ntmps60
      go_wp2_with fail
      go_quiet (fail)
      go_wp2_with fail
      refine (L1.out _ ((H1.out.al _).drewN _)).mono ?_; rintro e w' ⟨rfl, rfl⟩
      go_wp2_with fail
      go_ret
      exact ⟨rfl, ((Step.refl _ w).al _).drewN _⟩
    | true =>
      have e : goneOf l i = 0 := by unfold goneOf; rw [if_neg hr, if_neg (by rw [hlv]; simp)]
      rw [e]
      simp only [if_true]
      have L1 : Hid (∀ w, HeapAt w p l f m F → Calls Try.prog 81 #[.pointer (some ⟨p, 0, none⟩), .int .i64 i] w fun e w' => e = .returned (.bool true) ∧ w = w') := by
        have := LV.out
        rw [hlv] at this; exact Lib.hid this
      clear e hr hlv LV
      obtain ⟨_, _, _, cu⟩ := PP.out.cell i hi'
      have fu := free_known PP.out.row (i * 4 + 3)
      cases hus : l[i].used with
      | false =>
        rw [hus] at cu
        go_enter Try.func60, Try.ntmps60
        go_wp2_with fail
        go_quiet (fail)
        go_wp2_with fail
        refine (L1.out _ ((H1.out.al _).drewN _)).mono ?_; rintro e w' ⟨rfl, rfl⟩
        go_wp2_with fail
        go_quiet (fail)
        go_wp2_with fail
        go_ret
        refine ⟨rfl, (((Step.refl _ w).al _).drewN _).drewN _, ?_⟩
        have P := PP.out
        have hsame : (setAt l i fun y => { y with used := false }) = l := by
          unfold setAt
          refine List.ext_getElem (by simp) fun k h1 h2 => ?_
          rw [List.getElem_modify]
          split
          · rename_i hk
            have hk : i = k := hk
            subst hk
            have hus : l[i].used = false := hus
            cases hx : l[i] with
            | mk s fr lv us => rw [hx] at hus; cases hus; rfl
          · rfl
        rw [hsame]
        have hbo : (blockOf l i).used = false := by unfold blockOf; simp [hi', hus]
        have hff : ∀ kl, WideAt.IsKeyLit kl → f kl = struck f i kl := by
          intro kl _
          unfold struck
          split
          · rename_i hin
            cases hf : f kl with
            | none => rfl
            | some v =>
              obtain ⟨b', o', wb, wo, rfl⟩ := P.dom kl v hf
              rw [inBlock_key i b' o' (by go_wf) wb wo] at hin
              have : b' = i := by simpa using hin
              subst this
              rw [P.clean i o' wb wo hbo] at hf; cases hf
          · rfl
        refine (((H1.out.al (Obj.cells #[Value.int IntKind.i64 i] 3)).congr hff ?_ ?_).drewN _).drewN _
        · exact struck_places P.dom i
        · intro b' o' wb wo hu
          unfold struck
          split
          · rfl
          · exact P.clean b' o' wb wo hu
      | true =>
        rw [hus] at cu
        have del : ∀ k, Calls Try.prog 82 #[.map (some mb), .func (.func 83) #[] #[.pointer (some ⟨w.heap.size, 0, none⟩)]] ((w.alloc (Obj.cells #[Value.int IntKind.i64 i] 3)).drewN k) fun e w' =>
            e = .returned (.tuple #[]) ∧ MapAt Try.prog 164 w' mb m (fun kl => (struck f i kl).map HV.val) ∧ (w.alloc (Obj.cells #[Value.int IntKind.i64 i] 3)).grownBy w' (some mb) := by
          intro k
          have hbox : ((w.alloc (Obj.cells #[Value.int IntKind.i64 i] 3)).drewN k).cell? ⟨w.heap.size, 0, none⟩ = some (.int .i64 i) := cell_known (c := #[.int .i64 i]) (heap_alloc_new w _) rfl
          refine (delete_any mb w.heap.size m i f ((w.alloc (Obj.cells #[Value.int IntKind.i64 i] 3)).drewN k) PP.out.dom (by go_wf) (PP.out.map.same (w' := (w.alloc (Obj.cells #[Value.int IntKind.i64 i] 3)).drewN k) (heap_alloc_old w _ hmw)) hbox (by rw [World.heap_drewN]; simp) (by omega)).mono ?_
          rintro e w' ⟨he, h1, h2⟩
          exact ⟨he, h1, ⟨h2.os, h2.tape, h2.output, h2.size, h2.block⟩⟩
        have DEL := Lib.hid del
        clear del
        go_enter Try.func60, Try.ntmps60
        go_wp2_with fail
        go_quiet (fail)
        go_wp2_with fail
        refine (L1.out _ ((H1.out.al _).drewN _)).mono ?_; rintro e w' ⟨rfl, rfl⟩
        go_wp2_with fail
        go_quiet (fail)
        go_wp2_with fail
        refine (DEL.out _).mono ?_; rintro e w3 ⟨rfl, hm3, hg3⟩
        have keep : ∀ b, b < w.heap.size → b ≠ mb → w3.heap[b]? = w.heap[b]? := fun b hb hn => by
          rw [hg3.block b (by simp; omega) (fun e => hn (Option.some.inj e)), heap_alloc_old _ _ hb]
        have kb : w3.heap[w.heap.size]? = some (.cells #[.int .i64 i] 3 (0, 0)) := by
          rw [hg3.block _ (by simp) (fun e => by have := Option.some.inj e; omega)]; exact heap_alloc_new w _
        obtain ⟨x0, _⟩ := cells_known1 kb
        have d0 : w3.cell? ⟨p, 0, none⟩ = _ := (cell_of (keep p hpw mp.symm)).trans c0
        have du : w3.cell? ⟨g, i * 4 + 3, none⟩ = _ := (cell_of (keep g hgw gm)).trans cu
        have df : w3.frozen? ⟨g, i * 4 + 3, none⟩ = _ := (frozen_of (keep g hgw gm)).trans fu
        have KP := Lib.hid keep
        have HM := Lib.hid hm3
        have HG := Lib.hid hg3
        clear keep hm3 hg3 c0 c1 cu fu kb
        go_wp2_with fail
        go_region
        all_goals
          go_wp2_with fail
          go_ret
          refine ⟨rfl, ?_, ?_⟩
          · exact (((Step.refl F w).al _).trans (G := fun x => x = mb) (Step.of_grown HG.out) (fun x e => Or.inl (e ▸ PP.out.hm)) |>.set (Or.inl PP.out.hg) _).drew
          · have P := PP.out
            have kg : w3.heap[g]? = some (.cells cur 114 (0, 0)) := (KP.out g hgw gm).trans P.row
            refine (P.field (fun y => { y with used := false }) i 3 (.bool false) (by omega) (fun y => rfl) hi' (f' := struck f i) (n' := m) ?_ ?_ ?_ ?_ ?_).whole
            · show ((w3.setCell _ _).heap[p]?) = _
              rw [setCell_other _ _ gp.symm, KP.out p hpw mp.symm]
            · exact setCell_known kg _ _
            · refine HM.out.same (w' := (w3.setCell _ _).drew) ?_
              show ((w3.setCell _ _).heap[mb]?) = _
              rw [setCell_other _ _ gm.symm]
            · exact struck_places P.dom i
            · exact struck_swept P.clean i (by go_wf) _ (by omega) (by omega)

set_option maxHeartbeats 4000000 in
set_option maxRecDepth 100000 in
theorem end_any (p : Nat) (b : Int) (l : List HB) (f : Lit → Option HV) (m : Nat) (F : Nat → Prop) (w : World) (h : HeapAt w p l f m F) (hl : 0 < l.length)
    (b0 : -9223372036854775808 ≤ b) (b1 : b ≤ 9223372036854775807) :
    Calls Try.prog 44 #[.pointer (some ⟨p, 0, none⟩), .int .i64 b] w fun e w' =>
      e = .returned (.int .i64 (goneOf l b)) ∧ if goneOf l b = 0 then Step F w w' ∧ HeapAt w' p (setAt l b fun y => { y with live := false, used := false }) (struck f b) m F else Step (fun _ => False) w w' := by
  have hcl := clear_any p b l f m F w h hl b0 b1
  by_cases hz : goneOf l b = 0
  · simp only [if_pos hz] at hcl ⊢
    rw [hz] at hcl ⊢
    have hr : 1 ≤ b ∧ b < l.length := by
      unfold goneOf at hz
      split at hz
      · omega
      · omega
    have CL := Lib.hid hcl
    clear hcl hz h
    obtain ⟨i, rfl⟩ := Int.eq_ofNat_of_zero_le (show 0 ≤ b by omega)
    have hi' : i < l.length := by omega
    have hll : (setAt l i fun y => { y with used := false }).length = l.length := by simp [setAt]
    go_enter Try.func44, Try.ntmps44
    go_wp2_with fail
    refine (CL.out).mono ?_; rintro e w1 ⟨rfl, hst, hh⟩
    obtain ⟨g, cap, mb, cur, P⟩ := hh.parts (by omega)
    have hpw := lt_known P.struct
    have hgw := lt_known P.row
    have hroom := P.room
    have htop := P.top
    rw [hll] at hroom
    unfold maxLen at htop
    have c0 := cell_known P.struct (i := 0) rfl
    rw [hll] at c0
    obtain ⟨_, _, cu, _⟩ := P.cell i (by omega)
    have fu := free_known P.row (i * 4 + 2)
    have HS := Lib.hid hst
    have PP := Lib.hid P
    have HLL := Lib.hid hll
    clear hst hh P
    go_wp2_with fail
    go_ret
    refine ⟨rfl, HS.out.set (Or.inl PP.out.hg) _, ?_⟩
    have P := PP.out
    have hq := P.field (w' := w1.setCell ⟨g, i * 4 + 2, none⟩ (.bool false)) (fun y => { y with live := false }) i 2 (.bool false) (by omega) (fun y => rfl) (by rw [HLL.out]; exact hi') (f' := struck f i) (n' := m)
      (setCell_other _ _ P.gp.symm) (setCell_known P.row _ _) (P.map.same (setCell_other _ _ P.gm.symm)) P.dom ?_
    · have e : (setAt l i fun y => { y with used := false }).modify i (fun y => { y with live := false }) = setAt l i fun y => { y with live := false, used := false } := by
        unfold setAt
        refine List.ext_getElem (by simp) fun k h1 h2 => ?_
        rw [List.getElem_modify, List.getElem_modify, List.getElem_modify]
        split
        · rename_i hk
          have hk2 : (i : Int).toNat = k := hk
          rw [if_pos hk2, if_pos hk2]
        · rename_i hk
          have hk2 : ¬ (i : Int).toNat = k := hk
          rw [if_neg hk2, if_neg hk2]
      rw [← e]; exact hq.whole
    · intro b' o' wb wo hu
      refine P.clean b' o' wb wo ?_
      have hbm := blockOf_modify (setAt l i fun y => { y with used := false }) i (fun y => { y with live := false }) (by omega) (by rw [HLL.out]; omega) b'
      rw [Int.toNat_natCast] at hbm
      rw [hbm] at hu
      split at hu
      · rename_i hk; rw [hk]; exact hu
      · exact hu
  · simp only [if_neg hz] at hcl ⊢
    generalize goneOf l b = code at *
    have hz1 : (code == 0) = false := beq_eq_false_iff_ne.2 hz
    have CL := Lib.hid hcl
    clear hcl hz h
    go_enter Try.func44, Try.ntmps44
    go_wp2_with fail
    refine (CL.out).mono ?_; rintro e w1 ⟨rfl, hst⟩
    go_wp2_with fail
    go_ret
    exact ⟨rfl, hst⟩

/-- what Free answers -/
def freeOf (l : List HB) (b off lo hi : Int) : Int :=
  if b = 0 then 22 else if liveOf l b = false then 20 else if (blockOf l b).free = false ∨ off ≠ 0 ∨ lo ≠ 0 ∨ hi ≠ (blockOf l b).size then 23 else 0

set_option maxHeartbeats 4000000 in
set_option maxRecDepth 100000 in
theorem free_any (p : Nat) (b off lo hi : Int) (l : List HB) (f : Lit → Option HV) (m : Nat) (F : Nat → Prop) (w : World) (h : HeapAt w p l f m F) (hl : 0 < l.length)
    (b0 : -9223372036854775808 ≤ b) (b1 : b ≤ 9223372036854775807) :
    Calls Try.prog 92 #[.pointer (some ⟨p, 0, none⟩), .agg #[.int .i64 b, .int .i64 off, .int .i64 lo, .int .i64 hi]] w fun e w' =>
      e = .returned (.int .i64 (freeOf l b off lo hi)) ∧ if freeOf l b off lo hi = 0 then Step F w w' ∧ HeapAt w' p (setAt l b fun y => { y with live := false, used := false }) (struck f b) m F else Step (fun _ => False) w w' := by
  have hlive := fun w h => live_any p b l f m F w h hl
  have hend := fun w h => end_any p b l f m F w h hl b0 b1
  obtain ⟨g, cap, mb, cur, P⟩ := h.parts hl
  have hpw := lt_known P.struct
  have hgw := lt_known P.row
  have hroom := P.room
  have htop := P.top
  unfold maxLen at htop
  have c0 := cell_known P.struct (i := 0) rfl
  have LV := Lib.hid hlive
  have EN := Lib.hid hend
  have H1 := Lib.hid h
  have PP := Lib.hid P
  clear hlive h P hend
  by_cases hb : b = 0
  · have e : freeOf l b off lo hi = 22 := if_pos hb
    rw [e]
    simp only [show ((22 : Int) = 0) = False from by simp, if_false]
    subst hb
    clear e
    go_enter Try.func92, Try.ntmps92
    go_wp2_with fail
    go_ret
    exact ⟨rfl, (Step.refl _ w).al _⟩
  have hb1 : (b == 0) = false := beq_eq_false_iff_ne.2 hb
  cases hlv : liveOf l b with
  | false =>
    have e : freeOf l b off lo hi = 20 := by unfold freeOf; rw [if_neg hb, if_pos hlv]
    rw [e]
    simp only [show ((20 : Int) = 0) = False from by simp, if_false]
    have L1 : Hid (∀ w, HeapAt w p l f m F → Calls Try.prog 81 #[.pointer (some ⟨p, 0, none⟩), .int .i64 b] w fun e w' => e = .returned (.bool false) ∧ w = w') := by
      have := LV.out
      rw [hlv] at this; exact Lib.hid this
    clear e hlv LV hb
    go_enter Try.func92, Try.ntmps92
    go_wp2_with fail
    refine (L1.out _ (H1.out.al _)).mono ?_; rintro e w' ⟨rfl, rfl⟩
    go_wp2_with fail
    go_ret
    exact ⟨rfl, (Step.refl _ w).al _⟩
  | true =>
    have hr : 0 < b ∧ b < l.length := by
      unfold liveOf at hlv
      simp at hlv
      omega
    obtain ⟨i, rfl⟩ := Int.eq_ofNat_of_zero_le (show 0 ≤ b by omega)
    have hi' : i < l.length := by omega
    have e : freeOf l i off lo hi = if l[i].free = false ∨ off ≠ 0 ∨ lo ≠ 0 ∨ hi ≠ l[i].size then 23 else 0 := by
      unfold freeOf; rw [if_neg hb, if_neg (by rw [hlv]; simp)]
      unfold blockOf; simp [hi']
    rw [e]
    have L1 : Hid (∀ w, HeapAt w p l f m F → Calls Try.prog 81 #[.pointer (some ⟨p, 0, none⟩), .int .i64 i] w fun e w' => e = .returned (.bool true) ∧ w = w') := by
      have := LV.out
      rw [hlv] at this; exact Lib.hid this
    have hg0 : goneOf l i = 0 := by unfold goneOf; rw [if_neg (by omega), if_neg (by rw [hlv]; simp)]
    have E1 := EN.out
    simp only [hg0, if_true] at E1
    have E2 := Lib.hid E1
    obtain ⟨u0, u1, u2, u3⟩ := PP.out.cell i hi'
    clear e hlv LV hb EN E1 hg0
    by_cases hw : l[i].free = true ∧ off = 0 ∧ lo = 0 ∧ hi = l[i].size
    · obtain ⟨hf, rfl, rfl, rfl⟩ := hw
      rw [if_neg (by simp [hf])]
      simp only [if_true]
      rw [hf] at u1
      clear hf
      go_enter Try.func92, Try.ntmps92
      go_wp2_with fail
      refine (L1.out _ (H1.out.al _)).mono ?_; rintro e w' ⟨rfl, rfl⟩
      go_wp2_with fail
      go_region
      all_goals
        go_wp2_with fail
        refine (E2.out _ (((H1.out.al _).al _).drewN 1)).mono ?_; rintro e w1 ⟨rfl, hst, hh⟩
        have HS := Lib.hid hst
        have HH := Lib.hid hh
        clear hst hh
        go_wp2_with fail
        go_ret
        refine ⟨rfl, ?_, HH.out⟩
        exact (((Step.refl F w).al _).al _).trans (G := F) (HS.out.from_drewN (n := 1)) (fun x e => Or.inl e)
    · rw [if_pos (by
        by_cases h1 : l[i].free = true
        · by_cases h2 : off = 0
          · by_cases h3 : lo = 0
            · exact Or.inr (Or.inr (Or.inr fun h4 => hw ⟨h1, h2, h3, h4⟩))
            · exact Or.inr (Or.inr (Or.inl h3))
          · exact Or.inr (Or.inl h2)
        · exact Or.inl (by simpa using h1))]
      simp only [show ((23 : Int) = 0) = False from by simp, if_false]
      have HW := Lib.hid hw
      clear hw
      go_enter Try.func92, Try.ntmps92
      go_wp2_with fail
      refine (L1.out _ (H1.out.al _)).mono ?_; rintro e w' ⟨rfl, rfl⟩
      go_wp2_with fail
      go_region
      all_goals
        go_wp2_with fail
      all_goals first
        | (go_ret; exact ⟨rfl, (((Step.refl _ w).al _).al _).drew⟩)
        | (exfalso; exact HW.out (by simp_all))

end Go.Proofs.Ytojfgdoniajmeaa
