/- A frame of package fat: its registers and slots; values, write, check. -/
import Derived.Test.YtpmbakhnamlooaaFatC
import Derived.Deep.Cut
namespace Go.Proofs.Ytpmbakhnamlooaa
set_option linter.unusedVariables false
set_option linter.unusedSimpArgs false
open Go.RowKit

theorem IntsAt.old {k : IntKind} {w w' : World} {v : Value} {zs : List Int} (h : IntsAt k w v zs) (s : ∀ b, b < w.heap.size → w'.heap[b]? = w.heap[b]?) : IntsAt k w' v zs := by
  obtain ⟨⟨p, cap, e, h1, h2, h3⟩, h4⟩ := h
  refine ⟨⟨p, cap, e, h1, h2, fun i hi => ?_⟩, h4⟩
  obtain ⟨a, ha, hc⟩ := h3 i hi
  have hb : (a.add i).block < w.heap.size := block_lt hc
  exact ⟨a, ha, (cell_of (s _ hb)).trans hc⟩
theorem IntsAt.step {k : IntKind} {w w' : World} {v : Value} {zs : List Int} {F : Nat → Prop} (h : IntsAt k w v zs) (s : Step F w w') (g : ∀ b, F b → w.heap.size ≤ b) : IntsAt k w' v zs :=
  h.old fun b hb => s.block b hb fun e => by have := g b e; omega

/-- a frame: its struct at pf, its registers in block gx -/
structure FrAt (w : World) (own : Nat → Nat) (pf pw gx : Nat) (vn vp vk vs vc vr vl : Value) (regs slots : List Int) (lock key : Int) : Prop where
  struct : w.heap[pf]? = some (.cells #[.pointer (some ⟨pw, 0, none⟩), vn, vp, vk, vs, vc, vr, vl, .int .i64 lock, .int .u64 key] 116 (0, 0))
  regs : RowAt w (fun b => b = gx) 38 1 vr regs.length (regs.map (Value.int .u64))
  slots : RowAt w (fun b => own b = 0 ∧ b ≠ gx ∧ b ≠ pf) 3 1 vl slots.length (slots.map (Value.int .i64))
  free : own pf = 0 ∧ own gx = 0 ∧ pf ≠ gx ∧ gx < w.heap.size

section
variable {w0 w w' w'' : World} {pf pw gx : Nat} {own own' own'' : Nat → Nat} {vn vp vk vs vc vr vl : Value} {regs slots : List Int} {lock key : Int}

theorem FrAt.keep (h : FrAt w own pf pw gx vn vp vk vs vc vr vl regs slots lock key) (g : Chg own own' w w') : FrAt w' own' pf pw gx vn vp vk vs vc vr vl regs slots lock key := by
  obtain ⟨f1, f2, f3, f4⟩ := h.free
  have hp := lt_known h.struct
  have hz := g.step.size
  refine ⟨g.keeps h.struct f1, h.regs.same fun b hb hlt => g.keep hlt (by rw [hb]; exact f2), ?_, by rw [g.same _ hp, g.same _ f4]; exact ⟨f1, f2, f3, by omega⟩⟩
  obtain ⟨s1, s2 | ⟨b, cap, cur, s2, s3, s4, s5⟩⟩ := h.slots
  · exact ⟨s1, .inl s2⟩
  · exact ⟨s1, .inr ⟨b, cap, cur, s2, ⟨g.stays0 s4 s3.1, s3.2⟩, g.keeps s4 s3.1, s5⟩⟩
theorem FrAt.still (h : FrAt w own pf pw gx vn vp vk vs vc vr vl regs slots lock key) (s : Step (fun _ => False) w w') : FrAt w' own pf pw gx vn vp vk vs vc vr vl regs slots lock key := h.keep (Chg.calm own s)

def pick (regs : List Int) (l : List Int) : List Int := l.map fun r => regs.getD r.toNat 0

set_option maxHeartbeats 1000000 in
set_option maxRecDepth 100000 in
theorem values_any (h : FrAt w own pf pw gx vn vp vk vs vc vr vl regs slots lock key) {v : Value} {l : List Int} (hl : IntsAt .i64 w v l) (hr : ∀ r ∈ l, 0 ≤ r ∧ r < regs.length) (hlen : l.length ≤ 1000000) :
    Calls Try.prog 60 #[.pointer (some ⟨pf, 0, none⟩), v] w fun e w' => ∃ vo, e = .returned vo ∧ RowAt w' (fun b => w.heap.size ≤ b) 38 1 vo l.length ((pick regs l).map (Value.int .u64)) ∧ Step (fun _ => False) w w' := by
  obtain ⟨i0, hi, hz0, hz1, hz2⟩ := info_parts u64_info
  obtain ⟨⟨p, cap, rfl, hcap, hmax, hcell⟩, hwf⟩ := hl
  have HC := Lib.hid hcell
  have HR := Lib.hid hr
  have HF := Lib.hid h
  clear hcell hr h hwf
  go_enter Try.func60, Try.ntmps60
  go_wp2_with fail
  go_loopw [5, 7, 10] (fun x _ i wr => ∃ k : Nat, k ≤ l.length ∧ i = .int .i64 k ∧ RowAt wr (fun b => w.heap.size ≤ b) 38 1 x k ((pick regs (l.take k)).map (Value.int .u64)) ∧ Step (fun _ => False) w wr) (fun _ _ i _ => l.length - (intOf i).toNat)
  case atStart => exact ⟨0, by omega, rfl, by simpa [pick] using rowAt_nil _ _ _ _, Step.refl _ _⟩
  case round =>
    obtain ⟨k, hk, rfl, hrow, hst⟩ := hrel
    by_cases hlt : k < l.length
    · have hd : decide (k < l.length) = true := decide_eq_true hlt
      obtain ⟨a, hpa, hca⟩ := HC.out k hlt
      subst hpa
      have hr := HR.out (l.getD k 0) (by rw [List.getD_eq_getElem?_getD, List.getElem?_eq_getElem hlt]; exact List.getElem_mem hlt)
      have F := HF.out.still hst
      have hca := (hst.cell (block_lt hca) fun x => x).trans hca
      have c6 := cell_known F.struct (i := 6) rfl
      obtain ⟨g, rcap, cur, rfl, hgx, hg, hn1, hn2, hsz, htk⟩ := F.regs.some (by omega)
      obtain rfl : gx = g := hgx.symm
      have hreg : wr.cell? ⟨gx, (l.getD k 0).toNat, none⟩ = some (.int .u64 (regs.getD (l.getD k 0).toNat 0)) := row_cell hg htk (by
        rw [List.getElem?_map, List.getD_eq_getElem?_getD (l := regs), List.getElem?_eq_getElem (show (l.getD k 0).toNat < regs.length by omega)]; rfl)
      have hpk : pick regs (l.take (k + 1)) = pick regs (l.take k) ++ [regs.getD (l.getD k 0).toNat 0] := by
        unfold pick
        rw [List.take_succ_eq_append_getElem hlt, List.map_append, List.getD_eq_getElem?_getD (l := l), List.getElem?_eq_getElem hlt]; rfl
      have HPK := Lib.hid hpk
      have HROW := Lib.hid hrow
      have HST := Lib.hid hst
      have HFF := Lib.hid F
      clear hpk hrow hst F htk hg hsz
      generalize l.getD k 0 = r at *
      generalize regs.getD r.toNat 0 = x at *
      go_wp2_with (first | (at_builtin; refine wpList_append_row rfl (.tmp 14) (.tmp 22) 44 rfl (fun b => w.heap.size ≤ b) 38 i0 _ 1 8 Try.underlying44 hi hz0 hz1 hz2 rfl _ _ _ rfl (HROW.out.al _) ⟨wr.heap.size, 0, none⟩ 1 1 [.int .u64 x] rfl (by omega) rfl ?c1 ?c2 ?c3 ?c4 ?_))
      case c2 => rfl
      case c3 => simp only [maxLen]; omega
      case c4 => omega
      intro g' cap' w1 hr1 hst1 hz
      have HR1 := Lib.hid hr1
      have HS1 := Lib.hid hst1
      clear hr1 hst1
      go_wp2_with fail
      go_roundw
      case rel =>
        have hsz := HST.out.size
        refine ⟨k + 1, by omega, by go_num, ?_, ?_⟩
        · rw [HPK.out, List.map_append]
          exact HR1.out.mono fun b hb => by
            rcases hb with hb | hb
            · exact hb
            · rw [hb]; omega
        · exact HST.out.trans (((Step.refl (fun b => w.heap.size ≤ b) wr).al _).trans HS1.out fun _ x => .inl x) fun b hb => .inr hb
      case measure => simp [intOf]; omega
    · have hd : decide (k < l.length) = false := decide_eq_false hlt
      have e : k = l.length := by omega
      subst e
      rw [List.take_length] at hrow
      have HROW := Lib.hid hrow
      clear hrow
      go_wp2_with fail
      go_ret
      exact ⟨_, rfl, HROW.out, hst⟩
end
end Go.Proofs.Ytpmbakhnamlooaa
