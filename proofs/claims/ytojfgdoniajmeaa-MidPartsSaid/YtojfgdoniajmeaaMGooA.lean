/- Package mid: the table of what each Op has. -/
import Derived.Test.YtojfgdoniajmeaaMidH
import Derived.Carry
namespace Go.Proofs.Ytojfgdoniajmeaa
set_option linter.unusedVariables false
set_option linter.unusedSimpArgs false
open Go.RowKit

def formV (m : MForm) : Value := .agg #[.int .i64 m.dst, .int .i64 m.a, .int .i64 m.b, .bool m.n, .bool m.size, .bool m.name, .bool m.far]
def formG (a : Int) : Option Value := (formM a).map formV

def formT : Int → Option Value := fun x => (if x = 22 then some (formV { a := 1 }) else (if x = 21 then some (formV { dst := 1 }) else (if x = 20 then some (formV { a := 1 }) else (if x = 19 then some (formV { a := 1, far := true }) else (if x = 18 then some (formV { far := true }) else (if x = 17 then some (formV { a := 3 }) else (if x = 16 then some (formV { dst := 3, name := true }) else (if x = 15 then some (formV { a := 2 }) else (if x = 14 then some (formV { dst := 2, a := 1 }) else (if x = 13 then some (formV { n := true }) else (if x = 12 then some (formV { a := 2, b := 3, size := true }) else (if x = 11 then some (formV { dst := 3, a := 2, size := true }) else (if x = 10 then some (formV { dst := 1, a := 2 }) else (if x = 9 then some (formV { dst := 2, a := 2, n := true, size := true }) else (if x = 8 then some (formV { dst := 2, a := 2, b := 1 }) else (if x = 7 then some (formV { dst := 2, n := true }) else (if x = 6 then some (formV { dst := 2, name := true }) else (if x = 5 then some (formV { dst := 2 }) else (if x = 4 then some (formV { dst := 1, a := 1, size := true }) else (if x = 3 then some (formV { dst := 1, a := 1, b := 1, n := true }) else (if x = 2 then some (formV { dst := 3, a := 3 }) else (if x = 1 then some (formV { dst := 1, n := true }) else none))))))))))))))))))))))
theorem formT_eq (a : Int) : formT a = formG a := by
  unfold formT formG formM
  by_cases h1 : a = 1
  · subst h1; rfl
  by_cases h2 : a = 2
  · subst h2; rfl
  by_cases h3 : a = 3
  · subst h3; rfl
  by_cases h4 : a = 4
  · subst h4; rfl
  by_cases h5 : a = 5
  · subst h5; rfl
  by_cases h6 : a = 6
  · subst h6; rfl
  by_cases h7 : a = 7
  · subst h7; rfl
  by_cases h8 : a = 8
  · subst h8; rfl
  by_cases h9 : a = 9
  · subst h9; rfl
  by_cases h10 : a = 10
  · subst h10; rfl
  by_cases h11 : a = 11
  · subst h11; rfl
  by_cases h12 : a = 12
  · subst h12; rfl
  by_cases h13 : a = 13
  · subst h13; rfl
  by_cases h14 : a = 14
  · subst h14; rfl
  by_cases h15 : a = 15
  · subst h15; rfl
  by_cases h16 : a = 16
  · subst h16; rfl
  by_cases h17 : a = 17
  · subst h17; rfl
  by_cases h18 : a = 18
  · subst h18; rfl
  by_cases h19 : a = 19
  · subst h19; rfl
  by_cases h20 : a = 20
  · subst h20; rfl
  by_cases h21 : a = 21
  · subst h21; rfl
  by_cases h22 : a = 22
  · subst h22; rfl
  simp only [h1, h2, h3, h4, h5, h6, h7, h8, h9, h10, h11, h12, h13, h14, h15, h16, h17, h18, h19, h20, h21, h22, if_false, Option.map_none]

set_option maxHeartbeats 4000000 in
set_option maxRecDepth 100000 in
theorem forms_any (w : World) : Calls Try.prog 58 #[] w fun e w' => ∃ b, e = .returned (.map (some b)) ∧ IMap Try.prog 3 .i64 w' b 22 formG ∧ Step (fun _ => False) w w' := by
  have im0 := imap_made w Try.prog 3 .i64
  have s0 := Step.alloc (fun b => b = w.heap.size) w (.map #[] 0)
  generalize hw0 : w.alloc (.map #[] 0) = w0 at im0 s0
  obtain ⟨w1, r1, im1, g1, z1⟩ := im0.update (t := 138) (e := 136) Try.underlying3 Try.underlying138 (by decide) (a := 1) (by decide) (formV { dst := 1, n := true })
  have s1 := s0.trans (Step.of_grown g1) fun _ x => .inl x
  clear im0 g1 z1 s0
  obtain ⟨w2, r2, im2, g2, z2⟩ := im1.update (t := 138) (e := 136) Try.underlying3 Try.underlying138 (by decide) (a := 2) (by decide) (formV { dst := 3, a := 3 })
  have s2 := s1.trans (Step.of_grown g2) fun _ x => .inl x
  clear im1 g2 z2 s1
  obtain ⟨w3, r3, im3, g3, z3⟩ := im2.update (t := 138) (e := 136) Try.underlying3 Try.underlying138 (by decide) (a := 3) (by decide) (formV { dst := 1, a := 1, b := 1, n := true })
  have s3 := s2.trans (Step.of_grown g3) fun _ x => .inl x
  clear im2 g3 z3 s2
  obtain ⟨w4, r4, im4, g4, z4⟩ := im3.update (t := 138) (e := 136) Try.underlying3 Try.underlying138 (by decide) (a := 4) (by decide) (formV { dst := 1, a := 1, size := true })
  have s4 := s3.trans (Step.of_grown g4) fun _ x => .inl x
  clear im3 g4 z4 s3
  obtain ⟨w5, r5, im5, g5, z5⟩ := im4.update (t := 138) (e := 136) Try.underlying3 Try.underlying138 (by decide) (a := 5) (by decide) (formV { dst := 2 })
  have s5 := s4.trans (Step.of_grown g5) fun _ x => .inl x
  clear im4 g5 z5 s4
  obtain ⟨w6, r6, im6, g6, z6⟩ := im5.update (t := 138) (e := 136) Try.underlying3 Try.underlying138 (by decide) (a := 6) (by decide) (formV { dst := 2, name := true })
  have s6 := s5.trans (Step.of_grown g6) fun _ x => .inl x
  clear im5 g6 z6 s5
  obtain ⟨w7, r7, im7, g7, z7⟩ := im6.update (t := 138) (e := 136) Try.underlying3 Try.underlying138 (by decide) (a := 7) (by decide) (formV { dst := 2, n := true })
  have s7 := s6.trans (Step.of_grown g7) fun _ x => .inl x
  clear im6 g7 z7 s6
  obtain ⟨w8, r8, im8, g8, z8⟩ := im7.update (t := 138) (e := 136) Try.underlying3 Try.underlying138 (by decide) (a := 8) (by decide) (formV { dst := 2, a := 2, b := 1 })
  have s8 := s7.trans (Step.of_grown g8) fun _ x => .inl x
  clear im7 g8 z8 s7
  obtain ⟨w9, r9, im9, g9, z9⟩ := im8.update (t := 138) (e := 136) Try.underlying3 Try.underlying138 (by decide) (a := 9) (by decide) (formV { dst := 2, a := 2, n := true, size := true })
  have s9 := s8.trans (Step.of_grown g9) fun _ x => .inl x
  clear im8 g9 z9 s8
  obtain ⟨w10, r10, im10, g10, z10⟩ := im9.update (t := 138) (e := 136) Try.underlying3 Try.underlying138 (by decide) (a := 10) (by decide) (formV { dst := 1, a := 2 })
  have s10 := s9.trans (Step.of_grown g10) fun _ x => .inl x
  clear im9 g10 z10 s9
  obtain ⟨w11, r11, im11, g11, z11⟩ := im10.update (t := 138) (e := 136) Try.underlying3 Try.underlying138 (by decide) (a := 11) (by decide) (formV { dst := 3, a := 2, size := true })
  have s11 := s10.trans (Step.of_grown g11) fun _ x => .inl x
  clear im10 g11 z11 s10
  obtain ⟨w12, r12, im12, g12, z12⟩ := im11.update (t := 138) (e := 136) Try.underlying3 Try.underlying138 (by decide) (a := 12) (by decide) (formV { a := 2, b := 3, size := true })
  have s12 := s11.trans (Step.of_grown g12) fun _ x => .inl x
  clear im11 g12 z12 s11
  obtain ⟨w13, r13, im13, g13, z13⟩ := im12.update (t := 138) (e := 136) Try.underlying3 Try.underlying138 (by decide) (a := 13) (by decide) (formV { n := true })
  have s13 := s12.trans (Step.of_grown g13) fun _ x => .inl x
  clear im12 g13 z13 s12
  obtain ⟨w14, r14, im14, g14, z14⟩ := im13.update (t := 138) (e := 136) Try.underlying3 Try.underlying138 (by decide) (a := 14) (by decide) (formV { dst := 2, a := 1 })
  have s14 := s13.trans (Step.of_grown g14) fun _ x => .inl x
  clear im13 g14 z14 s13
  obtain ⟨w15, r15, im15, g15, z15⟩ := im14.update (t := 138) (e := 136) Try.underlying3 Try.underlying138 (by decide) (a := 15) (by decide) (formV { a := 2 })
  have s15 := s14.trans (Step.of_grown g15) fun _ x => .inl x
  clear im14 g15 z15 s14
  obtain ⟨w16, r16, im16, g16, z16⟩ := im15.update (t := 138) (e := 136) Try.underlying3 Try.underlying138 (by decide) (a := 16) (by decide) (formV { dst := 3, name := true })
  have s16 := s15.trans (Step.of_grown g16) fun _ x => .inl x
  clear im15 g16 z16 s15
  obtain ⟨w17, r17, im17, g17, z17⟩ := im16.update (t := 138) (e := 136) Try.underlying3 Try.underlying138 (by decide) (a := 17) (by decide) (formV { a := 3 })
  have s17 := s16.trans (Step.of_grown g17) fun _ x => .inl x
  clear im16 g17 z17 s16
  obtain ⟨w18, r18, im18, g18, z18⟩ := im17.update (t := 138) (e := 136) Try.underlying3 Try.underlying138 (by decide) (a := 18) (by decide) (formV { far := true })
  have s18 := s17.trans (Step.of_grown g18) fun _ x => .inl x
  clear im17 g18 z18 s17
  obtain ⟨w19, r19, im19, g19, z19⟩ := im18.update (t := 138) (e := 136) Try.underlying3 Try.underlying138 (by decide) (a := 19) (by decide) (formV { a := 1, far := true })
  have s19 := s18.trans (Step.of_grown g19) fun _ x => .inl x
  clear im18 g19 z19 s18
  obtain ⟨w20, r20, im20, g20, z20⟩ := im19.update (t := 138) (e := 136) Try.underlying3 Try.underlying138 (by decide) (a := 20) (by decide) (formV { a := 1 })
  have s20 := s19.trans (Step.of_grown g20) fun _ x => .inl x
  clear im19 g20 z20 s19
  obtain ⟨w21, r21, im21, g21, z21⟩ := im20.update (t := 138) (e := 136) Try.underlying3 Try.underlying138 (by decide) (a := 21) (by decide) (formV { dst := 1 })
  have s21 := s20.trans (Step.of_grown g21) fun _ x => .inl x
  clear im20 g21 z21 s20
  obtain ⟨w22, r22, im22, g22, z22⟩ := im21.update (t := 138) (e := 136) Try.underlying3 Try.underlying138 (by decide) (a := 22) (by decide) (formV { a := 1 })
  have s22 := s21.trans (Step.of_grown g22) fun _ x => .inl x
  clear im21 g22 z22 s21
  have HR := Lib.hid (show IMap Try.prog 3 .i64 w22 w.heap.size 22 formG ∧ Step (fun _ => False) w w22 from ⟨im22.congr formT_eq, ⟨s22.os, s22.tape, s22.output, s22.size, fun b hb _ => s22.block b hb fun e => by omega⟩⟩)
  clear im22 s22
  simp only [formV] at r1 r2 r3 r4 r5 r6 r7 r8 r9 r10 r11 r12 r13 r14 r15 r16 r17 r18 r19 r20 r21 r22
  have hmk := @run_makeMap Try.prog
  go_enter Try.func58, Try.ntmps58
  go_wp2_with fail
  go_ret
  exact ⟨_, rfl, HR.out.1, HR.out.2⟩
end Go.Proofs.Ytojfgdoniajmeaa
