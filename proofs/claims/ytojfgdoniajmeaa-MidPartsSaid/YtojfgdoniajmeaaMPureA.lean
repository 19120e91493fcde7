/- Package mid's machine, plain: steps one by one; which units are well formed. -/
import Derived.Test.YtojfgdoniajmeaaMLawA
namespace Go.Proofs.Ytojfgdoniajmeaa
set_option linter.unusedVariables false
set_option linter.unusedSimpArgs false
open Go.RowKit

def tick (st : MSt) : MSt := { st with steps := st.steps + 1 }
section
variable {fns : List UInt8 → Option FFn} {tops : List UInt8 → Option HP} {n : Nat} {f : FFn} {slots : List HP} {st st' : MSt} {x x' : List HV} {i : FIns} {a : Nat}
/-- an instruction is done; the next one -/
theorem step_go (hs : st.steps < st.fuel) (hi : f.code[a]? = some i) (h16 : i.op ≠ 16) (h17 : i.op ≠ 17) (h : instrM tops f.kinds slots (tick st) x i = .go st' x') (b : Int) (hb : (if i.op = 18 ∨ (i.op = 19 ∧ (rgV x i.a).num ≠ 0) then i.to else (a : Int) + 1) = b) :
    loopM fns tops (n + 1) f slots st x a = loopM fns tops n f slots st' x' b := by
  rw [loopM_step hs (by simpa using hi) h17]
  unfold insM
  rw [if_neg h16]
  unfold tick at h
  rw [h]
  simp only
  unfold nextM
  rw [hb]
theorem step_stop {s code why : Int} (hs : st.steps < st.fuel) (hi : f.code[a]? = some i) (h16 : i.op ≠ 16) (h17 : i.op ≠ 17) (h : instrM tops f.kinds slots (tick st) x i = .stop st' s code why) :
    loopM fns tops (n + 1) f slots st x a = .stop st' s code why := by
  rw [loopM_step hs (by simpa using hi) h17]
  unfold insM
  rw [if_neg h16]
  unfold tick at h
  rw [h]
theorem step_ret (hs : st.steps < st.fuel) (hi : f.code[a]? = some i) (h17 : i.op = 17) :
    loopM fns tops (n + 1) f slots st x a = .ret (endAll slots (tick st)) (if i.a < 0 then HV.zero else rgV x i.a) := by
  rw [loopM_ret hs (by simpa using hi) h17]; rfl
theorem step_call {g : FFn} {v : HV} (hs : st.steps < st.fuel) (hi : f.code[a]? = some i) (h16 : i.op = 16) (hg : fns i.name.data.toList = some g) (h : callM fns tops n (tick st) g (pickV x i.args) = .ret st' v) :
    loopM fns tops (n + 1) f slots st x a = loopM fns tops n f slots st' (if 0 ≤ i.dst then x.set i.dst.toNat v else x) ((a : Int) + 1) := by
  rw [loopM_step hs (by simpa using hi) (by omega)]
  unfold insM
  rw [if_pos h16, callIM_eq hg]
  unfold tick at h
  rw [h]
  have e : nextM x i (a : Int) = (a : Int) + 1 := if_neg (fun k => by rcases k with k | ⟨k, _⟩ <;> omega)
  simp only
  rw [e]
end
theorem funM_of {f : FFn} (hn : (f.name.data.toList == []) = false) (hc : 0 < f.code.length) (hk : kindsM f = true) (hs : sizesM f = true) (hp : f.params.all (fun r => regM f.kinds r 3 false) = true) (ho : onceB f.params = true) (hg : ∀ i ∈ f.code, goodIM f i = true) (hl : lastOpM f = true) : funM f = true := by
  have h1 : f.code.any (fun i => !goodIM f i) = false := by
    rw [List.any_eq_false]
    intro i hi
    rw [hg i hi]; simp
  unfold funM
  rw [hn, decide_eq_true hc, hk, hs, hp, ho, h1, hl]; rfl
theorem okFnM_of {pre : List FFn} {f : FFn} (h : funM f = true) (ha : (ansK f.kinds f.code 0).2 = true) (hp : (fnOf pre f.name.data.toList).isSome = false) : okFnM pre f = true := by
  unfold okFnM oneM
  rw [if_pos h, ha, hp]; rfl
theorem goodUM_of {ts : List Tp} {fs : List FFn} (h1 : topsB [] ts = true) (h2 : fnsMB [] fs = true) (h3 : fs.all (fun f => f.code.all (insMB ts fs f)) = true) (h4 : mainB fs = true) : goodUM ts fs = true := by
  unfold goodUM
  rw [h1, h2, h3, h4]; rfl
/-- what a unit does that is well formed, and has a main without slots -/
theorem runUM_of {ts : List Tp} {fs : List FFn} {input : List Int} {fuel : Int} {r : MRes} (hg : goodUM ts fs = true) (hr : callM (fnOf fs) (topsM ts (st0 fuel input) (fun _ => none)).2 fuel.toNat (topsM ts (st0 fuel input) (fun _ => none)).1 (getFn fs [109, 97, 105, 110]) [] = r) :
    runUM ts fs input fuel = ⟨(runE r).1, (runE r).2.1, (runE r).2.2, (runS r).out, (runS r).steps⟩ := by
  unfold runUM
  rw [if_pos hg]
  simp only
  rw [hr]

/-! ### MidCounts -/
def countsC : List FIns := [insOf 21 0 0 0 0 0 [] [] 0, insOf 1 1 0 0 1 0 [] [] 0, insOf 20 0 0 0 0 0 [] [] 0, insOf 3 0 0 1 2 0 [] [] 0, insOf 19 0 0 0 0 0 [] [] 2, insOf 17 0 1 0 0 0 [] [] 0]
def down : Nat → List Int
  | 0 => []
  | k + 1 => ((k + 1 : Nat) : Int) :: down k
theorem down_len : ∀ k, (down k).length = k
  | 0 => rfl
  | k + 1 => by simp [down, down_len k]
theorem down_get : ∀ (k j : Nat), j < k → (down k).getD j 0 = (k : Int) - j
  | k + 1, 0, _ => by simp [down]
  | k + 1, j + 1, h => by
    have := down_get k j (by omega)
    simp only [down, List.getD_cons_succ, this]
    push_cast
    omega
theorem sub1 (k : Nat) (h : k ≤ 255) : (doF 2 ((k + 1 : Nat) : Int) 1).1 = (k : Int) := by
  have hd : doF 2 ((k + 1 : Nat) : Int) 1 = (U (((k + 1 : Nat) : Int) - 1), true) := rfl
  rw [hd]
  unfold U
  simp only
  push_cast
  omega
theorem counts_loop {fns : List UInt8 → Option FFn} {tops : List UInt8 → Option HP} : ∀ (k : Nat) (n : Nat) (st : MSt), k ≤ 254 → st.steps + 3 * k + 4 ≤ st.fuel → 3 * k + 4 ≤ n →
    loopM fns tops n (aloneM [1, 1] [] countsC) [] st [numV ((k + 1 : Nat) : Int), numV 1] 2 = .ret { st with out := st.out ++ down (k + 1), steps := st.steps + 3 * k + 4 } (numV 1)
  | k, n, st, hk, hf, hn => by
    obtain ⟨n, rfl⟩ : ∃ m, n = m + 4 := ⟨n - 4, by omega⟩
    obtain ⟨blks, at_, input, out, fuel, steps⟩ := st
    simp only at hf
    have h1 := step_go (fns := fns) (tops := tops) (n := n + 3) (f := aloneM [1, 1] [] countsC) (slots := []) (st := ⟨blks, at_, input, out, fuel, steps⟩) (x := [numV ((k + 1 : Nat) : Int), numV 1]) (a := 2) (i := insOf 20 0 0 0 0 0 [] [] 0) (by simp only; omega) rfl (by decide) (by decide) rfl 3 rfl
    refine h1.trans ?_
    have h2 := step_go (fns := fns) (tops := tops) (n := n + 2) (f := aloneM [1, 1] [] countsC) (slots := []) (st := ⟨blks, at_, input, out ++ [((k + 1 : Nat) : Int) % 256], fuel, steps + 1⟩) (x := [numV ((k + 1 : Nat) : Int), numV 1]) (a := 3) (i := insOf 3 0 0 1 2 0 [] [] 0) (by simp only; omega) rfl (by decide) (by decide) rfl 4 rfl
    refine h2.trans ?_
    have hs : ([numV ((k + 1 : Nat) : Int), numV 1].set (0 : Int).toNat (numV (doF 2 (rgV [numV ((k + 1 : Nat) : Int), numV 1] 0).num (rgV [numV ((k + 1 : Nat) : Int), numV 1] 1).num).1)) = [numV (k : Int), numV 1] := by
      have : (doF 2 (rgV [numV ((k + 1 : Nat) : Int), numV 1] 0).num (rgV [numV ((k + 1 : Nat) : Int), numV 1] 1).num).1 = (k : Int) := sub1 k (by omega)
      rw [this]; rfl
    change loopM fns tops (n + 2) (aloneM [1, 1] [] countsC) [] (tick ⟨blks, at_, input, out ++ [((k + 1 : Nat) : Int) % 256], fuel, steps + 1⟩) ([numV ((k + 1 : Nat) : Int), numV 1].set (0 : Int).toNat (numV (doF 2 (rgV [numV ((k + 1 : Nat) : Int), numV 1] 0).num (rgV [numV ((k + 1 : Nat) : Int), numV 1] 1).num).1)) 4 = _
    rw [hs]
    have hmod : ((k + 1 : Nat) : Int) % 256 = ((k + 1 : Nat) : Int) := by omega
    rw [hmod]
    cases k with
    | zero =>
      have h3 := step_go (fns := fns) (tops := tops) (n := n + 1) (f := aloneM [1, 1] [] countsC) (slots := []) (st := tick ⟨blks, at_, input, out ++ [((0 + 1 : Nat) : Int)], fuel, steps + 1⟩) (x := [numV ((0 : Nat) : Int), numV 1]) (a := 4) (i := insOf 19 0 0 0 0 0 [] [] 2) (by simp only [tick]; omega) rfl (by decide) (by decide) rfl 5 rfl
      refine h3.trans ?_
      have h4 := step_ret (fns := fns) (tops := tops) (n := n) (f := aloneM [1, 1] [] countsC) (slots := []) (st := tick (tick ⟨blks, at_, input, out ++ [((0 + 1 : Nat) : Int)], fuel, steps + 1⟩)) (x := [numV ((0 : Nat) : Int), numV 1]) (a := 5) (i := insOf 17 0 1 0 0 0 [] [] 0) (by simp only [tick]; omega) rfl rfl
      refine h4.trans ?_
      have e : steps + 1 + 1 + 1 + 1 = steps + 3 * ((0 : Nat) : Int) + 4 := by omega
      show MRes.ret ⟨blks, at_, input, out ++ [((0 + 1 : Nat) : Int)], fuel, steps + 1 + 1 + 1 + 1⟩ (numV 1) = _
      rw [e]; rfl
    | succ k =>
      have h3 := step_go (fns := fns) (tops := tops) (n := n + 1) (f := aloneM [1, 1] [] countsC) (slots := []) (st := tick ⟨blks, at_, input, out ++ [((k + 1 + 1 : Nat) : Int)], fuel, steps + 1⟩) (x := [numV ((k + 1 : Nat) : Int), numV 1]) (a := 4) (i := insOf 19 0 0 0 0 0 [] [] 2) (by simp only [tick]; omega) rfl (by decide) (by decide) rfl 2 (if_pos (.inr ⟨rfl, by
        show ((k + 1 : Nat) : Int) ≠ 0
        omega⟩))
      refine h3.trans ?_
      refine (counts_loop k (n + 1) (tick (tick ⟨blks, at_, input, out ++ [((k + 1 + 1 : Nat) : Int)], fuel, steps + 1⟩)) (by omega) (by simp only [tick]; push_cast at hf ⊢; omega) (by omega)).trans ?_
      have e : steps + 1 + 1 + 1 + 3 * ((k : Nat) : Int) + 4 = steps + 3 * ((k + 1 : Nat) : Int) + 4 := by push_cast; omega
      show MRes.ret ⟨blks, at_, input, (out ++ [((k + 1 + 1 : Nat) : Int)]) ++ down (k + 1), fuel, steps + 1 + 1 + 1 + 3 * ((k : Nat) : Int) + 4⟩ (numV 1) = _
      rw [e, List.append_assoc]; rfl
theorem counts_good : goodUM [] [aloneM [1, 1] [] countsC] = true := by kernel_rfl
theorem counts_run (k : Nat) (hk : k ≤ 254) : runUM [] [aloneM [1, 1] [] countsC] [((k + 1 : Nat) : Int)] 2000 = ⟨1, 1, 0, down (k + 1), 3 * (k + 1 : Nat) + 3⟩ := by
  have h1 := step_go (fns := fnOf [aloneM [1, 1] [] countsC]) (tops := fun _ => none) (n := 1999) (f := aloneM [1, 1] [] countsC) (slots := []) (st := st0 2000 [((k + 1 : Nat) : Int)]) (x := [HV.zero, HV.zero]) (a := 0) (i := insOf 21 0 0 0 0 0 [] [] 0) (show (0 : Int) < 2000 by decide) rfl (by decide) (by decide) rfl 1 rfl
  have h2 := step_go (fns := fnOf [aloneM [1, 1] [] countsC]) (tops := fun _ => none) (n := 1998) (f := aloneM [1, 1] [] countsC) (slots := []) (st := ⟨[⟨0, false, false, false⟩], fun _ => none, [], [], 2000, 1⟩) (x := [numV ((k + 1 : Nat) : Int), HV.zero]) (a := 1) (i := insOf 1 1 0 0 1 0 [] [] 0) (by decide) rfl (by decide) (by decide) rfl 2 rfl
  have h3 := counts_loop (fns := fnOf [aloneM [1, 1] [] countsC]) (tops := fun _ => none) k 1998 ⟨[⟨0, false, false, false⟩], fun _ => none, [], [], 2000, 2⟩ hk (by simp only; omega) (by omega)
  have hc : callM (fnOf [aloneM [1, 1] [] countsC]) (topsM [] (st0 2000 [((k + 1 : Nat) : Int)]) (fun _ => none)).2 (2000 : Int).toNat (topsM [] (st0 2000 [((k + 1 : Nat) : Int)]) (fun _ => none)).1 (getFn [aloneM [1, 1] [] countsC] [109, 97, 105, 110]) [] = loopM (fnOf [aloneM [1, 1] [] countsC]) (fun _ => none) (1999 + 1) (aloneM [1, 1] [] countsC) [] (st0 2000 [((k + 1 : Nat) : Int)]) [HV.zero, HV.zero] ((0 : Nat) : Int) := by kernel_rfl
  rw [runUM_of counts_good (hc.trans (h1.trans (h2.trans h3)))]
  have e : (2 : Int) + 3 * (k : Int) + 4 = 3 * ((k + 1 : Nat) : Int) + 3 := by push_cast; omega
  show (⟨1, 1 % 256, 0, [] ++ down (k + 1), 2 + 3 * (k : Int) + 4⟩ : RunR) = _
  rw [e]; rfl

/-! ### MidParts -/
def topV : List Tp := [(⟨#[118]⟩, 100)]
def partsC (n sz u : Int) : List FIns := [⟨6, 0, 0, 0, 0, 0, ⟨#[118]⟩, [], [], 0⟩, insOf 9 0 0 0 n sz [] [] 0, insOf 1 1 0 0 u 0 [] [] 0, insOf 8 0 0 1 0 0 [] [] 0, insOf 11 1 0 0 0 1 [] [] 0, insOf 17 0 1 0 0 0 [] [] 0]
theorem parts_good {n sz u : Int} (h0 : n < 4194304) (h1 : 1 ≤ sz) (h2 : sz ≤ 4194304) : goodUM topV [aloneM [2, 1] [] (partsC n sz u)] = true := by
  have hf : funM (aloneM [2, 1] [] (partsC n sz u)) = true := by
    refine funM_of rfl (by simp [aloneM, partsC]) rfl rfl rfl rfl ?_ rfl
    intro i hi
    simp only [aloneM, partsC, List.mem_cons, List.not_mem_nil, or_false] at hi
    rcases hi with rfl | rfl | rfl | rfl | rfl | rfl
    · rfl
    · have e : goodIM (aloneM [2, 1] [] (partsC n sz u)) (insOf 9 0 0 0 n sz [] [] 0) = (decide (n < 4194304) && decide (1 ≤ sz) && decide (sz ≤ 4194304)) := rfl
      rw [e, decide_eq_true h0, decide_eq_true h1, decide_eq_true h2]; rfl
    · rfl
    · rfl
    · rfl
    · rfl
  refine goodUM_of rfl ?_ rfl rfl
  unfold fnsMB
  rw [okFnM_of hf rfl rfl]; rfl
/-- the pointer that is loaded -/
def partsP (n sz u : Int) : HP := moveP (partP ⟨1, 0, 0, 100⟩ (wrap64 n) sz) (wrap64 u)
theorem parts_run {n sz u : Int} (h0 : n < 4194304) (h1 : 1 ≤ sz) (h2 : sz ≤ 4194304) : runUM topV [aloneM [2, 1] [] (partsC n sz u)] [] 20 = if (partsP n sz u).off < (partsP n sz u).low ∨ (partsP n sz u).high ≤ (partsP n sz u).off ∨ (partsP n sz u).high - (partsP n sz u).off < 1 then ⟨5, 0, 21, [], 5⟩ else ⟨1, 0, 0, [], 6⟩ := by
  have hc : callM (fnOf [aloneM [2, 1] [] (partsC n sz u)]) (topsM topV (st0 20 []) (fun _ => none)).2 (20 : Int).toNat (topsM topV (st0 20 []) (fun _ => none)).1 (aloneM [2, 1] [] (partsC n sz u)) [] =
      loopM (fnOf [aloneM [2, 1] [] (partsC n sz u)]) (topsM topV (st0 20 []) (fun _ => none)).2 16 (aloneM [2, 1] [] (partsC n sz u)) [] ⟨[⟨0, false, false, false⟩, ⟨100, false, true, false⟩], fun _ => none, [], [], 20, 4⟩ [ptrV (partsP n sz u), numV u] ((4 : Nat) : Int) := by kernel_rfl
  have hi : instrM (topsM topV (st0 20 []) (fun _ => none)).2 (aloneM [2, 1] [] (partsC n sz u)).kinds [] (tick ⟨[⟨0, false, false, false⟩, ⟨100, false, true, false⟩], fun _ => none, [], [], 20, 4⟩) [ptrV (partsP n sz u), numV u] (insOf 11 1 0 0 0 1 [] [] 0) =
      if (if (partsP n sz u).off < (partsP n sz u).low ∨ (partsP n sz u).high ≤ (partsP n sz u).off ∨ (partsP n sz u).high - (partsP n sz u).off < 1 then (21 : Int) else 0) = 0 then .go ⟨[⟨0, false, false, false⟩, ⟨100, false, true, false⟩], fun _ => none, [], [], 20, 5⟩ [ptrV (partsP n sz u), numV 0] else .stop ⟨[⟨0, false, false, false⟩, ⟨100, false, true, false⟩], fun _ => none, [], [], 20, 5⟩ 5 0 (if (partsP n sz u).off < (partsP n sz u).low ∨ (partsP n sz u).high ≤ (partsP n sz u).off ∨ (partsP n sz u).high - (partsP n sz u).off < 1 then (21 : Int) else 0) := by kernel_rfl
  by_cases hb : (partsP n sz u).off < (partsP n sz u).low ∨ (partsP n sz u).high ≤ (partsP n sz u).off ∨ (partsP n sz u).high - (partsP n sz u).off < 1
  · rw [if_pos hb] at hi ⊢
    rw [if_neg (by decide)] at hi
    rw [runUM_of (parts_good h0 h1 h2) (hc.trans (step_stop (i := insOf 11 1 0 0 0 1 [] [] 0) (by decide) rfl (by decide) (by decide) hi))]
    rfl
  · rw [if_neg hb] at hi ⊢
    rw [if_pos rfl] at hi
    rw [runUM_of (parts_good h0 h1 h2) (hc.trans ((step_go (i := insOf 11 1 0 0 0 1 [] [] 0) (by decide) rfl (by decide) (by decide) hi 5 rfl).trans (step_ret (a := 5) (i := insOf 17 0 1 0 0 0 [] [] 0) (by decide) rfl rfl)))]
    rfl
theorem parts_is {n size at_ : Int} (hn : 0 ≤ n ∧ n ≤ 255) (hs : 0 ≤ size ∧ size ≤ 255) (ha : -128 ≤ at_ ∧ at_ ≤ 127) :
    ((partsP n (size + 1) (at_ % 18446744073709551616)).off < (partsP n (size + 1) (at_ % 18446744073709551616)).low ∨ (partsP n (size + 1) (at_ % 18446744073709551616)).high ≤ (partsP n (size + 1) (at_ % 18446744073709551616)).off ∨ (partsP n (size + 1) (at_ % 18446744073709551616)).high - (partsP n (size + 1) (at_ % 18446744073709551616)).off < 1) ↔ ¬ (0 ≤ at_ ∧ at_ ≤ size ∧ n + at_ < 100) := by
  have e1 : wrap64 n = n := Go.IntWalk.wrap64_in _ ⟨by omega, by omega⟩
  have e2 : wrap64 (at_ % 18446744073709551616) = at_ := by unfold wrap64; omega
  have e3 : wrap64 (0 + n) = n := by rw [Int.zero_add]; exact e1
  have e4 : wrap64 (n + (size + 1)) = n + size + 1 := by rw [← Int.add_assoc]; exact Go.IntWalk.wrap64_in _ ⟨by omega, by omega⟩
  have e5 : wrap64 (n + at_) = n + at_ := Go.IntWalk.wrap64_in _ ⟨by omega, by omega⟩
  unfold partsP moveP partP
  rw [e1, e2]
  rw [if_neg (show ¬ (1 : Int) = 0 by decide)]
  simp only [e3, e4]
  rw [if_neg (show ¬ (1 : Int) = 0 by decide), e5]
  omega

theorem counts_run' {n : Int} (h1 : 1 ≤ n) (h2 : n ≤ 255) : runUM [] [aloneM [1, 1] [] countsC] [n] 2000 = ⟨1, 1, 0, down n.toNat, 3 * n + 3⟩ := by
  obtain ⟨k, rfl⟩ : ∃ k : Nat, n = ((k + 1 : Nat) : Int) := ⟨n.toNat - 1, by omega⟩
  exact counts_run k (by omega)

/-! ### MidCalls -/
def fN : ByteArray := ⟨#[102]⟩
def callsC : List FIns := [insOf 19 0 0 0 0 0 [] [] 2, insOf 17 0 1 0 0 0 [] [] 0, insOf 3 1 1 0 1 0 [] [] 0, insOf 1 2 0 0 1 0 [] [] 0, insOf 3 0 0 2 2 0 [] [] 0, ⟨16, 3, 0, 0, 0, 0, fN, [1, 0], [], 0⟩, insOf 17 0 3 0 0 0 [] [] 0]
def callsF : FFn := ⟨fN, [1, 0], [1, 1, 1, 1], [], callsC⟩
def callsM (n : Int) : List FIns := [insOf 1 0 0 0 n 0 [] [] 0, ⟨16, 1, 0, 0, 0, 0, fN, [1, 0], [], 0⟩, insOf 20 0 1 0 0 0 [] [] 0, insOf 1 0 0 0 8 0 [] [] 0, insOf 3 1 1 0 7 0 [] [] 0, insOf 17 0 1 0 0 0 [] [] 0]
def tri : Nat → Int
  | 0 => 0
  | k + 1 => tri k + ((k + 1 : Nat) : Int)
theorem tri_two : ∀ k : Nat, 2 * tri k = (k : Int) * (k + 1)
  | 0 => rfl
  | k + 1 => by
    have := tri_two k
    unfold tri
    push_cast
    rw [Int.mul_add, this, ← Int.add_mul, Int.mul_comm, show (k : Int) + 1 + 1 = k + 2 by omega]
theorem tri_lo : ∀ k : Nat, 0 ≤ tri k
  | 0 => Int.le_refl _
  | k + 1 => by have := tri_lo k; unfold tri; omega
theorem tri_hi : ∀ k : Nat, k ≤ 255 → tri k ≤ 255 * k
  | 0, _ => Int.le_refl _
  | k + 1, h => by have := tri_hi k (by omega); unfold tri; push_cast; omega
theorem f_runs {fns : List UInt8 → Option FFn} {tops : List UInt8 → Option HP} (hfn : fns [102] = some callsF) : ∀ (k : Nat) (n : Nat) (st : MSt) (s : Int), k ≤ 255 → 0 ≤ s → s + 255 * k ≤ 1000000 → st.steps + 6 * k + 2 ≤ st.fuel → 5 * k + 2 ≤ n →
    callM fns tops n st callsF [numV s, numV k] = .ret { st with steps := st.steps + 6 * k + 2 } (numV (s + tri k))
  | 0, n, st, s, hk, hs, hb, hf, hn => by
    obtain ⟨n, rfl⟩ : ∃ m, n = m + 2 := ⟨n - 2, by omega⟩
    obtain ⟨blks, at_, input, out, fuel, steps⟩ := st
    simp only at hf
    have h1 := step_go (fns := fns) (tops := tops) (n := n + 1) (f := callsF) (slots := []) (st := ⟨blks, at_, input, out, fuel, steps⟩) (x := [numV ((0 : Nat) : Int), numV s, HV.zero, HV.zero]) (a := 0) (i := insOf 19 0 0 0 0 0 [] [] 2) (by simp only; omega) rfl (by decide) (by decide) rfl 1 rfl
    have h2 := step_ret (fns := fns) (tops := tops) (n := n) (f := callsF) (slots := []) (st := tick ⟨blks, at_, input, out, fuel, steps⟩) (x := [numV ((0 : Nat) : Int), numV s, HV.zero, HV.zero]) (a := 1) (i := insOf 17 0 1 0 0 0 [] [] 0) (by simp only [tick]; omega) rfl rfl
    refine (h1.trans h2).trans ?_
    have e : steps + 1 + 1 = steps + 6 * ((0 : Nat) : Int) + 2 := by omega
    have e2 : s = s + tri 0 := by unfold tri; omega
    show MRes.ret ⟨blks, at_, input, out, fuel, steps + 1 + 1⟩ (numV s) = _
    rw [e]
    conv => lhs; rw [e2]
  | k + 1, n, st, s, hk, hs, hb, hf, hn => by
    obtain ⟨n, rfl⟩ : ∃ m, n = m + 6 := ⟨n - 6, by omega⟩
    obtain ⟨blks, at_, input, out, fuel, steps⟩ := st
    simp only at hf
    have h1 := step_go (fns := fns) (tops := tops) (n := n + 5) (f := callsF) (slots := []) (st := ⟨blks, at_, input, out, fuel, steps⟩) (x := [numV ((k + 1 : Nat) : Int), numV s, HV.zero, HV.zero]) (a := 0) (i := insOf 19 0 0 0 0 0 [] [] 2) (by simp only; omega) rfl (by decide) (by decide) rfl 2 (if_pos (.inr ⟨rfl, by
      show ((k + 1 : Nat) : Int) ≠ 0
      omega⟩))
    have h2 := step_go (fns := fns) (tops := tops) (n := n + 4) (f := callsF) (slots := []) (st := tick ⟨blks, at_, input, out, fuel, steps⟩) (x := [numV ((k + 1 : Nat) : Int), numV s, HV.zero, HV.zero]) (a := 2) (i := insOf 3 1 1 0 1 0 [] [] 0) (x' := [numV ((k + 1 : Nat) : Int), numV (s + ((k + 1 : Nat) : Int)), HV.zero, HV.zero]) (st' := tick (tick ⟨blks, at_, input, out, fuel, steps⟩)) (by simp only [tick]; omega) rfl (by decide) (by decide) (by
      have e : (doF 1 s ((k + 1 : Nat) : Int)).1 = s + ((k + 1 : Nat) : Int) := by
        have hd : doF 1 s ((k + 1 : Nat) : Int) = (U (s + ((k + 1 : Nat) : Int)), true) := rfl
        rw [hd]; unfold U; simp only; omega
      show MOut.go _ [numV ((k + 1 : Nat) : Int), numV (doF 1 s ((k + 1 : Nat) : Int)).1, HV.zero, HV.zero] = _
      rw [e]) 3 rfl
    have h3 := step_go (fns := fns) (tops := tops) (n := n + 3) (f := callsF) (slots := []) (st := tick (tick ⟨blks, at_, input, out, fuel, steps⟩)) (x := [numV ((k + 1 : Nat) : Int), numV (s + ((k + 1 : Nat) : Int)), HV.zero, HV.zero]) (a := 3) (i := insOf 1 2 0 0 1 0 [] [] 0) (by simp only [tick]; omega) rfl (by decide) (by decide) rfl 4 rfl
    have h4 := step_go (fns := fns) (tops := tops) (n := n + 2) (f := callsF) (slots := []) (st := tick (tick (tick ⟨blks, at_, input, out, fuel, steps⟩))) (x := [numV ((k + 1 : Nat) : Int), numV (s + ((k + 1 : Nat) : Int)), numV 1, HV.zero]) (a := 4) (i := insOf 3 0 0 2 2 0 [] [] 0) (x' := [numV (k : Int), numV (s + ((k + 1 : Nat) : Int)), numV 1, HV.zero]) (st' := tick (tick (tick (tick ⟨blks, at_, input, out, fuel, steps⟩)))) (by simp only [tick]; omega) rfl (by decide) (by decide) (by
      show MOut.go _ [numV (doF 2 ((k + 1 : Nat) : Int) 1).1, numV (s + ((k + 1 : Nat) : Int)), numV 1, HV.zero] = _
      rw [sub1 k (by omega)]) 5 rfl
    have hc := f_runs (tops := tops) hfn k (n + 1) (tick (tick (tick (tick (tick ⟨blks, at_, input, out, fuel, steps⟩))))) (s + ((k + 1 : Nat) : Int)) (by omega) (by omega) (by push_cast at hb ⊢; omega) (by simp only [tick]; push_cast at hf ⊢; omega) (by omega)
    have h5 := step_call (fns := fns) (tops := tops) (n := n + 1) (f := callsF) (slots := []) (st := tick (tick (tick (tick ⟨blks, at_, input, out, fuel, steps⟩)))) (x := [numV (k : Int), numV (s + ((k + 1 : Nat) : Int)), numV 1, HV.zero]) (a := 5) (i := ⟨16, 3, 0, 0, 0, 0, fN, [1, 0], [], 0⟩) (by simp only [tick]; omega) rfl rfl hfn hc
    have h6 := step_ret (fns := fns) (tops := tops) (n := n) (f := callsF) (slots := []) (st := { tick (tick (tick (tick (tick ⟨blks, at_, input, out, fuel, steps⟩)))) with steps := steps + 1 + 1 + 1 + 1 + 1 + 6 * (k : Int) + 2 }) (x := [numV (k : Int), numV (s + ((k + 1 : Nat) : Int)), numV 1, numV (s + ((k + 1 : Nat) : Int) + tri k)]) (a := 6) (i := insOf 17 0 3 0 0 0 [] [] 0) (by simp only [tick]; push_cast at hf ⊢; omega) rfl rfl
    refine (h1.trans (h2.trans (h3.trans (h4.trans (h5.trans h6))))).trans ?_
    have e : steps + 1 + 1 + 1 + 1 + 1 + 6 * (k : Int) + 2 + 1 = steps + 6 * ((k + 1 : Nat) : Int) + 2 := by push_cast; omega
    have e2 : s + ((k + 1 : Nat) : Int) + tri k = s + tri (k + 1) := by
      show s + ((k + 1 : Nat) : Int) + tri k = s + (tri k + ((k + 1 : Nat) : Int))
      omega
    show MRes.ret ⟨blks, at_, input, out, fuel, steps + 1 + 1 + 1 + 1 + 1 + 6 * (k : Int) + 2 + 1⟩ (numV (s + ((k + 1 : Nat) : Int) + tri k)) = _
    rw [e, e2]
theorem calls_good (n : Int) : goodUM [] [aloneM [1, 1] [] (callsM n), callsF] = true := by kernel_rfl
theorem calls_run {n : Int} (h0 : 0 ≤ n) (h1 : n ≤ 255) : runUM [] [aloneM [1, 1] [] (callsM n), callsF] [] 3000 = ⟨1, tri n.toNat / 256 % 256, 0, [tri n.toNat % 256], 6 * n + 8⟩ := by
  obtain ⟨k, rfl⟩ : ∃ k : Nat, n = (k : Int) := ⟨n.toNat, by omega⟩
  have hk : k ≤ 255 := by omega
  have hl := tri_lo k
  have hh := tri_hi k hk
  rw [Int.toNat_natCast]
  have h1 := step_go (fns := fnOf [aloneM [1, 1] [] (callsM k), callsF]) (tops := fun _ => none) (n := 2999) (f := aloneM [1, 1] [] (callsM k)) (slots := []) (st := st0 3000 []) (x := [HV.zero, HV.zero]) (a := 0) (i := insOf 1 0 0 0 k 0 [] [] 0) (show (0 : Int) < 3000 by decide) rfl (show (1 : Int) ≠ 16 by decide) (show (1 : Int) ≠ 17 by decide) rfl 1 rfl
  have hc := f_runs (fns := fnOf [aloneM [1, 1] [] (callsM k), callsF]) (tops := fun _ => none) rfl k 2998 (tick (tick (st0 3000 []))) 0 hk (by omega) (by omega) (by simp only [tick, st0]; omega) (by omega)
  have h2 := step_call (fns := fnOf [aloneM [1, 1] [] (callsM k), callsF]) (tops := fun _ => none) (n := 2998) (f := aloneM [1, 1] [] (callsM k)) (slots := []) (st := tick (st0 3000 [])) (x := [numV k, HV.zero]) (a := 1) (i := ⟨16, 1, 0, 0, 0, 0, fN, [1, 0], [], 0⟩) (by decide) rfl rfl rfl hc
  have h3 := step_go (fns := fnOf [aloneM [1, 1] [] (callsM k), callsF]) (tops := fun _ => none) (n := 2997) (f := aloneM [1, 1] [] (callsM k)) (slots := []) (st := ⟨[⟨0, false, false, false⟩], fun _ => none, [], [], 3000, 2 + 6 * (k : Int) + 2⟩) (x := [numV k, numV (0 + tri k)]) (a := 2) (i := insOf 20 0 1 0 0 0 [] [] 0) (by simp only; omega) rfl (by decide) (by decide) rfl 3 rfl
  have h4 := step_go (fns := fnOf [aloneM [1, 1] [] (callsM k), callsF]) (tops := fun _ => none) (n := 2996) (f := aloneM [1, 1] [] (callsM k)) (slots := []) (st := ⟨[⟨0, false, false, false⟩], fun _ => none, [], [(0 + tri k) % 256], 3000, 2 + 6 * (k : Int) + 2 + 1⟩) (x := [numV k, numV (0 + tri k)]) (a := 3) (i := insOf 1 0 0 0 8 0 [] [] 0) (by simp only; omega) rfl (by decide) (by decide) rfl 4 rfl
  have h5 := step_go (fns := fnOf [aloneM [1, 1] [] (callsM k), callsF]) (tops := fun _ => none) (n := 2995) (f := aloneM [1, 1] [] (callsM k)) (slots := []) (st := ⟨[⟨0, false, false, false⟩], fun _ => none, [], [(0 + tri k) % 256], 3000, 2 + 6 * (k : Int) + 2 + 1 + 1⟩) (x := [numV 8, numV (0 + tri k)]) (a := 4) (i := insOf 3 1 1 0 7 0 [] [] 0) (by simp only; omega) rfl (by decide) (by decide) rfl 5 rfl
  have h6 := step_ret (fns := fnOf [aloneM [1, 1] [] (callsM k), callsF]) (tops := fun _ => none) (n := 2994) (f := aloneM [1, 1] [] (callsM k)) (slots := []) (st := ⟨[⟨0, false, false, false⟩], fun _ => none, [], [(0 + tri k) % 256], 3000, 2 + 6 * (k : Int) + 2 + 1 + 1 + 1⟩) (x := [numV 8, numV ((0 + tri k) / 256)]) (a := 5) (i := insOf 17 0 1 0 0 0 [] [] 0) (by simp only; omega) rfl rfl
  have hcm : callM (fnOf [aloneM [1, 1] [] (callsM k), callsF]) (topsM [] (st0 3000 []) (fun _ => none)).2 (3000 : Int).toNat (topsM [] (st0 3000 []) (fun _ => none)).1 (getFn [aloneM [1, 1] [] (callsM k), callsF] [109, 97, 105, 110]) [] = loopM (fnOf [aloneM [1, 1] [] (callsM k), callsF]) (fun _ => none) (2999 + 1) (aloneM [1, 1] [] (callsM k)) [] (st0 3000 []) [HV.zero, HV.zero] ((0 : Nat) : Int) := by kernel_rfl
  rw [runUM_of (calls_good k) (hcm.trans <| h1.trans (h2.trans (h3.trans (h4.trans (h5.trans h6)))))]
  have e : 2 + 6 * (k : Int) + 2 + 1 + 1 + 1 + 1 = 6 * (k : Int) + 8 := by omega
  have e2 : 0 + tri k = tri k := by omega
  show (⟨1, (0 + tri k) / 256 % 256, 0, [(0 + tri k) % 256], 2 + 6 * (k : Int) + 2 + 1 + 1 + 1 + 1⟩ : RunR) = _
  rw [e, e2]
end Go.Proofs.Ytojfgdoniajmeaa
