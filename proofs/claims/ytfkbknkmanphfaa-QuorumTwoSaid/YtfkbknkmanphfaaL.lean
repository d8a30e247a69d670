import Derived.Test.YtfkbknkmanphfaaK
namespace Go.Proofs.Ytfkbknkmanphfaa.Q
open Go.RowKit Go.Proofs.YtfkbknkmanphfaaW.PrintWords Go.Sort
set_option linter.unusedVariables false
set_option linter.unusedSimpArgs false

/-- a slice of Puts that reads as ps -/
def RdP (w : World) (A : Option Addr) (ps : List Pt) : Prop := ps.length ≤ 9223372036854775807 ∧ (0 < ps.length → ∃ b o, A = some ⟨b, o, none⟩ ∧ ∀ i, i < ps.length →
  w.cell? ⟨b, o + i * 3, none⟩ = some (.int .i8 (ps.getD i ⟨0, 0, 0⟩).s) ∧ w.cell? ⟨b, o + i * 3 + 1, none⟩ = some (.int .u32 (ps.getD i ⟨0, 0, 0⟩).e) ∧ w.cell? ⟨b, o + i * 3 + 2, none⟩ = some (.int .u32 (ps.getD i ⟨0, 0, 0⟩).n))
def PtsOk (ps : List Pt) : Prop := ∀ i, i < ps.length → -128 ≤ (ps.getD i ⟨0, 0, 0⟩).s ∧ (ps.getD i ⟨0, 0, 0⟩).s ≤ 127
theorem best_init (ws gs : List Int) : bestTo ws gs (fun _ => ⟨false, 0, 0⟩) 7 = ⟨false, 0, 0⟩ := by
  refine best_none _ _ _ _ ?_
  cases h : (bestTo ws gs (fun _ => ⟨false, 0, 0⟩) 7).s with
  | false => rfl
  | true =>
    obtain ⟨k, _, e, c, _⟩ := (best_spec ws gs _ 7).1 h
    simp at c

set_option maxRecDepth 100000 in
set_option maxHeartbeats 16000000 in
theorem rises_long (Aw Ag Ap : Option Addr) (cw cg cp : Nat) (ws gs : List Int) (ps : List Pt) (w : World) (h1 : ws.length ≤ 9223372036854775807) (h2 : gs.length ≤ 9223372036854775807) (h3 : ps.length ≤ 9223372036854775807) (h : 2147483647 ≤ ws.length ∨ 2147483647 ≤ gs.length ∨ 2147483647 ≤ ps.length) :
    Calls Try.prog 4 #[.slice Aw ws.length cw, .slice Ag gs.length cg, .slice Ap ps.length cp] w fun e w' => e = .returned (.bool true) ∧ Below w.heap.size w w' := by
  by_cases c : 2147483647 ≤ ws.length
  · go_enter Try.func4, Try.ntmps4
    go_wp2_with fail
    refine (long_calls' _ (by omega) _).mono ?_
    rintro e wx ⟨rfl, rfl⟩
    go_wp2
    go_ret
    exact ⟨rfl, Below.refl _ _⟩
  by_cases c2 : 2147483647 ≤ gs.length
  · go_enter Try.func4, Try.ntmps4
    go_wp2_with fail
    refine (long_calls _ (by omega) _).mono ?_
    rintro e wx ⟨rfl, rfl⟩
    go_wp2_with fail
    refine (long_calls' _ (by omega) _).mono ?_
    rintro e wx ⟨rfl, rfl⟩
    go_wp2
    go_ret
    exact ⟨rfl, Below.refl _ _⟩
  · go_enter Try.func4, Try.ntmps4
    go_wp2_with fail
    refine (long_calls _ (by omega) _).mono ?_
    rintro e wx ⟨rfl, rfl⟩
    go_wp2_with fail
    refine (long_calls _ (by omega) _).mono ?_
    rintro e wx ⟨rfl, rfl⟩
    go_wp2_with fail
    refine (long_calls' _ (by omega) _).mono ?_
    rintro e wx ⟨rfl, rfl⟩
    go_wp2
    go_ret
    exact ⟨rfl, Below.refl _ _⟩

set_option maxRecDepth 100000 in
set_option maxHeartbeats 16000000 in
theorem rises_no (Aw Ag Ap : Option Addr) (cw cg cp : Nat) (ws gs : List Int) (ps : List Pt) (w : World) (hw : Rd w Aw ws) (hg : Rd w Ag gs) (h1 : ws.length < 2147483647) (h2 : gs.length < 2147483647) (h3 : ps.length < 2147483647) (hv : ¬ Valid ws gs) :
    Calls Try.prog 4 #[.slice Aw ws.length cw, .slice Ag gs.length cg, .slice Ap ps.length cp] w fun e w' => e = .returned (.bool true) ∧ Below w.heap.size w w' := by
  have HB := Lib.hid (Below.refl w.heap.size w)
  have HW := Lib.hid hw
  have HG := Lib.hid hg
  have HV := Lib.hid hv
  clear hw hg hv
  go_enter Try.func4, Try.ntmps4
  go_wp2_with fail
  refine (long_calls _ (by omega) _).mono ?_
  rintro e wx ⟨rfl, rfl⟩
  go_wp2_with fail
  refine (long_calls _ (by omega) _).mono ?_
  rintro e wx ⟨rfl, rfl⟩
  go_wp2_with fail
  refine (long_calls _ (by omega) _).mono ?_
  rintro e wx ⟨rfl, rfl⟩
  go_wp2_with fail
  refine (lives_calls _).mono ?_
  rintro e w1 ⟨rfl, hB⟩
  replace HB := Lib.hid (below_then HB.out HB.out.size hB)
  clear hB
  go_wp2_with fail
  refine (new_calls Aw Ag cw cg ws gs _ (HW.out.below HB.out) (HG.out.below HB.out)).mono ?_
  rintro e wn ⟨hB, ⟨hv, _⟩ | ⟨_, rfl⟩⟩
  · exact absurd hv HV.out
  · replace HB := Lib.hid (below_then HB.out HB.out.size hB)
    clear hB
    go_wp2
    go_ret
    exact ⟨rfl, HB.out⟩

end Go.Proofs.Ytfkbknkmanphfaa.Q
