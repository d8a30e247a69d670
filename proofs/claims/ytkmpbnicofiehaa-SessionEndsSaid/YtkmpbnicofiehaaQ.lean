import Derived.Test.YtkmpbnicofiehaaO
namespace Go.Proofs.Ytkmpbnicofiehaa.Q
open Go.RowKit Go.Proofs.YtkmpbnicofiehaaW.PrintWords Go.Deep Go.Maps Go.WideShapes
set_option linter.unusedVariables false
set_option linter.unusedSimpArgs false
attribute [local go_sem] Oper.semAt_some

set_option maxHeartbeats 4000000 in
theorem lives_span (span id t : Int) (v : Value) (w : World) (h : span < 1 ∨ 1000 < span) :
    Calls Try.prog 4 #[.int .i64 span, .int .i64 id, .int .i32 t, v] w fun e w' => e = .returned (.bool true) ∧ Below w.heap.size w w' := by
  have K1 := Lib.hid (works_calls w)
  have K2 := Lib.hid (fun w => new_bad span w h)
  rcases h with h | h
  · have q1 : decide (span < 1) = true := decide_eq_true h
    go_enter Try.func4, Try.ntmps4
    go_wp2_with fail
    refine K1.out.mono ?_
    rintro e w1 ⟨rfl, hB⟩
    have HB1 := Lib.hid hB
    clear hB
    go_wp2_with fail
    refine (K2.out w1).mono ?_
    rintro e w2 ⟨rfl, hB⟩
    have HB2 := Lib.hid (below_step HB1.out hB)
    clear hB
    go_wp2
    go_ret
    exact ⟨rfl, HB2.out⟩
  · have q1 : decide (span < 1) = false := decide_eq_false (by omega)
    have q2 : decide (1000 < span) = true := decide_eq_true h
    go_enter Try.func4, Try.ntmps4
    go_wp2_with fail
    refine K1.out.mono ?_
    rintro e w1 ⟨rfl, hB⟩
    have HB1 := Lib.hid hB
    clear hB
    go_wp2_with fail
    refine (K2.out w1).mono ?_
    rintro e w2 ⟨rfl, hB⟩
    have HB2 := Lib.hid (below_step HB1.out hB)
    clear hB
    go_wp2
    go_ret
    exact ⟨rfl, HB2.out⟩
set_option maxHeartbeats 4000000 in
theorem lives_add (span id t : Int) (v : Value) (w : World) (h1 : 1 ≤ span) (h2 : span ≤ 1000) (h : id < 1 ∨ t < 1 ∨ 1000 < t) :
    Calls Try.prog 4 #[.int .i64 span, .int .i64 id, .int .i32 t, v] w fun e w' => e = .returned (.bool true) ∧ Below w.heap.size w w' := by
  have K1 := Lib.hid (works_calls w)
  obtain ⟨a, ha⟩ : ∃ a, decide (id < 1) = a := ⟨_, rfl⟩
  obtain ⟨a2, ha2⟩ : ∃ a, decide (t < 1) = a := ⟨_, rfl⟩
  obtain ⟨a3, ha3⟩ : ∃ a, decide (1000 < t) = a := ⟨_, rfl⟩
  have HX : Hid ((a || (a2 || a3)) = true) := Lib.hid (by subst ha ha2 ha3; simpa using h)
  have HH := Lib.hid h
  clear h
  go_enter Try.func4, Try.ntmps4
  go_wp2_with fail
  refine K1.out.mono ?_
  rintro e w1 ⟨rfl, hB⟩
  have HB1 := Lib.hid hB
  clear hB
  go_wp2_with fail
  refine (new_calls span w1 h1 h2).mono ?_
  rintro e w2 ⟨c, b, s, rfl, hC, hB, hb, hc⟩
  have K2 := Lib.hid (add_bad id t hC h1 HH.out)
  have HB2 := Lib.hid (below_step HB1.out hB)
  clear hC hB hb hc
  go_wp2_with fail
  refine K2.out.mono ?_
  rintro e w3 ⟨rfl, rfl⟩
  cases a
  · cases a2
    · cases a3
      · exact absurd HX.out (by simp)
      · go_wp2
        go_ret
        exact ⟨rfl, HB2.out⟩
    · go_wp2
      go_ret
      exact ⟨rfl, HB2.out⟩
  · go_wp2
    go_ret
    exact ⟨rfl, HB2.out⟩
theorem sessionLives_calls (span id t : Int) (A : Option Addr) (ca : Nat) (gs : List Int) (w : World) (hA : Rd w A gs) (hi0 : (Lit.int .i64 id).wf = true) :
    Calls Try.prog 4 #[.int .i64 span, .int .i64 id, .int .i32 t, .slice A gs.length ca] w fun e w' => e = .returned (.bool true) ∧ Below w.heap.size w w' := by
  by_cases h1 : span < 1 ∨ 1000 < span
  · exact lives_span span id t _ w h1
  · by_cases h2 : id < 1 ∨ t < 1 ∨ 1000 < t
    · exact lives_add span id t _ w (by omega) (by omega) h2
    · exact lives_yes span id t A ca gs w hA (by omega) (by omega) (by omega) hi0 (by omega) (by omega)
end Go.Proofs.Ytkmpbnicofiehaa.Q
