import Derived.Test.YtkmpbnicofiehaaH
namespace Go.Proofs.Ytkmpbnicofiehaa.Q
open Go.RowKit Go.Proofs.YtkmpbnicofiehaaW.PrintWords Go.Deep Go.Maps Go.WideShapes
set_option linter.unusedVariables false
set_option linter.unusedSimpArgs false
attribute [local go_sem] Oper.semAt_some

theorem add_bad {c b s n : Nat} {now span : Int} {D : DataW Unit} {w : World} (id t : Int) (h : Clk c b s now span n D w) (h1 : 1 ≤ span) (hb : id < 1 ∨ t < 1 ∨ 1000 < t) :
    Calls Try.prog 10 #[.pointer (some ⟨c, 0, none⟩), .int .i64 id, .int .i32 t] w fun e w' => e = .returned (.int .i64 1) ∧ w' = w := by
  have K1 := Lib.hid (none_clk h h1)
  clear h
  by_cases a1 : id < 1
  · have q1 : decide (id < 1) = true := decide_eq_true a1
    go_enter Try.func10, Try.ntmps10
    go_wp2_with fail
    refine K1.out.mono ?_
    rintro e w1 ⟨rfl, rfl⟩
    go_wp2
    go_ret
    exact ⟨rfl, rfl⟩
  have q1 : decide (id < 1) = false := decide_eq_false a1
  by_cases a2 : t < 1
  · have q2 : decide (t < 1) = true := decide_eq_true a2
    go_enter Try.func10, Try.ntmps10
    go_wp2_with fail
    refine K1.out.mono ?_
    rintro e w1 ⟨rfl, rfl⟩
    go_wp2
    go_ret
    exact ⟨rfl, rfl⟩
  have q2 : decide (t < 1) = false := decide_eq_false a2
  have q3 : decide (1000 < t) = true := decide_eq_true (by omega)
  go_enter Try.func10, Try.ntmps10
  go_wp2_with fail
  refine K1.out.mono ?_
  rintro e w1 ⟨rfl, rfl⟩
  go_wp2
  go_ret
  exact ⟨rfl, rfl⟩
theorem few_calls (n : Int) (w : World) : Calls Try.prog 8 #[.int .i64 n] w fun e w' => e = .returned (.int .i64 (if n < 1 then 1 else if 40 < n then 40 else n)) ∧ w' = w := by
  by_cases a1 : n < 1
  · have q1 : decide (n < 1) = true := decide_eq_true a1
    rw [if_pos a1]
    go_enter Try.func8, Try.ntmps8
    go_wp2
    go_ret
    exact ⟨rfl, rfl⟩
  have q1 : decide (n < 1) = false := decide_eq_false a1
  rw [if_neg a1]
  by_cases a2 : 40 < n
  · have q2 : decide (40 < n) = true := decide_eq_true a2
    rw [if_pos a2]
    go_enter Try.func8, Try.ntmps8
    go_wp2
    go_ret
    exact ⟨rfl, rfl⟩
  have q2 : decide (40 < n) = false := decide_eq_false a2
  rw [if_neg a2]
  go_enter Try.func8, Try.ntmps8
  go_wp2
  go_ret
  exact ⟨rfl, rfl⟩
end Go.Proofs.Ytkmpbnicofiehaa.Q
