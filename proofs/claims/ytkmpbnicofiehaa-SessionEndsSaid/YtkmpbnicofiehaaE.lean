import Derived.Test.YtkmpbnicofiehaaD
import Derived.Test.YtkmpbnicofiehaaShelf
namespace Go.Proofs.Ytkmpbnicofiehaa.Q
open Go.RowKit Go.Proofs.YtkmpbnicofiehaaW.PrintWords Go.Deep Go.Maps Go.WideShapes
set_option linter.unusedVariables false
set_option linter.unusedSimpArgs false
attribute [local go_sem] Oper.semAt_some

/-! A LIST OF ONE AT MOST IS SORTED -/
theorem insert_small (v : Value) (n : Int) (w : World) (h0 : 0 ≤ n) (h1 : n ≤ 1) : Calls Try.prog 28 #[v, .int .i64 0, .int .i64 n] w fun e w' => e = .returned (.tuple #[]) ∧ w' = w := by
  have q0 : decide ((1 : Int) < n) = false := decide_eq_false (by omega)
  go_enter Try.func28, Try.ntmps28
  go_wp2_with fail
  refine wp_loop_rounds 1 ?_
  rw [rounds_succ]
  go_wp2
  go_end0
  exact ⟨rfl, rfl⟩
theorem pdq_small (v : Value) (n l : Int) (w : World) (h0 : 0 ≤ n) (h1 : n ≤ 1) : Calls Try.prog 24 #[v, .int .i64 0, .int .i64 n, .int .i64 l] w fun e w' => e = .returned (.tuple #[]) ∧ w' = w := by
  have q0 : decide (n ≤ 12) = true := decide_eq_true (by omega)
  have K := Lib.hid (insert_small v n w h0 h1)
  go_enter Try.func24, Try.ntmps24
  go_wp2_with fail
  refine wp_loop_rounds 1 ?_
  rw [rounds_succ]
  go_wp2_with fail
  refine K.out.mono ?_
  rintro e w1 ⟨rfl, rfl⟩
  go_wp2
  refine bodyPost_ret (results_none rfl _ _ _) rfl ?_
  exact ⟨rfl, rfl⟩
theorem sort_one : SortOK 1 := by
  intro v xs w base hb hrow hl
  obtain ⟨av, cv, rfl, hnc⟩ := own_sliceN hrow
  obtain ⟨n, hn⟩ : ∃ n, xs.length = n := ⟨_, rfl⟩
  rw [hn] at hrow hl ⊢
  have K1 := Lib.hid (Try.bits_Len (n : Int) w (by omega) (by omega))
  have K2 := Lib.hid (fun l => pdq_small (.slice av n cv) (n : Int) l w (by omega) (by omega))
  have HR := Lib.hid hrow
  clear hrow
  go_enter Try.func18, Try.ntmps18
  go_wp2_with fail
  refine K1.out.mono ?_
  rintro e w1 ⟨rfl, rfl⟩
  go_wp2_with fail
  refine (K2.out _).mono ?_
  rintro e w2 ⟨rfl, rfl⟩
  go_wp2
  go_end0
  refine ⟨rfl, xs, List.Perm.refl _, ?_, by rw [hn]; exact HR.out, Only.refl _ _⟩
  match xs, hn with
  | [], _ => exact List.Pairwise.nil
  | [x], _ => exact List.pairwise_singleton _ _
  | x :: y :: l, hn => simp at hn; omega
end Go.Proofs.Ytkmpbnicofiehaa.Q
