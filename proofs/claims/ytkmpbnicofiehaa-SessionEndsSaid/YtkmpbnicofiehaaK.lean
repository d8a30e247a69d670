import Derived.Test.YtkmpbnicofiehaaJ
import Derived.Test.YtkmpbnicofiehaaP
namespace Go.Proofs.Ytkmpbnicofiehaa.Q
open Go.RowKit Go.Proofs.YtkmpbnicofiehaaW.PrintWords Go.Deep Go.Maps Go.WideShapes
set_option linter.unusedVariables false
set_option linter.unusedSimpArgs false
attribute [local go_sem] Oper.semAt_some

/-! ONE SESSION -/
def oneD (id t d : Int) : DataW Unit := .map [(.int .i64 id, lifeD t d)]
theorem oneD_put (id t d t' d' : Int) : (oneD id t d).put (.int .i64 id) (lifeD t' d') = oneD id t' d' := by
  simp [oneD, DataW.put, DataW.insert, Lit.sameKey]
theorem empty_put (id t d : Int) : (DataW.map []).put (.int .i64 id) (lifeD t d) = oneD id t d := by simp [oneD, DataW.put, DataW.insert]
theorem oneD_has (id t d x : Int) : Maps.has (oneD id t d) (.int .i64 x) = decide (x = id) := by
  unfold oneD Maps.has
  simp only [List.any_cons, List.any_nil, Bool.or_false]
  by_cases h : x = id
  · subst h; simp [Lit.sameKey]
  · rw [sameKey_ne (fun e => h (by cases e; rfl))]; simp [h]
theorem oneD_size (id t d : Int) : Maps.size (oneD id t d) = 1 := rfl
theorem oneD_at (id t d : Int) (zd : DataW Unit) : (oneD id t d).atKey (.int .i64 id) zd = lifeD t d := by
  simp [oneD, DataW.atKey, Lit.sameKey]
theorem oneD_look (id t d x : Int) : look (oneD id t d) x = if x = id then some (t, d) else none := by
  unfold look
  rw [oneD_has]
  by_cases h : x = id
  · subst h; simp [oneD_at, lifeD]
  · simp [h]
/-! SORTFUNC ON ONE -/
theorem insertc_small (v f : Value) (n : Int) (w : World) (h0 : 0 ≤ n) (h1 : n ≤ 1) : Calls Try.prog 39 #[v, .int .i64 0, .int .i64 n, f] w fun e w' => e = .returned (.tuple #[]) ∧ w' = w := by
  have q0 : decide ((1 : Int) < n) = false := decide_eq_false (by omega)
  go_enter Try.func39, Try.ntmps39
  go_wp2_with fail
  refine wp_loop_rounds 1 ?_
  rw [rounds_succ]
  go_wp2
  go_end0
  exact ⟨rfl, rfl⟩
theorem pdqc_small (v f : Value) (n l : Int) (w : World) (h0 : 0 ≤ n) (h1 : n ≤ 1) : Calls Try.prog 26 #[v, .int .i64 0, .int .i64 n, .int .i64 l, f] w fun e w' => e = .returned (.tuple #[]) ∧ w' = w := by
  have q0 : decide (n ≤ 12) = true := decide_eq_true (by omega)
  have K := Lib.hid (insertc_small v f n w h0 h1)
  go_enter Try.func26, Try.ntmps26
  go_wp2_with fail
  refine wp_loop_rounds 1 ?_
  rw [rounds_succ]
  go_wp2_with fail
  refine K.out.mono ?_
  rintro e w1 ⟨rfl, rfl⟩
  go_wp2
  refine bodyPost_ret (results_none rfl _ _ _) rfl ?_
  exact ⟨rfl, rfl⟩
theorem sortc_one (A : Option Addr) (n c : Nat) (f : Value) (w : World) (hn : n ≤ 1) : Calls Try.prog 20 #[.slice A n c, f] w fun e w' => e = .returned (.tuple #[]) ∧ w' = w := by
  have K1 := Lib.hid (Try.bits_Len (n : Int) w (by omega) (by omega))
  have K2 := Lib.hid (fun l => pdqc_small (.slice A n c) f (n : Int) l w (by omega) (by omega))
  go_enter Try.func20, Try.ntmps20
  go_wp2_with fail
  refine K1.out.mono ?_
  rintro e w1 ⟨rfl, rfl⟩
  go_wp2_with fail
  refine (K2.out _).mono ?_
  rintro e w2 ⟨rfl, rfl⟩
  go_wp2
  go_end0
  exact ⟨rfl, rfl⟩
end Go.Proofs.Ytkmpbnicofiehaa.Q
