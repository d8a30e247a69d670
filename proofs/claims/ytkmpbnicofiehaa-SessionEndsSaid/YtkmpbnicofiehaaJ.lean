import Derived.Test.YtkmpbnicofiehaaI
namespace Go.Proofs.Ytkmpbnicofiehaa.Q
open Go.RowKit Go.Deep Go.Maps Go.WideShapes
theorem key_ne {x y : Int} (h : y ≠ x) : (Lit.int .i64 y) ≠ .int .i64 x := fun e => h (by cases e; rfl)
theorem look_put {D : DataW Unit} (hD : IsMap D) (x y t d : Int) : look (D.put (.int .i64 x) (lifeD t d)) y = if y = x then some (t, d) else look D y := by
  by_cases h : y = x
  · subst h
    rw [if_pos rfl]
    exact look_at (fun zd => atKey_put_same hD (by trivial) _ zd)
  · rw [if_neg h]
    unfold look
    rw [has_put_other (key_ne h), atKey_put_other (key_ne h)]
end Go.Proofs.Ytkmpbnicofiehaa.Q
