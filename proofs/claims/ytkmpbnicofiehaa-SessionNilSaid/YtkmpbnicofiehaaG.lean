import Derived.Test.YtkmpbnicofiehaaF
namespace Go.Proofs.Ytkmpbnicofiehaa.Q
open Go.RowKit Go.Proofs.YtkmpbnicofiehaaW.PrintWords Go.Deep Go.Maps Go.WideShapes
set_option linter.unusedVariables false
set_option linter.unusedSimpArgs false
attribute [local go_sem] Oper.semAt_some

set_option maxHeartbeats 8000000 in
theorem sessionNil_calls (id t : Int) (w : World) : Calls Try.prog 5 #[.int .i64 id, .int .i32 t] w fun e w' => e = .returned (.bool true) ∧ Below w.heap.size w w' := by
  have K1 := Lib.hid (works_calls w)
  have K2 := Lib.hid (fun w => nothing_calls (none_nil w) id t)
  have K3 := Lib.hid (fun w : World => nothing_calls (none_zero w.heap.size (w.alloc (.cells #[.int .i64 0, .int .i64 0, .map none, .nilFunc] 46)) (World.alloc_heap_new w _)) id t)
  go_enter Try.func5, Try.ntmps5
  go_wp2_with fail
  refine K1.out.mono ?_
  rintro e w1 ⟨rfl, hB⟩
  have HB := Lib.hid hB
  clear hB
  go_wp2_with fail
  refine (K2.out w1).mono ?_
  rintro e w2 ⟨rfl, rfl⟩
  go_wp2_with fail
  refine (K3.out _).mono ?_
  rintro e w3 ⟨rfl, rfl⟩
  go_wp2
  go_ret
  exact ⟨rfl, below_alloc HB.out _⟩
end Go.Proofs.Ytkmpbnicofiehaa.Q
