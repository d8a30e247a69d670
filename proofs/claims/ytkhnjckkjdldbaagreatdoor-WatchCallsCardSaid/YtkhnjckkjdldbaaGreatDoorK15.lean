import Derived.Test.YtkhnjckkjdldbaaGreatDoorK14
namespace Go.Proofs.YtkhnjckkjdldbaaGreatDoor.Q
open Go.RowKit Go.Proofs.YtkhnjckkjdldbaaGreatDoorW.PrintWords Go.Deep Go.Maps Go.WideShapes
open Go.Proofs.YtkhnjckkjdldbaaGreatDoor.Pr (S57 S59 z57 k57 k59)
set_option linter.unusedVariables false
set_option linter.unusedSimpArgs false
attribute [local go_sem] Oper.semAt_some
/-! MEETS, THE REFERENCE's (printed by mkmeets.py) -/
theorem meet_boxes (k a ky : Int) (p q : ByteArray) (w : World) : ∃ W1, (w.alloc (.cells #[.int .i8 k, .string p] 59)).alloc (.cells #[.int .i64 a, .int .i8 ky, .string q] 57) = W1 ∧ Below w.heap.size w W1 ∧ W1.heap[w.heap.size]? = some (.cells #[.int .i8 k, .string p] 59 (0, 0)) ∧ W1.heap[w.heap.size + 1]? = some (.cells #[.int .i64 a, .int .i8 ky, .string q] 57 (0, 0)) := by
  refine ⟨_, rfl, below_two _ _ _, ?_, ?_⟩
  · rw [heap_alloc_old _ _ (by simp)]; exact heap_alloc_new w _
  · have := heap_alloc_new (w.alloc (.cells #[.int .i8 k, .string p] 59)) (.cells #[.int .i64 a, .int .i8 ky, .string q] 57)
    rw [World.size_alloc] at this
    exact this
set_option maxRecDepth 100000 in
theorem meets_1 (k a : Int) (p q : ByteArray) (w : World) (hp : p.size ≤ 2147483648) (hs : q.size ≤ 2147483648) : Calls Tryz.prog 58 #[.agg #[.int .i8 k, .string p], .agg #[.int .i64 a, .int .i8 1, .string q]] w fun e w' => e = .returned (.bool (metB k p ⟨a, 1, q⟩)) ∧ Below w.heap.size w w' := by
  rw [metB_1]
  have HB := Lib.hid (below_two w (.cells #[.int .i8 k, .string p] 59) (.cells #[.int .i64 a, .int .i8 1, .string q] 57))
  cases hq : (p.toList == q.toList) with
  | true =>
    cases h4 : (k == 4) with
    | true =>
      go_enter Tryz.func58, Tryz.ntmps58
      go_wp2
      go_ret
      exact ⟨by first | rfl | (simp [bne, h4]), HB.out⟩
    | false =>
      go_enter Tryz.func58, Tryz.ntmps58
      go_wp2
      go_ret
      exact ⟨by first | rfl | (simp [bne, h4]), HB.out⟩
  | false =>
    go_enter Tryz.func58, Tryz.ntmps58
    go_wp2
    go_ret
    exact ⟨by first | rfl | (simp [*]), HB.out⟩
set_option maxRecDepth 100000 in
theorem meets_2 (k a : Int) (p q : ByteArray) (w : World) (hp : p.size ≤ 2147483648) (hs : q.size ≤ 2147483648) : Calls Tryz.prog 58 #[.agg #[.int .i8 k, .string p], .agg #[.int .i64 a, .int .i8 2, .string q]] w fun e w' => e = .returned (.bool (metB k p ⟨a, 2, q⟩)) ∧ Below w.heap.size w w' := by
  rw [metB_2]
  have HB := Lib.hid (below_two w (.cells #[.int .i8 k, .string p] 59) (.cells #[.int .i64 a, .int .i8 2, .string q] 57))
  cases hq : (p.toList == q.toList) with
  | false =>
    go_enter Tryz.func58, Tryz.ntmps58
    go_wp2
    go_ret
    exact ⟨by first | rfl | (simp [*]), HB.out⟩
  | true =>
    cases h4 : (k == 4) with
    | true =>
      go_enter Tryz.func58, Tryz.ntmps58
      go_wp2
      go_ret
      exact ⟨by first | rfl | (simp [*]), HB.out⟩
    | false =>
      obtain ⟨r, hr⟩ : ∃ r, (k == 2) = r := ⟨_, rfl⟩
      rw [hr]
      go_enter Tryz.func58, Tryz.ntmps58
      go_wp2
      go_ret
      exact ⟨by first | rfl | (simp [*]), HB.out⟩
set_option maxRecDepth 100000 in
theorem meets_3 (k a : Int) (p q : ByteArray) (w : World) (hp : p.size ≤ 2147483648) (hs : q.size ≤ 2147483648) : Calls Tryz.prog 58 #[.agg #[.int .i8 k, .string p], .agg #[.int .i64 a, .int .i8 3, .string q]] w fun e w' => e = .returned (.bool (metB k p ⟨a, 3, q⟩)) ∧ Below w.heap.size w w' := by
  rw [metB_3]
  have HB := Lib.hid (below_two w (.cells #[.int .i8 k, .string p] 59) (.cells #[.int .i64 a, .int .i8 3, .string q] 57))
  go_enter Tryz.func58, Tryz.ntmps58
  go_wp2
  go_ret
  exact ⟨by first | rfl | (simp [*]), HB.out⟩
set_option maxRecDepth 100000 in
theorem meets_4 (k a : Int) (p q : ByteArray) (w : World) (hp : p.size ≤ 2147483648) (hs : q.size ≤ 2147483648) : Calls Tryz.prog 58 #[.agg #[.int .i8 k, .string p], .agg #[.int .i64 a, .int .i8 4, .string q]] w fun e w' => e = .returned (.bool (metB k p ⟨a, 4, q⟩)) ∧ Below w.heap.size w w' := by
  rw [metB_4]
  have HB := Lib.hid (below_two w (.cells #[.int .i8 k, .string p] 59) (.cells #[.int .i64 a, .int .i8 4, .string q] 57))
  obtain ⟨W1, hW1, hB1, hz1, hz2⟩ := meet_boxes k a 4 p q w
  have KB := Lib.hid (refBelow_calls p q W1 hp hs)
  have HB1 := Lib.hid hB1
  have HW := Lib.hid hW1
  have HZ := Lib.hid (And.intro hz1 hz2)
  obtain ⟨bb, hbb⟩ : ∃ v, belowP p q = v := ⟨_, rfl⟩
  rw [hbb] at KB
  have HBB := Lib.hid hbb
  rw [hbb]
  clear hB1 hW1 hz1 hz2 hbb HB
  obtain ⟨qq, hqq⟩ : ∃ v, (p.toList == q.toList) = v := ⟨_, rfl⟩
  rw [hqq]
  obtain ⟨cc, hcc⟩ : ∃ v, (k == 4) = v := ⟨_, rfl⟩
  have hnc : (k != 4) = !cc := by simp [bne, hcc]
  rw [hnc]
  clear hnc
  go_enter Tryz.func58, Tryz.ntmps58
  go_wp2_with fail
  rw [HW.out]
  refine KB.out.mono ?_
  rintro e w1 ⟨rfl, hB⟩
  have HB2 := Lib.hid (below_step HB1.out hB)
  clear hB KB hqq hcc
  cases cc <;> cases qq <;> (
    go_wp2
    go_ret
    exact ⟨by simp, HB2.out⟩)
theorem meets_calls (k : Int) (p : ByteArray) (x : S57) (w : World) (hp : p.size ≤ 2147483648) (hs : x.f2.size ≤ 2147483648) (hk : kindB x = true) : Calls Tryz.prog 58 #[.agg #[.int .i8 k, .string p], .agg (encW x).toArray] w fun e w' => e = .returned (.bool (metB k p x)) ∧ Below w.heap.size w w' := by
  obtain ⟨a, ky, q⟩ := x
  unfold kindB at hk
  simp only [decide_eq_true_eq] at hk
  have h14 : ky = 1 ∨ ky = 2 ∨ ky = 3 ∨ ky = 4 := by omega
  rcases h14 with rfl | rfl | rfl | rfl
  · exact meets_1 k a p q w hp hs
  · exact meets_2 k a p q w hp hs
  · exact meets_3 k a p q w hp hs
  · exact meets_4 k a p q w hp hs
end Go.Proofs.YtkhnjckkjdldbaaGreatDoor.Q
