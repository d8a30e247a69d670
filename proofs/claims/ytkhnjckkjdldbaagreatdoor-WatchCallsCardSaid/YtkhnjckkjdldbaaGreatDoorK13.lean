import Derived.Test.YtkhnjckkjdldbaaGreatDoorKc
import Derived.Test.YtkhnjckkjdldbaaGreatDoorPc
namespace Go.Proofs.YtkhnjckkjdldbaaGreatDoor.Q
open Go.RowKit Go.Proofs.YtkhnjckkjdldbaaGreatDoorW.PrintWords Go.Deep Go.Maps Go.WideShapes
open Go.Proofs.YtkhnjckkjdldbaaGreatDoor.Pr (S57 S59 z57 k57 k59 lagoonref18_path.f lagoonref18_IsChange.f lagoonref18_Goes.f)
set_option linter.unusedVariables false
set_option linter.unusedSimpArgs false
attribute [local go_sem] Oper.semAt_some
/-! WHICH CHANGES MEET A WATCH -/
noncomputable def metB (k : Int) (p : ByteArray) (x : S57) : Bool :=
  if x.f1 = 1 then (p.toList == x.f2.toList) && (k != 4)
  else if x.f1 = 2 then (p.toList == x.f2.toList) && ((k == 4) || (k == 2))
  else if x.f1 = 3 then p.toList == x.f2.toList
  else (k != 4) && ((p.toList == x.f2.toList) || belowP p x.f2)
def goesB (x : S57) : Bool := (x.f1 == 1) || (x.f1 == 2)
def changeB (k : Int) (p : ByteArray) : Bool := decide (1 ≤ k ∧ k ≤ 4) && isPathB p
theorem below_two (w : World) (o1 o2 : Obj) : Below w.heap.size w ((w.alloc o1).alloc o2) := below_alloc (below_alloc (Below.refl _ _) _) _
theorem metData_calls (q p : ByteArray) (k : Int) (w : World) : Calls Tryz.prog 154 #[.agg #[.string q], .agg #[.int .i8 k, .string p]] w fun e w' => e = .returned (.bool ((p.toList == q.toList) && (k != 4))) ∧ Below w.heap.size w w' := by
  obtain ⟨W1, hW1⟩ : ∃ V, (w.alloc (.cells #[.string q] 197)).alloc (.cells #[.int .i8 k, .string p] 59) = V := ⟨_, rfl⟩
  have hB1 : Below w.heap.size w W1 := by rw [← hW1]; exact below_two _ _ _
  have K := Lib.hid (itself_calls k p W1)
  have HB := Lib.hid hB1
  have HW := Lib.hid hW1
  cases hq : (p.toList == q.toList) with
  | true =>
    clear hB1 hW1
    go_enter Tryz.func154, Tryz.ntmps154
    go_wp2_with fail
    rw [HW.out]
    refine K.out.mono ?_
    rintro e w1 ⟨rfl, hB⟩
    have HB2 := Lib.hid (below_step HB.out hB)
    clear hB K hq
    go_wp2
    go_ret
    exact ⟨rfl, HB2.out⟩
  | false =>
    rw [← hW1] at HB
    clear hB1 K HW hW1
    go_enter Tryz.func154, Tryz.ntmps154
    go_wp2
    go_ret
    exact ⟨rfl, HB.out⟩
theorem metStay_calls (q p : ByteArray) (k : Int) (w : World) : Calls Tryz.prog 157 #[.agg #[.string q], .agg #[.int .i8 k, .string p]] w fun e w' => e = .returned (.bool (p.toList == q.toList)) ∧ Below w.heap.size w w' := by
  have HB := Lib.hid (below_two w (.cells #[.string q] 199) (.cells #[.int .i8 k, .string p] 59))
  go_enter Tryz.func157, Tryz.ntmps157
  go_wp2
  go_ret
  exact ⟨rfl, HB.out⟩
theorem metChild_calls (q p : ByteArray) (k : Int) (w : World) : Calls Tryz.prog 156 #[.agg #[.string q], .agg #[.int .i8 k, .string p]] w fun e w' => e = .returned (.bool ((p.toList == q.toList) && ((k == 4) || (k == 2)))) ∧ Below w.heap.size w w' := by
  have HB := Lib.hid (below_two w (.cells #[.string q] 198) (.cells #[.int .i8 k, .string p] 59))
  cases hq : (p.toList == q.toList) with
  | false =>
    go_enter Tryz.func156, Tryz.ntmps156
    go_wp2
    go_ret
    exact ⟨rfl, HB.out⟩
  | true =>
    cases h4 : (k == 4) with
    | true =>
      go_enter Tryz.func156, Tryz.ntmps156
      go_wp2
      go_ret
      exact ⟨rfl, HB.out⟩
    | false =>
      obtain ⟨r, hr⟩ : ∃ r, (k == 2) = r := ⟨_, rfl⟩
      rw [hr]
      go_enter Tryz.func156, Tryz.ntmps156
      go_wp2
      go_ret
      exact ⟨rfl, HB.out⟩
theorem metBelow_calls (q p : ByteArray) (k : Int) (w : World) (hp : p.size ≤ 2147483648) (hs : q.size ≤ 2147483648) (hT : Tabs w) : Calls Tryz.prog 158 #[.agg #[.string q], .agg #[.int .i8 k, .string p]] w fun e w' => e = .returned (.bool ((k != 4) && ((p.toList == q.toList) || belowP p q))) ∧ Below w.heap.size w w' := by
  obtain ⟨W1, hW1⟩ : ∃ V, (w.alloc (.cells #[.string q] 200)).alloc (.cells #[.int .i8 k, .string p] 59) = V := ⟨_, rfl⟩
  have hB1 : Below w.heap.size w W1 := by rw [← hW1]; exact below_two _ _ _
  have hs0 : W1.heap[w.heap.size]? = some (.cells #[.string q] 200 (0, 0)) := by
    rw [← hW1, heap_alloc_old _ _ (by simp)]; exact heap_alloc_new w _
  have hs1 : W1.heap[w.heap.size + 1]? = some (.cells #[.int .i8 k, .string p] 59 (0, 0)) := by
    have := heap_alloc_new (w.alloc (.cells #[.string q] 200)) (.cells #[.int .i8 k, .string p] 59)
    rw [World.size_alloc] at this
    rw [← hW1]; exact this
  have KI := Lib.hid (itself_calls k p W1)
  have KB := Lib.hid (fun W => below_calls p q W hp hs)
  have HB := Lib.hid hB1
  have HW := Lib.hid hW1
  have HT := Lib.hid hT
  have HS := Lib.hid (And.intro hs0 hs1)
  clear hB1 hW1 hT hs0 hs1
  cases h4 : (k != 4) with
  | false =>
    rw [h4] at KI
    go_enter Tryz.func158, Tryz.ntmps158
    go_wp2_with fail
    rw [HW.out]
    refine KI.out.mono ?_
    rintro e w1 ⟨rfl, hB⟩
    have HB2 := Lib.hid (below_step HB.out hB)
    clear hB KI h4
    go_wp2
    go_ret
    exact ⟨rfl, HB2.out⟩
  | true =>
    rw [h4] at KI
    cases hq : (p.toList == q.toList) with
    | true =>
      go_enter Tryz.func158, Tryz.ntmps158
      go_wp2_with fail
      rw [HW.out]
      refine KI.out.mono ?_
      rintro e w1 ⟨rfl, hB⟩
      have HB2 := Lib.hid (below_step HB.out hB)
      have x0 := cell_rowK (k := 0) (v := .string q) (blkK HS.out.1 hB) rfl
      have x1 := cell_rowK (k := 1) (v := .string p) (blkK HS.out.2 hB) rfl
      clear hB KI h4
      go_wp2
      go_ret
      exact ⟨rfl, HB2.out⟩
    | false =>
      go_enter Tryz.func158, Tryz.ntmps158
      go_wp2_with fail
      rw [HW.out]
      refine KI.out.mono ?_
      rintro e w1 ⟨rfl, hB⟩
      have HB2 := Lib.hid (below_step HB.out hB)
      have x0 := cell_rowK (k := 0) (v := .string q) (blkK HS.out.1 hB) rfl
      have x1 := cell_rowK (k := 1) (v := .string p) (blkK HS.out.2 hB) rfl
      clear hB KI h4
      go_wp2_with fail
      refine (KB.out w1 (tabs_from HT.out HB2.out)).mono ?_
      rintro e w2 ⟨rfl, hB⟩
      have HB3 := Lib.hid (below_step HB2.out hB)
      clear hB KB x0 x1
      obtain ⟨r, hr⟩ : ∃ r, belowP p q = r := ⟨_, rfl⟩
      have HR := Lib.hid hr
      rw [hr]
      clear hr
      go_wp2
      go_ret
      exact ⟨by rw [HR.out]; rfl, HB3.out⟩
/-! WHICH GO -/
theorem zeroW0 (w : World) : (zeroValue 197).run Tryz.prog w = .ok (.agg #[.string ⟨#[]⟩]) w := by
  have hz : Tryz.t197.zero = some (.agg #[.string ⟨#[]⟩]) := by kernel_rfl
  simp [zeroValue, hz]
set_option maxRecDepth 100000 in
theorem once_child (p : ByteArray) (w : World) : Calls Tryz.prog 52 #[.iface 198 (.agg #[.string p])] w fun e w' => e = .returned (.bool true) ∧ w' = w := by
  have a1 := fun W => assert_yes (x := 109) Tryz.underlying198 (.agg #[.string p]) W
  have a2 := fun W => assert_no (x := 109) (t' := 198) Tryz.underlying197 (by decide) (.agg #[.string p]) _ W (zeroW0 W)
  go_enter Tryz.func52, Tryz.ntmps52
  go_wp2
  go_ret
  exact ⟨rfl, rfl⟩
set_option maxRecDepth 100000 in
theorem once_stay (p : ByteArray) (w : World) : Calls Tryz.prog 52 #[.iface 199 (.agg #[.string p])] w fun e w' => e = .returned (.bool false) ∧ w' = w := by
  have a1 := fun W => assert_no (x := 109) (t' := 199) Tryz.underlying198 (by decide) (.agg #[.string p]) _ W (zeroW1 W)
  have a2 := fun W => assert_no (x := 109) (t' := 199) Tryz.underlying197 (by decide) (.agg #[.string p]) _ W (zeroW0 W)
  go_enter Tryz.func52, Tryz.ntmps52
  go_wp2
  go_ret
  exact ⟨rfl, rfl⟩
set_option maxRecDepth 100000 in
theorem once_below (p : ByteArray) (w : World) : Calls Tryz.prog 52 #[.iface 200 (.agg #[.string p])] w fun e w' => e = .returned (.bool false) ∧ w' = w := by
  have a1 := fun W => assert_no (x := 109) (t' := 200) Tryz.underlying198 (by decide) (.agg #[.string p]) _ W (zeroW1 W)
  have a2 := fun W => assert_no (x := 109) (t' := 200) Tryz.underlying197 (by decide) (.agg #[.string p]) _ W (zeroW0 W)
  go_enter Tryz.func52, Tryz.ntmps52
  go_wp2
  go_ret
  exact ⟨rfl, rfl⟩
/-! THE REFERENCE's -/
theorem isChange_calls (k : Int) (p : ByteArray) (w : World) (hs : p.size ≤ 2147483648) : Calls Tryz.prog 57 #[.agg #[.int .i8 k, .string p]] w fun e w' => e = .returned (.bool (changeB k p)) ∧ Below w.heap.size w w' := by
  refine Pr.lagoonref18_IsChange.calls (4 * p.size + 60) k p _ w ?_
  have h1 : lagoonref18_path.f (4 * p.size + 60) p = some (isPathB p) := by
    unfold lagoonref18_path.f
    rw [refCheck_f p hs _ (Nat.le_refl _), Option.bind_some]
    unfold isPathB
    congr 1
    rw [Bool.eq_iff_iff, beq_iff_eq, beq_iff_eq]
    simp only
    omega
  unfold lagoonref18_IsChange.f changeB
  rw [h1]
  by_cases h2 : k ≥ 1
  · by_cases h3 : k ≤ 4
    · rw [if_pos h2, if_pos h3, Option.bind_some, decide_eq_true (by exact ⟨h2, h3⟩), Bool.true_and]
    · rw [if_pos h2, if_neg h3, decide_eq_false (fun e => h3 e.2), Bool.false_and]
  · rw [if_neg h2, decide_eq_false (fun e => h2 e.1), Bool.false_and]
theorem goes_calls (x : S57) (w : World) : Calls Tryz.prog 59 #[.agg (encW x).toArray] w fun e w' => e = .returned (.bool (goesB x)) ∧ Below w.heap.size w w' := by
  obtain ⟨a, k, p⟩ := x
  refine Pr.lagoonref18_Goes.calls a k p _ w ?_
  unfold lagoonref18_Goes.f goesB
  by_cases h : k = 1
  · rw [if_pos h]; simp [h]
  · rw [if_neg h]; simp [h]
end Go.Proofs.YtkhnjckkjdldbaaGreatDoor.Q
