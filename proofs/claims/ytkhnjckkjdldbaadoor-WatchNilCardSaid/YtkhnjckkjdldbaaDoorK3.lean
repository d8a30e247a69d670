import Derived.Test.YtkhnjckkjdldbaaDoorK2
import Derived.Test.YtkhnjckkjdldbaaDoorH
import Derived.Lib.QuietBelow
namespace Go.Proofs.YtkhnjckkjdldbaaDoor.Q
open Go.RowKit Go.Proofs.YtkhnjckkjdldbaaDoorW.PrintWords Go.Deep Go.Maps Go.WideShapes
open Go.Proofs.YtkhnjckkjdldbaaDoor.Pr (S30 S32 z30 k30 k32)
set_option linter.unusedVariables false
set_option linter.unusedSimpArgs false
attribute [local go_sem] Oper.semAt_some
theorem cell_rowK {W : World} {g k : Nat} {t : TypeId} {cs : Array Value} {v : Value} (h : W.heap[g]? = some (.cells cs t (0, 0))) (hk : cs[k]? = some v) : W.cell? ⟨g, k, none⟩ = some v := (cell_of_row W g k _ _ _ h).trans hk
theorem blkK {W w' : World} {k : Nat} {o : Obj} (h : W.heap[k]? = some o) (hb : Below W.heap.size W w') : w'.heap[k]? = some o := (hb.block k (Array.getElem?_eq_some_iff.1 h).1).trans h
/-! A BOARD IN MEMORY -/
structure Brd (c b : Nat) (came : Int) (P : WN) (W : World) : Prop where
  cells : W.heap[c]? = some (.cells #[.bool true, .map (some b), .int .i64 came] 51 (0, 0))
  map : ∃ D, W.ownsMap Tryd.prog 30 (plainElem Tryd.prog 3) b came.toNat D ∧ MapOf D P
  rise : P.Pairwise (fun p q => p.2 < q.2)
  low : ∀ p ∈ P, 0 ≤ p.2 ∧ p.2 < came
  c0 : 0 ≤ came
  few : P.length ≤ 64
theorem ownsMap_belowK {k : TypeId} {R : Value → Option (DataW Unit × List MemPlace)} {b n : Nat} {D : DataW Unit} {w w' : World} (h : w.ownsMap Tryd.prog k R b n D) (hB : Below w.heap.size w w') : w'.ownsMap Tryd.prog k R b n D :=
  h.kept (row := none) ⟨hB.os, hB.tape, hB.output, hB.size, fun i hi _ => hB.block i hi⟩ (by simp)
theorem Brd.below {c b : Nat} {came : Int} {P : WN} {w w' : World} (h : Brd c b came P w) (hB : Below w.heap.size w w') : Brd c b came P w' := by
  obtain ⟨D, h1, h2⟩ := h.map
  exact ⟨blkK h.cells hB, ⟨D, ownsMap_belowK h1 hB, h2⟩, h.rise, h.low, h.c0, h.few⟩
theorem none_nil (w : World) : Calls Tryd.prog 21 #[.pointer none] w fun e w' => e = .returned (.bool true) ∧ w' = w := by
  go_enter Tryd.func21, Tryd.ntmps21
  go_wp2
  go_ret
  exact ⟨rfl, rfl⟩
theorem none_plain {c : Nat} {cs : Array Value} {w : World} (h : w.heap[c]? = some (.cells cs 51 (0, 0))) (h0 : cs[0]? = some (.bool false)) : Calls Tryd.prog 21 #[.pointer (some ⟨c, 0, none⟩)] w fun e w' => e = .returned (.bool true) ∧ w' = w := by
  have x0 := cell_rowK (k := 0) h h0
  clear h h0
  go_enter Tryd.func21, Tryd.ntmps21
  go_wp2
  go_ret
  exact ⟨rfl, rfl⟩
theorem none_brd {c b : Nat} {came : Int} {P : WN} {w : World} (h : Brd c b came P w) : Calls Tryd.prog 21 #[.pointer (some ⟨c, 0, none⟩)] w fun e w' => e = .returned (.bool false) ∧ w' = w := by
  have x0 := cell_rowK (k := 0) (v := .bool true) h.cells rfl
  clear h
  go_enter Tryd.func21, Tryd.ntmps21
  go_wp2
  go_ret
  exact ⟨rfl, rfl⟩
/-! WHAT A WATCH WAITS FOR -/
def waitV (x : S30) : Value := if x.f1 = 1 then .iface 65 (.agg #[.string x.f2]) else if x.f1 = 2 then .iface 66 (.agg #[.string x.f2]) else if x.f1 = 3 then .iface 67 (.agg #[.string x.f2]) else if x.f1 = 4 then .iface 68 (.agg #[.string x.f2]) else .nilIface
def kindB (x : S30) : Bool := decide (1 ≤ x.f1 ∧ x.f1 ≤ 4)
theorem waits_calls (x : S30) (w : World) : Calls Tryd.prog 20 #[.agg (encW x).toArray] w fun e w' => e = .returned (.tuple #[waitV x, .bool (kindB x)]) ∧ Below w.heap.size w w' := by
  obtain ⟨a, k, p⟩ := x
  have hB : Below w.heap.size w (w.alloc (.cells #[.int .i64 a, .int .i8 k, .string p] 30)) := below_alloc (Below.refl _ _) _
  have HB := Lib.hid hB
  clear hB
  by_cases h1 : k = 1
  · subst h1
    go_enter Tryd.func20, Tryd.ntmps20
    go_wp2
    go_ret2
    exact ⟨rfl, HB.out⟩
  have q1 : (k == 1) = false := beq_eq_false_iff_ne.2 h1
  by_cases h2 : k = 2
  · subst h2
    go_enter Tryd.func20, Tryd.ntmps20
    go_wp2
    go_ret2
    exact ⟨rfl, HB.out⟩
  have q2 : (k == 2) = false := beq_eq_false_iff_ne.2 h2
  by_cases h3 : k = 3
  · subst h3
    go_enter Tryd.func20, Tryd.ntmps20
    go_wp2
    go_ret2
    exact ⟨rfl, HB.out⟩
  have q3 : (k == 3) = false := beq_eq_false_iff_ne.2 h3
  by_cases h4 : k = 4
  · subst h4
    go_enter Tryd.func20, Tryd.ntmps20
    go_wp2
    go_ret2
    exact ⟨rfl, HB.out⟩
  have q4 : (k == 4) = false := beq_eq_false_iff_ne.2 h4
  have HV : Hid (waitV ⟨a, k, p⟩ = .nilIface ∧ kindB ⟨a, k, p⟩ = false) := Lib.hid ⟨by unfold waitV; simp only; rw [if_neg h1, if_neg h2, if_neg h3, if_neg h4], decide_eq_false (by simp only; omega)⟩
  go_enter Tryd.func20, Tryd.ntmps20
  go_wp2
  go_ret2
  exact ⟨by rw [HV.out.1, HV.out.2]; rfl, HB.out⟩
/-! IS IT A PATH? -/
def isPathB (p : ByteArray) : Bool := (checkP p).2 == 0
theorem isPath_calls (p : ByteArray) (w : World) (hs : p.size ≤ 2147483648) (hT : Tabs w) : Calls Tryd.prog 22 #[.string p] w fun e w' => e = .returned (.bool (isPathB p)) ∧ Below w.heap.size w w' := by
  have K := Lib.hid (check_calls p w hs hT)
  obtain ⟨y, hy⟩ : ∃ x, (checkP p).2 = x := ⟨_, rfl⟩
  obtain ⟨x, hx⟩ : ∃ x, (checkP p).1 = x := ⟨_, rfl⟩
  have HP : Hid (isPathB p = ((y : Int) == 0)) := Lib.hid (by unfold isPathB; rw [hy, Bool.eq_iff_iff, beq_iff_eq, beq_iff_eq]; omega)
  rw [hx, hy] at K
  clear hx hy hT
  go_enter Tryd.func22, Tryd.ntmps22
  go_wp2_with fail
  refine K.out.mono ?_
  rintro e w1 ⟨rfl, hB⟩
  have HB := Lib.hid hB
  clear hB K
  go_wp2
  go_ret
  exact ⟨by rw [HP.out]; rfl, HB.out⟩
/-! A NEW BOARD -/
theorem newB_calls (w : World) : Calls Tryd.prog 8 #[] w fun e w' => ∃ c b, e = .returned (.pointer (some ⟨c, 0, none⟩)) ∧ Brd c b 0 [] w' ∧ Below w.heap.size w w' ∧ w.heap.size ≤ b ∧ w.heap.size ≤ c := by
  have hmm := @run_makeMap Tryd.prog
  go_enter Tryd.func8, Tryd.ntmps8
  go_wp2
  go_ret
  refine ⟨w.heap.size + 1, w.heap.size, rfl, ⟨?_, ⟨.map [], ?_, MapOf.empty⟩, List.Pairwise.nil, fun p h => (by cases h), by omega, by simp⟩, ?_, by omega, by omega⟩
  · have := World.alloc_heap_new (w.alloc (.map #[] 0)) (.cells #[.bool true, .map (some w.heap.size), .int .i64 0] 51)
    rw [World.size_alloc] at this
    exact this
  · exact (World.ownsMap_made (H := Unit) w Tryd.prog 30 (plainElem Tryd.prog 3)).alloc _
  · exact below_alloc (below_alloc (Below.refl _ w) _) _
end Go.Proofs.YtkhnjckkjdldbaaDoor.Q
