import Derived.Test.YtkmpbnicofiehaaB
import Derived.RangeFuncRecord
namespace Go.Proofs.Ytkmpbnicofiehaa.Q
open Go.RowKit Go.Proofs.YtkmpbnicofiehaaW.PrintWords Go.Deep Go.Maps Go.WideShapes
set_option linter.unusedVariables false
set_option linter.unusedSimpArgs false
attribute [local go_sem] Oper.semAt_some

/-! A NEW CLOCK -/
theorem new_calls (span : Int) (w : World) (h1 : 1 ≤ span) (h2 : span ≤ 1000) : Calls Try.prog 7 #[.int .i64 span] w fun e w' => ∃ c b s, e = .returned (.tuple #[.pointer (some ⟨c, 0, none⟩), .int .i64 0]) ∧ Clk c b s 0 span 0 (.map []) w' ∧ Below w.heap.size w w' ∧ w.heap.size ≤ b ∧ w.heap.size ≤ c := by
  have q0 : decide (span < 1) = false := decide_eq_false (by omega)
  have q1 : decide (1000 < span) = false := decide_eq_false (by omega)
  have hmm := @run_makeMap Try.prog
  go_enter Try.func7, Try.ntmps7
  go_wp2
  go_ret2
  refine ⟨w.heap.size + 2, w.heap.size + 1, w.heap.size, rfl, ⟨?_, ?_, ?_⟩, ?_, by omega, by omega⟩
  · have := World.alloc_heap_new ((w.alloc (.cells #[.int .i64 span] 3)).alloc (.map #[] 0)) (.cells (clockCells 0 span (w.heap.size + 1) w.heap.size) 46)
    rw [World.size_alloc, World.size_alloc] at this
    exact this
  · refine (Below.heap_alloc _ _ _ (by simp; omega)).trans ((Below.heap_alloc _ _ _ (by simp)).trans (World.alloc_heap_new w _))
  · have := World.ownsMap_made (H := Unit) (w.alloc (.cells #[.int .i64 span] 3)) Try.prog 2 lifeR
    rw [World.size_alloc] at this
    exact this.alloc _
  · exact below_alloc (below_alloc (below_alloc (Below.refl _ w) _) _) _
/-! A SESSION BEGINS -/
theorem zero49 (w : World) : (zeroValue 49).run Try.prog w = .ok (.agg #[.int .i32 0, .int .i64 0]) w := by
  have hz : Try.t49.zero = some (.agg #[.int .i32 0, .int .i64 0]) := by kernel_rfl
  simp [zeroValue, hz]
theorem lifeR0 : lifeR (.agg #[.int .i32 0, .int .i64 0]) = some (lifeD 0 0, []) := rfl
set_option maxHeartbeats 4000000 in
theorem add_calls {c b s n : Nat} {now span : Int} {D : DataW Unit} {w : World} (id t : Int) (h : Clk c b s now span n D w) (h1 : 1 ≤ span) (h2 : span ≤ 1000) (n0 : 0 ≤ now) (n1 : now ≤ 1000000000) (i0 : 1 ≤ id) (t0 : 1 ≤ t) (t1 : t ≤ 1000) (hn : n < 64)
    (hi0 : (Lit.int .i64 id).wf = true) :
    Calls Try.prog 10 #[.pointer (some ⟨c, 0, none⟩), .int .i64 id, .int .i32 t] w fun e w' => e = .returned (.int .i64 0) ∧ Clk c b s now span (n + 1) (D.put (.int .i64 id) (lifeD t (roundUp (now + t) span))) w' ∧ Only (fun k => k = b) w w' := by
  have K1 := Lib.hid (none_clk h h1)
  have x2 := cell_row (k := 2) (v := .map (some b)) h.cells rfl
  have q1 : decide (id < 1) = false := decide_eq_false (by omega)
  have q2 : decide (t < 1) = false := decide_eq_false (by omega)
  have q3 : decide (1000 < t) = false := decide_eq_false (by omega)
  have HN := Lib.hid (World.ownsMap.len h.map Try.underlying44 (ty := 3))
  have hs := h.map.size_le
  obtain ⟨v0, ps0, hlook, hv0⟩ := h.map.look_ok keyed2 Try.underlying44 (zero49 w) lifeR0 (keyOf_int_mk Try.underlying2 hi0)
  obtain ⟨u1, u2, hve, _, _⟩ := lifeR_inv hv0
  subst hve
  have H := Lib.hid h
  have q4 : decide ((64 : Int) ≤ (Maps.size D : Nat)) = false := decide_eq_false (by omega)
  have hBa : Below w.heap.size w (w.alloc (.cells #[.int .i32 u1, .int .i64 u2] 49)) := below_alloc (Below.refl _ w) _
  have HC := Lib.hid (And.intro (H.out.below hBa) hBa)
  have hl2 := (ownsMap_below h.map hBa).len Try.underlying44 3
  have x3 := cell_row (k := 2) (v := .map (some b)) HC.out.1.cells rfl
  have K2 := Lib.hid (begin_calls id t HC.out.1 h1 h2 n0 n1 (by omega) t1 (by omega) hi0)
  clear h hv0 hBa HN
  cases hx : Maps.has D (.int .i64 id) with
  | true =>
    rw [hx] at hlook
    go_enter Try.func10, Try.ntmps10
    go_wp2_with fail
    refine K1.out.mono ?_
    rintro e w1 ⟨rfl, rfl⟩
    go_wp2_with fail
    refine K2.out.mono ?_
    rintro e w2 ⟨rfl, hC, hO⟩
    have HF := Lib.hid (And.intro hC ((Only.of_below (S := fun k => k = b) HC.out.2).trans hO (fun _ _ h => h)))
    clear hC hO
    go_wp2
    go_ret
    exact ⟨rfl, HF.out⟩
  | false =>
    rw [hx] at hlook
    go_enter Try.func10, Try.ntmps10
    go_wp2_with fail
    refine K1.out.mono ?_
    rintro e w1 ⟨rfl, rfl⟩
    go_wp2_with fail
    refine K2.out.mono ?_
    rintro e w2 ⟨rfl, hC, hO⟩
    have HF := Lib.hid (And.intro hC ((Only.of_below (S := fun k => k = b) HC.out.2).trans hO (fun _ _ h => h)))
    clear hC hO
    go_wp2
    go_ret
    exact ⟨rfl, HF.out⟩
theorem new_bad (span : Int) (w : World) (h : span < 1 ∨ 1000 < span) : Calls Try.prog 7 #[.int .i64 span] w fun e w' => e = .returned (.tuple #[.pointer none, .int .i64 1]) ∧ Below w.heap.size w w' := by
  have hB : Below w.heap.size w (w.alloc (.cells #[.int .i64 span] 3)) := below_alloc (Below.refl _ w) _
  by_cases h1 : span < 1
  · have q0 : decide (span < 1) = true := decide_eq_true h1
    go_enter Try.func7, Try.ntmps7
    go_wp2
    go_ret2
    exact ⟨rfl, hB⟩
  · have q0 : decide (span < 1) = false := decide_eq_false h1
    have q1 : decide (1000 < span) = true := decide_eq_true (by omega)
    go_enter Try.func7, Try.ntmps7
    go_wp2
    go_ret2
    exact ⟨rfl, hB⟩
end Go.Proofs.Ytkmpbnicofiehaa.Q
