import Derived.Test.YtkmpbnicofiehaaF
namespace Go.Proofs.Ytkmpbnicofiehaa.Q
open Go.RowKit Go.Proofs.YtkmpbnicofiehaaW.PrintWords Go.Deep Go.Maps Go.WideShapes
set_option linter.unusedVariables false
set_option linter.unusedSimpArgs false
attribute [local go_sem] Oper.semAt_some

/-! WHO IS THERE -/
theorem look_some {D : DataW Unit} {x t d : Int} (hh : Maps.has D (.int .i64 x) = true) (h : D.atKey (.int .i64 x) (.lit (.bool false)) = lifeD t d) : look D x = some (t, d) := by
  unfold look
  rw [if_pos hh, h]; rfl
set_option maxHeartbeats 4000000 in
theorem due_calls {c b s n : Nat} {now span : Int} {D : DataW Unit} {w : World} (id : Int) (h : Clk c b s now span n D w) (h1 : 1 ≤ span) (hi0 : (Lit.int .i64 id).wf = true) :
    Calls Try.prog 11 #[.pointer (some ⟨c, 0, none⟩), .int .i64 id] w fun e w' => ∃ d : Int, e = .returned (.tuple #[.int .i64 d, .bool (Maps.has D (.int .i64 id))]) ∧ (∃ t, D.atKey (.int .i64 id) (lifeD 0 0) = lifeD t d) ∧ Below w.heap.size w w' := by
  have K1 := Lib.hid (none_clk h h1)
  have x2 := cell_row (k := 2) (v := .map (some b)) h.cells rfl
  obtain ⟨v0, ps0, hlook, hv0⟩ := h.map.look_ok keyed2 Try.underlying44 (zero49 w) lifeR0 (keyOf_int_mk Try.underlying2 hi0)
  obtain ⟨u1, u2, hve, hat, _, _⟩ := lifeR_inv hv0
  subst hve
  have HA := Lib.hid (show D.atKey (.int .i64 id) (lifeD 0 0) = lifeD u1 u2 from congrArg Prod.fst hat)
  have hBa : Below w.heap.size w (w.alloc (.cells #[.int .i32 u1, .int .i64 u2] 49)) := below_alloc (Below.refl _ w) _
  have HB := Lib.hid hBa
  have c1 := cell_row (k := 1) (v := .int .i64 u2) (World.alloc_heap_new w (.cells #[.int .i32 u1, .int .i64 u2] 49)) rfl
  obtain ⟨x, hx⟩ : ∃ x, Maps.has D (.int .i64 id) = x := ⟨_, rfl⟩
  rw [hx] at hlook ⊢
  clear h hv0 hat hBa
  go_enter Try.func11, Try.ntmps11
  go_wp2_with fail
  refine K1.out.mono ?_
  rintro e w1 ⟨rfl, rfl⟩
  go_wp2
  go_ret2
  exact ⟨u2, rfl, ⟨u1, HA.out⟩, HB.out⟩
set_option maxHeartbeats 4000000 in
theorem touch_calls {c b s n : Nat} {now span : Int} {D : DataW Unit} {w : World} (id t : Int) (h : Clk c b s now span n D w) (h1 : 1 ≤ span) (h2 : span ≤ 1000) (n0 : 0 ≤ now) (n1 : now ≤ 1000000000) (t0 : 1 ≤ t) (t1 : t ≤ 1000) (hn : n < 1000)
    (hi0 : (Lit.int .i64 id).wf = true) (hh : Maps.has D (.int .i64 id) = true) (hd : ∃ d, D.atKey (.int .i64 id) (lifeD 0 0) = lifeD t d) :
    Calls Try.prog 12 #[.pointer (some ⟨c, 0, none⟩), .int .i64 id] w fun e w' => e = .returned (.int .i64 0) ∧ Clk c b s now span (n + 1) (D.put (.int .i64 id) (lifeD t (roundUp (now + t) span))) w' ∧ Only (fun k => k = b) w w' := by
  have K1 := Lib.hid (none_clk h h1)
  have x2 := cell_row (k := 2) (v := .map (some b)) h.cells rfl
  obtain ⟨v0, ps0, hlook, hv0⟩ := h.map.look_ok keyed2 Try.underlying44 (zero49 w) lifeR0 (keyOf_int_mk Try.underlying2 hi0)
  obtain ⟨u1, u2, hve, hat, _, _⟩ := lifeR_inv hv0
  subst hve
  obtain ⟨d, hd⟩ := hd
  have ht : u1 = t := by
    have hat2 := congrArg Prod.fst hat
    rw [hd] at hat2
    simp [lifeD] at hat2
    exact hat2.1.symm
  subst ht
  have hBa : Below w.heap.size w (w.alloc (.cells #[.int .i32 u1, .int .i64 u2] 49)) := below_alloc (Below.refl _ w) _
  have HC := Lib.hid (And.intro (h.below hBa) hBa)
  have c1 := cell_row (k := 0) (v := .int .i32 u1) (World.alloc_heap_new w (.cells #[.int .i32 u1, .int .i64 u2] 49)) rfl
  have K2 := Lib.hid (begin_calls id u1 HC.out.1 h1 h2 n0 n1 (by omega) t1 (by omega) hi0)
  rw [hh] at hlook
  clear h hv0 hat hBa hd
  go_enter Try.func12, Try.ntmps12
  go_wp2_with fail
  refine K1.out.mono ?_
  rintro e w1 ⟨rfl, rfl⟩
  go_wp2_with fail
  refine K2.out.mono ?_
  rintro e w2 ⟨rfl, hC, hO⟩
  have HF := Lib.hid (And.intro hC ((Only.of_below (S := fun k => k = b) HC.out.2).trans hO (fun _ _ h => h)))
  clear hC hO
  go_wp2
  go_ret
  exact ⟨rfl, HF.out⟩
end Go.Proofs.Ytkmpbnicofiehaa.Q
