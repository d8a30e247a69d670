import Derived.Test.YtkmpbnicofiehaaE
import Derived.Test.YtkmpbnicofiehaaN
namespace Go.Proofs.Ytkmpbnicofiehaa.Q
open Go.RowKit Go.Proofs.YtkmpbnicofiehaaW.PrintWords Go.Deep Go.Maps Go.WideShapes
set_option linter.unusedVariables false
set_option linter.unusedSimpArgs false
attribute [local go_sem] Oper.semAt_some

theorem now_calls {c b s n : Nat} {now span : Int} {D : DataW Unit} {w : World} (h : Clk c b s now span n D w) (h1 : 1 ≤ span) : Calls Try.prog 13 #[.pointer (some ⟨c, 0, none⟩)] w fun e w' => e = .returned (.int .i64 now) ∧ w' = w := by
  have K1 := Lib.hid (none_clk h h1)
  have x0 := cell_row (k := 0) (v := .int .i64 now) h.cells rfl
  clear h
  go_enter Try.func13, Try.ntmps13
  go_wp2_with fail
  refine K1.out.mono ?_
  rintro e w1 ⟨rfl, rfl⟩
  go_wp2
  go_ret
  exact ⟨rfl, rfl⟩
def D7 : DataW Unit := (DataW.map []).put (.int .i64 7) (lifeD 1 2)
theorem look7 (x : Int) : look D7 x = if x = 7 then some (1, 2) else none := by
  have e : D7 = .map [(.int .i64 7, lifeD 1 2)] := by unfold D7; simp [DataW.put, DataW.insert]
  rw [e]
  by_cases h : x = 7
  · subst h; rfl
  · rw [if_neg h]
    unfold look
    have : Maps.has (DataW.map [((Lit.int .i64 7), lifeD 1 2)]) (.int .i64 x) = false := by
      unfold Maps.has
      simp only [List.any_cons, List.any_nil, Bool.or_false]
      exact sameKey_ne (fun e => h (by cases e; rfl))
    rw [this]; rfl
set_option maxHeartbeats 8000000 in
theorem works_calls (w : World) : Calls Try.prog 6 #[] w fun e w' => e = .returned (.bool true) ∧ Below w.heap.size w w' := by
  have K1 := Lib.hid (new_calls 2 w (by decide) (by decide))
  go_enter Try.func6, Try.ntmps6
  go_wp2_with fail
  refine K1.out.mono ?_
  rintro e w1 ⟨c, b, s, rfl, hC, hB, hb, hc⟩
  have K2 := Lib.hid (add_calls 7 1 hC (by decide) (by decide) (by decide) (by decide) (by decide) (by decide) (by decide) (by decide) rfl)
  have HB1 := Lib.hid hB
  clear hC hB
  go_wp2_with fail
  refine K2.out.mono ?_
  rintro e w2 ⟨rfl, hC, hO⟩
  have hC2 : Clk c b s 0 2 1 D7 w2 := hC
  have K3 := Lib.hid (tick_calls (m := 1) hC2 (by decide) (by decide) (by decide) (by decide) (by decide) sort_one)
  have HB2 := Lib.hid (hO.from HB1.out (fun k e => by omega))
  clear hC hO hC2
  go_wp2_with fail
  refine K3.out.mono ?_
  rintro e w3 ⟨v, ys, rfl, hrow, hso, hnd, hmem, hC, hO⟩
  have hy0 : ys = [] := List.eq_nil_iff_forall_not_mem.2 (fun x hx => by
    obtain ⟨t, d, h1, h2⟩ := (hmem x).1 hx
    rw [look7] at h1
    split at h1
    · cases h1; omega
    · cases h1)
  subst hy0
  obtain ⟨a1, c1, rfl, _⟩ := own_sliceN hrow
  have hC3 : Clk c b s 1 2 1 D7 w3 := hC
  have K4 := Lib.hid (tick_calls (m := 1) hC3 (by decide) (by decide) (by decide) (by decide) (by decide) sort_one)
  have HB3 := Lib.hid (hO.from HB2.out (fun k e => by have := HB2.out.size; omega))
  clear hC hO hC3 hmem hnd hso hrow
  go_wp2_with fail
  refine K4.out.mono ?_
  rintro e w4 ⟨v, ys, rfl, hrow, hso, hnd, hmem, hC, hO⟩
  have hy1 : ys = [7] := by
    have h7 : (7 : Int) ∈ ys := (hmem 7).2 ⟨1, 2, by rw [look7]; rfl, by decide⟩
    have hall : ∀ x ∈ ys, x = 7 := fun x hx => by
      obtain ⟨t, d, h1, h2⟩ := (hmem x).1 hx
      rw [look7] at h1
      split at h1
      · assumption
      · cases h1
    match ys, h7, hall, hnd with
    | [x], _, hall, _ => rw [hall x (by simp)]
    | x :: y :: l, _, hall, hnd =>
      have := hall x (by simp)
      have := hall y (by simp)
      subst_vars
      simp at hnd
  subst hy1
  obtain ⟨g, c2, hv⟩ : ∃ g c2, v = .slice (some ⟨g, 0, none⟩) 1 c2 := by
    obtain ⟨a2, c2, hv, _⟩ := own_sliceN hrow
    subst hv
    obtain ⟨g, rfl⟩ := row_some hrow (by decide)
    exact ⟨g, c2, rfl⟩
  subst hv
  have hcell := ints_cell (xs := [7]) (k := 0) (x := 7) hrow rfl
  have K5 := Lib.hid (now_calls hC (by decide))
  have HB4 := Lib.hid (hO.from HB3.out (fun k e => by have := HB3.out.size; omega))
  clear hC hO hmem hnd hso hrow
  go_wp2_with fail
  refine K5.out.mono ?_
  rintro e w5 ⟨rfl, rfl⟩
  go_wp2
  go_ret
  exact ⟨rfl, HB4.out⟩
end Go.Proofs.Ytkmpbnicofiehaa.Q
