import Derived.Test.YtkmpbnicofiehaaA
import Derived.Deep.RegionLaw
namespace Go.Proofs.Ytkmpbnicofiehaa.Q
open Go.RowKit Go.Proofs.YtkmpbnicofiehaaW.PrintWords Go.Deep Go.Maps Go.WideShapes
set_option linter.unusedVariables false
set_option linter.unusedSimpArgs false

/-! A SESSION'S TIME BEGINS -/
theorem ownsMap_below {P : Program} {k : TypeId} {R : Value → Option (DataW Unit × List MemPlace)} {b n : Nat} {D : DataW Unit} {w w' : World} (h : w.ownsMap P k R b n D) (hB : Below w.heap.size w w') : w'.ownsMap P k R b n D :=
  h.kept (row := none) ⟨hB.os, hB.tape, hB.output, hB.size, fun i hi _ => hB.block i hi⟩ (by simp)
theorem Clk.below {c b s n : Nat} {now span : Int} {D : DataW Unit} {w w' : World} (h : Clk c b s now span n D w) (hB : Below w.heap.size w w') : Clk c b s now span n D w' :=
  ⟨(hB.block _ (Array.getElem?_eq_some_iff.1 h.cells).1).trans h.cells, (hB.block _ (Array.getElem?_eq_some_iff.1 h.box).1).trans h.box, ownsMap_below h.map hB⟩
theorem Clk.turned {c b s n m : Nat} {now span : Int} {D D' : DataW Unit} {w w' : World} (h : Clk c b s now span n D w) (hown : w'.ownsMap Try.prog 2 lifeR b m D') (ht : w.mapTurned w' b) : Clk c b s now span m D' w' := by
  obtain ⟨es, clock, es', clock', hb, rfl⟩ := ht
  have n1 : c ≠ b := fun e => by subst e; have := h.cells; rw [hb] at this; cases this
  have n2 : s ≠ b := fun e => by subst e; have := h.box; rw [hb] at this; cases this
  exact ⟨(ChangeMaps.heap_setBlock_other hb _ n1).trans h.cells, (ChangeMaps.heap_setBlock_other hb _ n2).trans h.box, hown⟩
theorem turned_only {b : Nat} {w w' : World} (ht : w.mapTurned w' b) : Only (fun k => k = b) w w' := by
  have hg := ht.grown
  exact ⟨hg.os, hg.tape, hg.output, hg.size, fun k hk hn => hg.block k hk (fun e => hn (by cases e; rfl))⟩
def lifeD (t d : Int) : DataW Unit := .agg [.lit (.int .i32 t), .lit (.int .i64 d)]
theorem round_le {tick span : Int} (h1 : 1 ≤ span) (t0 : 0 ≤ tick) : tick ≤ roundUp tick span ∧ roundUp tick span < tick + span ∧ roundUp tick span % span = 0 := by
  have a := Int.emod_add_mul_ediv (tick + span - 1) span
  have b1 := Int.emod_nonneg (tick + span - 1) (show span ≠ 0 by omega)
  have b2 := Int.emod_lt_of_pos (tick + span - 1) (show 0 < span by omega)
  unfold roundUp
  rw [Int.mul_comm] at a
  refine ⟨by omega, by omega, Int.mul_emod_left _ _⟩
set_option maxHeartbeats 8000000 in
theorem begin_calls {c b s n : Nat} {now span : Int} {D : DataW Unit} {w : World} (id t : Int) (h : Clk c b s now span n D w) (h1 : 1 ≤ span) (h2 : span ≤ 1000) (n0 : 0 ≤ now) (n1 : now ≤ 1000000000) (t0 : 0 ≤ t) (t1 : t ≤ 1000) (hn : n < 1000)
    (hi0 : (Lit.int .i64 id).wf = true) :
    Calls Try.prog 19 #[.pointer (some ⟨c, 0, none⟩), .int .i64 id, .int .i32 t] w fun e w' => e = .returned (.tuple #[]) ∧ Clk c b s now span (n + 1) (D.put (.int .i64 id) (lifeD t (roundUp (now + t) span))) w' ∧ Only (fun k => k = b) w w' := by
  have x2 := cell_row (k := 2) (v := .map (some b)) h.cells rfl
  have x3 := cell_row (k := 3) (v := .func (.func 16) #[] #[.pointer (some ⟨s, 0, none⟩)]) h.cells rfl
  have x0 := cell_row (k := 0) (v := .int .i64 now) h.cells rfl
  have hr := round_le (tick := now + t) h1 (by omega)
  have wt : (Lit.int .i32 t).wf = true := by simp [Lit.wf, IntKind.min, IntKind.max, IntKind.signed, IntKind.bits]; omega
  have wd : (Lit.int .i64 (roundUp (now + t) span)).wf = true := by simp [Lit.wf, IntKind.min, IntKind.max, IntKind.signed, IntKind.bits]; omega
  have HL := Lib.hid (lifeR_mk wt wd)
  have H := Lib.hid h
  clear h hr wt wd
  go_enter Try.func19, Try.ntmps19
  go_wp2_with fail
  have HB0 : Below w.heap.size w w.drew := (Below.refl _ w).drew
  have d2 : w.drew.cell? ⟨c, 2, none⟩ = some (.map (some b)) := x2
  have d3 : w.drew.cell? ⟨c, 3, none⟩ = some (.func (.func 16) #[] #[.pointer (some ⟨s, 0, none⟩)]) := x3
  have d0 : w.drew.cell? ⟨c, 0, none⟩ = some (.int .i64 now) := x0
  have HW : Hid (IntKind.i64.wrap (now + IntKind.i64.wrap t) = now + t) := Lib.hid (by rw [IntWalk.i64_in t (by omega), IntWalk.i64_in _ (by omega)])
  go_region_with (rw [HW.out]; refine (up_calls (now + t) span s _ (H.out.below HB0).box h1 h2 (by omega) (by omega)).mono ?_; rintro e w2 ⟨rfl, hB⟩; have e2 := pw_cell_below hB d2; have e3 := pw_cell_below hB d3; have e0 := pw_cell_below hB d0; obtain ⟨w5, hrun, hown, htu⟩ := World.ownsMap.store (ownsMap_below (H.out.below HB0).map hB) keyed2 Try.underlying44 (by unfold maxLen; omega) (keyOf_int_mk Try.underlying2 hi0) HL.out)
  all_goals
    go_end0
    exact ⟨rfl, ((H.out.below HB0).below hB).turned hown htu, (Only.of_below (below_step HB0 hB)).trans (turned_only htu) (fun _ _ h => h)⟩
end Go.Proofs.Ytkmpbnicofiehaa.Q
