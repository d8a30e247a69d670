import Derived.Test.YtkhnjckkjdldbaaGreatDoorKc
import Derived.Test.YtkhnjckkjdldbaaGreatDoorRows
import Derived.Deep.Slices
import Derived.Test.YtkhnjckkjdldbaaGreatDoorG12
namespace Go.Proofs.YtkhnjckkjdldbaaGreatDoor.Q
open Go.RowKit Go.Proofs.YtkhnjckkjdldbaaGreatDoorW.PrintWords Go.Deep Go.Maps Go.WideShapes Go.Lib Go.ChangeShapes
open Go.Proofs.YtkhnjckkjdldbaaGreatDoor.Pr (S57 k57 z57)
open Go.Proofs.YtkhnjckkjdldbaaGreatDoor
set_option linter.unusedVariables false
set_option linter.unusedSimpArgs false
/-! HOW MUCH A READING HOLDS -/
section
variable {H : Type} {enc : TypeId × Value → H}
set_option maxRecDepth 100000 in
/-- one watch that came in, and how much it holds -/
theorem watch_cells {W : World} {base : Nat} {spare : Nat → Bool} {held : Bool} {n : Nat} {cs : List Value} {y : DataW H × List MemPlace} (h : DataW.trod enc Tryz.prog W base spare held n 57 cs = some y) (hl : cs.length = 3) :
    ∃ x : S57, cs = [.int .i64 x.f0, .int .i8 x.f1, .string x.f2] ∧ wfW x ∧ x.f2.size ≤ Rows.uptoBulk y.1 := by
  obtain ⟨c0, c1, c2, rfl⟩ : ∃ z0 z1 z2, cs = [z0, z1, z2] := by
    match cs, hl with
    | [z0, z1, z2], _ => exact ⟨z0, z1, z2, rfl⟩
  obtain ⟨ys, k, _, hy, _, hyl, hf⟩ := DataW.trod_struct Tryz.underlying57 h
  obtain ⟨y0, y1, y2, rfl⟩ : ∃ z0 z1 z2, ys = [z0, z1, z2] := by
    match ys, hyl with
    | [z0, z1, z2], _ => exact ⟨z0, z1, z2, rfl⟩
  have g0 : DataW.trod enc Tryz.prog W base spare held k 2 [c0] = some y0 := hf 0 _ rfl
  have g1 : DataW.trod enc Tryz.prog W base spare held k 55 [c1] = some y1 := hf 1 _ rfl
  have g2 : DataW.trod enc Tryz.prog W base spare held k 9 [c2] = some y2 := hf 2 _ rfl
  obtain ⟨n0, e0, f0, w0⟩ := DataW.trod_int Tryz.underlying2 g0
  obtain ⟨n1, e1, f1, w1⟩ := DataW.trod_int Tryz.underlying55 g1
  obtain ⟨s2, e2, f2, w2⟩ := DataW.trod_string Tryz.underlying9 g2
  refine ⟨⟨n0, n1, s2⟩, by simp at e0 e1 e2; rw [e0, e1, e2], ⟨w0, w1, w2⟩, ?_⟩
  rw [hy, f0, f1, f2]
  simp only [List.map_cons, List.map_nil, Rows.uptoBulk, Rows.uptoBulkAll]
  have : s2.size = s2.data.toList.length := Array.length_toList.symm
  omega
end
end Go.Proofs.YtkhnjckkjdldbaaGreatDoor.Q
namespace Go.Proofs.YtkhnjckkjdldbaaGreatDoor.Q
open Go.RowKit Go.Proofs.YtkhnjckkjdldbaaGreatDoorW.PrintWords Go.Deep Go.Maps Go.WideShapes Go.Lib Go.ChangeShapes
open Go.Proofs.YtkhnjckkjdldbaaGreatDoor.Pr (S57 k57 z57 S59 S61 k61 z61)
open Go.Proofs.YtkhnjckkjdldbaaGreatDoor
set_option linter.unusedVariables false
set_option linter.unusedSimpArgs false
section
variable {H : Type} {enc : TypeId × Value → H}
theorem nilC_Step (w : World) : Kd.C k61 w none 0 [] := (Kd.R_reads' (Kd.R_nil k61 0 w 0 (fun _ => True))).2.2
set_option maxRecDepth 100000 in
/-- one change that came in -/
theorem change_cells {W : World} {base : Nat} {spare : Nat → Bool} {held : Bool} {n : Nat} {cs : List Value} {y : DataW H × List MemPlace} (h : DataW.trod enc Tryz.prog W base spare held n 59 cs = some y) (hl : cs.length = 2) :
    ∃ x : S59, cs = [.int .i8 x.f0, .string x.f1] := by
  obtain ⟨c0, c1, rfl⟩ : ∃ z0 z1, cs = [z0, z1] := by
    match cs, hl with
    | [z0, z1], _ => exact ⟨z0, z1, rfl⟩
  obtain ⟨ys, k, _, hy, _, hyl, hf⟩ := DataW.trod_struct Tryz.underlying59 h
  obtain ⟨y0, y1, rfl⟩ : ∃ z0 z1, ys = [z0, z1] := by
    match ys, hyl with
    | [z0, z1], _ => exact ⟨z0, z1, rfl⟩
  have g0 : DataW.trod enc Tryz.prog W base spare held k 55 [c0] = some y0 := hf 0 _ rfl
  have g1 : DataW.trod enc Tryz.prog W base spare held k 9 [c1] = some y1 := hf 1 _ rfl
  obtain ⟨n0, e0, f0, w0⟩ := DataW.trod_int Tryz.underlying55 g0
  obtain ⟨s1, e1, f1, w1⟩ := DataW.trod_string Tryz.underlying9 g1
  exact ⟨⟨n0, s1⟩, by simp at e0 e1; rw [e0, e1]⟩
set_option maxRecDepth 100000 in
/-- one step that came in -/
theorem step_cells {W : World} {base : Nat} {spare : Nat → Bool} {held : Bool} {n : Nat} {cs : List Value} {y : DataW H × List MemPlace} (h : DataW.trod enc Tryz.prog W base spare held n 61 cs = some y) (hl : cs.length = 7) :
    ∃ x : S61, cs = [.int .i64 x.f0, .int .i64 x.f1, .int .i64 x.f2.f0, .int .i8 x.f2.f1, .string x.f2.f2, .int .i8 x.f3.f0, .string x.f3.f1] ∧ wfW x.f2 := by
  obtain ⟨c0, c1, c2, c3, c4, c5, c6, rfl⟩ : ∃ z0 z1 z2 z3 z4 z5 z6, cs = [z0, z1, z2, z3, z4, z5, z6] := by
    match cs, hl with
    | [z0, z1, z2, z3, z4, z5, z6], _ => exact ⟨z0, z1, z2, z3, z4, z5, z6, rfl⟩
  obtain ⟨ys, k, _, hy, _, hyl, hf⟩ := DataW.trod_struct Tryz.underlying61 h
  obtain ⟨y0, y1, y2, y3, rfl⟩ : ∃ z0 z1 z2 z3, ys = [z0, z1, z2, z3] := by
    match ys, hyl with
    | [z0, z1, z2, z3], _ => exact ⟨z0, z1, z2, z3, rfl⟩
  have g0 : DataW.trod enc Tryz.prog W base spare held k 3 [c0] = some y0 := hf 0 _ rfl
  have g1 : DataW.trod enc Tryz.prog W base spare held k 3 [c1] = some y1 := hf 1 _ rfl
  have g2 : DataW.trod enc Tryz.prog W base spare held k 57 [c2, c3, c4] = some y2 := hf 2 _ rfl
  have g3 : DataW.trod enc Tryz.prog W base spare held k 59 [c5, c6] = some y3 := hf 3 _ rfl
  obtain ⟨n0, e0, f0, w0⟩ := DataW.trod_int Tryz.underlying3 g0
  obtain ⟨n1, e1, f1, w1⟩ := DataW.trod_int Tryz.underlying3 g1
  obtain ⟨x2, e2, w2, _⟩ := watch_cells g2 rfl
  obtain ⟨x3, e3⟩ := change_cells g3 rfl
  refine ⟨⟨n0, n1, x2, x3⟩, ?_, w2⟩
  simp only [List.cons.injEq, and_true] at e0 e1 e2 e3
  obtain ⟨rfl, rfl, rfl⟩ := e2
  obtain ⟨rfl, rfl⟩ := e3
  subst e0 e1
  rfl
set_option maxRecDepth 100000 in
theorem open_Steps {W : World} {base : Nat} {spare : Nat → Bool} {held : Bool} {n : Nat} {c : Value} {y : DataW H × List MemPlace} (h : DataW.trod enc Tryz.prog W base spare held n 22 [c] = some y) :
    ∃ A cap, ∃ l : List S61, c = .slice A l.length cap ∧ l.length ≤ cap ∧ Kd.C k61 W A l.length l ∧ (∀ x ∈ l, wfW x.f2) := by
  rcases open_slice Tryz.underlying22 h with ⟨hcs, _⟩ | ⟨a, l, cp, m, n, D, Pl, hcs, _, hl, hm, hmm, hy, hi⟩
  · exact ⟨none, 0, [], by simpa using hcs, Nat.le_refl _, nilC_Step W, fun x hx => absurd hx (by simp)⟩
  · have hle : l ≤ m := by rw [hmm]; split <;> omega
    have h7 : Program.cellsOf Tryz.prog 61 = 7 := by kernel_rfl
    have key : ∀ i, i < l → ∃ x : S61, (∀ j u, ([.int .i64 x.f0, .int .i64 x.f1, .int .i64 x.f2.f0, .int .i8 x.f2.f1, .string x.f2.f2, .int .i8 x.f3.f0, .string x.f3.f1] : List Value)[j]? = some u → W.cell? (a.add (i * 7 + j)) = some u) ∧ wfW x.f2 := fun i hil => by
      obtain ⟨cs, hc, ht⟩ := hi i (by omega)
      rw [h7] at hc
      obtain ⟨_, hlen, hat⟩ := World.cells?_some hc
      obtain ⟨x, rfl, hw⟩ := step_cells ht hlen
      refine ⟨x, fun j u hu => ?_, hw⟩
      have hj := (List.getElem?_eq_some_iff.1 hu).1
      rw [← Go.Deep.add_add, hat j (by simpa using hj)]
      exact hu
    unfold maxLen at hm
    have hall : ∀ x ∈ (List.range l).map (fun i => if h : i < l then (key i h).choose else z61), ∃ i, ∃ h : i < l, x = (key i h).choose := fun x hx => by
      obtain ⟨i, hir, rfl⟩ := List.mem_map.1 hx
      have hil : i < l := List.mem_range.1 hir
      exact ⟨i, hil, by simp [hil]⟩
    refine ⟨some a, cp, (List.range l).map (fun i => if h : i < l then (key i h).choose else z61), by simpa using hcs, by simp; omega, ⟨by simp, by simp; omega, fun _ => ⟨a, rfl, fun j p hp => ?_⟩⟩, fun x hx => ?_⟩
    · have hj : j < l := by have := (List.getElem?_eq_some_iff.1 hp).1; simpa using this
      simp [hj] at hp
      subst hp
      exact ⟨_, rfl, Pr.k61_mk W _, fun i u hu => (key j hj).choose_spec.1 i u hu⟩
    · obtain ⟨i, hil, rfl⟩ := hall x hx
      exact (key i hil).choose_spec.2
end
end Go.Proofs.YtkhnjckkjdldbaaGreatDoor.Q
