import Derived.Test.YtkhnjckkjdldbaaDoorK12
import Derived.Test.YtkhnjckkjdldbaaDoorRows
import Derived.Deep.Slices
namespace Go.Proofs.YtkhnjckkjdldbaaDoor.Q
open Go.RowKit Go.Proofs.YtkhnjckkjdldbaaDoorW.PrintWords Go.Deep Go.Maps Go.WideShapes Go.Lib Go.ChangeShapes
open Go.Proofs.YtkhnjckkjdldbaaDoor.Pr (S30 k30 z30)
open Go.Proofs.YtkhnjckkjdldbaaDoor
set_option linter.unusedVariables false
set_option linter.unusedSimpArgs false
/-! HOW MUCH A READING HOLDS -/
theorem bulk_one {H : Type} (d : DataW H) : 1 ≤ Rows.uptoBulk d := by
  cases d with
  | lit l => cases l <;> simp [Rows.uptoBulk]
  | nil => simp [Rows.uptoBulk]
  | ptr d => simp [Rows.uptoBulk]
  | slice elems spare => simp [Rows.uptoBulk]
  | agg parts => simp [Rows.uptoBulk]
  | iface t d => simp [Rows.uptoBulk]
  | map entries => simp [Rows.uptoBulk]
  | held h => simp [Rows.uptoBulk]
theorem bulk_part {H : Type} {d : DataW H} {l : List (DataW H)} (h : d ∈ l) : Rows.uptoBulk d ≤ Rows.uptoBulkAll l := by
  induction l with
  | nil => cases h
  | cons x r ih =>
    simp only [Rows.uptoBulkAll]
    cases List.mem_cons.1 h with
    | inl e => subst e; omega
    | inr e => have := ih e; omega
section
variable {H : Type} {enc : TypeId × Value → H}
theorem nilC_W (w : World) : Kd.C k30 w none 0 [] := (Kd.R_reads' (Kd.R_nil k30 0 w 0 (fun _ => True))).2.2
set_option maxRecDepth 100000 in
/-- one watch that came in, and how much it holds -/
theorem watch_cells {W : World} {base : Nat} {spare : Nat → Bool} {held : Bool} {n : Nat} {cs : List Value} {y : DataW H × List MemPlace} (h : DataW.trod enc Tryd.prog W base spare held n 30 cs = some y) (hl : cs.length = 3) :
    ∃ x : S30, cs = [.int .i64 x.f0, .int .i8 x.f1, .string x.f2] ∧ wfW x ∧ x.f2.size ≤ Rows.uptoBulk y.1 := by
  obtain ⟨c0, c1, c2, rfl⟩ : ∃ z0 z1 z2, cs = [z0, z1, z2] := by
    match cs, hl with
    | [z0, z1, z2], _ => exact ⟨z0, z1, z2, rfl⟩
  obtain ⟨ys, k, _, hy, _, hyl, hf⟩ := DataW.trod_struct Tryd.underlying30 h
  obtain ⟨y0, y1, y2, rfl⟩ : ∃ z0 z1 z2, ys = [z0, z1, z2] := by
    match ys, hyl with
    | [z0, z1, z2], _ => exact ⟨z0, z1, z2, rfl⟩
  have g0 : DataW.trod enc Tryd.prog W base spare held k 2 [c0] = some y0 := hf 0 _ rfl
  have g1 : DataW.trod enc Tryd.prog W base spare held k 28 [c1] = some y1 := hf 1 _ rfl
  have g2 : DataW.trod enc Tryd.prog W base spare held k 9 [c2] = some y2 := hf 2 _ rfl
  obtain ⟨n0, e0, f0, w0⟩ := DataW.trod_int Tryd.underlying2 g0
  obtain ⟨n1, e1, f1, w1⟩ := DataW.trod_int Tryd.underlying28 g1
  obtain ⟨s2, e2, f2, w2⟩ := DataW.trod_string Tryd.underlying9 g2
  refine ⟨⟨n0, n1, s2⟩, by simp at e0 e1 e2; rw [e0, e1, e2], ⟨w0, w1, w2⟩, ?_⟩
  rw [hy, f0, f1, f2]
  simp only [List.map_cons, List.map_nil, Rows.uptoBulk, Rows.uptoBulkAll]
  have : s2.size = s2.data.toList.length := Array.length_toList.symm
  omega
set_option maxRecDepth 100000 in
theorem open_W {W : World} {base : Nat} {spare : Nat → Bool} {held : Bool} {n : Nat} {c : Value} {y : DataW H × List MemPlace} (h : DataW.trod enc Tryd.prog W base spare held n 27 [c] = some y) :
    ∃ A cap, ∃ l : List S30, c = .slice A l.length cap ∧ l.length ≤ cap ∧ l.length ≤ 9223372036854775807 ∧ Kd.C k30 W A l.length l ∧ (∀ x ∈ l, wfW x) ∧ ∀ x ∈ l, x.f2.size ≤ Rows.uptoBulk y.1 := by
  rcases open_slice Tryd.underlying27 h with ⟨hcs, _⟩ | ⟨a, l, cp, m, n, D, Pl, hcs, _, hl, hm, hmm, hy, hi⟩
  · exact ⟨none, 0, [], by simpa using hcs, Nat.le_refl _, by simp, nilC_W W, fun x hx => absurd hx (by simp), fun x hx => absurd hx (by simp)⟩
  · have hle : l ≤ m := by rw [hmm]; split <;> omega
    have h3 : Program.cellsOf Tryd.prog 30 = 3 := by kernel_rfl
    have key : ∀ i, i < l → ∃ x : S30, (∀ j u, ([Value.int .i64 x.f0, .int .i8 x.f1, .string x.f2] : List Value)[j]? = some u → W.cell? (a.add (i * 3 + j)) = some u) ∧ wfW x ∧ x.f2.size ≤ Rows.uptoBulk (D i) := fun i hil => by
      obtain ⟨cs, hc, ht⟩ := hi i (by omega)
      rw [h3] at hc
      obtain ⟨_, hlen, hat⟩ := World.cells?_some hc
      obtain ⟨x, rfl, hw, hs⟩ := watch_cells ht hlen
      refine ⟨x, fun j u hu => ?_, hw, hs⟩
      have hj := (List.getElem?_eq_some_iff.1 hu).1
      rw [← Go.Deep.add_add, hat j (by simpa using hj)]
      exact hu
    unfold maxLen at hm
    have hall : ∀ x ∈ (List.range l).map (fun i => if h : i < l then (key i h).choose else z30), ∃ i, ∃ h : i < l, x = (key i h).choose := fun x hx => by
      obtain ⟨i, hir, rfl⟩ := List.mem_map.1 hx
      have hil : i < l := List.mem_range.1 hir
      exact ⟨i, hil, by simp [hil]⟩
    refine ⟨some a, cp, (List.range l).map (fun i => if h : i < l then (key i h).choose else z30), by simpa using hcs, by simp; omega, by simp; omega, ⟨by simp, by simp; omega, fun _ => ⟨a, rfl, fun j p hp => ?_⟩⟩, fun x hx => ?_, fun x hx => ?_⟩
    · have hj : j < l := by have := (List.getElem?_eq_some_iff.1 hp).1; simpa using this
      simp [hj] at hp
      subst hp
      exact ⟨_, rfl, Pr.k30_mk W _, fun i u hu => (key j hj).choose_spec.1 i u hu⟩
    · obtain ⟨i, hil, rfl⟩ := hall x hx
      exact (key i hil).choose_spec.2.1
    · obtain ⟨i, hil, rfl⟩ := hall x hx
      refine Nat.le_trans (key i hil).choose_spec.2.2 ?_
      have hm : D i ∈ (List.range l).map D := List.mem_map.2 ⟨i, List.mem_range.2 hil, rfl⟩
      rw [hy]
      simp only [Rows.uptoBulk]
      have := bulk_part hm
      omega
end
end Go.Proofs.YtkhnjckkjdldbaaDoor.Q
