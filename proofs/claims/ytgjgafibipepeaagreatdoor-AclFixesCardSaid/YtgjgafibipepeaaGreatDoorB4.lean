import Derived.Test.YtgjgafibipepeaaGreatDoorB1
import Derived.Test.YtgjgafibipepeaaGreatDoorB3
import Derived.Deep.Slices
import Derived.Deep.CutRange
import Derived.Deep.DeepCutAuto
namespace Go.Proofs.YtgjgafibipepeaaGreatDoor.Q
open Go.RowKit Go.Proofs.YtgjgafibipepeaaGreatDoorW.PrintWords Go.Deep Go.Maps Go.WideShapes Go.Lib Go.ChangeShapes
open Go.Proofs.YtgjgafibipepeaaGreatDoor.Pr (S39 S41 k39 k41 z39 z41 rd_T39 rd_T41 info41 info39)
open Go.Proofs.YtgjgafibipepeaaGreatDoor
set_option linter.unusedVariables false
set_option linter.unusedSimpArgs false
/-! WHAT FIX PUTS TOGETHER -/
/-! ARGUMENTS: LISTS OPENED -/
section
variable {H : Type} {enc : TypeId × Value → H}
set_option maxRecDepth 100000 in
theorem id_cells {W : World} {base : Nat} {spare : Nat → Bool} {held : Bool} {n : Nat} {cs : List Value} {y : DataW H × List MemPlace} (h : DataW.trod enc Tryz.prog W base spare held n 39 cs = some y) (hl : cs.length = 2) :
    ∃ x : S39, cs = [.string x.f0, .string x.f1] := by
  obtain ⟨c0, c1, rfl⟩ : ∃ z0 z1, cs = [z0, z1] := by
    match cs, hl with
    | [z0, z1], _ => exact ⟨z0, z1, rfl⟩
  obtain ⟨ys, k, _, hy, _, hyl, hf⟩ := DataW.trod_struct Tryz.underlying39 h
  obtain ⟨y0, y1, rfl⟩ : ∃ z0 z1, ys = [z0, z1] := by
    match ys, hyl with
    | [z0, z1], _ => exact ⟨z0, z1, rfl⟩
  have g0 : DataW.trod enc Tryz.prog W base spare held k 9 [c0] = some y0 := hf 0 _ rfl
  have g1 : DataW.trod enc Tryz.prog W base spare held k 9 [c1] = some y1 := hf 1 _ rfl
  obtain ⟨s0, e0, _⟩ := DataW.trod_string Tryz.underlying9 g0
  obtain ⟨s1, e1, _⟩ := DataW.trod_string Tryz.underlying9 g1
  exact ⟨⟨s0, s1⟩, by simp at e0 e1; rw [e0, e1]⟩
set_option maxRecDepth 100000 in
theorem entry_cells {W : World} {base : Nat} {spare : Nat → Bool} {held : Bool} {n : Nat} {cs : List Value} {y : DataW H × List MemPlace} (h : DataW.trod enc Tryz.prog W base spare held n 41 cs = some y) (hl : cs.length = 3) :
    ∃ x : S41, cs = [.int .i8 x.f0, .string x.f1.f0, .string x.f1.f1] := by
  obtain ⟨c0, c1, c2, rfl⟩ : ∃ z0 z1 z2, cs = [z0, z1, z2] := by
    match cs, hl with
    | [z0, z1, z2], _ => exact ⟨z0, z1, z2, rfl⟩
  obtain ⟨ys, k, _, hy, _, hyl, hf⟩ := DataW.trod_struct Tryz.underlying41 h
  obtain ⟨y0, y1, rfl⟩ : ∃ z0 z1, ys = [z0, z1] := by
    match ys, hyl with
    | [z0, z1], _ => exact ⟨z0, z1, rfl⟩
  have g0 : DataW.trod enc Tryz.prog W base spare held k 37 [c0] = some y0 := hf 0 _ rfl
  have g1 : DataW.trod enc Tryz.prog W base spare held k 39 [c1, c2] = some y1 := hf 1 _ rfl
  obtain ⟨n0, e0, _⟩ := DataW.trod_int Tryz.underlying37 g0
  obtain ⟨x, e1⟩ := id_cells g1 rfl
  exact ⟨⟨n0, x⟩, by simp at e0 e1; rw [e0, e1.1, e1.2]⟩
set_option maxRecDepth 100000 in
theorem open_E {W : World} {base : Nat} {spare : Nat → Bool} {held : Bool} {n : Nat} {c : Value} {y : DataW H × List MemPlace} (h : DataW.trod enc Tryz.prog W base spare held n 22 [c] = some y) :
    ∃ A cap, ∃ l : List S41, c = .slice A l.length cap ∧ l.length ≤ cap ∧ l.length ≤ 9223372036854775807 ∧ Kd.C k41 W A l.length l := by
  rcases open_slice Tryz.underlying22 h with ⟨hcs, _⟩ | ⟨a, l, cp, m, n, D, Pl, hcs, _, hl, hm, hmm, _, hi⟩
  · exact ⟨none, 0, [], by simpa using hcs, Nat.le_refl _, by simp, nilC_E W⟩
  · have hle : l ≤ m := by rw [hmm]; split <;> omega
    have h3 : Program.cellsOf Tryz.prog 41 = 3 := by kernel_rfl
    have key : ∀ i, i < l → ∃ x : S41, ∀ j u, ([Value.int .i8 x.f0, .string x.f1.f0, .string x.f1.f1] : List Value)[j]? = some u → W.cell? (a.add (i * 3 + j)) = some u := fun i hil => by
      obtain ⟨cs, hc, ht⟩ := hi i (by omega)
      rw [h3] at hc
      obtain ⟨_, hlen, hat⟩ := World.cells?_some hc
      obtain ⟨x, rfl⟩ := entry_cells ht hlen
      refine ⟨x, fun j u hu => ?_⟩
      have hj := (List.getElem?_eq_some_iff.1 hu).1
      rw [← Go.Deep.add_add, hat j (by simpa using hj)]
      exact hu
    unfold maxLen at hm
    refine ⟨some a, cp, (List.range l).map (fun i => if h : i < l then (key i h).choose else z41), by simpa using hcs, by simp; omega, by simp; omega, by simp, by simp; omega, fun _ => ⟨a, rfl, fun j p hp => ?_⟩⟩
    have hj : j < l := by have := (List.getElem?_eq_some_iff.1 hp).1; simpa using this
    simp [hj] at hp
    subst hp
    exact ⟨_, rfl, Pr.k41_mk W _, fun i u hu => (key j hj).choose_spec i u hu⟩
set_option maxRecDepth 100000 in
theorem open_I {W : World} {base : Nat} {spare : Nat → Bool} {held : Bool} {n : Nat} {c : Value} {y : DataW H × List MemPlace} (h : DataW.trod enc Tryz.prog W base spare held n 23 [c] = some y) :
    ∃ A cap, ∃ l : List S39, c = .slice A l.length cap ∧ l.length ≤ cap ∧ l.length ≤ 9223372036854775807 ∧ Kd.C k39 W A l.length l := by
  rcases open_slice Tryz.underlying23 h with ⟨hcs, _⟩ | ⟨a, l, cp, m, n, D, Pl, hcs, _, hl, hm, hmm, _, hi⟩
  · exact ⟨none, 0, [], by simpa using hcs, Nat.le_refl _, by simp, nilC_I W⟩
  · have hle : l ≤ m := by rw [hmm]; split <;> omega
    have h3 : Program.cellsOf Tryz.prog 39 = 2 := by kernel_rfl
    have key : ∀ i, i < l → ∃ x : S39, ∀ j u, ([Value.string x.f0, .string x.f1] : List Value)[j]? = some u → W.cell? (a.add (i * 2 + j)) = some u := fun i hil => by
      obtain ⟨cs, hc, ht⟩ := hi i (by omega)
      rw [h3] at hc
      obtain ⟨_, hlen, hat⟩ := World.cells?_some hc
      obtain ⟨x, rfl⟩ := id_cells ht hlen
      refine ⟨x, fun j u hu => ?_⟩
      have hj := (List.getElem?_eq_some_iff.1 hu).1
      rw [← Go.Deep.add_add, hat j (by simpa using hj)]
      exact hu
    unfold maxLen at hm
    refine ⟨some a, cp, (List.range l).map (fun i => if h : i < l then (key i h).choose else z39), by simpa using hcs, by simp; omega, by simp; omega, by simp, by simp; omega, fun _ => ⟨a, rfl, fun j p hp => ?_⟩⟩
    have hj : j < l := by have := (List.getElem?_eq_some_iff.1 hp).1; simpa using this
    simp [hj] at hp
    subst hp
    exact ⟨_, rfl, Pr.k39_mk W _, fun i u hu => (key j hj).choose_spec i u hu⟩
end
/-! APPEND IN A REGION THAT DRAWS -/
theorem below_grownO {n : Nat} {w0 A B : World} {r : Option Nat} (h : Below n w0 A) (hn : n ≤ w0.heap.size) (hg : A.grownBy B r) (hr : ∀ k, r = some k → n ≤ k) : Below n w0 B :=
  ⟨hg.os.trans h.os, hg.tape.trans h.tape, hg.output.trans h.output, Nat.le_trans h.size hg.size, fun k hk => (hg.block k (Nat.lt_of_lt_of_le hk (Nat.le_trans hn h.size)) (fun e => by have := hr k e.symm; omega)).trans (h.block k hk)⟩
section
variable {α : Type}
end
end Go.Proofs.YtgjgafibipepeaaGreatDoor.Q
