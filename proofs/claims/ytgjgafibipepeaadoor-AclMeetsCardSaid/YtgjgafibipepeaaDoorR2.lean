import Derived.Test.YtgjgafibipepeaaDoorR
namespace Go.Proofs.YtgjgafibipepeaaDoor.Q
open Go.RowKit Go.Lib
set_option linter.unusedVariables false
set_option linter.constructorNameAsVariable false
theorem id_of (cs : Array Value) (s m : ByteArray) (hs : cs.size = 2) (h0 : cs[0]'(by omega) = .string s) (h1 : cs[1]'(by omega) = .string m) : Value.agg cs = .agg #[.string s, .string m] := by
  congr 1
  apply Array.ext
  · simp [hs]
  · intro i g1 g2
    have : i = 0 ∨ i = 1 := by simp at g2; omega
    rcases this with rfl | rfl <;> simp [h0, h1]
/-- an id that came in -/
theorem id_opened {W : World} {base : Nat} {v : Value} (h : Value.okWide Tryd.prog W .any base 25 v) : ∃ s m : ByteArray, v = .agg #[.string s, .string m] := by
  simp only [Value.okWide, Tryd.underlying25] at h
  obtain ⟨cs, rfl, hs, ts, hts, _, hall⟩ := h
  have h2 : Tryd.prog.cellsOf 25 = 2 := by kernel_rfl
  have ht : Tryd.prog.cellTypes Tryd.prog.depth 25 = some [9, 9] := by kernel_rfl
  obtain rfl := Option.some.inj (ht.symm.trans hts)
  rw [h2] at hs
  have one : ∀ i, (h : i < 2) → ∃ s : ByteArray, cs[i]'(by omega) = .string s := by
    intro i hi
    obtain ⟨u, hu, hok⟩ := hall i (cs[i]'(by omega)) (by simp [hs, hi])
    have hm : i % [9, 9].length = i := Nat.mod_eq_of_lt hi
    have e : u = 9 := by
      rw [hm] at hu
      have : i = 0 ∨ i = 1 := by omega
      rcases this with rfl | rfl <;> exact (Option.some.inj hu).symm
    subst e
    generalize cs[i]'(by omega) = x at hok
    cases x <;> simp [Cell.okWide, Cell.ok, Tryd.underlying9] at hok
    exact ⟨_, rfl⟩
  have e0 := one 0 (by omega)
  have e1 := one 1 (by omega)
  clear one hall hts ht h2
  obtain ⟨s, h0⟩ := e0
  obtain ⟨m, h1⟩ := e1
  exact ⟨s, m, id_of cs s m hs h0 h1⟩
end Go.Proofs.YtgjgafibipepeaaDoor.Q
