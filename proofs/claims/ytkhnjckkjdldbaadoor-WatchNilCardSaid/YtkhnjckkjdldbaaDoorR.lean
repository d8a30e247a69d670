import Derived.Test.YtkhnjckkjdldbaaDoorL
namespace Go.Proofs.YtkhnjckkjdldbaaDoor.Q
open Go.RowKit Go.Lib
set_option linter.unusedVariables false
set_option linter.constructorNameAsVariable false
theorem agg3_of (cs : Array Value) (x y z : Value) (hs : cs.size = 3) (h0 : cs[0]'(by omega) = x) (h1 : cs[1]'(by omega) = y) (h2 : cs[2]'(by omega) = z) : Value.agg cs = .agg #[x, y, z] := by
  congr 1
  apply Array.ext
  · simp [hs]
  · intro i g1 g2
    have : i = 0 ∨ i = 1 ∨ i = 2 := by simp at g2; omega
    rcases this with rfl | rfl | rfl <;> simp [h0, h1, h2]
theorem agg2_of (cs : Array Value) (x y : Value) (hs : cs.size = 2) (h0 : cs[0]'(by omega) = x) (h1 : cs[1]'(by omega) = y) : Value.agg cs = .agg #[x, y] := by
  congr 1
  apply Array.ext
  · simp [hs]
  · intro i g1 g2
    have : i = 0 ∨ i = 1 := by simp at g2; omega
    rcases this with rfl | rfl <;> simp [h0, h1]
/-- a watch that came in -/
theorem watch_opened {W : World} {base : Nat} {v : Value} (h : Value.okWide Tryd.prog W .any base 30 v) : ∃ (a k : Int) (p : ByteArray), v = .agg #[.int .i64 a, .int .i8 k, .string p] := by
  simp only [Value.okWide, Tryd.underlying30] at h
  obtain ⟨cs, rfl, hs, ts, hts, _, hall⟩ := h
  have h2 : Tryd.prog.cellsOf 30 = 3 := by kernel_rfl
  have ht : Tryd.prog.cellTypes Tryd.prog.depth 30 = some [2, 28, 9] := by kernel_rfl
  obtain rfl := Option.some.inj (ht.symm.trans hts)
  rw [h2] at hs
  have e0 : ∃ a : Int, cs[0]'(by omega) = .int .i64 a := by
    obtain ⟨u, hu, hok⟩ := hall 0 (cs[0]'(by omega)) (by simp [hs])
    obtain rfl : u = 2 := (Option.some.inj hu).symm
    generalize cs[0]'(by omega) = x at hok
    cases x <;> simp [Cell.okWide, Cell.ok, Tryd.underlying2] at hok
    obtain ⟨rfl, _⟩ := hok
    exact ⟨_, rfl⟩
  have e1 : ∃ a : Int, cs[1]'(by omega) = .int .i8 a := by
    obtain ⟨u, hu, hok⟩ := hall 1 (cs[1]'(by omega)) (by simp [hs])
    obtain rfl : u = 28 := (Option.some.inj hu).symm
    generalize cs[1]'(by omega) = x at hok
    cases x <;> simp [Cell.okWide, Cell.ok, Tryd.underlying28] at hok
    obtain ⟨rfl, _⟩ := hok
    exact ⟨_, rfl⟩
  have e2 : ∃ s : ByteArray, cs[2]'(by omega) = .string s := by
    obtain ⟨u, hu, hok⟩ := hall 2 (cs[2]'(by omega)) (by simp [hs])
    obtain rfl : u = 9 := (Option.some.inj hu).symm
    generalize cs[2]'(by omega) = x at hok
    cases x <;> simp [Cell.okWide, Cell.ok, Tryd.underlying9] at hok
    exact ⟨_, rfl⟩
  obtain ⟨a, h0⟩ := e0
  obtain ⟨k, h1⟩ := e1
  obtain ⟨p, h2⟩ := e2
  exact ⟨a, k, p, agg3_of cs _ _ _ hs h0 h1 h2⟩
/-- a change that came in -/
theorem change_opened {W : World} {base : Nat} {v : Value} (h : Value.okWide Tryd.prog W .any base 32 v) : ∃ (k : Int) (p : ByteArray), v = .agg #[.int .i8 k, .string p] := by
  simp only [Value.okWide, Tryd.underlying32] at h
  obtain ⟨cs, rfl, hs, ts, hts, _, hall⟩ := h
  have h2 : Tryd.prog.cellsOf 32 = 2 := by kernel_rfl
  have ht : Tryd.prog.cellTypes Tryd.prog.depth 32 = some [28, 9] := by kernel_rfl
  obtain rfl := Option.some.inj (ht.symm.trans hts)
  rw [h2] at hs
  have e1 : ∃ a : Int, cs[0]'(by omega) = .int .i8 a := by
    obtain ⟨u, hu, hok⟩ := hall 0 (cs[0]'(by omega)) (by simp [hs])
    obtain rfl : u = 28 := (Option.some.inj hu).symm
    generalize cs[0]'(by omega) = x at hok
    cases x <;> simp [Cell.okWide, Cell.ok, Tryd.underlying28] at hok
    obtain ⟨rfl, _⟩ := hok
    exact ⟨_, rfl⟩
  have e2 : ∃ s : ByteArray, cs[1]'(by omega) = .string s := by
    obtain ⟨u, hu, hok⟩ := hall 1 (cs[1]'(by omega)) (by simp [hs])
    obtain rfl : u = 9 := (Option.some.inj hu).symm
    generalize cs[1]'(by omega) = x at hok
    cases x <;> simp [Cell.okWide, Cell.ok, Tryd.underlying9] at hok
    exact ⟨_, rfl⟩
  obtain ⟨k, h1⟩ := e1
  obtain ⟨p, h2⟩ := e2
  exact ⟨k, p, agg2_of cs _ _ hs h1 h2⟩
end Go.Proofs.YtkhnjckkjdldbaaDoor.Q
