import Derived.Test.YtgjgafibipepeaaDoorPr8
import Derived.Test.YtgjgafibipepeaaDoorB2
namespace Go.Proofs.YtgjgafibipepeaaDoor.Q
open Go.RowKit Go.Proofs.YtgjgafibipepeaaDoorW.PrintWords Go.Lib
open Go.Proofs.YtgjgafibipepeaaDoor.Pr (S25 S33 k25 k33 z25 z33 rd_T25 rd_T33)
open Go.Proofs.YtgjgafibipepeaaDoor
set_option linter.unusedVariables false
set_option linter.unusedSimpArgs false
/-! COPIES; EQUAL LISTS -/
theorem copyE_f (l : List S33) (hl : l.length ≤ 3518437208882) : ∃ k, Pr.lagoonref00_CopyAcl.f k l = some l := by
  have go : ∀ d i k, i + d = l.length → d < k → Pr.lagoonref00_CopyAcl.l0 k l (l.take i) (i : Int) = some l := by
    intro d
    induction d with
    | zero =>
      intro i k hi hk
      obtain ⟨k, rfl⟩ : ∃ m, k = m + 1 := ⟨k - 1, by omega⟩
      rw [Pr.lagoonref00_CopyAcl.l0, if_neg (by omega), List.take_of_length_le (by omega)]
    | succ d ih =>
      intro i k hi hk
      obtain ⟨k, rfl⟩ : ∃ m, k = m + 1 := ⟨k - 1, by omega⟩
      have hlt : i < l.length := by omega
      have hr : rd_T33 l (i : Int) = l[i] := by simp [rd_T33, List.getD, List.getElem?_eq_getElem hlt]
      rw [Pr.lagoonref00_CopyAcl.l0, if_pos (by omega), if_pos (by omega), if_pos (by rw [List.length_take]; omega), hr, w64 (by omega) (by omega)]
      have := ih (i + 1) k (by omega) (by omega)
      rw [List.take_add_one, List.getElem?_eq_getElem hlt] at this
      exact this
  exact ⟨l.length + 1, go l.length 0 _ (by omega) (by omega)⟩
theorem copyI_f (l : List S25) (hl : l.length ≤ 3518437208882) : ∃ k, Pr.lagoonref00_CopyIds.f k l = some l := by
  have go : ∀ d i k, i + d = l.length → d < k → Pr.lagoonref00_CopyIds.l0 k l (l.take i) (i : Int) = some l := by
    intro d
    induction d with
    | zero =>
      intro i k hi hk
      obtain ⟨k, rfl⟩ : ∃ m, k = m + 1 := ⟨k - 1, by omega⟩
      rw [Pr.lagoonref00_CopyIds.l0, if_neg (by omega), List.take_of_length_le (by omega)]
    | succ d ih =>
      intro i k hi hk
      obtain ⟨k, rfl⟩ : ∃ m, k = m + 1 := ⟨k - 1, by omega⟩
      have hlt : i < l.length := by omega
      have hr : rd_T25 l (i : Int) = l[i] := by simp [rd_T25, List.getD, List.getElem?_eq_getElem hlt]
      rw [Pr.lagoonref00_CopyIds.l0, if_pos (by omega), if_pos (by omega), if_pos (by rw [List.length_take]; omega), hr, w64 (by omega) (by omega)]
      have := ih (i + 1) k (by omega) (by omega)
      rw [List.take_add_one, List.getElem?_eq_getElem hlt] at this
      exact this
  exact ⟨l.length + 1, go l.length 0 _ (by omega) (by omega)⟩
end Go.Proofs.YtgjgafibipepeaaDoor.Q
