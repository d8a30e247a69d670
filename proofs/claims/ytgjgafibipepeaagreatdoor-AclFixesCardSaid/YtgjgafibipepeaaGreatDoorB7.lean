import Derived.Test.YtgjgafibipepeaaGreatDoorPr4
import Derived.Test.YtgjgafibipepeaaGreatDoorB2
namespace Go.Proofs.YtgjgafibipepeaaGreatDoor.Q
open Go.RowKit Go.Proofs.YtgjgafibipepeaaGreatDoorW.PrintWords Go.Lib
open Go.Proofs.YtgjgafibipepeaaGreatDoor.Pr (S39 S41 k39 k41 z39 z41 rd_T39 rd_T41)
open Go.Proofs.YtgjgafibipepeaaGreatDoor
set_option linter.unusedVariables false
set_option linter.unusedSimpArgs false
/-! EQUAL LISTS -/
theorem eqAcl_self (l : List S41) (hl : l.length ≤ 4294967296) : ∃ k, Pr.lagoonref00_EqAcl.f k l l = some true := by
  have go : ∀ d i k, i + d = l.length → d < k → Pr.lagoonref00_EqAcl.l0 k l l (i : Int) = some true := by
    intro d
    induction d with
    | zero =>
      intro i k hi hk
      obtain ⟨k, rfl⟩ : ∃ m, k = m + 1 := ⟨k - 1, by omega⟩
      rw [Pr.lagoonref00_EqAcl.l0, if_neg (by omega)]
    | succ d ih =>
      intro i k hi hk
      obtain ⟨k, rfl⟩ : ∃ m, k = m + 1 := ⟨k - 1, by omega⟩
      rw [Pr.lagoonref00_EqAcl.l0, if_pos (by omega), if_pos (by omega), if_pos (by omega), if_neg (by simp), w64 (by omega) (by omega)]
      exact ih (i + 1) k (by omega) (by omega)
  exact ⟨l.length + 1, by unfold Pr.lagoonref00_EqAcl.f; rw [if_pos rfl]; exact go l.length 0 _ (by omega) (by omega)⟩
end Go.Proofs.YtgjgafibipepeaaGreatDoor.Q
