import Derived.Test.YtgjgafibipepeaaDoorPr8
import Derived.Test.YtgjgafibipepeaaDoorB2
namespace Go.Proofs.YtgjgafibipepeaaDoor.Q
open Go.RowKit Go.Proofs.YtgjgafibipepeaaDoorW.PrintWords Go.Lib
open Go.Proofs.YtgjgafibipepeaaDoor.Pr (S25 S33 k25 k33 z25 z33 rd_T25 rd_T33)
open Go.Proofs.YtgjgafibipepeaaDoor
set_option linter.unusedVariables false
set_option linter.unusedSimpArgs false
/-! EQUAL LISTS -/
theorem eqAcl_self (l : List S33) (hl : l.length ≤ 4294967296) : ∃ k, Pr.lagoonref00_EqAcl.f k l l = some true := by
  have go : ∀ d i k, i + d = l.length → d < k → Pr.lagoonref00_EqAcl.l0 k l l (i : Int) = some true := by
    intro d
    induction d with
    | zero =>
      intro i k hi hk
      obtain ⟨k, rfl⟩ : ∃ m, k = m + 1 := ⟨k - 1, by omega⟩
      rw [Pr.lagoonref00_EqAcl.l0, if_neg (by omega)]
    | succ d ih =>
      intro i k hi hk
      obtain ⟨k, rfl⟩ : ∃ m, k = m + 1 := ⟨k - 1, by omega⟩
      rw [Pr.lagoonref00_EqAcl.l0, if_pos (by omega), if_pos (by omega), if_pos (by omega), if_neg (by simp), w64 (by omega) (by omega)]
      exact ih (i + 1) k (by omega) (by omega)
  exact ⟨l.length + 1, by unfold Pr.lagoonref00_EqAcl.f; rw [if_pos rfl]; exact go l.length 0 _ (by omega) (by omega)⟩
end Go.Proofs.YtgjgafibipepeaaDoor.Q
