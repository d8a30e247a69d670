-- began as the text YtgjgafibipepeaaDoorPAclMeetsx2, which print.sh printed; here in the namespace Pr
import Derived.Test.YtgjgafibipepeaaDoorPr0
import Derived.Test.YtgjgafibipepeaaDoorPr1
namespace Go.Proofs.YtgjgafibipepeaaDoor.Pr
open Go.RowKit Go.Proofs.YtgjgafibipepeaaDoorW.PrintWords Go.Proofs.YtgjgafibipepeaaDoorW.PrintLast Go.Proofs.YtgjgafibipepeaaDoorW.PrintMore
attribute [local go_sem] max2_int min2_int max_two min_two max_three min_three max_four min_four   -- for this text's walks alone
set_option linter.unusedVariables false
set_option linter.unusedSimpArgs false

theorem eqA33 (d : Nat) (w : World) (x0 y0 : Int) (x1 y1 : ByteArray) (x2 y2 : ByteArray) :
    (Op.equalIn (d + 3) 33 (.agg #[.int .i8 x0, .string x1, .string x2]) (.agg #[.int .i8 y0, .string y1, .string y2])).run Tryd.prog w = .ok (x0 == y0 && ((x1.toList == y1.toList && (x2.toList == y2.toList)))) w := by
  refine eqA_of Tryd.underlying33 (by kernel_rfl) ?_
  refine eqf_cons (by rfl) (by go_simp; rfl) (by go_simp; rfl) (by go_simp) ?_
  exact eqf_last (by rfl) (by go_simp) (by go_simp) (eqA25 (d + 0) w _ _ _ _)
end Go.Proofs.YtgjgafibipepeaaDoor.Pr
