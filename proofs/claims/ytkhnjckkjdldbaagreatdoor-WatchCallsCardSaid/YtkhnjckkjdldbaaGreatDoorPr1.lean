-- began as the text YtkhnjckkjdldbaaGreatDoorPWatchCallsx1, which print.sh printed; here in the namespace Pr
import Derived.Test.YtkhnjckkjdldbaaGreatDoorPr0
namespace Go.Proofs.YtkhnjckkjdldbaaGreatDoor.Pr
open Go.RowKit Go.Proofs.YtkhnjckkjdldbaaGreatDoorW.PrintWords Go.Proofs.YtkhnjckkjdldbaaGreatDoorW.PrintLast Go.Proofs.YtkhnjckkjdldbaaGreatDoorW.PrintMore
attribute [local go_sem] max2_int min2_int max_two min_two max_three min_three max_four min_four   -- for this text's walks alone
set_option linter.unusedVariables false
set_option linter.unusedSimpArgs false

theorem eqA57 (d : Nat) (w : World) (x0 y0 : Int) (x1 y1 : Int) (x2 y2 : ByteArray) :
    (Op.equalIn (d + 2) 57 (.agg #[.int .i64 x0, .int .i8 x1, .string x2]) (.agg #[.int .i64 y0, .int .i8 y1, .string y2])).run Tryz.prog w = .ok (x0 == y0 && (x1 == y1 && (x2.toList == y2.toList))) w := by
  refine eqA_of Tryz.underlying57 (by kernel_rfl) ?_
  refine eqf_cons (by rfl) (by go_simp; rfl) (by go_simp; rfl) (by go_simp) ?_
  refine eqf_cons (by rfl) (by go_simp; rfl) (by go_simp; rfl) (by go_simp) ?_
  exact eqf_last (by rfl) (by go_simp; rfl) (by go_simp; rfl) (by go_simp)
end Go.Proofs.YtkhnjckkjdldbaaGreatDoor.Pr
