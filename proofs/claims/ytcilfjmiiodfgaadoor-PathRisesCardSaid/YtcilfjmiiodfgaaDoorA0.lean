-- printed by the kit for this seat, put into one namespace by merge.py
import Derived.Test.YtcilfjmiiodfgaaDoorProg
import Derived.Below
import Derived.Deep.Draws
import Derived.Deep.AppendLies
import Derived.Maps.AppendAt
import Derived.OwnWalk
import Derived.Laws.BytesArg
import Derived.Laws.MakeOwn
import Derived.Laws.OwnMore
import Derived.Deep.OwnRows
import Derived.Tactics
import Derived.Lib.ConvBytes
import Derived.Laws.Slices
import Derived.WalkKit
import Derived.KernelRfl
import Derived.RowKit3
import Derived.Deep.LoopGhost
import Derived.Deep.QuietTactic
import Derived.BigQuiet
import Derived.WideLaws
import Derived.Deep.DeepCutAuto
import Derived.Deep.CutBlock
import Derived.Deep.RegionHeld3
import Derived.Laws.Rows
import Derived.Lib.AppendStr
import Derived.ArgAppend
import Derived.Laws.IdiomCopy
import Derived.OrdersHeld
import Derived.Laws.BitsLemmas
import Derived.RowKit
import Derived.Test.YtcilfjmiiodfgaaDoorWWords
import Derived.Test.YtcilfjmiiodfgaaDoorWLast
import Derived.Test.YtcilfjmiiodfgaaDoorWTab
import Derived.Test.YtcilfjmiiodfgaaDoorWFour
import Derived.Test.YtcilfjmiiodfgaaDoorWQPut
import Derived.Test.YtcilfjmiiodfgaaDoorWApart
import Derived.Test.YtcilfjmiiodfgaaDoorWArr
import Derived.Test.YtcilfjmiiodfgaaDoorWZeros
import Derived.Test.YtcilfjmiiodfgaaDoorWFoot
import Derived.Test.YtcilfjmiiodfgaaDoorWKept
import Derived.Test.YtcilfjmiiodfgaaDoorWShare
import Derived.Test.YtcilfjmiiodfgaaDoorWN
import Derived.Test.YtcilfjmiiodfgaaDoorWFootNe
import Derived.Test.YtcilfjmiiodfgaaDoorWAt
import Derived.Test.YtcilfjmiiodfgaaDoorWEqStruct
import Derived.Test.YtcilfjmiiodfgaaDoorWRepsOne
import Derived.Test.YtcilfjmiiodfgaaDoorWInv
import Derived.Test.YtcilfjmiiodfgaaDoorWInvWords
import Derived.Test.YtcilfjmiiodfgaaDoorWGuard
import Derived.Test.YtcilfjmiiodfgaaDoorWNEv
import Derived.Test.YtcilfjmiiodfgaaDoorWMore
namespace Go.Proofs.YtcilfjmiiodfgaaDoor.Pr
open Go.RowKit Go.Proofs.YtcilfjmiiodfgaaDoorW.PrintWords Go.Proofs.YtcilfjmiiodfgaaDoorW.PrintLast Go.Proofs.YtcilfjmiiodfgaaDoorW.PrintMore
attribute [local go_sem] max2_int min2_int max_two min_two max_three min_three max_four min_four   -- for this text's walks alone
set_option linter.unusedVariables false
set_option linter.unusedSimpArgs false



def errW : Option Int → Value
  | none => .nilIface
  | some c => .iface 0 (.int .i64 c)
theorem errW_none : errW none = .nilIface := rfl
theorem errW_some (c : Int) : errW (some c) = .iface 0 (.int .i64 c) := rfl

theorem info9 : (Tryd.prog.info? 9).map (fun i => (i.zero, i.size, i.bytes)) = some (some (.string ⟨#[]⟩), 1, 16) := by kernel_rfl
-- the values' own types
end Go.Proofs.YtcilfjmiiodfgaaDoor.Pr
