-- by myprint.py, over the kit's printer
import Derived.Test.YtfphabkdgdgnbaaGreatDoorProg
import Derived.Below
import Derived.Deep.Draws
import Derived.Deep.AppendLies
import Derived.Maps.AppendAt
import Derived.OwnWalk
import Derived.Laws.BytesArg
import Derived.Laws.MakeOwn
import Derived.Laws.OwnMore
import Derived.Deep.OwnRows
import Derived.Tactics
import Derived.Lib.ConvBytes
import Derived.Laws.Slices
import Derived.WalkKit
import Derived.KernelRfl
import Derived.RowKit3
import Derived.Deep.LoopGhost
import Derived.Deep.QuietTactic
import Derived.BigQuiet
import Derived.WideLaws
import Derived.Deep.DeepCutAuto
import Derived.Deep.CutBlock
import Derived.Deep.RegionHeld3
import Derived.Laws.Rows
import Derived.Lib.AppendStr
import Derived.ArgAppend
import Derived.Laws.IdiomCopy
import Derived.OrdersHeld
import Derived.Laws.BitsLemmas
import Derived.RowKit
import Derived.Test.YtfphabkdgdgnbaaGreatDoorWWords
import Derived.Test.YtfphabkdgdgnbaaGreatDoorWLast
import Derived.Test.YtfphabkdgdgnbaaGreatDoorWTab
import Derived.Test.YtfphabkdgdgnbaaGreatDoorWFour
import Derived.Test.YtfphabkdgdgnbaaGreatDoorWQPut
import Derived.Test.YtfphabkdgdgnbaaGreatDoorWApart
import Derived.Test.YtfphabkdgdgnbaaGreatDoorWArr
import Derived.Test.YtfphabkdgdgnbaaGreatDoorWZeros
import Derived.Test.YtfphabkdgdgnbaaGreatDoorWFoot
import Derived.Test.YtfphabkdgdgnbaaGreatDoorWKept
import Derived.Test.YtfphabkdgdgnbaaGreatDoorWShare
import Derived.Test.YtfphabkdgdgnbaaGreatDoorWN
import Derived.Test.YtfphabkdgdgnbaaGreatDoorWFootNe
import Derived.Test.YtfphabkdgdgnbaaGreatDoorWAt
import Derived.Test.YtfphabkdgdgnbaaGreatDoorWEqStruct
import Derived.Test.YtfphabkdgdgnbaaGreatDoorWRepsOne
import Derived.Test.YtfphabkdgdgnbaaGreatDoorWInv
import Derived.Test.YtfphabkdgdgnbaaGreatDoorWInvWords
import Derived.Test.YtfphabkdgdgnbaaGreatDoorWGuard
import Derived.Test.YtfphabkdgdgnbaaGreatDoorWNEv
import Derived.Test.YtfphabkdgdgnbaaGreatDoorWMore
import Derived.Test.YtfphabkdgdgnbaaGreatDoorTold
namespace Go.Proofs.YtfphabkdgdgnbaaGreatDoor.QGrow
open Go.RowKit Go.Proofs.YtfphabkdgdgnbaaGreatDoorW.PrintWords Go.Proofs.YtfphabkdgdgnbaaGreatDoorW.PrintLast Go.Proofs.YtfphabkdgdgnbaaGreatDoorW.PrintMore
attribute [local go_sem] max2_int min2_int max_two min_two max_three min_three max_four min_four   -- for this text's walks alone
set_option linter.unusedVariables false
set_option linter.unusedSimpArgs false



def errW : Option Int → Value
  | none => .nilIface
  | some c => .iface 0 (.int .i64 c)
theorem errW_none : errW none = .nilIface := rfl
theorem errW_some (c : Int) : errW (some c) = .iface 0 (.int .i64 c) := rfl

theorem info3 : (Tryz.prog.info? 3).map (fun i => (i.zero, i.size, i.bytes)) = some (some (.int .i64 0), 1, 8) := by kernel_rfl
-- the values' own types

end Go.Proofs.YtfphabkdgdgnbaaGreatDoor.QGrow
