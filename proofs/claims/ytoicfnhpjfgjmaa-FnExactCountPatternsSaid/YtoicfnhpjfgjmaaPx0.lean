-- Laid by wip/myprint.py of this project (a wrapper over the kit's print.py); Lean checks it.
import Derived.Test.YtoicfnhpjfgjmaaProg
import Derived.Laws.EntriesVeiled
import Derived.Below
import Derived.Deep.Draws
import Derived.Deep.AppendLies
import Derived.Maps.AppendAt
import Derived.OwnWalk
import Derived.Laws.BytesArg
import Derived.Laws.MakeOwn
import Derived.Laws.OwnMore
import Derived.Deep.OwnRows
import Derived.Tactics
import Derived.Lib.ConvBytes
import Derived.Laws.Slices
import Derived.WalkKit
import Derived.KernelRfl
import Derived.RowKit3
import Derived.Deep.LoopGhost
import Derived.Deep.QuietTactic
import Derived.BigQuiet
import Derived.WideLaws
import Derived.Deep.DeepCutAuto
import Derived.Deep.CutBlock
import Derived.Deep.RegionHeld3
import Derived.Laws.Rows
import Derived.Lib.AppendStr
import Derived.ArgAppend
import Derived.Laws.IdiomCopy
import Derived.OrdersHeld
import Derived.Laws.BitsLemmas
import Derived.RowKit
import Derived.Test.YtoicfnhpjfgjmaaWWords
import Derived.Test.YtoicfnhpjfgjmaaWLast
import Derived.Test.YtoicfnhpjfgjmaaWTab
import Derived.Test.YtoicfnhpjfgjmaaWFour
import Derived.Test.YtoicfnhpjfgjmaaWQPut
import Derived.Test.YtoicfnhpjfgjmaaWApart
import Derived.Test.YtoicfnhpjfgjmaaWArr
import Derived.Test.YtoicfnhpjfgjmaaWZeros
import Derived.Test.YtoicfnhpjfgjmaaWFoot
import Derived.Test.YtoicfnhpjfgjmaaWKept
import Derived.Test.YtoicfnhpjfgjmaaWShare
import Derived.Test.YtoicfnhpjfgjmaaWN
import Derived.Test.YtoicfnhpjfgjmaaWFootNe
import Derived.Test.YtoicfnhpjfgjmaaWAt
import Derived.Test.YtoicfnhpjfgjmaaWEqStruct
import Derived.Test.YtoicfnhpjfgjmaaWRepsOne
import Derived.Test.YtoicfnhpjfgjmaaWInv
import Derived.Test.YtoicfnhpjfgjmaaWInvWords
import Derived.Test.YtoicfnhpjfgjmaaWGuard
import Derived.Test.YtoicfnhpjfgjmaaWNEv
import Derived.Test.YtoicfnhpjfgjmaaWMore
namespace Go.Proofs.Ytoicfnhpjfgjmaa.P
open Go.RowKit Go.Proofs.YtoicfnhpjfgjmaaW.PrintWords Go.Proofs.YtoicfnhpjfgjmaaW.PrintLast Go.Proofs.YtoicfnhpjfgjmaaW.PrintMore
attribute [local go_sem] max2_int min2_int max_two min_two max_three min_three max_four min_four   -- for this text's walks alone
set_option linter.unusedVariables false
set_option linter.unusedSimpArgs false



def errW : Option Int → Value
  | none => .nilIface
  | some c => .iface 0 (.int .i64 c)
theorem errW_none : errW none = .nilIface := rfl
theorem errW_some (c : Int) : errW (some c) = .iface 0 (.int .i64 c) := rfl

theorem info3 : (Try.prog.info? 3).map (fun i => (i.zero, i.size, i.bytes)) = some (some (.int .i64 0), 1, 8) := by kernel_rfl
-- the values' own types

end Go.Proofs.Ytoicfnhpjfgjmaa.P
