-- Laid by wip/myprint.py of this project (a wrapper over the kit's print.py); Lean checks it.
import Derived.Test.YtecpcbkoemhclaaDoorProg
import Derived.Laws.EntriesVeiled
import Derived.Below
import Derived.Deep.Draws
import Derived.Deep.AppendLies
import Derived.Maps.AppendAt
import Derived.OwnWalk
import Derived.Laws.BytesArg
import Derived.Laws.MakeOwn
import Derived.Laws.OwnMore
import Derived.Deep.OwnRows
import Derived.Tactics
import Derived.Lib.ConvBytes
import Derived.Laws.Slices
import Derived.WalkKit
import Derived.KernelRfl
import Derived.RowKit3
import Derived.Deep.LoopGhost
import Derived.Deep.QuietTactic
import Derived.BigQuiet
import Derived.WideLaws
import Derived.Deep.DeepCutAuto
import Derived.Deep.CutBlock
import Derived.Deep.RegionHeld3
import Derived.Laws.Rows
import Derived.Lib.AppendStr
import Derived.ArgAppend
import Derived.Laws.IdiomCopy
import Derived.OrdersHeld
import Derived.Laws.BitsLemmas
import Derived.RowKit
import Derived.Test.YtecpcbkoemhclaaDoorShelfB
import Derived.Test.YtecpcbkoemhclaaDoorWWords
import Derived.Test.YtecpcbkoemhclaaDoorWLast
import Derived.Test.YtecpcbkoemhclaaDoorWTab
import Derived.Test.YtecpcbkoemhclaaDoorWFour
import Derived.Test.YtecpcbkoemhclaaDoorWQPut
import Derived.Test.YtecpcbkoemhclaaDoorWApart
import Derived.Test.YtecpcbkoemhclaaDoorWArr
import Derived.Test.YtecpcbkoemhclaaDoorWZeros
import Derived.Test.YtecpcbkoemhclaaDoorWFoot
import Derived.Test.YtecpcbkoemhclaaDoorWKept
import Derived.Test.YtecpcbkoemhclaaDoorWShare
import Derived.Test.YtecpcbkoemhclaaDoorWN
import Derived.Test.YtecpcbkoemhclaaDoorWFootNe
import Derived.Test.YtecpcbkoemhclaaDoorWAt
import Derived.Test.YtecpcbkoemhclaaDoorWEqStruct
import Derived.Test.YtecpcbkoemhclaaDoorWRepsOne
import Derived.Test.YtecpcbkoemhclaaDoorWInv
import Derived.Test.YtecpcbkoemhclaaDoorWInvWords
import Derived.Test.YtecpcbkoemhclaaDoorWGuard
import Derived.Test.YtecpcbkoemhclaaDoorWNEv
import Derived.Test.YtecpcbkoemhclaaDoorWMore
namespace Go.Proofs.YtecpcbkoemhclaaDoor.P
open Go.RowKit Go.Proofs.YtecpcbkoemhclaaDoorW.PrintWords Go.Proofs.YtecpcbkoemhclaaDoorW.PrintLast Go.Proofs.YtecpcbkoemhclaaDoorW.PrintMore
attribute [local go_sem] max2_int min2_int max_two min_two max_three min_three max_four min_four   -- for this text's walks alone
set_option linter.unusedVariables false
set_option linter.unusedSimpArgs false



def errW : Option Int → Value
  | none => .nilIface
  | some c => .iface 94 (.int .i64 c)
theorem errW_none : errW none = .nilIface := rfl
theorem errW_some (c : Int) : errW (some c) = .iface 94 (.int .i64 c) := rfl

theorem info3 : (Tryd.prog.info? 3).map (fun i => (i.zero, i.size, i.bytes)) = some (some (.int .i64 0), 1, 8) := by kernel_rfl
theorem info9 : (Tryd.prog.info? 9).map (fun i => (i.zero, i.size, i.bytes)) = some (some (.string ⟨#[]⟩), 1, 16) := by kernel_rfl
-- the values' own types

end Go.Proofs.YtecpcbkoemhclaaDoor.P
