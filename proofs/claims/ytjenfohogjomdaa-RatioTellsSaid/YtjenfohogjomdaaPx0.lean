-- Printed by this session's program wip/lprint.py (a changed copy of the kit's print), out of the translation. Not trusted: Lean checks it.
import Derived.Test.YtjenfohogjomdaaProg
import Derived.Below
import Derived.Deep.Draws
import Derived.Deep.AppendLies
import Derived.Maps.AppendAt
import Derived.OwnWalk
import Derived.Laws.BytesArg
import Derived.Laws.MakeOwn
import Derived.Laws.OwnMore
import Derived.Deep.OwnRows
import Derived.Tactics
import Derived.Lib.ConvBytes
import Derived.Laws.Slices
import Derived.WalkKit
import Derived.KernelRfl
import Derived.RowKit3
import Derived.Deep.LoopGhost
import Derived.Deep.QuietTactic
import Derived.BigQuiet
import Derived.WideLaws
import Derived.Deep.DeepCutAuto
import Derived.Deep.CutBlock
import Derived.Deep.RegionHeld3
import Derived.Laws.Rows
import Derived.Lib.AppendStr
import Derived.ArgAppend
import Derived.Laws.IdiomCopy
import Derived.OrdersHeld
import Derived.Laws.BitsLemmas
import Derived.RowKit
import Derived.WalkMore
import Derived.Test.YtjenfohogjomdaaWWords
import Derived.Test.YtjenfohogjomdaaWLast
import Derived.Test.YtjenfohogjomdaaWTab
import Derived.Test.YtjenfohogjomdaaWFour
import Derived.Test.YtjenfohogjomdaaWQPut
import Derived.Test.YtjenfohogjomdaaWApart
import Derived.Test.YtjenfohogjomdaaWArr
import Derived.Test.YtjenfohogjomdaaWZeros
import Derived.Test.YtjenfohogjomdaaWFoot
import Derived.Test.YtjenfohogjomdaaWKept
import Derived.Test.YtjenfohogjomdaaWShare
import Derived.Test.YtjenfohogjomdaaWN
import Derived.Test.YtjenfohogjomdaaWFootNe
import Derived.Test.YtjenfohogjomdaaWAt
import Derived.Test.YtjenfohogjomdaaWEqStruct
import Derived.Test.YtjenfohogjomdaaWRepsOne
import Derived.Test.YtjenfohogjomdaaWInv
import Derived.Test.YtjenfohogjomdaaWInvWords
import Derived.Test.YtjenfohogjomdaaWGuard
import Derived.Test.YtjenfohogjomdaaWNEv
import Derived.Test.YtjenfohogjomdaaWMore
namespace Go.Proofs.Ytjenfohogjomdaa.P
open Go.RowKit Go.Proofs.YtjenfohogjomdaaW.PrintWords Go.Proofs.YtjenfohogjomdaaW.PrintLast Go.Proofs.YtjenfohogjomdaaW.PrintMore
attribute [local go_sem] max2_int min2_int max_two min_two max_three min_three max_four min_four   -- for this text's walks alone
set_option linter.unusedVariables false
set_option linter.unusedSimpArgs false



def errW : Option Int → Value
  | none => .nilIface
  | some c => .iface 0 (.int .i64 c)
theorem errW_none : errW none = .nilIface := rfl
theorem errW_some (c : Int) : errW (some c) = .iface 0 (.int .i64 c) := rfl

theorem info3 : (Try.prog.info? 3).map (fun i => (i.zero, i.size, i.bytes)) = some (some (.int .i64 0), 1, 8) := by kernel_rfl
-- the values' own types

end Go.Proofs.Ytjenfohogjomdaa.P
