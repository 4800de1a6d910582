-- (head)
import Derived.Test.YtonbbjgcnfipeaaProg
import Derived.Below
import Derived.Deep.Draws
import Derived.Deep.AppendLies
import Derived.Maps.AppendAt
import Derived.OwnWalk
import Derived.Laws.BytesArg
import Derived.Laws.MakeOwn
import Derived.Laws.OwnMore
import Derived.Deep.OwnRows
import Derived.Tactics
import Derived.Lib.ConvBytes
import Derived.Laws.Slices
import Derived.WalkKit
import Derived.KernelRfl
import Derived.RowKit3
import Derived.Deep.LoopGhost
import Derived.Deep.QuietTactic
import Derived.BigQuiet
import Derived.WideLaws
import Derived.Deep.DeepCutAuto
import Derived.Deep.CutBlock
import Derived.Deep.RegionHeld3
import Derived.Laws.Rows
import Derived.Lib.AppendStr
import Derived.ArgAppend
import Derived.Laws.IdiomCopy
import Derived.OrdersHeld
import Derived.Laws.BitsLemmas
import Derived.RowKit
import Derived.Test.YtonbbjgcnfipeaaWWords
import Derived.Test.YtonbbjgcnfipeaaWLast
import Derived.Test.YtonbbjgcnfipeaaWTab
import Derived.Test.YtonbbjgcnfipeaaWFour
import Derived.Test.YtonbbjgcnfipeaaWQPut
import Derived.Test.YtonbbjgcnfipeaaWApart
import Derived.Test.YtonbbjgcnfipeaaWArr
import Derived.Test.YtonbbjgcnfipeaaWZeros
import Derived.Test.YtonbbjgcnfipeaaWFoot
import Derived.Test.YtonbbjgcnfipeaaWKept
import Derived.Test.YtonbbjgcnfipeaaWShare
import Derived.Test.YtonbbjgcnfipeaaWN
import Derived.Test.YtonbbjgcnfipeaaWFootNe
import Derived.Test.YtonbbjgcnfipeaaWAt
import Derived.Test.YtonbbjgcnfipeaaWEqStruct
import Derived.Test.YtonbbjgcnfipeaaWRepsOne
import Derived.Test.YtonbbjgcnfipeaaWInv
import Derived.Test.YtonbbjgcnfipeaaWInvWords
import Derived.Test.YtonbbjgcnfipeaaWGuard
import Derived.Test.YtonbbjgcnfipeaaWNEv
import Derived.Test.YtonbbjgcnfipeaaWMore
namespace Go.Proofs.Ytonbbjgcnfipeaa.Ref
open Go.RowKit Go.Proofs.YtonbbjgcnfipeaaW.PrintWords Go.Proofs.YtonbbjgcnfipeaaW.PrintLast Go.Proofs.YtonbbjgcnfipeaaW.PrintMore
attribute [local go_sem] max2_int min2_int max_two min_two max_three min_three max_four min_four   -- for this text's walks alone
set_option linter.unusedVariables false
set_option linter.unusedSimpArgs false



def errW : Option Int → Value
  | none => .nilIface
  | some c => .iface 0 (.int .i64 c)
theorem errW_none : errW none = .nilIface := rfl
theorem errW_some (c : Int) : errW (some c) = .iface 0 (.int .i64 c) := rfl

theorem info22 : (Try.prog.info? 22).map (fun i => (i.zero, i.size, i.bytes)) = some (some (.int .u64 0), 1, 8) := by kernel_rfl
-- the values' own types

end Go.Proofs.Ytonbbjgcnfipeaa.Ref
