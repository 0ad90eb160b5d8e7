/- The side of the machine, written by a program of this session (a scratch copy of the printer of the kit, turned): Lean functions with the answers of the Go functions, and the contracts that say so. No condition beyond what each theorem states. -/
import Derived.Test.YtiildnldokaekaaProg
import Derived.Below
import Derived.Deep.Draws
import Derived.Deep.AppendLies
import Derived.Maps.AppendAt
import Derived.OwnWalk
import Derived.Laws.BytesArg
import Derived.Laws.MakeOwn
import Derived.Laws.OwnMore
import Derived.Deep.OwnRows
import Derived.Tactics
import Derived.Lib.ConvBytes
import Derived.Laws.Slices
import Derived.WalkKit
import Derived.KernelRfl
import Derived.RowKit3
import Derived.Deep.LoopGhost
import Derived.Deep.QuietTactic
import Derived.BigQuiet
import Derived.WideLaws
import Derived.Deep.DeepCutAuto
import Derived.Deep.CutBlock
import Derived.Deep.RegionHeld3
import Derived.Laws.Rows
import Derived.Lib.AppendStr
import Derived.ArgAppend
import Derived.Laws.IdiomCopy
import Derived.OrdersHeld
import Derived.Laws.BitsLemmas
import Derived.RowKit
import Derived.Test.YtiildnldokaekaaWWords
import Derived.Test.YtiildnldokaekaaWLast
import Derived.Test.YtiildnldokaekaaWTab
import Derived.Test.YtiildnldokaekaaWFour
import Derived.Test.YtiildnldokaekaaWQPut
import Derived.Test.YtiildnldokaekaaWApart
import Derived.Test.YtiildnldokaekaaWArr
import Derived.Test.YtiildnldokaekaaWZeros
import Derived.Test.YtiildnldokaekaaWFoot
import Derived.Test.YtiildnldokaekaaWKept
import Derived.Test.YtiildnldokaekaaWShare
import Derived.Test.YtiildnldokaekaaWN
import Derived.Test.YtiildnldokaekaaWFootNe
import Derived.Test.YtiildnldokaekaaWAt
import Derived.Test.YtiildnldokaekaaWEqStruct
import Derived.Test.YtiildnldokaekaaWRepsOne
import Derived.Test.YtiildnldokaekaaWInv
import Derived.Test.YtiildnldokaekaaWInvWords
import Derived.Test.YtiildnldokaekaaWGuard
import Derived.Test.YtiildnldokaekaaWNEv
import Derived.Test.YtiildnldokaekaaWMore
namespace Go.Proofs.Ytiildnldokaekaa.Q
open Go.RowKit Go.Proofs.YtiildnldokaekaaW.PrintWords Go.Proofs.YtiildnldokaekaaW.PrintLast Go.Proofs.YtiildnldokaekaaW.PrintMore
attribute [local go_sem] max2_int min2_int max_two min_two max_three min_three max_four min_four   -- for this text's walks alone
set_option linter.unusedVariables false
set_option linter.unusedSimpArgs false



def errW : Option Int → Value
  | none => .nilIface
  | some c => .iface 0 (.int .i64 c)
theorem errW_none : errW none = .nilIface := rfl
theorem errW_some (c : Int) : errW (some c) = .iface 0 (.int .i64 c) := rfl

theorem info5 : (Try.prog.info? 5).map (fun i => (i.zero, i.size, i.bytes)) = some (some (.int .u8 0), 1, 1) := by kernel_rfl
-- the values' own types

end Go.Proofs.Ytiildnldokaekaa.Q
