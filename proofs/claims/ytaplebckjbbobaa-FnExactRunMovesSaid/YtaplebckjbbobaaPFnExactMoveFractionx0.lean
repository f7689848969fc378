-- PRINTED BY print.sh 35421559b90ae4d0a3588c463048766b98c2df88dd9212a6774a882060cdf62d: not written by this session
import Derived.Test.YtaplebckjbbobaaProg
import Derived.Below
import Derived.Deep.Draws
import Derived.Deep.AppendLies
import Derived.Maps.AppendAt
import Derived.OwnWalk
import Derived.Laws.BytesArg
import Derived.Laws.MakeOwn
import Derived.Laws.OwnMore
import Derived.Deep.OwnRows
import Derived.Tactics
import Derived.Lib.ConvBytes
import Derived.Laws.Slices
import Derived.WalkKit
import Derived.KernelRfl
import Derived.RowKit3
import Derived.Deep.LoopGhost
import Derived.Deep.QuietTactic
import Derived.BigQuiet
import Derived.WideLaws
import Derived.Deep.DeepCutAuto
import Derived.Deep.CutBlock
import Derived.Deep.RegionHeld3
import Derived.Laws.Rows
import Derived.Lib.AppendStr
import Derived.ArgAppend
import Derived.Laws.IdiomCopy
import Derived.OrdersHeld
import Derived.Laws.BitsLemmas
import Derived.RowKit
import Derived.Test.YtaplebckjbbobaaWWords
import Derived.Test.YtaplebckjbbobaaWLast
import Derived.Test.YtaplebckjbbobaaWTab
import Derived.Test.YtaplebckjbbobaaWFour
import Derived.Test.YtaplebckjbbobaaWQPut
import Derived.Test.YtaplebckjbbobaaWApart
import Derived.Test.YtaplebckjbbobaaWArr
import Derived.Test.YtaplebckjbbobaaWZeros
import Derived.Test.YtaplebckjbbobaaWFoot
import Derived.Test.YtaplebckjbbobaaWKept
import Derived.Test.YtaplebckjbbobaaWShare
import Derived.Test.YtaplebckjbbobaaWN
import Derived.Test.YtaplebckjbbobaaWFootNe
import Derived.Test.YtaplebckjbbobaaWAt
import Derived.Test.YtaplebckjbbobaaWEqStruct
import Derived.Test.YtaplebckjbbobaaWRepsOne
import Derived.Test.YtaplebckjbbobaaWInv
import Derived.Test.YtaplebckjbbobaaWInvWords
import Derived.Test.YtaplebckjbbobaaWGuard
import Derived.Test.YtaplebckjbbobaaWNEv
import Derived.Test.YtaplebckjbbobaaWMore
namespace Go.Proofs.Ytaplebckjbbobaa.PFnExactMoveFraction
open Go.RowKit Go.Proofs.YtaplebckjbbobaaW.PrintWords Go.Proofs.YtaplebckjbbobaaW.PrintLast Go.Proofs.YtaplebckjbbobaaW.PrintMore
attribute [local go_sem] max2_int min2_int max_two min_two max_three min_three max_four min_four   -- for this text's walks alone
set_option linter.unusedVariables false
set_option linter.unusedSimpArgs false



def errW : Option Int → Value
  | none => .nilIface
  | some c => .iface 0 (.int .i64 c)
theorem errW_none : errW none = .nilIface := rfl
theorem errW_some (c : Int) : errW (some c) = .iface 0 (.int .i64 c) := rfl

theorem info2 : (Try.prog.info? 2).map (fun i => (i.zero, i.size, i.bytes)) = some (some (.int .i64 0), 1, 8) := by kernel_rfl
-- the values' own types

end Go.Proofs.Ytaplebckjbbobaa.PFnExactMoveFraction
