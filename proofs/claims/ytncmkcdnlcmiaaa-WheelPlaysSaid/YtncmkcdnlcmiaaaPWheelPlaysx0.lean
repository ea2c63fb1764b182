-- PRINTED BY print.sh 35421559b90ae4d0a3588c463048766b98c2df88dd9212a6774a882060cdf62d: not written by this session
import Derived.Test.YtncmkcdnlcmiaaaProg
import Derived.Below
import Derived.Deep.Draws
import Derived.Deep.AppendLies
import Derived.Maps.AppendAt
import Derived.OwnWalk
import Derived.Laws.BytesArg
import Derived.Laws.MakeOwn
import Derived.Laws.OwnMore
import Derived.Deep.OwnRows
import Derived.Tactics
import Derived.Lib.ConvBytes
import Derived.Laws.Slices
import Derived.WalkKit
import Derived.KernelRfl
import Derived.RowKit3
import Derived.Deep.LoopGhost
import Derived.Deep.QuietTactic
import Derived.BigQuiet
import Derived.WideLaws
import Derived.Deep.DeepCutAuto
import Derived.Deep.CutBlock
import Derived.Deep.RegionHeld3
import Derived.Laws.Rows
import Derived.Lib.AppendStr
import Derived.ArgAppend
import Derived.Laws.IdiomCopy
import Derived.OrdersHeld
import Derived.Laws.BitsLemmas
import Derived.RowKit
import Derived.Test.YtncmkcdnlcmiaaaWWords
import Derived.Test.YtncmkcdnlcmiaaaWLast
import Derived.Test.YtncmkcdnlcmiaaaWTab
import Derived.Test.YtncmkcdnlcmiaaaWFour
import Derived.Test.YtncmkcdnlcmiaaaWQPut
import Derived.Test.YtncmkcdnlcmiaaaWApart
import Derived.Test.YtncmkcdnlcmiaaaWArr
import Derived.Test.YtncmkcdnlcmiaaaWZeros
import Derived.Test.YtncmkcdnlcmiaaaWFoot
import Derived.Test.YtncmkcdnlcmiaaaWKept
import Derived.Test.YtncmkcdnlcmiaaaWShare
import Derived.Test.YtncmkcdnlcmiaaaWN
import Derived.Test.YtncmkcdnlcmiaaaWFootNe
import Derived.Test.YtncmkcdnlcmiaaaWAt
import Derived.Test.YtncmkcdnlcmiaaaWEqStruct
import Derived.Test.YtncmkcdnlcmiaaaWRepsOne
import Derived.Test.YtncmkcdnlcmiaaaWInv
import Derived.Test.YtncmkcdnlcmiaaaWInvWords
import Derived.Test.YtncmkcdnlcmiaaaWGuard
import Derived.Test.YtncmkcdnlcmiaaaWNEv
import Derived.Test.YtncmkcdnlcmiaaaWMore
namespace Go.Proofs.Ytncmkcdnlcmiaaa.PWheelPlays
open Go.RowKit Go.Proofs.YtncmkcdnlcmiaaaW.PrintWords Go.Proofs.YtncmkcdnlcmiaaaW.PrintLast Go.Proofs.YtncmkcdnlcmiaaaW.PrintMore
attribute [local go_sem] max2_int min2_int max_two min_two max_three min_three max_four min_four   -- for this text's walks alone
set_option linter.unusedVariables false
set_option linter.unusedSimpArgs false



def errW : Option Int → Value
  | none => .nilIface
  | some c => .iface 0 (.int .i64 c)
theorem errW_none : errW none = .nilIface := rfl
theorem errW_some (c : Int) : errW (some c) = .iface 0 (.int .i64 c) := rfl

theorem info3 : (Try.prog.info? 3).map (fun i => (i.zero, i.size, i.bytes)) = some (some (.int .i64 0), 1, 8) := by kernel_rfl
-- the values' own types

end Go.Proofs.Ytncmkcdnlcmiaaa.PWheelPlays
