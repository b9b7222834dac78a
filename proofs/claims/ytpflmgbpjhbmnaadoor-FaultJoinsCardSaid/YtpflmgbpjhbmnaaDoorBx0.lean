-- WRITTEN BY A PROGRAM: pp.sh, over print.py
import Derived.Test.YtpflmgbpjhbmnaaDoorStr
import Derived.Test.YtpflmgbpjhbmnaaDoorProg
import Derived.Below
import Derived.Deep.Draws
import Derived.Deep.AppendLies
import Derived.Maps.AppendAt
import Derived.OwnWalk
import Derived.Laws.BytesArg
import Derived.Laws.MakeOwn
import Derived.Laws.OwnMore
import Derived.Deep.OwnRows
import Derived.Tactics
import Derived.Lib.ConvBytes
import Derived.Laws.Slices
import Derived.WalkKit
import Derived.KernelRfl
import Derived.RowKit3
import Derived.Deep.LoopGhost
import Derived.Deep.QuietTactic
import Derived.BigQuiet
import Derived.WideLaws
import Derived.Deep.DeepCutAuto
import Derived.Deep.CutBlock
import Derived.Deep.RegionHeld3
import Derived.Laws.Rows
import Derived.Lib.AppendStr
import Derived.ArgAppend
import Derived.Laws.IdiomCopy
import Derived.OrdersHeld
import Derived.Laws.BitsLemmas
import Derived.RowKit
import Derived.Test.YtpflmgbpjhbmnaaDoorWWords
import Derived.Test.YtpflmgbpjhbmnaaDoorWLast
import Derived.Test.YtpflmgbpjhbmnaaDoorWTab
import Derived.Test.YtpflmgbpjhbmnaaDoorWFour
import Derived.Test.YtpflmgbpjhbmnaaDoorWQPut
import Derived.Test.YtpflmgbpjhbmnaaDoorWApart
import Derived.Test.YtpflmgbpjhbmnaaDoorWArr
import Derived.Test.YtpflmgbpjhbmnaaDoorWZeros
import Derived.Test.YtpflmgbpjhbmnaaDoorWFoot
import Derived.Test.YtpflmgbpjhbmnaaDoorWKept
import Derived.Test.YtpflmgbpjhbmnaaDoorWShare
import Derived.Test.YtpflmgbpjhbmnaaDoorWN
import Derived.Test.YtpflmgbpjhbmnaaDoorWFootNe
import Derived.Test.YtpflmgbpjhbmnaaDoorWAt
import Derived.Test.YtpflmgbpjhbmnaaDoorWEqStruct
import Derived.Test.YtpflmgbpjhbmnaaDoorWRepsOne
import Derived.Test.YtpflmgbpjhbmnaaDoorWInv
import Derived.Test.YtpflmgbpjhbmnaaDoorWInvWords
import Derived.Test.YtpflmgbpjhbmnaaDoorWGuard
import Derived.Test.YtpflmgbpjhbmnaaDoorWNEv
import Derived.Test.YtpflmgbpjhbmnaaDoorWMore
namespace Go.Proofs.YtpflmgbpjhbmnaaDoor.B
open Go.RowKit Go.Proofs.YtpflmgbpjhbmnaaDoorW.PrintWords Go.Proofs.YtpflmgbpjhbmnaaDoorW.PrintLast Go.Proofs.YtpflmgbpjhbmnaaDoorW.PrintMore
attribute [local go_sem] Go.Proofs.YtpflmgbpjhbmnaaDoor.str_gtr max2_int min2_int max_two min_two max_three min_three max_four min_four   -- for this text's walks alone
set_option linter.unusedVariables false
set_option linter.unusedSimpArgs false



def errW : Option Int → Value
  | none => .nilIface
  | some c => .iface 0 (.int .i64 c)
theorem errW_none : errW none = .nilIface := rfl
theorem errW_some (c : Int) : errW (some c) = .iface 0 (.int .i64 c) := rfl

theorem info3 : (Tryd.prog.info? 3).map (fun i => (i.zero, i.size, i.bytes)) = some (some (.int .i64 0), 1, 8) := by kernel_rfl
-- the values' own types

end Go.Proofs.YtpflmgbpjhbmnaaDoor.B
