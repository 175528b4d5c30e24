-- PRINTED BY print.sh 35421559b90ae4d0a3588c463048766b98c2df88dd9212a6774a882060cdf62d: not written by this session
import Derived.Test.YtioemcfadniokaaProg
import Derived.Below
import Derived.Deep.Draws
import Derived.Deep.AppendLies
import Derived.Maps.AppendAt
import Derived.OwnWalk
import Derived.Laws.BytesArg
import Derived.Laws.MakeOwn
import Derived.Laws.OwnMore
import Derived.Deep.OwnRows
import Derived.Tactics
import Derived.Lib.ConvBytes
import Derived.Laws.Slices
import Derived.WalkKit
import Derived.KernelRfl
import Derived.RowKit3
import Derived.Deep.LoopGhost
import Derived.Deep.QuietTactic
import Derived.BigQuiet
import Derived.WideLaws
import Derived.Deep.DeepCutAuto
import Derived.Deep.CutBlock
import Derived.Deep.RegionHeld3
import Derived.Laws.Rows
import Derived.Lib.AppendStr
import Derived.ArgAppend
import Derived.Laws.IdiomCopy
import Derived.OrdersHeld
import Derived.Laws.BitsLemmas
import Derived.RowKit
import Derived.Test.YtioemcfadniokaaWWords
import Derived.Test.YtioemcfadniokaaWLast
import Derived.Test.YtioemcfadniokaaWTab
import Derived.Test.YtioemcfadniokaaWFour
import Derived.Test.YtioemcfadniokaaWQPut
import Derived.Test.YtioemcfadniokaaWApart
import Derived.Test.YtioemcfadniokaaWArr
import Derived.Test.YtioemcfadniokaaWZeros
import Derived.Test.YtioemcfadniokaaWFoot
import Derived.Test.YtioemcfadniokaaWKept
import Derived.Test.YtioemcfadniokaaWShare
import Derived.Test.YtioemcfadniokaaWN
import Derived.Test.YtioemcfadniokaaWFootNe
import Derived.Test.YtioemcfadniokaaWAt
import Derived.Test.YtioemcfadniokaaWEqStruct
import Derived.Test.YtioemcfadniokaaWRepsOne
import Derived.Test.YtioemcfadniokaaWInv
import Derived.Test.YtioemcfadniokaaWInvWords
import Derived.Test.YtioemcfadniokaaWGuard
import Derived.Test.YtioemcfadniokaaWNEv
import Derived.Test.YtioemcfadniokaaWMore
namespace Go.Proofs.Ytioemcfadniokaa.PNames
open Go.RowKit Go.Proofs.YtioemcfadniokaaW.PrintWords Go.Proofs.YtioemcfadniokaaW.PrintLast Go.Proofs.YtioemcfadniokaaW.PrintMore
attribute [local go_sem] max2_int min2_int max_two min_two max_three min_three max_four min_four   -- for this text's walks alone
set_option linter.unusedVariables false
set_option linter.unusedSimpArgs false



def errW : Option Int → Value
  | none => .nilIface
  | some c => .iface 0 (.int .i64 c)
theorem errW_none : errW none = .nilIface := rfl
theorem errW_some (c : Int) : errW (some c) = .iface 0 (.int .i64 c) := rfl

theorem info3 : (Try.prog.info? 3).map (fun i => (i.zero, i.size, i.bytes)) = some (some (.int .i64 0), 1, 8) := by kernel_rfl
theorem info22 : (Try.prog.info? 22).map (fun i => (i.zero, i.size, i.bytes)) = some (some (.int .i64 0), 1, 8) := by kernel_rfl
-- the values' own types

end Go.Proofs.Ytioemcfadniokaa.PNames
