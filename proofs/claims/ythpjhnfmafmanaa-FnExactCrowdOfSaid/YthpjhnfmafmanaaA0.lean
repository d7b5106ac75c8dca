/- The machine side, laid by a program of this work over the kit's print: Go functions as Lean functions, and proofs that calls come to what these tell. Conditions: those in each theorem. -/
import Derived.Test.YthpjhnfmafmanaaProg
import Derived.Below
import Derived.Deep.Draws
import Derived.Deep.AppendLies
import Derived.Maps.AppendAt
import Derived.OwnWalk
import Derived.Laws.BytesArg
import Derived.Laws.MakeOwn
import Derived.Laws.OwnMore
import Derived.Deep.OwnRows
import Derived.Tactics
import Derived.Lib.ConvBytes
import Derived.Laws.Slices
import Derived.WalkKit
import Derived.KernelRfl
import Derived.RowKit3
import Derived.Deep.LoopGhost
import Derived.Deep.QuietTactic
import Derived.BigQuiet
import Derived.WideLaws
import Derived.Deep.DeepCutAuto
import Derived.Deep.CutBlock
import Derived.Deep.RegionHeld3
import Derived.Laws.Rows
import Derived.Lib.AppendStr
import Derived.ArgAppend
import Derived.Laws.IdiomCopy
import Derived.OrdersHeld
import Derived.Laws.BitsLemmas
import Derived.RowKit
import Derived.Test.YthpjhnfmafmanaaWWords
import Derived.Test.YthpjhnfmafmanaaWLast
import Derived.Test.YthpjhnfmafmanaaWTab
import Derived.Test.YthpjhnfmafmanaaWFour
import Derived.Test.YthpjhnfmafmanaaWQPut
import Derived.Test.YthpjhnfmafmanaaWApart
import Derived.Test.YthpjhnfmafmanaaWArr
import Derived.Test.YthpjhnfmafmanaaWZeros
import Derived.Test.YthpjhnfmafmanaaWFoot
import Derived.Test.YthpjhnfmafmanaaWKept
import Derived.Test.YthpjhnfmafmanaaWShare
import Derived.Test.YthpjhnfmafmanaaWN
import Derived.Test.YthpjhnfmafmanaaWFootNe
import Derived.Test.YthpjhnfmafmanaaWAt
import Derived.Test.YthpjhnfmafmanaaWEqStruct
import Derived.Test.YthpjhnfmafmanaaWRepsOne
import Derived.Test.YthpjhnfmafmanaaWInv
import Derived.Test.YthpjhnfmafmanaaWInvWords
import Derived.Test.YthpjhnfmafmanaaWGuard
import Derived.Test.YthpjhnfmafmanaaWNEv
import Derived.Test.YthpjhnfmafmanaaWMore
namespace Go.Proofs.Ythpjhnfmafmanaa.A
open Go.RowKit Go.Proofs.YthpjhnfmafmanaaW.PrintWords Go.Proofs.YthpjhnfmafmanaaW.PrintLast Go.Proofs.YthpjhnfmafmanaaW.PrintMore
attribute [local go_sem] max2_int min2_int max_two min_two max_three min_three max_four min_four   -- for this text's walks alone
set_option linter.unusedVariables false
set_option linter.unusedSimpArgs false



def errW : Option Int → Value
  | none => .nilIface
  | some c => .iface 0 (.int .i64 c)
theorem errW_none : errW none = .nilIface := rfl
theorem errW_some (c : Int) : errW (some c) = .iface 0 (.int .i64 c) := rfl

theorem info3 : (Try.prog.info? 3).map (fun i => (i.zero, i.size, i.bytes)) = some (some (.int .i64 0), 1, 8) := by kernel_rfl
-- the values' own types

end Go.Proofs.Ythpjhnfmafmanaa.A
