-- Written for this claim by a program of this session, out of the translation; not trusted: Lean checks it.
import Derived.Test.YthnnikhkmpafjaaProg
import Derived.Below
import Derived.Deep.Draws
import Derived.Deep.AppendLies
import Derived.Maps.AppendAt
import Derived.OwnWalk
import Derived.Laws.BytesArg
import Derived.Laws.MakeOwn
import Derived.Laws.OwnMore
import Derived.Deep.OwnRows
import Derived.Tactics
import Derived.Lib.ConvBytes
import Derived.Laws.Slices
import Derived.WalkKit
import Derived.KernelRfl
import Derived.RowKit3
import Derived.Deep.LoopGhost
import Derived.Deep.QuietTactic
import Derived.BigQuiet
import Derived.WideLaws
import Derived.Deep.DeepCutAuto
import Derived.Deep.CutBlock
import Derived.Deep.RegionHeld3
import Derived.Laws.Rows
import Derived.Lib.AppendStr
import Derived.ArgAppend
import Derived.Laws.IdiomCopy
import Derived.OrdersHeld
import Derived.Laws.BitsLemmas
import Derived.RowKit
import Derived.Test.YthnnikhkmpafjaaCrcH
import Derived.Test.YthnnikhkmpafjaaWWords
import Derived.Test.YthnnikhkmpafjaaWLast
import Derived.Test.YthnnikhkmpafjaaWTab
import Derived.Test.YthnnikhkmpafjaaWFour
import Derived.Test.YthnnikhkmpafjaaWQPut
import Derived.Test.YthnnikhkmpafjaaWApart
import Derived.Test.YthnnikhkmpafjaaWArr
import Derived.Test.YthnnikhkmpafjaaWZeros
import Derived.Test.YthnnikhkmpafjaaWFoot
import Derived.Test.YthnnikhkmpafjaaWKept
import Derived.Test.YthnnikhkmpafjaaWShare
import Derived.Test.YthnnikhkmpafjaaWN
import Derived.Test.YthnnikhkmpafjaaWFootNe
import Derived.Test.YthnnikhkmpafjaaWAt
import Derived.Test.YthnnikhkmpafjaaWEqStruct
import Derived.Test.YthnnikhkmpafjaaWRepsOne
import Derived.Test.YthnnikhkmpafjaaWInv
import Derived.Test.YthnnikhkmpafjaaWInvWords
import Derived.Test.YthnnikhkmpafjaaWGuard
import Derived.Test.YthnnikhkmpafjaaWNEv
import Derived.Test.YthnnikhkmpafjaaWMore
namespace Go.Proofs.Ythnnikhkmpafjaa.PCut
open Go.RowKit Go.Proofs.YthnnikhkmpafjaaW.PrintWords Go.Proofs.YthnnikhkmpafjaaW.PrintLast Go.Proofs.YthnnikhkmpafjaaW.PrintMore
attribute [local go_sem] max2_int min2_int max_two min_two max_three min_three max_four min_four   -- for this text's walks alone
set_option linter.unusedVariables false
set_option linter.unusedSimpArgs false



def errW : Option Int → Value
  | none => .nilIface
  | some c => .iface 0 (.int .i64 c)
theorem errW_none : errW none = .nilIface := rfl
theorem errW_some (c : Int) : errW (some c) = .iface 0 (.int .i64 c) := rfl

theorem info5 : (Try.prog.info? 5).map (fun i => (i.zero, i.size, i.bytes)) = some (some (.int .u8 0), 1, 1) := by kernel_rfl
-- the values' own types

end Go.Proofs.Ythnnikhkmpafjaa.PCut
