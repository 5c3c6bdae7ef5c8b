-- Written by a program of this claim's own (hookprint.py), after the pattern of the kit's print. Lean checks it.
import Derived.Test.YtkndnbliohkhhaaProg
import Derived.Below
import Derived.Deep.Draws
import Derived.Deep.AppendLies
import Derived.Maps.AppendAt
import Derived.OwnWalk
import Derived.Laws.BytesArg
import Derived.Laws.MakeOwn
import Derived.Laws.OwnMore
import Derived.Deep.OwnRows
import Derived.Tactics
import Derived.Lib.ConvBytes
import Derived.Laws.Slices
import Derived.WalkKit
import Derived.KernelRfl
import Derived.RowKit3
import Derived.Deep.LoopGhost
import Derived.Deep.QuietTactic
import Derived.BigQuiet
import Derived.WideLaws
import Derived.Deep.DeepCutAuto
import Derived.Deep.CutBlock
import Derived.Deep.RegionHeld3
import Derived.Laws.Rows
import Derived.Lib.AppendStr
import Derived.ArgAppend
import Derived.Laws.IdiomCopy
import Derived.OrdersHeld
import Derived.Laws.BitsLemmas
import Derived.RowKit
import Derived.Test.YtkndnbliohkhhaaMine
import Derived.Test.YtkndnbliohkhhaaCells
import Derived.Laws.IdiomStrings
import Derived.Test.YtkndnbliohkhhaaWWords
import Derived.Test.YtkndnbliohkhhaaWLast
import Derived.Test.YtkndnbliohkhhaaWTab
import Derived.Test.YtkndnbliohkhhaaWQPut
import Derived.Test.YtkndnbliohkhhaaWApart
import Derived.Test.YtkndnbliohkhhaaWArr
import Derived.Test.YtkndnbliohkhhaaWZeros
import Derived.Test.YtkndnbliohkhhaaWFoot
import Derived.Test.YtkndnbliohkhhaaWKept
import Derived.Test.YtkndnbliohkhhaaWShare
import Derived.Test.YtkndnbliohkhhaaWN
import Derived.Test.YtkndnbliohkhhaaWEqStruct
import Derived.Test.YtkndnbliohkhhaaWRepsOne
import Derived.Test.YtkndnbliohkhhaaWGuard
import Derived.Test.YtkndnbliohkhhaaWNEv
import Derived.Test.YtkndnbliohkhhaaWMore
namespace Go.Proofs.Ytkndnbliohkhhaa.PA
open Go.RowKit Go.Proofs.YtkndnbliohkhhaaW.PrintWords Go.Proofs.YtkndnbliohkhhaaW.PrintLast Go.Proofs.YtkndnbliohkhhaaW.PrintMore
attribute [local go_sem ↓] some_setCell
attribute [local go_sem] max2_int min2_int max_two min_two max_three min_three max_four min_four   -- for this text's walks alone
set_option linter.unusedVariables false
set_option linter.unusedSimpArgs false



def errW : Option Int → Value
  | none => .nilIface
  | some c => .iface 0 (.int .i64 c)
theorem errW_none : errW none = .nilIface := rfl
theorem errW_some (c : Int) : errW (some c) = .iface 0 (.int .i64 c) := rfl

end Go.Proofs.Ytkndnbliohkhhaa.PA
