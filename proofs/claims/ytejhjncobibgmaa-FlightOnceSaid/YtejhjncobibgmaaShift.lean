/- 'copy(l[i+1:], l[i:])' on a row of the call's own: its elements from i on, one place up (the last one falls off). -/
import Derived.Test.YtejhjncobibgmaaRow
set_option linter.unusedVariables false
set_option linter.unusedSimpArgs false
namespace Go.Proofs.YtejhjncobibgmaaW.PrintWords
open Go.RowKit
/-- The elements from i on, one place up; the place i keeps what it held; the last one falls off. -/
def shiftUp {α : Type} (l : List α) (i : Nat) : List α := l.take (i + 1) ++ (l.drop i).take (l.length - (i + 1))
section
variable {P : Program} {W : World} {α : Type} {d : Kd α} {enc : α → List Value}
end
end Go.Proofs.YtejhjncobibgmaaW.PrintWords
