/- A read behind stores, in a world that has drawn: as in the one that has not. -/
import Derived.Test.YtejhjncobibgmaaMine
set_option linter.unusedVariables false
namespace Go.Proofs.YtejhjncobibgmaaW.PrintWords
open Go.RowKit
theorem dS (w : World) (n : Nat) (p : Addr) (v : Value) : (w.drewN n).setCell p v = (w.setCell p v).drewN n := rfl
theorem dC (w : World) (n : Nat) (a : Addr) : (w.drewN n).cell? a = w.cell? a := rfl
theorem dX1 {w : World} {a : Addr} {u : Value} {p0 : Addr} {v0 : Value} (n : Nat) (h : (w.setCell p0 v0).cell? a = some u) : ((w.drewN n).setCell p0 v0).cell? a = some u := by
  rw [dS, dC]
  exact h
end Go.Proofs.YtejhjncobibgmaaW.PrintWords
