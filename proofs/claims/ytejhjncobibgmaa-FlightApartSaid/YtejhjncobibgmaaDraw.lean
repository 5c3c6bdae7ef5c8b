/- A read behind stores, in a world that has drawn: as in the one that has not. -/
import Derived.Test.YtejhjncobibgmaaMine
set_option linter.unusedVariables false
namespace Go.Proofs.YtejhjncobibgmaaW.PrintWords
open Go.RowKit
theorem dS (w : World) (n : Nat) (p : Addr) (v : Value) : (w.drewN n).setCell p v = (w.setCell p v).drewN n := rfl
theorem dC (w : World) (n : Nat) (a : Addr) : (w.drewN n).cell? a = w.cell? a := rfl
theorem dX0 {w : World} {a : Addr} {u : Value}  (n : Nat) (h : w.cell? a = some u) : (w.drewN n).cell? a = some u := by
  rw [dC]
  exact h
theorem dX1 {w : World} {a : Addr} {u : Value} {p0 : Addr} {v0 : Value} (n : Nat) (h : (w.setCell p0 v0).cell? a = some u) : ((w.drewN n).setCell p0 v0).cell? a = some u := by
  rw [dS, dC]
  exact h
theorem dX2 {w : World} {a : Addr} {u : Value} {p0 : Addr} {v0 : Value} {p1 : Addr} {v1 : Value} (n : Nat) (h : ((w.setCell p0 v0).setCell p1 v1).cell? a = some u) : (((w.drewN n).setCell p0 v0).setCell p1 v1).cell? a = some u := by
  rw [dS, dS, dC]
  exact h
theorem dX3 {w : World} {a : Addr} {u : Value} {p0 : Addr} {v0 : Value} {p1 : Addr} {v1 : Value} {p2 : Addr} {v2 : Value} (n : Nat) (h : (((w.setCell p0 v0).setCell p1 v1).setCell p2 v2).cell? a = some u) : ((((w.drewN n).setCell p0 v0).setCell p1 v1).setCell p2 v2).cell? a = some u := by
  rw [dS, dS, dS, dC]
  exact h
theorem dX4 {w : World} {a : Addr} {u : Value} {p0 : Addr} {v0 : Value} {p1 : Addr} {v1 : Value} {p2 : Addr} {v2 : Value} {p3 : Addr} {v3 : Value} (n : Nat) (h : ((((w.setCell p0 v0).setCell p1 v1).setCell p2 v2).setCell p3 v3).cell? a = some u) : (((((w.drewN n).setCell p0 v0).setCell p1 v1).setCell p2 v2).setCell p3 v3).cell? a = some u := by
  rw [dS, dS, dS, dS, dC]
  exact h
theorem dX5 {w : World} {a : Addr} {u : Value} {p0 : Addr} {v0 : Value} {p1 : Addr} {v1 : Value} {p2 : Addr} {v2 : Value} {p3 : Addr} {v3 : Value} {p4 : Addr} {v4 : Value} (n : Nat) (h : (((((w.setCell p0 v0).setCell p1 v1).setCell p2 v2).setCell p3 v3).setCell p4 v4).cell? a = some u) : ((((((w.drewN n).setCell p0 v0).setCell p1 v1).setCell p2 v2).setCell p3 v3).setCell p4 v4).cell? a = some u := by
  rw [dS, dS, dS, dS, dS, dC]
  exact h
theorem dX6 {w : World} {a : Addr} {u : Value} {p0 : Addr} {v0 : Value} {p1 : Addr} {v1 : Value} {p2 : Addr} {v2 : Value} {p3 : Addr} {v3 : Value} {p4 : Addr} {v4 : Value} {p5 : Addr} {v5 : Value} (n : Nat) (h : ((((((w.setCell p0 v0).setCell p1 v1).setCell p2 v2).setCell p3 v3).setCell p4 v4).setCell p5 v5).cell? a = some u) : (((((((w.drewN n).setCell p0 v0).setCell p1 v1).setCell p2 v2).setCell p3 v3).setCell p4 v4).setCell p5 v5).cell? a = some u := by
  rw [dS, dS, dS, dS, dS, dS, dC]
  exact h
theorem dX7 {w : World} {a : Addr} {u : Value} {p0 : Addr} {v0 : Value} {p1 : Addr} {v1 : Value} {p2 : Addr} {v2 : Value} {p3 : Addr} {v3 : Value} {p4 : Addr} {v4 : Value} {p5 : Addr} {v5 : Value} {p6 : Addr} {v6 : Value} (n : Nat) (h : (((((((w.setCell p0 v0).setCell p1 v1).setCell p2 v2).setCell p3 v3).setCell p4 v4).setCell p5 v5).setCell p6 v6).cell? a = some u) : ((((((((w.drewN n).setCell p0 v0).setCell p1 v1).setCell p2 v2).setCell p3 v3).setCell p4 v4).setCell p5 v5).setCell p6 v6).cell? a = some u := by
  rw [dS, dS, dS, dS, dS, dS, dS, dC]
  exact h
theorem dX8 {w : World} {a : Addr} {u : Value} {p0 : Addr} {v0 : Value} {p1 : Addr} {v1 : Value} {p2 : Addr} {v2 : Value} {p3 : Addr} {v3 : Value} {p4 : Addr} {v4 : Value} {p5 : Addr} {v5 : Value} {p6 : Addr} {v6 : Value} {p7 : Addr} {v7 : Value} (n : Nat) (h : ((((((((w.setCell p0 v0).setCell p1 v1).setCell p2 v2).setCell p3 v3).setCell p4 v4).setCell p5 v5).setCell p6 v6).setCell p7 v7).cell? a = some u) : (((((((((w.drewN n).setCell p0 v0).setCell p1 v1).setCell p2 v2).setCell p3 v3).setCell p4 v4).setCell p5 v5).setCell p6 v6).setCell p7 v7).cell? a = some u := by
  rw [dS, dS, dS, dS, dS, dS, dS, dS, dC]
  exact h
theorem dX9 {w : World} {a : Addr} {u : Value} {p0 : Addr} {v0 : Value} {p1 : Addr} {v1 : Value} {p2 : Addr} {v2 : Value} {p3 : Addr} {v3 : Value} {p4 : Addr} {v4 : Value} {p5 : Addr} {v5 : Value} {p6 : Addr} {v6 : Value} {p7 : Addr} {v7 : Value} {p8 : Addr} {v8 : Value} (n : Nat) (h : (((((((((w.setCell p0 v0).setCell p1 v1).setCell p2 v2).setCell p3 v3).setCell p4 v4).setCell p5 v5).setCell p6 v6).setCell p7 v7).setCell p8 v8).cell? a = some u) : ((((((((((w.drewN n).setCell p0 v0).setCell p1 v1).setCell p2 v2).setCell p3 v3).setCell p4 v4).setCell p5 v5).setCell p6 v6).setCell p7 v7).setCell p8 v8).cell? a = some u := by
  rw [dS, dS, dS, dS, dS, dS, dS, dS, dS, dC]
  exact h
theorem dX10 {w : World} {a : Addr} {u : Value} {p0 : Addr} {v0 : Value} {p1 : Addr} {v1 : Value} {p2 : Addr} {v2 : Value} {p3 : Addr} {v3 : Value} {p4 : Addr} {v4 : Value} {p5 : Addr} {v5 : Value} {p6 : Addr} {v6 : Value} {p7 : Addr} {v7 : Value} {p8 : Addr} {v8 : Value} {p9 : Addr} {v9 : Value} (n : Nat) (h : ((((((((((w.setCell p0 v0).setCell p1 v1).setCell p2 v2).setCell p3 v3).setCell p4 v4).setCell p5 v5).setCell p6 v6).setCell p7 v7).setCell p8 v8).setCell p9 v9).cell? a = some u) : (((((((((((w.drewN n).setCell p0 v0).setCell p1 v1).setCell p2 v2).setCell p3 v3).setCell p4 v4).setCell p5 v5).setCell p6 v6).setCell p7 v7).setCell p8 v8).setCell p9 v9).cell? a = some u := by
  rw [dS, dS, dS, dS, dS, dS, dS, dS, dS, dS, dC]
  exact h
theorem dX11 {w : World} {a : Addr} {u : Value} {p0 : Addr} {v0 : Value} {p1 : Addr} {v1 : Value} {p2 : Addr} {v2 : Value} {p3 : Addr} {v3 : Value} {p4 : Addr} {v4 : Value} {p5 : Addr} {v5 : Value} {p6 : Addr} {v6 : Value} {p7 : Addr} {v7 : Value} {p8 : Addr} {v8 : Value} {p9 : Addr} {v9 : Value} {p10 : Addr} {v10 : Value} (n : Nat) (h : (((((((((((w.setCell p0 v0).setCell p1 v1).setCell p2 v2).setCell p3 v3).setCell p4 v4).setCell p5 v5).setCell p6 v6).setCell p7 v7).setCell p8 v8).setCell p9 v9).setCell p10 v10).cell? a = some u) : ((((((((((((w.drewN n).setCell p0 v0).setCell p1 v1).setCell p2 v2).setCell p3 v3).setCell p4 v4).setCell p5 v5).setCell p6 v6).setCell p7 v7).setCell p8 v8).setCell p9 v9).setCell p10 v10).cell? a = some u := by
  rw [dS, dS, dS, dS, dS, dS, dS, dS, dS, dS, dS, dC]
  exact h
theorem dX12 {w : World} {a : Addr} {u : Value} {p0 : Addr} {v0 : Value} {p1 : Addr} {v1 : Value} {p2 : Addr} {v2 : Value} {p3 : Addr} {v3 : Value} {p4 : Addr} {v4 : Value} {p5 : Addr} {v5 : Value} {p6 : Addr} {v6 : Value} {p7 : Addr} {v7 : Value} {p8 : Addr} {v8 : Value} {p9 : Addr} {v9 : Value} {p10 : Addr} {v10 : Value} {p11 : Addr} {v11 : Value} (n : Nat) (h : ((((((((((((w.setCell p0 v0).setCell p1 v1).setCell p2 v2).setCell p3 v3).setCell p4 v4).setCell p5 v5).setCell p6 v6).setCell p7 v7).setCell p8 v8).setCell p9 v9).setCell p10 v10).setCell p11 v11).cell? a = some u) : (((((((((((((w.drewN n).setCell p0 v0).setCell p1 v1).setCell p2 v2).setCell p3 v3).setCell p4 v4).setCell p5 v5).setCell p6 v6).setCell p7 v7).setCell p8 v8).setCell p9 v9).setCell p10 v10).setCell p11 v11).cell? a = some u := by
  rw [dS, dS, dS, dS, dS, dS, dS, dS, dS, dS, dS, dS, dC]
  exact h
end Go.Proofs.YtejhjncobibgmaaW.PrintWords
