/- Small words for the contracts of Go's library functions. -/
import Derived.Test.YtpifbgkppfginaaWWords
import Derived.Test.YtpifbgkppfginaaWLast
import Derived.Test.YtpifbgkppfginaaWMore
import Derived.Lib.SliceRun
set_option linter.unusedVariables false
set_option linter.unusedSimpArgs false
namespace Go.Proofs.YtpifbgkppfginaaW.PrintWords
open Go.RowKit
section
variable {α : Type}
/-- An empty slice that was just made. -/
theorem Kd.R_empty (d : Kd α) (e : Nat) (w : World) : d.R e (w.alloc (.cells #[] e)) w.heap.size (fun _ => True) (.slice (some ⟨w.heap.size, 0, none⟩) 0 0) [] := by
  refine ⟨fun k _ => trivial, [], ?_, Reps.none _ _⟩
  have h2 := World.ownsRow_lit (base := w.heap.size) (e := e) (size := d.sz) w #[] 0 (Nat.le_refl _) (by decide) (by simp)
  simpa using h2
end
/-- A row of n marks, told as a number. -/
def marksOf (n m : Nat) : Array Bool := ((List.range n).map fun i => m.testBit i).toArray
/-- To write a cell makes no cell and ends none: ahead of the walk's own rules (a cell written twice asks for it, and simp does not look so deep). -/
theorem some_setCell (w : World) (p q : Addr) (v : Value) : ((w.setCell p v).cell? q).isSome = (w.cell? q).isSome := by
  by_cases e : p = q
  · subst e
    simp only [World.setCell, World.cell?, Array.getElem?_modify, if_true]
    cases w.heap[p.block]? with
    | none => rfl
    | some o =>
      cases o with
      | cells c t f =>
        simp only [Option.map_some]
        cases hs : p.spot.isSome with
        | true => simp
        | false =>
          simp only [Bool.false_eq_true, if_false]
          by_cases h : p.off < c.size
          · rw [Array.getElem?_eq_getElem (by simpa using h), Array.getElem?_eq_getElem h]
            rfl
          · rw [Array.getElem?_eq_none (by simp; omega), Array.getElem?_eq_none (by omega)]
      | _ => rfl
  · rw [World.cell?_setCell_other w p q v e]
end Go.Proofs.YtpifbgkppfginaaW.PrintWords
