/- Small words for the contracts of Go's library functions. -/
import Derived.Test.YtfabnklcdagfjaaWWords
import Derived.Test.YtfabnklcdagfjaaWLast
import Derived.Test.YtfabnklcdagfjaaWMore
import Derived.Lib.SliceRun
set_option linter.unusedVariables false
set_option linter.unusedSimpArgs false
namespace Go.Proofs.YtfabnklcdagfjaaW.PrintWords
open Go.RowKit
section
variable {α : Type}
/-- An empty slice that was just made. -/
theorem Kd.R_empty (d : Kd α) (e : Nat) (w : World) : d.R e (w.alloc (.cells #[] e)) w.heap.size (fun _ => True) (.slice (some ⟨w.heap.size, 0, none⟩) 0 0) [] := by
  refine ⟨fun k _ => trivial, [], ?_, Reps.none _ _⟩
  have h2 := World.ownsRow_lit (base := w.heap.size) (e := e) (size := d.sz) w #[] 0 (Nat.le_refl _) (by decide) (by simp)
  simpa using h2
end
end Go.Proofs.YtfabnklcdagfjaaW.PrintWords
