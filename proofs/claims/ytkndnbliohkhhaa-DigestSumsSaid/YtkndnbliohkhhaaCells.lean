/- Words for shorter texts: the cells of a block at once, its stores at once. -/
import Derived.Test.YtkndnbliohkhhaaMine
import Derived.Tactics
import Derived.KernelRfl
import Derived.WalkKit
import Derived.Deep.QuietTactic
set_option linter.unusedVariables false
namespace Go.Proofs.YtkndnbliohkhhaaW.PrintWords
open Go.RowKit
theorem m1 {α β : Type _} (f : α → β) (l : List α) : Array.map f l.toArray = (l.map f).toArray := List.map_toArray ..
theorem m2 {α β : Type _} (f : α → β) (a : α) (l : List α) : List.map f (a :: l) = f a :: List.map f l := List.map_cons
theorem m3 {α β : Type _} (f : α → β) : List.map f [] = [] := List.map_nil
theorem m4 {α : Type _} (i : Nat) (l : List α) : (l.drop i).length = l.length - i := List.length_drop ..
theorem m5 {α : Type _} (i : Nat) (l : List α) : (l.take i).length = min i l.length := List.length_take ..
theorem uS2 {w W : World} {g j : Nat} {v : Value} (h : Below w.heap.size w W) (hp : Aside0 (w.heap.size ≤ g)) : Below w.heap.size w (W.setCell ⟨g, j, none⟩ v) := uS h hp.out
theorem nft : ¬ (false = true) := by decide
theorem As {p : Prop} (h : p) : Aside0 p := ⟨h⟩
section
variable {w : World} {g : Nat} {t : TypeId}
end
theorem hBq {w W : World} (h : Below w.heap.size w W := by repeat (first | (with_reducible first | exact HB.out | apply uA | apply uN | apply uD | refine uS2 ?_ ‹_›) | exact HB.out)) : Below w.heap.size w W := h
theorem sBq {w W W' : World} (hb : Below W.heap.size W W') (h : Below w.heap.size w W := by repeat (first | (with_reducible first | exact HB.out | apply uA | apply uN | apply uD | refine uS2 ?_ ‹_›) | exact HB.out)) : Aside0 (Below w.heap.size w W') := ⟨below_step h hb⟩
theorem erq {p : Prop} (h : p := by first | rfl | (simp [errW_none, errW_some] <;> rfl) | (simp [*] <;> rfl)) : p := h
section
open Go.Proofs.YtkndnbliohkhhaaW.PrintLast
variable {P : Program} {ops : Array Oper} {Q : Exit → Act → World → Prop} {md : Region.Mode} {S : World → Prop} {ds : List Nat}
end
end Go.Proofs.YtkndnbliohkhhaaW.PrintWords
