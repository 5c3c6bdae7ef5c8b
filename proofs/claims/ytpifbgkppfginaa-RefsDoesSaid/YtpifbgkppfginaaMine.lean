/- Small words for the contracts of Go's library functions. -/
import Derived.Test.YtpifbgkppfginaaWWords
import Derived.Test.YtpifbgkppfginaaWLast
import Derived.Test.YtpifbgkppfginaaWMore
import Derived.Lib.SliceRun
set_option linter.unusedVariables false
set_option linter.unusedSimpArgs false
namespace Go.Proofs.YtpifbgkppfginaaW.PrintWords
open Go.RowKit
section
variable {α : Type}
theorem Kd.R_empty (d : Kd α) (e : Nat) (w : World) : d.R e (w.alloc (.cells #[] e)) w.heap.size (fun _ => True) (.slice (some ⟨w.heap.size, 0, none⟩) 0 0) [] := by
 refine ⟨fun k _ => trivial, [], ?_, Reps.none _ _⟩
 have h2 := World.ownsRow_lit (base := w.heap.size) (e := e) (size := d.sz) w #[] 0 (Nat.le_refl _) (by decide) (by simp)
 simpa using h2
end
def marksOf (n m : Nat) : Array Bool := ((List.range n).map fun i => m.testBit i).toArray
theorem q1 {α : Type} (l : List α) (i : Nat) (a : α) : l.toArray.setIfInBounds i a = (l.set i a).toArray := List.setIfInBounds_toArray ..
theorem q2 {α : Type} (x : α) (l : List α) (a : α) : (x :: l).set 0 a = a :: l := rfl
theorem q3 {α : Type} (x : α) (l : List α) (n : Nat) (a : α) : (x :: l).set (n + 1) a = x :: l.set n a := rfl
theorem bA {w : World} {g : Nat} {o : Obj} (h : w.heap[g]? = some o) (o' : Obj) : (w.alloc o').heap[g]? = some o := blk_alloc h o'
theorem bD {w : World} {g : Nat} {o : Obj} (h : w.heap[g]? = some o) : w.drew.heap[g]? = some o := h
theorem bN {w : World} {g : Nat} {o : Obj} (h : w.heap[g]? = some o) (n : Nat) : (w.drewN n).heap[g]? = some o := h
theorem uA {w W : World} (h : Below w.heap.size w W) (o : Obj) : Below w.heap.size w (W.alloc o) := below_alloc h o
theorem uN {B : Nat} {w W : World} (h : Below B w W) (n : Nat) : Below B w (W.drewN n) := pw_below_drewN h n
theorem uD {B : Nat} {w W : World} (h : Below B w W) : Below B w W.drew := below_drew1 h
theorem uS {w W : World} {g j : Nat} {v : Value} (h : Below w.heap.size w W) (hg : w.heap.size ≤ g) : Below w.heap.size w (W.setCell ⟨g, j, none⟩ v) := below_set h hg
section
open Go.Proofs.YtpifbgkppfginaaW.PrintLast
variable {P : Program} {ops : Array Oper} {Q : Exit → Act → World → Prop} {md : Region.Mode} {S : World → Prop} {ds : List Nat}
theorem pu_ (i N n m : Nat) {oi : Oper} (v : Value) {fuel : Nat} {l : Array Bool} {a : Act} {w : World} (hi : ops[i]? = some oi) (hN : oi.dst = some N) (hc : anyB md ops l (marksOf n m) i = true)
 (hQ : ∀ c a w, Q (.panic c) (a.put oi.dst v) w → Q (.panic c) a w) (hw : Region.wanted oi (yielded ops a.tmps) = true) (hv : ∀ w, (execOp a.eval oi).run P w = .ok (.value v) w) (a' : Act) (ha : a.put (some N) v = a')
 (h : wpAnyLast P md ops Q S ds fuel (marksOf n m) a' w) : wpAnyLast P md ops Q S ds (fuel + 1) l a w := pure_ (marksOf n m) hi hN hc hQ (Or.inl ⟨hw, hv⟩) ha h
theorem ta_ (i N n m : Nat) {oi : Oper} (v : Value) {fuel : Nat} {l : Array Bool} {a : Act} {w : World} (hi : ops[i]? = some oi) (hN : oi.dst = some N) (hc : takeB md ops ds l (marksOf n m) i = true)
 (hQ : ∀ c a w, Q (.panic c) (a.put oi.dst v) w → Q (.panic c) a w) (hw : Region.wanted oi (yielded ops a.tmps) = true) (hv : ∀ w, S w → (execOp a.eval oi).run P w = .ok (.value v) w) (hS : S w) (a' : Act) (ha : a.put (some N) v = a')
 (h : wpAnyLast P md ops Q S ds fuel (marksOf n m) a' w) : wpAnyLast P md ops Q S ds (fuel + 1) l a w := take_ (marksOf n m) hi hN hc hQ (Or.inl ⟨hw, hv⟩) hS ha h
end
theorem some_setCell (w : World) (p q : Addr) (v : Value) : ((w.setCell p v).cell? q).isSome = (w.cell? q).isSome := by
 by_cases e : p = q
 ·subst e
  simp only [World.setCell, World.cell?, Array.getElem?_modify, if_true]
  cases w.heap[p.block]? with
  | none => rfl
  | some o =>
   cases o with
   | cells c t f =>
    simp only [Option.map_some]
    cases hs : p.spot.isSome with
    | true => simp
    | false =>
     simp only [Bool.false_eq_true, if_false]
     by_cases h : p.off < c.size
     ·rw [Array.getElem?_eq_getElem (by simpa using h), Array.getElem?_eq_getElem h]
      rfl
     ·rw [Array.getElem?_eq_none (by simp; omega), Array.getElem?_eq_none (by omega)]
   | _ => rfl
 ·rw [World.cell?_setCell_other w p q v e]
section
open Go.Proofs.YtpifbgkppfginaaW.PrintLast
variable {P : Program} {ops : Array Oper} {Q : Exit → Act → World → Prop} {md : Region.Mode} {S : World → Prop} {ds : List Nat}
end
end Go.Proofs.YtpifbgkppfginaaW.PrintWords
