/- A row that was seen, behind stores into blocks that were made later. -/
import Derived.Test.YtnlonmbfpkalhaaDoorMine
import Derived.Test.YtnlonmbfpkalhaaDoorWApart
set_option linter.unusedVariables false
namespace Go.Proofs.YtnlonmbfpkalhaaDoorW.PrintMore
open Go.RowKit Go.Proofs.YtnlonmbfpkalhaaDoorW.PrintWords Go.Proofs.YtnlonmbfpkalhaaDoorW.PrintLast
def AwayC (A : Option Addr) (n g : Nat) : Prop := ∀ x, A = some x → 0 < n → x.block ≠ g
theorem C_lt {α : Type} {d : Kd α} {w : World} {A : Option Addr} {n : Nat} {xs : List α} (h : Kd.C d w A n xs) (hs : 0 < d.sz) : AwayC A n w.heap.size := by
 intro x hx hn e
 obtain ⟨ad, h1, h2⟩ := h.2.2 hn
 rw [hx] at h1
 injection h1 with h1
 subst h1
 have hl := h.1
 obtain ⟨c, hc, _, h3⟩ := h2 0 (xs[0]'(by omega)) (List.getElem?_eq_getElem (by omega))
 have h4 := h3 0 (c[0]'(by omega)) (List.getElem?_eq_getElem (by omega))
 have := World.block_lt_of_cell? w _ h4
 rw [add_block] at this
 omega
theorem C_far {α : Type} {d : Kd α} (hK : ∀ w w' x cs, d.K w x cs → d.K w' x cs) {w : World} {A : Option Addr} {n g j : Nat} {xs : List α} (ha : AwayC A n g) (h : Kd.C d w A n xs) (v : Value) : Kd.C d (w.setCell ⟨g, j, none⟩ v) A n xs := by
 refine ⟨h.1, h.2.1, fun hn => ?_⟩
 obtain ⟨ad, h1, h2⟩ := h.2.2 hn
 refine ⟨ad, h1, fun k p hp => ?_⟩
 obtain ⟨c, hc, hk, h3⟩ := h2 k p hp
 refine ⟨c, hc, hK _ _ _ _ hk, fun i u hu => ?_⟩
 rw [World.cell?_setCell_other]
 ·exact h3 i u hu
 ·intro e
  exact ha ad h1 hn (by have := congrArg Addr.block e; rw [add_block] at this; exact this.symm)
theorem S_takeC {α : Type} {d : Kd α} {e base n c m : Nat} {ok : Nat → Prop} {w : World} {A : Option Addr} {xs : List α} (h : Kd.S d e w base ok (.slice A n c) xs) (hm : m ≤ xs.length) : Kd.C d w A (xs.take m).length (xs.take m) := Kd.C_take (Kd.S_reads' h).2.2 hm
theorem S_takeY {α : Type} {d : Kd α} {e base n c m : Nat} {ok : Nat → Prop} {w : World} {A : Option Addr} {xs ys : List α} (h : Kd.S d e w base ok (.slice A n c) xs) (hm : m ≤ xs.length) (hy : ys = xs.take m) : Kd.C d w A ys.length ys := by
 subst hy
 exact S_takeC h hm
end Go.Proofs.YtnlonmbfpkalhaaDoorW.PrintMore
