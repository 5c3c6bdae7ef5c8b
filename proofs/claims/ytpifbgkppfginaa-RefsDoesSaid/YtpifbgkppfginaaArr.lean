/- Arrays of few cells: told as structs; such an array cut whole is a row that is read. -/
import Derived.Test.YtpifbgkppfginaaMine
set_option linter.unusedVariables false
set_option linter.unusedSimpArgs false
namespace Go.Proofs.YtpifbgkppfginaaW.PrintWords
open Go.RowKit
theorem cut_arr {P : Program} (t e : TypeId) (n : Nat) {i : TypeInfo} (ht : P.underlying t = some (.array n e)) (hi : P.info? e = some i) (g : Nat) (hn : n ≠ 0) :
 ∀ W : World, (Instr.sliceAt t (.pointer (some ⟨g, 0, none⟩)) none none none).run P W = .ok (.slice (some ⟨g, 0, none⟩) n n) W := by
 intro W
 have hel : P.elem t = e := by simp [Program.elem, ht]
 have hal : P.arrayLen t = n := by simp [Program.arrayLen, ht]
 have hu : P.underlying t = some (.array (P.arrayLen t) (P.elem t)) := by rw [hel, hal]; exact ht
 rw [run_sliceAt_array_all W t _ hu, hel, hal]
 simp [sizeOf, typeInfo, hi, slicedAt, sliced, Result.andThen, Addr.add, hn]
theorem Kd.C_cells {α : Type} (enc : α → Value) (h1 : ∀ x, (enc x).oneCell' = true) {W : World} {g t : Nat} (xs : List α) (h : W.heap[g]? = some (.cells (xs.map enc).toArray t (0, 0))) (hn : xs.length ≤ 9223372036854775807) :
 Kd.C (Kd.scalar enc h1) W (some ⟨g, 0, none⟩) xs.length xs := by
 refine ⟨rfl, hn, fun _ => ⟨⟨g, 0, none⟩, rfl, fun j p hj => ⟨[enc p], rfl, rfl, fun i u hu => ?_⟩⟩⟩
 obtain ⟨hi, rfl⟩ : i = 0 ∧ u = enc p := by
  match i, hu with
  | 0, hu => exact ⟨rfl, by simpa using hu.symm⟩
 subst hi
 have hc := blk_cell h j
 rw [show (⟨g, 0, none⟩ : Addr).add (j * (Kd.scalar enc h1).sz + 0) = ⟨g, j, none⟩ from by
  show (⟨g, 0, none⟩ : Addr).add (j * 1 + 0) = ⟨g, j, none⟩
  rw [Nat.mul_one, Nat.add_zero, add_at, Nat.zero_add], hc]
 simp [hj]
theorem cgO {W w1 : World} {row : Option Nat} (hg : W.grownBy w1 row) {a : Addr} {v : Value} (h : W.cell? a = some v) (hne : some a.block ≠ row) : w1.cell? a = some v := by
 have := hg.block a.block (World.block_lt_of_cell? W a h) hne
 simpa [World.cell?, this] using h
theorem less_flip : ∀ a b : List UInt8, Op.bytesLess b a = !(Op.bytesLess a b || a == b)
 | [], [] => by simp [Op.bytesLess]
 | [], _ :: _ => by simp [Op.bytesLess]
 | _ :: _, [] => by simp [Op.bytesLess]
 | x :: xs, y :: ys => by
  have ih := less_flip xs ys
  simp only [Op.bytesLess]
  rw [ih]
  rcases Nat.lt_trichotomy x.toNat y.toNat with h | h | h
  ·have h1 : (x < y) = True := eq_true (UInt8.lt_iff_toNat_lt.2 h)
   have h2 : ¬ y < x := fun h' => by have := UInt8.lt_iff_toNat_lt.1 h'; omega
   have h3 : ¬ y = x := fun h' => by rw [h'] at h; omega
   simp [h1, h2, h3]
  ·have he : x = y := UInt8.toNat_inj.1 h
   subst he
   have h1 : ¬ x < x := fun h' => by have := UInt8.lt_iff_toNat_lt.1 h'; omega
   simp [h1]
  ·have h1 : ¬ x < y := fun h' => by have := UInt8.lt_iff_toNat_lt.1 h'; omega
   have h2 : (y < x) = True := eq_true (UInt8.lt_iff_toNat_lt.2 h)
   have h3 : ¬ x = y := fun h' => by rw [h'] at h; omega
   simp [h1, h2, h3]
theorem binOp_gtr_str (t : TypeId) (a b : ByteArray) : binOp .gtr t (.string a) (.string b) = pure (.bool (Op.bytesLess b.toList a.toList)) := by
 rw [less_flip]
 simp [binOp, Op.stringOp]
end Go.Proofs.YtpifbgkppfginaaW.PrintWords
