/- A block of memory told whole, as a list of cells; rows of records in it; what is read and written in it. -/
import Derived.Test.YtcgpbmafkgbbdaaDoorMine
import Derived.Test.YtcgpbmafkgbbdaaDoorRow
import Derived.Test.YtcgpbmafkgbbdaaDoorWMore
set_option linter.unusedVariables false
namespace Go.Proofs.YtcgpbmafkgbbdaaDoorW.PrintWords
open Go.RowKit
def BlkIs (W : World) (g : Nat) (t : TypeId) (L : List Value) : Prop := W.heap[g]? = some (.cells L.toArray t (0, 0))
section
variable {W W' : World} {g : Nat} {t : TypeId} {L : List Value}
theorem BlkIs.at_ (h : BlkIs W g t L) (j : Nat) : W.cell? ⟨g, j, none⟩ = L[j]? := (blk_cell h j).trans (by simp)
theorem BlkIs.frozen (h : BlkIs W g t L) (j : Nat) : W.frozen? ⟨g, j, none⟩ = false := blk_frozen h j
theorem BlkIs.lt (h : BlkIs W g t L) : g < W.heap.size := blk_lt h
theorem BlkIs.set (h : BlkIs W g t L) (j : Nat) (v : Value) : BlkIs (W.setCell ⟨g, j, none⟩ v) g t (L.set j v) := by
 have := blk_set h j v
 rw [List.setIfInBounds_toArray] at this
 exact this
theorem BlkIs.far (h : BlkIs W g t L) {p : Addr} (hp : g ≠ p.block) (u : Value) : BlkIs (W.setCell p u) g t L := blk_far h hp u
theorem BlkIs.below (h : BlkIs W g t L) (hb : Below W.heap.size W W') : BlkIs W' g t L := (hb.block g h.lt).trans h
theorem BlkIs.alloc (h : BlkIs W g t L) (o : Obj) : BlkIs (W.alloc o) g t L := h.below (below_alloc (Below.refl _ _) o)
theorem BlkIs.drew (h : BlkIs W g t L) : BlkIs W.drew g t L := h
theorem BlkIs.drewN (h : BlkIs W g t L) (n : Nat) : BlkIs (W.drewN n) g t L := h
theorem BlkIs.grown (h : BlkIs W g t L) {r : Option Nat} (hg : W.grownBy W' r) (hne : some g ≠ r) : BlkIs W' g t L := (hg.block g h.lt hne).trans h
end
section
variable {α : Type} {enc : α → List Value} {sz : Nat}
theorem flen (hE : ∀ x, (enc x).length = sz) (xs : List α) : (flat enc xs).length = xs.length * sz := by
 induction xs with
 | nil => simp [flat_nil]
 | cons x xs ih => rw [flat_cons, List.length_append, hE, ih, List.length_cons, Nat.succ_mul, Nat.add_comm]
theorem fget (hE : ∀ x, (enc x).length = sz) : ∀ (xs : List α) (i j : Nat) (hi : i < xs.length), j < sz → (flat enc xs)[i * sz + j]? = (enc xs[i])[j]?
 | x :: xs, 0, j, hi, hj => by rw [flat_cons, Nat.zero_mul, Nat.zero_add, List.getElem?_append_left (by rw [hE]; exact hj)]; rfl
 | x :: xs, i + 1, j, hi, hj => by
  rw [flat_cons, List.getElem?_append_right (by rw [hE, Nat.succ_mul]; omega), hE, show (i + 1) * sz + j - sz = i * sz + j by rw [Nat.succ_mul]; omega]
  exact fget hE xs i j (by simpa using hi) hj
theorem fset (hE : ∀ x, (enc x).length = sz) : ∀ (xs : List α) (i j : Nat) (hi : i < xs.length) (v : Value) (y : α), j < sz → (enc xs[i]).set j v = enc y → (flat enc xs).set (i * sz + j) v = flat enc (xs.set i y)
 | x :: xs, 0, j, hi, v, y, hj, he => by
  rw [flat_cons, Nat.zero_mul, Nat.zero_add, List.set_append_left _ _ (by rw [hE]; exact hj), List.set_cons_zero, flat_cons]
  congr 1
 | x :: xs, i + 1, j, hi, v, y, hj, he => by
  rw [flat_cons, List.set_append_right _ _ (by rw [hE, Nat.succ_mul]; omega), hE, show (i + 1) * sz + j - sz = i * sz + j by rw [Nat.succ_mul]; omega, fset hE xs i j (by simpa using hi) v y hj he, List.set_cons_succ, flat_cons]
end
section
variable {P : Program} {W : World} {b : Nat} {T : TypeId} {A E B : List Value}
theorem seg_at (h : BlkIs W b T (A ++ E ++ B)) (j : Nat) {v : Value} (hv : E[j]? = some v) : W.cell? ⟨b, A.length + j, none⟩ = some v := by
 have hj : j < E.length := (List.getElem?_eq_some_iff.1 hv).1
 rw [h.at_, List.append_assoc, List.getElem?_append_right (by omega), Nat.add_sub_cancel_left, List.getElem?_append_left hj, hv]
theorem over_seg (j : Nat) (vs : List Value) (h : j + vs.length ≤ E.length) : over (A ++ E ++ B) (A.length + j) vs = A ++ over E j vs ++ B := by
 unfold over
 rw [List.append_assoc A E B, List.take_append, List.take_of_length_le (show A.length ≤ A.length + j by omega), Nat.add_sub_cancel_left, List.take_append_of_le_length (by omega), Nat.add_assoc, List.drop_append, List.drop_of_length_le (show A.length ≤ A.length + (j + vs.length) by omega), Nat.add_sub_cancel_left, List.drop_append_of_le_length h]
 simp [List.append_assoc]
theorem seg_store {ops : Array Oper} {rest : List Oper} {o : Oper} {a : Act} {Q : Exit → Act → World → Prop} (hN : o.dst = none) (hgd : o.guard = none) (t : TypeId) (q y : Operand) (ho : o.op = .store t q y)
 (hB : BlkIs W b T (A ++ E ++ B)) (j : Nat) (u : Value) (vs E' : List Value) (haddr : ∃ o', a.eval q = .pointer (some ⟨b, o', none⟩) ∧ o' = A.length + j) (hx : a.eval y = u) (hu : u.cells.toList = vs) (ht : (P.info? t).map (·.size) = some vs.length) (hfit : j + vs.length ≤ E.length) (h1 : ∀ v ∈ vs, v.oneCell' = true) (hE : over E j vs = E')
 (h : ∀ w1, Aside0 (BlkIs w1 b T (A ++ E' ++ B)) → Aside0 (W.grownBy w1 (some b)) → wpList P ops Q rest a w1) : wpList P ops Q (o :: rest) a W := by
 subst hE
 obtain ⟨o', haddr, rfl⟩ := haddr
 have hf : A.length + j + vs.length ≤ (A ++ E ++ B).length := by simp only [List.length_append]; omega
 have hr := run_store_run (P := P) t u vs hB hu ht hf h1
 refine wpList_plain hgd fun K hK => ?_
 unfold Oper.wp execOp
 simp only [ho, haddr, hx, Sem.run_bind, Sem.run_pure, Result.andThen_ok, hr]
 show K (a.put o.dst undef) _
 rw [hN]
 refine hK a _ (h _ ⟨?_⟩ ⟨setCells_grown hB _ _ hf⟩)
 have := setCells_heap hB _ _ hf
 rw [over_seg j vs hfit] at this
 exact this
theorem blk_store_run {L : List Value} (t : TypeId) (hB : BlkIs W b T L) (j : Nat) (u : Value) (vs L' : List Value) (hu : u.cells.toList = vs) (ht : (P.info? t).map (·.size) = some vs.length) (hfit : j + vs.length ≤ L.length) (h1 : ∀ v ∈ vs, v.oneCell' = true) (hE : over L j vs = L') :
 ∃ w1, (Instr.storeAt t (.pointer (some ⟨b, j, none⟩)) u).run P W = .ok () w1 ∧ BlkIs w1 b T L' ∧ W.grownBy w1 (some b) := by
 subst hE
 exact ⟨_, run_store_run (P := P) t u vs hB hu ht hfit h1, setCells_heap hB _ _ hfit, setCells_grown hB _ _ hfit⟩
theorem blk_store_step {L : List Value} {ops : Array Oper} {o : Oper} {a : Act} {Kc : Act → World → Prop} {Q : Exit → Act → World → Prop} (hw : Region.wanted o (yielded ops a.tmps) = true) (hN : o.dst = none) (t : TypeId) (q y : Operand) (ho : o.op = .store t q y)
 (hB : BlkIs W b T L) (j : Nat) (u : Value) (vs L' : List Value) (haddr : ∃ o', a.eval q = .pointer (some ⟨b, o', none⟩) ∧ o' = j) (hx : a.eval y = u) (hu : u.cells.toList = vs) (ht : (P.info? t).map (·.size) = some vs.length) (hfit : j + vs.length ≤ L.length) (h1 : ∀ v ∈ vs, v.oneCell' = true) (hE : over L j vs = L')
 (h : ∀ w1, Aside0 (BlkIs w1 b T L') → Aside0 (W.grownBy w1 (some b)) → Kc a w1) : if Region.wanted o (yielded ops a.tmps) = true then Oper.wp P o a W Kc Q else Kc (a.put o.dst undef) W := by
 obtain ⟨o', haddr, rfl⟩ := haddr
 obtain ⟨w1, hr, h1', h2⟩ := blk_store_run (P := P) t hB o' u vs L' hu ht hfit h1 hE
 rw [if_pos hw]
 unfold Oper.wp execOp
 simp only [ho, haddr, hx, Sem.run_bind, Sem.run_pure, Result.andThen_ok, hr]
 show Kc (a.put o.dst undef) _
 rw [hN]
 exact h w1 ⟨h1'⟩ ⟨h2⟩
theorem blk_store {L : List Value} {ops : Array Oper} {rest : List Oper} {o : Oper} {a : Act} {Q : Exit → Act → World → Prop} (hN : o.dst = none) (hgd : o.guard = none) (t : TypeId) (q y : Operand) (ho : o.op = .store t q y)
 (hB : BlkIs W b T L) (j : Nat) (u : Value) (vs L' : List Value) (haddr : ∃ o', a.eval q = .pointer (some ⟨b, o', none⟩) ∧ o' = j) (hx : a.eval y = u) (hu : u.cells.toList = vs) (ht : (P.info? t).map (·.size) = some vs.length) (hfit : j + vs.length ≤ L.length) (h1 : ∀ v ∈ vs, v.oneCell' = true) (hE : over L j vs = L')
 (h : ∀ w1, Aside0 (BlkIs w1 b T L') → Aside0 (W.grownBy w1 (some b)) → wpList P ops Q rest a w1) : wpList P ops Q (o :: rest) a W := by
 obtain ⟨o', haddr, rfl⟩ := haddr
 obtain ⟨w1, hr, h1', h2⟩ := blk_store_run (P := P) t hB o' u vs L' hu ht hfit h1 hE
 refine wpList_plain hgd fun K hK => ?_
 unfold Oper.wp execOp
 simp only [ho, haddr, hx, Sem.run_bind, Sem.run_pure, Result.andThen_ok, hr]
 show K (a.put o.dst undef) _
 rw [hN]
 exact hK a _ (h w1 ⟨h1'⟩ ⟨h2⟩)
theorem blk_load_run {L : List Value} {t' : TypeId} (ty : TypeId) (hB : BlkIs W b T L) (d : TypeDesc) (hu : P.underlying ty = some d) (hd : (match d with | .struct _ | .array _ _ => true | _ => false) = true) (hi : (P.info? ty).map (·.size) = some L.length) :
 (loadVar ty ⟨b, 0, none⟩).run P W = .ok (.agg L.toArray) W := run_loadVar_row W b T ty L.toArray (0, 0) d hB hu hd (by simpa using hi)
theorem blk_load {L : List Value} {ops : Array Oper} {rest : List Oper} {o : Oper} {a : Act} {Q : Exit → Act → World → Prop} (hgd : o.guard = none) (ty : TypeId) (q : Operand) (ho : o.op = .load ty q) (hB : BlkIs W b T L) (haddr : a.eval q = .pointer (some ⟨b, 0, none⟩))
 (d : TypeDesc) (hu : P.underlying ty = some d) (hd : (match d with | .struct _ | .array _ _ => true | _ => false) = true) (hi : (P.info? ty).map (·.size) = some L.length)
 (h : wpList P ops Q rest (a.put o.dst (.agg L.toArray)) W) : wpList P ops Q (o :: rest) a W := by
 have hr := blk_load_run (P := P) (t' := T) ty hB d hu hd hi
 refine wpList_plain hgd fun K hK => ?_
 unfold Oper.wp execOp
 simp only [ho, haddr, Instr.loadAt, Instr.sureAddr, Sem.run_bind, Sem.run_pure, Result.andThen_ok, hr]
 exact hK _ _ h
theorem results_cell {fn : Func} {p : Tmp} {ty : TypeId} (h : fn.results = #[.cell p ty]) (tmps : Array Value) {L : List Value} (hp : tmps.getD p undef = .pointer (some ⟨b, 0, none⟩)) (hB : BlkIs W b T L) (d : TypeDesc) (hu : P.underlying ty = some d) (hd : (match d with | .struct _ | .array _ _ => true | _ => false) = true) (hi : (P.info? ty).map (·.size) = some L.length) :
 (results fn tmps).run P W = .ok (.agg L.toArray) W :=
 results_single h (.cell b T L.toArray (0, 0) d hp hB hu hd (by simpa using hi) .nil)
theorem index_run {L : List Value} (ty e : TypeId) (n : Nat) (k : Nat) (v : Value) (hu : P.underlying ty = some (.array n e)) (hk : k < n) (hv : L[k]? = some v) (d : TypeDesc) (he : P.underlying e = some d) (hd : (match d with | .struct _ => true | .array _ _ => true | _ => false) = false) (hi : (P.info? e).map (·.size) = some 1) :
 (Instr.index ty (.agg L.toArray) (.int .i64 (k : Int))).run P W = .ok v W := by
 cases hq : P.info? e with
 | none => simp [hq] at hi
 | some i =>
  have hs : i.size = 1 := by simpa [hq] using hi
  have hagg : (isAgg e).run P W = .ok false W := by
   unfold isAgg
   rw [Sem.run_bind, run_underlying he W]
   cases d <;> simp_all
  have hsz : (Go.sizeOf e).run P W = .ok 1 W := by simp [Go.sizeOf, typeInfo, hq, hs]
  have hix : (asIntOf (.int .i64 (k : Int))).run P W = .ok (.i64, (k : Int)) W := by simp [asIntOf]
  unfold Instr.index
  rw [Sem.run_bind, hix, Result.andThen_ok, Sem.run_bind, run_underlying hu W, Result.andThen_ok]
  simp only []
  rw [if_pos ⟨by omega, by omega⟩, Sem.run_bind, hsz, Result.andThen_ok]
  unfold part
  rw [Sem.run_bind, hagg, Result.andThen_ok]
  simp [hv]
end
end Go.Proofs.YtcgpbmafkgbbdaaDoorW.PrintWords
