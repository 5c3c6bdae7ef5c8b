/- The package variables of the program's statements, as a row's cells tell them: the cells that every world of the call has. -/
import Derived.Test.YtcgpbmafkgbbdaaDoorRows
import Derived.Test.YtcgpbmafkgbbdaaDoorPSx0
import Derived.OpenShut
import Derived.LaidMore
import Derived.ProofKit
set_option linter.unusedVariables false
namespace Go.Proofs.YtcgpbmafkgbbdaaDoor.PS
open Go.RowKit Go.ChangeShapes Go.Proofs.YtcgpbmafkgbbdaaDoorW.PrintWords
theorem mapM_get {α β : Type} (f : α → Option β) : ∀ (l : List α) (xs : List β), l.mapM f = some xs → ∀ (i : Nat) (a : α), l[i]? = some a → ∃ y, f a = some y ∧ xs[i]? = some y
 | [], xs, h, i, a, hi => by simp at hi
 | b :: l, xs, h, i, a, hi => by
  simp only [List.mapM_cons, Option.bind_eq_bind, Option.bind_eq_some_iff, Option.pure_def, Option.some.injEq] at h
  obtain ⟨y, hy, ys, hys, rfl⟩ := h
  cases i with
  | zero =>
   simp only [List.getElem?_cons_zero, Option.some.injEq] at hi
   subst hi
   exact ⟨y, hy, rfl⟩
  | succ i =>
   simp only [List.getElem?_cons_succ] at hi
   obtain ⟨z, h1, h2⟩ := mapM_get f l ys hys i a hi
   exact ⟨z, h1, by simpa using h2⟩
section
variable {P : Program} {w : World} {fuel : Nat} {t : TypeId} {cs : List Value}
theorem struct_of_trod {fs : Array Field} {ds : List (DataW Unit)} {p : List MemPlace} (ht : P.underlying t = some (.struct fs)) (h : DataW.trod (fun _ => ()) P w 0 (fun _ => true) false fuel t cs = some (.agg ds, p)) :
 cs.length = P.cellsOf t ∧ ∃ m, ∀ (i : Nat) (f : Field), fs.toList[i]? = some f → ∃ y : DataW Unit × List MemPlace, DataW.trod (fun _ => ()) P w 0 (fun _ => true) false m f.type ((cs.drop f.offset).take (P.cellsOf f.type)) = some y ∧ ds[i]? = some y.1 := by
 cases fuel with
 | zero => simp [DataW.trod] at h
 | succ m =>
  unfold DataW.trod at h
  rw [ht] at h
  simp only at h
  split at h
  ·rename_i hl
   refine ⟨hl, m, fun i f hf => ?_⟩
   rw [Option.map_eq_some_iff] at h
   obtain ⟨xs, hx, e⟩ := h
   obtain ⟨y, hy, hi⟩ := mapM_get _ _ _ hx i f hf
   refine ⟨y, hy, ?_⟩
   have e1 := (DataW.agg.inj (Prod.mk.inj e).1)
   rw [← e1, List.getElem?_map, hi]
   rfl
  ·cases h
theorem int_of_trod {y : DataW Unit × List MemPlace} (ht : P.underlying t = some (.int .i64)) (h : DataW.trod (fun _ => ()) P w 0 (fun _ => true) false fuel t cs = some y) : ∃ n, cs = [.int .i64 n] ∧ y.1 = .lit (.int .i64 n) := by
 obtain ⟨z, e1, e2, _⟩ := DataW.trod_int ht h
 exact ⟨z, e1, by rw [e2]⟩
theorem bool_of_trod {y : DataW Unit × List MemPlace} (ht : P.underlying t = some .bool) (h : DataW.trod (fun _ => ()) P w 0 (fun _ => true) false fuel t cs = some y) : ∃ b, cs = [.bool b] ∧ y.1 = .lit (.bool b) := by
 cases fuel with
 | zero => simp [DataW.trod] at h
 | succ m =>
  match cs, h with
  | [], h => simp [DataW.trod, ht] at h
  | [c], h =>
   cases c <;> simp [DataW.trod, ht] at h
   subst h
   exact ⟨_, rfl, rfl⟩
  | a :: b :: r, h => simp [DataW.trod, ht] at h
end
theorem len2 {cs : List Value} (h : cs.length = 2) : ∃ a b, cs = [a, b] := by
 match cs, h with
 | [a, b], _ => exact ⟨a, b, rfl⟩
theorem len10 {cs : List Value} (h : cs.length = 10) : ∃ a b c d e f g i j k, cs = [a, b, c, d, e, f, g, i, j, k] := by
 match cs, h with
 | [a, b, c, d, e, f, g, i, j, k], _ => exact ⟨a, b, c, d, e, f, g, i, j, k, rfl⟩
theorem cells_int : Tryd.prog.cellsOf 3 = 1 := by kernel_rfl
theorem cells_bool : Tryd.prog.cellsOf 4 = 1 := by kernel_rfl
theorem cells_lim : Tryd.prog.cellsOf 99 = 2 := by kernel_rfl
theorem cells_form : Tryd.prog.cellsOf 123 = 10 := by kernel_rfl
theorem cells_forms : Tryd.prog.cellsOf 124 = 90 := by kernel_rfl
theorem lim_of {w : World} {fuel : Nat} {cs : List Value} {a b : Int} {p : List MemPlace} (h : DataW.trod (fun _ => ()) Tryd.prog w 0 (fun _ => true) false fuel 99 cs = some (.agg [.lit (.int .i64 a), .lit (.int .i64 b)], p)) : cs = [.int .i64 a, .int .i64 b] := by
 obtain ⟨hl, m, hf⟩ := struct_of_trod Tryd.underlying99 h
 rw [cells_lim] at hl
 obtain ⟨c0, c1, rfl⟩ := len2 hl
 ·skip
  obtain ⟨y0, h0, e0⟩ := hf 0 _ rfl
  obtain ⟨y1, h1, e1⟩ := hf 1 _ rfl
  simp only [cells_int, List.drop_zero, List.drop_succ_cons, List.take_succ_cons, List.take_zero] at h0 h1
  obtain ⟨n0, f0, g0⟩ := int_of_trod Tryd.underlying3 h0
  obtain ⟨n1, f1, g1⟩ := int_of_trod Tryd.underlying3 h1
  rw [g0] at e0
  rw [g1] at e1
  simp only [List.getElem?_cons_zero, List.getElem?_cons_succ, Option.some.injEq, DataW.lit.injEq, Lit.int.injEq, true_and] at e0 e1
  subst e0 e1
  rw [List.cons.injEq] at f0 f1
  rw [f0.1, f1.1]
def Fm.data (f : Fm) : DataW Unit := .agg [.agg [.lit (.int .i64 f.a0), .lit (.int .i64 f.a1)], .agg [.lit (.int .i64 f.b0), .lit (.int .i64 f.b1)], .agg [.lit (.int .i64 f.c0), .lit (.int .i64 f.c1)], .agg [.lit (.int .i64 f.d0), .lit (.int .i64 f.d1)], .lit (.bool f.ct), .lit (.bool f.lk)]
theorem form_of {w : World} {fuel : Nat} {cs : List Value} {f : Fm} {p : List MemPlace} (h : DataW.trod (fun _ => ()) Tryd.prog w 0 (fun _ => true) false fuel 123 cs = some (f.data, p)) : cs = f.enc := by
 obtain ⟨hl, m, hf⟩ := struct_of_trod Tryd.underlying123 h
 rw [cells_form] at hl
 obtain ⟨c0, c1, c2, c3, c4, c5, c6, c7, c8, c9, rfl⟩ := len10 hl
 ·skip
  obtain ⟨y0, h0, e0⟩ := hf 0 _ rfl
  obtain ⟨y1, h1, e1⟩ := hf 1 _ rfl
  obtain ⟨y2, h2, e2⟩ := hf 2 _ rfl
  obtain ⟨y3, h3, e3⟩ := hf 3 _ rfl
  obtain ⟨y4, h4, e4⟩ := hf 4 _ rfl
  obtain ⟨y5, h5, e5⟩ := hf 5 _ rfl
  obtain ⟨z0, p0⟩ := y0
  obtain ⟨z1, p1⟩ := y1
  obtain ⟨z2, p2⟩ := y2
  obtain ⟨z3, p3⟩ := y3
  simp only [List.getElem?_cons_zero, List.getElem?_cons_succ, Option.some.injEq] at e0 e1 e2 e3 e4 e5
  subst e0 e1 e2 e3
  simp only [cells_lim, cells_bool, List.drop_zero, List.drop_succ_cons, List.take_succ_cons, List.take_zero] at h0 h1 h2 h3 h4 h5
  have g0 := lim_of h0
  have g1 := lim_of h1
  have g2 := lim_of h2
  have g3 := lim_of h3
  obtain ⟨b4, k4, q4⟩ := bool_of_trod Tryd.underlying4 h4
  obtain ⟨b5, k5, q5⟩ := bool_of_trod Tryd.underlying4 h5
  rw [q4] at e4
  rw [q5] at e5
  simp only [DataW.lit.injEq, Lit.bool.injEq] at e4 e5
  simp only [List.cons.injEq, and_true] at g0 g1 g2 g3 k4 k5
  unfold Fm.enc
  rw [g0.1, g0.2, g1.1, g1.2, g2.1, g2.2, g3.1, g3.2, k4, k5, e4, e5]
theorem forms_data : (Rows.laid_storagebarter_statement_forms : DataW Unit) = .agg (formList.map Fm.data) := rfl
theorem forms_of {w : World} {fuel : Nat} {cs : List Value} {p : List MemPlace} (h : DataW.trod (fun _ => ()) Tryd.prog w 0 (fun _ => true) false fuel 124 cs = some (Rows.laid_storagebarter_statement_forms, p)) : ∀ (j : Nat) (v : Value), (flat Fm.enc formList)[j]? = some v → cs[j]? = some v := by
 rw [forms_data] at h
 obtain ⟨xs, m, _, ex, hl, hn, hel⟩ := DataW.trod_array Tryd.underlying124 h
 rw [cells_forms] at hl
 intro j v hj
 have hj90 : j < 90 := (List.getElem?_eq_some_iff.1 hj).1
 have hi : j / 10 < formList.length := by show j / 10 < 9; omega
 have hE := hel (j / 10) (by omega)
 rw [cells_form] at hE
 have hxs : j / 10 < xs.length := by omega
 have e3 : xs.map (·.1) = formList.map Fm.data := (DataW.agg.inj (Prod.mk.inj ex).1).symm
 have e4 : (xs.map (·.1))[j / 10]? = (formList.map Fm.data)[j / 10]? := by rw [e3]
 rw [List.getElem?_map, List.getElem?_map, List.getElem?_eq_getElem hxs, List.getElem?_eq_getElem hi] at e4
 rw [List.getElem?_eq_getElem hxs] at hE
 have e5 : xs[j / 10] = ((formList[j / 10]).data, xs[j / 10].2) := Prod.ext (by simpa using e4) rfl
 rw [e5] at hE
 have hc := form_of hE
 have hk := fget Fm.len formList (j / 10) (j % 10) hi (by omega)
 rw [show j / 10 * 10 + j % 10 = j by omega, hj] at hk
 rw [← hc, List.getElem?_take, if_pos (by omega), List.getElem?_drop, show j / 10 * 10 + j % 10 = j by omega] at hk
 exact hk.symm
theorem gw_of_laid {W : World} (h : laidMetH Tryd.prog [("storagebarter/statement.number", Rows.laid_storagebarter_statement_number), ("storagebarter/statement.person", Rows.laid_storagebarter_statement_person), ("storagebarter/statement.forms", Rows.laid_storagebarter_statement_forms)] W) : GW W := by
 rw [MakeChecks.laidMetH_plain _ _ _ (by kernel_rfl)] at h
 obtain ⟨ps, ⟨gn, tn, cn, fn, pn, qn, hgn, htn, hvn, hdn, ⟨gp, tp, cp, fp, pp, qp, hgp, htp, hvp, hdp, ⟨gf, tf, cf, ff, pf, qf, hgf, htf, hvf, hdf, _, _⟩, _⟩, _⟩, _⟩ := h
 obtain rfl := Option.some.inj ((show Tryd.prog.globalNamed "storagebarter/statement.number" = some 1 by kernel_rfl).symm.trans hgn)
 obtain rfl := Option.some.inj ((show Tryd.prog.globalNamed "storagebarter/statement.person" = some 0 by kernel_rfl).symm.trans hgp)
 obtain rfl := Option.some.inj ((show Tryd.prog.globalNamed "storagebarter/statement.forms" = some 2 by kernel_rfl).symm.trans hgf)
 obtain rfl := Option.some.inj ((show (Tryd.prog.globals[1]?).map (·.type) = some 99 by kernel_rfl).symm.trans htn)
 obtain rfl := Option.some.inj ((show (Tryd.prog.globals[0]?).map (·.type) = some 99 by kernel_rfl).symm.trans htp)
 obtain rfl := Option.some.inj ((show (Tryd.prog.globals[2]?).map (·.type) = some 124 by kernel_rfl).symm.trans htf)
 have en := lim_of hdn
 have ep := lim_of hdp
 have ef := forms_of hdf
 refine ⟨fun j v hj => ?_, fun j v hj => ?_, fun j v hj => ?_⟩
 ·rw [World.var?_cell hgp hvp j, ← Array.getElem?_toList, ep]
  exact hj
 ·rw [World.var?_cell hgn hvn j, ← Array.getElem?_toList, en]
  exact hj
 ·rw [World.var?_cell hgf hvf j, ← Array.getElem?_toList]
  exact ef j v hj
end Go.Proofs.YtcgpbmafkgbbdaaDoor.PS
