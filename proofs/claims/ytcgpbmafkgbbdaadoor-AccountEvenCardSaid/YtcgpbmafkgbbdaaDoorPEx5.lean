-- Written by a program of this claim's own (hookprint.py), after the pattern of the kit's print. Lean checks it.
import Derived.Test.YtcgpbmafkgbbdaaDoorPEx0
import Derived.Test.YtcgpbmafkgbbdaaDoorPEx3
import Derived.Test.YtcgpbmafkgbbdaaDoorRow
namespace Go.Proofs.YtcgpbmafkgbbdaaDoor.PE
open Go.RowKit Go.Proofs.YtcgpbmafkgbbdaaDoorW.PrintWords Go.Proofs.YtcgpbmafkgbbdaaDoorW.PrintLast Go.Proofs.YtcgpbmafkgbbdaaDoorW.PrintMore
attribute [local go_sem] max2_int min2_int max_two min_two max_three min_three max_four min_four   -- for this text's walks alone
set_option linter.unusedVariables false
set_option linter.unusedSimpArgs false

/-! ### statement_Valid: function 53, by hand -/
section
-- BY HAND, AS IT STANDS
attribute [local go_sem ↓] some_setCell
structure Fm where
  a0 : Int
  a1 : Int
  b0 : Int
  b1 : Int
  c0 : Int
  c1 : Int
  d0 : Int
  d1 : Int
  ct : Bool
  lk : Bool
def Fm.enc (f : Fm) : List Value := [.int .i64 f.a0, .int .i64 f.a1, .int .i64 f.b0, .int .i64 f.b1, .int .i64 f.c0, .int .i64 f.c1, .int .i64 f.d0, .int .i64 f.d1, .bool f.ct, .bool f.lk]
theorem Fm.len (f : Fm) : f.enc.length = 10 := rfl
def formList : List Fm := [⟨0, 0, 0, 0, 0, 0, 0, 0, false, false⟩, ⟨0, 63, 0, 2147483646, 1, 1024, 1, 65536, true, false⟩, ⟨0, 63, 0, 0, 0, 0, 1, 65536, true, false⟩, ⟨0, 63, 0, 0, 0, 0, 0, 0, false, false⟩, ⟨0, 63, 0, 2147483646, 1, 1024, 0, 0, false, false⟩, ⟨0, 63, 0, 0, 0, 0, 0, 0, false, false⟩, ⟨0, 2147483646, 0, 2147483646, 0, 256, 0, 0, false, false⟩, ⟨0, 2147483646, 0, 2147483646, 1, 1024, 0, 4294967293, false, true⟩, ⟨0, 2147483646, 0, 4294967293, 0, 0, 0, 0, false, false⟩]
def formOf (k : Int) : Fm := formList.getD k.toNat ⟨0, 0, 0, 0, 0, 0, 0, 0, false, false⟩
/-- The package variables' cells. -/
structure GW (W : World) : Prop where
  person : ∀ j v, ([.int .i64 1, .int .i64 2147483646] : List Value)[j]? = some v → W.cell? ⟨0, j, none⟩ = some v
  number : ∀ j v, ([.int .i64 0, .int .i64 2147483646] : List Value)[j]? = some v → W.cell? ⟨1, j, none⟩ = some v
  forms : ∀ j v, (flat Fm.enc formList)[j]? = some v → W.cell? ⟨2, j, none⟩ = some v
theorem GW.below {W W' : World} (h : GW W) (hb : Below W.heap.size W W') : GW W' :=
  ⟨fun j v hj => (hb.cell (World.block_lt_of_cell? W _ (h.person j v hj))).trans (h.person j v hj), fun j v hj => (hb.cell (World.block_lt_of_cell? W _ (h.number j v hj))).trans (h.number j v hj), fun j v hj => (hb.cell (World.block_lt_of_cell? W _ (h.forms j v hj))).trans (h.forms j v hj)⟩
theorem GW.form {W : World} (h : GW W) {k : Int} (h0 : 0 ≤ k) (h9 : k < 9) (j : Nat) (hj : j < 10) {v : Value} (hv : (formOf k).enc[j]? = some v) : W.cell? ⟨2, k.toNat * 10 + j, none⟩ = some v := by
  have hl : k.toNat < formList.length := by show k.toNat < 9; omega
  refine h.forms _ _ ?_
  rw [fget Fm.len formList k.toNat j hl hj, ← hv]
  unfold formOf
  rw [List.getD_eq_getElem?_getD, List.getElem?_eq_getElem hl]
  rfl
def holdsB (lo hi n : Int) : Bool := decide (lo ≤ n) && decide (n ≤ hi)
theorem holds_is (lo hi n : Int) : statement_limit_holds.f lo hi n = some (holdsB lo hi n) := by
  unfold statement_limit_holds.f holdsB
  by_cases h : n ≥ lo
  · rw [if_pos h, decide_eq_true (show lo ≤ n from h), Bool.true_and]
  · rw [if_neg h, decide_eq_false (show ¬ lo ≤ n from h), Bool.false_and]
/-- Do the numbers hold? -/
def Fm.allB (f : Fm) (x : S51) (d : Int) : Bool := holdsB f.a0 f.a1 x.f6 && (holdsB f.b0 f.b1 x.f7 && (holdsB f.c0 f.c1 x.f8 && holdsB f.d0 f.d1 d))
def fitsB (x : S51) : Bool :=
  if x.f5 < 1 ∨ 9 ≤ x.f5 then false
  else if (formOf x.f5).ct = true then (if x.f9 < 0 ∨ 1048576 < x.f9 then false else (formOf x.f5).allB x (wrap64 (x.f9 - x.f4)))
  else if (formOf x.f5).lk = true then (if x.f9 < 1 ∨ ¬ Int.tmod x.f9 3 = 1 then false else (formOf x.f5).allB x (wrap64 (Int.tdiv x.f9 3)))
  else (formOf x.f5).allB x x.f9
theorem grown_cell {W W' : World} {r : Option Nat} (h : W.grownBy W' r) {p : Addr} (hne : some p.block ≠ r) {v : Value} (hc : W.cell? p = some v) : W'.cell? p = some v := by
  have hlt := World.block_lt_of_cell? W p hc
  have hb := h.block p.block hlt hne
  unfold World.cell? at hc ⊢
  rw [hb]
  exact hc
def fits.T3 : Bool × List (List Nat × List Nat) := (true, [([], []), ([0], [0]), ([1], [1]), ([2], [2]), ([], []), ([4], [4]), ([], []), ([6, 3, 0, 1, 2, 3, 6], [3, 6]), ([5, 7, 0, 1, 2, 3, 4, 5, 6, 7], [5])])
def fits.B3 : List Nat := [0, 1, 3, 7, 0, 16, 0, 79, 255]
theorem fits.tab3 : rtab .any (opsOf Tryd.f66 3) = fits.T3 := by kernel_rfl
theorem fits.bits3 : waitsOk fits.T3.2 fits.B3 = true := by kernel_rfl
set_option maxHeartbeats 8000000 in
set_option maxRecDepth 100000 in
theorem fits.calls (x : S51) (W : World) (hG : GW W) :
    Calls Tryd.prog 66 #[.agg #[.int .i64 x.f0, .int .i64 x.f1, .int .i64 x.f2, .int .i64 x.f3, .int .i64 x.f4, .int .i64 x.f5, .int .i64 x.f6, .int .i64 x.f7, .int .i64 x.f8, .int .i64 x.f9, .int .i64 x.f10]] W fun e w' => e = .returned (.bool (fitsB x)) ∧ Below W.heap.size W w' := by
  have hu := Tryd.underlying51
  obtain ⟨W1, hW1⟩ : ∃ W1, W1 = W.alloc (.cells #[.int .i64 x.f0, .int .i64 x.f1, .int .i64 x.f2, .int .i64 x.f3, .int .i64 x.f4, .int .i64 x.f5, .int .i64 x.f6, .int .i64 x.f7, .int .i64 x.f8, .int .i64 x.f9, .int .i64 x.f10] 51) := ⟨_, rfl⟩
  have hX1 : BlkIs W1 W.heap.size 51 [.int .i64 x.f0, .int .i64 x.f1, .int .i64 x.f2, .int .i64 x.f3, .int .i64 x.f4, .int .i64 x.f5, .int .i64 x.f6, .int .i64 x.f7, .int .i64 x.f8, .int .i64 x.f9, .int .i64 x.f10] := by rw [hW1]; exact heap_alloc_new W _
  have hb1 : Below W.heap.size W W1 := by rw [hW1]; exact below_alloc (Below.refl _ _) _
  have HX1 := Aside0.mk hX1
  have HB1 := Aside0.mk hb1
  have HGG := Aside0.mk (hG.below hb1)
  have HW := Aside0.mk hW1
  have HGL : Aside0 (2 < W.heap.size) := ⟨World.block_lt_of_cell? W _ (hG.forms 0 _ rfl)⟩
  have c5 : W1.cell? ⟨W.heap.size, 5, none⟩ = some (.int .i64 x.f5) := hX1.at_ 5
  clear hX1 hb1 hG hW1
  by_cases k1 : x.f5 < 1
  · have hF : fitsB x = false := if_pos (.inl k1)
    rw [hF]
    have d1 : decide (x.f5 < 1) = true := decide_eq_true k1
    clear k1 hF
    go_enter Tryd.func66, Tryd.ntmps66
    go_upto_region 1 with (fail)
    rw [← HW.out]
    go_wp2
    go_ret
    exact ⟨rfl, HB1.out⟩
  have d1 : decide (x.f5 < 1) = false := decide_eq_false k1
  by_cases k2 : 9 ≤ x.f5
  · have hF : fitsB x = false := if_pos (.inr k2)
    rw [hF]
    have d2 : decide (9 ≤ x.f5) = true := decide_eq_true k2
    clear k1 k2 hF
    go_enter Tryd.func66, Tryd.ntmps66
    go_upto_region 1 with (fail)
    rw [← HW.out]
    go_wp2
    go_ret
    exact ⟨rfl, HB1.out⟩
  have d2 : decide (9 ≤ x.f5) = false := decide_eq_false k2
  have HG1 : Aside0 (∀ j, j < 10 → ∀ {v : Value}, (formOf x.f5).enc[j]? = some v → W1.cell? ⟨2, x.f5.toNat * 10 + j, none⟩ = some v) := ⟨fun j hj v hv => HGG.out.form (by omega) (by omega) j hj hv⟩
  have HFE : Aside0 (fitsB x = if (formOf x.f5).ct = true then (if x.f9 < 0 ∨ 1048576 < x.f9 then false else (formOf x.f5).allB x (wrap64 (x.f9 - x.f4))) else if (formOf x.f5).lk = true then (if x.f9 < 1 ∨ ¬ Int.tmod x.f9 3 = 1 then false else (formOf x.f5).allB x (wrap64 (Int.tdiv x.f9 3))) else (formOf x.f5).allB x x.f9) := ⟨if_neg (fun h => h.elim k1 k2)⟩
  have p0 : 0 ≤ x.f5 := by omega
  have p9 : x.f5 < 9 := by omega
  generalize formOf x.f5 = f at HG1 HFE
  obtain ⟨r, hr⟩ : ∃ r, r = fitsB x := ⟨_, rfl⟩
  rw [← hr]
  have HR := Aside0.mk hr
  clear hr
  clear HGG
  go_enter Tryd.func66, Tryd.ntmps66
  go_upto_region 1 with (fail)
  rw [← HW.out]
  go_upto_region 3 with (fail)
  clear k1 k2 d1 d2 c5
  refine start_ (n := 9) (S := fun w' => w'.cell? ⟨W.heap.size, 4, none⟩ = some (.int .i64 x.f4) ∧ w'.cell? ⟨W.heap.size, 5, none⟩ = some (.int .i64 x.f5) ∧ w'.cell? ⟨W.heap.size, 6, none⟩ = some (.int .i64 x.f6) ∧ w'.cell? ⟨W.heap.size, 7, none⟩ = some (.int .i64 x.f7) ∧ w'.cell? ⟨W.heap.size, 8, none⟩ = some (.int .i64 x.f8) ∧ w'.cell? ⟨W.heap.size, 9, none⟩ = some (.int .i64 x.f9) ∧ w'.cell? ⟨2, x.f5.toNat * 10, none⟩ = some (.int .i64 f.a0) ∧ w'.cell? ⟨2, x.f5.toNat * 10 + 1, none⟩ = some (.int .i64 f.a1) ∧ w'.cell? ⟨2, x.f5.toNat * 10 + 2, none⟩ = some (.int .i64 f.b0) ∧ w'.cell? ⟨2, x.f5.toNat * 10 + 3, none⟩ = some (.int .i64 f.b1) ∧ w'.cell? ⟨2, x.f5.toNat * 10 + 4, none⟩ = some (.int .i64 f.c0) ∧ w'.cell? ⟨2, x.f5.toNat * 10 + 5, none⟩ = some (.int .i64 f.c1) ∧ w'.cell? ⟨2, x.f5.toNat * 10 + 6, none⟩ = some (.int .i64 f.d0) ∧ w'.cell? ⟨2, x.f5.toNat * 10 + 7, none⟩ = some (.int .i64 f.d1) ∧ w'.cell? ⟨2, x.f5.toNat * 10 + 8, none⟩ = some (.bool f.ct) ∧ w'.cell? ⟨2, x.f5.toNat * 10 + 9, none⟩ = some (.bool f.lk)) (ds := []) (marksOf 9 0) (by kernel_rfl) rfl rfl ⟨(HX1.out.drew).at_ 4, (HX1.out.drew).at_ 5, (HX1.out.drew).at_ 6, (HX1.out.drew).at_ 7, (HX1.out.drew).at_ 8, (HX1.out.drew).at_ 9, HG1.out 0 (by omega) rfl, HG1.out 1 (by omega) rfl, HG1.out 2 (by omega) rfl, HG1.out 3 (by omega) rfl, HG1.out 4 (by omega) rfl, HG1.out 5 (by omega) rfl, HG1.out 6 (by omega) rfl, HG1.out 7 (by omega) rfl, HG1.out 8 (by omega) rfl, HG1.out 9 (by omega) rfl⟩ (fun hHeld => ?_)
  refine with_tabW fits.tab3 fits.bits3 (fun HT_ HW_ => ?_)
  refine pu_ 0 13 9 1 ?_ rfl rfl (any_of HT_.out (by kernel_rfl)) (fun _ _ _ h => h) (by rfl) ?_ ?_ ?_ ?_
  rotate_left
  · intro w'
    go_simp
    with_reducible rfl
  rotate_left
  · simp only [Act.put, List.setIfInBounds_toArray, List.set_cons_zero, List.set_cons_succ, q1, q2, q3, i64_w, i32_w]
    rfl
  refine ta_ 1 14 9 3 ?_ rfl rfl (take_ofW HT_.out HW_.out (by kernel_rfl)) (fun _ _ _ h => h) (by rfl) ?_ hHeld ?_ ?_ ?_
  rotate_left
  · rintro w' ⟨s0, s1, s2, s3, s4, s5, s6, s7, s8, s9, s10, s11, s12, s13, s14, s15⟩
    go_simp
    with_reducible rfl
  rotate_left
  · simp only [Act.put, List.setIfInBounds_toArray, List.set_cons_zero, List.set_cons_succ, q1, q2, q3, i64_w, i32_w]
    rfl
  refine pu_ 2 15 9 7 ?_ rfl rfl (any_of HT_.out (by kernel_rfl)) (fun _ _ _ h => h) (by rfl) ?_ ?_ ?_ ?_
  rotate_left
  · intro w'
    go_simp
    with_reducible rfl
  rotate_left
  · simp only [Act.put, List.setIfInBounds_toArray, List.set_cons_zero, List.set_cons_succ, q1, q2, q3, i64_w, i32_w]
    rfl
  refine ta_ 3 16 9 15 ?_ rfl rfl (take_ofW HT_.out HW_.out (by kernel_rfl)) (fun _ _ _ h => h) (by rfl) ?_ hHeld ?_ ?_ ?_
  rotate_left
  · rintro w' ⟨s0, s1, s2, s3, s4, s5, s6, s7, s8, s9, s10, s11, s12, s13, s14, s15⟩
    go_simp
    with_reducible rfl
  rotate_left
  · simp only [Act.put, List.setIfInBounds_toArray, List.set_cons_zero, List.set_cons_succ, q1, q2, q3, i64_w, i32_w]
    rfl
  refine pu_ 4 17 9 31 ?_ rfl rfl (any_of HT_.out (by kernel_rfl)) (fun _ _ _ h => h) (by rfl) ?_ ?_ ?_ ?_
  rotate_left
  · intro w'
    go_simp
    with_reducible rfl
  rotate_left
  · simp only [Act.put, List.setIfInBounds_toArray, List.set_cons_zero, List.set_cons_succ, q1, q2, q3, i64_w, i32_w]
    rfl
  refine ta_ 5 18 9 63 ?_ rfl rfl (take_ofW HT_.out HW_.out (by kernel_rfl)) (fun _ _ _ h => h) (by rfl) ?_ hHeld ?_ ?_ ?_
  rotate_left
  · rintro w' ⟨s0, s1, s2, s3, s4, s5, s6, s7, s8, s9, s10, s11, s12, s13, s14, s15⟩
    go_simp
    with_reducible rfl
  rotate_left
  · simp only [Act.put, List.setIfInBounds_toArray, List.set_cons_zero, List.set_cons_succ, q1, q2, q3, i64_w, i32_w]
    rfl
  refine one_ (i := 6) (N := some 3) (marksOf 9 127) rfl rfl (one_of HT_.out (by kernel_rfl)) (by decide) (fun K hK => ?_)
  refine box_step ?hg (N := 3) ?hd (cs := #[.int .i64 0, .int .i64 0, .int .i64 0, .int .i64 0, .int .i64 0, .int .i64 0, .int .i64 0, .int .i64 0, .bool false, .bool false]) (t := 123) ?hr ?_
  case hd => rfl
  case hg => rfl
  case hr => first | (go_simp; done) | (go_simp; rfl)
  intro g hg w2 hbox hb2
  have HX2 := Aside0.mk (HX1.out.drew.below hb2)
  have HG2 : Aside0 (∀ j, j < 10 → ∀ {v : Value}, f.enc[j]? = some v → w2.cell? ⟨2, x.f5.toNat * 10 + j, none⟩ = some v) := ⟨fun j hj v hv => (hb2.cell (World.block_lt_of_cell? _ _ (HG1.out j hj hv))).trans (HG1.out j hj hv)⟩
  have HN2 : Aside0 (BlkIs w2 g 123 [.int .i64 0, .int .i64 0, .int .i64 0, .int .i64 0, .int .i64 0, .int .i64 0, .int .i64 0, .int .i64 0, .bool false, .bool false]) := ⟨hbox⟩
  have HB2 := Aside0.mk (below_step (below_drew1 HB1.out) hb2)
  have hgne : W.heap.size < g := by rw [hg]; exact HX1.out.drew.lt
  have HGN := Aside0.mk hgne
  clear hbox hb2 hgne hg
  refine hK.out _ _ ⟨HX2.out.at_ 4, HX2.out.at_ 5, HX2.out.at_ 6, HX2.out.at_ 7, HX2.out.at_ 8, HX2.out.at_ 9, HG2.out 0 (by omega) rfl, HG2.out 1 (by omega) rfl, HG2.out 2 (by omega) rfl, HG2.out 3 (by omega) rfl, HG2.out 4 (by omega) rfl, HG2.out 5 (by omega) rfl, HG2.out 6 (by omega) rfl, HG2.out 7 (by omega) rfl, HG2.out 8 (by omega) rfl, HG2.out 9 (by omega) rfl⟩ (fun hHeld => ?_)
  refine norm_ (a' := ?_) ?_ ?_
  rotate_left
  · show Act.put _ (some 3) _ = _
    simp only [Act.put, List.setIfInBounds_toArray, List.set_cons_zero, List.set_cons_succ, q1, q2, q3, i64_w, i32_w]
    rfl
  refine one_ (i := 7) (N := none) (marksOf 9 255) rfl rfl (one_of HT_.out (by kernel_rfl)) (by decide) (fun K hK => ?_)
  refine blk_store_step ?hw ?hN 123 (.tmp 3) (.tmp 16) ?ho HN2.out 0 (.agg #[.int .i64 f.a0, .int .i64 f.a1, .int .i64 f.b0, .int .i64 f.b1, .int .i64 f.c0, .int .i64 f.c1, .int .i64 f.d0, .int .i64 f.d1, .bool f.ct, .bool f.lk]) [.int .i64 f.a0, .int .i64 f.a1, .int .i64 f.b0, .int .i64 f.b1, .int .i64 f.c0, .int .i64 f.c1, .int .i64 f.d0, .int .i64 f.d1, .bool f.ct, .bool f.lk] [.int .i64 f.a0, .int .i64 f.a1, .int .i64 f.b0, .int .i64 f.b1, .int .i64 f.c0, .int .i64 f.c1, .int .i64 f.d0, .int .i64 f.d1, .bool f.ct, .bool f.lk] ?ha ?hx ?hu ?ht ?hf ?h1 ?hE ?_
  case hw => rfl
  case hN => rfl
  case ho => rfl
  case ha => exact ⟨_, rfl, rfl⟩
  case hx => rfl
  case hu => rfl
  case ht => kernel_rfl
  case hf => exact Nat.le_of_ble_eq_true rfl
  case h1 => intro v hv; simp only [List.mem_cons, List.not_mem_nil, or_false] at hv; rcases hv with rfl | rfl | rfl | rfl | rfl | rfl | rfl | rfl | rfl | rfl <;> rfl
  case hE => rfl
  intro w3 HN3 hg3
  have HX3 : Aside0 (BlkIs w3 W.heap.size 51 [.int .i64 x.f0, .int .i64 x.f1, .int .i64 x.f2, .int .i64 x.f3, .int .i64 x.f4, .int .i64 x.f5, .int .i64 x.f6, .int .i64 x.f7, .int .i64 x.f8, .int .i64 x.f9, .int .i64 x.f10]) := ⟨HX2.out.grown hg3.out (fun e => by injection e with e; have := HGN.out; omega)⟩
  have HG3 : Aside0 (∀ j, j < 10 → ∀ {v : Value}, f.enc[j]? = some v → w3.cell? ⟨2, x.f5.toNat * 10 + j, none⟩ = some v) := ⟨fun j hj v hv => (grown_cell hg3.out (by show some (2 : Nat) ≠ some g; intro e; injection e with e; have := HGN.out; have := HGL.out; omega) (HG2.out j hj hv))⟩
  have HB3 : Aside0 (Below W.heap.size W w3) := ⟨pw_below_grown HB2.out _ HB2.out.size hg3.out (by intro k hk; injection hk with hk; have := HGN.out; omega)⟩
  clear hg3
  refine hK.out _ _ ⟨HX3.out.at_ 4, HX3.out.at_ 5, HX3.out.at_ 6, HX3.out.at_ 7, HX3.out.at_ 8, HX3.out.at_ 9, HG3.out 0 (by omega) rfl, HG3.out 1 (by omega) rfl, HG3.out 2 (by omega) rfl, HG3.out 3 (by omega) rfl, HG3.out 4 (by omega) rfl, HG3.out 5 (by omega) rfl, HG3.out 6 (by omega) rfl, HG3.out 7 (by omega) rfl, HG3.out 8 (by omega) rfl, HG3.out 9 (by omega) rfl⟩ (fun hHeld => ?_)
  refine pu_ 8 4 9 511 ?_ rfl rfl (any_of HT_.out (by kernel_rfl)) (fun _ _ _ h => h) (by rfl) ?_ ?_ ?_ ?_
  rotate_left
  · intro w'
    go_simp
    with_reducible rfl
  rotate_left
  · simp only [Act.put, List.setIfInBounds_toArray, List.set_cons_zero, List.set_cons_succ, q1, q2, q3, i64_w, i32_w]
    rfl
  refine done_ (done_of HT_.out (by kernel_rfl)) ?_
  have x4 : w3.cell? ⟨W.heap.size, 4, none⟩ = some (.int .i64 x.f4) := HX3.out.at_ 4
  have x5 : w3.cell? ⟨W.heap.size, 5, none⟩ = some (.int .i64 x.f5) := HX3.out.at_ 5
  have x6 : w3.cell? ⟨W.heap.size, 6, none⟩ = some (.int .i64 x.f6) := HX3.out.at_ 6
  have x7 : w3.cell? ⟨W.heap.size, 7, none⟩ = some (.int .i64 x.f7) := HX3.out.at_ 7
  have x8 : w3.cell? ⟨W.heap.size, 8, none⟩ = some (.int .i64 x.f8) := HX3.out.at_ 8
  have x9 : w3.cell? ⟨W.heap.size, 9, none⟩ = some (.int .i64 x.f9) := HX3.out.at_ 9
  have y0 : w3.cell? ⟨g, 0, none⟩ = some (.int .i64 f.a0) := HN3.out.at_ 0
  have y1 : w3.cell? ⟨g, 1, none⟩ = some (.int .i64 f.a1) := HN3.out.at_ 1
  have y2 : w3.cell? ⟨g, 2, none⟩ = some (.int .i64 f.b0) := HN3.out.at_ 2
  have y3 : w3.cell? ⟨g, 3, none⟩ = some (.int .i64 f.b1) := HN3.out.at_ 3
  have y4 : w3.cell? ⟨g, 4, none⟩ = some (.int .i64 f.c0) := HN3.out.at_ 4
  have y5 : w3.cell? ⟨g, 5, none⟩ = some (.int .i64 f.c1) := HN3.out.at_ 5
  have y6 : w3.cell? ⟨g, 6, none⟩ = some (.int .i64 f.d0) := HN3.out.at_ 6
  have y7 : w3.cell? ⟨g, 7, none⟩ = some (.int .i64 f.d1) := HN3.out.at_ 7
  have y8 : w3.cell? ⟨g, 8, none⟩ = some (.bool f.ct) := HN3.out.at_ 8
  have y9 : w3.cell? ⟨g, 9, none⟩ = some (.bool f.lk) := HN3.out.at_ 9
  clear HG1 HG3 HN2 HX2 HG2 HB2
  cases hct : f.ct with
  | true =>
    rw [hct] at y8
    have HCT := Aside0.mk hct
    clear hct
    by_cases e1 : x.f9 < 0
    · have HE1 := Aside0.mk e1
      have d3 : decide (x.f9 < 0) = true := decide_eq_true e1
      clear e1
      have hF : fitsB x = false := by rw [HFE.out, if_pos HCT.out, if_pos (.inl HE1.out)]
      have HFF := Aside0.mk hF
      clear hF
      go_wp2
      go_ret
      exact ⟨by (first | (rw [HR.out, HFF.out]; done) | simp [HR.out, HFF.out]), HB3.out⟩
    · have d3 : decide (x.f9 < 0) = false := decide_eq_false e1
      by_cases e2 : 1048576 < x.f9
      · have HE2 := Aside0.mk e2
        have d4 : decide (1048576 < x.f9) = true := decide_eq_true e2
        clear e1 e2
        have hF : fitsB x = false := by rw [HFE.out, if_pos HCT.out, if_pos (.inr HE2.out)]
        have HFF := Aside0.mk hF
        clear hF
        go_wp2
        go_ret
        exact ⟨by (first | (rw [HR.out, HFF.out]; done) | simp [HR.out, HFF.out]), HB3.out⟩
      · have d4 : decide (1048576 < x.f9) = false := decide_eq_false e2
        have HE : Aside0 (¬ (x.f9 < 0 ∨ 1048576 < x.f9)) := ⟨fun h => h.elim e1 e2⟩
        clear e1 e2
        go_upto_region 12 with (fail)
        (try simp only [i64_w])
        cases hb_0 : holdsB f.a0 f.a1 (x.f6) with
        | false =>
          have HB0_ := Aside0.mk hb_0
          clear hb_0
          have hF : fitsB x = false := by
            rw [HFE.out, if_pos HCT.out, if_neg HE.out]
            unfold Fm.allB
            rw [HB0_.out]
            rfl
          have HFF := Aside0.mk hF
          clear hF
          go_wp2_with (first | (go_at_call 56; (with_reducible refine (statement_limit_holds.calls f.a0 f.a1 (x.f6) false _ (by rw [holds_is]; exact congrArg some HB0_.out)).mono ?_); rintro e w4 ⟨rfl, hb4⟩; have HX4 := Aside0.mk (HX3.out.below hb4); have HN4 := Aside0.mk (HN3.out.below hb4); have HB4 := Aside0.mk (below_step HB3.out hb4); clear hb4; have x7_4 : w4.cell? ⟨W.heap.size, 7, none⟩ = some (.int .i64 x.f7) := HX4.out.at_ 7; have x8_4 : w4.cell? ⟨W.heap.size, 8, none⟩ = some (.int .i64 x.f8) := HX4.out.at_ 8; have x9_4 : w4.cell? ⟨W.heap.size, 9, none⟩ = some (.int .i64 x.f9) := HX4.out.at_ 9; have y2_4 : w4.cell? ⟨g, 2, none⟩ = some (.int .i64 f.b0) := HN4.out.at_ 2; have y3_4 : w4.cell? ⟨g, 3, none⟩ = some (.int .i64 f.b1) := HN4.out.at_ 3; have y4_4 : w4.cell? ⟨g, 4, none⟩ = some (.int .i64 f.c0) := HN4.out.at_ 4; have y5_4 : w4.cell? ⟨g, 5, none⟩ = some (.int .i64 f.c1) := HN4.out.at_ 5; have y6_4 : w4.cell? ⟨g, 6, none⟩ = some (.int .i64 f.d0) := HN4.out.at_ 6; have y7_4 : w4.cell? ⟨g, 7, none⟩ = some (.int .i64 f.d1) := HN4.out.at_ 7))
          go_ret
          exact ⟨by (first | (rw [HR.out, HFF.out]; done) | simp [HR.out, HFF.out]), HB4.out⟩
        | true =>
          have HB0_ := Aside0.mk hb_0
          clear hb_0
          cases hb_1 : holdsB f.b0 f.b1 (x.f7) with
          | false =>
            have HB1_ := Aside0.mk hb_1
            clear hb_1
            have hF : fitsB x = false := by
              rw [HFE.out, if_pos HCT.out, if_neg HE.out]
              unfold Fm.allB
              rw [HB0_.out, HB1_.out]
              rfl
            have HFF := Aside0.mk hF
            clear hF
            go_wp2_with (first | (go_at_call 56; (with_reducible refine (statement_limit_holds.calls f.a0 f.a1 (x.f6) true _ (by rw [holds_is]; exact congrArg some HB0_.out)).mono ?_); rintro e w4 ⟨rfl, hb4⟩; have HX4 := Aside0.mk (HX3.out.below hb4); have HN4 := Aside0.mk (HN3.out.below hb4); have HB4 := Aside0.mk (below_step HB3.out hb4); clear hb4; have x7_4 : w4.cell? ⟨W.heap.size, 7, none⟩ = some (.int .i64 x.f7) := HX4.out.at_ 7; have x8_4 : w4.cell? ⟨W.heap.size, 8, none⟩ = some (.int .i64 x.f8) := HX4.out.at_ 8; have x9_4 : w4.cell? ⟨W.heap.size, 9, none⟩ = some (.int .i64 x.f9) := HX4.out.at_ 9; have y2_4 : w4.cell? ⟨g, 2, none⟩ = some (.int .i64 f.b0) := HN4.out.at_ 2; have y3_4 : w4.cell? ⟨g, 3, none⟩ = some (.int .i64 f.b1) := HN4.out.at_ 3; have y4_4 : w4.cell? ⟨g, 4, none⟩ = some (.int .i64 f.c0) := HN4.out.at_ 4; have y5_4 : w4.cell? ⟨g, 5, none⟩ = some (.int .i64 f.c1) := HN4.out.at_ 5; have y6_4 : w4.cell? ⟨g, 6, none⟩ = some (.int .i64 f.d0) := HN4.out.at_ 6; have y7_4 : w4.cell? ⟨g, 7, none⟩ = some (.int .i64 f.d1) := HN4.out.at_ 7) | (go_at_call 56; (with_reducible refine (statement_limit_holds.calls f.b0 f.b1 (x.f7) false _ (by rw [holds_is]; exact congrArg some HB1_.out)).mono ?_); rintro e w5 ⟨rfl, hb5⟩; have HX5 := Aside0.mk (HX4.out.below hb5); have HN5 := Aside0.mk (HN4.out.below hb5); have HB5 := Aside0.mk (below_step HB4.out hb5); clear hb5; have x7_5 : w5.cell? ⟨W.heap.size, 7, none⟩ = some (.int .i64 x.f7) := HX5.out.at_ 7; have x8_5 : w5.cell? ⟨W.heap.size, 8, none⟩ = some (.int .i64 x.f8) := HX5.out.at_ 8; have x9_5 : w5.cell? ⟨W.heap.size, 9, none⟩ = some (.int .i64 x.f9) := HX5.out.at_ 9; have y2_5 : w5.cell? ⟨g, 2, none⟩ = some (.int .i64 f.b0) := HN5.out.at_ 2; have y3_5 : w5.cell? ⟨g, 3, none⟩ = some (.int .i64 f.b1) := HN5.out.at_ 3; have y4_5 : w5.cell? ⟨g, 4, none⟩ = some (.int .i64 f.c0) := HN5.out.at_ 4; have y5_5 : w5.cell? ⟨g, 5, none⟩ = some (.int .i64 f.c1) := HN5.out.at_ 5; have y6_5 : w5.cell? ⟨g, 6, none⟩ = some (.int .i64 f.d0) := HN5.out.at_ 6; have y7_5 : w5.cell? ⟨g, 7, none⟩ = some (.int .i64 f.d1) := HN5.out.at_ 7))
            go_ret
            exact ⟨by (first | (rw [HR.out, HFF.out]; done) | simp [HR.out, HFF.out]), HB5.out⟩
          | true =>
            have HB1_ := Aside0.mk hb_1
            clear hb_1
            cases hb_2 : holdsB f.c0 f.c1 (x.f8) with
            | false =>
              have HB2_ := Aside0.mk hb_2
              clear hb_2
              have hF : fitsB x = false := by
                rw [HFE.out, if_pos HCT.out, if_neg HE.out]
                unfold Fm.allB
                rw [HB0_.out, HB1_.out, HB2_.out]
                rfl
              have HFF := Aside0.mk hF
              clear hF
              go_wp2_with (first | (go_at_call 56; (with_reducible refine (statement_limit_holds.calls f.a0 f.a1 (x.f6) true _ (by rw [holds_is]; exact congrArg some HB0_.out)).mono ?_); rintro e w4 ⟨rfl, hb4⟩; have HX4 := Aside0.mk (HX3.out.below hb4); have HN4 := Aside0.mk (HN3.out.below hb4); have HB4 := Aside0.mk (below_step HB3.out hb4); clear hb4; have x7_4 : w4.cell? ⟨W.heap.size, 7, none⟩ = some (.int .i64 x.f7) := HX4.out.at_ 7; have x8_4 : w4.cell? ⟨W.heap.size, 8, none⟩ = some (.int .i64 x.f8) := HX4.out.at_ 8; have x9_4 : w4.cell? ⟨W.heap.size, 9, none⟩ = some (.int .i64 x.f9) := HX4.out.at_ 9; have y2_4 : w4.cell? ⟨g, 2, none⟩ = some (.int .i64 f.b0) := HN4.out.at_ 2; have y3_4 : w4.cell? ⟨g, 3, none⟩ = some (.int .i64 f.b1) := HN4.out.at_ 3; have y4_4 : w4.cell? ⟨g, 4, none⟩ = some (.int .i64 f.c0) := HN4.out.at_ 4; have y5_4 : w4.cell? ⟨g, 5, none⟩ = some (.int .i64 f.c1) := HN4.out.at_ 5; have y6_4 : w4.cell? ⟨g, 6, none⟩ = some (.int .i64 f.d0) := HN4.out.at_ 6; have y7_4 : w4.cell? ⟨g, 7, none⟩ = some (.int .i64 f.d1) := HN4.out.at_ 7) | (go_at_call 56; (with_reducible refine (statement_limit_holds.calls f.b0 f.b1 (x.f7) true _ (by rw [holds_is]; exact congrArg some HB1_.out)).mono ?_); rintro e w5 ⟨rfl, hb5⟩; have HX5 := Aside0.mk (HX4.out.below hb5); have HN5 := Aside0.mk (HN4.out.below hb5); have HB5 := Aside0.mk (below_step HB4.out hb5); clear hb5; have x7_5 : w5.cell? ⟨W.heap.size, 7, none⟩ = some (.int .i64 x.f7) := HX5.out.at_ 7; have x8_5 : w5.cell? ⟨W.heap.size, 8, none⟩ = some (.int .i64 x.f8) := HX5.out.at_ 8; have x9_5 : w5.cell? ⟨W.heap.size, 9, none⟩ = some (.int .i64 x.f9) := HX5.out.at_ 9; have y2_5 : w5.cell? ⟨g, 2, none⟩ = some (.int .i64 f.b0) := HN5.out.at_ 2; have y3_5 : w5.cell? ⟨g, 3, none⟩ = some (.int .i64 f.b1) := HN5.out.at_ 3; have y4_5 : w5.cell? ⟨g, 4, none⟩ = some (.int .i64 f.c0) := HN5.out.at_ 4; have y5_5 : w5.cell? ⟨g, 5, none⟩ = some (.int .i64 f.c1) := HN5.out.at_ 5; have y6_5 : w5.cell? ⟨g, 6, none⟩ = some (.int .i64 f.d0) := HN5.out.at_ 6; have y7_5 : w5.cell? ⟨g, 7, none⟩ = some (.int .i64 f.d1) := HN5.out.at_ 7) | (go_at_call 56; (with_reducible refine (statement_limit_holds.calls f.c0 f.c1 (x.f8) false _ (by rw [holds_is]; exact congrArg some HB2_.out)).mono ?_); rintro e w6 ⟨rfl, hb6⟩; have HX6 := Aside0.mk (HX5.out.below hb6); have HN6 := Aside0.mk (HN5.out.below hb6); have HB6 := Aside0.mk (below_step HB5.out hb6); clear hb6; have x7_6 : w6.cell? ⟨W.heap.size, 7, none⟩ = some (.int .i64 x.f7) := HX6.out.at_ 7; have x8_6 : w6.cell? ⟨W.heap.size, 8, none⟩ = some (.int .i64 x.f8) := HX6.out.at_ 8; have x9_6 : w6.cell? ⟨W.heap.size, 9, none⟩ = some (.int .i64 x.f9) := HX6.out.at_ 9; have y2_6 : w6.cell? ⟨g, 2, none⟩ = some (.int .i64 f.b0) := HN6.out.at_ 2; have y3_6 : w6.cell? ⟨g, 3, none⟩ = some (.int .i64 f.b1) := HN6.out.at_ 3; have y4_6 : w6.cell? ⟨g, 4, none⟩ = some (.int .i64 f.c0) := HN6.out.at_ 4; have y5_6 : w6.cell? ⟨g, 5, none⟩ = some (.int .i64 f.c1) := HN6.out.at_ 5; have y6_6 : w6.cell? ⟨g, 6, none⟩ = some (.int .i64 f.d0) := HN6.out.at_ 6; have y7_6 : w6.cell? ⟨g, 7, none⟩ = some (.int .i64 f.d1) := HN6.out.at_ 7))
              go_ret
              exact ⟨by (first | (rw [HR.out, HFF.out]; done) | simp [HR.out, HFF.out]), HB6.out⟩
            | true =>
              have HB2_ := Aside0.mk hb_2
              clear hb_2
              cases hb_3 : holdsB f.d0 f.d1 (wrap64 (x.f9 - x.f4)) with
              | false =>
                have HB3_ := Aside0.mk hb_3
                clear hb_3
                have hF : fitsB x = false := by
                  rw [HFE.out, if_pos HCT.out, if_neg HE.out]
                  unfold Fm.allB
                  rw [HB0_.out, HB1_.out, HB2_.out, HB3_.out]
                  rfl
                have HFF := Aside0.mk hF
                clear hF
                go_wp2_with (first | (go_at_call 56; (with_reducible refine (statement_limit_holds.calls f.a0 f.a1 (x.f6) true _ (by rw [holds_is]; exact congrArg some HB0_.out)).mono ?_); rintro e w4 ⟨rfl, hb4⟩; have HX4 := Aside0.mk (HX3.out.below hb4); have HN4 := Aside0.mk (HN3.out.below hb4); have HB4 := Aside0.mk (below_step HB3.out hb4); clear hb4; have x7_4 : w4.cell? ⟨W.heap.size, 7, none⟩ = some (.int .i64 x.f7) := HX4.out.at_ 7; have x8_4 : w4.cell? ⟨W.heap.size, 8, none⟩ = some (.int .i64 x.f8) := HX4.out.at_ 8; have x9_4 : w4.cell? ⟨W.heap.size, 9, none⟩ = some (.int .i64 x.f9) := HX4.out.at_ 9; have y2_4 : w4.cell? ⟨g, 2, none⟩ = some (.int .i64 f.b0) := HN4.out.at_ 2; have y3_4 : w4.cell? ⟨g, 3, none⟩ = some (.int .i64 f.b1) := HN4.out.at_ 3; have y4_4 : w4.cell? ⟨g, 4, none⟩ = some (.int .i64 f.c0) := HN4.out.at_ 4; have y5_4 : w4.cell? ⟨g, 5, none⟩ = some (.int .i64 f.c1) := HN4.out.at_ 5; have y6_4 : w4.cell? ⟨g, 6, none⟩ = some (.int .i64 f.d0) := HN4.out.at_ 6; have y7_4 : w4.cell? ⟨g, 7, none⟩ = some (.int .i64 f.d1) := HN4.out.at_ 7) | (go_at_call 56; (with_reducible refine (statement_limit_holds.calls f.b0 f.b1 (x.f7) true _ (by rw [holds_is]; exact congrArg some HB1_.out)).mono ?_); rintro e w5 ⟨rfl, hb5⟩; have HX5 := Aside0.mk (HX4.out.below hb5); have HN5 := Aside0.mk (HN4.out.below hb5); have HB5 := Aside0.mk (below_step HB4.out hb5); clear hb5; have x7_5 : w5.cell? ⟨W.heap.size, 7, none⟩ = some (.int .i64 x.f7) := HX5.out.at_ 7; have x8_5 : w5.cell? ⟨W.heap.size, 8, none⟩ = some (.int .i64 x.f8) := HX5.out.at_ 8; have x9_5 : w5.cell? ⟨W.heap.size, 9, none⟩ = some (.int .i64 x.f9) := HX5.out.at_ 9; have y2_5 : w5.cell? ⟨g, 2, none⟩ = some (.int .i64 f.b0) := HN5.out.at_ 2; have y3_5 : w5.cell? ⟨g, 3, none⟩ = some (.int .i64 f.b1) := HN5.out.at_ 3; have y4_5 : w5.cell? ⟨g, 4, none⟩ = some (.int .i64 f.c0) := HN5.out.at_ 4; have y5_5 : w5.cell? ⟨g, 5, none⟩ = some (.int .i64 f.c1) := HN5.out.at_ 5; have y6_5 : w5.cell? ⟨g, 6, none⟩ = some (.int .i64 f.d0) := HN5.out.at_ 6; have y7_5 : w5.cell? ⟨g, 7, none⟩ = some (.int .i64 f.d1) := HN5.out.at_ 7) | (go_at_call 56; (with_reducible refine (statement_limit_holds.calls f.c0 f.c1 (x.f8) true _ (by rw [holds_is]; exact congrArg some HB2_.out)).mono ?_); rintro e w6 ⟨rfl, hb6⟩; have HX6 := Aside0.mk (HX5.out.below hb6); have HN6 := Aside0.mk (HN5.out.below hb6); have HB6 := Aside0.mk (below_step HB5.out hb6); clear hb6; have x7_6 : w6.cell? ⟨W.heap.size, 7, none⟩ = some (.int .i64 x.f7) := HX6.out.at_ 7; have x8_6 : w6.cell? ⟨W.heap.size, 8, none⟩ = some (.int .i64 x.f8) := HX6.out.at_ 8; have x9_6 : w6.cell? ⟨W.heap.size, 9, none⟩ = some (.int .i64 x.f9) := HX6.out.at_ 9; have y2_6 : w6.cell? ⟨g, 2, none⟩ = some (.int .i64 f.b0) := HN6.out.at_ 2; have y3_6 : w6.cell? ⟨g, 3, none⟩ = some (.int .i64 f.b1) := HN6.out.at_ 3; have y4_6 : w6.cell? ⟨g, 4, none⟩ = some (.int .i64 f.c0) := HN6.out.at_ 4; have y5_6 : w6.cell? ⟨g, 5, none⟩ = some (.int .i64 f.c1) := HN6.out.at_ 5; have y6_6 : w6.cell? ⟨g, 6, none⟩ = some (.int .i64 f.d0) := HN6.out.at_ 6; have y7_6 : w6.cell? ⟨g, 7, none⟩ = some (.int .i64 f.d1) := HN6.out.at_ 7) | (go_at_call 56; (with_reducible refine (statement_limit_holds.calls f.d0 f.d1 (wrap64 (x.f9 - x.f4)) false _ (by rw [holds_is]; exact congrArg some HB3_.out)).mono ?_); rintro e w7 ⟨rfl, hb7⟩; have HX7 := Aside0.mk (HX6.out.below hb7); have HN7 := Aside0.mk (HN6.out.below hb7); have HB7 := Aside0.mk (below_step HB6.out hb7); clear hb7; have x7_7 : w7.cell? ⟨W.heap.size, 7, none⟩ = some (.int .i64 x.f7) := HX7.out.at_ 7; have x8_7 : w7.cell? ⟨W.heap.size, 8, none⟩ = some (.int .i64 x.f8) := HX7.out.at_ 8; have x9_7 : w7.cell? ⟨W.heap.size, 9, none⟩ = some (.int .i64 x.f9) := HX7.out.at_ 9; have y2_7 : w7.cell? ⟨g, 2, none⟩ = some (.int .i64 f.b0) := HN7.out.at_ 2; have y3_7 : w7.cell? ⟨g, 3, none⟩ = some (.int .i64 f.b1) := HN7.out.at_ 3; have y4_7 : w7.cell? ⟨g, 4, none⟩ = some (.int .i64 f.c0) := HN7.out.at_ 4; have y5_7 : w7.cell? ⟨g, 5, none⟩ = some (.int .i64 f.c1) := HN7.out.at_ 5; have y6_7 : w7.cell? ⟨g, 6, none⟩ = some (.int .i64 f.d0) := HN7.out.at_ 6; have y7_7 : w7.cell? ⟨g, 7, none⟩ = some (.int .i64 f.d1) := HN7.out.at_ 7))
                go_ret
                exact ⟨by (first | (rw [HR.out, HFF.out]; done) | simp [HR.out, HFF.out]), HB7.out⟩
              | true =>
                have HB3_ := Aside0.mk hb_3
                clear hb_3
                have hF : fitsB x = true := by
                  rw [HFE.out, if_pos HCT.out, if_neg HE.out]
                  unfold Fm.allB
                  rw [HB0_.out, HB1_.out, HB2_.out, HB3_.out]
                  rfl
                have HFF := Aside0.mk hF
                clear hF
                go_wp2_with (first | (go_at_call 56; (with_reducible refine (statement_limit_holds.calls f.a0 f.a1 (x.f6) true _ (by rw [holds_is]; exact congrArg some HB0_.out)).mono ?_); rintro e w4 ⟨rfl, hb4⟩; have HX4 := Aside0.mk (HX3.out.below hb4); have HN4 := Aside0.mk (HN3.out.below hb4); have HB4 := Aside0.mk (below_step HB3.out hb4); clear hb4; have x7_4 : w4.cell? ⟨W.heap.size, 7, none⟩ = some (.int .i64 x.f7) := HX4.out.at_ 7; have x8_4 : w4.cell? ⟨W.heap.size, 8, none⟩ = some (.int .i64 x.f8) := HX4.out.at_ 8; have x9_4 : w4.cell? ⟨W.heap.size, 9, none⟩ = some (.int .i64 x.f9) := HX4.out.at_ 9; have y2_4 : w4.cell? ⟨g, 2, none⟩ = some (.int .i64 f.b0) := HN4.out.at_ 2; have y3_4 : w4.cell? ⟨g, 3, none⟩ = some (.int .i64 f.b1) := HN4.out.at_ 3; have y4_4 : w4.cell? ⟨g, 4, none⟩ = some (.int .i64 f.c0) := HN4.out.at_ 4; have y5_4 : w4.cell? ⟨g, 5, none⟩ = some (.int .i64 f.c1) := HN4.out.at_ 5; have y6_4 : w4.cell? ⟨g, 6, none⟩ = some (.int .i64 f.d0) := HN4.out.at_ 6; have y7_4 : w4.cell? ⟨g, 7, none⟩ = some (.int .i64 f.d1) := HN4.out.at_ 7) | (go_at_call 56; (with_reducible refine (statement_limit_holds.calls f.b0 f.b1 (x.f7) true _ (by rw [holds_is]; exact congrArg some HB1_.out)).mono ?_); rintro e w5 ⟨rfl, hb5⟩; have HX5 := Aside0.mk (HX4.out.below hb5); have HN5 := Aside0.mk (HN4.out.below hb5); have HB5 := Aside0.mk (below_step HB4.out hb5); clear hb5; have x7_5 : w5.cell? ⟨W.heap.size, 7, none⟩ = some (.int .i64 x.f7) := HX5.out.at_ 7; have x8_5 : w5.cell? ⟨W.heap.size, 8, none⟩ = some (.int .i64 x.f8) := HX5.out.at_ 8; have x9_5 : w5.cell? ⟨W.heap.size, 9, none⟩ = some (.int .i64 x.f9) := HX5.out.at_ 9; have y2_5 : w5.cell? ⟨g, 2, none⟩ = some (.int .i64 f.b0) := HN5.out.at_ 2; have y3_5 : w5.cell? ⟨g, 3, none⟩ = some (.int .i64 f.b1) := HN5.out.at_ 3; have y4_5 : w5.cell? ⟨g, 4, none⟩ = some (.int .i64 f.c0) := HN5.out.at_ 4; have y5_5 : w5.cell? ⟨g, 5, none⟩ = some (.int .i64 f.c1) := HN5.out.at_ 5; have y6_5 : w5.cell? ⟨g, 6, none⟩ = some (.int .i64 f.d0) := HN5.out.at_ 6; have y7_5 : w5.cell? ⟨g, 7, none⟩ = some (.int .i64 f.d1) := HN5.out.at_ 7) | (go_at_call 56; (with_reducible refine (statement_limit_holds.calls f.c0 f.c1 (x.f8) true _ (by rw [holds_is]; exact congrArg some HB2_.out)).mono ?_); rintro e w6 ⟨rfl, hb6⟩; have HX6 := Aside0.mk (HX5.out.below hb6); have HN6 := Aside0.mk (HN5.out.below hb6); have HB6 := Aside0.mk (below_step HB5.out hb6); clear hb6; have x7_6 : w6.cell? ⟨W.heap.size, 7, none⟩ = some (.int .i64 x.f7) := HX6.out.at_ 7; have x8_6 : w6.cell? ⟨W.heap.size, 8, none⟩ = some (.int .i64 x.f8) := HX6.out.at_ 8; have x9_6 : w6.cell? ⟨W.heap.size, 9, none⟩ = some (.int .i64 x.f9) := HX6.out.at_ 9; have y2_6 : w6.cell? ⟨g, 2, none⟩ = some (.int .i64 f.b0) := HN6.out.at_ 2; have y3_6 : w6.cell? ⟨g, 3, none⟩ = some (.int .i64 f.b1) := HN6.out.at_ 3; have y4_6 : w6.cell? ⟨g, 4, none⟩ = some (.int .i64 f.c0) := HN6.out.at_ 4; have y5_6 : w6.cell? ⟨g, 5, none⟩ = some (.int .i64 f.c1) := HN6.out.at_ 5; have y6_6 : w6.cell? ⟨g, 6, none⟩ = some (.int .i64 f.d0) := HN6.out.at_ 6; have y7_6 : w6.cell? ⟨g, 7, none⟩ = some (.int .i64 f.d1) := HN6.out.at_ 7) | (go_at_call 56; (with_reducible refine (statement_limit_holds.calls f.d0 f.d1 (wrap64 (x.f9 - x.f4)) true _ (by rw [holds_is]; exact congrArg some HB3_.out)).mono ?_); rintro e w7 ⟨rfl, hb7⟩; have HX7 := Aside0.mk (HX6.out.below hb7); have HN7 := Aside0.mk (HN6.out.below hb7); have HB7 := Aside0.mk (below_step HB6.out hb7); clear hb7; have x7_7 : w7.cell? ⟨W.heap.size, 7, none⟩ = some (.int .i64 x.f7) := HX7.out.at_ 7; have x8_7 : w7.cell? ⟨W.heap.size, 8, none⟩ = some (.int .i64 x.f8) := HX7.out.at_ 8; have x9_7 : w7.cell? ⟨W.heap.size, 9, none⟩ = some (.int .i64 x.f9) := HX7.out.at_ 9; have y2_7 : w7.cell? ⟨g, 2, none⟩ = some (.int .i64 f.b0) := HN7.out.at_ 2; have y3_7 : w7.cell? ⟨g, 3, none⟩ = some (.int .i64 f.b1) := HN7.out.at_ 3; have y4_7 : w7.cell? ⟨g, 4, none⟩ = some (.int .i64 f.c0) := HN7.out.at_ 4; have y5_7 : w7.cell? ⟨g, 5, none⟩ = some (.int .i64 f.c1) := HN7.out.at_ 5; have y6_7 : w7.cell? ⟨g, 6, none⟩ = some (.int .i64 f.d0) := HN7.out.at_ 6; have y7_7 : w7.cell? ⟨g, 7, none⟩ = some (.int .i64 f.d1) := HN7.out.at_ 7))
                go_ret
                exact ⟨by (first | (rw [HR.out, HFF.out]; done) | simp [HR.out, HFF.out]), HB7.out⟩
  | false =>
    rw [hct] at y8
    have HCT : Aside0 (¬ f.ct = true) := ⟨by rw [hct]; decide⟩
    clear hct
    cases hlk : f.lk with
    | true =>
      rw [hlk] at y9
      have HLK := Aside0.mk hlk
      clear hlk
      by_cases e1 : x.f9 < 1
      · have HE1 := Aside0.mk e1
        have d3 : decide (x.f9 < 1) = true := decide_eq_true e1
        clear e1
        have hF : fitsB x = false := by rw [HFE.out, if_neg HCT.out, if_pos HLK.out, if_pos (.inl HE1.out)]
        have HFF := Aside0.mk hF
        clear hF
        go_wp2
        go_ret
        exact ⟨by (first | (rw [HR.out, HFF.out]; done) | simp [HR.out, HFF.out]), HB3.out⟩
      · have d3 : decide (x.f9 < 1) = false := decide_eq_false e1
        by_cases e2 : Int.tmod x.f9 3 = 1
        · have d4 : (Int.tmod x.f9 3 == 1) = true := beq_iff_eq.mpr e2
          have d5 : (Int.tmod x.f9 3 != 1) = false := bne_eq_false_iff_eq.mpr e2
          have HE : Aside0 (¬ (x.f9 < 1 ∨ ¬ Int.tmod x.f9 3 = 1)) := ⟨fun h => h.elim e1 (fun h => h e2)⟩
          clear e1 e2
          go_upto_region 12 with (fail)
          (try simp only [i64_w])
          cases hb_0 : holdsB f.a0 f.a1 (x.f6) with
          | false =>
            have HB0_ := Aside0.mk hb_0
            clear hb_0
            have hF : fitsB x = false := by
              rw [HFE.out, if_neg HCT.out, if_pos HLK.out, if_neg HE.out]
              unfold Fm.allB
              rw [HB0_.out]
              rfl
            have HFF := Aside0.mk hF
            clear hF
            go_wp2_with (first | (go_at_call 56; (with_reducible refine (statement_limit_holds.calls f.a0 f.a1 (x.f6) false _ (by rw [holds_is]; exact congrArg some HB0_.out)).mono ?_); rintro e w4 ⟨rfl, hb4⟩; have HX4 := Aside0.mk (HX3.out.below hb4); have HN4 := Aside0.mk (HN3.out.below hb4); have HB4 := Aside0.mk (below_step HB3.out hb4); clear hb4; have x7_4 : w4.cell? ⟨W.heap.size, 7, none⟩ = some (.int .i64 x.f7) := HX4.out.at_ 7; have x8_4 : w4.cell? ⟨W.heap.size, 8, none⟩ = some (.int .i64 x.f8) := HX4.out.at_ 8; have x9_4 : w4.cell? ⟨W.heap.size, 9, none⟩ = some (.int .i64 x.f9) := HX4.out.at_ 9; have y2_4 : w4.cell? ⟨g, 2, none⟩ = some (.int .i64 f.b0) := HN4.out.at_ 2; have y3_4 : w4.cell? ⟨g, 3, none⟩ = some (.int .i64 f.b1) := HN4.out.at_ 3; have y4_4 : w4.cell? ⟨g, 4, none⟩ = some (.int .i64 f.c0) := HN4.out.at_ 4; have y5_4 : w4.cell? ⟨g, 5, none⟩ = some (.int .i64 f.c1) := HN4.out.at_ 5; have y6_4 : w4.cell? ⟨g, 6, none⟩ = some (.int .i64 f.d0) := HN4.out.at_ 6; have y7_4 : w4.cell? ⟨g, 7, none⟩ = some (.int .i64 f.d1) := HN4.out.at_ 7))
            go_ret
            exact ⟨by (first | (rw [HR.out, HFF.out]; done) | simp [HR.out, HFF.out]), HB4.out⟩
          | true =>
            have HB0_ := Aside0.mk hb_0
            clear hb_0
            cases hb_1 : holdsB f.b0 f.b1 (x.f7) with
            | false =>
              have HB1_ := Aside0.mk hb_1
              clear hb_1
              have hF : fitsB x = false := by
                rw [HFE.out, if_neg HCT.out, if_pos HLK.out, if_neg HE.out]
                unfold Fm.allB
                rw [HB0_.out, HB1_.out]
                rfl
              have HFF := Aside0.mk hF
              clear hF
              go_wp2_with (first | (go_at_call 56; (with_reducible refine (statement_limit_holds.calls f.a0 f.a1 (x.f6) true _ (by rw [holds_is]; exact congrArg some HB0_.out)).mono ?_); rintro e w4 ⟨rfl, hb4⟩; have HX4 := Aside0.mk (HX3.out.below hb4); have HN4 := Aside0.mk (HN3.out.below hb4); have HB4 := Aside0.mk (below_step HB3.out hb4); clear hb4; have x7_4 : w4.cell? ⟨W.heap.size, 7, none⟩ = some (.int .i64 x.f7) := HX4.out.at_ 7; have x8_4 : w4.cell? ⟨W.heap.size, 8, none⟩ = some (.int .i64 x.f8) := HX4.out.at_ 8; have x9_4 : w4.cell? ⟨W.heap.size, 9, none⟩ = some (.int .i64 x.f9) := HX4.out.at_ 9; have y2_4 : w4.cell? ⟨g, 2, none⟩ = some (.int .i64 f.b0) := HN4.out.at_ 2; have y3_4 : w4.cell? ⟨g, 3, none⟩ = some (.int .i64 f.b1) := HN4.out.at_ 3; have y4_4 : w4.cell? ⟨g, 4, none⟩ = some (.int .i64 f.c0) := HN4.out.at_ 4; have y5_4 : w4.cell? ⟨g, 5, none⟩ = some (.int .i64 f.c1) := HN4.out.at_ 5; have y6_4 : w4.cell? ⟨g, 6, none⟩ = some (.int .i64 f.d0) := HN4.out.at_ 6; have y7_4 : w4.cell? ⟨g, 7, none⟩ = some (.int .i64 f.d1) := HN4.out.at_ 7) | (go_at_call 56; (with_reducible refine (statement_limit_holds.calls f.b0 f.b1 (x.f7) false _ (by rw [holds_is]; exact congrArg some HB1_.out)).mono ?_); rintro e w5 ⟨rfl, hb5⟩; have HX5 := Aside0.mk (HX4.out.below hb5); have HN5 := Aside0.mk (HN4.out.below hb5); have HB5 := Aside0.mk (below_step HB4.out hb5); clear hb5; have x7_5 : w5.cell? ⟨W.heap.size, 7, none⟩ = some (.int .i64 x.f7) := HX5.out.at_ 7; have x8_5 : w5.cell? ⟨W.heap.size, 8, none⟩ = some (.int .i64 x.f8) := HX5.out.at_ 8; have x9_5 : w5.cell? ⟨W.heap.size, 9, none⟩ = some (.int .i64 x.f9) := HX5.out.at_ 9; have y2_5 : w5.cell? ⟨g, 2, none⟩ = some (.int .i64 f.b0) := HN5.out.at_ 2; have y3_5 : w5.cell? ⟨g, 3, none⟩ = some (.int .i64 f.b1) := HN5.out.at_ 3; have y4_5 : w5.cell? ⟨g, 4, none⟩ = some (.int .i64 f.c0) := HN5.out.at_ 4; have y5_5 : w5.cell? ⟨g, 5, none⟩ = some (.int .i64 f.c1) := HN5.out.at_ 5; have y6_5 : w5.cell? ⟨g, 6, none⟩ = some (.int .i64 f.d0) := HN5.out.at_ 6; have y7_5 : w5.cell? ⟨g, 7, none⟩ = some (.int .i64 f.d1) := HN5.out.at_ 7))
              go_ret
              exact ⟨by (first | (rw [HR.out, HFF.out]; done) | simp [HR.out, HFF.out]), HB5.out⟩
            | true =>
              have HB1_ := Aside0.mk hb_1
              clear hb_1
              cases hb_2 : holdsB f.c0 f.c1 (x.f8) with
              | false =>
                have HB2_ := Aside0.mk hb_2
                clear hb_2
                have hF : fitsB x = false := by
                  rw [HFE.out, if_neg HCT.out, if_pos HLK.out, if_neg HE.out]
                  unfold Fm.allB
                  rw [HB0_.out, HB1_.out, HB2_.out]
                  rfl
                have HFF := Aside0.mk hF
                clear hF
                go_wp2_with (first | (go_at_call 56; (with_reducible refine (statement_limit_holds.calls f.a0 f.a1 (x.f6) true _ (by rw [holds_is]; exact congrArg some HB0_.out)).mono ?_); rintro e w4 ⟨rfl, hb4⟩; have HX4 := Aside0.mk (HX3.out.below hb4); have HN4 := Aside0.mk (HN3.out.below hb4); have HB4 := Aside0.mk (below_step HB3.out hb4); clear hb4; have x7_4 : w4.cell? ⟨W.heap.size, 7, none⟩ = some (.int .i64 x.f7) := HX4.out.at_ 7; have x8_4 : w4.cell? ⟨W.heap.size, 8, none⟩ = some (.int .i64 x.f8) := HX4.out.at_ 8; have x9_4 : w4.cell? ⟨W.heap.size, 9, none⟩ = some (.int .i64 x.f9) := HX4.out.at_ 9; have y2_4 : w4.cell? ⟨g, 2, none⟩ = some (.int .i64 f.b0) := HN4.out.at_ 2; have y3_4 : w4.cell? ⟨g, 3, none⟩ = some (.int .i64 f.b1) := HN4.out.at_ 3; have y4_4 : w4.cell? ⟨g, 4, none⟩ = some (.int .i64 f.c0) := HN4.out.at_ 4; have y5_4 : w4.cell? ⟨g, 5, none⟩ = some (.int .i64 f.c1) := HN4.out.at_ 5; have y6_4 : w4.cell? ⟨g, 6, none⟩ = some (.int .i64 f.d0) := HN4.out.at_ 6; have y7_4 : w4.cell? ⟨g, 7, none⟩ = some (.int .i64 f.d1) := HN4.out.at_ 7) | (go_at_call 56; (with_reducible refine (statement_limit_holds.calls f.b0 f.b1 (x.f7) true _ (by rw [holds_is]; exact congrArg some HB1_.out)).mono ?_); rintro e w5 ⟨rfl, hb5⟩; have HX5 := Aside0.mk (HX4.out.below hb5); have HN5 := Aside0.mk (HN4.out.below hb5); have HB5 := Aside0.mk (below_step HB4.out hb5); clear hb5; have x7_5 : w5.cell? ⟨W.heap.size, 7, none⟩ = some (.int .i64 x.f7) := HX5.out.at_ 7; have x8_5 : w5.cell? ⟨W.heap.size, 8, none⟩ = some (.int .i64 x.f8) := HX5.out.at_ 8; have x9_5 : w5.cell? ⟨W.heap.size, 9, none⟩ = some (.int .i64 x.f9) := HX5.out.at_ 9; have y2_5 : w5.cell? ⟨g, 2, none⟩ = some (.int .i64 f.b0) := HN5.out.at_ 2; have y3_5 : w5.cell? ⟨g, 3, none⟩ = some (.int .i64 f.b1) := HN5.out.at_ 3; have y4_5 : w5.cell? ⟨g, 4, none⟩ = some (.int .i64 f.c0) := HN5.out.at_ 4; have y5_5 : w5.cell? ⟨g, 5, none⟩ = some (.int .i64 f.c1) := HN5.out.at_ 5; have y6_5 : w5.cell? ⟨g, 6, none⟩ = some (.int .i64 f.d0) := HN5.out.at_ 6; have y7_5 : w5.cell? ⟨g, 7, none⟩ = some (.int .i64 f.d1) := HN5.out.at_ 7) | (go_at_call 56; (with_reducible refine (statement_limit_holds.calls f.c0 f.c1 (x.f8) false _ (by rw [holds_is]; exact congrArg some HB2_.out)).mono ?_); rintro e w6 ⟨rfl, hb6⟩; have HX6 := Aside0.mk (HX5.out.below hb6); have HN6 := Aside0.mk (HN5.out.below hb6); have HB6 := Aside0.mk (below_step HB5.out hb6); clear hb6; have x7_6 : w6.cell? ⟨W.heap.size, 7, none⟩ = some (.int .i64 x.f7) := HX6.out.at_ 7; have x8_6 : w6.cell? ⟨W.heap.size, 8, none⟩ = some (.int .i64 x.f8) := HX6.out.at_ 8; have x9_6 : w6.cell? ⟨W.heap.size, 9, none⟩ = some (.int .i64 x.f9) := HX6.out.at_ 9; have y2_6 : w6.cell? ⟨g, 2, none⟩ = some (.int .i64 f.b0) := HN6.out.at_ 2; have y3_6 : w6.cell? ⟨g, 3, none⟩ = some (.int .i64 f.b1) := HN6.out.at_ 3; have y4_6 : w6.cell? ⟨g, 4, none⟩ = some (.int .i64 f.c0) := HN6.out.at_ 4; have y5_6 : w6.cell? ⟨g, 5, none⟩ = some (.int .i64 f.c1) := HN6.out.at_ 5; have y6_6 : w6.cell? ⟨g, 6, none⟩ = some (.int .i64 f.d0) := HN6.out.at_ 6; have y7_6 : w6.cell? ⟨g, 7, none⟩ = some (.int .i64 f.d1) := HN6.out.at_ 7))
                go_ret
                exact ⟨by (first | (rw [HR.out, HFF.out]; done) | simp [HR.out, HFF.out]), HB6.out⟩
              | true =>
                have HB2_ := Aside0.mk hb_2
                clear hb_2
                cases hb_3 : holdsB f.d0 f.d1 (wrap64 (Int.tdiv x.f9 3)) with
                | false =>
                  have HB3_ := Aside0.mk hb_3
                  clear hb_3
                  have hF : fitsB x = false := by
                    rw [HFE.out, if_neg HCT.out, if_pos HLK.out, if_neg HE.out]
                    unfold Fm.allB
                    rw [HB0_.out, HB1_.out, HB2_.out, HB3_.out]
                    rfl
                  have HFF := Aside0.mk hF
                  clear hF
                  go_wp2_with (first | (go_at_call 56; (with_reducible refine (statement_limit_holds.calls f.a0 f.a1 (x.f6) true _ (by rw [holds_is]; exact congrArg some HB0_.out)).mono ?_); rintro e w4 ⟨rfl, hb4⟩; have HX4 := Aside0.mk (HX3.out.below hb4); have HN4 := Aside0.mk (HN3.out.below hb4); have HB4 := Aside0.mk (below_step HB3.out hb4); clear hb4; have x7_4 : w4.cell? ⟨W.heap.size, 7, none⟩ = some (.int .i64 x.f7) := HX4.out.at_ 7; have x8_4 : w4.cell? ⟨W.heap.size, 8, none⟩ = some (.int .i64 x.f8) := HX4.out.at_ 8; have x9_4 : w4.cell? ⟨W.heap.size, 9, none⟩ = some (.int .i64 x.f9) := HX4.out.at_ 9; have y2_4 : w4.cell? ⟨g, 2, none⟩ = some (.int .i64 f.b0) := HN4.out.at_ 2; have y3_4 : w4.cell? ⟨g, 3, none⟩ = some (.int .i64 f.b1) := HN4.out.at_ 3; have y4_4 : w4.cell? ⟨g, 4, none⟩ = some (.int .i64 f.c0) := HN4.out.at_ 4; have y5_4 : w4.cell? ⟨g, 5, none⟩ = some (.int .i64 f.c1) := HN4.out.at_ 5; have y6_4 : w4.cell? ⟨g, 6, none⟩ = some (.int .i64 f.d0) := HN4.out.at_ 6; have y7_4 : w4.cell? ⟨g, 7, none⟩ = some (.int .i64 f.d1) := HN4.out.at_ 7) | (go_at_call 56; (with_reducible refine (statement_limit_holds.calls f.b0 f.b1 (x.f7) true _ (by rw [holds_is]; exact congrArg some HB1_.out)).mono ?_); rintro e w5 ⟨rfl, hb5⟩; have HX5 := Aside0.mk (HX4.out.below hb5); have HN5 := Aside0.mk (HN4.out.below hb5); have HB5 := Aside0.mk (below_step HB4.out hb5); clear hb5; have x7_5 : w5.cell? ⟨W.heap.size, 7, none⟩ = some (.int .i64 x.f7) := HX5.out.at_ 7; have x8_5 : w5.cell? ⟨W.heap.size, 8, none⟩ = some (.int .i64 x.f8) := HX5.out.at_ 8; have x9_5 : w5.cell? ⟨W.heap.size, 9, none⟩ = some (.int .i64 x.f9) := HX5.out.at_ 9; have y2_5 : w5.cell? ⟨g, 2, none⟩ = some (.int .i64 f.b0) := HN5.out.at_ 2; have y3_5 : w5.cell? ⟨g, 3, none⟩ = some (.int .i64 f.b1) := HN5.out.at_ 3; have y4_5 : w5.cell? ⟨g, 4, none⟩ = some (.int .i64 f.c0) := HN5.out.at_ 4; have y5_5 : w5.cell? ⟨g, 5, none⟩ = some (.int .i64 f.c1) := HN5.out.at_ 5; have y6_5 : w5.cell? ⟨g, 6, none⟩ = some (.int .i64 f.d0) := HN5.out.at_ 6; have y7_5 : w5.cell? ⟨g, 7, none⟩ = some (.int .i64 f.d1) := HN5.out.at_ 7) | (go_at_call 56; (with_reducible refine (statement_limit_holds.calls f.c0 f.c1 (x.f8) true _ (by rw [holds_is]; exact congrArg some HB2_.out)).mono ?_); rintro e w6 ⟨rfl, hb6⟩; have HX6 := Aside0.mk (HX5.out.below hb6); have HN6 := Aside0.mk (HN5.out.below hb6); have HB6 := Aside0.mk (below_step HB5.out hb6); clear hb6; have x7_6 : w6.cell? ⟨W.heap.size, 7, none⟩ = some (.int .i64 x.f7) := HX6.out.at_ 7; have x8_6 : w6.cell? ⟨W.heap.size, 8, none⟩ = some (.int .i64 x.f8) := HX6.out.at_ 8; have x9_6 : w6.cell? ⟨W.heap.size, 9, none⟩ = some (.int .i64 x.f9) := HX6.out.at_ 9; have y2_6 : w6.cell? ⟨g, 2, none⟩ = some (.int .i64 f.b0) := HN6.out.at_ 2; have y3_6 : w6.cell? ⟨g, 3, none⟩ = some (.int .i64 f.b1) := HN6.out.at_ 3; have y4_6 : w6.cell? ⟨g, 4, none⟩ = some (.int .i64 f.c0) := HN6.out.at_ 4; have y5_6 : w6.cell? ⟨g, 5, none⟩ = some (.int .i64 f.c1) := HN6.out.at_ 5; have y6_6 : w6.cell? ⟨g, 6, none⟩ = some (.int .i64 f.d0) := HN6.out.at_ 6; have y7_6 : w6.cell? ⟨g, 7, none⟩ = some (.int .i64 f.d1) := HN6.out.at_ 7) | (go_at_call 56; (with_reducible refine (statement_limit_holds.calls f.d0 f.d1 (wrap64 (Int.tdiv x.f9 3)) false _ (by rw [holds_is]; exact congrArg some HB3_.out)).mono ?_); rintro e w7 ⟨rfl, hb7⟩; have HX7 := Aside0.mk (HX6.out.below hb7); have HN7 := Aside0.mk (HN6.out.below hb7); have HB7 := Aside0.mk (below_step HB6.out hb7); clear hb7; have x7_7 : w7.cell? ⟨W.heap.size, 7, none⟩ = some (.int .i64 x.f7) := HX7.out.at_ 7; have x8_7 : w7.cell? ⟨W.heap.size, 8, none⟩ = some (.int .i64 x.f8) := HX7.out.at_ 8; have x9_7 : w7.cell? ⟨W.heap.size, 9, none⟩ = some (.int .i64 x.f9) := HX7.out.at_ 9; have y2_7 : w7.cell? ⟨g, 2, none⟩ = some (.int .i64 f.b0) := HN7.out.at_ 2; have y3_7 : w7.cell? ⟨g, 3, none⟩ = some (.int .i64 f.b1) := HN7.out.at_ 3; have y4_7 : w7.cell? ⟨g, 4, none⟩ = some (.int .i64 f.c0) := HN7.out.at_ 4; have y5_7 : w7.cell? ⟨g, 5, none⟩ = some (.int .i64 f.c1) := HN7.out.at_ 5; have y6_7 : w7.cell? ⟨g, 6, none⟩ = some (.int .i64 f.d0) := HN7.out.at_ 6; have y7_7 : w7.cell? ⟨g, 7, none⟩ = some (.int .i64 f.d1) := HN7.out.at_ 7))
                  go_ret
                  exact ⟨by (first | (rw [HR.out, HFF.out]; done) | simp [HR.out, HFF.out]), HB7.out⟩
                | true =>
                  have HB3_ := Aside0.mk hb_3
                  clear hb_3
                  have hF : fitsB x = true := by
                    rw [HFE.out, if_neg HCT.out, if_pos HLK.out, if_neg HE.out]
                    unfold Fm.allB
                    rw [HB0_.out, HB1_.out, HB2_.out, HB3_.out]
                    rfl
                  have HFF := Aside0.mk hF
                  clear hF
                  go_wp2_with (first | (go_at_call 56; (with_reducible refine (statement_limit_holds.calls f.a0 f.a1 (x.f6) true _ (by rw [holds_is]; exact congrArg some HB0_.out)).mono ?_); rintro e w4 ⟨rfl, hb4⟩; have HX4 := Aside0.mk (HX3.out.below hb4); have HN4 := Aside0.mk (HN3.out.below hb4); have HB4 := Aside0.mk (below_step HB3.out hb4); clear hb4; have x7_4 : w4.cell? ⟨W.heap.size, 7, none⟩ = some (.int .i64 x.f7) := HX4.out.at_ 7; have x8_4 : w4.cell? ⟨W.heap.size, 8, none⟩ = some (.int .i64 x.f8) := HX4.out.at_ 8; have x9_4 : w4.cell? ⟨W.heap.size, 9, none⟩ = some (.int .i64 x.f9) := HX4.out.at_ 9; have y2_4 : w4.cell? ⟨g, 2, none⟩ = some (.int .i64 f.b0) := HN4.out.at_ 2; have y3_4 : w4.cell? ⟨g, 3, none⟩ = some (.int .i64 f.b1) := HN4.out.at_ 3; have y4_4 : w4.cell? ⟨g, 4, none⟩ = some (.int .i64 f.c0) := HN4.out.at_ 4; have y5_4 : w4.cell? ⟨g, 5, none⟩ = some (.int .i64 f.c1) := HN4.out.at_ 5; have y6_4 : w4.cell? ⟨g, 6, none⟩ = some (.int .i64 f.d0) := HN4.out.at_ 6; have y7_4 : w4.cell? ⟨g, 7, none⟩ = some (.int .i64 f.d1) := HN4.out.at_ 7) | (go_at_call 56; (with_reducible refine (statement_limit_holds.calls f.b0 f.b1 (x.f7) true _ (by rw [holds_is]; exact congrArg some HB1_.out)).mono ?_); rintro e w5 ⟨rfl, hb5⟩; have HX5 := Aside0.mk (HX4.out.below hb5); have HN5 := Aside0.mk (HN4.out.below hb5); have HB5 := Aside0.mk (below_step HB4.out hb5); clear hb5; have x7_5 : w5.cell? ⟨W.heap.size, 7, none⟩ = some (.int .i64 x.f7) := HX5.out.at_ 7; have x8_5 : w5.cell? ⟨W.heap.size, 8, none⟩ = some (.int .i64 x.f8) := HX5.out.at_ 8; have x9_5 : w5.cell? ⟨W.heap.size, 9, none⟩ = some (.int .i64 x.f9) := HX5.out.at_ 9; have y2_5 : w5.cell? ⟨g, 2, none⟩ = some (.int .i64 f.b0) := HN5.out.at_ 2; have y3_5 : w5.cell? ⟨g, 3, none⟩ = some (.int .i64 f.b1) := HN5.out.at_ 3; have y4_5 : w5.cell? ⟨g, 4, none⟩ = some (.int .i64 f.c0) := HN5.out.at_ 4; have y5_5 : w5.cell? ⟨g, 5, none⟩ = some (.int .i64 f.c1) := HN5.out.at_ 5; have y6_5 : w5.cell? ⟨g, 6, none⟩ = some (.int .i64 f.d0) := HN5.out.at_ 6; have y7_5 : w5.cell? ⟨g, 7, none⟩ = some (.int .i64 f.d1) := HN5.out.at_ 7) | (go_at_call 56; (with_reducible refine (statement_limit_holds.calls f.c0 f.c1 (x.f8) true _ (by rw [holds_is]; exact congrArg some HB2_.out)).mono ?_); rintro e w6 ⟨rfl, hb6⟩; have HX6 := Aside0.mk (HX5.out.below hb6); have HN6 := Aside0.mk (HN5.out.below hb6); have HB6 := Aside0.mk (below_step HB5.out hb6); clear hb6; have x7_6 : w6.cell? ⟨W.heap.size, 7, none⟩ = some (.int .i64 x.f7) := HX6.out.at_ 7; have x8_6 : w6.cell? ⟨W.heap.size, 8, none⟩ = some (.int .i64 x.f8) := HX6.out.at_ 8; have x9_6 : w6.cell? ⟨W.heap.size, 9, none⟩ = some (.int .i64 x.f9) := HX6.out.at_ 9; have y2_6 : w6.cell? ⟨g, 2, none⟩ = some (.int .i64 f.b0) := HN6.out.at_ 2; have y3_6 : w6.cell? ⟨g, 3, none⟩ = some (.int .i64 f.b1) := HN6.out.at_ 3; have y4_6 : w6.cell? ⟨g, 4, none⟩ = some (.int .i64 f.c0) := HN6.out.at_ 4; have y5_6 : w6.cell? ⟨g, 5, none⟩ = some (.int .i64 f.c1) := HN6.out.at_ 5; have y6_6 : w6.cell? ⟨g, 6, none⟩ = some (.int .i64 f.d0) := HN6.out.at_ 6; have y7_6 : w6.cell? ⟨g, 7, none⟩ = some (.int .i64 f.d1) := HN6.out.at_ 7) | (go_at_call 56; (with_reducible refine (statement_limit_holds.calls f.d0 f.d1 (wrap64 (Int.tdiv x.f9 3)) true _ (by rw [holds_is]; exact congrArg some HB3_.out)).mono ?_); rintro e w7 ⟨rfl, hb7⟩; have HX7 := Aside0.mk (HX6.out.below hb7); have HN7 := Aside0.mk (HN6.out.below hb7); have HB7 := Aside0.mk (below_step HB6.out hb7); clear hb7; have x7_7 : w7.cell? ⟨W.heap.size, 7, none⟩ = some (.int .i64 x.f7) := HX7.out.at_ 7; have x8_7 : w7.cell? ⟨W.heap.size, 8, none⟩ = some (.int .i64 x.f8) := HX7.out.at_ 8; have x9_7 : w7.cell? ⟨W.heap.size, 9, none⟩ = some (.int .i64 x.f9) := HX7.out.at_ 9; have y2_7 : w7.cell? ⟨g, 2, none⟩ = some (.int .i64 f.b0) := HN7.out.at_ 2; have y3_7 : w7.cell? ⟨g, 3, none⟩ = some (.int .i64 f.b1) := HN7.out.at_ 3; have y4_7 : w7.cell? ⟨g, 4, none⟩ = some (.int .i64 f.c0) := HN7.out.at_ 4; have y5_7 : w7.cell? ⟨g, 5, none⟩ = some (.int .i64 f.c1) := HN7.out.at_ 5; have y6_7 : w7.cell? ⟨g, 6, none⟩ = some (.int .i64 f.d0) := HN7.out.at_ 6; have y7_7 : w7.cell? ⟨g, 7, none⟩ = some (.int .i64 f.d1) := HN7.out.at_ 7))
                  go_ret
                  exact ⟨by (first | (rw [HR.out, HFF.out]; done) | simp [HR.out, HFF.out]), HB7.out⟩
        · have d4 : (Int.tmod x.f9 3 == 1) = false := beq_eq_false_iff_ne.mpr e2
          have d5 : (Int.tmod x.f9 3 != 1) = true := bne_iff_ne.mpr e2
          have HE2 := Aside0.mk e2
          clear e1 e2
          have hF : fitsB x = false := by rw [HFE.out, if_neg HCT.out, if_pos HLK.out, if_pos (.inr HE2.out)]
          have HFF := Aside0.mk hF
          clear hF
          go_wp2
          go_ret
          exact ⟨by (first | (rw [HR.out, HFF.out]; done) | simp [HR.out, HFF.out]), HB3.out⟩
    | false =>
      rw [hlk] at y9
      have HLK : Aside0 (¬ f.lk = true) := ⟨by rw [hlk]; decide⟩
      clear hlk
      go_upto_region 12 with (fail)
      (try simp only [i64_w])
      cases hb_0 : holdsB f.a0 f.a1 (x.f6) with
      | false =>
        have HB0_ := Aside0.mk hb_0
        clear hb_0
        have hF : fitsB x = false := by
          rw [HFE.out, if_neg HCT.out, if_neg HLK.out]
          unfold Fm.allB
          rw [HB0_.out]
          rfl
        have HFF := Aside0.mk hF
        clear hF
        go_wp2_with (first | (go_at_call 56; (with_reducible refine (statement_limit_holds.calls f.a0 f.a1 (x.f6) false _ (by rw [holds_is]; exact congrArg some HB0_.out)).mono ?_); rintro e w4 ⟨rfl, hb4⟩; have HX4 := Aside0.mk (HX3.out.below hb4); have HN4 := Aside0.mk (HN3.out.below hb4); have HB4 := Aside0.mk (below_step HB3.out hb4); clear hb4; have x7_4 : w4.cell? ⟨W.heap.size, 7, none⟩ = some (.int .i64 x.f7) := HX4.out.at_ 7; have x8_4 : w4.cell? ⟨W.heap.size, 8, none⟩ = some (.int .i64 x.f8) := HX4.out.at_ 8; have x9_4 : w4.cell? ⟨W.heap.size, 9, none⟩ = some (.int .i64 x.f9) := HX4.out.at_ 9; have y2_4 : w4.cell? ⟨g, 2, none⟩ = some (.int .i64 f.b0) := HN4.out.at_ 2; have y3_4 : w4.cell? ⟨g, 3, none⟩ = some (.int .i64 f.b1) := HN4.out.at_ 3; have y4_4 : w4.cell? ⟨g, 4, none⟩ = some (.int .i64 f.c0) := HN4.out.at_ 4; have y5_4 : w4.cell? ⟨g, 5, none⟩ = some (.int .i64 f.c1) := HN4.out.at_ 5; have y6_4 : w4.cell? ⟨g, 6, none⟩ = some (.int .i64 f.d0) := HN4.out.at_ 6; have y7_4 : w4.cell? ⟨g, 7, none⟩ = some (.int .i64 f.d1) := HN4.out.at_ 7))
        go_ret
        exact ⟨by (first | (rw [HR.out, HFF.out]; done) | simp [HR.out, HFF.out]), HB4.out⟩
      | true =>
        have HB0_ := Aside0.mk hb_0
        clear hb_0
        cases hb_1 : holdsB f.b0 f.b1 (x.f7) with
        | false =>
          have HB1_ := Aside0.mk hb_1
          clear hb_1
          have hF : fitsB x = false := by
            rw [HFE.out, if_neg HCT.out, if_neg HLK.out]
            unfold Fm.allB
            rw [HB0_.out, HB1_.out]
            rfl
          have HFF := Aside0.mk hF
          clear hF
          go_wp2_with (first | (go_at_call 56; (with_reducible refine (statement_limit_holds.calls f.a0 f.a1 (x.f6) true _ (by rw [holds_is]; exact congrArg some HB0_.out)).mono ?_); rintro e w4 ⟨rfl, hb4⟩; have HX4 := Aside0.mk (HX3.out.below hb4); have HN4 := Aside0.mk (HN3.out.below hb4); have HB4 := Aside0.mk (below_step HB3.out hb4); clear hb4; have x7_4 : w4.cell? ⟨W.heap.size, 7, none⟩ = some (.int .i64 x.f7) := HX4.out.at_ 7; have x8_4 : w4.cell? ⟨W.heap.size, 8, none⟩ = some (.int .i64 x.f8) := HX4.out.at_ 8; have x9_4 : w4.cell? ⟨W.heap.size, 9, none⟩ = some (.int .i64 x.f9) := HX4.out.at_ 9; have y2_4 : w4.cell? ⟨g, 2, none⟩ = some (.int .i64 f.b0) := HN4.out.at_ 2; have y3_4 : w4.cell? ⟨g, 3, none⟩ = some (.int .i64 f.b1) := HN4.out.at_ 3; have y4_4 : w4.cell? ⟨g, 4, none⟩ = some (.int .i64 f.c0) := HN4.out.at_ 4; have y5_4 : w4.cell? ⟨g, 5, none⟩ = some (.int .i64 f.c1) := HN4.out.at_ 5; have y6_4 : w4.cell? ⟨g, 6, none⟩ = some (.int .i64 f.d0) := HN4.out.at_ 6; have y7_4 : w4.cell? ⟨g, 7, none⟩ = some (.int .i64 f.d1) := HN4.out.at_ 7) | (go_at_call 56; (with_reducible refine (statement_limit_holds.calls f.b0 f.b1 (x.f7) false _ (by rw [holds_is]; exact congrArg some HB1_.out)).mono ?_); rintro e w5 ⟨rfl, hb5⟩; have HX5 := Aside0.mk (HX4.out.below hb5); have HN5 := Aside0.mk (HN4.out.below hb5); have HB5 := Aside0.mk (below_step HB4.out hb5); clear hb5; have x7_5 : w5.cell? ⟨W.heap.size, 7, none⟩ = some (.int .i64 x.f7) := HX5.out.at_ 7; have x8_5 : w5.cell? ⟨W.heap.size, 8, none⟩ = some (.int .i64 x.f8) := HX5.out.at_ 8; have x9_5 : w5.cell? ⟨W.heap.size, 9, none⟩ = some (.int .i64 x.f9) := HX5.out.at_ 9; have y2_5 : w5.cell? ⟨g, 2, none⟩ = some (.int .i64 f.b0) := HN5.out.at_ 2; have y3_5 : w5.cell? ⟨g, 3, none⟩ = some (.int .i64 f.b1) := HN5.out.at_ 3; have y4_5 : w5.cell? ⟨g, 4, none⟩ = some (.int .i64 f.c0) := HN5.out.at_ 4; have y5_5 : w5.cell? ⟨g, 5, none⟩ = some (.int .i64 f.c1) := HN5.out.at_ 5; have y6_5 : w5.cell? ⟨g, 6, none⟩ = some (.int .i64 f.d0) := HN5.out.at_ 6; have y7_5 : w5.cell? ⟨g, 7, none⟩ = some (.int .i64 f.d1) := HN5.out.at_ 7))
          go_ret
          exact ⟨by (first | (rw [HR.out, HFF.out]; done) | simp [HR.out, HFF.out]), HB5.out⟩
        | true =>
          have HB1_ := Aside0.mk hb_1
          clear hb_1
          cases hb_2 : holdsB f.c0 f.c1 (x.f8) with
          | false =>
            have HB2_ := Aside0.mk hb_2
            clear hb_2
            have hF : fitsB x = false := by
              rw [HFE.out, if_neg HCT.out, if_neg HLK.out]
              unfold Fm.allB
              rw [HB0_.out, HB1_.out, HB2_.out]
              rfl
            have HFF := Aside0.mk hF
            clear hF
            go_wp2_with (first | (go_at_call 56; (with_reducible refine (statement_limit_holds.calls f.a0 f.a1 (x.f6) true _ (by rw [holds_is]; exact congrArg some HB0_.out)).mono ?_); rintro e w4 ⟨rfl, hb4⟩; have HX4 := Aside0.mk (HX3.out.below hb4); have HN4 := Aside0.mk (HN3.out.below hb4); have HB4 := Aside0.mk (below_step HB3.out hb4); clear hb4; have x7_4 : w4.cell? ⟨W.heap.size, 7, none⟩ = some (.int .i64 x.f7) := HX4.out.at_ 7; have x8_4 : w4.cell? ⟨W.heap.size, 8, none⟩ = some (.int .i64 x.f8) := HX4.out.at_ 8; have x9_4 : w4.cell? ⟨W.heap.size, 9, none⟩ = some (.int .i64 x.f9) := HX4.out.at_ 9; have y2_4 : w4.cell? ⟨g, 2, none⟩ = some (.int .i64 f.b0) := HN4.out.at_ 2; have y3_4 : w4.cell? ⟨g, 3, none⟩ = some (.int .i64 f.b1) := HN4.out.at_ 3; have y4_4 : w4.cell? ⟨g, 4, none⟩ = some (.int .i64 f.c0) := HN4.out.at_ 4; have y5_4 : w4.cell? ⟨g, 5, none⟩ = some (.int .i64 f.c1) := HN4.out.at_ 5; have y6_4 : w4.cell? ⟨g, 6, none⟩ = some (.int .i64 f.d0) := HN4.out.at_ 6; have y7_4 : w4.cell? ⟨g, 7, none⟩ = some (.int .i64 f.d1) := HN4.out.at_ 7) | (go_at_call 56; (with_reducible refine (statement_limit_holds.calls f.b0 f.b1 (x.f7) true _ (by rw [holds_is]; exact congrArg some HB1_.out)).mono ?_); rintro e w5 ⟨rfl, hb5⟩; have HX5 := Aside0.mk (HX4.out.below hb5); have HN5 := Aside0.mk (HN4.out.below hb5); have HB5 := Aside0.mk (below_step HB4.out hb5); clear hb5; have x7_5 : w5.cell? ⟨W.heap.size, 7, none⟩ = some (.int .i64 x.f7) := HX5.out.at_ 7; have x8_5 : w5.cell? ⟨W.heap.size, 8, none⟩ = some (.int .i64 x.f8) := HX5.out.at_ 8; have x9_5 : w5.cell? ⟨W.heap.size, 9, none⟩ = some (.int .i64 x.f9) := HX5.out.at_ 9; have y2_5 : w5.cell? ⟨g, 2, none⟩ = some (.int .i64 f.b0) := HN5.out.at_ 2; have y3_5 : w5.cell? ⟨g, 3, none⟩ = some (.int .i64 f.b1) := HN5.out.at_ 3; have y4_5 : w5.cell? ⟨g, 4, none⟩ = some (.int .i64 f.c0) := HN5.out.at_ 4; have y5_5 : w5.cell? ⟨g, 5, none⟩ = some (.int .i64 f.c1) := HN5.out.at_ 5; have y6_5 : w5.cell? ⟨g, 6, none⟩ = some (.int .i64 f.d0) := HN5.out.at_ 6; have y7_5 : w5.cell? ⟨g, 7, none⟩ = some (.int .i64 f.d1) := HN5.out.at_ 7) | (go_at_call 56; (with_reducible refine (statement_limit_holds.calls f.c0 f.c1 (x.f8) false _ (by rw [holds_is]; exact congrArg some HB2_.out)).mono ?_); rintro e w6 ⟨rfl, hb6⟩; have HX6 := Aside0.mk (HX5.out.below hb6); have HN6 := Aside0.mk (HN5.out.below hb6); have HB6 := Aside0.mk (below_step HB5.out hb6); clear hb6; have x7_6 : w6.cell? ⟨W.heap.size, 7, none⟩ = some (.int .i64 x.f7) := HX6.out.at_ 7; have x8_6 : w6.cell? ⟨W.heap.size, 8, none⟩ = some (.int .i64 x.f8) := HX6.out.at_ 8; have x9_6 : w6.cell? ⟨W.heap.size, 9, none⟩ = some (.int .i64 x.f9) := HX6.out.at_ 9; have y2_6 : w6.cell? ⟨g, 2, none⟩ = some (.int .i64 f.b0) := HN6.out.at_ 2; have y3_6 : w6.cell? ⟨g, 3, none⟩ = some (.int .i64 f.b1) := HN6.out.at_ 3; have y4_6 : w6.cell? ⟨g, 4, none⟩ = some (.int .i64 f.c0) := HN6.out.at_ 4; have y5_6 : w6.cell? ⟨g, 5, none⟩ = some (.int .i64 f.c1) := HN6.out.at_ 5; have y6_6 : w6.cell? ⟨g, 6, none⟩ = some (.int .i64 f.d0) := HN6.out.at_ 6; have y7_6 : w6.cell? ⟨g, 7, none⟩ = some (.int .i64 f.d1) := HN6.out.at_ 7))
            go_ret
            exact ⟨by (first | (rw [HR.out, HFF.out]; done) | simp [HR.out, HFF.out]), HB6.out⟩
          | true =>
            have HB2_ := Aside0.mk hb_2
            clear hb_2
            cases hb_3 : holdsB f.d0 f.d1 (x.f9) with
            | false =>
              have HB3_ := Aside0.mk hb_3
              clear hb_3
              have hF : fitsB x = false := by
                rw [HFE.out, if_neg HCT.out, if_neg HLK.out]
                unfold Fm.allB
                rw [HB0_.out, HB1_.out, HB2_.out, HB3_.out]
                rfl
              have HFF := Aside0.mk hF
              clear hF
              go_wp2_with (first | (go_at_call 56; (with_reducible refine (statement_limit_holds.calls f.a0 f.a1 (x.f6) true _ (by rw [holds_is]; exact congrArg some HB0_.out)).mono ?_); rintro e w4 ⟨rfl, hb4⟩; have HX4 := Aside0.mk (HX3.out.below hb4); have HN4 := Aside0.mk (HN3.out.below hb4); have HB4 := Aside0.mk (below_step HB3.out hb4); clear hb4; have x7_4 : w4.cell? ⟨W.heap.size, 7, none⟩ = some (.int .i64 x.f7) := HX4.out.at_ 7; have x8_4 : w4.cell? ⟨W.heap.size, 8, none⟩ = some (.int .i64 x.f8) := HX4.out.at_ 8; have x9_4 : w4.cell? ⟨W.heap.size, 9, none⟩ = some (.int .i64 x.f9) := HX4.out.at_ 9; have y2_4 : w4.cell? ⟨g, 2, none⟩ = some (.int .i64 f.b0) := HN4.out.at_ 2; have y3_4 : w4.cell? ⟨g, 3, none⟩ = some (.int .i64 f.b1) := HN4.out.at_ 3; have y4_4 : w4.cell? ⟨g, 4, none⟩ = some (.int .i64 f.c0) := HN4.out.at_ 4; have y5_4 : w4.cell? ⟨g, 5, none⟩ = some (.int .i64 f.c1) := HN4.out.at_ 5; have y6_4 : w4.cell? ⟨g, 6, none⟩ = some (.int .i64 f.d0) := HN4.out.at_ 6; have y7_4 : w4.cell? ⟨g, 7, none⟩ = some (.int .i64 f.d1) := HN4.out.at_ 7) | (go_at_call 56; (with_reducible refine (statement_limit_holds.calls f.b0 f.b1 (x.f7) true _ (by rw [holds_is]; exact congrArg some HB1_.out)).mono ?_); rintro e w5 ⟨rfl, hb5⟩; have HX5 := Aside0.mk (HX4.out.below hb5); have HN5 := Aside0.mk (HN4.out.below hb5); have HB5 := Aside0.mk (below_step HB4.out hb5); clear hb5; have x7_5 : w5.cell? ⟨W.heap.size, 7, none⟩ = some (.int .i64 x.f7) := HX5.out.at_ 7; have x8_5 : w5.cell? ⟨W.heap.size, 8, none⟩ = some (.int .i64 x.f8) := HX5.out.at_ 8; have x9_5 : w5.cell? ⟨W.heap.size, 9, none⟩ = some (.int .i64 x.f9) := HX5.out.at_ 9; have y2_5 : w5.cell? ⟨g, 2, none⟩ = some (.int .i64 f.b0) := HN5.out.at_ 2; have y3_5 : w5.cell? ⟨g, 3, none⟩ = some (.int .i64 f.b1) := HN5.out.at_ 3; have y4_5 : w5.cell? ⟨g, 4, none⟩ = some (.int .i64 f.c0) := HN5.out.at_ 4; have y5_5 : w5.cell? ⟨g, 5, none⟩ = some (.int .i64 f.c1) := HN5.out.at_ 5; have y6_5 : w5.cell? ⟨g, 6, none⟩ = some (.int .i64 f.d0) := HN5.out.at_ 6; have y7_5 : w5.cell? ⟨g, 7, none⟩ = some (.int .i64 f.d1) := HN5.out.at_ 7) | (go_at_call 56; (with_reducible refine (statement_limit_holds.calls f.c0 f.c1 (x.f8) true _ (by rw [holds_is]; exact congrArg some HB2_.out)).mono ?_); rintro e w6 ⟨rfl, hb6⟩; have HX6 := Aside0.mk (HX5.out.below hb6); have HN6 := Aside0.mk (HN5.out.below hb6); have HB6 := Aside0.mk (below_step HB5.out hb6); clear hb6; have x7_6 : w6.cell? ⟨W.heap.size, 7, none⟩ = some (.int .i64 x.f7) := HX6.out.at_ 7; have x8_6 : w6.cell? ⟨W.heap.size, 8, none⟩ = some (.int .i64 x.f8) := HX6.out.at_ 8; have x9_6 : w6.cell? ⟨W.heap.size, 9, none⟩ = some (.int .i64 x.f9) := HX6.out.at_ 9; have y2_6 : w6.cell? ⟨g, 2, none⟩ = some (.int .i64 f.b0) := HN6.out.at_ 2; have y3_6 : w6.cell? ⟨g, 3, none⟩ = some (.int .i64 f.b1) := HN6.out.at_ 3; have y4_6 : w6.cell? ⟨g, 4, none⟩ = some (.int .i64 f.c0) := HN6.out.at_ 4; have y5_6 : w6.cell? ⟨g, 5, none⟩ = some (.int .i64 f.c1) := HN6.out.at_ 5; have y6_6 : w6.cell? ⟨g, 6, none⟩ = some (.int .i64 f.d0) := HN6.out.at_ 6; have y7_6 : w6.cell? ⟨g, 7, none⟩ = some (.int .i64 f.d1) := HN6.out.at_ 7) | (go_at_call 56; (with_reducible refine (statement_limit_holds.calls f.d0 f.d1 (x.f9) false _ (by rw [holds_is]; exact congrArg some HB3_.out)).mono ?_); rintro e w7 ⟨rfl, hb7⟩; have HX7 := Aside0.mk (HX6.out.below hb7); have HN7 := Aside0.mk (HN6.out.below hb7); have HB7 := Aside0.mk (below_step HB6.out hb7); clear hb7; have x7_7 : w7.cell? ⟨W.heap.size, 7, none⟩ = some (.int .i64 x.f7) := HX7.out.at_ 7; have x8_7 : w7.cell? ⟨W.heap.size, 8, none⟩ = some (.int .i64 x.f8) := HX7.out.at_ 8; have x9_7 : w7.cell? ⟨W.heap.size, 9, none⟩ = some (.int .i64 x.f9) := HX7.out.at_ 9; have y2_7 : w7.cell? ⟨g, 2, none⟩ = some (.int .i64 f.b0) := HN7.out.at_ 2; have y3_7 : w7.cell? ⟨g, 3, none⟩ = some (.int .i64 f.b1) := HN7.out.at_ 3; have y4_7 : w7.cell? ⟨g, 4, none⟩ = some (.int .i64 f.c0) := HN7.out.at_ 4; have y5_7 : w7.cell? ⟨g, 5, none⟩ = some (.int .i64 f.c1) := HN7.out.at_ 5; have y6_7 : w7.cell? ⟨g, 6, none⟩ = some (.int .i64 f.d0) := HN7.out.at_ 6; have y7_7 : w7.cell? ⟨g, 7, none⟩ = some (.int .i64 f.d1) := HN7.out.at_ 7))
              go_ret
              exact ⟨by (first | (rw [HR.out, HFF.out]; done) | simp [HR.out, HFF.out]), HB7.out⟩
            | true =>
              have HB3_ := Aside0.mk hb_3
              clear hb_3
              have hF : fitsB x = true := by
                rw [HFE.out, if_neg HCT.out, if_neg HLK.out]
                unfold Fm.allB
                rw [HB0_.out, HB1_.out, HB2_.out, HB3_.out]
                rfl
              have HFF := Aside0.mk hF
              clear hF
              go_wp2_with (first | (go_at_call 56; (with_reducible refine (statement_limit_holds.calls f.a0 f.a1 (x.f6) true _ (by rw [holds_is]; exact congrArg some HB0_.out)).mono ?_); rintro e w4 ⟨rfl, hb4⟩; have HX4 := Aside0.mk (HX3.out.below hb4); have HN4 := Aside0.mk (HN3.out.below hb4); have HB4 := Aside0.mk (below_step HB3.out hb4); clear hb4; have x7_4 : w4.cell? ⟨W.heap.size, 7, none⟩ = some (.int .i64 x.f7) := HX4.out.at_ 7; have x8_4 : w4.cell? ⟨W.heap.size, 8, none⟩ = some (.int .i64 x.f8) := HX4.out.at_ 8; have x9_4 : w4.cell? ⟨W.heap.size, 9, none⟩ = some (.int .i64 x.f9) := HX4.out.at_ 9; have y2_4 : w4.cell? ⟨g, 2, none⟩ = some (.int .i64 f.b0) := HN4.out.at_ 2; have y3_4 : w4.cell? ⟨g, 3, none⟩ = some (.int .i64 f.b1) := HN4.out.at_ 3; have y4_4 : w4.cell? ⟨g, 4, none⟩ = some (.int .i64 f.c0) := HN4.out.at_ 4; have y5_4 : w4.cell? ⟨g, 5, none⟩ = some (.int .i64 f.c1) := HN4.out.at_ 5; have y6_4 : w4.cell? ⟨g, 6, none⟩ = some (.int .i64 f.d0) := HN4.out.at_ 6; have y7_4 : w4.cell? ⟨g, 7, none⟩ = some (.int .i64 f.d1) := HN4.out.at_ 7) | (go_at_call 56; (with_reducible refine (statement_limit_holds.calls f.b0 f.b1 (x.f7) true _ (by rw [holds_is]; exact congrArg some HB1_.out)).mono ?_); rintro e w5 ⟨rfl, hb5⟩; have HX5 := Aside0.mk (HX4.out.below hb5); have HN5 := Aside0.mk (HN4.out.below hb5); have HB5 := Aside0.mk (below_step HB4.out hb5); clear hb5; have x7_5 : w5.cell? ⟨W.heap.size, 7, none⟩ = some (.int .i64 x.f7) := HX5.out.at_ 7; have x8_5 : w5.cell? ⟨W.heap.size, 8, none⟩ = some (.int .i64 x.f8) := HX5.out.at_ 8; have x9_5 : w5.cell? ⟨W.heap.size, 9, none⟩ = some (.int .i64 x.f9) := HX5.out.at_ 9; have y2_5 : w5.cell? ⟨g, 2, none⟩ = some (.int .i64 f.b0) := HN5.out.at_ 2; have y3_5 : w5.cell? ⟨g, 3, none⟩ = some (.int .i64 f.b1) := HN5.out.at_ 3; have y4_5 : w5.cell? ⟨g, 4, none⟩ = some (.int .i64 f.c0) := HN5.out.at_ 4; have y5_5 : w5.cell? ⟨g, 5, none⟩ = some (.int .i64 f.c1) := HN5.out.at_ 5; have y6_5 : w5.cell? ⟨g, 6, none⟩ = some (.int .i64 f.d0) := HN5.out.at_ 6; have y7_5 : w5.cell? ⟨g, 7, none⟩ = some (.int .i64 f.d1) := HN5.out.at_ 7) | (go_at_call 56; (with_reducible refine (statement_limit_holds.calls f.c0 f.c1 (x.f8) true _ (by rw [holds_is]; exact congrArg some HB2_.out)).mono ?_); rintro e w6 ⟨rfl, hb6⟩; have HX6 := Aside0.mk (HX5.out.below hb6); have HN6 := Aside0.mk (HN5.out.below hb6); have HB6 := Aside0.mk (below_step HB5.out hb6); clear hb6; have x7_6 : w6.cell? ⟨W.heap.size, 7, none⟩ = some (.int .i64 x.f7) := HX6.out.at_ 7; have x8_6 : w6.cell? ⟨W.heap.size, 8, none⟩ = some (.int .i64 x.f8) := HX6.out.at_ 8; have x9_6 : w6.cell? ⟨W.heap.size, 9, none⟩ = some (.int .i64 x.f9) := HX6.out.at_ 9; have y2_6 : w6.cell? ⟨g, 2, none⟩ = some (.int .i64 f.b0) := HN6.out.at_ 2; have y3_6 : w6.cell? ⟨g, 3, none⟩ = some (.int .i64 f.b1) := HN6.out.at_ 3; have y4_6 : w6.cell? ⟨g, 4, none⟩ = some (.int .i64 f.c0) := HN6.out.at_ 4; have y5_6 : w6.cell? ⟨g, 5, none⟩ = some (.int .i64 f.c1) := HN6.out.at_ 5; have y6_6 : w6.cell? ⟨g, 6, none⟩ = some (.int .i64 f.d0) := HN6.out.at_ 6; have y7_6 : w6.cell? ⟨g, 7, none⟩ = some (.int .i64 f.d1) := HN6.out.at_ 7) | (go_at_call 56; (with_reducible refine (statement_limit_holds.calls f.d0 f.d1 (x.f9) true _ (by rw [holds_is]; exact congrArg some HB3_.out)).mono ?_); rintro e w7 ⟨rfl, hb7⟩; have HX7 := Aside0.mk (HX6.out.below hb7); have HN7 := Aside0.mk (HN6.out.below hb7); have HB7 := Aside0.mk (below_step HB6.out hb7); clear hb7; have x7_7 : w7.cell? ⟨W.heap.size, 7, none⟩ = some (.int .i64 x.f7) := HX7.out.at_ 7; have x8_7 : w7.cell? ⟨W.heap.size, 8, none⟩ = some (.int .i64 x.f8) := HX7.out.at_ 8; have x9_7 : w7.cell? ⟨W.heap.size, 9, none⟩ = some (.int .i64 x.f9) := HX7.out.at_ 9; have y2_7 : w7.cell? ⟨g, 2, none⟩ = some (.int .i64 f.b0) := HN7.out.at_ 2; have y3_7 : w7.cell? ⟨g, 3, none⟩ = some (.int .i64 f.b1) := HN7.out.at_ 3; have y4_7 : w7.cell? ⟨g, 4, none⟩ = some (.int .i64 f.c0) := HN7.out.at_ 4; have y5_7 : w7.cell? ⟨g, 5, none⟩ = some (.int .i64 f.c1) := HN7.out.at_ 5; have y6_7 : w7.cell? ⟨g, 6, none⟩ = some (.int .i64 f.d0) := HN7.out.at_ 6; have y7_7 : w7.cell? ⟨g, 7, none⟩ = some (.int .i64 f.d1) := HN7.out.at_ 7))
              go_ret
              exact ⟨by (first | (rw [HR.out, HFF.out]; done) | simp [HR.out, HFF.out]), HB7.out⟩
/-! statement.Valid -/
theorem fits_at (x : S51) (W : World) (hG : GW W) (b : Bool) (h : fitsB x = b) : Calls Tryd.prog 66 #[.agg #[.int .i64 x.f0, .int .i64 x.f1, .int .i64 x.f2, .int .i64 x.f3, .int .i64 x.f4, .int .i64 x.f5, .int .i64 x.f6, .int .i64 x.f7, .int .i64 x.f8, .int .i64 x.f9, .int .i64 x.f10]] W fun e w' => e = .returned (.bool b) ∧ Below W.heap.size W w' := by
  subst h
  exact fits.calls x W hG
def validB (x : S51) : Bool := (holdsB 1 2147483646 x.f0 && (holdsB 1 2147483646 x.f1 && ((x.f0 != x.f1) && (decide (1 ≤ x.f2) && (decide (x.f2 ≤ 256) && (holdsB 0 2147483646 x.f3 && ((decide (1 < x.f2) || (x.f3 == 0)) && (decide (0 ≤ x.f4) && (decide (x.f4 ≤ 1048576) && (holdsB 0 2147483646 x.f10 && fitsB x))))))))))
set_option maxHeartbeats 16000000 in
set_option maxRecDepth 100000 in
theorem valid.calls (x : S51) (W : World) (hG : GW W) :
    Calls Tryd.prog 53 #[.agg #[.int .i64 x.f0, .int .i64 x.f1, .int .i64 x.f2, .int .i64 x.f3, .int .i64 x.f4, .int .i64 x.f5, .int .i64 x.f6, .int .i64 x.f7, .int .i64 x.f8, .int .i64 x.f9, .int .i64 x.f10]] W fun e w' => e = .returned (.bool (validB x)) ∧ Below W.heap.size W w' := by
  have hu := Tryd.underlying51
  have hl := Tryd.underlying27
  obtain ⟨W0, hW0⟩ : ∃ W1, W1 = W.alloc (.cells #[.int .i64 x.f0, .int .i64 x.f1, .int .i64 x.f2, .int .i64 x.f3, .int .i64 x.f4, .int .i64 x.f5, .int .i64 x.f6, .int .i64 x.f7, .int .i64 x.f8, .int .i64 x.f9, .int .i64 x.f10] 51) := ⟨_, rfl⟩
  have hX0 : BlkIs W0 W.heap.size 51 [.int .i64 x.f0, .int .i64 x.f1, .int .i64 x.f2, .int .i64 x.f3, .int .i64 x.f4, .int .i64 x.f5, .int .i64 x.f6, .int .i64 x.f7, .int .i64 x.f8, .int .i64 x.f9, .int .i64 x.f10] := by rw [hW0]; exact heap_alloc_new W _
  have hb0 : Below W.heap.size W W0 := by rw [hW0]; exact below_alloc (Below.refl _ _) _
  have HX0 := Aside0.mk hX0
  have HB0 := Aside0.mk hb0
  have HG0 := Aside0.mk (hG.below hb0)
  have HW := Aside0.mk hW0
  clear hX0 hb0 hG hW0
  obtain ⟨r, hr⟩ : ∃ r, r = validB x := ⟨_, rfl⟩
  rw [← hr]
  have HR := Aside0.mk hr
  clear hr
  cases ht0 : holdsB 1 2147483646 x.f0 with
  | false =>
    have HT0 := Aside0.mk ht0
    clear ht0
    have hF : validB x = false := by
      unfold validB
      rw [HT0.out]
      rfl
    have HFF := Aside0.mk hF
    clear hF
    go_enter Tryd.func53, Tryd.ntmps53
    go_upto_region 1 with (fail)
    rw [← HW.out]
    have x0_0 : W0.cell? ⟨W.heap.size, 0, none⟩ = some (.int .i64 x.f0) := HX0.out.at_ 0
    have x1_0 : W0.cell? ⟨W.heap.size, 1, none⟩ = some (.int .i64 x.f1) := HX0.out.at_ 1
    have x2_0 : W0.cell? ⟨W.heap.size, 2, none⟩ = some (.int .i64 x.f2) := HX0.out.at_ 2
    have x3_0 : W0.cell? ⟨W.heap.size, 3, none⟩ = some (.int .i64 x.f3) := HX0.out.at_ 3
    have x4_0 : W0.cell? ⟨W.heap.size, 4, none⟩ = some (.int .i64 x.f4) := HX0.out.at_ 4
    have x5_0 : W0.cell? ⟨W.heap.size, 5, none⟩ = some (.int .i64 x.f5) := HX0.out.at_ 5
    have x6_0 : W0.cell? ⟨W.heap.size, 6, none⟩ = some (.int .i64 x.f6) := HX0.out.at_ 6
    have x7_0 : W0.cell? ⟨W.heap.size, 7, none⟩ = some (.int .i64 x.f7) := HX0.out.at_ 7
    have x8_0 : W0.cell? ⟨W.heap.size, 8, none⟩ = some (.int .i64 x.f8) := HX0.out.at_ 8
    have x9_0 : W0.cell? ⟨W.heap.size, 9, none⟩ = some (.int .i64 x.f9) := HX0.out.at_ 9
    have x10_0 : W0.cell? ⟨W.heap.size, 10, none⟩ = some (.int .i64 x.f10) := HX0.out.at_ 10
    have p0_0 : W0.cell? ⟨0, 0, none⟩ = some (.int .i64 1) := HG0.out.person 0 _ rfl
    have p1_0 : W0.cell? ⟨0, 1, none⟩ = some (.int .i64 2147483646) := HG0.out.person 1 _ rfl
    have n0_0 : W0.cell? ⟨1, 0, none⟩ = some (.int .i64 0) := HG0.out.number 0 _ rfl
    have n1_0 : W0.cell? ⟨1, 1, none⟩ = some (.int .i64 2147483646) := HG0.out.number 1 _ rfl
    go_wp2_with (first | (go_at_call 56; (with_reducible refine (statement_limit_holds.calls 1 2147483646 x.f0 false _ (by rw [holds_is]; exact congrArg some HT0.out)).mono ?_); rintro e w1 ⟨rfl, hb1⟩; have HX1 := Aside0.mk (HX0.out.below hb1); have HG1 := Aside0.mk (HG0.out.below hb1); have HB1 := Aside0.mk (below_step HB0.out hb1); clear hb1; have x0_1 : w1.cell? ⟨W.heap.size, 0, none⟩ = some (.int .i64 x.f0) := HX1.out.at_ 0; have x1_1 : w1.cell? ⟨W.heap.size, 1, none⟩ = some (.int .i64 x.f1) := HX1.out.at_ 1; have x2_1 : w1.cell? ⟨W.heap.size, 2, none⟩ = some (.int .i64 x.f2) := HX1.out.at_ 2; have x3_1 : w1.cell? ⟨W.heap.size, 3, none⟩ = some (.int .i64 x.f3) := HX1.out.at_ 3; have x4_1 : w1.cell? ⟨W.heap.size, 4, none⟩ = some (.int .i64 x.f4) := HX1.out.at_ 4; have x5_1 : w1.cell? ⟨W.heap.size, 5, none⟩ = some (.int .i64 x.f5) := HX1.out.at_ 5; have x6_1 : w1.cell? ⟨W.heap.size, 6, none⟩ = some (.int .i64 x.f6) := HX1.out.at_ 6; have x7_1 : w1.cell? ⟨W.heap.size, 7, none⟩ = some (.int .i64 x.f7) := HX1.out.at_ 7; have x8_1 : w1.cell? ⟨W.heap.size, 8, none⟩ = some (.int .i64 x.f8) := HX1.out.at_ 8; have x9_1 : w1.cell? ⟨W.heap.size, 9, none⟩ = some (.int .i64 x.f9) := HX1.out.at_ 9; have x10_1 : w1.cell? ⟨W.heap.size, 10, none⟩ = some (.int .i64 x.f10) := HX1.out.at_ 10; have p0_1 : w1.cell? ⟨0, 0, none⟩ = some (.int .i64 1) := HG1.out.person 0 _ rfl; have p1_1 : w1.cell? ⟨0, 1, none⟩ = some (.int .i64 2147483646) := HG1.out.person 1 _ rfl; have n0_1 : w1.cell? ⟨1, 0, none⟩ = some (.int .i64 0) := HG1.out.number 0 _ rfl; have n1_1 : w1.cell? ⟨1, 1, none⟩ = some (.int .i64 2147483646) := HG1.out.number 1 _ rfl))
    go_ret
    exact ⟨by (first | (rw [HR.out, HFF.out]; done) | simp [HR.out, HFF.out]), HB1.out⟩
  | true =>
    have HT0 := Aside0.mk ht0
    clear ht0
    cases ht1 : holdsB 1 2147483646 x.f1 with
    | false =>
      have HT1 := Aside0.mk ht1
      clear ht1
      have hF : validB x = false := by
        unfold validB
        rw [HT0.out, HT1.out]
        rfl
      have HFF := Aside0.mk hF
      clear hF
      go_enter Tryd.func53, Tryd.ntmps53
      go_upto_region 1 with (fail)
      rw [← HW.out]
      have x0_0 : W0.cell? ⟨W.heap.size, 0, none⟩ = some (.int .i64 x.f0) := HX0.out.at_ 0
      have x1_0 : W0.cell? ⟨W.heap.size, 1, none⟩ = some (.int .i64 x.f1) := HX0.out.at_ 1
      have x2_0 : W0.cell? ⟨W.heap.size, 2, none⟩ = some (.int .i64 x.f2) := HX0.out.at_ 2
      have x3_0 : W0.cell? ⟨W.heap.size, 3, none⟩ = some (.int .i64 x.f3) := HX0.out.at_ 3
      have x4_0 : W0.cell? ⟨W.heap.size, 4, none⟩ = some (.int .i64 x.f4) := HX0.out.at_ 4
      have x5_0 : W0.cell? ⟨W.heap.size, 5, none⟩ = some (.int .i64 x.f5) := HX0.out.at_ 5
      have x6_0 : W0.cell? ⟨W.heap.size, 6, none⟩ = some (.int .i64 x.f6) := HX0.out.at_ 6
      have x7_0 : W0.cell? ⟨W.heap.size, 7, none⟩ = some (.int .i64 x.f7) := HX0.out.at_ 7
      have x8_0 : W0.cell? ⟨W.heap.size, 8, none⟩ = some (.int .i64 x.f8) := HX0.out.at_ 8
      have x9_0 : W0.cell? ⟨W.heap.size, 9, none⟩ = some (.int .i64 x.f9) := HX0.out.at_ 9
      have x10_0 : W0.cell? ⟨W.heap.size, 10, none⟩ = some (.int .i64 x.f10) := HX0.out.at_ 10
      have p0_0 : W0.cell? ⟨0, 0, none⟩ = some (.int .i64 1) := HG0.out.person 0 _ rfl
      have p1_0 : W0.cell? ⟨0, 1, none⟩ = some (.int .i64 2147483646) := HG0.out.person 1 _ rfl
      have n0_0 : W0.cell? ⟨1, 0, none⟩ = some (.int .i64 0) := HG0.out.number 0 _ rfl
      have n1_0 : W0.cell? ⟨1, 1, none⟩ = some (.int .i64 2147483646) := HG0.out.number 1 _ rfl
      go_wp2_with (first | (go_at_call 56; (with_reducible refine (statement_limit_holds.calls 1 2147483646 x.f0 true _ (by rw [holds_is]; exact congrArg some HT0.out)).mono ?_); rintro e w1 ⟨rfl, hb1⟩; have HX1 := Aside0.mk (HX0.out.below hb1); have HG1 := Aside0.mk (HG0.out.below hb1); have HB1 := Aside0.mk (below_step HB0.out hb1); clear hb1; have x0_1 : w1.cell? ⟨W.heap.size, 0, none⟩ = some (.int .i64 x.f0) := HX1.out.at_ 0; have x1_1 : w1.cell? ⟨W.heap.size, 1, none⟩ = some (.int .i64 x.f1) := HX1.out.at_ 1; have x2_1 : w1.cell? ⟨W.heap.size, 2, none⟩ = some (.int .i64 x.f2) := HX1.out.at_ 2; have x3_1 : w1.cell? ⟨W.heap.size, 3, none⟩ = some (.int .i64 x.f3) := HX1.out.at_ 3; have x4_1 : w1.cell? ⟨W.heap.size, 4, none⟩ = some (.int .i64 x.f4) := HX1.out.at_ 4; have x5_1 : w1.cell? ⟨W.heap.size, 5, none⟩ = some (.int .i64 x.f5) := HX1.out.at_ 5; have x6_1 : w1.cell? ⟨W.heap.size, 6, none⟩ = some (.int .i64 x.f6) := HX1.out.at_ 6; have x7_1 : w1.cell? ⟨W.heap.size, 7, none⟩ = some (.int .i64 x.f7) := HX1.out.at_ 7; have x8_1 : w1.cell? ⟨W.heap.size, 8, none⟩ = some (.int .i64 x.f8) := HX1.out.at_ 8; have x9_1 : w1.cell? ⟨W.heap.size, 9, none⟩ = some (.int .i64 x.f9) := HX1.out.at_ 9; have x10_1 : w1.cell? ⟨W.heap.size, 10, none⟩ = some (.int .i64 x.f10) := HX1.out.at_ 10; have p0_1 : w1.cell? ⟨0, 0, none⟩ = some (.int .i64 1) := HG1.out.person 0 _ rfl; have p1_1 : w1.cell? ⟨0, 1, none⟩ = some (.int .i64 2147483646) := HG1.out.person 1 _ rfl; have n0_1 : w1.cell? ⟨1, 0, none⟩ = some (.int .i64 0) := HG1.out.number 0 _ rfl; have n1_1 : w1.cell? ⟨1, 1, none⟩ = some (.int .i64 2147483646) := HG1.out.number 1 _ rfl) | (go_at_call 56; (with_reducible refine (statement_limit_holds.calls 1 2147483646 x.f1 false _ (by rw [holds_is]; exact congrArg some HT1.out)).mono ?_); rintro e w2 ⟨rfl, hb2⟩; have HX2 := Aside0.mk (HX1.out.below hb2); have HG2 := Aside0.mk (HG1.out.below hb2); have HB2 := Aside0.mk (below_step HB1.out hb2); clear hb2; have x0_2 : w2.cell? ⟨W.heap.size, 0, none⟩ = some (.int .i64 x.f0) := HX2.out.at_ 0; have x1_2 : w2.cell? ⟨W.heap.size, 1, none⟩ = some (.int .i64 x.f1) := HX2.out.at_ 1; have x2_2 : w2.cell? ⟨W.heap.size, 2, none⟩ = some (.int .i64 x.f2) := HX2.out.at_ 2; have x3_2 : w2.cell? ⟨W.heap.size, 3, none⟩ = some (.int .i64 x.f3) := HX2.out.at_ 3; have x4_2 : w2.cell? ⟨W.heap.size, 4, none⟩ = some (.int .i64 x.f4) := HX2.out.at_ 4; have x5_2 : w2.cell? ⟨W.heap.size, 5, none⟩ = some (.int .i64 x.f5) := HX2.out.at_ 5; have x6_2 : w2.cell? ⟨W.heap.size, 6, none⟩ = some (.int .i64 x.f6) := HX2.out.at_ 6; have x7_2 : w2.cell? ⟨W.heap.size, 7, none⟩ = some (.int .i64 x.f7) := HX2.out.at_ 7; have x8_2 : w2.cell? ⟨W.heap.size, 8, none⟩ = some (.int .i64 x.f8) := HX2.out.at_ 8; have x9_2 : w2.cell? ⟨W.heap.size, 9, none⟩ = some (.int .i64 x.f9) := HX2.out.at_ 9; have x10_2 : w2.cell? ⟨W.heap.size, 10, none⟩ = some (.int .i64 x.f10) := HX2.out.at_ 10; have p0_2 : w2.cell? ⟨0, 0, none⟩ = some (.int .i64 1) := HG2.out.person 0 _ rfl; have p1_2 : w2.cell? ⟨0, 1, none⟩ = some (.int .i64 2147483646) := HG2.out.person 1 _ rfl; have n0_2 : w2.cell? ⟨1, 0, none⟩ = some (.int .i64 0) := HG2.out.number 0 _ rfl; have n1_2 : w2.cell? ⟨1, 1, none⟩ = some (.int .i64 2147483646) := HG2.out.number 1 _ rfl))
      go_ret
      exact ⟨by (first | (rw [HR.out, HFF.out]; done) | simp [HR.out, HFF.out]), HB2.out⟩
    | true =>
      have HT1 := Aside0.mk ht1
      clear ht1
      cases ht2 : (x.f0 != x.f1) with
      | false =>
        have HT2 := Aside0.mk ht2
        have hF : validB x = false := by
          unfold validB
          rw [HT0.out, HT1.out, HT2.out]
          rfl
        have HFF := Aside0.mk hF
        clear hF
        go_enter Tryd.func53, Tryd.ntmps53
        go_upto_region 1 with (fail)
        rw [← HW.out]
        have x0_0 : W0.cell? ⟨W.heap.size, 0, none⟩ = some (.int .i64 x.f0) := HX0.out.at_ 0
        have x1_0 : W0.cell? ⟨W.heap.size, 1, none⟩ = some (.int .i64 x.f1) := HX0.out.at_ 1
        have x2_0 : W0.cell? ⟨W.heap.size, 2, none⟩ = some (.int .i64 x.f2) := HX0.out.at_ 2
        have x3_0 : W0.cell? ⟨W.heap.size, 3, none⟩ = some (.int .i64 x.f3) := HX0.out.at_ 3
        have x4_0 : W0.cell? ⟨W.heap.size, 4, none⟩ = some (.int .i64 x.f4) := HX0.out.at_ 4
        have x5_0 : W0.cell? ⟨W.heap.size, 5, none⟩ = some (.int .i64 x.f5) := HX0.out.at_ 5
        have x6_0 : W0.cell? ⟨W.heap.size, 6, none⟩ = some (.int .i64 x.f6) := HX0.out.at_ 6
        have x7_0 : W0.cell? ⟨W.heap.size, 7, none⟩ = some (.int .i64 x.f7) := HX0.out.at_ 7
        have x8_0 : W0.cell? ⟨W.heap.size, 8, none⟩ = some (.int .i64 x.f8) := HX0.out.at_ 8
        have x9_0 : W0.cell? ⟨W.heap.size, 9, none⟩ = some (.int .i64 x.f9) := HX0.out.at_ 9
        have x10_0 : W0.cell? ⟨W.heap.size, 10, none⟩ = some (.int .i64 x.f10) := HX0.out.at_ 10
        have p0_0 : W0.cell? ⟨0, 0, none⟩ = some (.int .i64 1) := HG0.out.person 0 _ rfl
        have p1_0 : W0.cell? ⟨0, 1, none⟩ = some (.int .i64 2147483646) := HG0.out.person 1 _ rfl
        have n0_0 : W0.cell? ⟨1, 0, none⟩ = some (.int .i64 0) := HG0.out.number 0 _ rfl
        have n1_0 : W0.cell? ⟨1, 1, none⟩ = some (.int .i64 2147483646) := HG0.out.number 1 _ rfl
        go_wp2_with (first | (go_at_call 56; (with_reducible refine (statement_limit_holds.calls 1 2147483646 x.f0 true _ (by rw [holds_is]; exact congrArg some HT0.out)).mono ?_); rintro e w1 ⟨rfl, hb1⟩; have HX1 := Aside0.mk (HX0.out.below hb1); have HG1 := Aside0.mk (HG0.out.below hb1); have HB1 := Aside0.mk (below_step HB0.out hb1); clear hb1; have x0_1 : w1.cell? ⟨W.heap.size, 0, none⟩ = some (.int .i64 x.f0) := HX1.out.at_ 0; have x1_1 : w1.cell? ⟨W.heap.size, 1, none⟩ = some (.int .i64 x.f1) := HX1.out.at_ 1; have x2_1 : w1.cell? ⟨W.heap.size, 2, none⟩ = some (.int .i64 x.f2) := HX1.out.at_ 2; have x3_1 : w1.cell? ⟨W.heap.size, 3, none⟩ = some (.int .i64 x.f3) := HX1.out.at_ 3; have x4_1 : w1.cell? ⟨W.heap.size, 4, none⟩ = some (.int .i64 x.f4) := HX1.out.at_ 4; have x5_1 : w1.cell? ⟨W.heap.size, 5, none⟩ = some (.int .i64 x.f5) := HX1.out.at_ 5; have x6_1 : w1.cell? ⟨W.heap.size, 6, none⟩ = some (.int .i64 x.f6) := HX1.out.at_ 6; have x7_1 : w1.cell? ⟨W.heap.size, 7, none⟩ = some (.int .i64 x.f7) := HX1.out.at_ 7; have x8_1 : w1.cell? ⟨W.heap.size, 8, none⟩ = some (.int .i64 x.f8) := HX1.out.at_ 8; have x9_1 : w1.cell? ⟨W.heap.size, 9, none⟩ = some (.int .i64 x.f9) := HX1.out.at_ 9; have x10_1 : w1.cell? ⟨W.heap.size, 10, none⟩ = some (.int .i64 x.f10) := HX1.out.at_ 10; have p0_1 : w1.cell? ⟨0, 0, none⟩ = some (.int .i64 1) := HG1.out.person 0 _ rfl; have p1_1 : w1.cell? ⟨0, 1, none⟩ = some (.int .i64 2147483646) := HG1.out.person 1 _ rfl; have n0_1 : w1.cell? ⟨1, 0, none⟩ = some (.int .i64 0) := HG1.out.number 0 _ rfl; have n1_1 : w1.cell? ⟨1, 1, none⟩ = some (.int .i64 2147483646) := HG1.out.number 1 _ rfl) | (go_at_call 56; (with_reducible refine (statement_limit_holds.calls 1 2147483646 x.f1 true _ (by rw [holds_is]; exact congrArg some HT1.out)).mono ?_); rintro e w2 ⟨rfl, hb2⟩; have HX2 := Aside0.mk (HX1.out.below hb2); have HG2 := Aside0.mk (HG1.out.below hb2); have HB2 := Aside0.mk (below_step HB1.out hb2); clear hb2; have x0_2 : w2.cell? ⟨W.heap.size, 0, none⟩ = some (.int .i64 x.f0) := HX2.out.at_ 0; have x1_2 : w2.cell? ⟨W.heap.size, 1, none⟩ = some (.int .i64 x.f1) := HX2.out.at_ 1; have x2_2 : w2.cell? ⟨W.heap.size, 2, none⟩ = some (.int .i64 x.f2) := HX2.out.at_ 2; have x3_2 : w2.cell? ⟨W.heap.size, 3, none⟩ = some (.int .i64 x.f3) := HX2.out.at_ 3; have x4_2 : w2.cell? ⟨W.heap.size, 4, none⟩ = some (.int .i64 x.f4) := HX2.out.at_ 4; have x5_2 : w2.cell? ⟨W.heap.size, 5, none⟩ = some (.int .i64 x.f5) := HX2.out.at_ 5; have x6_2 : w2.cell? ⟨W.heap.size, 6, none⟩ = some (.int .i64 x.f6) := HX2.out.at_ 6; have x7_2 : w2.cell? ⟨W.heap.size, 7, none⟩ = some (.int .i64 x.f7) := HX2.out.at_ 7; have x8_2 : w2.cell? ⟨W.heap.size, 8, none⟩ = some (.int .i64 x.f8) := HX2.out.at_ 8; have x9_2 : w2.cell? ⟨W.heap.size, 9, none⟩ = some (.int .i64 x.f9) := HX2.out.at_ 9; have x10_2 : w2.cell? ⟨W.heap.size, 10, none⟩ = some (.int .i64 x.f10) := HX2.out.at_ 10; have p0_2 : w2.cell? ⟨0, 0, none⟩ = some (.int .i64 1) := HG2.out.person 0 _ rfl; have p1_2 : w2.cell? ⟨0, 1, none⟩ = some (.int .i64 2147483646) := HG2.out.person 1 _ rfl; have n0_2 : w2.cell? ⟨1, 0, none⟩ = some (.int .i64 0) := HG2.out.number 0 _ rfl; have n1_2 : w2.cell? ⟨1, 1, none⟩ = some (.int .i64 2147483646) := HG2.out.number 1 _ rfl))
        go_ret
        exact ⟨by (first | (rw [HR.out, HFF.out]; done) | simp [HR.out, HFF.out]), HB2.out⟩
      | true =>
        have HT2 := Aside0.mk ht2
        cases ht3 : decide (1 ≤ x.f2) with
        | false =>
          have HT3 := Aside0.mk ht3
          have hF : validB x = false := by
            unfold validB
            rw [HT0.out, HT1.out, HT2.out, HT3.out]
            rfl
          have HFF := Aside0.mk hF
          clear hF
          go_enter Tryd.func53, Tryd.ntmps53
          go_upto_region 1 with (fail)
          rw [← HW.out]
          have x0_0 : W0.cell? ⟨W.heap.size, 0, none⟩ = some (.int .i64 x.f0) := HX0.out.at_ 0
          have x1_0 : W0.cell? ⟨W.heap.size, 1, none⟩ = some (.int .i64 x.f1) := HX0.out.at_ 1
          have x2_0 : W0.cell? ⟨W.heap.size, 2, none⟩ = some (.int .i64 x.f2) := HX0.out.at_ 2
          have x3_0 : W0.cell? ⟨W.heap.size, 3, none⟩ = some (.int .i64 x.f3) := HX0.out.at_ 3
          have x4_0 : W0.cell? ⟨W.heap.size, 4, none⟩ = some (.int .i64 x.f4) := HX0.out.at_ 4
          have x5_0 : W0.cell? ⟨W.heap.size, 5, none⟩ = some (.int .i64 x.f5) := HX0.out.at_ 5
          have x6_0 : W0.cell? ⟨W.heap.size, 6, none⟩ = some (.int .i64 x.f6) := HX0.out.at_ 6
          have x7_0 : W0.cell? ⟨W.heap.size, 7, none⟩ = some (.int .i64 x.f7) := HX0.out.at_ 7
          have x8_0 : W0.cell? ⟨W.heap.size, 8, none⟩ = some (.int .i64 x.f8) := HX0.out.at_ 8
          have x9_0 : W0.cell? ⟨W.heap.size, 9, none⟩ = some (.int .i64 x.f9) := HX0.out.at_ 9
          have x10_0 : W0.cell? ⟨W.heap.size, 10, none⟩ = some (.int .i64 x.f10) := HX0.out.at_ 10
          have p0_0 : W0.cell? ⟨0, 0, none⟩ = some (.int .i64 1) := HG0.out.person 0 _ rfl
          have p1_0 : W0.cell? ⟨0, 1, none⟩ = some (.int .i64 2147483646) := HG0.out.person 1 _ rfl
          have n0_0 : W0.cell? ⟨1, 0, none⟩ = some (.int .i64 0) := HG0.out.number 0 _ rfl
          have n1_0 : W0.cell? ⟨1, 1, none⟩ = some (.int .i64 2147483646) := HG0.out.number 1 _ rfl
          go_wp2_with (first | (go_at_call 56; (with_reducible refine (statement_limit_holds.calls 1 2147483646 x.f0 true _ (by rw [holds_is]; exact congrArg some HT0.out)).mono ?_); rintro e w1 ⟨rfl, hb1⟩; have HX1 := Aside0.mk (HX0.out.below hb1); have HG1 := Aside0.mk (HG0.out.below hb1); have HB1 := Aside0.mk (below_step HB0.out hb1); clear hb1; have x0_1 : w1.cell? ⟨W.heap.size, 0, none⟩ = some (.int .i64 x.f0) := HX1.out.at_ 0; have x1_1 : w1.cell? ⟨W.heap.size, 1, none⟩ = some (.int .i64 x.f1) := HX1.out.at_ 1; have x2_1 : w1.cell? ⟨W.heap.size, 2, none⟩ = some (.int .i64 x.f2) := HX1.out.at_ 2; have x3_1 : w1.cell? ⟨W.heap.size, 3, none⟩ = some (.int .i64 x.f3) := HX1.out.at_ 3; have x4_1 : w1.cell? ⟨W.heap.size, 4, none⟩ = some (.int .i64 x.f4) := HX1.out.at_ 4; have x5_1 : w1.cell? ⟨W.heap.size, 5, none⟩ = some (.int .i64 x.f5) := HX1.out.at_ 5; have x6_1 : w1.cell? ⟨W.heap.size, 6, none⟩ = some (.int .i64 x.f6) := HX1.out.at_ 6; have x7_1 : w1.cell? ⟨W.heap.size, 7, none⟩ = some (.int .i64 x.f7) := HX1.out.at_ 7; have x8_1 : w1.cell? ⟨W.heap.size, 8, none⟩ = some (.int .i64 x.f8) := HX1.out.at_ 8; have x9_1 : w1.cell? ⟨W.heap.size, 9, none⟩ = some (.int .i64 x.f9) := HX1.out.at_ 9; have x10_1 : w1.cell? ⟨W.heap.size, 10, none⟩ = some (.int .i64 x.f10) := HX1.out.at_ 10; have p0_1 : w1.cell? ⟨0, 0, none⟩ = some (.int .i64 1) := HG1.out.person 0 _ rfl; have p1_1 : w1.cell? ⟨0, 1, none⟩ = some (.int .i64 2147483646) := HG1.out.person 1 _ rfl; have n0_1 : w1.cell? ⟨1, 0, none⟩ = some (.int .i64 0) := HG1.out.number 0 _ rfl; have n1_1 : w1.cell? ⟨1, 1, none⟩ = some (.int .i64 2147483646) := HG1.out.number 1 _ rfl) | (go_at_call 56; (with_reducible refine (statement_limit_holds.calls 1 2147483646 x.f1 true _ (by rw [holds_is]; exact congrArg some HT1.out)).mono ?_); rintro e w2 ⟨rfl, hb2⟩; have HX2 := Aside0.mk (HX1.out.below hb2); have HG2 := Aside0.mk (HG1.out.below hb2); have HB2 := Aside0.mk (below_step HB1.out hb2); clear hb2; have x0_2 : w2.cell? ⟨W.heap.size, 0, none⟩ = some (.int .i64 x.f0) := HX2.out.at_ 0; have x1_2 : w2.cell? ⟨W.heap.size, 1, none⟩ = some (.int .i64 x.f1) := HX2.out.at_ 1; have x2_2 : w2.cell? ⟨W.heap.size, 2, none⟩ = some (.int .i64 x.f2) := HX2.out.at_ 2; have x3_2 : w2.cell? ⟨W.heap.size, 3, none⟩ = some (.int .i64 x.f3) := HX2.out.at_ 3; have x4_2 : w2.cell? ⟨W.heap.size, 4, none⟩ = some (.int .i64 x.f4) := HX2.out.at_ 4; have x5_2 : w2.cell? ⟨W.heap.size, 5, none⟩ = some (.int .i64 x.f5) := HX2.out.at_ 5; have x6_2 : w2.cell? ⟨W.heap.size, 6, none⟩ = some (.int .i64 x.f6) := HX2.out.at_ 6; have x7_2 : w2.cell? ⟨W.heap.size, 7, none⟩ = some (.int .i64 x.f7) := HX2.out.at_ 7; have x8_2 : w2.cell? ⟨W.heap.size, 8, none⟩ = some (.int .i64 x.f8) := HX2.out.at_ 8; have x9_2 : w2.cell? ⟨W.heap.size, 9, none⟩ = some (.int .i64 x.f9) := HX2.out.at_ 9; have x10_2 : w2.cell? ⟨W.heap.size, 10, none⟩ = some (.int .i64 x.f10) := HX2.out.at_ 10; have p0_2 : w2.cell? ⟨0, 0, none⟩ = some (.int .i64 1) := HG2.out.person 0 _ rfl; have p1_2 : w2.cell? ⟨0, 1, none⟩ = some (.int .i64 2147483646) := HG2.out.person 1 _ rfl; have n0_2 : w2.cell? ⟨1, 0, none⟩ = some (.int .i64 0) := HG2.out.number 0 _ rfl; have n1_2 : w2.cell? ⟨1, 1, none⟩ = some (.int .i64 2147483646) := HG2.out.number 1 _ rfl))
          go_ret
          exact ⟨by (first | (rw [HR.out, HFF.out]; done) | simp [HR.out, HFF.out]), HB2.out⟩
        | true =>
          have HT3 := Aside0.mk ht3
          cases ht4 : decide (x.f2 ≤ 256) with
          | false =>
            have HT4 := Aside0.mk ht4
            have hF : validB x = false := by
              unfold validB
              rw [HT0.out, HT1.out, HT2.out, HT3.out, HT4.out]
              rfl
            have HFF := Aside0.mk hF
            clear hF
            go_enter Tryd.func53, Tryd.ntmps53
            go_upto_region 1 with (fail)
            rw [← HW.out]
            have x0_0 : W0.cell? ⟨W.heap.size, 0, none⟩ = some (.int .i64 x.f0) := HX0.out.at_ 0
            have x1_0 : W0.cell? ⟨W.heap.size, 1, none⟩ = some (.int .i64 x.f1) := HX0.out.at_ 1
            have x2_0 : W0.cell? ⟨W.heap.size, 2, none⟩ = some (.int .i64 x.f2) := HX0.out.at_ 2
            have x3_0 : W0.cell? ⟨W.heap.size, 3, none⟩ = some (.int .i64 x.f3) := HX0.out.at_ 3
            have x4_0 : W0.cell? ⟨W.heap.size, 4, none⟩ = some (.int .i64 x.f4) := HX0.out.at_ 4
            have x5_0 : W0.cell? ⟨W.heap.size, 5, none⟩ = some (.int .i64 x.f5) := HX0.out.at_ 5
            have x6_0 : W0.cell? ⟨W.heap.size, 6, none⟩ = some (.int .i64 x.f6) := HX0.out.at_ 6
            have x7_0 : W0.cell? ⟨W.heap.size, 7, none⟩ = some (.int .i64 x.f7) := HX0.out.at_ 7
            have x8_0 : W0.cell? ⟨W.heap.size, 8, none⟩ = some (.int .i64 x.f8) := HX0.out.at_ 8
            have x9_0 : W0.cell? ⟨W.heap.size, 9, none⟩ = some (.int .i64 x.f9) := HX0.out.at_ 9
            have x10_0 : W0.cell? ⟨W.heap.size, 10, none⟩ = some (.int .i64 x.f10) := HX0.out.at_ 10
            have p0_0 : W0.cell? ⟨0, 0, none⟩ = some (.int .i64 1) := HG0.out.person 0 _ rfl
            have p1_0 : W0.cell? ⟨0, 1, none⟩ = some (.int .i64 2147483646) := HG0.out.person 1 _ rfl
            have n0_0 : W0.cell? ⟨1, 0, none⟩ = some (.int .i64 0) := HG0.out.number 0 _ rfl
            have n1_0 : W0.cell? ⟨1, 1, none⟩ = some (.int .i64 2147483646) := HG0.out.number 1 _ rfl
            go_wp2_with (first | (go_at_call 56; (with_reducible refine (statement_limit_holds.calls 1 2147483646 x.f0 true _ (by rw [holds_is]; exact congrArg some HT0.out)).mono ?_); rintro e w1 ⟨rfl, hb1⟩; have HX1 := Aside0.mk (HX0.out.below hb1); have HG1 := Aside0.mk (HG0.out.below hb1); have HB1 := Aside0.mk (below_step HB0.out hb1); clear hb1; have x0_1 : w1.cell? ⟨W.heap.size, 0, none⟩ = some (.int .i64 x.f0) := HX1.out.at_ 0; have x1_1 : w1.cell? ⟨W.heap.size, 1, none⟩ = some (.int .i64 x.f1) := HX1.out.at_ 1; have x2_1 : w1.cell? ⟨W.heap.size, 2, none⟩ = some (.int .i64 x.f2) := HX1.out.at_ 2; have x3_1 : w1.cell? ⟨W.heap.size, 3, none⟩ = some (.int .i64 x.f3) := HX1.out.at_ 3; have x4_1 : w1.cell? ⟨W.heap.size, 4, none⟩ = some (.int .i64 x.f4) := HX1.out.at_ 4; have x5_1 : w1.cell? ⟨W.heap.size, 5, none⟩ = some (.int .i64 x.f5) := HX1.out.at_ 5; have x6_1 : w1.cell? ⟨W.heap.size, 6, none⟩ = some (.int .i64 x.f6) := HX1.out.at_ 6; have x7_1 : w1.cell? ⟨W.heap.size, 7, none⟩ = some (.int .i64 x.f7) := HX1.out.at_ 7; have x8_1 : w1.cell? ⟨W.heap.size, 8, none⟩ = some (.int .i64 x.f8) := HX1.out.at_ 8; have x9_1 : w1.cell? ⟨W.heap.size, 9, none⟩ = some (.int .i64 x.f9) := HX1.out.at_ 9; have x10_1 : w1.cell? ⟨W.heap.size, 10, none⟩ = some (.int .i64 x.f10) := HX1.out.at_ 10; have p0_1 : w1.cell? ⟨0, 0, none⟩ = some (.int .i64 1) := HG1.out.person 0 _ rfl; have p1_1 : w1.cell? ⟨0, 1, none⟩ = some (.int .i64 2147483646) := HG1.out.person 1 _ rfl; have n0_1 : w1.cell? ⟨1, 0, none⟩ = some (.int .i64 0) := HG1.out.number 0 _ rfl; have n1_1 : w1.cell? ⟨1, 1, none⟩ = some (.int .i64 2147483646) := HG1.out.number 1 _ rfl) | (go_at_call 56; (with_reducible refine (statement_limit_holds.calls 1 2147483646 x.f1 true _ (by rw [holds_is]; exact congrArg some HT1.out)).mono ?_); rintro e w2 ⟨rfl, hb2⟩; have HX2 := Aside0.mk (HX1.out.below hb2); have HG2 := Aside0.mk (HG1.out.below hb2); have HB2 := Aside0.mk (below_step HB1.out hb2); clear hb2; have x0_2 : w2.cell? ⟨W.heap.size, 0, none⟩ = some (.int .i64 x.f0) := HX2.out.at_ 0; have x1_2 : w2.cell? ⟨W.heap.size, 1, none⟩ = some (.int .i64 x.f1) := HX2.out.at_ 1; have x2_2 : w2.cell? ⟨W.heap.size, 2, none⟩ = some (.int .i64 x.f2) := HX2.out.at_ 2; have x3_2 : w2.cell? ⟨W.heap.size, 3, none⟩ = some (.int .i64 x.f3) := HX2.out.at_ 3; have x4_2 : w2.cell? ⟨W.heap.size, 4, none⟩ = some (.int .i64 x.f4) := HX2.out.at_ 4; have x5_2 : w2.cell? ⟨W.heap.size, 5, none⟩ = some (.int .i64 x.f5) := HX2.out.at_ 5; have x6_2 : w2.cell? ⟨W.heap.size, 6, none⟩ = some (.int .i64 x.f6) := HX2.out.at_ 6; have x7_2 : w2.cell? ⟨W.heap.size, 7, none⟩ = some (.int .i64 x.f7) := HX2.out.at_ 7; have x8_2 : w2.cell? ⟨W.heap.size, 8, none⟩ = some (.int .i64 x.f8) := HX2.out.at_ 8; have x9_2 : w2.cell? ⟨W.heap.size, 9, none⟩ = some (.int .i64 x.f9) := HX2.out.at_ 9; have x10_2 : w2.cell? ⟨W.heap.size, 10, none⟩ = some (.int .i64 x.f10) := HX2.out.at_ 10; have p0_2 : w2.cell? ⟨0, 0, none⟩ = some (.int .i64 1) := HG2.out.person 0 _ rfl; have p1_2 : w2.cell? ⟨0, 1, none⟩ = some (.int .i64 2147483646) := HG2.out.person 1 _ rfl; have n0_2 : w2.cell? ⟨1, 0, none⟩ = some (.int .i64 0) := HG2.out.number 0 _ rfl; have n1_2 : w2.cell? ⟨1, 1, none⟩ = some (.int .i64 2147483646) := HG2.out.number 1 _ rfl))
            go_ret
            exact ⟨by (first | (rw [HR.out, HFF.out]; done) | simp [HR.out, HFF.out]), HB2.out⟩
          | true =>
            have HT4 := Aside0.mk ht4
            cases ht5 : holdsB 0 2147483646 x.f3 with
            | false =>
              have HT5 := Aside0.mk ht5
              clear ht5
              have hF : validB x = false := by
                unfold validB
                rw [HT0.out, HT1.out, HT2.out, HT3.out, HT4.out, HT5.out]
                rfl
              have HFF := Aside0.mk hF
              clear hF
              go_enter Tryd.func53, Tryd.ntmps53
              go_upto_region 1 with (fail)
              rw [← HW.out]
              have x0_0 : W0.cell? ⟨W.heap.size, 0, none⟩ = some (.int .i64 x.f0) := HX0.out.at_ 0
              have x1_0 : W0.cell? ⟨W.heap.size, 1, none⟩ = some (.int .i64 x.f1) := HX0.out.at_ 1
              have x2_0 : W0.cell? ⟨W.heap.size, 2, none⟩ = some (.int .i64 x.f2) := HX0.out.at_ 2
              have x3_0 : W0.cell? ⟨W.heap.size, 3, none⟩ = some (.int .i64 x.f3) := HX0.out.at_ 3
              have x4_0 : W0.cell? ⟨W.heap.size, 4, none⟩ = some (.int .i64 x.f4) := HX0.out.at_ 4
              have x5_0 : W0.cell? ⟨W.heap.size, 5, none⟩ = some (.int .i64 x.f5) := HX0.out.at_ 5
              have x6_0 : W0.cell? ⟨W.heap.size, 6, none⟩ = some (.int .i64 x.f6) := HX0.out.at_ 6
              have x7_0 : W0.cell? ⟨W.heap.size, 7, none⟩ = some (.int .i64 x.f7) := HX0.out.at_ 7
              have x8_0 : W0.cell? ⟨W.heap.size, 8, none⟩ = some (.int .i64 x.f8) := HX0.out.at_ 8
              have x9_0 : W0.cell? ⟨W.heap.size, 9, none⟩ = some (.int .i64 x.f9) := HX0.out.at_ 9
              have x10_0 : W0.cell? ⟨W.heap.size, 10, none⟩ = some (.int .i64 x.f10) := HX0.out.at_ 10
              have p0_0 : W0.cell? ⟨0, 0, none⟩ = some (.int .i64 1) := HG0.out.person 0 _ rfl
              have p1_0 : W0.cell? ⟨0, 1, none⟩ = some (.int .i64 2147483646) := HG0.out.person 1 _ rfl
              have n0_0 : W0.cell? ⟨1, 0, none⟩ = some (.int .i64 0) := HG0.out.number 0 _ rfl
              have n1_0 : W0.cell? ⟨1, 1, none⟩ = some (.int .i64 2147483646) := HG0.out.number 1 _ rfl
              go_wp2_with (first | (go_at_call 56; (with_reducible refine (statement_limit_holds.calls 1 2147483646 x.f0 true _ (by rw [holds_is]; exact congrArg some HT0.out)).mono ?_); rintro e w1 ⟨rfl, hb1⟩; have HX1 := Aside0.mk (HX0.out.below hb1); have HG1 := Aside0.mk (HG0.out.below hb1); have HB1 := Aside0.mk (below_step HB0.out hb1); clear hb1; have x0_1 : w1.cell? ⟨W.heap.size, 0, none⟩ = some (.int .i64 x.f0) := HX1.out.at_ 0; have x1_1 : w1.cell? ⟨W.heap.size, 1, none⟩ = some (.int .i64 x.f1) := HX1.out.at_ 1; have x2_1 : w1.cell? ⟨W.heap.size, 2, none⟩ = some (.int .i64 x.f2) := HX1.out.at_ 2; have x3_1 : w1.cell? ⟨W.heap.size, 3, none⟩ = some (.int .i64 x.f3) := HX1.out.at_ 3; have x4_1 : w1.cell? ⟨W.heap.size, 4, none⟩ = some (.int .i64 x.f4) := HX1.out.at_ 4; have x5_1 : w1.cell? ⟨W.heap.size, 5, none⟩ = some (.int .i64 x.f5) := HX1.out.at_ 5; have x6_1 : w1.cell? ⟨W.heap.size, 6, none⟩ = some (.int .i64 x.f6) := HX1.out.at_ 6; have x7_1 : w1.cell? ⟨W.heap.size, 7, none⟩ = some (.int .i64 x.f7) := HX1.out.at_ 7; have x8_1 : w1.cell? ⟨W.heap.size, 8, none⟩ = some (.int .i64 x.f8) := HX1.out.at_ 8; have x9_1 : w1.cell? ⟨W.heap.size, 9, none⟩ = some (.int .i64 x.f9) := HX1.out.at_ 9; have x10_1 : w1.cell? ⟨W.heap.size, 10, none⟩ = some (.int .i64 x.f10) := HX1.out.at_ 10; have p0_1 : w1.cell? ⟨0, 0, none⟩ = some (.int .i64 1) := HG1.out.person 0 _ rfl; have p1_1 : w1.cell? ⟨0, 1, none⟩ = some (.int .i64 2147483646) := HG1.out.person 1 _ rfl; have n0_1 : w1.cell? ⟨1, 0, none⟩ = some (.int .i64 0) := HG1.out.number 0 _ rfl; have n1_1 : w1.cell? ⟨1, 1, none⟩ = some (.int .i64 2147483646) := HG1.out.number 1 _ rfl) | (go_at_call 56; (with_reducible refine (statement_limit_holds.calls 1 2147483646 x.f1 true _ (by rw [holds_is]; exact congrArg some HT1.out)).mono ?_); rintro e w2 ⟨rfl, hb2⟩; have HX2 := Aside0.mk (HX1.out.below hb2); have HG2 := Aside0.mk (HG1.out.below hb2); have HB2 := Aside0.mk (below_step HB1.out hb2); clear hb2; have x0_2 : w2.cell? ⟨W.heap.size, 0, none⟩ = some (.int .i64 x.f0) := HX2.out.at_ 0; have x1_2 : w2.cell? ⟨W.heap.size, 1, none⟩ = some (.int .i64 x.f1) := HX2.out.at_ 1; have x2_2 : w2.cell? ⟨W.heap.size, 2, none⟩ = some (.int .i64 x.f2) := HX2.out.at_ 2; have x3_2 : w2.cell? ⟨W.heap.size, 3, none⟩ = some (.int .i64 x.f3) := HX2.out.at_ 3; have x4_2 : w2.cell? ⟨W.heap.size, 4, none⟩ = some (.int .i64 x.f4) := HX2.out.at_ 4; have x5_2 : w2.cell? ⟨W.heap.size, 5, none⟩ = some (.int .i64 x.f5) := HX2.out.at_ 5; have x6_2 : w2.cell? ⟨W.heap.size, 6, none⟩ = some (.int .i64 x.f6) := HX2.out.at_ 6; have x7_2 : w2.cell? ⟨W.heap.size, 7, none⟩ = some (.int .i64 x.f7) := HX2.out.at_ 7; have x8_2 : w2.cell? ⟨W.heap.size, 8, none⟩ = some (.int .i64 x.f8) := HX2.out.at_ 8; have x9_2 : w2.cell? ⟨W.heap.size, 9, none⟩ = some (.int .i64 x.f9) := HX2.out.at_ 9; have x10_2 : w2.cell? ⟨W.heap.size, 10, none⟩ = some (.int .i64 x.f10) := HX2.out.at_ 10; have p0_2 : w2.cell? ⟨0, 0, none⟩ = some (.int .i64 1) := HG2.out.person 0 _ rfl; have p1_2 : w2.cell? ⟨0, 1, none⟩ = some (.int .i64 2147483646) := HG2.out.person 1 _ rfl; have n0_2 : w2.cell? ⟨1, 0, none⟩ = some (.int .i64 0) := HG2.out.number 0 _ rfl; have n1_2 : w2.cell? ⟨1, 1, none⟩ = some (.int .i64 2147483646) := HG2.out.number 1 _ rfl) | (go_at_call 56; (with_reducible refine (statement_limit_holds.calls 0 2147483646 x.f3 false _ (by rw [holds_is]; exact congrArg some HT5.out)).mono ?_); rintro e w3 ⟨rfl, hb3⟩; have HX3 := Aside0.mk (HX2.out.below hb3); have HG3 := Aside0.mk (HG2.out.below hb3); have HB3 := Aside0.mk (below_step HB2.out hb3); clear hb3; have x0_3 : w3.cell? ⟨W.heap.size, 0, none⟩ = some (.int .i64 x.f0) := HX3.out.at_ 0; have x1_3 : w3.cell? ⟨W.heap.size, 1, none⟩ = some (.int .i64 x.f1) := HX3.out.at_ 1; have x2_3 : w3.cell? ⟨W.heap.size, 2, none⟩ = some (.int .i64 x.f2) := HX3.out.at_ 2; have x3_3 : w3.cell? ⟨W.heap.size, 3, none⟩ = some (.int .i64 x.f3) := HX3.out.at_ 3; have x4_3 : w3.cell? ⟨W.heap.size, 4, none⟩ = some (.int .i64 x.f4) := HX3.out.at_ 4; have x5_3 : w3.cell? ⟨W.heap.size, 5, none⟩ = some (.int .i64 x.f5) := HX3.out.at_ 5; have x6_3 : w3.cell? ⟨W.heap.size, 6, none⟩ = some (.int .i64 x.f6) := HX3.out.at_ 6; have x7_3 : w3.cell? ⟨W.heap.size, 7, none⟩ = some (.int .i64 x.f7) := HX3.out.at_ 7; have x8_3 : w3.cell? ⟨W.heap.size, 8, none⟩ = some (.int .i64 x.f8) := HX3.out.at_ 8; have x9_3 : w3.cell? ⟨W.heap.size, 9, none⟩ = some (.int .i64 x.f9) := HX3.out.at_ 9; have x10_3 : w3.cell? ⟨W.heap.size, 10, none⟩ = some (.int .i64 x.f10) := HX3.out.at_ 10; have p0_3 : w3.cell? ⟨0, 0, none⟩ = some (.int .i64 1) := HG3.out.person 0 _ rfl; have p1_3 : w3.cell? ⟨0, 1, none⟩ = some (.int .i64 2147483646) := HG3.out.person 1 _ rfl; have n0_3 : w3.cell? ⟨1, 0, none⟩ = some (.int .i64 0) := HG3.out.number 0 _ rfl; have n1_3 : w3.cell? ⟨1, 1, none⟩ = some (.int .i64 2147483646) := HG3.out.number 1 _ rfl))
              go_ret
              exact ⟨by (first | (rw [HR.out, HFF.out]; done) | simp [HR.out, HFF.out]), HB3.out⟩
            | true =>
              have HT5 := Aside0.mk ht5
              clear ht5
              cases hl_ : decide (1 < x.f2) with
              | true =>
                have HT6 : Aside0 ((decide (1 < x.f2) || (x.f3 == 0)) = true) := ⟨by rw [hl_]; rfl⟩
                cases ht7 : decide (0 ≤ x.f4) with
                | false =>
                  have HT7 := Aside0.mk ht7
                  have hF : validB x = false := by
                    unfold validB
                    rw [HT0.out, HT1.out, HT2.out, HT3.out, HT4.out, HT5.out, HT6.out, HT7.out]
                    rfl
                  have HFF := Aside0.mk hF
                  clear hF
                  go_enter Tryd.func53, Tryd.ntmps53
                  go_upto_region 1 with (fail)
                  rw [← HW.out]
                  have x0_0 : W0.cell? ⟨W.heap.size, 0, none⟩ = some (.int .i64 x.f0) := HX0.out.at_ 0
                  have x1_0 : W0.cell? ⟨W.heap.size, 1, none⟩ = some (.int .i64 x.f1) := HX0.out.at_ 1
                  have x2_0 : W0.cell? ⟨W.heap.size, 2, none⟩ = some (.int .i64 x.f2) := HX0.out.at_ 2
                  have x3_0 : W0.cell? ⟨W.heap.size, 3, none⟩ = some (.int .i64 x.f3) := HX0.out.at_ 3
                  have x4_0 : W0.cell? ⟨W.heap.size, 4, none⟩ = some (.int .i64 x.f4) := HX0.out.at_ 4
                  have x5_0 : W0.cell? ⟨W.heap.size, 5, none⟩ = some (.int .i64 x.f5) := HX0.out.at_ 5
                  have x6_0 : W0.cell? ⟨W.heap.size, 6, none⟩ = some (.int .i64 x.f6) := HX0.out.at_ 6
                  have x7_0 : W0.cell? ⟨W.heap.size, 7, none⟩ = some (.int .i64 x.f7) := HX0.out.at_ 7
                  have x8_0 : W0.cell? ⟨W.heap.size, 8, none⟩ = some (.int .i64 x.f8) := HX0.out.at_ 8
                  have x9_0 : W0.cell? ⟨W.heap.size, 9, none⟩ = some (.int .i64 x.f9) := HX0.out.at_ 9
                  have x10_0 : W0.cell? ⟨W.heap.size, 10, none⟩ = some (.int .i64 x.f10) := HX0.out.at_ 10
                  have p0_0 : W0.cell? ⟨0, 0, none⟩ = some (.int .i64 1) := HG0.out.person 0 _ rfl
                  have p1_0 : W0.cell? ⟨0, 1, none⟩ = some (.int .i64 2147483646) := HG0.out.person 1 _ rfl
                  have n0_0 : W0.cell? ⟨1, 0, none⟩ = some (.int .i64 0) := HG0.out.number 0 _ rfl
                  have n1_0 : W0.cell? ⟨1, 1, none⟩ = some (.int .i64 2147483646) := HG0.out.number 1 _ rfl
                  go_wp2_with (first | (go_at_call 56; (with_reducible refine (statement_limit_holds.calls 1 2147483646 x.f0 true _ (by rw [holds_is]; exact congrArg some HT0.out)).mono ?_); rintro e w1 ⟨rfl, hb1⟩; have HX1 := Aside0.mk (HX0.out.below hb1); have HG1 := Aside0.mk (HG0.out.below hb1); have HB1 := Aside0.mk (below_step HB0.out hb1); clear hb1; have x0_1 : w1.cell? ⟨W.heap.size, 0, none⟩ = some (.int .i64 x.f0) := HX1.out.at_ 0; have x1_1 : w1.cell? ⟨W.heap.size, 1, none⟩ = some (.int .i64 x.f1) := HX1.out.at_ 1; have x2_1 : w1.cell? ⟨W.heap.size, 2, none⟩ = some (.int .i64 x.f2) := HX1.out.at_ 2; have x3_1 : w1.cell? ⟨W.heap.size, 3, none⟩ = some (.int .i64 x.f3) := HX1.out.at_ 3; have x4_1 : w1.cell? ⟨W.heap.size, 4, none⟩ = some (.int .i64 x.f4) := HX1.out.at_ 4; have x5_1 : w1.cell? ⟨W.heap.size, 5, none⟩ = some (.int .i64 x.f5) := HX1.out.at_ 5; have x6_1 : w1.cell? ⟨W.heap.size, 6, none⟩ = some (.int .i64 x.f6) := HX1.out.at_ 6; have x7_1 : w1.cell? ⟨W.heap.size, 7, none⟩ = some (.int .i64 x.f7) := HX1.out.at_ 7; have x8_1 : w1.cell? ⟨W.heap.size, 8, none⟩ = some (.int .i64 x.f8) := HX1.out.at_ 8; have x9_1 : w1.cell? ⟨W.heap.size, 9, none⟩ = some (.int .i64 x.f9) := HX1.out.at_ 9; have x10_1 : w1.cell? ⟨W.heap.size, 10, none⟩ = some (.int .i64 x.f10) := HX1.out.at_ 10; have p0_1 : w1.cell? ⟨0, 0, none⟩ = some (.int .i64 1) := HG1.out.person 0 _ rfl; have p1_1 : w1.cell? ⟨0, 1, none⟩ = some (.int .i64 2147483646) := HG1.out.person 1 _ rfl; have n0_1 : w1.cell? ⟨1, 0, none⟩ = some (.int .i64 0) := HG1.out.number 0 _ rfl; have n1_1 : w1.cell? ⟨1, 1, none⟩ = some (.int .i64 2147483646) := HG1.out.number 1 _ rfl) | (go_at_call 56; (with_reducible refine (statement_limit_holds.calls 1 2147483646 x.f1 true _ (by rw [holds_is]; exact congrArg some HT1.out)).mono ?_); rintro e w2 ⟨rfl, hb2⟩; have HX2 := Aside0.mk (HX1.out.below hb2); have HG2 := Aside0.mk (HG1.out.below hb2); have HB2 := Aside0.mk (below_step HB1.out hb2); clear hb2; have x0_2 : w2.cell? ⟨W.heap.size, 0, none⟩ = some (.int .i64 x.f0) := HX2.out.at_ 0; have x1_2 : w2.cell? ⟨W.heap.size, 1, none⟩ = some (.int .i64 x.f1) := HX2.out.at_ 1; have x2_2 : w2.cell? ⟨W.heap.size, 2, none⟩ = some (.int .i64 x.f2) := HX2.out.at_ 2; have x3_2 : w2.cell? ⟨W.heap.size, 3, none⟩ = some (.int .i64 x.f3) := HX2.out.at_ 3; have x4_2 : w2.cell? ⟨W.heap.size, 4, none⟩ = some (.int .i64 x.f4) := HX2.out.at_ 4; have x5_2 : w2.cell? ⟨W.heap.size, 5, none⟩ = some (.int .i64 x.f5) := HX2.out.at_ 5; have x6_2 : w2.cell? ⟨W.heap.size, 6, none⟩ = some (.int .i64 x.f6) := HX2.out.at_ 6; have x7_2 : w2.cell? ⟨W.heap.size, 7, none⟩ = some (.int .i64 x.f7) := HX2.out.at_ 7; have x8_2 : w2.cell? ⟨W.heap.size, 8, none⟩ = some (.int .i64 x.f8) := HX2.out.at_ 8; have x9_2 : w2.cell? ⟨W.heap.size, 9, none⟩ = some (.int .i64 x.f9) := HX2.out.at_ 9; have x10_2 : w2.cell? ⟨W.heap.size, 10, none⟩ = some (.int .i64 x.f10) := HX2.out.at_ 10; have p0_2 : w2.cell? ⟨0, 0, none⟩ = some (.int .i64 1) := HG2.out.person 0 _ rfl; have p1_2 : w2.cell? ⟨0, 1, none⟩ = some (.int .i64 2147483646) := HG2.out.person 1 _ rfl; have n0_2 : w2.cell? ⟨1, 0, none⟩ = some (.int .i64 0) := HG2.out.number 0 _ rfl; have n1_2 : w2.cell? ⟨1, 1, none⟩ = some (.int .i64 2147483646) := HG2.out.number 1 _ rfl) | (go_at_call 56; (with_reducible refine (statement_limit_holds.calls 0 2147483646 x.f3 true _ (by rw [holds_is]; exact congrArg some HT5.out)).mono ?_); rintro e w3 ⟨rfl, hb3⟩; have HX3 := Aside0.mk (HX2.out.below hb3); have HG3 := Aside0.mk (HG2.out.below hb3); have HB3 := Aside0.mk (below_step HB2.out hb3); clear hb3; have x0_3 : w3.cell? ⟨W.heap.size, 0, none⟩ = some (.int .i64 x.f0) := HX3.out.at_ 0; have x1_3 : w3.cell? ⟨W.heap.size, 1, none⟩ = some (.int .i64 x.f1) := HX3.out.at_ 1; have x2_3 : w3.cell? ⟨W.heap.size, 2, none⟩ = some (.int .i64 x.f2) := HX3.out.at_ 2; have x3_3 : w3.cell? ⟨W.heap.size, 3, none⟩ = some (.int .i64 x.f3) := HX3.out.at_ 3; have x4_3 : w3.cell? ⟨W.heap.size, 4, none⟩ = some (.int .i64 x.f4) := HX3.out.at_ 4; have x5_3 : w3.cell? ⟨W.heap.size, 5, none⟩ = some (.int .i64 x.f5) := HX3.out.at_ 5; have x6_3 : w3.cell? ⟨W.heap.size, 6, none⟩ = some (.int .i64 x.f6) := HX3.out.at_ 6; have x7_3 : w3.cell? ⟨W.heap.size, 7, none⟩ = some (.int .i64 x.f7) := HX3.out.at_ 7; have x8_3 : w3.cell? ⟨W.heap.size, 8, none⟩ = some (.int .i64 x.f8) := HX3.out.at_ 8; have x9_3 : w3.cell? ⟨W.heap.size, 9, none⟩ = some (.int .i64 x.f9) := HX3.out.at_ 9; have x10_3 : w3.cell? ⟨W.heap.size, 10, none⟩ = some (.int .i64 x.f10) := HX3.out.at_ 10; have p0_3 : w3.cell? ⟨0, 0, none⟩ = some (.int .i64 1) := HG3.out.person 0 _ rfl; have p1_3 : w3.cell? ⟨0, 1, none⟩ = some (.int .i64 2147483646) := HG3.out.person 1 _ rfl; have n0_3 : w3.cell? ⟨1, 0, none⟩ = some (.int .i64 0) := HG3.out.number 0 _ rfl; have n1_3 : w3.cell? ⟨1, 1, none⟩ = some (.int .i64 2147483646) := HG3.out.number 1 _ rfl))
                  go_ret
                  exact ⟨by (first | (rw [HR.out, HFF.out]; done) | simp [HR.out, HFF.out]), HB3.out⟩
                | true =>
                  have HT7 := Aside0.mk ht7
                  cases ht8 : decide (x.f4 ≤ 1048576) with
                  | false =>
                    have HT8 := Aside0.mk ht8
                    have hF : validB x = false := by
                      unfold validB
                      rw [HT0.out, HT1.out, HT2.out, HT3.out, HT4.out, HT5.out, HT6.out, HT7.out, HT8.out]
                      rfl
                    have HFF := Aside0.mk hF
                    clear hF
                    go_enter Tryd.func53, Tryd.ntmps53
                    go_upto_region 1 with (fail)
                    rw [← HW.out]
                    have x0_0 : W0.cell? ⟨W.heap.size, 0, none⟩ = some (.int .i64 x.f0) := HX0.out.at_ 0
                    have x1_0 : W0.cell? ⟨W.heap.size, 1, none⟩ = some (.int .i64 x.f1) := HX0.out.at_ 1
                    have x2_0 : W0.cell? ⟨W.heap.size, 2, none⟩ = some (.int .i64 x.f2) := HX0.out.at_ 2
                    have x3_0 : W0.cell? ⟨W.heap.size, 3, none⟩ = some (.int .i64 x.f3) := HX0.out.at_ 3
                    have x4_0 : W0.cell? ⟨W.heap.size, 4, none⟩ = some (.int .i64 x.f4) := HX0.out.at_ 4
                    have x5_0 : W0.cell? ⟨W.heap.size, 5, none⟩ = some (.int .i64 x.f5) := HX0.out.at_ 5
                    have x6_0 : W0.cell? ⟨W.heap.size, 6, none⟩ = some (.int .i64 x.f6) := HX0.out.at_ 6
                    have x7_0 : W0.cell? ⟨W.heap.size, 7, none⟩ = some (.int .i64 x.f7) := HX0.out.at_ 7
                    have x8_0 : W0.cell? ⟨W.heap.size, 8, none⟩ = some (.int .i64 x.f8) := HX0.out.at_ 8
                    have x9_0 : W0.cell? ⟨W.heap.size, 9, none⟩ = some (.int .i64 x.f9) := HX0.out.at_ 9
                    have x10_0 : W0.cell? ⟨W.heap.size, 10, none⟩ = some (.int .i64 x.f10) := HX0.out.at_ 10
                    have p0_0 : W0.cell? ⟨0, 0, none⟩ = some (.int .i64 1) := HG0.out.person 0 _ rfl
                    have p1_0 : W0.cell? ⟨0, 1, none⟩ = some (.int .i64 2147483646) := HG0.out.person 1 _ rfl
                    have n0_0 : W0.cell? ⟨1, 0, none⟩ = some (.int .i64 0) := HG0.out.number 0 _ rfl
                    have n1_0 : W0.cell? ⟨1, 1, none⟩ = some (.int .i64 2147483646) := HG0.out.number 1 _ rfl
                    go_wp2_with (first | (go_at_call 56; (with_reducible refine (statement_limit_holds.calls 1 2147483646 x.f0 true _ (by rw [holds_is]; exact congrArg some HT0.out)).mono ?_); rintro e w1 ⟨rfl, hb1⟩; have HX1 := Aside0.mk (HX0.out.below hb1); have HG1 := Aside0.mk (HG0.out.below hb1); have HB1 := Aside0.mk (below_step HB0.out hb1); clear hb1; have x0_1 : w1.cell? ⟨W.heap.size, 0, none⟩ = some (.int .i64 x.f0) := HX1.out.at_ 0; have x1_1 : w1.cell? ⟨W.heap.size, 1, none⟩ = some (.int .i64 x.f1) := HX1.out.at_ 1; have x2_1 : w1.cell? ⟨W.heap.size, 2, none⟩ = some (.int .i64 x.f2) := HX1.out.at_ 2; have x3_1 : w1.cell? ⟨W.heap.size, 3, none⟩ = some (.int .i64 x.f3) := HX1.out.at_ 3; have x4_1 : w1.cell? ⟨W.heap.size, 4, none⟩ = some (.int .i64 x.f4) := HX1.out.at_ 4; have x5_1 : w1.cell? ⟨W.heap.size, 5, none⟩ = some (.int .i64 x.f5) := HX1.out.at_ 5; have x6_1 : w1.cell? ⟨W.heap.size, 6, none⟩ = some (.int .i64 x.f6) := HX1.out.at_ 6; have x7_1 : w1.cell? ⟨W.heap.size, 7, none⟩ = some (.int .i64 x.f7) := HX1.out.at_ 7; have x8_1 : w1.cell? ⟨W.heap.size, 8, none⟩ = some (.int .i64 x.f8) := HX1.out.at_ 8; have x9_1 : w1.cell? ⟨W.heap.size, 9, none⟩ = some (.int .i64 x.f9) := HX1.out.at_ 9; have x10_1 : w1.cell? ⟨W.heap.size, 10, none⟩ = some (.int .i64 x.f10) := HX1.out.at_ 10; have p0_1 : w1.cell? ⟨0, 0, none⟩ = some (.int .i64 1) := HG1.out.person 0 _ rfl; have p1_1 : w1.cell? ⟨0, 1, none⟩ = some (.int .i64 2147483646) := HG1.out.person 1 _ rfl; have n0_1 : w1.cell? ⟨1, 0, none⟩ = some (.int .i64 0) := HG1.out.number 0 _ rfl; have n1_1 : w1.cell? ⟨1, 1, none⟩ = some (.int .i64 2147483646) := HG1.out.number 1 _ rfl) | (go_at_call 56; (with_reducible refine (statement_limit_holds.calls 1 2147483646 x.f1 true _ (by rw [holds_is]; exact congrArg some HT1.out)).mono ?_); rintro e w2 ⟨rfl, hb2⟩; have HX2 := Aside0.mk (HX1.out.below hb2); have HG2 := Aside0.mk (HG1.out.below hb2); have HB2 := Aside0.mk (below_step HB1.out hb2); clear hb2; have x0_2 : w2.cell? ⟨W.heap.size, 0, none⟩ = some (.int .i64 x.f0) := HX2.out.at_ 0; have x1_2 : w2.cell? ⟨W.heap.size, 1, none⟩ = some (.int .i64 x.f1) := HX2.out.at_ 1; have x2_2 : w2.cell? ⟨W.heap.size, 2, none⟩ = some (.int .i64 x.f2) := HX2.out.at_ 2; have x3_2 : w2.cell? ⟨W.heap.size, 3, none⟩ = some (.int .i64 x.f3) := HX2.out.at_ 3; have x4_2 : w2.cell? ⟨W.heap.size, 4, none⟩ = some (.int .i64 x.f4) := HX2.out.at_ 4; have x5_2 : w2.cell? ⟨W.heap.size, 5, none⟩ = some (.int .i64 x.f5) := HX2.out.at_ 5; have x6_2 : w2.cell? ⟨W.heap.size, 6, none⟩ = some (.int .i64 x.f6) := HX2.out.at_ 6; have x7_2 : w2.cell? ⟨W.heap.size, 7, none⟩ = some (.int .i64 x.f7) := HX2.out.at_ 7; have x8_2 : w2.cell? ⟨W.heap.size, 8, none⟩ = some (.int .i64 x.f8) := HX2.out.at_ 8; have x9_2 : w2.cell? ⟨W.heap.size, 9, none⟩ = some (.int .i64 x.f9) := HX2.out.at_ 9; have x10_2 : w2.cell? ⟨W.heap.size, 10, none⟩ = some (.int .i64 x.f10) := HX2.out.at_ 10; have p0_2 : w2.cell? ⟨0, 0, none⟩ = some (.int .i64 1) := HG2.out.person 0 _ rfl; have p1_2 : w2.cell? ⟨0, 1, none⟩ = some (.int .i64 2147483646) := HG2.out.person 1 _ rfl; have n0_2 : w2.cell? ⟨1, 0, none⟩ = some (.int .i64 0) := HG2.out.number 0 _ rfl; have n1_2 : w2.cell? ⟨1, 1, none⟩ = some (.int .i64 2147483646) := HG2.out.number 1 _ rfl) | (go_at_call 56; (with_reducible refine (statement_limit_holds.calls 0 2147483646 x.f3 true _ (by rw [holds_is]; exact congrArg some HT5.out)).mono ?_); rintro e w3 ⟨rfl, hb3⟩; have HX3 := Aside0.mk (HX2.out.below hb3); have HG3 := Aside0.mk (HG2.out.below hb3); have HB3 := Aside0.mk (below_step HB2.out hb3); clear hb3; have x0_3 : w3.cell? ⟨W.heap.size, 0, none⟩ = some (.int .i64 x.f0) := HX3.out.at_ 0; have x1_3 : w3.cell? ⟨W.heap.size, 1, none⟩ = some (.int .i64 x.f1) := HX3.out.at_ 1; have x2_3 : w3.cell? ⟨W.heap.size, 2, none⟩ = some (.int .i64 x.f2) := HX3.out.at_ 2; have x3_3 : w3.cell? ⟨W.heap.size, 3, none⟩ = some (.int .i64 x.f3) := HX3.out.at_ 3; have x4_3 : w3.cell? ⟨W.heap.size, 4, none⟩ = some (.int .i64 x.f4) := HX3.out.at_ 4; have x5_3 : w3.cell? ⟨W.heap.size, 5, none⟩ = some (.int .i64 x.f5) := HX3.out.at_ 5; have x6_3 : w3.cell? ⟨W.heap.size, 6, none⟩ = some (.int .i64 x.f6) := HX3.out.at_ 6; have x7_3 : w3.cell? ⟨W.heap.size, 7, none⟩ = some (.int .i64 x.f7) := HX3.out.at_ 7; have x8_3 : w3.cell? ⟨W.heap.size, 8, none⟩ = some (.int .i64 x.f8) := HX3.out.at_ 8; have x9_3 : w3.cell? ⟨W.heap.size, 9, none⟩ = some (.int .i64 x.f9) := HX3.out.at_ 9; have x10_3 : w3.cell? ⟨W.heap.size, 10, none⟩ = some (.int .i64 x.f10) := HX3.out.at_ 10; have p0_3 : w3.cell? ⟨0, 0, none⟩ = some (.int .i64 1) := HG3.out.person 0 _ rfl; have p1_3 : w3.cell? ⟨0, 1, none⟩ = some (.int .i64 2147483646) := HG3.out.person 1 _ rfl; have n0_3 : w3.cell? ⟨1, 0, none⟩ = some (.int .i64 0) := HG3.out.number 0 _ rfl; have n1_3 : w3.cell? ⟨1, 1, none⟩ = some (.int .i64 2147483646) := HG3.out.number 1 _ rfl))
                    go_ret
                    exact ⟨by (first | (rw [HR.out, HFF.out]; done) | simp [HR.out, HFF.out]), HB3.out⟩
                  | true =>
                    have HT8 := Aside0.mk ht8
                    cases ht9 : holdsB 0 2147483646 x.f10 with
                    | false =>
                      have HT9 := Aside0.mk ht9
                      clear ht9
                      have hF : validB x = false := by
                        unfold validB
                        rw [HT0.out, HT1.out, HT2.out, HT3.out, HT4.out, HT5.out, HT6.out, HT7.out, HT8.out, HT9.out]
                        rfl
                      have HFF := Aside0.mk hF
                      clear hF
                      go_enter Tryd.func53, Tryd.ntmps53
                      go_upto_region 1 with (fail)
                      rw [← HW.out]
                      have x0_0 : W0.cell? ⟨W.heap.size, 0, none⟩ = some (.int .i64 x.f0) := HX0.out.at_ 0
                      have x1_0 : W0.cell? ⟨W.heap.size, 1, none⟩ = some (.int .i64 x.f1) := HX0.out.at_ 1
                      have x2_0 : W0.cell? ⟨W.heap.size, 2, none⟩ = some (.int .i64 x.f2) := HX0.out.at_ 2
                      have x3_0 : W0.cell? ⟨W.heap.size, 3, none⟩ = some (.int .i64 x.f3) := HX0.out.at_ 3
                      have x4_0 : W0.cell? ⟨W.heap.size, 4, none⟩ = some (.int .i64 x.f4) := HX0.out.at_ 4
                      have x5_0 : W0.cell? ⟨W.heap.size, 5, none⟩ = some (.int .i64 x.f5) := HX0.out.at_ 5
                      have x6_0 : W0.cell? ⟨W.heap.size, 6, none⟩ = some (.int .i64 x.f6) := HX0.out.at_ 6
                      have x7_0 : W0.cell? ⟨W.heap.size, 7, none⟩ = some (.int .i64 x.f7) := HX0.out.at_ 7
                      have x8_0 : W0.cell? ⟨W.heap.size, 8, none⟩ = some (.int .i64 x.f8) := HX0.out.at_ 8
                      have x9_0 : W0.cell? ⟨W.heap.size, 9, none⟩ = some (.int .i64 x.f9) := HX0.out.at_ 9
                      have x10_0 : W0.cell? ⟨W.heap.size, 10, none⟩ = some (.int .i64 x.f10) := HX0.out.at_ 10
                      have p0_0 : W0.cell? ⟨0, 0, none⟩ = some (.int .i64 1) := HG0.out.person 0 _ rfl
                      have p1_0 : W0.cell? ⟨0, 1, none⟩ = some (.int .i64 2147483646) := HG0.out.person 1 _ rfl
                      have n0_0 : W0.cell? ⟨1, 0, none⟩ = some (.int .i64 0) := HG0.out.number 0 _ rfl
                      have n1_0 : W0.cell? ⟨1, 1, none⟩ = some (.int .i64 2147483646) := HG0.out.number 1 _ rfl
                      go_wp2_with (first | (go_at_call 56; (with_reducible refine (statement_limit_holds.calls 1 2147483646 x.f0 true _ (by rw [holds_is]; exact congrArg some HT0.out)).mono ?_); rintro e w1 ⟨rfl, hb1⟩; have HX1 := Aside0.mk (HX0.out.below hb1); have HG1 := Aside0.mk (HG0.out.below hb1); have HB1 := Aside0.mk (below_step HB0.out hb1); clear hb1; have x0_1 : w1.cell? ⟨W.heap.size, 0, none⟩ = some (.int .i64 x.f0) := HX1.out.at_ 0; have x1_1 : w1.cell? ⟨W.heap.size, 1, none⟩ = some (.int .i64 x.f1) := HX1.out.at_ 1; have x2_1 : w1.cell? ⟨W.heap.size, 2, none⟩ = some (.int .i64 x.f2) := HX1.out.at_ 2; have x3_1 : w1.cell? ⟨W.heap.size, 3, none⟩ = some (.int .i64 x.f3) := HX1.out.at_ 3; have x4_1 : w1.cell? ⟨W.heap.size, 4, none⟩ = some (.int .i64 x.f4) := HX1.out.at_ 4; have x5_1 : w1.cell? ⟨W.heap.size, 5, none⟩ = some (.int .i64 x.f5) := HX1.out.at_ 5; have x6_1 : w1.cell? ⟨W.heap.size, 6, none⟩ = some (.int .i64 x.f6) := HX1.out.at_ 6; have x7_1 : w1.cell? ⟨W.heap.size, 7, none⟩ = some (.int .i64 x.f7) := HX1.out.at_ 7; have x8_1 : w1.cell? ⟨W.heap.size, 8, none⟩ = some (.int .i64 x.f8) := HX1.out.at_ 8; have x9_1 : w1.cell? ⟨W.heap.size, 9, none⟩ = some (.int .i64 x.f9) := HX1.out.at_ 9; have x10_1 : w1.cell? ⟨W.heap.size, 10, none⟩ = some (.int .i64 x.f10) := HX1.out.at_ 10; have p0_1 : w1.cell? ⟨0, 0, none⟩ = some (.int .i64 1) := HG1.out.person 0 _ rfl; have p1_1 : w1.cell? ⟨0, 1, none⟩ = some (.int .i64 2147483646) := HG1.out.person 1 _ rfl; have n0_1 : w1.cell? ⟨1, 0, none⟩ = some (.int .i64 0) := HG1.out.number 0 _ rfl; have n1_1 : w1.cell? ⟨1, 1, none⟩ = some (.int .i64 2147483646) := HG1.out.number 1 _ rfl) | (go_at_call 56; (with_reducible refine (statement_limit_holds.calls 1 2147483646 x.f1 true _ (by rw [holds_is]; exact congrArg some HT1.out)).mono ?_); rintro e w2 ⟨rfl, hb2⟩; have HX2 := Aside0.mk (HX1.out.below hb2); have HG2 := Aside0.mk (HG1.out.below hb2); have HB2 := Aside0.mk (below_step HB1.out hb2); clear hb2; have x0_2 : w2.cell? ⟨W.heap.size, 0, none⟩ = some (.int .i64 x.f0) := HX2.out.at_ 0; have x1_2 : w2.cell? ⟨W.heap.size, 1, none⟩ = some (.int .i64 x.f1) := HX2.out.at_ 1; have x2_2 : w2.cell? ⟨W.heap.size, 2, none⟩ = some (.int .i64 x.f2) := HX2.out.at_ 2; have x3_2 : w2.cell? ⟨W.heap.size, 3, none⟩ = some (.int .i64 x.f3) := HX2.out.at_ 3; have x4_2 : w2.cell? ⟨W.heap.size, 4, none⟩ = some (.int .i64 x.f4) := HX2.out.at_ 4; have x5_2 : w2.cell? ⟨W.heap.size, 5, none⟩ = some (.int .i64 x.f5) := HX2.out.at_ 5; have x6_2 : w2.cell? ⟨W.heap.size, 6, none⟩ = some (.int .i64 x.f6) := HX2.out.at_ 6; have x7_2 : w2.cell? ⟨W.heap.size, 7, none⟩ = some (.int .i64 x.f7) := HX2.out.at_ 7; have x8_2 : w2.cell? ⟨W.heap.size, 8, none⟩ = some (.int .i64 x.f8) := HX2.out.at_ 8; have x9_2 : w2.cell? ⟨W.heap.size, 9, none⟩ = some (.int .i64 x.f9) := HX2.out.at_ 9; have x10_2 : w2.cell? ⟨W.heap.size, 10, none⟩ = some (.int .i64 x.f10) := HX2.out.at_ 10; have p0_2 : w2.cell? ⟨0, 0, none⟩ = some (.int .i64 1) := HG2.out.person 0 _ rfl; have p1_2 : w2.cell? ⟨0, 1, none⟩ = some (.int .i64 2147483646) := HG2.out.person 1 _ rfl; have n0_2 : w2.cell? ⟨1, 0, none⟩ = some (.int .i64 0) := HG2.out.number 0 _ rfl; have n1_2 : w2.cell? ⟨1, 1, none⟩ = some (.int .i64 2147483646) := HG2.out.number 1 _ rfl) | (go_at_call 56; (with_reducible refine (statement_limit_holds.calls 0 2147483646 x.f3 true _ (by rw [holds_is]; exact congrArg some HT5.out)).mono ?_); rintro e w3 ⟨rfl, hb3⟩; have HX3 := Aside0.mk (HX2.out.below hb3); have HG3 := Aside0.mk (HG2.out.below hb3); have HB3 := Aside0.mk (below_step HB2.out hb3); clear hb3; have x0_3 : w3.cell? ⟨W.heap.size, 0, none⟩ = some (.int .i64 x.f0) := HX3.out.at_ 0; have x1_3 : w3.cell? ⟨W.heap.size, 1, none⟩ = some (.int .i64 x.f1) := HX3.out.at_ 1; have x2_3 : w3.cell? ⟨W.heap.size, 2, none⟩ = some (.int .i64 x.f2) := HX3.out.at_ 2; have x3_3 : w3.cell? ⟨W.heap.size, 3, none⟩ = some (.int .i64 x.f3) := HX3.out.at_ 3; have x4_3 : w3.cell? ⟨W.heap.size, 4, none⟩ = some (.int .i64 x.f4) := HX3.out.at_ 4; have x5_3 : w3.cell? ⟨W.heap.size, 5, none⟩ = some (.int .i64 x.f5) := HX3.out.at_ 5; have x6_3 : w3.cell? ⟨W.heap.size, 6, none⟩ = some (.int .i64 x.f6) := HX3.out.at_ 6; have x7_3 : w3.cell? ⟨W.heap.size, 7, none⟩ = some (.int .i64 x.f7) := HX3.out.at_ 7; have x8_3 : w3.cell? ⟨W.heap.size, 8, none⟩ = some (.int .i64 x.f8) := HX3.out.at_ 8; have x9_3 : w3.cell? ⟨W.heap.size, 9, none⟩ = some (.int .i64 x.f9) := HX3.out.at_ 9; have x10_3 : w3.cell? ⟨W.heap.size, 10, none⟩ = some (.int .i64 x.f10) := HX3.out.at_ 10; have p0_3 : w3.cell? ⟨0, 0, none⟩ = some (.int .i64 1) := HG3.out.person 0 _ rfl; have p1_3 : w3.cell? ⟨0, 1, none⟩ = some (.int .i64 2147483646) := HG3.out.person 1 _ rfl; have n0_3 : w3.cell? ⟨1, 0, none⟩ = some (.int .i64 0) := HG3.out.number 0 _ rfl; have n1_3 : w3.cell? ⟨1, 1, none⟩ = some (.int .i64 2147483646) := HG3.out.number 1 _ rfl) | (go_at_call 56; (with_reducible refine (statement_limit_holds.calls 0 2147483646 x.f10 false _ (by rw [holds_is]; exact congrArg some HT9.out)).mono ?_); rintro e w4 ⟨rfl, hb4⟩; have HX4 := Aside0.mk (HX3.out.below hb4); have HG4 := Aside0.mk (HG3.out.below hb4); have HB4 := Aside0.mk (below_step HB3.out hb4); clear hb4; have x0_4 : w4.cell? ⟨W.heap.size, 0, none⟩ = some (.int .i64 x.f0) := HX4.out.at_ 0; have x1_4 : w4.cell? ⟨W.heap.size, 1, none⟩ = some (.int .i64 x.f1) := HX4.out.at_ 1; have x2_4 : w4.cell? ⟨W.heap.size, 2, none⟩ = some (.int .i64 x.f2) := HX4.out.at_ 2; have x3_4 : w4.cell? ⟨W.heap.size, 3, none⟩ = some (.int .i64 x.f3) := HX4.out.at_ 3; have x4_4 : w4.cell? ⟨W.heap.size, 4, none⟩ = some (.int .i64 x.f4) := HX4.out.at_ 4; have x5_4 : w4.cell? ⟨W.heap.size, 5, none⟩ = some (.int .i64 x.f5) := HX4.out.at_ 5; have x6_4 : w4.cell? ⟨W.heap.size, 6, none⟩ = some (.int .i64 x.f6) := HX4.out.at_ 6; have x7_4 : w4.cell? ⟨W.heap.size, 7, none⟩ = some (.int .i64 x.f7) := HX4.out.at_ 7; have x8_4 : w4.cell? ⟨W.heap.size, 8, none⟩ = some (.int .i64 x.f8) := HX4.out.at_ 8; have x9_4 : w4.cell? ⟨W.heap.size, 9, none⟩ = some (.int .i64 x.f9) := HX4.out.at_ 9; have x10_4 : w4.cell? ⟨W.heap.size, 10, none⟩ = some (.int .i64 x.f10) := HX4.out.at_ 10; have p0_4 : w4.cell? ⟨0, 0, none⟩ = some (.int .i64 1) := HG4.out.person 0 _ rfl; have p1_4 : w4.cell? ⟨0, 1, none⟩ = some (.int .i64 2147483646) := HG4.out.person 1 _ rfl; have n0_4 : w4.cell? ⟨1, 0, none⟩ = some (.int .i64 0) := HG4.out.number 0 _ rfl; have n1_4 : w4.cell? ⟨1, 1, none⟩ = some (.int .i64 2147483646) := HG4.out.number 1 _ rfl))
                      go_ret
                      exact ⟨by (first | (rw [HR.out, HFF.out]; done) | simp [HR.out, HFF.out]), HB4.out⟩
                    | true =>
                      have HT9 := Aside0.mk ht9
                      clear ht9
                      cases ht10 : fitsB x with
                      | false =>
                        have HT10 := Aside0.mk ht10
                        clear ht10
                        have hF : validB x = false := by
                          unfold validB
                          rw [HT0.out, HT1.out, HT2.out, HT3.out, HT4.out, HT5.out, HT6.out, HT7.out, HT8.out, HT9.out, HT10.out]
                          rfl
                        have HFF := Aside0.mk hF
                        clear hF
                        go_enter Tryd.func53, Tryd.ntmps53
                        go_upto_region 1 with (fail)
                        rw [← HW.out]
                        have x0_0 : W0.cell? ⟨W.heap.size, 0, none⟩ = some (.int .i64 x.f0) := HX0.out.at_ 0
                        have x1_0 : W0.cell? ⟨W.heap.size, 1, none⟩ = some (.int .i64 x.f1) := HX0.out.at_ 1
                        have x2_0 : W0.cell? ⟨W.heap.size, 2, none⟩ = some (.int .i64 x.f2) := HX0.out.at_ 2
                        have x3_0 : W0.cell? ⟨W.heap.size, 3, none⟩ = some (.int .i64 x.f3) := HX0.out.at_ 3
                        have x4_0 : W0.cell? ⟨W.heap.size, 4, none⟩ = some (.int .i64 x.f4) := HX0.out.at_ 4
                        have x5_0 : W0.cell? ⟨W.heap.size, 5, none⟩ = some (.int .i64 x.f5) := HX0.out.at_ 5
                        have x6_0 : W0.cell? ⟨W.heap.size, 6, none⟩ = some (.int .i64 x.f6) := HX0.out.at_ 6
                        have x7_0 : W0.cell? ⟨W.heap.size, 7, none⟩ = some (.int .i64 x.f7) := HX0.out.at_ 7
                        have x8_0 : W0.cell? ⟨W.heap.size, 8, none⟩ = some (.int .i64 x.f8) := HX0.out.at_ 8
                        have x9_0 : W0.cell? ⟨W.heap.size, 9, none⟩ = some (.int .i64 x.f9) := HX0.out.at_ 9
                        have x10_0 : W0.cell? ⟨W.heap.size, 10, none⟩ = some (.int .i64 x.f10) := HX0.out.at_ 10
                        have p0_0 : W0.cell? ⟨0, 0, none⟩ = some (.int .i64 1) := HG0.out.person 0 _ rfl
                        have p1_0 : W0.cell? ⟨0, 1, none⟩ = some (.int .i64 2147483646) := HG0.out.person 1 _ rfl
                        have n0_0 : W0.cell? ⟨1, 0, none⟩ = some (.int .i64 0) := HG0.out.number 0 _ rfl
                        have n1_0 : W0.cell? ⟨1, 1, none⟩ = some (.int .i64 2147483646) := HG0.out.number 1 _ rfl
                        go_wp2_with (first | (go_at_call 56; (with_reducible refine (statement_limit_holds.calls 1 2147483646 x.f0 true _ (by rw [holds_is]; exact congrArg some HT0.out)).mono ?_); rintro e w1 ⟨rfl, hb1⟩; have HX1 := Aside0.mk (HX0.out.below hb1); have HG1 := Aside0.mk (HG0.out.below hb1); have HB1 := Aside0.mk (below_step HB0.out hb1); clear hb1; have x0_1 : w1.cell? ⟨W.heap.size, 0, none⟩ = some (.int .i64 x.f0) := HX1.out.at_ 0; have x1_1 : w1.cell? ⟨W.heap.size, 1, none⟩ = some (.int .i64 x.f1) := HX1.out.at_ 1; have x2_1 : w1.cell? ⟨W.heap.size, 2, none⟩ = some (.int .i64 x.f2) := HX1.out.at_ 2; have x3_1 : w1.cell? ⟨W.heap.size, 3, none⟩ = some (.int .i64 x.f3) := HX1.out.at_ 3; have x4_1 : w1.cell? ⟨W.heap.size, 4, none⟩ = some (.int .i64 x.f4) := HX1.out.at_ 4; have x5_1 : w1.cell? ⟨W.heap.size, 5, none⟩ = some (.int .i64 x.f5) := HX1.out.at_ 5; have x6_1 : w1.cell? ⟨W.heap.size, 6, none⟩ = some (.int .i64 x.f6) := HX1.out.at_ 6; have x7_1 : w1.cell? ⟨W.heap.size, 7, none⟩ = some (.int .i64 x.f7) := HX1.out.at_ 7; have x8_1 : w1.cell? ⟨W.heap.size, 8, none⟩ = some (.int .i64 x.f8) := HX1.out.at_ 8; have x9_1 : w1.cell? ⟨W.heap.size, 9, none⟩ = some (.int .i64 x.f9) := HX1.out.at_ 9; have x10_1 : w1.cell? ⟨W.heap.size, 10, none⟩ = some (.int .i64 x.f10) := HX1.out.at_ 10; have p0_1 : w1.cell? ⟨0, 0, none⟩ = some (.int .i64 1) := HG1.out.person 0 _ rfl; have p1_1 : w1.cell? ⟨0, 1, none⟩ = some (.int .i64 2147483646) := HG1.out.person 1 _ rfl; have n0_1 : w1.cell? ⟨1, 0, none⟩ = some (.int .i64 0) := HG1.out.number 0 _ rfl; have n1_1 : w1.cell? ⟨1, 1, none⟩ = some (.int .i64 2147483646) := HG1.out.number 1 _ rfl) | (go_at_call 56; (with_reducible refine (statement_limit_holds.calls 1 2147483646 x.f1 true _ (by rw [holds_is]; exact congrArg some HT1.out)).mono ?_); rintro e w2 ⟨rfl, hb2⟩; have HX2 := Aside0.mk (HX1.out.below hb2); have HG2 := Aside0.mk (HG1.out.below hb2); have HB2 := Aside0.mk (below_step HB1.out hb2); clear hb2; have x0_2 : w2.cell? ⟨W.heap.size, 0, none⟩ = some (.int .i64 x.f0) := HX2.out.at_ 0; have x1_2 : w2.cell? ⟨W.heap.size, 1, none⟩ = some (.int .i64 x.f1) := HX2.out.at_ 1; have x2_2 : w2.cell? ⟨W.heap.size, 2, none⟩ = some (.int .i64 x.f2) := HX2.out.at_ 2; have x3_2 : w2.cell? ⟨W.heap.size, 3, none⟩ = some (.int .i64 x.f3) := HX2.out.at_ 3; have x4_2 : w2.cell? ⟨W.heap.size, 4, none⟩ = some (.int .i64 x.f4) := HX2.out.at_ 4; have x5_2 : w2.cell? ⟨W.heap.size, 5, none⟩ = some (.int .i64 x.f5) := HX2.out.at_ 5; have x6_2 : w2.cell? ⟨W.heap.size, 6, none⟩ = some (.int .i64 x.f6) := HX2.out.at_ 6; have x7_2 : w2.cell? ⟨W.heap.size, 7, none⟩ = some (.int .i64 x.f7) := HX2.out.at_ 7; have x8_2 : w2.cell? ⟨W.heap.size, 8, none⟩ = some (.int .i64 x.f8) := HX2.out.at_ 8; have x9_2 : w2.cell? ⟨W.heap.size, 9, none⟩ = some (.int .i64 x.f9) := HX2.out.at_ 9; have x10_2 : w2.cell? ⟨W.heap.size, 10, none⟩ = some (.int .i64 x.f10) := HX2.out.at_ 10; have p0_2 : w2.cell? ⟨0, 0, none⟩ = some (.int .i64 1) := HG2.out.person 0 _ rfl; have p1_2 : w2.cell? ⟨0, 1, none⟩ = some (.int .i64 2147483646) := HG2.out.person 1 _ rfl; have n0_2 : w2.cell? ⟨1, 0, none⟩ = some (.int .i64 0) := HG2.out.number 0 _ rfl; have n1_2 : w2.cell? ⟨1, 1, none⟩ = some (.int .i64 2147483646) := HG2.out.number 1 _ rfl) | (go_at_call 56; (with_reducible refine (statement_limit_holds.calls 0 2147483646 x.f3 true _ (by rw [holds_is]; exact congrArg some HT5.out)).mono ?_); rintro e w3 ⟨rfl, hb3⟩; have HX3 := Aside0.mk (HX2.out.below hb3); have HG3 := Aside0.mk (HG2.out.below hb3); have HB3 := Aside0.mk (below_step HB2.out hb3); clear hb3; have x0_3 : w3.cell? ⟨W.heap.size, 0, none⟩ = some (.int .i64 x.f0) := HX3.out.at_ 0; have x1_3 : w3.cell? ⟨W.heap.size, 1, none⟩ = some (.int .i64 x.f1) := HX3.out.at_ 1; have x2_3 : w3.cell? ⟨W.heap.size, 2, none⟩ = some (.int .i64 x.f2) := HX3.out.at_ 2; have x3_3 : w3.cell? ⟨W.heap.size, 3, none⟩ = some (.int .i64 x.f3) := HX3.out.at_ 3; have x4_3 : w3.cell? ⟨W.heap.size, 4, none⟩ = some (.int .i64 x.f4) := HX3.out.at_ 4; have x5_3 : w3.cell? ⟨W.heap.size, 5, none⟩ = some (.int .i64 x.f5) := HX3.out.at_ 5; have x6_3 : w3.cell? ⟨W.heap.size, 6, none⟩ = some (.int .i64 x.f6) := HX3.out.at_ 6; have x7_3 : w3.cell? ⟨W.heap.size, 7, none⟩ = some (.int .i64 x.f7) := HX3.out.at_ 7; have x8_3 : w3.cell? ⟨W.heap.size, 8, none⟩ = some (.int .i64 x.f8) := HX3.out.at_ 8; have x9_3 : w3.cell? ⟨W.heap.size, 9, none⟩ = some (.int .i64 x.f9) := HX3.out.at_ 9; have x10_3 : w3.cell? ⟨W.heap.size, 10, none⟩ = some (.int .i64 x.f10) := HX3.out.at_ 10; have p0_3 : w3.cell? ⟨0, 0, none⟩ = some (.int .i64 1) := HG3.out.person 0 _ rfl; have p1_3 : w3.cell? ⟨0, 1, none⟩ = some (.int .i64 2147483646) := HG3.out.person 1 _ rfl; have n0_3 : w3.cell? ⟨1, 0, none⟩ = some (.int .i64 0) := HG3.out.number 0 _ rfl; have n1_3 : w3.cell? ⟨1, 1, none⟩ = some (.int .i64 2147483646) := HG3.out.number 1 _ rfl) | (go_at_call 56; (with_reducible refine (statement_limit_holds.calls 0 2147483646 x.f10 true _ (by rw [holds_is]; exact congrArg some HT9.out)).mono ?_); rintro e w4 ⟨rfl, hb4⟩; have HX4 := Aside0.mk (HX3.out.below hb4); have HG4 := Aside0.mk (HG3.out.below hb4); have HB4 := Aside0.mk (below_step HB3.out hb4); clear hb4; have x0_4 : w4.cell? ⟨W.heap.size, 0, none⟩ = some (.int .i64 x.f0) := HX4.out.at_ 0; have x1_4 : w4.cell? ⟨W.heap.size, 1, none⟩ = some (.int .i64 x.f1) := HX4.out.at_ 1; have x2_4 : w4.cell? ⟨W.heap.size, 2, none⟩ = some (.int .i64 x.f2) := HX4.out.at_ 2; have x3_4 : w4.cell? ⟨W.heap.size, 3, none⟩ = some (.int .i64 x.f3) := HX4.out.at_ 3; have x4_4 : w4.cell? ⟨W.heap.size, 4, none⟩ = some (.int .i64 x.f4) := HX4.out.at_ 4; have x5_4 : w4.cell? ⟨W.heap.size, 5, none⟩ = some (.int .i64 x.f5) := HX4.out.at_ 5; have x6_4 : w4.cell? ⟨W.heap.size, 6, none⟩ = some (.int .i64 x.f6) := HX4.out.at_ 6; have x7_4 : w4.cell? ⟨W.heap.size, 7, none⟩ = some (.int .i64 x.f7) := HX4.out.at_ 7; have x8_4 : w4.cell? ⟨W.heap.size, 8, none⟩ = some (.int .i64 x.f8) := HX4.out.at_ 8; have x9_4 : w4.cell? ⟨W.heap.size, 9, none⟩ = some (.int .i64 x.f9) := HX4.out.at_ 9; have x10_4 : w4.cell? ⟨W.heap.size, 10, none⟩ = some (.int .i64 x.f10) := HX4.out.at_ 10; have p0_4 : w4.cell? ⟨0, 0, none⟩ = some (.int .i64 1) := HG4.out.person 0 _ rfl; have p1_4 : w4.cell? ⟨0, 1, none⟩ = some (.int .i64 2147483646) := HG4.out.person 1 _ rfl; have n0_4 : w4.cell? ⟨1, 0, none⟩ = some (.int .i64 0) := HG4.out.number 0 _ rfl; have n1_4 : w4.cell? ⟨1, 1, none⟩ = some (.int .i64 2147483646) := HG4.out.number 1 _ rfl) | (go_at_call 66; (with_reducible refine (fits_at x _ HG4.out false HT10.out).mono ?_); rintro e w5 ⟨rfl, hb5⟩; have HX5 := Aside0.mk (HX4.out.below hb5); have HG5 := Aside0.mk (HG4.out.below hb5); have HB5 := Aside0.mk (below_step HB4.out hb5); clear hb5; have x0_5 : w5.cell? ⟨W.heap.size, 0, none⟩ = some (.int .i64 x.f0) := HX5.out.at_ 0; have x1_5 : w5.cell? ⟨W.heap.size, 1, none⟩ = some (.int .i64 x.f1) := HX5.out.at_ 1; have x2_5 : w5.cell? ⟨W.heap.size, 2, none⟩ = some (.int .i64 x.f2) := HX5.out.at_ 2; have x3_5 : w5.cell? ⟨W.heap.size, 3, none⟩ = some (.int .i64 x.f3) := HX5.out.at_ 3; have x4_5 : w5.cell? ⟨W.heap.size, 4, none⟩ = some (.int .i64 x.f4) := HX5.out.at_ 4; have x5_5 : w5.cell? ⟨W.heap.size, 5, none⟩ = some (.int .i64 x.f5) := HX5.out.at_ 5; have x6_5 : w5.cell? ⟨W.heap.size, 6, none⟩ = some (.int .i64 x.f6) := HX5.out.at_ 6; have x7_5 : w5.cell? ⟨W.heap.size, 7, none⟩ = some (.int .i64 x.f7) := HX5.out.at_ 7; have x8_5 : w5.cell? ⟨W.heap.size, 8, none⟩ = some (.int .i64 x.f8) := HX5.out.at_ 8; have x9_5 : w5.cell? ⟨W.heap.size, 9, none⟩ = some (.int .i64 x.f9) := HX5.out.at_ 9; have x10_5 : w5.cell? ⟨W.heap.size, 10, none⟩ = some (.int .i64 x.f10) := HX5.out.at_ 10; have p0_5 : w5.cell? ⟨0, 0, none⟩ = some (.int .i64 1) := HG5.out.person 0 _ rfl; have p1_5 : w5.cell? ⟨0, 1, none⟩ = some (.int .i64 2147483646) := HG5.out.person 1 _ rfl; have n0_5 : w5.cell? ⟨1, 0, none⟩ = some (.int .i64 0) := HG5.out.number 0 _ rfl; have n1_5 : w5.cell? ⟨1, 1, none⟩ = some (.int .i64 2147483646) := HG5.out.number 1 _ rfl))
                        go_ret
                        exact ⟨by (first | (rw [HR.out, HFF.out]; done) | simp [HR.out, HFF.out]), HB5.out⟩
                      | true =>
                        have HT10 := Aside0.mk ht10
                        clear ht10
                        have hF : validB x = true := by
                          unfold validB
                          rw [HT0.out, HT1.out, HT2.out, HT3.out, HT4.out, HT5.out, HT6.out, HT7.out, HT8.out, HT9.out, HT10.out]
                          rfl
                        have HFF := Aside0.mk hF
                        clear hF
                        go_enter Tryd.func53, Tryd.ntmps53
                        go_upto_region 1 with (fail)
                        rw [← HW.out]
                        have x0_0 : W0.cell? ⟨W.heap.size, 0, none⟩ = some (.int .i64 x.f0) := HX0.out.at_ 0
                        have x1_0 : W0.cell? ⟨W.heap.size, 1, none⟩ = some (.int .i64 x.f1) := HX0.out.at_ 1
                        have x2_0 : W0.cell? ⟨W.heap.size, 2, none⟩ = some (.int .i64 x.f2) := HX0.out.at_ 2
                        have x3_0 : W0.cell? ⟨W.heap.size, 3, none⟩ = some (.int .i64 x.f3) := HX0.out.at_ 3
                        have x4_0 : W0.cell? ⟨W.heap.size, 4, none⟩ = some (.int .i64 x.f4) := HX0.out.at_ 4
                        have x5_0 : W0.cell? ⟨W.heap.size, 5, none⟩ = some (.int .i64 x.f5) := HX0.out.at_ 5
                        have x6_0 : W0.cell? ⟨W.heap.size, 6, none⟩ = some (.int .i64 x.f6) := HX0.out.at_ 6
                        have x7_0 : W0.cell? ⟨W.heap.size, 7, none⟩ = some (.int .i64 x.f7) := HX0.out.at_ 7
                        have x8_0 : W0.cell? ⟨W.heap.size, 8, none⟩ = some (.int .i64 x.f8) := HX0.out.at_ 8
                        have x9_0 : W0.cell? ⟨W.heap.size, 9, none⟩ = some (.int .i64 x.f9) := HX0.out.at_ 9
                        have x10_0 : W0.cell? ⟨W.heap.size, 10, none⟩ = some (.int .i64 x.f10) := HX0.out.at_ 10
                        have p0_0 : W0.cell? ⟨0, 0, none⟩ = some (.int .i64 1) := HG0.out.person 0 _ rfl
                        have p1_0 : W0.cell? ⟨0, 1, none⟩ = some (.int .i64 2147483646) := HG0.out.person 1 _ rfl
                        have n0_0 : W0.cell? ⟨1, 0, none⟩ = some (.int .i64 0) := HG0.out.number 0 _ rfl
                        have n1_0 : W0.cell? ⟨1, 1, none⟩ = some (.int .i64 2147483646) := HG0.out.number 1 _ rfl
                        go_wp2_with (first | (go_at_call 56; (with_reducible refine (statement_limit_holds.calls 1 2147483646 x.f0 true _ (by rw [holds_is]; exact congrArg some HT0.out)).mono ?_); rintro e w1 ⟨rfl, hb1⟩; have HX1 := Aside0.mk (HX0.out.below hb1); have HG1 := Aside0.mk (HG0.out.below hb1); have HB1 := Aside0.mk (below_step HB0.out hb1); clear hb1; have x0_1 : w1.cell? ⟨W.heap.size, 0, none⟩ = some (.int .i64 x.f0) := HX1.out.at_ 0; have x1_1 : w1.cell? ⟨W.heap.size, 1, none⟩ = some (.int .i64 x.f1) := HX1.out.at_ 1; have x2_1 : w1.cell? ⟨W.heap.size, 2, none⟩ = some (.int .i64 x.f2) := HX1.out.at_ 2; have x3_1 : w1.cell? ⟨W.heap.size, 3, none⟩ = some (.int .i64 x.f3) := HX1.out.at_ 3; have x4_1 : w1.cell? ⟨W.heap.size, 4, none⟩ = some (.int .i64 x.f4) := HX1.out.at_ 4; have x5_1 : w1.cell? ⟨W.heap.size, 5, none⟩ = some (.int .i64 x.f5) := HX1.out.at_ 5; have x6_1 : w1.cell? ⟨W.heap.size, 6, none⟩ = some (.int .i64 x.f6) := HX1.out.at_ 6; have x7_1 : w1.cell? ⟨W.heap.size, 7, none⟩ = some (.int .i64 x.f7) := HX1.out.at_ 7; have x8_1 : w1.cell? ⟨W.heap.size, 8, none⟩ = some (.int .i64 x.f8) := HX1.out.at_ 8; have x9_1 : w1.cell? ⟨W.heap.size, 9, none⟩ = some (.int .i64 x.f9) := HX1.out.at_ 9; have x10_1 : w1.cell? ⟨W.heap.size, 10, none⟩ = some (.int .i64 x.f10) := HX1.out.at_ 10; have p0_1 : w1.cell? ⟨0, 0, none⟩ = some (.int .i64 1) := HG1.out.person 0 _ rfl; have p1_1 : w1.cell? ⟨0, 1, none⟩ = some (.int .i64 2147483646) := HG1.out.person 1 _ rfl; have n0_1 : w1.cell? ⟨1, 0, none⟩ = some (.int .i64 0) := HG1.out.number 0 _ rfl; have n1_1 : w1.cell? ⟨1, 1, none⟩ = some (.int .i64 2147483646) := HG1.out.number 1 _ rfl) | (go_at_call 56; (with_reducible refine (statement_limit_holds.calls 1 2147483646 x.f1 true _ (by rw [holds_is]; exact congrArg some HT1.out)).mono ?_); rintro e w2 ⟨rfl, hb2⟩; have HX2 := Aside0.mk (HX1.out.below hb2); have HG2 := Aside0.mk (HG1.out.below hb2); have HB2 := Aside0.mk (below_step HB1.out hb2); clear hb2; have x0_2 : w2.cell? ⟨W.heap.size, 0, none⟩ = some (.int .i64 x.f0) := HX2.out.at_ 0; have x1_2 : w2.cell? ⟨W.heap.size, 1, none⟩ = some (.int .i64 x.f1) := HX2.out.at_ 1; have x2_2 : w2.cell? ⟨W.heap.size, 2, none⟩ = some (.int .i64 x.f2) := HX2.out.at_ 2; have x3_2 : w2.cell? ⟨W.heap.size, 3, none⟩ = some (.int .i64 x.f3) := HX2.out.at_ 3; have x4_2 : w2.cell? ⟨W.heap.size, 4, none⟩ = some (.int .i64 x.f4) := HX2.out.at_ 4; have x5_2 : w2.cell? ⟨W.heap.size, 5, none⟩ = some (.int .i64 x.f5) := HX2.out.at_ 5; have x6_2 : w2.cell? ⟨W.heap.size, 6, none⟩ = some (.int .i64 x.f6) := HX2.out.at_ 6; have x7_2 : w2.cell? ⟨W.heap.size, 7, none⟩ = some (.int .i64 x.f7) := HX2.out.at_ 7; have x8_2 : w2.cell? ⟨W.heap.size, 8, none⟩ = some (.int .i64 x.f8) := HX2.out.at_ 8; have x9_2 : w2.cell? ⟨W.heap.size, 9, none⟩ = some (.int .i64 x.f9) := HX2.out.at_ 9; have x10_2 : w2.cell? ⟨W.heap.size, 10, none⟩ = some (.int .i64 x.f10) := HX2.out.at_ 10; have p0_2 : w2.cell? ⟨0, 0, none⟩ = some (.int .i64 1) := HG2.out.person 0 _ rfl; have p1_2 : w2.cell? ⟨0, 1, none⟩ = some (.int .i64 2147483646) := HG2.out.person 1 _ rfl; have n0_2 : w2.cell? ⟨1, 0, none⟩ = some (.int .i64 0) := HG2.out.number 0 _ rfl; have n1_2 : w2.cell? ⟨1, 1, none⟩ = some (.int .i64 2147483646) := HG2.out.number 1 _ rfl) | (go_at_call 56; (with_reducible refine (statement_limit_holds.calls 0 2147483646 x.f3 true _ (by rw [holds_is]; exact congrArg some HT5.out)).mono ?_); rintro e w3 ⟨rfl, hb3⟩; have HX3 := Aside0.mk (HX2.out.below hb3); have HG3 := Aside0.mk (HG2.out.below hb3); have HB3 := Aside0.mk (below_step HB2.out hb3); clear hb3; have x0_3 : w3.cell? ⟨W.heap.size, 0, none⟩ = some (.int .i64 x.f0) := HX3.out.at_ 0; have x1_3 : w3.cell? ⟨W.heap.size, 1, none⟩ = some (.int .i64 x.f1) := HX3.out.at_ 1; have x2_3 : w3.cell? ⟨W.heap.size, 2, none⟩ = some (.int .i64 x.f2) := HX3.out.at_ 2; have x3_3 : w3.cell? ⟨W.heap.size, 3, none⟩ = some (.int .i64 x.f3) := HX3.out.at_ 3; have x4_3 : w3.cell? ⟨W.heap.size, 4, none⟩ = some (.int .i64 x.f4) := HX3.out.at_ 4; have x5_3 : w3.cell? ⟨W.heap.size, 5, none⟩ = some (.int .i64 x.f5) := HX3.out.at_ 5; have x6_3 : w3.cell? ⟨W.heap.size, 6, none⟩ = some (.int .i64 x.f6) := HX3.out.at_ 6; have x7_3 : w3.cell? ⟨W.heap.size, 7, none⟩ = some (.int .i64 x.f7) := HX3.out.at_ 7; have x8_3 : w3.cell? ⟨W.heap.size, 8, none⟩ = some (.int .i64 x.f8) := HX3.out.at_ 8; have x9_3 : w3.cell? ⟨W.heap.size, 9, none⟩ = some (.int .i64 x.f9) := HX3.out.at_ 9; have x10_3 : w3.cell? ⟨W.heap.size, 10, none⟩ = some (.int .i64 x.f10) := HX3.out.at_ 10; have p0_3 : w3.cell? ⟨0, 0, none⟩ = some (.int .i64 1) := HG3.out.person 0 _ rfl; have p1_3 : w3.cell? ⟨0, 1, none⟩ = some (.int .i64 2147483646) := HG3.out.person 1 _ rfl; have n0_3 : w3.cell? ⟨1, 0, none⟩ = some (.int .i64 0) := HG3.out.number 0 _ rfl; have n1_3 : w3.cell? ⟨1, 1, none⟩ = some (.int .i64 2147483646) := HG3.out.number 1 _ rfl) | (go_at_call 56; (with_reducible refine (statement_limit_holds.calls 0 2147483646 x.f10 true _ (by rw [holds_is]; exact congrArg some HT9.out)).mono ?_); rintro e w4 ⟨rfl, hb4⟩; have HX4 := Aside0.mk (HX3.out.below hb4); have HG4 := Aside0.mk (HG3.out.below hb4); have HB4 := Aside0.mk (below_step HB3.out hb4); clear hb4; have x0_4 : w4.cell? ⟨W.heap.size, 0, none⟩ = some (.int .i64 x.f0) := HX4.out.at_ 0; have x1_4 : w4.cell? ⟨W.heap.size, 1, none⟩ = some (.int .i64 x.f1) := HX4.out.at_ 1; have x2_4 : w4.cell? ⟨W.heap.size, 2, none⟩ = some (.int .i64 x.f2) := HX4.out.at_ 2; have x3_4 : w4.cell? ⟨W.heap.size, 3, none⟩ = some (.int .i64 x.f3) := HX4.out.at_ 3; have x4_4 : w4.cell? ⟨W.heap.size, 4, none⟩ = some (.int .i64 x.f4) := HX4.out.at_ 4; have x5_4 : w4.cell? ⟨W.heap.size, 5, none⟩ = some (.int .i64 x.f5) := HX4.out.at_ 5; have x6_4 : w4.cell? ⟨W.heap.size, 6, none⟩ = some (.int .i64 x.f6) := HX4.out.at_ 6; have x7_4 : w4.cell? ⟨W.heap.size, 7, none⟩ = some (.int .i64 x.f7) := HX4.out.at_ 7; have x8_4 : w4.cell? ⟨W.heap.size, 8, none⟩ = some (.int .i64 x.f8) := HX4.out.at_ 8; have x9_4 : w4.cell? ⟨W.heap.size, 9, none⟩ = some (.int .i64 x.f9) := HX4.out.at_ 9; have x10_4 : w4.cell? ⟨W.heap.size, 10, none⟩ = some (.int .i64 x.f10) := HX4.out.at_ 10; have p0_4 : w4.cell? ⟨0, 0, none⟩ = some (.int .i64 1) := HG4.out.person 0 _ rfl; have p1_4 : w4.cell? ⟨0, 1, none⟩ = some (.int .i64 2147483646) := HG4.out.person 1 _ rfl; have n0_4 : w4.cell? ⟨1, 0, none⟩ = some (.int .i64 0) := HG4.out.number 0 _ rfl; have n1_4 : w4.cell? ⟨1, 1, none⟩ = some (.int .i64 2147483646) := HG4.out.number 1 _ rfl) | (go_at_call 66; (with_reducible refine (fits_at x _ HG4.out true HT10.out).mono ?_); rintro e w5 ⟨rfl, hb5⟩; have HX5 := Aside0.mk (HX4.out.below hb5); have HG5 := Aside0.mk (HG4.out.below hb5); have HB5 := Aside0.mk (below_step HB4.out hb5); clear hb5; have x0_5 : w5.cell? ⟨W.heap.size, 0, none⟩ = some (.int .i64 x.f0) := HX5.out.at_ 0; have x1_5 : w5.cell? ⟨W.heap.size, 1, none⟩ = some (.int .i64 x.f1) := HX5.out.at_ 1; have x2_5 : w5.cell? ⟨W.heap.size, 2, none⟩ = some (.int .i64 x.f2) := HX5.out.at_ 2; have x3_5 : w5.cell? ⟨W.heap.size, 3, none⟩ = some (.int .i64 x.f3) := HX5.out.at_ 3; have x4_5 : w5.cell? ⟨W.heap.size, 4, none⟩ = some (.int .i64 x.f4) := HX5.out.at_ 4; have x5_5 : w5.cell? ⟨W.heap.size, 5, none⟩ = some (.int .i64 x.f5) := HX5.out.at_ 5; have x6_5 : w5.cell? ⟨W.heap.size, 6, none⟩ = some (.int .i64 x.f6) := HX5.out.at_ 6; have x7_5 : w5.cell? ⟨W.heap.size, 7, none⟩ = some (.int .i64 x.f7) := HX5.out.at_ 7; have x8_5 : w5.cell? ⟨W.heap.size, 8, none⟩ = some (.int .i64 x.f8) := HX5.out.at_ 8; have x9_5 : w5.cell? ⟨W.heap.size, 9, none⟩ = some (.int .i64 x.f9) := HX5.out.at_ 9; have x10_5 : w5.cell? ⟨W.heap.size, 10, none⟩ = some (.int .i64 x.f10) := HX5.out.at_ 10; have p0_5 : w5.cell? ⟨0, 0, none⟩ = some (.int .i64 1) := HG5.out.person 0 _ rfl; have p1_5 : w5.cell? ⟨0, 1, none⟩ = some (.int .i64 2147483646) := HG5.out.person 1 _ rfl; have n0_5 : w5.cell? ⟨1, 0, none⟩ = some (.int .i64 0) := HG5.out.number 0 _ rfl; have n1_5 : w5.cell? ⟨1, 1, none⟩ = some (.int .i64 2147483646) := HG5.out.number 1 _ rfl))
                        go_ret
                        exact ⟨by (first | (rw [HR.out, HFF.out]; done) | simp [HR.out, HFF.out]), HB5.out⟩
              | false =>
                cases hr_ : (x.f3 == 0) with
                | true =>
                  have HT6 : Aside0 ((decide (1 < x.f2) || (x.f3 == 0)) = true) := ⟨by rw [hl_, hr_]; rfl⟩
                  cases ht7 : decide (0 ≤ x.f4) with
                  | false =>
                    have HT7 := Aside0.mk ht7
                    have hF : validB x = false := by
                      unfold validB
                      rw [HT0.out, HT1.out, HT2.out, HT3.out, HT4.out, HT5.out, HT6.out, HT7.out]
                      rfl
                    have HFF := Aside0.mk hF
                    clear hF
                    go_enter Tryd.func53, Tryd.ntmps53
                    go_upto_region 1 with (fail)
                    rw [← HW.out]
                    have x0_0 : W0.cell? ⟨W.heap.size, 0, none⟩ = some (.int .i64 x.f0) := HX0.out.at_ 0
                    have x1_0 : W0.cell? ⟨W.heap.size, 1, none⟩ = some (.int .i64 x.f1) := HX0.out.at_ 1
                    have x2_0 : W0.cell? ⟨W.heap.size, 2, none⟩ = some (.int .i64 x.f2) := HX0.out.at_ 2
                    have x3_0 : W0.cell? ⟨W.heap.size, 3, none⟩ = some (.int .i64 x.f3) := HX0.out.at_ 3
                    have x4_0 : W0.cell? ⟨W.heap.size, 4, none⟩ = some (.int .i64 x.f4) := HX0.out.at_ 4
                    have x5_0 : W0.cell? ⟨W.heap.size, 5, none⟩ = some (.int .i64 x.f5) := HX0.out.at_ 5
                    have x6_0 : W0.cell? ⟨W.heap.size, 6, none⟩ = some (.int .i64 x.f6) := HX0.out.at_ 6
                    have x7_0 : W0.cell? ⟨W.heap.size, 7, none⟩ = some (.int .i64 x.f7) := HX0.out.at_ 7
                    have x8_0 : W0.cell? ⟨W.heap.size, 8, none⟩ = some (.int .i64 x.f8) := HX0.out.at_ 8
                    have x9_0 : W0.cell? ⟨W.heap.size, 9, none⟩ = some (.int .i64 x.f9) := HX0.out.at_ 9
                    have x10_0 : W0.cell? ⟨W.heap.size, 10, none⟩ = some (.int .i64 x.f10) := HX0.out.at_ 10
                    have p0_0 : W0.cell? ⟨0, 0, none⟩ = some (.int .i64 1) := HG0.out.person 0 _ rfl
                    have p1_0 : W0.cell? ⟨0, 1, none⟩ = some (.int .i64 2147483646) := HG0.out.person 1 _ rfl
                    have n0_0 : W0.cell? ⟨1, 0, none⟩ = some (.int .i64 0) := HG0.out.number 0 _ rfl
                    have n1_0 : W0.cell? ⟨1, 1, none⟩ = some (.int .i64 2147483646) := HG0.out.number 1 _ rfl
                    go_wp2_with (first | (go_at_call 56; (with_reducible refine (statement_limit_holds.calls 1 2147483646 x.f0 true _ (by rw [holds_is]; exact congrArg some HT0.out)).mono ?_); rintro e w1 ⟨rfl, hb1⟩; have HX1 := Aside0.mk (HX0.out.below hb1); have HG1 := Aside0.mk (HG0.out.below hb1); have HB1 := Aside0.mk (below_step HB0.out hb1); clear hb1; have x0_1 : w1.cell? ⟨W.heap.size, 0, none⟩ = some (.int .i64 x.f0) := HX1.out.at_ 0; have x1_1 : w1.cell? ⟨W.heap.size, 1, none⟩ = some (.int .i64 x.f1) := HX1.out.at_ 1; have x2_1 : w1.cell? ⟨W.heap.size, 2, none⟩ = some (.int .i64 x.f2) := HX1.out.at_ 2; have x3_1 : w1.cell? ⟨W.heap.size, 3, none⟩ = some (.int .i64 x.f3) := HX1.out.at_ 3; have x4_1 : w1.cell? ⟨W.heap.size, 4, none⟩ = some (.int .i64 x.f4) := HX1.out.at_ 4; have x5_1 : w1.cell? ⟨W.heap.size, 5, none⟩ = some (.int .i64 x.f5) := HX1.out.at_ 5; have x6_1 : w1.cell? ⟨W.heap.size, 6, none⟩ = some (.int .i64 x.f6) := HX1.out.at_ 6; have x7_1 : w1.cell? ⟨W.heap.size, 7, none⟩ = some (.int .i64 x.f7) := HX1.out.at_ 7; have x8_1 : w1.cell? ⟨W.heap.size, 8, none⟩ = some (.int .i64 x.f8) := HX1.out.at_ 8; have x9_1 : w1.cell? ⟨W.heap.size, 9, none⟩ = some (.int .i64 x.f9) := HX1.out.at_ 9; have x10_1 : w1.cell? ⟨W.heap.size, 10, none⟩ = some (.int .i64 x.f10) := HX1.out.at_ 10; have p0_1 : w1.cell? ⟨0, 0, none⟩ = some (.int .i64 1) := HG1.out.person 0 _ rfl; have p1_1 : w1.cell? ⟨0, 1, none⟩ = some (.int .i64 2147483646) := HG1.out.person 1 _ rfl; have n0_1 : w1.cell? ⟨1, 0, none⟩ = some (.int .i64 0) := HG1.out.number 0 _ rfl; have n1_1 : w1.cell? ⟨1, 1, none⟩ = some (.int .i64 2147483646) := HG1.out.number 1 _ rfl) | (go_at_call 56; (with_reducible refine (statement_limit_holds.calls 1 2147483646 x.f1 true _ (by rw [holds_is]; exact congrArg some HT1.out)).mono ?_); rintro e w2 ⟨rfl, hb2⟩; have HX2 := Aside0.mk (HX1.out.below hb2); have HG2 := Aside0.mk (HG1.out.below hb2); have HB2 := Aside0.mk (below_step HB1.out hb2); clear hb2; have x0_2 : w2.cell? ⟨W.heap.size, 0, none⟩ = some (.int .i64 x.f0) := HX2.out.at_ 0; have x1_2 : w2.cell? ⟨W.heap.size, 1, none⟩ = some (.int .i64 x.f1) := HX2.out.at_ 1; have x2_2 : w2.cell? ⟨W.heap.size, 2, none⟩ = some (.int .i64 x.f2) := HX2.out.at_ 2; have x3_2 : w2.cell? ⟨W.heap.size, 3, none⟩ = some (.int .i64 x.f3) := HX2.out.at_ 3; have x4_2 : w2.cell? ⟨W.heap.size, 4, none⟩ = some (.int .i64 x.f4) := HX2.out.at_ 4; have x5_2 : w2.cell? ⟨W.heap.size, 5, none⟩ = some (.int .i64 x.f5) := HX2.out.at_ 5; have x6_2 : w2.cell? ⟨W.heap.size, 6, none⟩ = some (.int .i64 x.f6) := HX2.out.at_ 6; have x7_2 : w2.cell? ⟨W.heap.size, 7, none⟩ = some (.int .i64 x.f7) := HX2.out.at_ 7; have x8_2 : w2.cell? ⟨W.heap.size, 8, none⟩ = some (.int .i64 x.f8) := HX2.out.at_ 8; have x9_2 : w2.cell? ⟨W.heap.size, 9, none⟩ = some (.int .i64 x.f9) := HX2.out.at_ 9; have x10_2 : w2.cell? ⟨W.heap.size, 10, none⟩ = some (.int .i64 x.f10) := HX2.out.at_ 10; have p0_2 : w2.cell? ⟨0, 0, none⟩ = some (.int .i64 1) := HG2.out.person 0 _ rfl; have p1_2 : w2.cell? ⟨0, 1, none⟩ = some (.int .i64 2147483646) := HG2.out.person 1 _ rfl; have n0_2 : w2.cell? ⟨1, 0, none⟩ = some (.int .i64 0) := HG2.out.number 0 _ rfl; have n1_2 : w2.cell? ⟨1, 1, none⟩ = some (.int .i64 2147483646) := HG2.out.number 1 _ rfl) | (go_at_call 56; (with_reducible refine (statement_limit_holds.calls 0 2147483646 x.f3 true _ (by rw [holds_is]; exact congrArg some HT5.out)).mono ?_); rintro e w3 ⟨rfl, hb3⟩; have HX3 := Aside0.mk (HX2.out.below hb3); have HG3 := Aside0.mk (HG2.out.below hb3); have HB3 := Aside0.mk (below_step HB2.out hb3); clear hb3; have x0_3 : w3.cell? ⟨W.heap.size, 0, none⟩ = some (.int .i64 x.f0) := HX3.out.at_ 0; have x1_3 : w3.cell? ⟨W.heap.size, 1, none⟩ = some (.int .i64 x.f1) := HX3.out.at_ 1; have x2_3 : w3.cell? ⟨W.heap.size, 2, none⟩ = some (.int .i64 x.f2) := HX3.out.at_ 2; have x3_3 : w3.cell? ⟨W.heap.size, 3, none⟩ = some (.int .i64 x.f3) := HX3.out.at_ 3; have x4_3 : w3.cell? ⟨W.heap.size, 4, none⟩ = some (.int .i64 x.f4) := HX3.out.at_ 4; have x5_3 : w3.cell? ⟨W.heap.size, 5, none⟩ = some (.int .i64 x.f5) := HX3.out.at_ 5; have x6_3 : w3.cell? ⟨W.heap.size, 6, none⟩ = some (.int .i64 x.f6) := HX3.out.at_ 6; have x7_3 : w3.cell? ⟨W.heap.size, 7, none⟩ = some (.int .i64 x.f7) := HX3.out.at_ 7; have x8_3 : w3.cell? ⟨W.heap.size, 8, none⟩ = some (.int .i64 x.f8) := HX3.out.at_ 8; have x9_3 : w3.cell? ⟨W.heap.size, 9, none⟩ = some (.int .i64 x.f9) := HX3.out.at_ 9; have x10_3 : w3.cell? ⟨W.heap.size, 10, none⟩ = some (.int .i64 x.f10) := HX3.out.at_ 10; have p0_3 : w3.cell? ⟨0, 0, none⟩ = some (.int .i64 1) := HG3.out.person 0 _ rfl; have p1_3 : w3.cell? ⟨0, 1, none⟩ = some (.int .i64 2147483646) := HG3.out.person 1 _ rfl; have n0_3 : w3.cell? ⟨1, 0, none⟩ = some (.int .i64 0) := HG3.out.number 0 _ rfl; have n1_3 : w3.cell? ⟨1, 1, none⟩ = some (.int .i64 2147483646) := HG3.out.number 1 _ rfl))
                    go_ret
                    exact ⟨by (first | (rw [HR.out, HFF.out]; done) | simp [HR.out, HFF.out]), HB3.out⟩
                  | true =>
                    have HT7 := Aside0.mk ht7
                    cases ht8 : decide (x.f4 ≤ 1048576) with
                    | false =>
                      have HT8 := Aside0.mk ht8
                      have hF : validB x = false := by
                        unfold validB
                        rw [HT0.out, HT1.out, HT2.out, HT3.out, HT4.out, HT5.out, HT6.out, HT7.out, HT8.out]
                        rfl
                      have HFF := Aside0.mk hF
                      clear hF
                      go_enter Tryd.func53, Tryd.ntmps53
                      go_upto_region 1 with (fail)
                      rw [← HW.out]
                      have x0_0 : W0.cell? ⟨W.heap.size, 0, none⟩ = some (.int .i64 x.f0) := HX0.out.at_ 0
                      have x1_0 : W0.cell? ⟨W.heap.size, 1, none⟩ = some (.int .i64 x.f1) := HX0.out.at_ 1
                      have x2_0 : W0.cell? ⟨W.heap.size, 2, none⟩ = some (.int .i64 x.f2) := HX0.out.at_ 2
                      have x3_0 : W0.cell? ⟨W.heap.size, 3, none⟩ = some (.int .i64 x.f3) := HX0.out.at_ 3
                      have x4_0 : W0.cell? ⟨W.heap.size, 4, none⟩ = some (.int .i64 x.f4) := HX0.out.at_ 4
                      have x5_0 : W0.cell? ⟨W.heap.size, 5, none⟩ = some (.int .i64 x.f5) := HX0.out.at_ 5
                      have x6_0 : W0.cell? ⟨W.heap.size, 6, none⟩ = some (.int .i64 x.f6) := HX0.out.at_ 6
                      have x7_0 : W0.cell? ⟨W.heap.size, 7, none⟩ = some (.int .i64 x.f7) := HX0.out.at_ 7
                      have x8_0 : W0.cell? ⟨W.heap.size, 8, none⟩ = some (.int .i64 x.f8) := HX0.out.at_ 8
                      have x9_0 : W0.cell? ⟨W.heap.size, 9, none⟩ = some (.int .i64 x.f9) := HX0.out.at_ 9
                      have x10_0 : W0.cell? ⟨W.heap.size, 10, none⟩ = some (.int .i64 x.f10) := HX0.out.at_ 10
                      have p0_0 : W0.cell? ⟨0, 0, none⟩ = some (.int .i64 1) := HG0.out.person 0 _ rfl
                      have p1_0 : W0.cell? ⟨0, 1, none⟩ = some (.int .i64 2147483646) := HG0.out.person 1 _ rfl
                      have n0_0 : W0.cell? ⟨1, 0, none⟩ = some (.int .i64 0) := HG0.out.number 0 _ rfl
                      have n1_0 : W0.cell? ⟨1, 1, none⟩ = some (.int .i64 2147483646) := HG0.out.number 1 _ rfl
                      go_wp2_with (first | (go_at_call 56; (with_reducible refine (statement_limit_holds.calls 1 2147483646 x.f0 true _ (by rw [holds_is]; exact congrArg some HT0.out)).mono ?_); rintro e w1 ⟨rfl, hb1⟩; have HX1 := Aside0.mk (HX0.out.below hb1); have HG1 := Aside0.mk (HG0.out.below hb1); have HB1 := Aside0.mk (below_step HB0.out hb1); clear hb1; have x0_1 : w1.cell? ⟨W.heap.size, 0, none⟩ = some (.int .i64 x.f0) := HX1.out.at_ 0; have x1_1 : w1.cell? ⟨W.heap.size, 1, none⟩ = some (.int .i64 x.f1) := HX1.out.at_ 1; have x2_1 : w1.cell? ⟨W.heap.size, 2, none⟩ = some (.int .i64 x.f2) := HX1.out.at_ 2; have x3_1 : w1.cell? ⟨W.heap.size, 3, none⟩ = some (.int .i64 x.f3) := HX1.out.at_ 3; have x4_1 : w1.cell? ⟨W.heap.size, 4, none⟩ = some (.int .i64 x.f4) := HX1.out.at_ 4; have x5_1 : w1.cell? ⟨W.heap.size, 5, none⟩ = some (.int .i64 x.f5) := HX1.out.at_ 5; have x6_1 : w1.cell? ⟨W.heap.size, 6, none⟩ = some (.int .i64 x.f6) := HX1.out.at_ 6; have x7_1 : w1.cell? ⟨W.heap.size, 7, none⟩ = some (.int .i64 x.f7) := HX1.out.at_ 7; have x8_1 : w1.cell? ⟨W.heap.size, 8, none⟩ = some (.int .i64 x.f8) := HX1.out.at_ 8; have x9_1 : w1.cell? ⟨W.heap.size, 9, none⟩ = some (.int .i64 x.f9) := HX1.out.at_ 9; have x10_1 : w1.cell? ⟨W.heap.size, 10, none⟩ = some (.int .i64 x.f10) := HX1.out.at_ 10; have p0_1 : w1.cell? ⟨0, 0, none⟩ = some (.int .i64 1) := HG1.out.person 0 _ rfl; have p1_1 : w1.cell? ⟨0, 1, none⟩ = some (.int .i64 2147483646) := HG1.out.person 1 _ rfl; have n0_1 : w1.cell? ⟨1, 0, none⟩ = some (.int .i64 0) := HG1.out.number 0 _ rfl; have n1_1 : w1.cell? ⟨1, 1, none⟩ = some (.int .i64 2147483646) := HG1.out.number 1 _ rfl) | (go_at_call 56; (with_reducible refine (statement_limit_holds.calls 1 2147483646 x.f1 true _ (by rw [holds_is]; exact congrArg some HT1.out)).mono ?_); rintro e w2 ⟨rfl, hb2⟩; have HX2 := Aside0.mk (HX1.out.below hb2); have HG2 := Aside0.mk (HG1.out.below hb2); have HB2 := Aside0.mk (below_step HB1.out hb2); clear hb2; have x0_2 : w2.cell? ⟨W.heap.size, 0, none⟩ = some (.int .i64 x.f0) := HX2.out.at_ 0; have x1_2 : w2.cell? ⟨W.heap.size, 1, none⟩ = some (.int .i64 x.f1) := HX2.out.at_ 1; have x2_2 : w2.cell? ⟨W.heap.size, 2, none⟩ = some (.int .i64 x.f2) := HX2.out.at_ 2; have x3_2 : w2.cell? ⟨W.heap.size, 3, none⟩ = some (.int .i64 x.f3) := HX2.out.at_ 3; have x4_2 : w2.cell? ⟨W.heap.size, 4, none⟩ = some (.int .i64 x.f4) := HX2.out.at_ 4; have x5_2 : w2.cell? ⟨W.heap.size, 5, none⟩ = some (.int .i64 x.f5) := HX2.out.at_ 5; have x6_2 : w2.cell? ⟨W.heap.size, 6, none⟩ = some (.int .i64 x.f6) := HX2.out.at_ 6; have x7_2 : w2.cell? ⟨W.heap.size, 7, none⟩ = some (.int .i64 x.f7) := HX2.out.at_ 7; have x8_2 : w2.cell? ⟨W.heap.size, 8, none⟩ = some (.int .i64 x.f8) := HX2.out.at_ 8; have x9_2 : w2.cell? ⟨W.heap.size, 9, none⟩ = some (.int .i64 x.f9) := HX2.out.at_ 9; have x10_2 : w2.cell? ⟨W.heap.size, 10, none⟩ = some (.int .i64 x.f10) := HX2.out.at_ 10; have p0_2 : w2.cell? ⟨0, 0, none⟩ = some (.int .i64 1) := HG2.out.person 0 _ rfl; have p1_2 : w2.cell? ⟨0, 1, none⟩ = some (.int .i64 2147483646) := HG2.out.person 1 _ rfl; have n0_2 : w2.cell? ⟨1, 0, none⟩ = some (.int .i64 0) := HG2.out.number 0 _ rfl; have n1_2 : w2.cell? ⟨1, 1, none⟩ = some (.int .i64 2147483646) := HG2.out.number 1 _ rfl) | (go_at_call 56; (with_reducible refine (statement_limit_holds.calls 0 2147483646 x.f3 true _ (by rw [holds_is]; exact congrArg some HT5.out)).mono ?_); rintro e w3 ⟨rfl, hb3⟩; have HX3 := Aside0.mk (HX2.out.below hb3); have HG3 := Aside0.mk (HG2.out.below hb3); have HB3 := Aside0.mk (below_step HB2.out hb3); clear hb3; have x0_3 : w3.cell? ⟨W.heap.size, 0, none⟩ = some (.int .i64 x.f0) := HX3.out.at_ 0; have x1_3 : w3.cell? ⟨W.heap.size, 1, none⟩ = some (.int .i64 x.f1) := HX3.out.at_ 1; have x2_3 : w3.cell? ⟨W.heap.size, 2, none⟩ = some (.int .i64 x.f2) := HX3.out.at_ 2; have x3_3 : w3.cell? ⟨W.heap.size, 3, none⟩ = some (.int .i64 x.f3) := HX3.out.at_ 3; have x4_3 : w3.cell? ⟨W.heap.size, 4, none⟩ = some (.int .i64 x.f4) := HX3.out.at_ 4; have x5_3 : w3.cell? ⟨W.heap.size, 5, none⟩ = some (.int .i64 x.f5) := HX3.out.at_ 5; have x6_3 : w3.cell? ⟨W.heap.size, 6, none⟩ = some (.int .i64 x.f6) := HX3.out.at_ 6; have x7_3 : w3.cell? ⟨W.heap.size, 7, none⟩ = some (.int .i64 x.f7) := HX3.out.at_ 7; have x8_3 : w3.cell? ⟨W.heap.size, 8, none⟩ = some (.int .i64 x.f8) := HX3.out.at_ 8; have x9_3 : w3.cell? ⟨W.heap.size, 9, none⟩ = some (.int .i64 x.f9) := HX3.out.at_ 9; have x10_3 : w3.cell? ⟨W.heap.size, 10, none⟩ = some (.int .i64 x.f10) := HX3.out.at_ 10; have p0_3 : w3.cell? ⟨0, 0, none⟩ = some (.int .i64 1) := HG3.out.person 0 _ rfl; have p1_3 : w3.cell? ⟨0, 1, none⟩ = some (.int .i64 2147483646) := HG3.out.person 1 _ rfl; have n0_3 : w3.cell? ⟨1, 0, none⟩ = some (.int .i64 0) := HG3.out.number 0 _ rfl; have n1_3 : w3.cell? ⟨1, 1, none⟩ = some (.int .i64 2147483646) := HG3.out.number 1 _ rfl))
                      go_ret
                      exact ⟨by (first | (rw [HR.out, HFF.out]; done) | simp [HR.out, HFF.out]), HB3.out⟩
                    | true =>
                      have HT8 := Aside0.mk ht8
                      cases ht9 : holdsB 0 2147483646 x.f10 with
                      | false =>
                        have HT9 := Aside0.mk ht9
                        clear ht9
                        have hF : validB x = false := by
                          unfold validB
                          rw [HT0.out, HT1.out, HT2.out, HT3.out, HT4.out, HT5.out, HT6.out, HT7.out, HT8.out, HT9.out]
                          rfl
                        have HFF := Aside0.mk hF
                        clear hF
                        go_enter Tryd.func53, Tryd.ntmps53
                        go_upto_region 1 with (fail)
                        rw [← HW.out]
                        have x0_0 : W0.cell? ⟨W.heap.size, 0, none⟩ = some (.int .i64 x.f0) := HX0.out.at_ 0
                        have x1_0 : W0.cell? ⟨W.heap.size, 1, none⟩ = some (.int .i64 x.f1) := HX0.out.at_ 1
                        have x2_0 : W0.cell? ⟨W.heap.size, 2, none⟩ = some (.int .i64 x.f2) := HX0.out.at_ 2
                        have x3_0 : W0.cell? ⟨W.heap.size, 3, none⟩ = some (.int .i64 x.f3) := HX0.out.at_ 3
                        have x4_0 : W0.cell? ⟨W.heap.size, 4, none⟩ = some (.int .i64 x.f4) := HX0.out.at_ 4
                        have x5_0 : W0.cell? ⟨W.heap.size, 5, none⟩ = some (.int .i64 x.f5) := HX0.out.at_ 5
                        have x6_0 : W0.cell? ⟨W.heap.size, 6, none⟩ = some (.int .i64 x.f6) := HX0.out.at_ 6
                        have x7_0 : W0.cell? ⟨W.heap.size, 7, none⟩ = some (.int .i64 x.f7) := HX0.out.at_ 7
                        have x8_0 : W0.cell? ⟨W.heap.size, 8, none⟩ = some (.int .i64 x.f8) := HX0.out.at_ 8
                        have x9_0 : W0.cell? ⟨W.heap.size, 9, none⟩ = some (.int .i64 x.f9) := HX0.out.at_ 9
                        have x10_0 : W0.cell? ⟨W.heap.size, 10, none⟩ = some (.int .i64 x.f10) := HX0.out.at_ 10
                        have p0_0 : W0.cell? ⟨0, 0, none⟩ = some (.int .i64 1) := HG0.out.person 0 _ rfl
                        have p1_0 : W0.cell? ⟨0, 1, none⟩ = some (.int .i64 2147483646) := HG0.out.person 1 _ rfl
                        have n0_0 : W0.cell? ⟨1, 0, none⟩ = some (.int .i64 0) := HG0.out.number 0 _ rfl
                        have n1_0 : W0.cell? ⟨1, 1, none⟩ = some (.int .i64 2147483646) := HG0.out.number 1 _ rfl
                        go_wp2_with (first | (go_at_call 56; (with_reducible refine (statement_limit_holds.calls 1 2147483646 x.f0 true _ (by rw [holds_is]; exact congrArg some HT0.out)).mono ?_); rintro e w1 ⟨rfl, hb1⟩; have HX1 := Aside0.mk (HX0.out.below hb1); have HG1 := Aside0.mk (HG0.out.below hb1); have HB1 := Aside0.mk (below_step HB0.out hb1); clear hb1; have x0_1 : w1.cell? ⟨W.heap.size, 0, none⟩ = some (.int .i64 x.f0) := HX1.out.at_ 0; have x1_1 : w1.cell? ⟨W.heap.size, 1, none⟩ = some (.int .i64 x.f1) := HX1.out.at_ 1; have x2_1 : w1.cell? ⟨W.heap.size, 2, none⟩ = some (.int .i64 x.f2) := HX1.out.at_ 2; have x3_1 : w1.cell? ⟨W.heap.size, 3, none⟩ = some (.int .i64 x.f3) := HX1.out.at_ 3; have x4_1 : w1.cell? ⟨W.heap.size, 4, none⟩ = some (.int .i64 x.f4) := HX1.out.at_ 4; have x5_1 : w1.cell? ⟨W.heap.size, 5, none⟩ = some (.int .i64 x.f5) := HX1.out.at_ 5; have x6_1 : w1.cell? ⟨W.heap.size, 6, none⟩ = some (.int .i64 x.f6) := HX1.out.at_ 6; have x7_1 : w1.cell? ⟨W.heap.size, 7, none⟩ = some (.int .i64 x.f7) := HX1.out.at_ 7; have x8_1 : w1.cell? ⟨W.heap.size, 8, none⟩ = some (.int .i64 x.f8) := HX1.out.at_ 8; have x9_1 : w1.cell? ⟨W.heap.size, 9, none⟩ = some (.int .i64 x.f9) := HX1.out.at_ 9; have x10_1 : w1.cell? ⟨W.heap.size, 10, none⟩ = some (.int .i64 x.f10) := HX1.out.at_ 10; have p0_1 : w1.cell? ⟨0, 0, none⟩ = some (.int .i64 1) := HG1.out.person 0 _ rfl; have p1_1 : w1.cell? ⟨0, 1, none⟩ = some (.int .i64 2147483646) := HG1.out.person 1 _ rfl; have n0_1 : w1.cell? ⟨1, 0, none⟩ = some (.int .i64 0) := HG1.out.number 0 _ rfl; have n1_1 : w1.cell? ⟨1, 1, none⟩ = some (.int .i64 2147483646) := HG1.out.number 1 _ rfl) | (go_at_call 56; (with_reducible refine (statement_limit_holds.calls 1 2147483646 x.f1 true _ (by rw [holds_is]; exact congrArg some HT1.out)).mono ?_); rintro e w2 ⟨rfl, hb2⟩; have HX2 := Aside0.mk (HX1.out.below hb2); have HG2 := Aside0.mk (HG1.out.below hb2); have HB2 := Aside0.mk (below_step HB1.out hb2); clear hb2; have x0_2 : w2.cell? ⟨W.heap.size, 0, none⟩ = some (.int .i64 x.f0) := HX2.out.at_ 0; have x1_2 : w2.cell? ⟨W.heap.size, 1, none⟩ = some (.int .i64 x.f1) := HX2.out.at_ 1; have x2_2 : w2.cell? ⟨W.heap.size, 2, none⟩ = some (.int .i64 x.f2) := HX2.out.at_ 2; have x3_2 : w2.cell? ⟨W.heap.size, 3, none⟩ = some (.int .i64 x.f3) := HX2.out.at_ 3; have x4_2 : w2.cell? ⟨W.heap.size, 4, none⟩ = some (.int .i64 x.f4) := HX2.out.at_ 4; have x5_2 : w2.cell? ⟨W.heap.size, 5, none⟩ = some (.int .i64 x.f5) := HX2.out.at_ 5; have x6_2 : w2.cell? ⟨W.heap.size, 6, none⟩ = some (.int .i64 x.f6) := HX2.out.at_ 6; have x7_2 : w2.cell? ⟨W.heap.size, 7, none⟩ = some (.int .i64 x.f7) := HX2.out.at_ 7; have x8_2 : w2.cell? ⟨W.heap.size, 8, none⟩ = some (.int .i64 x.f8) := HX2.out.at_ 8; have x9_2 : w2.cell? ⟨W.heap.size, 9, none⟩ = some (.int .i64 x.f9) := HX2.out.at_ 9; have x10_2 : w2.cell? ⟨W.heap.size, 10, none⟩ = some (.int .i64 x.f10) := HX2.out.at_ 10; have p0_2 : w2.cell? ⟨0, 0, none⟩ = some (.int .i64 1) := HG2.out.person 0 _ rfl; have p1_2 : w2.cell? ⟨0, 1, none⟩ = some (.int .i64 2147483646) := HG2.out.person 1 _ rfl; have n0_2 : w2.cell? ⟨1, 0, none⟩ = some (.int .i64 0) := HG2.out.number 0 _ rfl; have n1_2 : w2.cell? ⟨1, 1, none⟩ = some (.int .i64 2147483646) := HG2.out.number 1 _ rfl) | (go_at_call 56; (with_reducible refine (statement_limit_holds.calls 0 2147483646 x.f3 true _ (by rw [holds_is]; exact congrArg some HT5.out)).mono ?_); rintro e w3 ⟨rfl, hb3⟩; have HX3 := Aside0.mk (HX2.out.below hb3); have HG3 := Aside0.mk (HG2.out.below hb3); have HB3 := Aside0.mk (below_step HB2.out hb3); clear hb3; have x0_3 : w3.cell? ⟨W.heap.size, 0, none⟩ = some (.int .i64 x.f0) := HX3.out.at_ 0; have x1_3 : w3.cell? ⟨W.heap.size, 1, none⟩ = some (.int .i64 x.f1) := HX3.out.at_ 1; have x2_3 : w3.cell? ⟨W.heap.size, 2, none⟩ = some (.int .i64 x.f2) := HX3.out.at_ 2; have x3_3 : w3.cell? ⟨W.heap.size, 3, none⟩ = some (.int .i64 x.f3) := HX3.out.at_ 3; have x4_3 : w3.cell? ⟨W.heap.size, 4, none⟩ = some (.int .i64 x.f4) := HX3.out.at_ 4; have x5_3 : w3.cell? ⟨W.heap.size, 5, none⟩ = some (.int .i64 x.f5) := HX3.out.at_ 5; have x6_3 : w3.cell? ⟨W.heap.size, 6, none⟩ = some (.int .i64 x.f6) := HX3.out.at_ 6; have x7_3 : w3.cell? ⟨W.heap.size, 7, none⟩ = some (.int .i64 x.f7) := HX3.out.at_ 7; have x8_3 : w3.cell? ⟨W.heap.size, 8, none⟩ = some (.int .i64 x.f8) := HX3.out.at_ 8; have x9_3 : w3.cell? ⟨W.heap.size, 9, none⟩ = some (.int .i64 x.f9) := HX3.out.at_ 9; have x10_3 : w3.cell? ⟨W.heap.size, 10, none⟩ = some (.int .i64 x.f10) := HX3.out.at_ 10; have p0_3 : w3.cell? ⟨0, 0, none⟩ = some (.int .i64 1) := HG3.out.person 0 _ rfl; have p1_3 : w3.cell? ⟨0, 1, none⟩ = some (.int .i64 2147483646) := HG3.out.person 1 _ rfl; have n0_3 : w3.cell? ⟨1, 0, none⟩ = some (.int .i64 0) := HG3.out.number 0 _ rfl; have n1_3 : w3.cell? ⟨1, 1, none⟩ = some (.int .i64 2147483646) := HG3.out.number 1 _ rfl) | (go_at_call 56; (with_reducible refine (statement_limit_holds.calls 0 2147483646 x.f10 false _ (by rw [holds_is]; exact congrArg some HT9.out)).mono ?_); rintro e w4 ⟨rfl, hb4⟩; have HX4 := Aside0.mk (HX3.out.below hb4); have HG4 := Aside0.mk (HG3.out.below hb4); have HB4 := Aside0.mk (below_step HB3.out hb4); clear hb4; have x0_4 : w4.cell? ⟨W.heap.size, 0, none⟩ = some (.int .i64 x.f0) := HX4.out.at_ 0; have x1_4 : w4.cell? ⟨W.heap.size, 1, none⟩ = some (.int .i64 x.f1) := HX4.out.at_ 1; have x2_4 : w4.cell? ⟨W.heap.size, 2, none⟩ = some (.int .i64 x.f2) := HX4.out.at_ 2; have x3_4 : w4.cell? ⟨W.heap.size, 3, none⟩ = some (.int .i64 x.f3) := HX4.out.at_ 3; have x4_4 : w4.cell? ⟨W.heap.size, 4, none⟩ = some (.int .i64 x.f4) := HX4.out.at_ 4; have x5_4 : w4.cell? ⟨W.heap.size, 5, none⟩ = some (.int .i64 x.f5) := HX4.out.at_ 5; have x6_4 : w4.cell? ⟨W.heap.size, 6, none⟩ = some (.int .i64 x.f6) := HX4.out.at_ 6; have x7_4 : w4.cell? ⟨W.heap.size, 7, none⟩ = some (.int .i64 x.f7) := HX4.out.at_ 7; have x8_4 : w4.cell? ⟨W.heap.size, 8, none⟩ = some (.int .i64 x.f8) := HX4.out.at_ 8; have x9_4 : w4.cell? ⟨W.heap.size, 9, none⟩ = some (.int .i64 x.f9) := HX4.out.at_ 9; have x10_4 : w4.cell? ⟨W.heap.size, 10, none⟩ = some (.int .i64 x.f10) := HX4.out.at_ 10; have p0_4 : w4.cell? ⟨0, 0, none⟩ = some (.int .i64 1) := HG4.out.person 0 _ rfl; have p1_4 : w4.cell? ⟨0, 1, none⟩ = some (.int .i64 2147483646) := HG4.out.person 1 _ rfl; have n0_4 : w4.cell? ⟨1, 0, none⟩ = some (.int .i64 0) := HG4.out.number 0 _ rfl; have n1_4 : w4.cell? ⟨1, 1, none⟩ = some (.int .i64 2147483646) := HG4.out.number 1 _ rfl))
                        go_ret
                        exact ⟨by (first | (rw [HR.out, HFF.out]; done) | simp [HR.out, HFF.out]), HB4.out⟩
                      | true =>
                        have HT9 := Aside0.mk ht9
                        clear ht9
                        cases ht10 : fitsB x with
                        | false =>
                          have HT10 := Aside0.mk ht10
                          clear ht10
                          have hF : validB x = false := by
                            unfold validB
                            rw [HT0.out, HT1.out, HT2.out, HT3.out, HT4.out, HT5.out, HT6.out, HT7.out, HT8.out, HT9.out, HT10.out]
                            rfl
                          have HFF := Aside0.mk hF
                          clear hF
                          go_enter Tryd.func53, Tryd.ntmps53
                          go_upto_region 1 with (fail)
                          rw [← HW.out]
                          have x0_0 : W0.cell? ⟨W.heap.size, 0, none⟩ = some (.int .i64 x.f0) := HX0.out.at_ 0
                          have x1_0 : W0.cell? ⟨W.heap.size, 1, none⟩ = some (.int .i64 x.f1) := HX0.out.at_ 1
                          have x2_0 : W0.cell? ⟨W.heap.size, 2, none⟩ = some (.int .i64 x.f2) := HX0.out.at_ 2
                          have x3_0 : W0.cell? ⟨W.heap.size, 3, none⟩ = some (.int .i64 x.f3) := HX0.out.at_ 3
                          have x4_0 : W0.cell? ⟨W.heap.size, 4, none⟩ = some (.int .i64 x.f4) := HX0.out.at_ 4
                          have x5_0 : W0.cell? ⟨W.heap.size, 5, none⟩ = some (.int .i64 x.f5) := HX0.out.at_ 5
                          have x6_0 : W0.cell? ⟨W.heap.size, 6, none⟩ = some (.int .i64 x.f6) := HX0.out.at_ 6
                          have x7_0 : W0.cell? ⟨W.heap.size, 7, none⟩ = some (.int .i64 x.f7) := HX0.out.at_ 7
                          have x8_0 : W0.cell? ⟨W.heap.size, 8, none⟩ = some (.int .i64 x.f8) := HX0.out.at_ 8
                          have x9_0 : W0.cell? ⟨W.heap.size, 9, none⟩ = some (.int .i64 x.f9) := HX0.out.at_ 9
                          have x10_0 : W0.cell? ⟨W.heap.size, 10, none⟩ = some (.int .i64 x.f10) := HX0.out.at_ 10
                          have p0_0 : W0.cell? ⟨0, 0, none⟩ = some (.int .i64 1) := HG0.out.person 0 _ rfl
                          have p1_0 : W0.cell? ⟨0, 1, none⟩ = some (.int .i64 2147483646) := HG0.out.person 1 _ rfl
                          have n0_0 : W0.cell? ⟨1, 0, none⟩ = some (.int .i64 0) := HG0.out.number 0 _ rfl
                          have n1_0 : W0.cell? ⟨1, 1, none⟩ = some (.int .i64 2147483646) := HG0.out.number 1 _ rfl
                          go_wp2_with (first | (go_at_call 56; (with_reducible refine (statement_limit_holds.calls 1 2147483646 x.f0 true _ (by rw [holds_is]; exact congrArg some HT0.out)).mono ?_); rintro e w1 ⟨rfl, hb1⟩; have HX1 := Aside0.mk (HX0.out.below hb1); have HG1 := Aside0.mk (HG0.out.below hb1); have HB1 := Aside0.mk (below_step HB0.out hb1); clear hb1; have x0_1 : w1.cell? ⟨W.heap.size, 0, none⟩ = some (.int .i64 x.f0) := HX1.out.at_ 0; have x1_1 : w1.cell? ⟨W.heap.size, 1, none⟩ = some (.int .i64 x.f1) := HX1.out.at_ 1; have x2_1 : w1.cell? ⟨W.heap.size, 2, none⟩ = some (.int .i64 x.f2) := HX1.out.at_ 2; have x3_1 : w1.cell? ⟨W.heap.size, 3, none⟩ = some (.int .i64 x.f3) := HX1.out.at_ 3; have x4_1 : w1.cell? ⟨W.heap.size, 4, none⟩ = some (.int .i64 x.f4) := HX1.out.at_ 4; have x5_1 : w1.cell? ⟨W.heap.size, 5, none⟩ = some (.int .i64 x.f5) := HX1.out.at_ 5; have x6_1 : w1.cell? ⟨W.heap.size, 6, none⟩ = some (.int .i64 x.f6) := HX1.out.at_ 6; have x7_1 : w1.cell? ⟨W.heap.size, 7, none⟩ = some (.int .i64 x.f7) := HX1.out.at_ 7; have x8_1 : w1.cell? ⟨W.heap.size, 8, none⟩ = some (.int .i64 x.f8) := HX1.out.at_ 8; have x9_1 : w1.cell? ⟨W.heap.size, 9, none⟩ = some (.int .i64 x.f9) := HX1.out.at_ 9; have x10_1 : w1.cell? ⟨W.heap.size, 10, none⟩ = some (.int .i64 x.f10) := HX1.out.at_ 10; have p0_1 : w1.cell? ⟨0, 0, none⟩ = some (.int .i64 1) := HG1.out.person 0 _ rfl; have p1_1 : w1.cell? ⟨0, 1, none⟩ = some (.int .i64 2147483646) := HG1.out.person 1 _ rfl; have n0_1 : w1.cell? ⟨1, 0, none⟩ = some (.int .i64 0) := HG1.out.number 0 _ rfl; have n1_1 : w1.cell? ⟨1, 1, none⟩ = some (.int .i64 2147483646) := HG1.out.number 1 _ rfl) | (go_at_call 56; (with_reducible refine (statement_limit_holds.calls 1 2147483646 x.f1 true _ (by rw [holds_is]; exact congrArg some HT1.out)).mono ?_); rintro e w2 ⟨rfl, hb2⟩; have HX2 := Aside0.mk (HX1.out.below hb2); have HG2 := Aside0.mk (HG1.out.below hb2); have HB2 := Aside0.mk (below_step HB1.out hb2); clear hb2; have x0_2 : w2.cell? ⟨W.heap.size, 0, none⟩ = some (.int .i64 x.f0) := HX2.out.at_ 0; have x1_2 : w2.cell? ⟨W.heap.size, 1, none⟩ = some (.int .i64 x.f1) := HX2.out.at_ 1; have x2_2 : w2.cell? ⟨W.heap.size, 2, none⟩ = some (.int .i64 x.f2) := HX2.out.at_ 2; have x3_2 : w2.cell? ⟨W.heap.size, 3, none⟩ = some (.int .i64 x.f3) := HX2.out.at_ 3; have x4_2 : w2.cell? ⟨W.heap.size, 4, none⟩ = some (.int .i64 x.f4) := HX2.out.at_ 4; have x5_2 : w2.cell? ⟨W.heap.size, 5, none⟩ = some (.int .i64 x.f5) := HX2.out.at_ 5; have x6_2 : w2.cell? ⟨W.heap.size, 6, none⟩ = some (.int .i64 x.f6) := HX2.out.at_ 6; have x7_2 : w2.cell? ⟨W.heap.size, 7, none⟩ = some (.int .i64 x.f7) := HX2.out.at_ 7; have x8_2 : w2.cell? ⟨W.heap.size, 8, none⟩ = some (.int .i64 x.f8) := HX2.out.at_ 8; have x9_2 : w2.cell? ⟨W.heap.size, 9, none⟩ = some (.int .i64 x.f9) := HX2.out.at_ 9; have x10_2 : w2.cell? ⟨W.heap.size, 10, none⟩ = some (.int .i64 x.f10) := HX2.out.at_ 10; have p0_2 : w2.cell? ⟨0, 0, none⟩ = some (.int .i64 1) := HG2.out.person 0 _ rfl; have p1_2 : w2.cell? ⟨0, 1, none⟩ = some (.int .i64 2147483646) := HG2.out.person 1 _ rfl; have n0_2 : w2.cell? ⟨1, 0, none⟩ = some (.int .i64 0) := HG2.out.number 0 _ rfl; have n1_2 : w2.cell? ⟨1, 1, none⟩ = some (.int .i64 2147483646) := HG2.out.number 1 _ rfl) | (go_at_call 56; (with_reducible refine (statement_limit_holds.calls 0 2147483646 x.f3 true _ (by rw [holds_is]; exact congrArg some HT5.out)).mono ?_); rintro e w3 ⟨rfl, hb3⟩; have HX3 := Aside0.mk (HX2.out.below hb3); have HG3 := Aside0.mk (HG2.out.below hb3); have HB3 := Aside0.mk (below_step HB2.out hb3); clear hb3; have x0_3 : w3.cell? ⟨W.heap.size, 0, none⟩ = some (.int .i64 x.f0) := HX3.out.at_ 0; have x1_3 : w3.cell? ⟨W.heap.size, 1, none⟩ = some (.int .i64 x.f1) := HX3.out.at_ 1; have x2_3 : w3.cell? ⟨W.heap.size, 2, none⟩ = some (.int .i64 x.f2) := HX3.out.at_ 2; have x3_3 : w3.cell? ⟨W.heap.size, 3, none⟩ = some (.int .i64 x.f3) := HX3.out.at_ 3; have x4_3 : w3.cell? ⟨W.heap.size, 4, none⟩ = some (.int .i64 x.f4) := HX3.out.at_ 4; have x5_3 : w3.cell? ⟨W.heap.size, 5, none⟩ = some (.int .i64 x.f5) := HX3.out.at_ 5; have x6_3 : w3.cell? ⟨W.heap.size, 6, none⟩ = some (.int .i64 x.f6) := HX3.out.at_ 6; have x7_3 : w3.cell? ⟨W.heap.size, 7, none⟩ = some (.int .i64 x.f7) := HX3.out.at_ 7; have x8_3 : w3.cell? ⟨W.heap.size, 8, none⟩ = some (.int .i64 x.f8) := HX3.out.at_ 8; have x9_3 : w3.cell? ⟨W.heap.size, 9, none⟩ = some (.int .i64 x.f9) := HX3.out.at_ 9; have x10_3 : w3.cell? ⟨W.heap.size, 10, none⟩ = some (.int .i64 x.f10) := HX3.out.at_ 10; have p0_3 : w3.cell? ⟨0, 0, none⟩ = some (.int .i64 1) := HG3.out.person 0 _ rfl; have p1_3 : w3.cell? ⟨0, 1, none⟩ = some (.int .i64 2147483646) := HG3.out.person 1 _ rfl; have n0_3 : w3.cell? ⟨1, 0, none⟩ = some (.int .i64 0) := HG3.out.number 0 _ rfl; have n1_3 : w3.cell? ⟨1, 1, none⟩ = some (.int .i64 2147483646) := HG3.out.number 1 _ rfl) | (go_at_call 56; (with_reducible refine (statement_limit_holds.calls 0 2147483646 x.f10 true _ (by rw [holds_is]; exact congrArg some HT9.out)).mono ?_); rintro e w4 ⟨rfl, hb4⟩; have HX4 := Aside0.mk (HX3.out.below hb4); have HG4 := Aside0.mk (HG3.out.below hb4); have HB4 := Aside0.mk (below_step HB3.out hb4); clear hb4; have x0_4 : w4.cell? ⟨W.heap.size, 0, none⟩ = some (.int .i64 x.f0) := HX4.out.at_ 0; have x1_4 : w4.cell? ⟨W.heap.size, 1, none⟩ = some (.int .i64 x.f1) := HX4.out.at_ 1; have x2_4 : w4.cell? ⟨W.heap.size, 2, none⟩ = some (.int .i64 x.f2) := HX4.out.at_ 2; have x3_4 : w4.cell? ⟨W.heap.size, 3, none⟩ = some (.int .i64 x.f3) := HX4.out.at_ 3; have x4_4 : w4.cell? ⟨W.heap.size, 4, none⟩ = some (.int .i64 x.f4) := HX4.out.at_ 4; have x5_4 : w4.cell? ⟨W.heap.size, 5, none⟩ = some (.int .i64 x.f5) := HX4.out.at_ 5; have x6_4 : w4.cell? ⟨W.heap.size, 6, none⟩ = some (.int .i64 x.f6) := HX4.out.at_ 6; have x7_4 : w4.cell? ⟨W.heap.size, 7, none⟩ = some (.int .i64 x.f7) := HX4.out.at_ 7; have x8_4 : w4.cell? ⟨W.heap.size, 8, none⟩ = some (.int .i64 x.f8) := HX4.out.at_ 8; have x9_4 : w4.cell? ⟨W.heap.size, 9, none⟩ = some (.int .i64 x.f9) := HX4.out.at_ 9; have x10_4 : w4.cell? ⟨W.heap.size, 10, none⟩ = some (.int .i64 x.f10) := HX4.out.at_ 10; have p0_4 : w4.cell? ⟨0, 0, none⟩ = some (.int .i64 1) := HG4.out.person 0 _ rfl; have p1_4 : w4.cell? ⟨0, 1, none⟩ = some (.int .i64 2147483646) := HG4.out.person 1 _ rfl; have n0_4 : w4.cell? ⟨1, 0, none⟩ = some (.int .i64 0) := HG4.out.number 0 _ rfl; have n1_4 : w4.cell? ⟨1, 1, none⟩ = some (.int .i64 2147483646) := HG4.out.number 1 _ rfl) | (go_at_call 66; (with_reducible refine (fits_at x _ HG4.out false HT10.out).mono ?_); rintro e w5 ⟨rfl, hb5⟩; have HX5 := Aside0.mk (HX4.out.below hb5); have HG5 := Aside0.mk (HG4.out.below hb5); have HB5 := Aside0.mk (below_step HB4.out hb5); clear hb5; have x0_5 : w5.cell? ⟨W.heap.size, 0, none⟩ = some (.int .i64 x.f0) := HX5.out.at_ 0; have x1_5 : w5.cell? ⟨W.heap.size, 1, none⟩ = some (.int .i64 x.f1) := HX5.out.at_ 1; have x2_5 : w5.cell? ⟨W.heap.size, 2, none⟩ = some (.int .i64 x.f2) := HX5.out.at_ 2; have x3_5 : w5.cell? ⟨W.heap.size, 3, none⟩ = some (.int .i64 x.f3) := HX5.out.at_ 3; have x4_5 : w5.cell? ⟨W.heap.size, 4, none⟩ = some (.int .i64 x.f4) := HX5.out.at_ 4; have x5_5 : w5.cell? ⟨W.heap.size, 5, none⟩ = some (.int .i64 x.f5) := HX5.out.at_ 5; have x6_5 : w5.cell? ⟨W.heap.size, 6, none⟩ = some (.int .i64 x.f6) := HX5.out.at_ 6; have x7_5 : w5.cell? ⟨W.heap.size, 7, none⟩ = some (.int .i64 x.f7) := HX5.out.at_ 7; have x8_5 : w5.cell? ⟨W.heap.size, 8, none⟩ = some (.int .i64 x.f8) := HX5.out.at_ 8; have x9_5 : w5.cell? ⟨W.heap.size, 9, none⟩ = some (.int .i64 x.f9) := HX5.out.at_ 9; have x10_5 : w5.cell? ⟨W.heap.size, 10, none⟩ = some (.int .i64 x.f10) := HX5.out.at_ 10; have p0_5 : w5.cell? ⟨0, 0, none⟩ = some (.int .i64 1) := HG5.out.person 0 _ rfl; have p1_5 : w5.cell? ⟨0, 1, none⟩ = some (.int .i64 2147483646) := HG5.out.person 1 _ rfl; have n0_5 : w5.cell? ⟨1, 0, none⟩ = some (.int .i64 0) := HG5.out.number 0 _ rfl; have n1_5 : w5.cell? ⟨1, 1, none⟩ = some (.int .i64 2147483646) := HG5.out.number 1 _ rfl))
                          go_ret
                          exact ⟨by (first | (rw [HR.out, HFF.out]; done) | simp [HR.out, HFF.out]), HB5.out⟩
                        | true =>
                          have HT10 := Aside0.mk ht10
                          clear ht10
                          have hF : validB x = true := by
                            unfold validB
                            rw [HT0.out, HT1.out, HT2.out, HT3.out, HT4.out, HT5.out, HT6.out, HT7.out, HT8.out, HT9.out, HT10.out]
                            rfl
                          have HFF := Aside0.mk hF
                          clear hF
                          go_enter Tryd.func53, Tryd.ntmps53
                          go_upto_region 1 with (fail)
                          rw [← HW.out]
                          have x0_0 : W0.cell? ⟨W.heap.size, 0, none⟩ = some (.int .i64 x.f0) := HX0.out.at_ 0
                          have x1_0 : W0.cell? ⟨W.heap.size, 1, none⟩ = some (.int .i64 x.f1) := HX0.out.at_ 1
                          have x2_0 : W0.cell? ⟨W.heap.size, 2, none⟩ = some (.int .i64 x.f2) := HX0.out.at_ 2
                          have x3_0 : W0.cell? ⟨W.heap.size, 3, none⟩ = some (.int .i64 x.f3) := HX0.out.at_ 3
                          have x4_0 : W0.cell? ⟨W.heap.size, 4, none⟩ = some (.int .i64 x.f4) := HX0.out.at_ 4
                          have x5_0 : W0.cell? ⟨W.heap.size, 5, none⟩ = some (.int .i64 x.f5) := HX0.out.at_ 5
                          have x6_0 : W0.cell? ⟨W.heap.size, 6, none⟩ = some (.int .i64 x.f6) := HX0.out.at_ 6
                          have x7_0 : W0.cell? ⟨W.heap.size, 7, none⟩ = some (.int .i64 x.f7) := HX0.out.at_ 7
                          have x8_0 : W0.cell? ⟨W.heap.size, 8, none⟩ = some (.int .i64 x.f8) := HX0.out.at_ 8
                          have x9_0 : W0.cell? ⟨W.heap.size, 9, none⟩ = some (.int .i64 x.f9) := HX0.out.at_ 9
                          have x10_0 : W0.cell? ⟨W.heap.size, 10, none⟩ = some (.int .i64 x.f10) := HX0.out.at_ 10
                          have p0_0 : W0.cell? ⟨0, 0, none⟩ = some (.int .i64 1) := HG0.out.person 0 _ rfl
                          have p1_0 : W0.cell? ⟨0, 1, none⟩ = some (.int .i64 2147483646) := HG0.out.person 1 _ rfl
                          have n0_0 : W0.cell? ⟨1, 0, none⟩ = some (.int .i64 0) := HG0.out.number 0 _ rfl
                          have n1_0 : W0.cell? ⟨1, 1, none⟩ = some (.int .i64 2147483646) := HG0.out.number 1 _ rfl
                          go_wp2_with (first | (go_at_call 56; (with_reducible refine (statement_limit_holds.calls 1 2147483646 x.f0 true _ (by rw [holds_is]; exact congrArg some HT0.out)).mono ?_); rintro e w1 ⟨rfl, hb1⟩; have HX1 := Aside0.mk (HX0.out.below hb1); have HG1 := Aside0.mk (HG0.out.below hb1); have HB1 := Aside0.mk (below_step HB0.out hb1); clear hb1; have x0_1 : w1.cell? ⟨W.heap.size, 0, none⟩ = some (.int .i64 x.f0) := HX1.out.at_ 0; have x1_1 : w1.cell? ⟨W.heap.size, 1, none⟩ = some (.int .i64 x.f1) := HX1.out.at_ 1; have x2_1 : w1.cell? ⟨W.heap.size, 2, none⟩ = some (.int .i64 x.f2) := HX1.out.at_ 2; have x3_1 : w1.cell? ⟨W.heap.size, 3, none⟩ = some (.int .i64 x.f3) := HX1.out.at_ 3; have x4_1 : w1.cell? ⟨W.heap.size, 4, none⟩ = some (.int .i64 x.f4) := HX1.out.at_ 4; have x5_1 : w1.cell? ⟨W.heap.size, 5, none⟩ = some (.int .i64 x.f5) := HX1.out.at_ 5; have x6_1 : w1.cell? ⟨W.heap.size, 6, none⟩ = some (.int .i64 x.f6) := HX1.out.at_ 6; have x7_1 : w1.cell? ⟨W.heap.size, 7, none⟩ = some (.int .i64 x.f7) := HX1.out.at_ 7; have x8_1 : w1.cell? ⟨W.heap.size, 8, none⟩ = some (.int .i64 x.f8) := HX1.out.at_ 8; have x9_1 : w1.cell? ⟨W.heap.size, 9, none⟩ = some (.int .i64 x.f9) := HX1.out.at_ 9; have x10_1 : w1.cell? ⟨W.heap.size, 10, none⟩ = some (.int .i64 x.f10) := HX1.out.at_ 10; have p0_1 : w1.cell? ⟨0, 0, none⟩ = some (.int .i64 1) := HG1.out.person 0 _ rfl; have p1_1 : w1.cell? ⟨0, 1, none⟩ = some (.int .i64 2147483646) := HG1.out.person 1 _ rfl; have n0_1 : w1.cell? ⟨1, 0, none⟩ = some (.int .i64 0) := HG1.out.number 0 _ rfl; have n1_1 : w1.cell? ⟨1, 1, none⟩ = some (.int .i64 2147483646) := HG1.out.number 1 _ rfl) | (go_at_call 56; (with_reducible refine (statement_limit_holds.calls 1 2147483646 x.f1 true _ (by rw [holds_is]; exact congrArg some HT1.out)).mono ?_); rintro e w2 ⟨rfl, hb2⟩; have HX2 := Aside0.mk (HX1.out.below hb2); have HG2 := Aside0.mk (HG1.out.below hb2); have HB2 := Aside0.mk (below_step HB1.out hb2); clear hb2; have x0_2 : w2.cell? ⟨W.heap.size, 0, none⟩ = some (.int .i64 x.f0) := HX2.out.at_ 0; have x1_2 : w2.cell? ⟨W.heap.size, 1, none⟩ = some (.int .i64 x.f1) := HX2.out.at_ 1; have x2_2 : w2.cell? ⟨W.heap.size, 2, none⟩ = some (.int .i64 x.f2) := HX2.out.at_ 2; have x3_2 : w2.cell? ⟨W.heap.size, 3, none⟩ = some (.int .i64 x.f3) := HX2.out.at_ 3; have x4_2 : w2.cell? ⟨W.heap.size, 4, none⟩ = some (.int .i64 x.f4) := HX2.out.at_ 4; have x5_2 : w2.cell? ⟨W.heap.size, 5, none⟩ = some (.int .i64 x.f5) := HX2.out.at_ 5; have x6_2 : w2.cell? ⟨W.heap.size, 6, none⟩ = some (.int .i64 x.f6) := HX2.out.at_ 6; have x7_2 : w2.cell? ⟨W.heap.size, 7, none⟩ = some (.int .i64 x.f7) := HX2.out.at_ 7; have x8_2 : w2.cell? ⟨W.heap.size, 8, none⟩ = some (.int .i64 x.f8) := HX2.out.at_ 8; have x9_2 : w2.cell? ⟨W.heap.size, 9, none⟩ = some (.int .i64 x.f9) := HX2.out.at_ 9; have x10_2 : w2.cell? ⟨W.heap.size, 10, none⟩ = some (.int .i64 x.f10) := HX2.out.at_ 10; have p0_2 : w2.cell? ⟨0, 0, none⟩ = some (.int .i64 1) := HG2.out.person 0 _ rfl; have p1_2 : w2.cell? ⟨0, 1, none⟩ = some (.int .i64 2147483646) := HG2.out.person 1 _ rfl; have n0_2 : w2.cell? ⟨1, 0, none⟩ = some (.int .i64 0) := HG2.out.number 0 _ rfl; have n1_2 : w2.cell? ⟨1, 1, none⟩ = some (.int .i64 2147483646) := HG2.out.number 1 _ rfl) | (go_at_call 56; (with_reducible refine (statement_limit_holds.calls 0 2147483646 x.f3 true _ (by rw [holds_is]; exact congrArg some HT5.out)).mono ?_); rintro e w3 ⟨rfl, hb3⟩; have HX3 := Aside0.mk (HX2.out.below hb3); have HG3 := Aside0.mk (HG2.out.below hb3); have HB3 := Aside0.mk (below_step HB2.out hb3); clear hb3; have x0_3 : w3.cell? ⟨W.heap.size, 0, none⟩ = some (.int .i64 x.f0) := HX3.out.at_ 0; have x1_3 : w3.cell? ⟨W.heap.size, 1, none⟩ = some (.int .i64 x.f1) := HX3.out.at_ 1; have x2_3 : w3.cell? ⟨W.heap.size, 2, none⟩ = some (.int .i64 x.f2) := HX3.out.at_ 2; have x3_3 : w3.cell? ⟨W.heap.size, 3, none⟩ = some (.int .i64 x.f3) := HX3.out.at_ 3; have x4_3 : w3.cell? ⟨W.heap.size, 4, none⟩ = some (.int .i64 x.f4) := HX3.out.at_ 4; have x5_3 : w3.cell? ⟨W.heap.size, 5, none⟩ = some (.int .i64 x.f5) := HX3.out.at_ 5; have x6_3 : w3.cell? ⟨W.heap.size, 6, none⟩ = some (.int .i64 x.f6) := HX3.out.at_ 6; have x7_3 : w3.cell? ⟨W.heap.size, 7, none⟩ = some (.int .i64 x.f7) := HX3.out.at_ 7; have x8_3 : w3.cell? ⟨W.heap.size, 8, none⟩ = some (.int .i64 x.f8) := HX3.out.at_ 8; have x9_3 : w3.cell? ⟨W.heap.size, 9, none⟩ = some (.int .i64 x.f9) := HX3.out.at_ 9; have x10_3 : w3.cell? ⟨W.heap.size, 10, none⟩ = some (.int .i64 x.f10) := HX3.out.at_ 10; have p0_3 : w3.cell? ⟨0, 0, none⟩ = some (.int .i64 1) := HG3.out.person 0 _ rfl; have p1_3 : w3.cell? ⟨0, 1, none⟩ = some (.int .i64 2147483646) := HG3.out.person 1 _ rfl; have n0_3 : w3.cell? ⟨1, 0, none⟩ = some (.int .i64 0) := HG3.out.number 0 _ rfl; have n1_3 : w3.cell? ⟨1, 1, none⟩ = some (.int .i64 2147483646) := HG3.out.number 1 _ rfl) | (go_at_call 56; (with_reducible refine (statement_limit_holds.calls 0 2147483646 x.f10 true _ (by rw [holds_is]; exact congrArg some HT9.out)).mono ?_); rintro e w4 ⟨rfl, hb4⟩; have HX4 := Aside0.mk (HX3.out.below hb4); have HG4 := Aside0.mk (HG3.out.below hb4); have HB4 := Aside0.mk (below_step HB3.out hb4); clear hb4; have x0_4 : w4.cell? ⟨W.heap.size, 0, none⟩ = some (.int .i64 x.f0) := HX4.out.at_ 0; have x1_4 : w4.cell? ⟨W.heap.size, 1, none⟩ = some (.int .i64 x.f1) := HX4.out.at_ 1; have x2_4 : w4.cell? ⟨W.heap.size, 2, none⟩ = some (.int .i64 x.f2) := HX4.out.at_ 2; have x3_4 : w4.cell? ⟨W.heap.size, 3, none⟩ = some (.int .i64 x.f3) := HX4.out.at_ 3; have x4_4 : w4.cell? ⟨W.heap.size, 4, none⟩ = some (.int .i64 x.f4) := HX4.out.at_ 4; have x5_4 : w4.cell? ⟨W.heap.size, 5, none⟩ = some (.int .i64 x.f5) := HX4.out.at_ 5; have x6_4 : w4.cell? ⟨W.heap.size, 6, none⟩ = some (.int .i64 x.f6) := HX4.out.at_ 6; have x7_4 : w4.cell? ⟨W.heap.size, 7, none⟩ = some (.int .i64 x.f7) := HX4.out.at_ 7; have x8_4 : w4.cell? ⟨W.heap.size, 8, none⟩ = some (.int .i64 x.f8) := HX4.out.at_ 8; have x9_4 : w4.cell? ⟨W.heap.size, 9, none⟩ = some (.int .i64 x.f9) := HX4.out.at_ 9; have x10_4 : w4.cell? ⟨W.heap.size, 10, none⟩ = some (.int .i64 x.f10) := HX4.out.at_ 10; have p0_4 : w4.cell? ⟨0, 0, none⟩ = some (.int .i64 1) := HG4.out.person 0 _ rfl; have p1_4 : w4.cell? ⟨0, 1, none⟩ = some (.int .i64 2147483646) := HG4.out.person 1 _ rfl; have n0_4 : w4.cell? ⟨1, 0, none⟩ = some (.int .i64 0) := HG4.out.number 0 _ rfl; have n1_4 : w4.cell? ⟨1, 1, none⟩ = some (.int .i64 2147483646) := HG4.out.number 1 _ rfl) | (go_at_call 66; (with_reducible refine (fits_at x _ HG4.out true HT10.out).mono ?_); rintro e w5 ⟨rfl, hb5⟩; have HX5 := Aside0.mk (HX4.out.below hb5); have HG5 := Aside0.mk (HG4.out.below hb5); have HB5 := Aside0.mk (below_step HB4.out hb5); clear hb5; have x0_5 : w5.cell? ⟨W.heap.size, 0, none⟩ = some (.int .i64 x.f0) := HX5.out.at_ 0; have x1_5 : w5.cell? ⟨W.heap.size, 1, none⟩ = some (.int .i64 x.f1) := HX5.out.at_ 1; have x2_5 : w5.cell? ⟨W.heap.size, 2, none⟩ = some (.int .i64 x.f2) := HX5.out.at_ 2; have x3_5 : w5.cell? ⟨W.heap.size, 3, none⟩ = some (.int .i64 x.f3) := HX5.out.at_ 3; have x4_5 : w5.cell? ⟨W.heap.size, 4, none⟩ = some (.int .i64 x.f4) := HX5.out.at_ 4; have x5_5 : w5.cell? ⟨W.heap.size, 5, none⟩ = some (.int .i64 x.f5) := HX5.out.at_ 5; have x6_5 : w5.cell? ⟨W.heap.size, 6, none⟩ = some (.int .i64 x.f6) := HX5.out.at_ 6; have x7_5 : w5.cell? ⟨W.heap.size, 7, none⟩ = some (.int .i64 x.f7) := HX5.out.at_ 7; have x8_5 : w5.cell? ⟨W.heap.size, 8, none⟩ = some (.int .i64 x.f8) := HX5.out.at_ 8; have x9_5 : w5.cell? ⟨W.heap.size, 9, none⟩ = some (.int .i64 x.f9) := HX5.out.at_ 9; have x10_5 : w5.cell? ⟨W.heap.size, 10, none⟩ = some (.int .i64 x.f10) := HX5.out.at_ 10; have p0_5 : w5.cell? ⟨0, 0, none⟩ = some (.int .i64 1) := HG5.out.person 0 _ rfl; have p1_5 : w5.cell? ⟨0, 1, none⟩ = some (.int .i64 2147483646) := HG5.out.person 1 _ rfl; have n0_5 : w5.cell? ⟨1, 0, none⟩ = some (.int .i64 0) := HG5.out.number 0 _ rfl; have n1_5 : w5.cell? ⟨1, 1, none⟩ = some (.int .i64 2147483646) := HG5.out.number 1 _ rfl))
                          go_ret
                          exact ⟨by (first | (rw [HR.out, HFF.out]; done) | simp [HR.out, HFF.out]), HB5.out⟩
                | false =>
                  have HT6 : Aside0 ((decide (1 < x.f2) || (x.f3 == 0)) = false) := ⟨by rw [hl_, hr_]; rfl⟩
                  have hF : validB x = false := by
                    unfold validB
                    rw [HT0.out, HT1.out, HT2.out, HT3.out, HT4.out, HT5.out, HT6.out]
                    rfl
                  have HFF := Aside0.mk hF
                  clear hF
                  go_enter Tryd.func53, Tryd.ntmps53
                  go_upto_region 1 with (fail)
                  rw [← HW.out]
                  have x0_0 : W0.cell? ⟨W.heap.size, 0, none⟩ = some (.int .i64 x.f0) := HX0.out.at_ 0
                  have x1_0 : W0.cell? ⟨W.heap.size, 1, none⟩ = some (.int .i64 x.f1) := HX0.out.at_ 1
                  have x2_0 : W0.cell? ⟨W.heap.size, 2, none⟩ = some (.int .i64 x.f2) := HX0.out.at_ 2
                  have x3_0 : W0.cell? ⟨W.heap.size, 3, none⟩ = some (.int .i64 x.f3) := HX0.out.at_ 3
                  have x4_0 : W0.cell? ⟨W.heap.size, 4, none⟩ = some (.int .i64 x.f4) := HX0.out.at_ 4
                  have x5_0 : W0.cell? ⟨W.heap.size, 5, none⟩ = some (.int .i64 x.f5) := HX0.out.at_ 5
                  have x6_0 : W0.cell? ⟨W.heap.size, 6, none⟩ = some (.int .i64 x.f6) := HX0.out.at_ 6
                  have x7_0 : W0.cell? ⟨W.heap.size, 7, none⟩ = some (.int .i64 x.f7) := HX0.out.at_ 7
                  have x8_0 : W0.cell? ⟨W.heap.size, 8, none⟩ = some (.int .i64 x.f8) := HX0.out.at_ 8
                  have x9_0 : W0.cell? ⟨W.heap.size, 9, none⟩ = some (.int .i64 x.f9) := HX0.out.at_ 9
                  have x10_0 : W0.cell? ⟨W.heap.size, 10, none⟩ = some (.int .i64 x.f10) := HX0.out.at_ 10
                  have p0_0 : W0.cell? ⟨0, 0, none⟩ = some (.int .i64 1) := HG0.out.person 0 _ rfl
                  have p1_0 : W0.cell? ⟨0, 1, none⟩ = some (.int .i64 2147483646) := HG0.out.person 1 _ rfl
                  have n0_0 : W0.cell? ⟨1, 0, none⟩ = some (.int .i64 0) := HG0.out.number 0 _ rfl
                  have n1_0 : W0.cell? ⟨1, 1, none⟩ = some (.int .i64 2147483646) := HG0.out.number 1 _ rfl
                  go_wp2_with (first | (go_at_call 56; (with_reducible refine (statement_limit_holds.calls 1 2147483646 x.f0 true _ (by rw [holds_is]; exact congrArg some HT0.out)).mono ?_); rintro e w1 ⟨rfl, hb1⟩; have HX1 := Aside0.mk (HX0.out.below hb1); have HG1 := Aside0.mk (HG0.out.below hb1); have HB1 := Aside0.mk (below_step HB0.out hb1); clear hb1; have x0_1 : w1.cell? ⟨W.heap.size, 0, none⟩ = some (.int .i64 x.f0) := HX1.out.at_ 0; have x1_1 : w1.cell? ⟨W.heap.size, 1, none⟩ = some (.int .i64 x.f1) := HX1.out.at_ 1; have x2_1 : w1.cell? ⟨W.heap.size, 2, none⟩ = some (.int .i64 x.f2) := HX1.out.at_ 2; have x3_1 : w1.cell? ⟨W.heap.size, 3, none⟩ = some (.int .i64 x.f3) := HX1.out.at_ 3; have x4_1 : w1.cell? ⟨W.heap.size, 4, none⟩ = some (.int .i64 x.f4) := HX1.out.at_ 4; have x5_1 : w1.cell? ⟨W.heap.size, 5, none⟩ = some (.int .i64 x.f5) := HX1.out.at_ 5; have x6_1 : w1.cell? ⟨W.heap.size, 6, none⟩ = some (.int .i64 x.f6) := HX1.out.at_ 6; have x7_1 : w1.cell? ⟨W.heap.size, 7, none⟩ = some (.int .i64 x.f7) := HX1.out.at_ 7; have x8_1 : w1.cell? ⟨W.heap.size, 8, none⟩ = some (.int .i64 x.f8) := HX1.out.at_ 8; have x9_1 : w1.cell? ⟨W.heap.size, 9, none⟩ = some (.int .i64 x.f9) := HX1.out.at_ 9; have x10_1 : w1.cell? ⟨W.heap.size, 10, none⟩ = some (.int .i64 x.f10) := HX1.out.at_ 10; have p0_1 : w1.cell? ⟨0, 0, none⟩ = some (.int .i64 1) := HG1.out.person 0 _ rfl; have p1_1 : w1.cell? ⟨0, 1, none⟩ = some (.int .i64 2147483646) := HG1.out.person 1 _ rfl; have n0_1 : w1.cell? ⟨1, 0, none⟩ = some (.int .i64 0) := HG1.out.number 0 _ rfl; have n1_1 : w1.cell? ⟨1, 1, none⟩ = some (.int .i64 2147483646) := HG1.out.number 1 _ rfl) | (go_at_call 56; (with_reducible refine (statement_limit_holds.calls 1 2147483646 x.f1 true _ (by rw [holds_is]; exact congrArg some HT1.out)).mono ?_); rintro e w2 ⟨rfl, hb2⟩; have HX2 := Aside0.mk (HX1.out.below hb2); have HG2 := Aside0.mk (HG1.out.below hb2); have HB2 := Aside0.mk (below_step HB1.out hb2); clear hb2; have x0_2 : w2.cell? ⟨W.heap.size, 0, none⟩ = some (.int .i64 x.f0) := HX2.out.at_ 0; have x1_2 : w2.cell? ⟨W.heap.size, 1, none⟩ = some (.int .i64 x.f1) := HX2.out.at_ 1; have x2_2 : w2.cell? ⟨W.heap.size, 2, none⟩ = some (.int .i64 x.f2) := HX2.out.at_ 2; have x3_2 : w2.cell? ⟨W.heap.size, 3, none⟩ = some (.int .i64 x.f3) := HX2.out.at_ 3; have x4_2 : w2.cell? ⟨W.heap.size, 4, none⟩ = some (.int .i64 x.f4) := HX2.out.at_ 4; have x5_2 : w2.cell? ⟨W.heap.size, 5, none⟩ = some (.int .i64 x.f5) := HX2.out.at_ 5; have x6_2 : w2.cell? ⟨W.heap.size, 6, none⟩ = some (.int .i64 x.f6) := HX2.out.at_ 6; have x7_2 : w2.cell? ⟨W.heap.size, 7, none⟩ = some (.int .i64 x.f7) := HX2.out.at_ 7; have x8_2 : w2.cell? ⟨W.heap.size, 8, none⟩ = some (.int .i64 x.f8) := HX2.out.at_ 8; have x9_2 : w2.cell? ⟨W.heap.size, 9, none⟩ = some (.int .i64 x.f9) := HX2.out.at_ 9; have x10_2 : w2.cell? ⟨W.heap.size, 10, none⟩ = some (.int .i64 x.f10) := HX2.out.at_ 10; have p0_2 : w2.cell? ⟨0, 0, none⟩ = some (.int .i64 1) := HG2.out.person 0 _ rfl; have p1_2 : w2.cell? ⟨0, 1, none⟩ = some (.int .i64 2147483646) := HG2.out.person 1 _ rfl; have n0_2 : w2.cell? ⟨1, 0, none⟩ = some (.int .i64 0) := HG2.out.number 0 _ rfl; have n1_2 : w2.cell? ⟨1, 1, none⟩ = some (.int .i64 2147483646) := HG2.out.number 1 _ rfl) | (go_at_call 56; (with_reducible refine (statement_limit_holds.calls 0 2147483646 x.f3 true _ (by rw [holds_is]; exact congrArg some HT5.out)).mono ?_); rintro e w3 ⟨rfl, hb3⟩; have HX3 := Aside0.mk (HX2.out.below hb3); have HG3 := Aside0.mk (HG2.out.below hb3); have HB3 := Aside0.mk (below_step HB2.out hb3); clear hb3; have x0_3 : w3.cell? ⟨W.heap.size, 0, none⟩ = some (.int .i64 x.f0) := HX3.out.at_ 0; have x1_3 : w3.cell? ⟨W.heap.size, 1, none⟩ = some (.int .i64 x.f1) := HX3.out.at_ 1; have x2_3 : w3.cell? ⟨W.heap.size, 2, none⟩ = some (.int .i64 x.f2) := HX3.out.at_ 2; have x3_3 : w3.cell? ⟨W.heap.size, 3, none⟩ = some (.int .i64 x.f3) := HX3.out.at_ 3; have x4_3 : w3.cell? ⟨W.heap.size, 4, none⟩ = some (.int .i64 x.f4) := HX3.out.at_ 4; have x5_3 : w3.cell? ⟨W.heap.size, 5, none⟩ = some (.int .i64 x.f5) := HX3.out.at_ 5; have x6_3 : w3.cell? ⟨W.heap.size, 6, none⟩ = some (.int .i64 x.f6) := HX3.out.at_ 6; have x7_3 : w3.cell? ⟨W.heap.size, 7, none⟩ = some (.int .i64 x.f7) := HX3.out.at_ 7; have x8_3 : w3.cell? ⟨W.heap.size, 8, none⟩ = some (.int .i64 x.f8) := HX3.out.at_ 8; have x9_3 : w3.cell? ⟨W.heap.size, 9, none⟩ = some (.int .i64 x.f9) := HX3.out.at_ 9; have x10_3 : w3.cell? ⟨W.heap.size, 10, none⟩ = some (.int .i64 x.f10) := HX3.out.at_ 10; have p0_3 : w3.cell? ⟨0, 0, none⟩ = some (.int .i64 1) := HG3.out.person 0 _ rfl; have p1_3 : w3.cell? ⟨0, 1, none⟩ = some (.int .i64 2147483646) := HG3.out.person 1 _ rfl; have n0_3 : w3.cell? ⟨1, 0, none⟩ = some (.int .i64 0) := HG3.out.number 0 _ rfl; have n1_3 : w3.cell? ⟨1, 1, none⟩ = some (.int .i64 2147483646) := HG3.out.number 1 _ rfl))
                  go_ret
                  exact ⟨by (first | (rw [HR.out, HFF.out]; done) | simp [HR.out, HFF.out]), HB3.out⟩
end
def statement_Valid.f (a0_0 a0_1 a0_2 a0_3 a0_4 a0_5 a0_6 a0_7 a0_8 a0_9 a0_10 : Int) : Option Bool := some (validB ⟨a0_0, a0_1, a0_2, a0_3, a0_4, a0_5, a0_6, a0_7, a0_8, a0_9, a0_10⟩)
theorem statement_Valid.calls (a0_0 a0_1 a0_2 a0_3 a0_4 a0_5 a0_6 a0_7 a0_8 a0_9 a0_10 : Int) (r : Bool) (w : World) (h : statement_Valid.f a0_0 a0_1 a0_2 a0_3 a0_4 a0_5 a0_6 a0_7 a0_8 a0_9 a0_10 = some r) (hG : GW w) : Calls Tryd.prog 53 #[.agg #[.int .i64 a0_0, .int .i64 a0_1, .int .i64 a0_2, .int .i64 a0_3, .int .i64 a0_4, .int .i64 a0_5, .int .i64 a0_6, .int .i64 a0_7, .int .i64 a0_8, .int .i64 a0_9, .int .i64 a0_10]] w fun e w' => e = .returned (.bool r) ∧ Below w.heap.size w w' := by
  have h1 := Option.some.inj h
  subst h1
  exact valid.calls ⟨a0_0, a0_1, a0_2, a0_3, a0_4, a0_5, a0_6, a0_7, a0_8, a0_9, a0_10⟩ w hG

end Go.Proofs.YtcgpbmafkgbbdaaDoor.PE
