-- Printed by this claim's own program.
import Derived.Test.YtnlonmbfpkalhaaDoorPMx0
import Derived.Test.YtnlonmbfpkalhaaDoorRow
namespace Go.Proofs.YtnlonmbfpkalhaaDoor.PM
open Go.RowKit Go.Proofs.YtnlonmbfpkalhaaDoorW.PrintWords Go.Proofs.YtnlonmbfpkalhaaDoorW.PrintLast Go.Proofs.YtnlonmbfpkalhaaDoorW.PrintMore
attribute [local go_sem] max2_int min2_int max_two min_two max_three min_three max_four min_four
set_option linter.unusedVariables false
set_option linter.unusedSimpArgs false
section
attribute [local go_sem ↓] some_setCell
structure Fm where
 a0 : Int
 a1 : Int
 b0 : Int
 b1 : Int
 c0 : Int
 c1 : Int
 d0 : Int
 d1 : Int
 ct : Bool
 lk : Bool
def Fm.enc (f : Fm) : List Value := [.int .i64 f.a0, .int .i64 f.a1, .int .i64 f.b0, .int .i64 f.b1, .int .i64 f.c0, .int .i64 f.c1, .int .i64 f.d0, .int .i64 f.d1, .bool f.ct, .bool f.lk]
theorem Fm.len (f : Fm) : f.enc.length = 10 := rfl
def formList : List Fm := [⟨0, 0, 0, 0, 0, 0, 0, 0, false, false⟩, ⟨0, 63, 0, 2147483646, 1, 1024, 1, 65536, true, false⟩, ⟨0, 63, 0, 0, 0, 0, 1, 65536, true, false⟩, ⟨0, 63, 0, 0, 0, 0, 0, 0, false, false⟩, ⟨0, 63, 0, 2147483646, 1, 1024, 0, 0, false, false⟩, ⟨0, 63, 0, 0, 0, 0, 0, 0, false, false⟩, ⟨0, 2147483646, 0, 2147483646, 0, 256, 0, 0, false, false⟩, ⟨0, 2147483646, 0, 2147483646, 1, 1024, 0, 4294967293, false, true⟩, ⟨0, 2147483646, 0, 4294967293, 0, 0, 0, 0, false, false⟩]
def formOf (k : Int) : Fm := formList.getD k.toNat ⟨0, 0, 0, 0, 0, 0, 0, 0, false, false⟩
structure GW (W : World) : Prop where
 person : ∀ j v, ([.int .i64 1, .int .i64 2147483646] : List Value)[j]? = some v → W.cell? ⟨0, j, none⟩ = some v
 number : ∀ j v, ([.int .i64 0, .int .i64 2147483646] : List Value)[j]? = some v → W.cell? ⟨1, j, none⟩ = some v
 forms : ∀ j v, (flat Fm.enc formList)[j]? = some v → W.cell? ⟨2, j, none⟩ = some v
theorem GW.four {W : World} (h : GW W) : W.cell? ⟨0, 0, none⟩ = some (.int .i64 1) ∧ W.cell? ⟨0, 1, none⟩ = some (.int .i64 2147483646) ∧ W.cell? ⟨1, 0, none⟩ = some (.int .i64 0) ∧ W.cell? ⟨1, 1, none⟩ = some (.int .i64 2147483646) := ⟨h.person 0 _ rfl, h.person 1 _ rfl, h.number 0 _ rfl, h.number 1 _ rfl⟩
theorem GW.below {W W' : World} (h : GW W) (hb : Below W.heap.size W W') : GW W' :=
 ⟨fun j v hj => (hb.cell (World.block_lt_of_cell? W _ (h.person j v hj))).trans (h.person j v hj), fun j v hj => (hb.cell (World.block_lt_of_cell? W _ (h.number j v hj))).trans (h.number j v hj), fun j v hj => (hb.cell (World.block_lt_of_cell? W _ (h.forms j v hj))).trans (h.forms j v hj)⟩
theorem GW.form {W : World} (h : GW W) {k : Int} (h0 : 0 ≤ k) (h9 : k < 9) (j : Nat) (hj : j < 10) {v : Value} (hv : (formOf k).enc[j]? = some v) : W.cell? ⟨2, k.toNat * 10 + j, none⟩ = some v := by
 have hl : k.toNat < formList.length := by show k.toNat < 9; omega
 refine h.forms _ _ ?_
 rw [fget Fm.len formList k.toNat j hl hj, ← hv]
 unfold formOf
 rw [List.getD_eq_getElem?_getD, List.getElem?_eq_getElem hl]
 rfl
def holdsB (lo hi n : Int) : Bool := decide (lo ≤ n) && decide (n ≤ hi)
theorem holds_is (lo hi n : Int) : lim_holds.f lo hi n = some (holdsB lo hi n) := by
 unfold lim_holds.f holdsB
 by_cases h : n ≥ lo
 ·rw [if_pos h, decide_eq_true (show lo ≤ n from h), Bool.true_and]
 ·rw [if_neg h, decide_eq_false (show ¬ lo ≤ n from h), Bool.false_and]
def Fm.allB (f : Fm) (x : S39) (d : Int) : Bool := holdsB f.a0 f.a1 x.f6 && (holdsB f.b0 f.b1 x.f7 && (holdsB f.c0 f.c1 x.f8 && holdsB f.d0 f.d1 d))
def fitsB (x : S39) : Bool :=
 if x.f5 < 1 ∨ 9 ≤ x.f5 then false
 else if (formOf x.f5).ct = true then (if x.f9 < 0 ∨ 1048576 < x.f9 then false else (formOf x.f5).allB x (wrap64 (x.f9 - x.f4)))
 else if (formOf x.f5).lk = true then (if x.f9 < 1 ∨ ¬ Int.tmod x.f9 3 = 1 then false else (formOf x.f5).allB x (wrap64 (Int.tdiv x.f9 3)))
 else (formOf x.f5).allB x x.f9
theorem grown_cell {W W' : World} {r : Option Nat} (h : W.grownBy W' r) {p : Addr} (hne : some p.block ≠ r) {v : Value} (hc : W.cell? p = some v) : W'.cell? p = some v := by
 have hlt := World.block_lt_of_cell? W p hc
 have hb := h.block p.block hlt hne
 unfold World.cell? at hc ⊢
 rw [hb]
 exact hc
def fits.T3 : Bool × List (List Nat × List Nat) := (true, [([], []), ([0], [0]), ([1], [1]), ([2], [2]), ([], []), ([4], [4]), ([], []), ([6, 3, 0, 1, 2, 3, 6], [3, 6]), ([5, 7, 0, 1, 2, 3, 4, 5, 6, 7], [5])])
def fits.B3 : List Nat := [0, 1, 3, 7, 0, 16, 0, 79, 255]
theorem fits.tab3 : rtab .any (opsOf Tryd.f45 3) = fits.T3 := by kernel_rfl
theorem fits.bits3 : waitsOk fits.T3.2 fits.B3 = true := by kernel_rfl
set_option maxHeartbeats 8000000 in
set_option maxRecDepth 100000 in
theorem fits.calls (x : S39) (W : World) (hG : GW W) :
 Calls Tryd.prog 45 #[.agg #[.int .i64 x.f0, .int .i64 x.f1, .int .i64 x.f2, .int .i64 x.f3, .int .i64 x.f4, .int .i64 x.f5, .int .i64 x.f6, .int .i64 x.f7, .int .i64 x.f8, .int .i64 x.f9, .int .i64 x.f10]] W fun e w' => e = .returned (.bool (fitsB x)) ∧ Below W.heap.size W w' := by
 have hu := Tryd.underlying39
 obtain ⟨W1, hW1⟩ : ∃ W1, W1 = W.alloc (.cells #[.int .i64 x.f0, .int .i64 x.f1, .int .i64 x.f2, .int .i64 x.f3, .int .i64 x.f4, .int .i64 x.f5, .int .i64 x.f6, .int .i64 x.f7, .int .i64 x.f8, .int .i64 x.f9, .int .i64 x.f10] 39) := ⟨_, rfl⟩
 have hX1 : BlkIs W1 W.heap.size 39 [.int .i64 x.f0, .int .i64 x.f1, .int .i64 x.f2, .int .i64 x.f3, .int .i64 x.f4, .int .i64 x.f5, .int .i64 x.f6, .int .i64 x.f7, .int .i64 x.f8, .int .i64 x.f9, .int .i64 x.f10] := by rw [hW1]; exact heap_alloc_new W _
 have hb1 : Below W.heap.size W W1 := by rw [hW1]; exact below_alloc (Below.refl _ _) _
 have HX1 := As hX1
 have HB1 := As hb1
 have HGG := As (hG.below hb1)
 have HW := As hW1
 have HGL : Aside0 (2 < W.heap.size) := ⟨World.block_lt_of_cell? W _ (hG.forms 0 _ rfl)⟩
 have c5 : W1.cell? ⟨W.heap.size, 5, none⟩ = some (.int .i64 x.f5) := hX1.at_ 5
 clear hX1 hb1 hG hW1
 by_cases k1 : x.f5 < 1
 ·have hF : fitsB x = false := if_pos (.inl k1)
  rw [hF]
  have d1 : decide (x.f5 < 1) = true := decide_eq_true k1
  clear k1 hF
  go_enter Tryd.func45, Tryd.ntmps45
  go_upto_region 1 with (fail)
  rw [← HW.out]
  go_wp2
  go_ret
  exact ⟨rfl, HB1.out⟩
 have d1 : decide (x.f5 < 1) = false := decide_eq_false k1
 by_cases k2 : 9 ≤ x.f5
 ·have hF : fitsB x = false := if_pos (.inr k2)
  rw [hF]
  have d2 : decide (9 ≤ x.f5) = true := decide_eq_true k2
  clear k1 k2 hF
  go_enter Tryd.func45, Tryd.ntmps45
  go_upto_region 1 with (fail)
  rw [← HW.out]
  go_wp2
  go_ret
  exact ⟨rfl, HB1.out⟩
 have d2 : decide (9 ≤ x.f5) = false := decide_eq_false k2
 have HG1 : Aside0 (∀ j, j < 10 → ∀ {v : Value}, (formOf x.f5).enc[j]? = some v → W1.cell? ⟨2, x.f5.toNat * 10 + j, none⟩ = some v) := ⟨fun j hj v hv => HGG.out.form (by omega) (by omega) j hj hv⟩
 have HFE : Aside0 (fitsB x = if (formOf x.f5).ct = true then (if x.f9 < 0 ∨ 1048576 < x.f9 then false else (formOf x.f5).allB x (wrap64 (x.f9 - x.f4))) else if (formOf x.f5).lk = true then (if x.f9 < 1 ∨ ¬ Int.tmod x.f9 3 = 1 then false else (formOf x.f5).allB x (wrap64 (Int.tdiv x.f9 3))) else (formOf x.f5).allB x x.f9) := ⟨if_neg (fun h => h.elim k1 k2)⟩
 have p0 : 0 ≤ x.f5 := by omega
 have p9 : x.f5 < 9 := by omega
 generalize formOf x.f5 = f at HG1 HFE
 obtain ⟨r, hr⟩ : ∃ r, r = fitsB x := ⟨_, rfl⟩
 rw [← hr]
 have HR := As hr
 clear hr
 clear HGG
 go_enter Tryd.func45, Tryd.ntmps45
 go_upto_region 1 with (fail)
 rw [← HW.out]
 go_upto_region 3 with (fail)
 clear k1 k2 d1 d2 c5
 refine start_ (n := 9) (S := fun w' => w'.cell? ⟨W.heap.size, 4, none⟩ = some (.int .i64 x.f4) ∧ w'.cell? ⟨W.heap.size, 5, none⟩ = some (.int .i64 x.f5) ∧ w'.cell? ⟨W.heap.size, 6, none⟩ = some (.int .i64 x.f6) ∧ w'.cell? ⟨W.heap.size, 7, none⟩ = some (.int .i64 x.f7) ∧ w'.cell? ⟨W.heap.size, 8, none⟩ = some (.int .i64 x.f8) ∧ w'.cell? ⟨W.heap.size, 9, none⟩ = some (.int .i64 x.f9) ∧ w'.cell? ⟨2, x.f5.toNat * 10, none⟩ = some (.int .i64 f.a0) ∧ w'.cell? ⟨2, x.f5.toNat * 10 + 1, none⟩ = some (.int .i64 f.a1) ∧ w'.cell? ⟨2, x.f5.toNat * 10 + 2, none⟩ = some (.int .i64 f.b0) ∧ w'.cell? ⟨2, x.f5.toNat * 10 + 3, none⟩ = some (.int .i64 f.b1) ∧ w'.cell? ⟨2, x.f5.toNat * 10 + 4, none⟩ = some (.int .i64 f.c0) ∧ w'.cell? ⟨2, x.f5.toNat * 10 + 5, none⟩ = some (.int .i64 f.c1) ∧ w'.cell? ⟨2, x.f5.toNat * 10 + 6, none⟩ = some (.int .i64 f.d0) ∧ w'.cell? ⟨2, x.f5.toNat * 10 + 7, none⟩ = some (.int .i64 f.d1) ∧ w'.cell? ⟨2, x.f5.toNat * 10 + 8, none⟩ = some (.bool f.ct) ∧ w'.cell? ⟨2, x.f5.toNat * 10 + 9, none⟩ = some (.bool f.lk)) (ds := []) (marksOf 9 0) (by kernel_rfl) rfl rfl ⟨(HX1.out.drew).at_ 4, (HX1.out.drew).at_ 5, (HX1.out.drew).at_ 6, (HX1.out.drew).at_ 7, (HX1.out.drew).at_ 8, (HX1.out.drew).at_ 9, HG1.out 0 (by omega) rfl, HG1.out 1 (by omega) rfl, HG1.out 2 (by omega) rfl, HG1.out 3 (by omega) rfl, HG1.out 4 (by omega) rfl, HG1.out 5 (by omega) rfl, HG1.out 6 (by omega) rfl, HG1.out 7 (by omega) rfl, HG1.out 8 (by omega) rfl, HG1.out 9 (by omega) rfl⟩ (fun hHeld => ?_)
 refine with_tabW fits.tab3 fits.bits3 (fun HT_ HW_ => ?_)
 refine pv_ 0 13 9 1 ?_
 refine ta_ 1 14 9 3 ?_ rfl rfl (take_ofW HT_.out HW_.out (by kernel_rfl)) (fun _ _ _ h => h) (by rfl) ?_ hHeld ?_ ?_ ?_
 rotate_left
 ·rintro w' ⟨s0, s1, s2, s3, s4, s5, s6, s7, s8, s9, s10, s11, s12, s13, s14, s15⟩
  go_simp
  with_reducible rfl
 rotate_left
 ·simp only [Act.put, List.setIfInBounds_toArray, List.set_cons_zero, List.set_cons_succ, q1, q2, q3, i64_w, i32_w]
  rfl
 refine pv_ 2 15 9 7 ?_
 refine ta_ 3 16 9 15 ?_ rfl rfl (take_ofW HT_.out HW_.out (by kernel_rfl)) (fun _ _ _ h => h) (by rfl) ?_ hHeld ?_ ?_ ?_
 rotate_left
 ·rintro w' ⟨s0, s1, s2, s3, s4, s5, s6, s7, s8, s9, s10, s11, s12, s13, s14, s15⟩
  go_simp
  with_reducible rfl
 rotate_left
 ·simp only [Act.put, List.setIfInBounds_toArray, List.set_cons_zero, List.set_cons_succ, q1, q2, q3, i64_w, i32_w]
  rfl
 refine pv_ 4 17 9 31 ?_
 refine ta_ 5 18 9 63 ?_ rfl rfl (take_ofW HT_.out HW_.out (by kernel_rfl)) (fun _ _ _ h => h) (by rfl) ?_ hHeld ?_ ?_ ?_
 rotate_left
 ·rintro w' ⟨s0, s1, s2, s3, s4, s5, s6, s7, s8, s9, s10, s11, s12, s13, s14, s15⟩
  go_simp
  with_reducible rfl
 rotate_left
 ·simp only [Act.put, List.setIfInBounds_toArray, List.set_cons_zero, List.set_cons_succ, q1, q2, q3, i64_w, i32_w]
  rfl
 refine one_ (i := 6) (N := some 3) (marksOf 9 127) rfl rfl (one_of HT_.out (by kernel_rfl)) (by decide) (fun K hK => ?_)
 refine box_step ?hg (N := 3) ?hd (cs := #[.int .i64 0, .int .i64 0, .int .i64 0, .int .i64 0, .int .i64 0, .int .i64 0, .int .i64 0, .int .i64 0, .bool false, .bool false]) (t := 90) ?hr ?_
 case hd => rfl
 case hg => rfl
 case hr => first | (go_simp; done) | (go_simp; rfl)
 intro g hg w2 hbox hb2
 have HX2 := As (HX1.out.drew.below hb2)
 have HG2 : Aside0 (∀ j, j < 10 → ∀ {v : Value}, f.enc[j]? = some v → w2.cell? ⟨2, x.f5.toNat * 10 + j, none⟩ = some v) := ⟨fun j hj v hv => (hb2.cell (World.block_lt_of_cell? _ _ (HG1.out j hj hv))).trans (HG1.out j hj hv)⟩
 have HN2 : Aside0 (BlkIs w2 g 90 [.int .i64 0, .int .i64 0, .int .i64 0, .int .i64 0, .int .i64 0, .int .i64 0, .int .i64 0, .int .i64 0, .bool false, .bool false]) := ⟨hbox⟩
 have HB2 := As (below_step (below_drew1 HB1.out) hb2)
 have hgne : W.heap.size < g := by rw [hg]; exact HX1.out.drew.lt
 have HGN := As hgne
 clear hbox hb2 hgne hg
 refine hK.out _ _ ⟨HX2.out.at_ 4, HX2.out.at_ 5, HX2.out.at_ 6, HX2.out.at_ 7, HX2.out.at_ 8, HX2.out.at_ 9, HG2.out 0 (by omega) rfl, HG2.out 1 (by omega) rfl, HG2.out 2 (by omega) rfl, HG2.out 3 (by omega) rfl, HG2.out 4 (by omega) rfl, HG2.out 5 (by omega) rfl, HG2.out 6 (by omega) rfl, HG2.out 7 (by omega) rfl, HG2.out 8 (by omega) rfl, HG2.out 9 (by omega) rfl⟩ (fun hHeld => ?_)
 refine norm_ (a' := ?_) ?_ ?_
 rotate_left
 ·show Act.put _ (some 3) _ = _
  simp only [Act.put, List.setIfInBounds_toArray, List.set_cons_zero, List.set_cons_succ, q1, q2, q3, i64_w, i32_w]
  rfl
 refine one_ (i := 7) (N := none) (marksOf 9 255) rfl rfl (one_of HT_.out (by kernel_rfl)) (by decide) (fun K hK => ?_)
 refine blk_store_step ?hw ?hN 90 (.tmp 3) (.tmp 16) ?ho HN2.out 0 (.agg #[.int .i64 f.a0, .int .i64 f.a1, .int .i64 f.b0, .int .i64 f.b1, .int .i64 f.c0, .int .i64 f.c1, .int .i64 f.d0, .int .i64 f.d1, .bool f.ct, .bool f.lk]) [.int .i64 f.a0, .int .i64 f.a1, .int .i64 f.b0, .int .i64 f.b1, .int .i64 f.c0, .int .i64 f.c1, .int .i64 f.d0, .int .i64 f.d1, .bool f.ct, .bool f.lk] [.int .i64 f.a0, .int .i64 f.a1, .int .i64 f.b0, .int .i64 f.b1, .int .i64 f.c0, .int .i64 f.c1, .int .i64 f.d0, .int .i64 f.d1, .bool f.ct, .bool f.lk] ?ha ?hx ?hu ?ht ?hf ?h1 ?hE ?_
 case hw => rfl
 case hN => rfl
 case ho => rfl
 case ha => exact ⟨_, rfl, rfl⟩
 case hx => rfl
 case hu => rfl
 case ht => kernel_rfl
 case hf => exact Nat.le_of_ble_eq_true rfl
 case h1 => intro v hv; simp only [List.mem_cons, List.not_mem_nil, or_false] at hv; rcases hv with rfl | rfl | rfl | rfl | rfl | rfl | rfl | rfl | rfl | rfl <;> rfl
 case hE => rfl
 intro w3 HN3 hg3
 have HX3 : Aside0 (BlkIs w3 W.heap.size 39 [.int .i64 x.f0, .int .i64 x.f1, .int .i64 x.f2, .int .i64 x.f3, .int .i64 x.f4, .int .i64 x.f5, .int .i64 x.f6, .int .i64 x.f7, .int .i64 x.f8, .int .i64 x.f9, .int .i64 x.f10]) := ⟨HX2.out.grown hg3.out (fun e => by injection e with e; have := HGN.out; omega)⟩
 have HG3 : Aside0 (∀ j, j < 10 → ∀ {v : Value}, f.enc[j]? = some v → w3.cell? ⟨2, x.f5.toNat * 10 + j, none⟩ = some v) := ⟨fun j hj v hv => (grown_cell hg3.out (by show some (2 : Nat) ≠ some g; intro e; injection e with e; have := HGN.out; have := HGL.out; omega) (HG2.out j hj hv))⟩
 have HB3 : Aside0 (Below W.heap.size W w3) := ⟨pw_below_grown HB2.out _ HB2.out.size hg3.out (by intro k hk; injection hk with hk; have := HGN.out; omega)⟩
 clear hg3
 refine hK.out _ _ ⟨HX3.out.at_ 4, HX3.out.at_ 5, HX3.out.at_ 6, HX3.out.at_ 7, HX3.out.at_ 8, HX3.out.at_ 9, HG3.out 0 (by omega) rfl, HG3.out 1 (by omega) rfl, HG3.out 2 (by omega) rfl, HG3.out 3 (by omega) rfl, HG3.out 4 (by omega) rfl, HG3.out 5 (by omega) rfl, HG3.out 6 (by omega) rfl, HG3.out 7 (by omega) rfl, HG3.out 8 (by omega) rfl, HG3.out 9 (by omega) rfl⟩ (fun hHeld => ?_)
 refine pv_ 8 4 9 511 ?_
 refine done_ (done_of HT_.out (by kernel_rfl)) ?_
 obtain ⟨_, _, _, _, x4, x5, x6, x7, x8, x9, _⟩ := cs11 HX3.out
 obtain ⟨y0, y1, y2, y3, y4, y5, y6, y7, y8, y9⟩ := cs10 HN3.out
 clear HG1 HG3 HN2 HX2 HG2 HB2
 cases hct : f.ct with
 | true =>
  rw [hct] at y8
  have HCT := As hct
  clear hct
  by_cases e1 : x.f9 < 0
  ·have HE1 := As e1
   have d3 : decide (x.f9 < 0) = true := decide_eq_true e1
   clear e1
   have hF : fitsB x = false := by rw [HFE.out, if_pos HCT.out, if_pos (.inl HE1.out)]
   have HFF := As hF
   clear hF
   go_wp2
   go_ret
   exact ⟨by (first | (rw [HR.out, HFF.out]; done) | simp [HR.out, HFF.out]), HB3.out⟩
  ·have d3 : decide (x.f9 < 0) = false := decide_eq_false e1
   by_cases e2 : 1048576 < x.f9
   ·have HE2 := As e2
    have d4 : decide (1048576 < x.f9) = true := decide_eq_true e2
    clear e1 e2
    have hF : fitsB x = false := by rw [HFE.out, if_pos HCT.out, if_pos (.inr HE2.out)]
    have HFF := As hF
    clear hF
    go_wp2
    go_ret
    exact ⟨by (first | (rw [HR.out, HFF.out]; done) | simp [HR.out, HFF.out]), HB3.out⟩
   ·have d4 : decide (1048576 < x.f9) = false := decide_eq_false e2
    have HE : Aside0 (¬ (x.f9 < 0 ∨ 1048576 < x.f9)) := ⟨fun h => h.elim e1 e2⟩
    clear e1 e2
    go_upto_region 12 with (fail)
    (try simp only [i64_w])
    cases hb_0 : holdsB f.a0 f.a1 (x.f6) with
    | false =>
     have HB0_ := As hb_0
     clear hb_0
     have hF : fitsB x = false := by
      rw [HFE.out, if_pos HCT.out, if_neg HE.out]
      unfold Fm.allB
      rw [HB0_.out]
      rfl
     have HFF := As hF
     clear hF
     go_wp2_with (first | (go_at_call 44; (with_reducible refine (lim_holds.calls f.a0 f.a1 (x.f6) false _ (by rw [holds_is]; exact congrArg some HB0_.out)).mono ?_); rintro e w4 ⟨rfl, hb4⟩; have HX4 := As (HX3.out.below hb4); have HN4 := As (HN3.out.below hb4); have HB4 := As (below_step HB3.out hb4); clear hb4; obtain ⟨_, _, _, _, _, _, _, x7_4, x8_4, x9_4, _⟩ := cs11 HX4.out; obtain ⟨_, _, y2_4, y3_4, y4_4, y5_4, y6_4, _, _, _⟩ := cs10 HN4.out; have y7_4 : w4.cell? ⟨g, 7, none⟩ = some (.int .i64 f.d1) := HN4.out.at_ 7))
     go_ret
     exact ⟨by (first | (rw [HR.out, HFF.out]; done) | simp [HR.out, HFF.out]), HB4.out⟩
    | true =>
     have HB0_ := As hb_0
     clear hb_0
     cases hb_1 : holdsB f.b0 f.b1 (x.f7) with
     | false =>
      have HB1_ := As hb_1
      clear hb_1
      have hF : fitsB x = false := by
       rw [HFE.out, if_pos HCT.out, if_neg HE.out]
       unfold Fm.allB
       rw [HB0_.out, HB1_.out]
       rfl
      have HFF := As hF
      clear hF
      go_wp2_with (first | (go_at_call 44; (with_reducible refine (lim_holds.calls f.a0 f.a1 (x.f6) true _ (by rw [holds_is]; exact congrArg some HB0_.out)).mono ?_); rintro e w4 ⟨rfl, hb4⟩; have HX4 := As (HX3.out.below hb4); have HN4 := As (HN3.out.below hb4); have HB4 := As (below_step HB3.out hb4); clear hb4; obtain ⟨_, _, _, _, _, _, _, x7_4, x8_4, x9_4, _⟩ := cs11 HX4.out; obtain ⟨_, _, y2_4, y3_4, y4_4, y5_4, y6_4, _, _, _⟩ := cs10 HN4.out; have y7_4 : w4.cell? ⟨g, 7, none⟩ = some (.int .i64 f.d1) := HN4.out.at_ 7) | (go_at_call 44; (with_reducible refine (lim_holds.calls f.b0 f.b1 (x.f7) false _ (by rw [holds_is]; exact congrArg some HB1_.out)).mono ?_); rintro e w5 ⟨rfl, hb5⟩; have HX5 := As (HX4.out.below hb5); have HN5 := As (HN4.out.below hb5); have HB5 := As (below_step HB4.out hb5); clear hb5; obtain ⟨_, _, _, _, _, _, _, x7_5, x8_5, x9_5, _⟩ := cs11 HX5.out; obtain ⟨_, _, y2_5, y3_5, y4_5, y5_5, y6_5, _, _, _⟩ := cs10 HN5.out; have y7_5 : w5.cell? ⟨g, 7, none⟩ = some (.int .i64 f.d1) := HN5.out.at_ 7))
      go_ret
      exact ⟨by (first | (rw [HR.out, HFF.out]; done) | simp [HR.out, HFF.out]), HB5.out⟩
     | true =>
      have HB1_ := As hb_1
      clear hb_1
      cases hb_2 : holdsB f.c0 f.c1 (x.f8) with
      | false =>
       have HB2_ := As hb_2
       clear hb_2
       have hF : fitsB x = false := by
        rw [HFE.out, if_pos HCT.out, if_neg HE.out]
        unfold Fm.allB
        rw [HB0_.out, HB1_.out, HB2_.out]
        rfl
       have HFF := As hF
       clear hF
       go_wp2_with (first | (go_at_call 44; (with_reducible refine (lim_holds.calls f.a0 f.a1 (x.f6) true _ (by rw [holds_is]; exact congrArg some HB0_.out)).mono ?_); rintro e w4 ⟨rfl, hb4⟩; have HX4 := As (HX3.out.below hb4); have HN4 := As (HN3.out.below hb4); have HB4 := As (below_step HB3.out hb4); clear hb4; obtain ⟨_, _, _, _, _, _, _, x7_4, x8_4, x9_4, _⟩ := cs11 HX4.out; obtain ⟨_, _, y2_4, y3_4, y4_4, y5_4, y6_4, _, _, _⟩ := cs10 HN4.out; have y7_4 : w4.cell? ⟨g, 7, none⟩ = some (.int .i64 f.d1) := HN4.out.at_ 7) | (go_at_call 44; (with_reducible refine (lim_holds.calls f.b0 f.b1 (x.f7) true _ (by rw [holds_is]; exact congrArg some HB1_.out)).mono ?_); rintro e w5 ⟨rfl, hb5⟩; have HX5 := As (HX4.out.below hb5); have HN5 := As (HN4.out.below hb5); have HB5 := As (below_step HB4.out hb5); clear hb5; obtain ⟨_, _, _, _, _, _, _, x7_5, x8_5, x9_5, _⟩ := cs11 HX5.out; obtain ⟨_, _, y2_5, y3_5, y4_5, y5_5, y6_5, _, _, _⟩ := cs10 HN5.out; have y7_5 : w5.cell? ⟨g, 7, none⟩ = some (.int .i64 f.d1) := HN5.out.at_ 7) | (go_at_call 44; (with_reducible refine (lim_holds.calls f.c0 f.c1 (x.f8) false _ (by rw [holds_is]; exact congrArg some HB2_.out)).mono ?_); rintro e w6 ⟨rfl, hb6⟩; have HX6 := As (HX5.out.below hb6); have HN6 := As (HN5.out.below hb6); have HB6 := As (below_step HB5.out hb6); clear hb6; obtain ⟨_, _, _, _, _, _, _, x7_6, x8_6, x9_6, _⟩ := cs11 HX6.out; obtain ⟨_, _, y2_6, y3_6, y4_6, y5_6, y6_6, _, _, _⟩ := cs10 HN6.out; have y7_6 : w6.cell? ⟨g, 7, none⟩ = some (.int .i64 f.d1) := HN6.out.at_ 7))
       go_ret
       exact ⟨by (first | (rw [HR.out, HFF.out]; done) | simp [HR.out, HFF.out]), HB6.out⟩
      | true =>
       have HB2_ := As hb_2
       clear hb_2
       cases hb_3 : holdsB f.d0 f.d1 (wrap64 (x.f9 - x.f4)) with
       | false =>
        have HB3_ := As hb_3
        clear hb_3
        have hF : fitsB x = false := by
         rw [HFE.out, if_pos HCT.out, if_neg HE.out]
         unfold Fm.allB
         rw [HB0_.out, HB1_.out, HB2_.out, HB3_.out]
         rfl
        have HFF := As hF
        clear hF
        go_wp2_with (first | (go_at_call 44; (with_reducible refine (lim_holds.calls f.a0 f.a1 (x.f6) true _ (by rw [holds_is]; exact congrArg some HB0_.out)).mono ?_); rintro e w4 ⟨rfl, hb4⟩; have HX4 := As (HX3.out.below hb4); have HN4 := As (HN3.out.below hb4); have HB4 := As (below_step HB3.out hb4); clear hb4; obtain ⟨_, _, _, _, _, _, _, x7_4, x8_4, x9_4, _⟩ := cs11 HX4.out; obtain ⟨_, _, y2_4, y3_4, y4_4, y5_4, y6_4, _, _, _⟩ := cs10 HN4.out; have y7_4 : w4.cell? ⟨g, 7, none⟩ = some (.int .i64 f.d1) := HN4.out.at_ 7) | (go_at_call 44; (with_reducible refine (lim_holds.calls f.b0 f.b1 (x.f7) true _ (by rw [holds_is]; exact congrArg some HB1_.out)).mono ?_); rintro e w5 ⟨rfl, hb5⟩; have HX5 := As (HX4.out.below hb5); have HN5 := As (HN4.out.below hb5); have HB5 := As (below_step HB4.out hb5); clear hb5; obtain ⟨_, _, _, _, _, _, _, x7_5, x8_5, x9_5, _⟩ := cs11 HX5.out; obtain ⟨_, _, y2_5, y3_5, y4_5, y5_5, y6_5, _, _, _⟩ := cs10 HN5.out; have y7_5 : w5.cell? ⟨g, 7, none⟩ = some (.int .i64 f.d1) := HN5.out.at_ 7) | (go_at_call 44; (with_reducible refine (lim_holds.calls f.c0 f.c1 (x.f8) true _ (by rw [holds_is]; exact congrArg some HB2_.out)).mono ?_); rintro e w6 ⟨rfl, hb6⟩; have HX6 := As (HX5.out.below hb6); have HN6 := As (HN5.out.below hb6); have HB6 := As (below_step HB5.out hb6); clear hb6; obtain ⟨_, _, _, _, _, _, _, x7_6, x8_6, x9_6, _⟩ := cs11 HX6.out; obtain ⟨_, _, y2_6, y3_6, y4_6, y5_6, y6_6, _, _, _⟩ := cs10 HN6.out; have y7_6 : w6.cell? ⟨g, 7, none⟩ = some (.int .i64 f.d1) := HN6.out.at_ 7) | (go_at_call 44; (with_reducible refine (lim_holds.calls f.d0 f.d1 (wrap64 (x.f9 - x.f4)) false _ (by rw [holds_is]; exact congrArg some HB3_.out)).mono ?_); rintro e w7 ⟨rfl, hb7⟩; have HX7 := As (HX6.out.below hb7); have HN7 := As (HN6.out.below hb7); have HB7 := As (below_step HB6.out hb7); clear hb7; obtain ⟨_, _, _, _, _, _, _, x7_7, x8_7, x9_7, _⟩ := cs11 HX7.out; obtain ⟨_, _, y2_7, y3_7, y4_7, y5_7, y6_7, _, _, _⟩ := cs10 HN7.out; have y7_7 : w7.cell? ⟨g, 7, none⟩ = some (.int .i64 f.d1) := HN7.out.at_ 7))
        go_ret
        exact ⟨by (first | (rw [HR.out, HFF.out]; done) | simp [HR.out, HFF.out]), HB7.out⟩
       | true =>
        have HB3_ := As hb_3
        clear hb_3
        have hF : fitsB x = true := by
         rw [HFE.out, if_pos HCT.out, if_neg HE.out]
         unfold Fm.allB
         rw [HB0_.out, HB1_.out, HB2_.out, HB3_.out]
         rfl
        have HFF := As hF
        clear hF
        go_wp2_with (first | (go_at_call 44; (with_reducible refine (lim_holds.calls f.a0 f.a1 (x.f6) true _ (by rw [holds_is]; exact congrArg some HB0_.out)).mono ?_); rintro e w4 ⟨rfl, hb4⟩; have HX4 := As (HX3.out.below hb4); have HN4 := As (HN3.out.below hb4); have HB4 := As (below_step HB3.out hb4); clear hb4; obtain ⟨_, _, _, _, _, _, _, x7_4, x8_4, x9_4, _⟩ := cs11 HX4.out; obtain ⟨_, _, y2_4, y3_4, y4_4, y5_4, y6_4, _, _, _⟩ := cs10 HN4.out; have y7_4 : w4.cell? ⟨g, 7, none⟩ = some (.int .i64 f.d1) := HN4.out.at_ 7) | (go_at_call 44; (with_reducible refine (lim_holds.calls f.b0 f.b1 (x.f7) true _ (by rw [holds_is]; exact congrArg some HB1_.out)).mono ?_); rintro e w5 ⟨rfl, hb5⟩; have HX5 := As (HX4.out.below hb5); have HN5 := As (HN4.out.below hb5); have HB5 := As (below_step HB4.out hb5); clear hb5; obtain ⟨_, _, _, _, _, _, _, x7_5, x8_5, x9_5, _⟩ := cs11 HX5.out; obtain ⟨_, _, y2_5, y3_5, y4_5, y5_5, y6_5, _, _, _⟩ := cs10 HN5.out; have y7_5 : w5.cell? ⟨g, 7, none⟩ = some (.int .i64 f.d1) := HN5.out.at_ 7) | (go_at_call 44; (with_reducible refine (lim_holds.calls f.c0 f.c1 (x.f8) true _ (by rw [holds_is]; exact congrArg some HB2_.out)).mono ?_); rintro e w6 ⟨rfl, hb6⟩; have HX6 := As (HX5.out.below hb6); have HN6 := As (HN5.out.below hb6); have HB6 := As (below_step HB5.out hb6); clear hb6; obtain ⟨_, _, _, _, _, _, _, x7_6, x8_6, x9_6, _⟩ := cs11 HX6.out; obtain ⟨_, _, y2_6, y3_6, y4_6, y5_6, y6_6, _, _, _⟩ := cs10 HN6.out; have y7_6 : w6.cell? ⟨g, 7, none⟩ = some (.int .i64 f.d1) := HN6.out.at_ 7) | (go_at_call 44; (with_reducible refine (lim_holds.calls f.d0 f.d1 (wrap64 (x.f9 - x.f4)) true _ (by rw [holds_is]; exact congrArg some HB3_.out)).mono ?_); rintro e w7 ⟨rfl, hb7⟩; have HX7 := As (HX6.out.below hb7); have HN7 := As (HN6.out.below hb7); have HB7 := As (below_step HB6.out hb7); clear hb7; obtain ⟨_, _, _, _, _, _, _, x7_7, x8_7, x9_7, _⟩ := cs11 HX7.out; obtain ⟨_, _, y2_7, y3_7, y4_7, y5_7, y6_7, _, _, _⟩ := cs10 HN7.out; have y7_7 : w7.cell? ⟨g, 7, none⟩ = some (.int .i64 f.d1) := HN7.out.at_ 7))
        go_ret
        exact ⟨by (first | (rw [HR.out, HFF.out]; done) | simp [HR.out, HFF.out]), HB7.out⟩
 | false =>
  rw [hct] at y8
  have HCT : Aside0 (¬ f.ct = true) := ⟨by rw [hct]; decide⟩
  clear hct
  cases hlk : f.lk with
  | true =>
   rw [hlk] at y9
   have HLK := As hlk
   clear hlk
   by_cases e1 : x.f9 < 1
   ·have HE1 := As e1
    have d3 : decide (x.f9 < 1) = true := decide_eq_true e1
    clear e1
    have hF : fitsB x = false := by rw [HFE.out, if_neg HCT.out, if_pos HLK.out, if_pos (.inl HE1.out)]
    have HFF := As hF
    clear hF
    go_wp2
    go_ret
    exact ⟨by (first | (rw [HR.out, HFF.out]; done) | simp [HR.out, HFF.out]), HB3.out⟩
   ·have d3 : decide (x.f9 < 1) = false := decide_eq_false e1
    by_cases e2 : Int.tmod x.f9 3 = 1
    ·have d4 : (Int.tmod x.f9 3 == 1) = true := beq_iff_eq.mpr e2
     have d5 : (Int.tmod x.f9 3 != 1) = false := bne_eq_false_iff_eq.mpr e2
     have HE : Aside0 (¬ (x.f9 < 1 ∨ ¬ Int.tmod x.f9 3 = 1)) := ⟨fun h => h.elim e1 (fun h => h e2)⟩
     clear e1 e2
     go_upto_region 12 with (fail)
     (try simp only [i64_w])
     cases hb_0 : holdsB f.a0 f.a1 (x.f6) with
     | false =>
      have HB0_ := As hb_0
      clear hb_0
      have hF : fitsB x = false := by
       rw [HFE.out, if_neg HCT.out, if_pos HLK.out, if_neg HE.out]
       unfold Fm.allB
       rw [HB0_.out]
       rfl
      have HFF := As hF
      clear hF
      go_wp2_with (first | (go_at_call 44; (with_reducible refine (lim_holds.calls f.a0 f.a1 (x.f6) false _ (by rw [holds_is]; exact congrArg some HB0_.out)).mono ?_); rintro e w4 ⟨rfl, hb4⟩; have HX4 := As (HX3.out.below hb4); have HN4 := As (HN3.out.below hb4); have HB4 := As (below_step HB3.out hb4); clear hb4; obtain ⟨_, _, _, _, _, _, _, x7_4, x8_4, x9_4, _⟩ := cs11 HX4.out; obtain ⟨_, _, y2_4, y3_4, y4_4, y5_4, y6_4, _, _, _⟩ := cs10 HN4.out; have y7_4 : w4.cell? ⟨g, 7, none⟩ = some (.int .i64 f.d1) := HN4.out.at_ 7))
      go_ret
      exact ⟨by (first | (rw [HR.out, HFF.out]; done) | simp [HR.out, HFF.out]), HB4.out⟩
     | true =>
      have HB0_ := As hb_0
      clear hb_0
      cases hb_1 : holdsB f.b0 f.b1 (x.f7) with
      | false =>
       have HB1_ := As hb_1
       clear hb_1
       have hF : fitsB x = false := by
        rw [HFE.out, if_neg HCT.out, if_pos HLK.out, if_neg HE.out]
        unfold Fm.allB
        rw [HB0_.out, HB1_.out]
        rfl
       have HFF := As hF
       clear hF
       go_wp2_with (first | (go_at_call 44; (with_reducible refine (lim_holds.calls f.a0 f.a1 (x.f6) true _ (by rw [holds_is]; exact congrArg some HB0_.out)).mono ?_); rintro e w4 ⟨rfl, hb4⟩; have HX4 := As (HX3.out.below hb4); have HN4 := As (HN3.out.below hb4); have HB4 := As (below_step HB3.out hb4); clear hb4; obtain ⟨_, _, _, _, _, _, _, x7_4, x8_4, x9_4, _⟩ := cs11 HX4.out; obtain ⟨_, _, y2_4, y3_4, y4_4, y5_4, y6_4, _, _, _⟩ := cs10 HN4.out; have y7_4 : w4.cell? ⟨g, 7, none⟩ = some (.int .i64 f.d1) := HN4.out.at_ 7) | (go_at_call 44; (with_reducible refine (lim_holds.calls f.b0 f.b1 (x.f7) false _ (by rw [holds_is]; exact congrArg some HB1_.out)).mono ?_); rintro e w5 ⟨rfl, hb5⟩; have HX5 := As (HX4.out.below hb5); have HN5 := As (HN4.out.below hb5); have HB5 := As (below_step HB4.out hb5); clear hb5; obtain ⟨_, _, _, _, _, _, _, x7_5, x8_5, x9_5, _⟩ := cs11 HX5.out; obtain ⟨_, _, y2_5, y3_5, y4_5, y5_5, y6_5, _, _, _⟩ := cs10 HN5.out; have y7_5 : w5.cell? ⟨g, 7, none⟩ = some (.int .i64 f.d1) := HN5.out.at_ 7))
       go_ret
       exact ⟨by (first | (rw [HR.out, HFF.out]; done) | simp [HR.out, HFF.out]), HB5.out⟩
      | true =>
       have HB1_ := As hb_1
       clear hb_1
       cases hb_2 : holdsB f.c0 f.c1 (x.f8) with
       | false =>
        have HB2_ := As hb_2
        clear hb_2
        have hF : fitsB x = false := by
         rw [HFE.out, if_neg HCT.out, if_pos HLK.out, if_neg HE.out]
         unfold Fm.allB
         rw [HB0_.out, HB1_.out, HB2_.out]
         rfl
        have HFF := As hF
        clear hF
        go_wp2_with (first | (go_at_call 44; (with_reducible refine (lim_holds.calls f.a0 f.a1 (x.f6) true _ (by rw [holds_is]; exact congrArg some HB0_.out)).mono ?_); rintro e w4 ⟨rfl, hb4⟩; have HX4 := As (HX3.out.below hb4); have HN4 := As (HN3.out.below hb4); have HB4 := As (below_step HB3.out hb4); clear hb4; obtain ⟨_, _, _, _, _, _, _, x7_4, x8_4, x9_4, _⟩ := cs11 HX4.out; obtain ⟨_, _, y2_4, y3_4, y4_4, y5_4, y6_4, _, _, _⟩ := cs10 HN4.out; have y7_4 : w4.cell? ⟨g, 7, none⟩ = some (.int .i64 f.d1) := HN4.out.at_ 7) | (go_at_call 44; (with_reducible refine (lim_holds.calls f.b0 f.b1 (x.f7) true _ (by rw [holds_is]; exact congrArg some HB1_.out)).mono ?_); rintro e w5 ⟨rfl, hb5⟩; have HX5 := As (HX4.out.below hb5); have HN5 := As (HN4.out.below hb5); have HB5 := As (below_step HB4.out hb5); clear hb5; obtain ⟨_, _, _, _, _, _, _, x7_5, x8_5, x9_5, _⟩ := cs11 HX5.out; obtain ⟨_, _, y2_5, y3_5, y4_5, y5_5, y6_5, _, _, _⟩ := cs10 HN5.out; have y7_5 : w5.cell? ⟨g, 7, none⟩ = some (.int .i64 f.d1) := HN5.out.at_ 7) | (go_at_call 44; (with_reducible refine (lim_holds.calls f.c0 f.c1 (x.f8) false _ (by rw [holds_is]; exact congrArg some HB2_.out)).mono ?_); rintro e w6 ⟨rfl, hb6⟩; have HX6 := As (HX5.out.below hb6); have HN6 := As (HN5.out.below hb6); have HB6 := As (below_step HB5.out hb6); clear hb6; obtain ⟨_, _, _, _, _, _, _, x7_6, x8_6, x9_6, _⟩ := cs11 HX6.out; obtain ⟨_, _, y2_6, y3_6, y4_6, y5_6, y6_6, _, _, _⟩ := cs10 HN6.out; have y7_6 : w6.cell? ⟨g, 7, none⟩ = some (.int .i64 f.d1) := HN6.out.at_ 7))
        go_ret
        exact ⟨by (first | (rw [HR.out, HFF.out]; done) | simp [HR.out, HFF.out]), HB6.out⟩
       | true =>
        have HB2_ := As hb_2
        clear hb_2
        cases hb_3 : holdsB f.d0 f.d1 (wrap64 (Int.tdiv x.f9 3)) with
        | false =>
         have HB3_ := As hb_3
         clear hb_3
         have hF : fitsB x = false := by
          rw [HFE.out, if_neg HCT.out, if_pos HLK.out, if_neg HE.out]
          unfold Fm.allB
          rw [HB0_.out, HB1_.out, HB2_.out, HB3_.out]
          rfl
         have HFF := As hF
         clear hF
         go_wp2_with (first | (go_at_call 44; (with_reducible refine (lim_holds.calls f.a0 f.a1 (x.f6) true _ (by rw [holds_is]; exact congrArg some HB0_.out)).mono ?_); rintro e w4 ⟨rfl, hb4⟩; have HX4 := As (HX3.out.below hb4); have HN4 := As (HN3.out.below hb4); have HB4 := As (below_step HB3.out hb4); clear hb4; obtain ⟨_, _, _, _, _, _, _, x7_4, x8_4, x9_4, _⟩ := cs11 HX4.out; obtain ⟨_, _, y2_4, y3_4, y4_4, y5_4, y6_4, _, _, _⟩ := cs10 HN4.out; have y7_4 : w4.cell? ⟨g, 7, none⟩ = some (.int .i64 f.d1) := HN4.out.at_ 7) | (go_at_call 44; (with_reducible refine (lim_holds.calls f.b0 f.b1 (x.f7) true _ (by rw [holds_is]; exact congrArg some HB1_.out)).mono ?_); rintro e w5 ⟨rfl, hb5⟩; have HX5 := As (HX4.out.below hb5); have HN5 := As (HN4.out.below hb5); have HB5 := As (below_step HB4.out hb5); clear hb5; obtain ⟨_, _, _, _, _, _, _, x7_5, x8_5, x9_5, _⟩ := cs11 HX5.out; obtain ⟨_, _, y2_5, y3_5, y4_5, y5_5, y6_5, _, _, _⟩ := cs10 HN5.out; have y7_5 : w5.cell? ⟨g, 7, none⟩ = some (.int .i64 f.d1) := HN5.out.at_ 7) | (go_at_call 44; (with_reducible refine (lim_holds.calls f.c0 f.c1 (x.f8) true _ (by rw [holds_is]; exact congrArg some HB2_.out)).mono ?_); rintro e w6 ⟨rfl, hb6⟩; have HX6 := As (HX5.out.below hb6); have HN6 := As (HN5.out.below hb6); have HB6 := As (below_step HB5.out hb6); clear hb6; obtain ⟨_, _, _, _, _, _, _, x7_6, x8_6, x9_6, _⟩ := cs11 HX6.out; obtain ⟨_, _, y2_6, y3_6, y4_6, y5_6, y6_6, _, _, _⟩ := cs10 HN6.out; have y7_6 : w6.cell? ⟨g, 7, none⟩ = some (.int .i64 f.d1) := HN6.out.at_ 7) | (go_at_call 44; (with_reducible refine (lim_holds.calls f.d0 f.d1 (wrap64 (Int.tdiv x.f9 3)) false _ (by rw [holds_is]; exact congrArg some HB3_.out)).mono ?_); rintro e w7 ⟨rfl, hb7⟩; have HX7 := As (HX6.out.below hb7); have HN7 := As (HN6.out.below hb7); have HB7 := As (below_step HB6.out hb7); clear hb7; obtain ⟨_, _, _, _, _, _, _, x7_7, x8_7, x9_7, _⟩ := cs11 HX7.out; obtain ⟨_, _, y2_7, y3_7, y4_7, y5_7, y6_7, _, _, _⟩ := cs10 HN7.out; have y7_7 : w7.cell? ⟨g, 7, none⟩ = some (.int .i64 f.d1) := HN7.out.at_ 7))
         go_ret
         exact ⟨by (first | (rw [HR.out, HFF.out]; done) | simp [HR.out, HFF.out]), HB7.out⟩
        | true =>
         have HB3_ := As hb_3
         clear hb_3
         have hF : fitsB x = true := by
          rw [HFE.out, if_neg HCT.out, if_pos HLK.out, if_neg HE.out]
          unfold Fm.allB
          rw [HB0_.out, HB1_.out, HB2_.out, HB3_.out]
          rfl
         have HFF := As hF
         clear hF
         go_wp2_with (first | (go_at_call 44; (with_reducible refine (lim_holds.calls f.a0 f.a1 (x.f6) true _ (by rw [holds_is]; exact congrArg some HB0_.out)).mono ?_); rintro e w4 ⟨rfl, hb4⟩; have HX4 := As (HX3.out.below hb4); have HN4 := As (HN3.out.below hb4); have HB4 := As (below_step HB3.out hb4); clear hb4; obtain ⟨_, _, _, _, _, _, _, x7_4, x8_4, x9_4, _⟩ := cs11 HX4.out; obtain ⟨_, _, y2_4, y3_4, y4_4, y5_4, y6_4, _, _, _⟩ := cs10 HN4.out; have y7_4 : w4.cell? ⟨g, 7, none⟩ = some (.int .i64 f.d1) := HN4.out.at_ 7) | (go_at_call 44; (with_reducible refine (lim_holds.calls f.b0 f.b1 (x.f7) true _ (by rw [holds_is]; exact congrArg some HB1_.out)).mono ?_); rintro e w5 ⟨rfl, hb5⟩; have HX5 := As (HX4.out.below hb5); have HN5 := As (HN4.out.below hb5); have HB5 := As (below_step HB4.out hb5); clear hb5; obtain ⟨_, _, _, _, _, _, _, x7_5, x8_5, x9_5, _⟩ := cs11 HX5.out; obtain ⟨_, _, y2_5, y3_5, y4_5, y5_5, y6_5, _, _, _⟩ := cs10 HN5.out; have y7_5 : w5.cell? ⟨g, 7, none⟩ = some (.int .i64 f.d1) := HN5.out.at_ 7) | (go_at_call 44; (with_reducible refine (lim_holds.calls f.c0 f.c1 (x.f8) true _ (by rw [holds_is]; exact congrArg some HB2_.out)).mono ?_); rintro e w6 ⟨rfl, hb6⟩; have HX6 := As (HX5.out.below hb6); have HN6 := As (HN5.out.below hb6); have HB6 := As (below_step HB5.out hb6); clear hb6; obtain ⟨_, _, _, _, _, _, _, x7_6, x8_6, x9_6, _⟩ := cs11 HX6.out; obtain ⟨_, _, y2_6, y3_6, y4_6, y5_6, y6_6, _, _, _⟩ := cs10 HN6.out; have y7_6 : w6.cell? ⟨g, 7, none⟩ = some (.int .i64 f.d1) := HN6.out.at_ 7) | (go_at_call 44; (with_reducible refine (lim_holds.calls f.d0 f.d1 (wrap64 (Int.tdiv x.f9 3)) true _ (by rw [holds_is]; exact congrArg some HB3_.out)).mono ?_); rintro e w7 ⟨rfl, hb7⟩; have HX7 := As (HX6.out.below hb7); have HN7 := As (HN6.out.below hb7); have HB7 := As (below_step HB6.out hb7); clear hb7; obtain ⟨_, _, _, _, _, _, _, x7_7, x8_7, x9_7, _⟩ := cs11 HX7.out; obtain ⟨_, _, y2_7, y3_7, y4_7, y5_7, y6_7, _, _, _⟩ := cs10 HN7.out; have y7_7 : w7.cell? ⟨g, 7, none⟩ = some (.int .i64 f.d1) := HN7.out.at_ 7))
         go_ret
         exact ⟨by (first | (rw [HR.out, HFF.out]; done) | simp [HR.out, HFF.out]), HB7.out⟩
    ·have d4 : (Int.tmod x.f9 3 == 1) = false := beq_eq_false_iff_ne.mpr e2
     have d5 : (Int.tmod x.f9 3 != 1) = true := bne_iff_ne.mpr e2
     have HE2 := As e2
     clear e1 e2
     have hF : fitsB x = false := by rw [HFE.out, if_neg HCT.out, if_pos HLK.out, if_pos (.inr HE2.out)]
     have HFF := As hF
     clear hF
     go_wp2
     go_ret
     exact ⟨by (first | (rw [HR.out, HFF.out]; done) | simp [HR.out, HFF.out]), HB3.out⟩
  | false =>
   rw [hlk] at y9
   have HLK : Aside0 (¬ f.lk = true) := ⟨by rw [hlk]; decide⟩
   clear hlk
   go_upto_region 12 with (fail)
   (try simp only [i64_w])
   cases hb_0 : holdsB f.a0 f.a1 (x.f6) with
   | false =>
    have HB0_ := As hb_0
    clear hb_0
    have hF : fitsB x = false := by
     rw [HFE.out, if_neg HCT.out, if_neg HLK.out]
     unfold Fm.allB
     rw [HB0_.out]
     rfl
    have HFF := As hF
    clear hF
    go_wp2_with (first | (go_at_call 44; (with_reducible refine (lim_holds.calls f.a0 f.a1 (x.f6) false _ (by rw [holds_is]; exact congrArg some HB0_.out)).mono ?_); rintro e w4 ⟨rfl, hb4⟩; have HX4 := As (HX3.out.below hb4); have HN4 := As (HN3.out.below hb4); have HB4 := As (below_step HB3.out hb4); clear hb4; obtain ⟨_, _, _, _, _, _, _, x7_4, x8_4, x9_4, _⟩ := cs11 HX4.out; obtain ⟨_, _, y2_4, y3_4, y4_4, y5_4, y6_4, _, _, _⟩ := cs10 HN4.out; have y7_4 : w4.cell? ⟨g, 7, none⟩ = some (.int .i64 f.d1) := HN4.out.at_ 7))
    go_ret
    exact ⟨by (first | (rw [HR.out, HFF.out]; done) | simp [HR.out, HFF.out]), HB4.out⟩
   | true =>
    have HB0_ := As hb_0
    clear hb_0
    cases hb_1 : holdsB f.b0 f.b1 (x.f7) with
    | false =>
     have HB1_ := As hb_1
     clear hb_1
     have hF : fitsB x = false := by
      rw [HFE.out, if_neg HCT.out, if_neg HLK.out]
      unfold Fm.allB
      rw [HB0_.out, HB1_.out]
      rfl
     have HFF := As hF
     clear hF
     go_wp2_with (first | (go_at_call 44; (with_reducible refine (lim_holds.calls f.a0 f.a1 (x.f6) true _ (by rw [holds_is]; exact congrArg some HB0_.out)).mono ?_); rintro e w4 ⟨rfl, hb4⟩; have HX4 := As (HX3.out.below hb4); have HN4 := As (HN3.out.below hb4); have HB4 := As (below_step HB3.out hb4); clear hb4; obtain ⟨_, _, _, _, _, _, _, x7_4, x8_4, x9_4, _⟩ := cs11 HX4.out; obtain ⟨_, _, y2_4, y3_4, y4_4, y5_4, y6_4, _, _, _⟩ := cs10 HN4.out; have y7_4 : w4.cell? ⟨g, 7, none⟩ = some (.int .i64 f.d1) := HN4.out.at_ 7) | (go_at_call 44; (with_reducible refine (lim_holds.calls f.b0 f.b1 (x.f7) false _ (by rw [holds_is]; exact congrArg some HB1_.out)).mono ?_); rintro e w5 ⟨rfl, hb5⟩; have HX5 := As (HX4.out.below hb5); have HN5 := As (HN4.out.below hb5); have HB5 := As (below_step HB4.out hb5); clear hb5; obtain ⟨_, _, _, _, _, _, _, x7_5, x8_5, x9_5, _⟩ := cs11 HX5.out; obtain ⟨_, _, y2_5, y3_5, y4_5, y5_5, y6_5, _, _, _⟩ := cs10 HN5.out; have y7_5 : w5.cell? ⟨g, 7, none⟩ = some (.int .i64 f.d1) := HN5.out.at_ 7))
     go_ret
     exact ⟨by (first | (rw [HR.out, HFF.out]; done) | simp [HR.out, HFF.out]), HB5.out⟩
    | true =>
     have HB1_ := As hb_1
     clear hb_1
     cases hb_2 : holdsB f.c0 f.c1 (x.f8) with
     | false =>
      have HB2_ := As hb_2
      clear hb_2
      have hF : fitsB x = false := by
       rw [HFE.out, if_neg HCT.out, if_neg HLK.out]
       unfold Fm.allB
       rw [HB0_.out, HB1_.out, HB2_.out]
       rfl
      have HFF := As hF
      clear hF
      go_wp2_with (first | (go_at_call 44; (with_reducible refine (lim_holds.calls f.a0 f.a1 (x.f6) true _ (by rw [holds_is]; exact congrArg some HB0_.out)).mono ?_); rintro e w4 ⟨rfl, hb4⟩; have HX4 := As (HX3.out.below hb4); have HN4 := As (HN3.out.below hb4); have HB4 := As (below_step HB3.out hb4); clear hb4; obtain ⟨_, _, _, _, _, _, _, x7_4, x8_4, x9_4, _⟩ := cs11 HX4.out; obtain ⟨_, _, y2_4, y3_4, y4_4, y5_4, y6_4, _, _, _⟩ := cs10 HN4.out; have y7_4 : w4.cell? ⟨g, 7, none⟩ = some (.int .i64 f.d1) := HN4.out.at_ 7) | (go_at_call 44; (with_reducible refine (lim_holds.calls f.b0 f.b1 (x.f7) true _ (by rw [holds_is]; exact congrArg some HB1_.out)).mono ?_); rintro e w5 ⟨rfl, hb5⟩; have HX5 := As (HX4.out.below hb5); have HN5 := As (HN4.out.below hb5); have HB5 := As (below_step HB4.out hb5); clear hb5; obtain ⟨_, _, _, _, _, _, _, x7_5, x8_5, x9_5, _⟩ := cs11 HX5.out; obtain ⟨_, _, y2_5, y3_5, y4_5, y5_5, y6_5, _, _, _⟩ := cs10 HN5.out; have y7_5 : w5.cell? ⟨g, 7, none⟩ = some (.int .i64 f.d1) := HN5.out.at_ 7) | (go_at_call 44; (with_reducible refine (lim_holds.calls f.c0 f.c1 (x.f8) false _ (by rw [holds_is]; exact congrArg some HB2_.out)).mono ?_); rintro e w6 ⟨rfl, hb6⟩; have HX6 := As (HX5.out.below hb6); have HN6 := As (HN5.out.below hb6); have HB6 := As (below_step HB5.out hb6); clear hb6; obtain ⟨_, _, _, _, _, _, _, x7_6, x8_6, x9_6, _⟩ := cs11 HX6.out; obtain ⟨_, _, y2_6, y3_6, y4_6, y5_6, y6_6, _, _, _⟩ := cs10 HN6.out; have y7_6 : w6.cell? ⟨g, 7, none⟩ = some (.int .i64 f.d1) := HN6.out.at_ 7))
      go_ret
      exact ⟨by (first | (rw [HR.out, HFF.out]; done) | simp [HR.out, HFF.out]), HB6.out⟩
     | true =>
      have HB2_ := As hb_2
      clear hb_2
      cases hb_3 : holdsB f.d0 f.d1 (x.f9) with
      | false =>
       have HB3_ := As hb_3
       clear hb_3
       have hF : fitsB x = false := by
        rw [HFE.out, if_neg HCT.out, if_neg HLK.out]
        unfold Fm.allB
        rw [HB0_.out, HB1_.out, HB2_.out, HB3_.out]
        rfl
       have HFF := As hF
       clear hF
       go_wp2_with (first | (go_at_call 44; (with_reducible refine (lim_holds.calls f.a0 f.a1 (x.f6) true _ (by rw [holds_is]; exact congrArg some HB0_.out)).mono ?_); rintro e w4 ⟨rfl, hb4⟩; have HX4 := As (HX3.out.below hb4); have HN4 := As (HN3.out.below hb4); have HB4 := As (below_step HB3.out hb4); clear hb4; obtain ⟨_, _, _, _, _, _, _, x7_4, x8_4, x9_4, _⟩ := cs11 HX4.out; obtain ⟨_, _, y2_4, y3_4, y4_4, y5_4, y6_4, _, _, _⟩ := cs10 HN4.out; have y7_4 : w4.cell? ⟨g, 7, none⟩ = some (.int .i64 f.d1) := HN4.out.at_ 7) | (go_at_call 44; (with_reducible refine (lim_holds.calls f.b0 f.b1 (x.f7) true _ (by rw [holds_is]; exact congrArg some HB1_.out)).mono ?_); rintro e w5 ⟨rfl, hb5⟩; have HX5 := As (HX4.out.below hb5); have HN5 := As (HN4.out.below hb5); have HB5 := As (below_step HB4.out hb5); clear hb5; obtain ⟨_, _, _, _, _, _, _, x7_5, x8_5, x9_5, _⟩ := cs11 HX5.out; obtain ⟨_, _, y2_5, y3_5, y4_5, y5_5, y6_5, _, _, _⟩ := cs10 HN5.out; have y7_5 : w5.cell? ⟨g, 7, none⟩ = some (.int .i64 f.d1) := HN5.out.at_ 7) | (go_at_call 44; (with_reducible refine (lim_holds.calls f.c0 f.c1 (x.f8) true _ (by rw [holds_is]; exact congrArg some HB2_.out)).mono ?_); rintro e w6 ⟨rfl, hb6⟩; have HX6 := As (HX5.out.below hb6); have HN6 := As (HN5.out.below hb6); have HB6 := As (below_step HB5.out hb6); clear hb6; obtain ⟨_, _, _, _, _, _, _, x7_6, x8_6, x9_6, _⟩ := cs11 HX6.out; obtain ⟨_, _, y2_6, y3_6, y4_6, y5_6, y6_6, _, _, _⟩ := cs10 HN6.out; have y7_6 : w6.cell? ⟨g, 7, none⟩ = some (.int .i64 f.d1) := HN6.out.at_ 7) | (go_at_call 44; (with_reducible refine (lim_holds.calls f.d0 f.d1 (x.f9) false _ (by rw [holds_is]; exact congrArg some HB3_.out)).mono ?_); rintro e w7 ⟨rfl, hb7⟩; have HX7 := As (HX6.out.below hb7); have HN7 := As (HN6.out.below hb7); have HB7 := As (below_step HB6.out hb7); clear hb7; obtain ⟨_, _, _, _, _, _, _, x7_7, x8_7, x9_7, _⟩ := cs11 HX7.out; obtain ⟨_, _, y2_7, y3_7, y4_7, y5_7, y6_7, _, _, _⟩ := cs10 HN7.out; have y7_7 : w7.cell? ⟨g, 7, none⟩ = some (.int .i64 f.d1) := HN7.out.at_ 7))
       go_ret
       exact ⟨by (first | (rw [HR.out, HFF.out]; done) | simp [HR.out, HFF.out]), HB7.out⟩
      | true =>
       have HB3_ := As hb_3
       clear hb_3
       have hF : fitsB x = true := by
        rw [HFE.out, if_neg HCT.out, if_neg HLK.out]
        unfold Fm.allB
        rw [HB0_.out, HB1_.out, HB2_.out, HB3_.out]
        rfl
       have HFF := As hF
       clear hF
       go_wp2_with (first | (go_at_call 44; (with_reducible refine (lim_holds.calls f.a0 f.a1 (x.f6) true _ (by rw [holds_is]; exact congrArg some HB0_.out)).mono ?_); rintro e w4 ⟨rfl, hb4⟩; have HX4 := As (HX3.out.below hb4); have HN4 := As (HN3.out.below hb4); have HB4 := As (below_step HB3.out hb4); clear hb4; obtain ⟨_, _, _, _, _, _, _, x7_4, x8_4, x9_4, _⟩ := cs11 HX4.out; obtain ⟨_, _, y2_4, y3_4, y4_4, y5_4, y6_4, _, _, _⟩ := cs10 HN4.out; have y7_4 : w4.cell? ⟨g, 7, none⟩ = some (.int .i64 f.d1) := HN4.out.at_ 7) | (go_at_call 44; (with_reducible refine (lim_holds.calls f.b0 f.b1 (x.f7) true _ (by rw [holds_is]; exact congrArg some HB1_.out)).mono ?_); rintro e w5 ⟨rfl, hb5⟩; have HX5 := As (HX4.out.below hb5); have HN5 := As (HN4.out.below hb5); have HB5 := As (below_step HB4.out hb5); clear hb5; obtain ⟨_, _, _, _, _, _, _, x7_5, x8_5, x9_5, _⟩ := cs11 HX5.out; obtain ⟨_, _, y2_5, y3_5, y4_5, y5_5, y6_5, _, _, _⟩ := cs10 HN5.out; have y7_5 : w5.cell? ⟨g, 7, none⟩ = some (.int .i64 f.d1) := HN5.out.at_ 7) | (go_at_call 44; (with_reducible refine (lim_holds.calls f.c0 f.c1 (x.f8) true _ (by rw [holds_is]; exact congrArg some HB2_.out)).mono ?_); rintro e w6 ⟨rfl, hb6⟩; have HX6 := As (HX5.out.below hb6); have HN6 := As (HN5.out.below hb6); have HB6 := As (below_step HB5.out hb6); clear hb6; obtain ⟨_, _, _, _, _, _, _, x7_6, x8_6, x9_6, _⟩ := cs11 HX6.out; obtain ⟨_, _, y2_6, y3_6, y4_6, y5_6, y6_6, _, _, _⟩ := cs10 HN6.out; have y7_6 : w6.cell? ⟨g, 7, none⟩ = some (.int .i64 f.d1) := HN6.out.at_ 7) | (go_at_call 44; (with_reducible refine (lim_holds.calls f.d0 f.d1 (x.f9) true _ (by rw [holds_is]; exact congrArg some HB3_.out)).mono ?_); rintro e w7 ⟨rfl, hb7⟩; have HX7 := As (HX6.out.below hb7); have HN7 := As (HN6.out.below hb7); have HB7 := As (below_step HB6.out hb7); clear hb7; obtain ⟨_, _, _, _, _, _, _, x7_7, x8_7, x9_7, _⟩ := cs11 HX7.out; obtain ⟨_, _, y2_7, y3_7, y4_7, y5_7, y6_7, _, _, _⟩ := cs10 HN7.out; have y7_7 : w7.cell? ⟨g, 7, none⟩ = some (.int .i64 f.d1) := HN7.out.at_ 7))
       go_ret
       exact ⟨by (first | (rw [HR.out, HFF.out]; done) | simp [HR.out, HFF.out]), HB7.out⟩
theorem fits_at (x : S39) (W : World) (hG : GW W) (b : Bool) (h : fitsB x = b) : Calls Tryd.prog 45 #[.agg #[.int .i64 x.f0, .int .i64 x.f1, .int .i64 x.f2, .int .i64 x.f3, .int .i64 x.f4, .int .i64 x.f5, .int .i64 x.f6, .int .i64 x.f7, .int .i64 x.f8, .int .i64 x.f9, .int .i64 x.f10]] W fun e w' => e = .returned (.bool b) ∧ Below W.heap.size W w' := by
 subst h
 exact fits.calls x W hG
def validB (x : S39) : Bool := (holdsB 1 2147483646 x.f0 && (holdsB 1 2147483646 x.f1 && ((x.f0 != x.f1) && (decide (1 ≤ x.f2) && (decide (x.f2 ≤ 256) && (holdsB 0 2147483646 x.f3 && ((decide (1 < x.f2) || (x.f3 == 0)) && (decide (0 ≤ x.f4) && (decide (x.f4 ≤ 1048576) && (holdsB 0 2147483646 x.f10 && fitsB x))))))))))
set_option maxHeartbeats 16000000 in
set_option maxRecDepth 100000 in
theorem valid.calls (x : S39) (W : World) (hG : GW W) :
 Calls Tryd.prog 34 #[.agg #[.int .i64 x.f0, .int .i64 x.f1, .int .i64 x.f2, .int .i64 x.f3, .int .i64 x.f4, .int .i64 x.f5, .int .i64 x.f6, .int .i64 x.f7, .int .i64 x.f8, .int .i64 x.f9, .int .i64 x.f10]] W fun e w' => e = .returned (.bool (validB x)) ∧ Below W.heap.size W w' := by
 have hu := Tryd.underlying39
 have hl := Tryd.underlying27
 obtain ⟨W0, hW0⟩ : ∃ W1, W1 = W.alloc (.cells #[.int .i64 x.f0, .int .i64 x.f1, .int .i64 x.f2, .int .i64 x.f3, .int .i64 x.f4, .int .i64 x.f5, .int .i64 x.f6, .int .i64 x.f7, .int .i64 x.f8, .int .i64 x.f9, .int .i64 x.f10] 39) := ⟨_, rfl⟩
 have hX0 : BlkIs W0 W.heap.size 39 [.int .i64 x.f0, .int .i64 x.f1, .int .i64 x.f2, .int .i64 x.f3, .int .i64 x.f4, .int .i64 x.f5, .int .i64 x.f6, .int .i64 x.f7, .int .i64 x.f8, .int .i64 x.f9, .int .i64 x.f10] := by rw [hW0]; exact heap_alloc_new W _
 have hb0 : Below W.heap.size W W0 := by rw [hW0]; exact below_alloc (Below.refl _ _) _
 have HX0 := As hX0
 have HB0 := As hb0
 have HG0 := As (hG.below hb0)
 have HW := As hW0
 clear hX0 hb0 hG hW0
 obtain ⟨r, hr⟩ : ∃ r, r = validB x := ⟨_, rfl⟩
 rw [← hr]
 have HR := As hr
 clear hr
 cases ht0 : holdsB 1 2147483646 x.f0 with
 | false =>
  have HT0 := As ht0
  clear ht0
  have hF : validB x = false := by
   unfold validB
   rw [HT0.out]
   rfl
  have HFF := As hF
  clear hF
  go_enter Tryd.func34, Tryd.ntmps34
  go_upto_region 1 with (fail)
  rw [← HW.out]
  obtain ⟨x0_0, x1_0, x2_0, x3_0, x4_0, x5_0, x6_0, x7_0, x8_0, x9_0, x10_0⟩ := cs11 HX0.out
  obtain ⟨p0_0, p1_0, n0_0, n1_0⟩ := HG0.out.four
  go_wp2_with (first | (go_at_call 44; (with_reducible refine (lim_holds.calls 1 2147483646 x.f0 false _ (by rw [holds_is]; exact congrArg some HT0.out)).mono ?_); rintro e w1 ⟨rfl, hb1⟩; have HX1 := As (HX0.out.below hb1); have HG1 := As (HG0.out.below hb1); have HB1 := As (below_step HB0.out hb1); clear hb1; obtain ⟨x0_1, x1_1, x2_1, x3_1, x4_1, x5_1, x6_1, x7_1, x8_1, x9_1, x10_1⟩ := cs11 HX1.out; obtain ⟨p0_1, p1_1, n0_1, n1_1⟩ := HG1.out.four))
  go_ret
  exact ⟨by (first | (rw [HR.out, HFF.out]; done) | simp [HR.out, HFF.out]), HB1.out⟩
 | true =>
  have HT0 := As ht0
  clear ht0
  cases ht1 : holdsB 1 2147483646 x.f1 with
  | false =>
   have HT1 := As ht1
   clear ht1
   have hF : validB x = false := by
    unfold validB
    rw [HT0.out, HT1.out]
    rfl
   have HFF := As hF
   clear hF
   go_enter Tryd.func34, Tryd.ntmps34
   go_upto_region 1 with (fail)
   rw [← HW.out]
   obtain ⟨x0_0, x1_0, x2_0, x3_0, x4_0, x5_0, x6_0, x7_0, x8_0, x9_0, x10_0⟩ := cs11 HX0.out
   obtain ⟨p0_0, p1_0, n0_0, n1_0⟩ := HG0.out.four
   go_wp2_with (first | (go_at_call 44; (with_reducible refine (lim_holds.calls 1 2147483646 x.f0 true _ (by rw [holds_is]; exact congrArg some HT0.out)).mono ?_); rintro e w1 ⟨rfl, hb1⟩; have HX1 := As (HX0.out.below hb1); have HG1 := As (HG0.out.below hb1); have HB1 := As (below_step HB0.out hb1); clear hb1; obtain ⟨x0_1, x1_1, x2_1, x3_1, x4_1, x5_1, x6_1, x7_1, x8_1, x9_1, x10_1⟩ := cs11 HX1.out; obtain ⟨p0_1, p1_1, n0_1, n1_1⟩ := HG1.out.four) | (go_at_call 44; (with_reducible refine (lim_holds.calls 1 2147483646 x.f1 false _ (by rw [holds_is]; exact congrArg some HT1.out)).mono ?_); rintro e w2 ⟨rfl, hb2⟩; have HX2 := As (HX1.out.below hb2); have HG2 := As (HG1.out.below hb2); have HB2 := As (below_step HB1.out hb2); clear hb2; obtain ⟨x0_2, x1_2, x2_2, x3_2, x4_2, x5_2, x6_2, x7_2, x8_2, x9_2, x10_2⟩ := cs11 HX2.out; obtain ⟨p0_2, p1_2, n0_2, n1_2⟩ := HG2.out.four))
   go_ret
   exact ⟨by (first | (rw [HR.out, HFF.out]; done) | simp [HR.out, HFF.out]), HB2.out⟩
  | true =>
   have HT1 := As ht1
   clear ht1
   cases ht2 : (x.f0 != x.f1) with
   | false =>
    have HT2 := As ht2
    have hF : validB x = false := by
     unfold validB
     rw [HT0.out, HT1.out, HT2.out]
     rfl
    have HFF := As hF
    clear hF
    go_enter Tryd.func34, Tryd.ntmps34
    go_upto_region 1 with (fail)
    rw [← HW.out]
    obtain ⟨x0_0, x1_0, x2_0, x3_0, x4_0, x5_0, x6_0, x7_0, x8_0, x9_0, x10_0⟩ := cs11 HX0.out
    obtain ⟨p0_0, p1_0, n0_0, n1_0⟩ := HG0.out.four
    go_wp2_with (first | (go_at_call 44; (with_reducible refine (lim_holds.calls 1 2147483646 x.f0 true _ (by rw [holds_is]; exact congrArg some HT0.out)).mono ?_); rintro e w1 ⟨rfl, hb1⟩; have HX1 := As (HX0.out.below hb1); have HG1 := As (HG0.out.below hb1); have HB1 := As (below_step HB0.out hb1); clear hb1; obtain ⟨x0_1, x1_1, x2_1, x3_1, x4_1, x5_1, x6_1, x7_1, x8_1, x9_1, x10_1⟩ := cs11 HX1.out; obtain ⟨p0_1, p1_1, n0_1, n1_1⟩ := HG1.out.four) | (go_at_call 44; (with_reducible refine (lim_holds.calls 1 2147483646 x.f1 true _ (by rw [holds_is]; exact congrArg some HT1.out)).mono ?_); rintro e w2 ⟨rfl, hb2⟩; have HX2 := As (HX1.out.below hb2); have HG2 := As (HG1.out.below hb2); have HB2 := As (below_step HB1.out hb2); clear hb2; obtain ⟨x0_2, x1_2, x2_2, x3_2, x4_2, x5_2, x6_2, x7_2, x8_2, x9_2, x10_2⟩ := cs11 HX2.out; obtain ⟨p0_2, p1_2, n0_2, n1_2⟩ := HG2.out.four))
    go_ret
    exact ⟨by (first | (rw [HR.out, HFF.out]; done) | simp [HR.out, HFF.out]), HB2.out⟩
   | true =>
    have HT2 := As ht2
    cases ht3 : decide (1 ≤ x.f2) with
    | false =>
     have HT3 := As ht3
     have hF : validB x = false := by
      unfold validB
      rw [HT0.out, HT1.out, HT2.out, HT3.out]
      rfl
     have HFF := As hF
     clear hF
     go_enter Tryd.func34, Tryd.ntmps34
     go_upto_region 1 with (fail)
     rw [← HW.out]
     obtain ⟨x0_0, x1_0, x2_0, x3_0, x4_0, x5_0, x6_0, x7_0, x8_0, x9_0, x10_0⟩ := cs11 HX0.out
     obtain ⟨p0_0, p1_0, n0_0, n1_0⟩ := HG0.out.four
     go_wp2_with (first | (go_at_call 44; (with_reducible refine (lim_holds.calls 1 2147483646 x.f0 true _ (by rw [holds_is]; exact congrArg some HT0.out)).mono ?_); rintro e w1 ⟨rfl, hb1⟩; have HX1 := As (HX0.out.below hb1); have HG1 := As (HG0.out.below hb1); have HB1 := As (below_step HB0.out hb1); clear hb1; obtain ⟨x0_1, x1_1, x2_1, x3_1, x4_1, x5_1, x6_1, x7_1, x8_1, x9_1, x10_1⟩ := cs11 HX1.out; obtain ⟨p0_1, p1_1, n0_1, n1_1⟩ := HG1.out.four) | (go_at_call 44; (with_reducible refine (lim_holds.calls 1 2147483646 x.f1 true _ (by rw [holds_is]; exact congrArg some HT1.out)).mono ?_); rintro e w2 ⟨rfl, hb2⟩; have HX2 := As (HX1.out.below hb2); have HG2 := As (HG1.out.below hb2); have HB2 := As (below_step HB1.out hb2); clear hb2; obtain ⟨x0_2, x1_2, x2_2, x3_2, x4_2, x5_2, x6_2, x7_2, x8_2, x9_2, x10_2⟩ := cs11 HX2.out; obtain ⟨p0_2, p1_2, n0_2, n1_2⟩ := HG2.out.four))
     go_ret
     exact ⟨by (first | (rw [HR.out, HFF.out]; done) | simp [HR.out, HFF.out]), HB2.out⟩
    | true =>
     have HT3 := As ht3
     cases ht4 : decide (x.f2 ≤ 256) with
     | false =>
      have HT4 := As ht4
      have hF : validB x = false := by
       unfold validB
       rw [HT0.out, HT1.out, HT2.out, HT3.out, HT4.out]
       rfl
      have HFF := As hF
      clear hF
      go_enter Tryd.func34, Tryd.ntmps34
      go_upto_region 1 with (fail)
      rw [← HW.out]
      obtain ⟨x0_0, x1_0, x2_0, x3_0, x4_0, x5_0, x6_0, x7_0, x8_0, x9_0, x10_0⟩ := cs11 HX0.out
      obtain ⟨p0_0, p1_0, n0_0, n1_0⟩ := HG0.out.four
      go_wp2_with (first | (go_at_call 44; (with_reducible refine (lim_holds.calls 1 2147483646 x.f0 true _ (by rw [holds_is]; exact congrArg some HT0.out)).mono ?_); rintro e w1 ⟨rfl, hb1⟩; have HX1 := As (HX0.out.below hb1); have HG1 := As (HG0.out.below hb1); have HB1 := As (below_step HB0.out hb1); clear hb1; obtain ⟨x0_1, x1_1, x2_1, x3_1, x4_1, x5_1, x6_1, x7_1, x8_1, x9_1, x10_1⟩ := cs11 HX1.out; obtain ⟨p0_1, p1_1, n0_1, n1_1⟩ := HG1.out.four) | (go_at_call 44; (with_reducible refine (lim_holds.calls 1 2147483646 x.f1 true _ (by rw [holds_is]; exact congrArg some HT1.out)).mono ?_); rintro e w2 ⟨rfl, hb2⟩; have HX2 := As (HX1.out.below hb2); have HG2 := As (HG1.out.below hb2); have HB2 := As (below_step HB1.out hb2); clear hb2; obtain ⟨x0_2, x1_2, x2_2, x3_2, x4_2, x5_2, x6_2, x7_2, x8_2, x9_2, x10_2⟩ := cs11 HX2.out; obtain ⟨p0_2, p1_2, n0_2, n1_2⟩ := HG2.out.four))
      go_ret
      exact ⟨by (first | (rw [HR.out, HFF.out]; done) | simp [HR.out, HFF.out]), HB2.out⟩
     | true =>
      have HT4 := As ht4
      cases ht5 : holdsB 0 2147483646 x.f3 with
      | false =>
       have HT5 := As ht5
       clear ht5
       have hF : validB x = false := by
        unfold validB
        rw [HT0.out, HT1.out, HT2.out, HT3.out, HT4.out, HT5.out]
        rfl
       have HFF := As hF
       clear hF
       go_enter Tryd.func34, Tryd.ntmps34
       go_upto_region 1 with (fail)
       rw [← HW.out]
       obtain ⟨x0_0, x1_0, x2_0, x3_0, x4_0, x5_0, x6_0, x7_0, x8_0, x9_0, x10_0⟩ := cs11 HX0.out
       obtain ⟨p0_0, p1_0, n0_0, n1_0⟩ := HG0.out.four
       go_wp2_with (first | (go_at_call 44; (with_reducible refine (lim_holds.calls 1 2147483646 x.f0 true _ (by rw [holds_is]; exact congrArg some HT0.out)).mono ?_); rintro e w1 ⟨rfl, hb1⟩; have HX1 := As (HX0.out.below hb1); have HG1 := As (HG0.out.below hb1); have HB1 := As (below_step HB0.out hb1); clear hb1; obtain ⟨x0_1, x1_1, x2_1, x3_1, x4_1, x5_1, x6_1, x7_1, x8_1, x9_1, x10_1⟩ := cs11 HX1.out; obtain ⟨p0_1, p1_1, n0_1, n1_1⟩ := HG1.out.four) | (go_at_call 44; (with_reducible refine (lim_holds.calls 1 2147483646 x.f1 true _ (by rw [holds_is]; exact congrArg some HT1.out)).mono ?_); rintro e w2 ⟨rfl, hb2⟩; have HX2 := As (HX1.out.below hb2); have HG2 := As (HG1.out.below hb2); have HB2 := As (below_step HB1.out hb2); clear hb2; obtain ⟨x0_2, x1_2, x2_2, x3_2, x4_2, x5_2, x6_2, x7_2, x8_2, x9_2, x10_2⟩ := cs11 HX2.out; obtain ⟨p0_2, p1_2, n0_2, n1_2⟩ := HG2.out.four) | (go_at_call 44; (with_reducible refine (lim_holds.calls 0 2147483646 x.f3 false _ (by rw [holds_is]; exact congrArg some HT5.out)).mono ?_); rintro e w3 ⟨rfl, hb3⟩; have HX3 := As (HX2.out.below hb3); have HG3 := As (HG2.out.below hb3); have HB3 := As (below_step HB2.out hb3); clear hb3; obtain ⟨x0_3, x1_3, x2_3, x3_3, x4_3, x5_3, x6_3, x7_3, x8_3, x9_3, x10_3⟩ := cs11 HX3.out; obtain ⟨p0_3, p1_3, n0_3, n1_3⟩ := HG3.out.four))
       go_ret
       exact ⟨by (first | (rw [HR.out, HFF.out]; done) | simp [HR.out, HFF.out]), HB3.out⟩
      | true =>
       have HT5 := As ht5
       clear ht5
       cases hl_ : decide (1 < x.f2) with
       | true =>
        have HT6 : Aside0 ((decide (1 < x.f2) || (x.f3 == 0)) = true) := ⟨by rw [hl_]; rfl⟩
        cases ht7 : decide (0 ≤ x.f4) with
        | false =>
         have HT7 := As ht7
         have hF : validB x = false := by
          unfold validB
          rw [HT0.out, HT1.out, HT2.out, HT3.out, HT4.out, HT5.out, HT6.out, HT7.out]
          rfl
         have HFF := As hF
         clear hF
         go_enter Tryd.func34, Tryd.ntmps34
         go_upto_region 1 with (fail)
         rw [← HW.out]
         obtain ⟨x0_0, x1_0, x2_0, x3_0, x4_0, x5_0, x6_0, x7_0, x8_0, x9_0, x10_0⟩ := cs11 HX0.out
         obtain ⟨p0_0, p1_0, n0_0, n1_0⟩ := HG0.out.four
         go_wp2_with (first | (go_at_call 44; (with_reducible refine (lim_holds.calls 1 2147483646 x.f0 true _ (by rw [holds_is]; exact congrArg some HT0.out)).mono ?_); rintro e w1 ⟨rfl, hb1⟩; have HX1 := As (HX0.out.below hb1); have HG1 := As (HG0.out.below hb1); have HB1 := As (below_step HB0.out hb1); clear hb1; obtain ⟨x0_1, x1_1, x2_1, x3_1, x4_1, x5_1, x6_1, x7_1, x8_1, x9_1, x10_1⟩ := cs11 HX1.out; obtain ⟨p0_1, p1_1, n0_1, n1_1⟩ := HG1.out.four) | (go_at_call 44; (with_reducible refine (lim_holds.calls 1 2147483646 x.f1 true _ (by rw [holds_is]; exact congrArg some HT1.out)).mono ?_); rintro e w2 ⟨rfl, hb2⟩; have HX2 := As (HX1.out.below hb2); have HG2 := As (HG1.out.below hb2); have HB2 := As (below_step HB1.out hb2); clear hb2; obtain ⟨x0_2, x1_2, x2_2, x3_2, x4_2, x5_2, x6_2, x7_2, x8_2, x9_2, x10_2⟩ := cs11 HX2.out; obtain ⟨p0_2, p1_2, n0_2, n1_2⟩ := HG2.out.four) | (go_at_call 44; (with_reducible refine (lim_holds.calls 0 2147483646 x.f3 true _ (by rw [holds_is]; exact congrArg some HT5.out)).mono ?_); rintro e w3 ⟨rfl, hb3⟩; have HX3 := As (HX2.out.below hb3); have HG3 := As (HG2.out.below hb3); have HB3 := As (below_step HB2.out hb3); clear hb3; obtain ⟨x0_3, x1_3, x2_3, x3_3, x4_3, x5_3, x6_3, x7_3, x8_3, x9_3, x10_3⟩ := cs11 HX3.out; obtain ⟨p0_3, p1_3, n0_3, n1_3⟩ := HG3.out.four))
         go_ret
         exact ⟨by (first | (rw [HR.out, HFF.out]; done) | simp [HR.out, HFF.out]), HB3.out⟩
        | true =>
         have HT7 := As ht7
         cases ht8 : decide (x.f4 ≤ 1048576) with
         | false =>
          have HT8 := As ht8
          have hF : validB x = false := by
           unfold validB
           rw [HT0.out, HT1.out, HT2.out, HT3.out, HT4.out, HT5.out, HT6.out, HT7.out, HT8.out]
           rfl
          have HFF := As hF
          clear hF
          go_enter Tryd.func34, Tryd.ntmps34
          go_upto_region 1 with (fail)
          rw [← HW.out]
          obtain ⟨x0_0, x1_0, x2_0, x3_0, x4_0, x5_0, x6_0, x7_0, x8_0, x9_0, x10_0⟩ := cs11 HX0.out
          obtain ⟨p0_0, p1_0, n0_0, n1_0⟩ := HG0.out.four
          go_wp2_with (first | (go_at_call 44; (with_reducible refine (lim_holds.calls 1 2147483646 x.f0 true _ (by rw [holds_is]; exact congrArg some HT0.out)).mono ?_); rintro e w1 ⟨rfl, hb1⟩; have HX1 := As (HX0.out.below hb1); have HG1 := As (HG0.out.below hb1); have HB1 := As (below_step HB0.out hb1); clear hb1; obtain ⟨x0_1, x1_1, x2_1, x3_1, x4_1, x5_1, x6_1, x7_1, x8_1, x9_1, x10_1⟩ := cs11 HX1.out; obtain ⟨p0_1, p1_1, n0_1, n1_1⟩ := HG1.out.four) | (go_at_call 44; (with_reducible refine (lim_holds.calls 1 2147483646 x.f1 true _ (by rw [holds_is]; exact congrArg some HT1.out)).mono ?_); rintro e w2 ⟨rfl, hb2⟩; have HX2 := As (HX1.out.below hb2); have HG2 := As (HG1.out.below hb2); have HB2 := As (below_step HB1.out hb2); clear hb2; obtain ⟨x0_2, x1_2, x2_2, x3_2, x4_2, x5_2, x6_2, x7_2, x8_2, x9_2, x10_2⟩ := cs11 HX2.out; obtain ⟨p0_2, p1_2, n0_2, n1_2⟩ := HG2.out.four) | (go_at_call 44; (with_reducible refine (lim_holds.calls 0 2147483646 x.f3 true _ (by rw [holds_is]; exact congrArg some HT5.out)).mono ?_); rintro e w3 ⟨rfl, hb3⟩; have HX3 := As (HX2.out.below hb3); have HG3 := As (HG2.out.below hb3); have HB3 := As (below_step HB2.out hb3); clear hb3; obtain ⟨x0_3, x1_3, x2_3, x3_3, x4_3, x5_3, x6_3, x7_3, x8_3, x9_3, x10_3⟩ := cs11 HX3.out; obtain ⟨p0_3, p1_3, n0_3, n1_3⟩ := HG3.out.four))
          go_ret
          exact ⟨by (first | (rw [HR.out, HFF.out]; done) | simp [HR.out, HFF.out]), HB3.out⟩
         | true =>
          have HT8 := As ht8
          cases ht9 : holdsB 0 2147483646 x.f10 with
          | false =>
           have HT9 := As ht9
           clear ht9
           have hF : validB x = false := by
            unfold validB
            rw [HT0.out, HT1.out, HT2.out, HT3.out, HT4.out, HT5.out, HT6.out, HT7.out, HT8.out, HT9.out]
            rfl
           have HFF := As hF
           clear hF
           go_enter Tryd.func34, Tryd.ntmps34
           go_upto_region 1 with (fail)
           rw [← HW.out]
           obtain ⟨x0_0, x1_0, x2_0, x3_0, x4_0, x5_0, x6_0, x7_0, x8_0, x9_0, x10_0⟩ := cs11 HX0.out
           obtain ⟨p0_0, p1_0, n0_0, n1_0⟩ := HG0.out.four
           go_wp2_with (first | (go_at_call 44; (with_reducible refine (lim_holds.calls 1 2147483646 x.f0 true _ (by rw [holds_is]; exact congrArg some HT0.out)).mono ?_); rintro e w1 ⟨rfl, hb1⟩; have HX1 := As (HX0.out.below hb1); have HG1 := As (HG0.out.below hb1); have HB1 := As (below_step HB0.out hb1); clear hb1; obtain ⟨x0_1, x1_1, x2_1, x3_1, x4_1, x5_1, x6_1, x7_1, x8_1, x9_1, x10_1⟩ := cs11 HX1.out; obtain ⟨p0_1, p1_1, n0_1, n1_1⟩ := HG1.out.four) | (go_at_call 44; (with_reducible refine (lim_holds.calls 1 2147483646 x.f1 true _ (by rw [holds_is]; exact congrArg some HT1.out)).mono ?_); rintro e w2 ⟨rfl, hb2⟩; have HX2 := As (HX1.out.below hb2); have HG2 := As (HG1.out.below hb2); have HB2 := As (below_step HB1.out hb2); clear hb2; obtain ⟨x0_2, x1_2, x2_2, x3_2, x4_2, x5_2, x6_2, x7_2, x8_2, x9_2, x10_2⟩ := cs11 HX2.out; obtain ⟨p0_2, p1_2, n0_2, n1_2⟩ := HG2.out.four) | (go_at_call 44; (with_reducible refine (lim_holds.calls 0 2147483646 x.f3 true _ (by rw [holds_is]; exact congrArg some HT5.out)).mono ?_); rintro e w3 ⟨rfl, hb3⟩; have HX3 := As (HX2.out.below hb3); have HG3 := As (HG2.out.below hb3); have HB3 := As (below_step HB2.out hb3); clear hb3; obtain ⟨x0_3, x1_3, x2_3, x3_3, x4_3, x5_3, x6_3, x7_3, x8_3, x9_3, x10_3⟩ := cs11 HX3.out; obtain ⟨p0_3, p1_3, n0_3, n1_3⟩ := HG3.out.four) | (go_at_call 44; (with_reducible refine (lim_holds.calls 0 2147483646 x.f10 false _ (by rw [holds_is]; exact congrArg some HT9.out)).mono ?_); rintro e w4 ⟨rfl, hb4⟩; have HX4 := As (HX3.out.below hb4); have HG4 := As (HG3.out.below hb4); have HB4 := As (below_step HB3.out hb4); clear hb4; obtain ⟨x0_4, x1_4, x2_4, x3_4, x4_4, x5_4, x6_4, x7_4, x8_4, x9_4, x10_4⟩ := cs11 HX4.out; obtain ⟨p0_4, p1_4, n0_4, n1_4⟩ := HG4.out.four))
           go_ret
           exact ⟨by (first | (rw [HR.out, HFF.out]; done) | simp [HR.out, HFF.out]), HB4.out⟩
          | true =>
           have HT9 := As ht9
           clear ht9
           cases ht10 : fitsB x with
           | false =>
            have HT10 := As ht10
            clear ht10
            have hF : validB x = false := by
             unfold validB
             rw [HT0.out, HT1.out, HT2.out, HT3.out, HT4.out, HT5.out, HT6.out, HT7.out, HT8.out, HT9.out, HT10.out]
             rfl
            have HFF := As hF
            clear hF
            go_enter Tryd.func34, Tryd.ntmps34
            go_upto_region 1 with (fail)
            rw [← HW.out]
            obtain ⟨x0_0, x1_0, x2_0, x3_0, x4_0, x5_0, x6_0, x7_0, x8_0, x9_0, x10_0⟩ := cs11 HX0.out
            obtain ⟨p0_0, p1_0, n0_0, n1_0⟩ := HG0.out.four
            go_wp2_with (first | (go_at_call 44; (with_reducible refine (lim_holds.calls 1 2147483646 x.f0 true _ (by rw [holds_is]; exact congrArg some HT0.out)).mono ?_); rintro e w1 ⟨rfl, hb1⟩; have HX1 := As (HX0.out.below hb1); have HG1 := As (HG0.out.below hb1); have HB1 := As (below_step HB0.out hb1); clear hb1; obtain ⟨x0_1, x1_1, x2_1, x3_1, x4_1, x5_1, x6_1, x7_1, x8_1, x9_1, x10_1⟩ := cs11 HX1.out; obtain ⟨p0_1, p1_1, n0_1, n1_1⟩ := HG1.out.four) | (go_at_call 44; (with_reducible refine (lim_holds.calls 1 2147483646 x.f1 true _ (by rw [holds_is]; exact congrArg some HT1.out)).mono ?_); rintro e w2 ⟨rfl, hb2⟩; have HX2 := As (HX1.out.below hb2); have HG2 := As (HG1.out.below hb2); have HB2 := As (below_step HB1.out hb2); clear hb2; obtain ⟨x0_2, x1_2, x2_2, x3_2, x4_2, x5_2, x6_2, x7_2, x8_2, x9_2, x10_2⟩ := cs11 HX2.out; obtain ⟨p0_2, p1_2, n0_2, n1_2⟩ := HG2.out.four) | (go_at_call 44; (with_reducible refine (lim_holds.calls 0 2147483646 x.f3 true _ (by rw [holds_is]; exact congrArg some HT5.out)).mono ?_); rintro e w3 ⟨rfl, hb3⟩; have HX3 := As (HX2.out.below hb3); have HG3 := As (HG2.out.below hb3); have HB3 := As (below_step HB2.out hb3); clear hb3; obtain ⟨x0_3, x1_3, x2_3, x3_3, x4_3, x5_3, x6_3, x7_3, x8_3, x9_3, x10_3⟩ := cs11 HX3.out; obtain ⟨p0_3, p1_3, n0_3, n1_3⟩ := HG3.out.four) | (go_at_call 44; (with_reducible refine (lim_holds.calls 0 2147483646 x.f10 true _ (by rw [holds_is]; exact congrArg some HT9.out)).mono ?_); rintro e w4 ⟨rfl, hb4⟩; have HX4 := As (HX3.out.below hb4); have HG4 := As (HG3.out.below hb4); have HB4 := As (below_step HB3.out hb4); clear hb4; obtain ⟨x0_4, x1_4, x2_4, x3_4, x4_4, x5_4, x6_4, x7_4, x8_4, x9_4, x10_4⟩ := cs11 HX4.out; obtain ⟨p0_4, p1_4, n0_4, n1_4⟩ := HG4.out.four) | (go_at_call 45; (with_reducible refine (fits_at x _ HG4.out false HT10.out).mono ?_); rintro e w5 ⟨rfl, hb5⟩; have HX5 := As (HX4.out.below hb5); have HG5 := As (HG4.out.below hb5); have HB5 := As (below_step HB4.out hb5); clear hb5; obtain ⟨x0_5, x1_5, x2_5, x3_5, x4_5, x5_5, x6_5, x7_5, x8_5, x9_5, x10_5⟩ := cs11 HX5.out; obtain ⟨p0_5, p1_5, n0_5, n1_5⟩ := HG5.out.four))
            go_ret
            exact ⟨by (first | (rw [HR.out, HFF.out]; done) | simp [HR.out, HFF.out]), HB5.out⟩
           | true =>
            have HT10 := As ht10
            clear ht10
            have hF : validB x = true := by
             unfold validB
             rw [HT0.out, HT1.out, HT2.out, HT3.out, HT4.out, HT5.out, HT6.out, HT7.out, HT8.out, HT9.out, HT10.out]
             rfl
            have HFF := As hF
            clear hF
            go_enter Tryd.func34, Tryd.ntmps34
            go_upto_region 1 with (fail)
            rw [← HW.out]
            obtain ⟨x0_0, x1_0, x2_0, x3_0, x4_0, x5_0, x6_0, x7_0, x8_0, x9_0, x10_0⟩ := cs11 HX0.out
            obtain ⟨p0_0, p1_0, n0_0, n1_0⟩ := HG0.out.four
            go_wp2_with (first | (go_at_call 44; (with_reducible refine (lim_holds.calls 1 2147483646 x.f0 true _ (by rw [holds_is]; exact congrArg some HT0.out)).mono ?_); rintro e w1 ⟨rfl, hb1⟩; have HX1 := As (HX0.out.below hb1); have HG1 := As (HG0.out.below hb1); have HB1 := As (below_step HB0.out hb1); clear hb1; obtain ⟨x0_1, x1_1, x2_1, x3_1, x4_1, x5_1, x6_1, x7_1, x8_1, x9_1, x10_1⟩ := cs11 HX1.out; obtain ⟨p0_1, p1_1, n0_1, n1_1⟩ := HG1.out.four) | (go_at_call 44; (with_reducible refine (lim_holds.calls 1 2147483646 x.f1 true _ (by rw [holds_is]; exact congrArg some HT1.out)).mono ?_); rintro e w2 ⟨rfl, hb2⟩; have HX2 := As (HX1.out.below hb2); have HG2 := As (HG1.out.below hb2); have HB2 := As (below_step HB1.out hb2); clear hb2; obtain ⟨x0_2, x1_2, x2_2, x3_2, x4_2, x5_2, x6_2, x7_2, x8_2, x9_2, x10_2⟩ := cs11 HX2.out; obtain ⟨p0_2, p1_2, n0_2, n1_2⟩ := HG2.out.four) | (go_at_call 44; (with_reducible refine (lim_holds.calls 0 2147483646 x.f3 true _ (by rw [holds_is]; exact congrArg some HT5.out)).mono ?_); rintro e w3 ⟨rfl, hb3⟩; have HX3 := As (HX2.out.below hb3); have HG3 := As (HG2.out.below hb3); have HB3 := As (below_step HB2.out hb3); clear hb3; obtain ⟨x0_3, x1_3, x2_3, x3_3, x4_3, x5_3, x6_3, x7_3, x8_3, x9_3, x10_3⟩ := cs11 HX3.out; obtain ⟨p0_3, p1_3, n0_3, n1_3⟩ := HG3.out.four) | (go_at_call 44; (with_reducible refine (lim_holds.calls 0 2147483646 x.f10 true _ (by rw [holds_is]; exact congrArg some HT9.out)).mono ?_); rintro e w4 ⟨rfl, hb4⟩; have HX4 := As (HX3.out.below hb4); have HG4 := As (HG3.out.below hb4); have HB4 := As (below_step HB3.out hb4); clear hb4; obtain ⟨x0_4, x1_4, x2_4, x3_4, x4_4, x5_4, x6_4, x7_4, x8_4, x9_4, x10_4⟩ := cs11 HX4.out; obtain ⟨p0_4, p1_4, n0_4, n1_4⟩ := HG4.out.four) | (go_at_call 45; (with_reducible refine (fits_at x _ HG4.out true HT10.out).mono ?_); rintro e w5 ⟨rfl, hb5⟩; have HX5 := As (HX4.out.below hb5); have HG5 := As (HG4.out.below hb5); have HB5 := As (below_step HB4.out hb5); clear hb5; obtain ⟨x0_5, x1_5, x2_5, x3_5, x4_5, x5_5, x6_5, x7_5, x8_5, x9_5, x10_5⟩ := cs11 HX5.out; obtain ⟨p0_5, p1_5, n0_5, n1_5⟩ := HG5.out.four))
            go_ret
            exact ⟨by (first | (rw [HR.out, HFF.out]; done) | simp [HR.out, HFF.out]), HB5.out⟩
       | false =>
        cases hr_ : (x.f3 == 0) with
        | true =>
         have HT6 : Aside0 ((decide (1 < x.f2) || (x.f3 == 0)) = true) := ⟨by rw [hl_, hr_]; rfl⟩
         cases ht7 : decide (0 ≤ x.f4) with
         | false =>
          have HT7 := As ht7
          have hF : validB x = false := by
           unfold validB
           rw [HT0.out, HT1.out, HT2.out, HT3.out, HT4.out, HT5.out, HT6.out, HT7.out]
           rfl
          have HFF := As hF
          clear hF
          go_enter Tryd.func34, Tryd.ntmps34
          go_upto_region 1 with (fail)
          rw [← HW.out]
          obtain ⟨x0_0, x1_0, x2_0, x3_0, x4_0, x5_0, x6_0, x7_0, x8_0, x9_0, x10_0⟩ := cs11 HX0.out
          obtain ⟨p0_0, p1_0, n0_0, n1_0⟩ := HG0.out.four
          go_wp2_with (first | (go_at_call 44; (with_reducible refine (lim_holds.calls 1 2147483646 x.f0 true _ (by rw [holds_is]; exact congrArg some HT0.out)).mono ?_); rintro e w1 ⟨rfl, hb1⟩; have HX1 := As (HX0.out.below hb1); have HG1 := As (HG0.out.below hb1); have HB1 := As (below_step HB0.out hb1); clear hb1; obtain ⟨x0_1, x1_1, x2_1, x3_1, x4_1, x5_1, x6_1, x7_1, x8_1, x9_1, x10_1⟩ := cs11 HX1.out; obtain ⟨p0_1, p1_1, n0_1, n1_1⟩ := HG1.out.four) | (go_at_call 44; (with_reducible refine (lim_holds.calls 1 2147483646 x.f1 true _ (by rw [holds_is]; exact congrArg some HT1.out)).mono ?_); rintro e w2 ⟨rfl, hb2⟩; have HX2 := As (HX1.out.below hb2); have HG2 := As (HG1.out.below hb2); have HB2 := As (below_step HB1.out hb2); clear hb2; obtain ⟨x0_2, x1_2, x2_2, x3_2, x4_2, x5_2, x6_2, x7_2, x8_2, x9_2, x10_2⟩ := cs11 HX2.out; obtain ⟨p0_2, p1_2, n0_2, n1_2⟩ := HG2.out.four) | (go_at_call 44; (with_reducible refine (lim_holds.calls 0 2147483646 x.f3 true _ (by rw [holds_is]; exact congrArg some HT5.out)).mono ?_); rintro e w3 ⟨rfl, hb3⟩; have HX3 := As (HX2.out.below hb3); have HG3 := As (HG2.out.below hb3); have HB3 := As (below_step HB2.out hb3); clear hb3; obtain ⟨x0_3, x1_3, x2_3, x3_3, x4_3, x5_3, x6_3, x7_3, x8_3, x9_3, x10_3⟩ := cs11 HX3.out; obtain ⟨p0_3, p1_3, n0_3, n1_3⟩ := HG3.out.four))
          go_ret
          exact ⟨by (first | (rw [HR.out, HFF.out]; done) | simp [HR.out, HFF.out]), HB3.out⟩
         | true =>
          have HT7 := As ht7
          cases ht8 : decide (x.f4 ≤ 1048576) with
          | false =>
           have HT8 := As ht8
           have hF : validB x = false := by
            unfold validB
            rw [HT0.out, HT1.out, HT2.out, HT3.out, HT4.out, HT5.out, HT6.out, HT7.out, HT8.out]
            rfl
           have HFF := As hF
           clear hF
           go_enter Tryd.func34, Tryd.ntmps34
           go_upto_region 1 with (fail)
           rw [← HW.out]
           obtain ⟨x0_0, x1_0, x2_0, x3_0, x4_0, x5_0, x6_0, x7_0, x8_0, x9_0, x10_0⟩ := cs11 HX0.out
           obtain ⟨p0_0, p1_0, n0_0, n1_0⟩ := HG0.out.four
           go_wp2_with (first | (go_at_call 44; (with_reducible refine (lim_holds.calls 1 2147483646 x.f0 true _ (by rw [holds_is]; exact congrArg some HT0.out)).mono ?_); rintro e w1 ⟨rfl, hb1⟩; have HX1 := As (HX0.out.below hb1); have HG1 := As (HG0.out.below hb1); have HB1 := As (below_step HB0.out hb1); clear hb1; obtain ⟨x0_1, x1_1, x2_1, x3_1, x4_1, x5_1, x6_1, x7_1, x8_1, x9_1, x10_1⟩ := cs11 HX1.out; obtain ⟨p0_1, p1_1, n0_1, n1_1⟩ := HG1.out.four) | (go_at_call 44; (with_reducible refine (lim_holds.calls 1 2147483646 x.f1 true _ (by rw [holds_is]; exact congrArg some HT1.out)).mono ?_); rintro e w2 ⟨rfl, hb2⟩; have HX2 := As (HX1.out.below hb2); have HG2 := As (HG1.out.below hb2); have HB2 := As (below_step HB1.out hb2); clear hb2; obtain ⟨x0_2, x1_2, x2_2, x3_2, x4_2, x5_2, x6_2, x7_2, x8_2, x9_2, x10_2⟩ := cs11 HX2.out; obtain ⟨p0_2, p1_2, n0_2, n1_2⟩ := HG2.out.four) | (go_at_call 44; (with_reducible refine (lim_holds.calls 0 2147483646 x.f3 true _ (by rw [holds_is]; exact congrArg some HT5.out)).mono ?_); rintro e w3 ⟨rfl, hb3⟩; have HX3 := As (HX2.out.below hb3); have HG3 := As (HG2.out.below hb3); have HB3 := As (below_step HB2.out hb3); clear hb3; obtain ⟨x0_3, x1_3, x2_3, x3_3, x4_3, x5_3, x6_3, x7_3, x8_3, x9_3, x10_3⟩ := cs11 HX3.out; obtain ⟨p0_3, p1_3, n0_3, n1_3⟩ := HG3.out.four))
           go_ret
           exact ⟨by (first | (rw [HR.out, HFF.out]; done) | simp [HR.out, HFF.out]), HB3.out⟩
          | true =>
           have HT8 := As ht8
           cases ht9 : holdsB 0 2147483646 x.f10 with
           | false =>
            have HT9 := As ht9
            clear ht9
            have hF : validB x = false := by
             unfold validB
             rw [HT0.out, HT1.out, HT2.out, HT3.out, HT4.out, HT5.out, HT6.out, HT7.out, HT8.out, HT9.out]
             rfl
            have HFF := As hF
            clear hF
            go_enter Tryd.func34, Tryd.ntmps34
            go_upto_region 1 with (fail)
            rw [← HW.out]
            obtain ⟨x0_0, x1_0, x2_0, x3_0, x4_0, x5_0, x6_0, x7_0, x8_0, x9_0, x10_0⟩ := cs11 HX0.out
            obtain ⟨p0_0, p1_0, n0_0, n1_0⟩ := HG0.out.four
            go_wp2_with (first | (go_at_call 44; (with_reducible refine (lim_holds.calls 1 2147483646 x.f0 true _ (by rw [holds_is]; exact congrArg some HT0.out)).mono ?_); rintro e w1 ⟨rfl, hb1⟩; have HX1 := As (HX0.out.below hb1); have HG1 := As (HG0.out.below hb1); have HB1 := As (below_step HB0.out hb1); clear hb1; obtain ⟨x0_1, x1_1, x2_1, x3_1, x4_1, x5_1, x6_1, x7_1, x8_1, x9_1, x10_1⟩ := cs11 HX1.out; obtain ⟨p0_1, p1_1, n0_1, n1_1⟩ := HG1.out.four) | (go_at_call 44; (with_reducible refine (lim_holds.calls 1 2147483646 x.f1 true _ (by rw [holds_is]; exact congrArg some HT1.out)).mono ?_); rintro e w2 ⟨rfl, hb2⟩; have HX2 := As (HX1.out.below hb2); have HG2 := As (HG1.out.below hb2); have HB2 := As (below_step HB1.out hb2); clear hb2; obtain ⟨x0_2, x1_2, x2_2, x3_2, x4_2, x5_2, x6_2, x7_2, x8_2, x9_2, x10_2⟩ := cs11 HX2.out; obtain ⟨p0_2, p1_2, n0_2, n1_2⟩ := HG2.out.four) | (go_at_call 44; (with_reducible refine (lim_holds.calls 0 2147483646 x.f3 true _ (by rw [holds_is]; exact congrArg some HT5.out)).mono ?_); rintro e w3 ⟨rfl, hb3⟩; have HX3 := As (HX2.out.below hb3); have HG3 := As (HG2.out.below hb3); have HB3 := As (below_step HB2.out hb3); clear hb3; obtain ⟨x0_3, x1_3, x2_3, x3_3, x4_3, x5_3, x6_3, x7_3, x8_3, x9_3, x10_3⟩ := cs11 HX3.out; obtain ⟨p0_3, p1_3, n0_3, n1_3⟩ := HG3.out.four) | (go_at_call 44; (with_reducible refine (lim_holds.calls 0 2147483646 x.f10 false _ (by rw [holds_is]; exact congrArg some HT9.out)).mono ?_); rintro e w4 ⟨rfl, hb4⟩; have HX4 := As (HX3.out.below hb4); have HG4 := As (HG3.out.below hb4); have HB4 := As (below_step HB3.out hb4); clear hb4; obtain ⟨x0_4, x1_4, x2_4, x3_4, x4_4, x5_4, x6_4, x7_4, x8_4, x9_4, x10_4⟩ := cs11 HX4.out; obtain ⟨p0_4, p1_4, n0_4, n1_4⟩ := HG4.out.four))
            go_ret
            exact ⟨by (first | (rw [HR.out, HFF.out]; done) | simp [HR.out, HFF.out]), HB4.out⟩
           | true =>
            have HT9 := As ht9
            clear ht9
            cases ht10 : fitsB x with
            | false =>
             have HT10 := As ht10
             clear ht10
             have hF : validB x = false := by
              unfold validB
              rw [HT0.out, HT1.out, HT2.out, HT3.out, HT4.out, HT5.out, HT6.out, HT7.out, HT8.out, HT9.out, HT10.out]
              rfl
             have HFF := As hF
             clear hF
             go_enter Tryd.func34, Tryd.ntmps34
             go_upto_region 1 with (fail)
             rw [← HW.out]
             obtain ⟨x0_0, x1_0, x2_0, x3_0, x4_0, x5_0, x6_0, x7_0, x8_0, x9_0, x10_0⟩ := cs11 HX0.out
             obtain ⟨p0_0, p1_0, n0_0, n1_0⟩ := HG0.out.four
             go_wp2_with (first | (go_at_call 44; (with_reducible refine (lim_holds.calls 1 2147483646 x.f0 true _ (by rw [holds_is]; exact congrArg some HT0.out)).mono ?_); rintro e w1 ⟨rfl, hb1⟩; have HX1 := As (HX0.out.below hb1); have HG1 := As (HG0.out.below hb1); have HB1 := As (below_step HB0.out hb1); clear hb1; obtain ⟨x0_1, x1_1, x2_1, x3_1, x4_1, x5_1, x6_1, x7_1, x8_1, x9_1, x10_1⟩ := cs11 HX1.out; obtain ⟨p0_1, p1_1, n0_1, n1_1⟩ := HG1.out.four) | (go_at_call 44; (with_reducible refine (lim_holds.calls 1 2147483646 x.f1 true _ (by rw [holds_is]; exact congrArg some HT1.out)).mono ?_); rintro e w2 ⟨rfl, hb2⟩; have HX2 := As (HX1.out.below hb2); have HG2 := As (HG1.out.below hb2); have HB2 := As (below_step HB1.out hb2); clear hb2; obtain ⟨x0_2, x1_2, x2_2, x3_2, x4_2, x5_2, x6_2, x7_2, x8_2, x9_2, x10_2⟩ := cs11 HX2.out; obtain ⟨p0_2, p1_2, n0_2, n1_2⟩ := HG2.out.four) | (go_at_call 44; (with_reducible refine (lim_holds.calls 0 2147483646 x.f3 true _ (by rw [holds_is]; exact congrArg some HT5.out)).mono ?_); rintro e w3 ⟨rfl, hb3⟩; have HX3 := As (HX2.out.below hb3); have HG3 := As (HG2.out.below hb3); have HB3 := As (below_step HB2.out hb3); clear hb3; obtain ⟨x0_3, x1_3, x2_3, x3_3, x4_3, x5_3, x6_3, x7_3, x8_3, x9_3, x10_3⟩ := cs11 HX3.out; obtain ⟨p0_3, p1_3, n0_3, n1_3⟩ := HG3.out.four) | (go_at_call 44; (with_reducible refine (lim_holds.calls 0 2147483646 x.f10 true _ (by rw [holds_is]; exact congrArg some HT9.out)).mono ?_); rintro e w4 ⟨rfl, hb4⟩; have HX4 := As (HX3.out.below hb4); have HG4 := As (HG3.out.below hb4); have HB4 := As (below_step HB3.out hb4); clear hb4; obtain ⟨x0_4, x1_4, x2_4, x3_4, x4_4, x5_4, x6_4, x7_4, x8_4, x9_4, x10_4⟩ := cs11 HX4.out; obtain ⟨p0_4, p1_4, n0_4, n1_4⟩ := HG4.out.four) | (go_at_call 45; (with_reducible refine (fits_at x _ HG4.out false HT10.out).mono ?_); rintro e w5 ⟨rfl, hb5⟩; have HX5 := As (HX4.out.below hb5); have HG5 := As (HG4.out.below hb5); have HB5 := As (below_step HB4.out hb5); clear hb5; obtain ⟨x0_5, x1_5, x2_5, x3_5, x4_5, x5_5, x6_5, x7_5, x8_5, x9_5, x10_5⟩ := cs11 HX5.out; obtain ⟨p0_5, p1_5, n0_5, n1_5⟩ := HG5.out.four))
             go_ret
             exact ⟨by (first | (rw [HR.out, HFF.out]; done) | simp [HR.out, HFF.out]), HB5.out⟩
            | true =>
             have HT10 := As ht10
             clear ht10
             have hF : validB x = true := by
              unfold validB
              rw [HT0.out, HT1.out, HT2.out, HT3.out, HT4.out, HT5.out, HT6.out, HT7.out, HT8.out, HT9.out, HT10.out]
              rfl
             have HFF := As hF
             clear hF
             go_enter Tryd.func34, Tryd.ntmps34
             go_upto_region 1 with (fail)
             rw [← HW.out]
             obtain ⟨x0_0, x1_0, x2_0, x3_0, x4_0, x5_0, x6_0, x7_0, x8_0, x9_0, x10_0⟩ := cs11 HX0.out
             obtain ⟨p0_0, p1_0, n0_0, n1_0⟩ := HG0.out.four
             go_wp2_with (first | (go_at_call 44; (with_reducible refine (lim_holds.calls 1 2147483646 x.f0 true _ (by rw [holds_is]; exact congrArg some HT0.out)).mono ?_); rintro e w1 ⟨rfl, hb1⟩; have HX1 := As (HX0.out.below hb1); have HG1 := As (HG0.out.below hb1); have HB1 := As (below_step HB0.out hb1); clear hb1; obtain ⟨x0_1, x1_1, x2_1, x3_1, x4_1, x5_1, x6_1, x7_1, x8_1, x9_1, x10_1⟩ := cs11 HX1.out; obtain ⟨p0_1, p1_1, n0_1, n1_1⟩ := HG1.out.four) | (go_at_call 44; (with_reducible refine (lim_holds.calls 1 2147483646 x.f1 true _ (by rw [holds_is]; exact congrArg some HT1.out)).mono ?_); rintro e w2 ⟨rfl, hb2⟩; have HX2 := As (HX1.out.below hb2); have HG2 := As (HG1.out.below hb2); have HB2 := As (below_step HB1.out hb2); clear hb2; obtain ⟨x0_2, x1_2, x2_2, x3_2, x4_2, x5_2, x6_2, x7_2, x8_2, x9_2, x10_2⟩ := cs11 HX2.out; obtain ⟨p0_2, p1_2, n0_2, n1_2⟩ := HG2.out.four) | (go_at_call 44; (with_reducible refine (lim_holds.calls 0 2147483646 x.f3 true _ (by rw [holds_is]; exact congrArg some HT5.out)).mono ?_); rintro e w3 ⟨rfl, hb3⟩; have HX3 := As (HX2.out.below hb3); have HG3 := As (HG2.out.below hb3); have HB3 := As (below_step HB2.out hb3); clear hb3; obtain ⟨x0_3, x1_3, x2_3, x3_3, x4_3, x5_3, x6_3, x7_3, x8_3, x9_3, x10_3⟩ := cs11 HX3.out; obtain ⟨p0_3, p1_3, n0_3, n1_3⟩ := HG3.out.four) | (go_at_call 44; (with_reducible refine (lim_holds.calls 0 2147483646 x.f10 true _ (by rw [holds_is]; exact congrArg some HT9.out)).mono ?_); rintro e w4 ⟨rfl, hb4⟩; have HX4 := As (HX3.out.below hb4); have HG4 := As (HG3.out.below hb4); have HB4 := As (below_step HB3.out hb4); clear hb4; obtain ⟨x0_4, x1_4, x2_4, x3_4, x4_4, x5_4, x6_4, x7_4, x8_4, x9_4, x10_4⟩ := cs11 HX4.out; obtain ⟨p0_4, p1_4, n0_4, n1_4⟩ := HG4.out.four) | (go_at_call 45; (with_reducible refine (fits_at x _ HG4.out true HT10.out).mono ?_); rintro e w5 ⟨rfl, hb5⟩; have HX5 := As (HX4.out.below hb5); have HG5 := As (HG4.out.below hb5); have HB5 := As (below_step HB4.out hb5); clear hb5; obtain ⟨x0_5, x1_5, x2_5, x3_5, x4_5, x5_5, x6_5, x7_5, x8_5, x9_5, x10_5⟩ := cs11 HX5.out; obtain ⟨p0_5, p1_5, n0_5, n1_5⟩ := HG5.out.four))
             go_ret
             exact ⟨by (first | (rw [HR.out, HFF.out]; done) | simp [HR.out, HFF.out]), HB5.out⟩
        | false =>
         have HT6 : Aside0 ((decide (1 < x.f2) || (x.f3 == 0)) = false) := ⟨by rw [hl_, hr_]; rfl⟩
         have hF : validB x = false := by
          unfold validB
          rw [HT0.out, HT1.out, HT2.out, HT3.out, HT4.out, HT5.out, HT6.out]
          rfl
         have HFF := As hF
         clear hF
         go_enter Tryd.func34, Tryd.ntmps34
         go_upto_region 1 with (fail)
         rw [← HW.out]
         obtain ⟨x0_0, x1_0, x2_0, x3_0, x4_0, x5_0, x6_0, x7_0, x8_0, x9_0, x10_0⟩ := cs11 HX0.out
         obtain ⟨p0_0, p1_0, n0_0, n1_0⟩ := HG0.out.four
         go_wp2_with (first | (go_at_call 44; (with_reducible refine (lim_holds.calls 1 2147483646 x.f0 true _ (by rw [holds_is]; exact congrArg some HT0.out)).mono ?_); rintro e w1 ⟨rfl, hb1⟩; have HX1 := As (HX0.out.below hb1); have HG1 := As (HG0.out.below hb1); have HB1 := As (below_step HB0.out hb1); clear hb1; obtain ⟨x0_1, x1_1, x2_1, x3_1, x4_1, x5_1, x6_1, x7_1, x8_1, x9_1, x10_1⟩ := cs11 HX1.out; obtain ⟨p0_1, p1_1, n0_1, n1_1⟩ := HG1.out.four) | (go_at_call 44; (with_reducible refine (lim_holds.calls 1 2147483646 x.f1 true _ (by rw [holds_is]; exact congrArg some HT1.out)).mono ?_); rintro e w2 ⟨rfl, hb2⟩; have HX2 := As (HX1.out.below hb2); have HG2 := As (HG1.out.below hb2); have HB2 := As (below_step HB1.out hb2); clear hb2; obtain ⟨x0_2, x1_2, x2_2, x3_2, x4_2, x5_2, x6_2, x7_2, x8_2, x9_2, x10_2⟩ := cs11 HX2.out; obtain ⟨p0_2, p1_2, n0_2, n1_2⟩ := HG2.out.four) | (go_at_call 44; (with_reducible refine (lim_holds.calls 0 2147483646 x.f3 true _ (by rw [holds_is]; exact congrArg some HT5.out)).mono ?_); rintro e w3 ⟨rfl, hb3⟩; have HX3 := As (HX2.out.below hb3); have HG3 := As (HG2.out.below hb3); have HB3 := As (below_step HB2.out hb3); clear hb3; obtain ⟨x0_3, x1_3, x2_3, x3_3, x4_3, x5_3, x6_3, x7_3, x8_3, x9_3, x10_3⟩ := cs11 HX3.out; obtain ⟨p0_3, p1_3, n0_3, n1_3⟩ := HG3.out.four))
         go_ret
         exact ⟨by (first | (rw [HR.out, HFF.out]; done) | simp [HR.out, HFF.out]), HB3.out⟩
end
def statement_Valid.f (a0_0 a0_1 a0_2 a0_3 a0_4 a0_5 a0_6 a0_7 a0_8 a0_9 a0_10 : Int) : Option Bool := some (validB ⟨a0_0, a0_1, a0_2, a0_3, a0_4, a0_5, a0_6, a0_7, a0_8, a0_9, a0_10⟩)
theorem statement_Valid.calls (a0_0 a0_1 a0_2 a0_3 a0_4 a0_5 a0_6 a0_7 a0_8 a0_9 a0_10 : Int) (r : Bool) (w : World) (h : statement_Valid.f a0_0 a0_1 a0_2 a0_3 a0_4 a0_5 a0_6 a0_7 a0_8 a0_9 a0_10 = some r) (hG : GW w) : Calls Tryd.prog 34 #[.agg #[.int .i64 a0_0, .int .i64 a0_1, .int .i64 a0_2, .int .i64 a0_3, .int .i64 a0_4, .int .i64 a0_5, .int .i64 a0_6, .int .i64 a0_7, .int .i64 a0_8, .int .i64 a0_9, .int .i64 a0_10]] w fun e w' => e = .returned (.bool r) ∧ Below w.heap.size w w' := by
 have h1 := Option.some.inj h
 subst h1
 exact valid.calls ⟨a0_0, a0_1, a0_2, a0_3, a0_4, a0_5, a0_6, a0_7, a0_8, a0_9, a0_10⟩ w hG
section
attribute [local go_sem ↓] some_setCell
attribute [local go_sem] max2_int min2_int max_two min_two
structure Le where
 o : Int
 k : Int
 s : Int
 h : Int
 z : Int
 fr : Int
 un : Int
 rc : Bool
def Le.enc (s : Le) : List Value := [.int .i64 s.o, .int .i64 s.k, .int .i64 s.s, .int .i64 s.h, .int .i64 s.z, .int .i64 s.fr, .int .i64 s.un, .bool s.rc]
structure Sl where
 g : Bool
 l : Le
 e : Bool
 top : Int
def Sl.enc (s : Sl) : List Value := [.bool s.g, .int .i64 s.l.o, .int .i64 s.l.k, .int .i64 s.l.s, .int .i64 s.l.h, .int .i64 s.l.z, .int .i64 s.l.fr, .int .i64 s.l.un, .bool s.l.rc, .bool s.e, .int .i64 s.top]
theorem Sl.len (s : Sl) : s.enc.length = 11 := rfl
theorem Le.len (s : Le) : s.enc.length = 8 := rfl
def Sl.inB (s : Sl) (t : Int) : Bool := s.g && (!s.e && decide (t ≤ s.l.un))
def SlotAt (W : World) (b off : Nat) (s : Sl) : Prop := ∀ j v, s.enc[j]? = some v → W.cell? ⟨b, off + j, none⟩ = some v
theorem SlotAt.below {W W' : World} {b off : Nat} {s : Sl} (h : SlotAt W b off s) (hb : Below W.heap.size W W') : SlotAt W' b off s := fun j v hj => (hb.cell (World.block_lt_of_cell? W _ (h j v hj))).trans (h j v hj)
set_option maxHeartbeats 4000000 in
theorem slot_in.calls (b off : Nat) (s : Sl) (t : Int) (W : World) (h : SlotAt W b off s) :
 Calls Tryd.prog 32 #[.pointer (some ⟨b, off, none⟩), .int .i64 t] W fun e w' => e = .returned (.bool (s.inB t)) ∧ w' = W := by
 have h0 : W.cell? ⟨b, off, none⟩ = some (.bool s.g) := h 0 _ rfl
 have h9 : W.cell? ⟨b, off + 9, none⟩ = some (.bool s.e) := h 9 _ rfl
 have h7 : W.cell? ⟨b, off + 7, none⟩ = some (.int .i64 s.l.un) := h 7 _ rfl
 have h71 : W.cell? ⟨b, off + 1 + 6, none⟩ = some (.int .i64 s.l.un) := h7
 clear h
 unfold Sl.inB
 cases hg : s.g with
 | false =>
  rw [hg] at h0
  go_enter Tryd.func32, Tryd.ntmps32
  go_wp2
  go_ret
  exact ⟨rfl, rfl⟩
 | true =>
  rw [hg] at h0
  cases he : s.e with
  | true =>
   rw [he] at h9
   go_enter Tryd.func32, Tryd.ntmps32
   go_wp2
   go_ret
   exact ⟨rfl, rfl⟩
  | false =>
   rw [he] at h9
   go_enter Tryd.func32, Tryd.ntmps32
   go_wp2
   go_ret
   exact ⟨rfl, rfl⟩
def Sl.fitsB (s : Sl) (x : S39) : Bool :=
 if x.f5 = 1 then !s.g || decide (s.top < x.f4)
 else if x.f5 = 2 then s.inB x.f4 && decide (s.top < x.f9)
 else if x.f5 = 3 ∨ x.f5 = 5 then s.inB x.f4
 else s.inB x.f4 && (s.l.h == x.f7 && s.l.z == x.f8)
set_option maxHeartbeats 4000000 in
theorem slot_fits.calls (b off : Nat) (s : Sl) (x : S39) (W : World) (h : SlotAt W b off s) :
 Calls Tryd.prog 36 #[.pointer (some ⟨b, off, none⟩), .agg #[.int .i64 x.f0, .int .i64 x.f1, .int .i64 x.f2, .int .i64 x.f3, .int .i64 x.f4, .int .i64 x.f5, .int .i64 x.f6, .int .i64 x.f7, .int .i64 x.f8, .int .i64 x.f9, .int .i64 x.f10]] W fun e w' => e = .returned (.bool (s.fitsB x)) ∧ Below W.heap.size W w' := by
 have HB := As (Below.refl W.heap.size W)
 have hu := Tryd.underlying39
 obtain ⟨W0, hW0⟩ : ∃ W0, W0 = W.alloc (.cells #[.int .i64 x.f0, .int .i64 x.f1, .int .i64 x.f2, .int .i64 x.f3, .int .i64 x.f4, .int .i64 x.f5, .int .i64 x.f6, .int .i64 x.f7, .int .i64 x.f8, .int .i64 x.f9, .int .i64 x.f10] 39) := ⟨_, rfl⟩
 have hb0 : Below W.heap.size W W0 := by rw [hW0]; exact below_alloc (Below.refl _ _) _
 have hBx : BlkIs W0 W.heap.size 39 [.int .i64 x.f0, .int .i64 x.f1, .int .i64 x.f2, .int .i64 x.f3, .int .i64 x.f4, .int .i64 x.f5, .int .i64 x.f6, .int .i64 x.f7, .int .i64 x.f8, .int .i64 x.f9, .int .i64 x.f10] := by rw [hW0]; exact heap_alloc_new W _
 have h' := h.below hb0
 have c4 : W0.cell? ⟨W.heap.size, 4, none⟩ = some (.int .i64 x.f4) := hBx.at_ 4
 have c5 : W0.cell? ⟨W.heap.size, 5, none⟩ = some (.int .i64 x.f5) := hBx.at_ 5
 have c7 : W0.cell? ⟨W.heap.size, 7, none⟩ = some (.int .i64 x.f7) := hBx.at_ 7
 have c8 : W0.cell? ⟨W.heap.size, 8, none⟩ = some (.int .i64 x.f8) := hBx.at_ 8
 have c9 : W0.cell? ⟨W.heap.size, 9, none⟩ = some (.int .i64 x.f9) := hBx.at_ 9
 have s0 : W0.cell? ⟨b, off, none⟩ = some (.bool s.g) := h' 0 _ rfl
 have s10 : W0.cell? ⟨b, off + 10, none⟩ = some (.int .i64 s.top) := h' 10 _ rfl
 have s4 : W0.cell? ⟨b, off + 1 + 3, none⟩ = some (.int .i64 s.l.h) := h' 4 _ rfl
 have s5 : W0.cell? ⟨b, off + 1 + 4, none⟩ = some (.int .i64 s.l.z) := h' 5 _ rfl
 have HIN : Aside0 (∀ n, Calls Tryd.prog 32 #[.pointer (some ⟨b, off, none⟩), .int .i64 x.f4] (W0.drewN n) fun e w' => e = .returned (.bool (s.inB x.f4)) ∧ w' = W0.drewN n) := ⟨fun n => slot_in.calls b off s x.f4 (W0.drewN n) h'⟩
 have HB0 := As hb0
 have HW := As hW0
 clear h h' hBx hb0 hW0
 unfold Sl.fitsB
 by_cases k1 : x.f5 = 1
 ·rw [if_pos k1]
  have d1 : (x.f5 == 1) = true := beq_iff_eq.mpr k1
  clear k1
  cases hg : s.g with
  | false =>
   rw [hg] at s0
   go_enter Tryd.func36, Tryd.ntmps36
   go_wp2_with (fail)
   rw [← HW.out]
   go_quiet ((fail))
   go_wp2
   go_ret
   exact ⟨rfl, by repeat (first | exact HB0.out | apply below_drew1 | apply pw_below_drewN)⟩
  | true =>
   rw [hg] at s0
   go_enter Tryd.func36, Tryd.ntmps36
   go_wp2_with (fail)
   rw [← HW.out]
   go_quiet ((fail))
   go_wp2
   go_ret
   exact ⟨rfl, by repeat (first | exact HB0.out | apply below_drew1 | apply pw_below_drewN)⟩
 ·rw [if_neg k1]
  have d1 : (x.f5 == 1) = false := beq_eq_false_iff_ne.mpr k1
  clear k1
  by_cases k2 : x.f5 = 2
  ·rw [if_pos k2]
   have d2 : (x.f5 == 2) = true := beq_iff_eq.mpr k2
   clear k2
   cases hi : s.inB x.f4 with
   | false =>
    rw [hi] at HIN
    go_enter Tryd.func36, Tryd.ntmps36
    go_wp2_with (fail)
    rw [← HW.out]
    go_quiet ((go_at_call 32; exact Calls.quiet_of_same (HIN.out _)))
    go_wp2
    go_ret
    exact ⟨rfl, by repeat (first | exact HB0.out | apply below_drew1 | apply pw_below_drewN)⟩
   | true =>
    rw [hi] at HIN
    go_enter Tryd.func36, Tryd.ntmps36
    go_wp2_with (fail)
    rw [← HW.out]
    go_quiet ((go_at_call 32; exact Calls.quiet_of_same (HIN.out _)))
    go_wp2
    go_ret
    exact ⟨rfl, by repeat (first | exact HB0.out | apply below_drew1 | apply pw_below_drewN)⟩
  ·rw [if_neg k2]
   have d2 : (x.f5 == 2) = false := beq_eq_false_iff_ne.mpr k2
   clear k2
   have HI0 : Aside0 (Calls Tryd.prog 32 #[.pointer (some ⟨b, off, none⟩), .int .i64 x.f4] W0 fun e w' => e = .returned (.bool (s.inB x.f4)) ∧ W0 = w') := ⟨(HIN.out 0).mono fun e w' h => ⟨h.1, h.2.symm⟩⟩
   by_cases k3 : x.f5 = 3
   ·rw [if_pos (.inl k3)]
    have d3 : (x.f5 == 3) = true := beq_iff_eq.mpr k3
    clear k3
    go_enter Tryd.func36, Tryd.ntmps36
    go_wp2_with (go_at_call 32; rw [← HW.out]; (with_reducible refine (HI0.out).mono ?_); rintro e w' ⟨rfl, rfl⟩)
    go_ret
    exact ⟨rfl, by repeat (first | exact HB0.out | apply below_drew1 | apply pw_below_drewN)⟩
   ·have d3 : (x.f5 == 3) = false := beq_eq_false_iff_ne.mpr k3
    by_cases k5 : x.f5 = 5
    ·rw [if_pos (.inr k5)]
     have d5 : (x.f5 == 5) = true := beq_iff_eq.mpr k5
     clear k3 k5
     go_enter Tryd.func36, Tryd.ntmps36
     go_wp2_with (go_at_call 32; rw [← HW.out]; (with_reducible refine (HI0.out).mono ?_); rintro e w' ⟨rfl, rfl⟩)
     go_ret
     exact ⟨rfl, by repeat (first | exact HB0.out | apply below_drew1 | apply pw_below_drewN)⟩
    ·rw [if_neg (fun h => h.elim k3 k5)]
     have d5 : (x.f5 == 5) = false := beq_eq_false_iff_ne.mpr k5
     clear k3 k5 HI0
     cases hi : s.inB x.f4 with
     | false =>
      rw [hi] at HIN
      go_enter Tryd.func36, Tryd.ntmps36
      go_wp2_with (fail)
      rw [← HW.out]
      go_quiet ((go_at_call 32; exact Calls.quiet_of_same (HIN.out _)))
      go_wp2
      go_ret
      exact ⟨rfl, by repeat (first | exact HB0.out | apply below_drew1 | apply pw_below_drewN)⟩
     | true =>
      rw [hi] at HIN
      cases hh : (s.l.h == x.f7) with
      | false =>
       go_enter Tryd.func36, Tryd.ntmps36
       go_wp2_with (fail)
       rw [← HW.out]
       go_quiet ((go_at_call 32; exact Calls.quiet_of_same (HIN.out _)))
       go_wp2
       go_ret
       exact ⟨rfl, by repeat (first | exact HB0.out | apply below_drew1 | apply pw_below_drewN)⟩
      | true =>
       go_enter Tryd.func36, Tryd.ntmps36
       go_wp2_with (fail)
       rw [← HW.out]
       go_quiet ((go_at_call 32; exact Calls.quiet_of_same (HIN.out _)))
       go_wp2
       go_ret
       exact ⟨rfl, by repeat (first | exact HB0.out | apply below_drew1 | apply pw_below_drewN)⟩
def mxI (a b : Int) : Int := if a < b then b else a
def Sl.takeS (s : Sl) (x : S39) : Sl :=
 if x.f5 = 1 then ⟨true, ⟨x.f1, x.f0, x.f6, x.f7, x.f8, x.f4, x.f9, false⟩, false, mxI s.top x.f9⟩
 else if x.f5 = 2 then ⟨s.g, ⟨s.l.o, s.l.k, s.l.s, s.l.h, s.l.z, s.l.fr, mxI s.l.un x.f9, s.l.rc⟩, s.e, mxI s.top x.f9⟩
 else if x.f5 = 3 ∨ x.f5 = 5 then ⟨s.g, s.l, true, mxI s.top x.f9⟩
 else ⟨s.g, ⟨s.l.o, s.l.k, s.l.s, s.l.h, s.l.z, s.l.fr, s.l.un, true⟩, s.e, mxI s.top x.f9⟩
def TakePost (b : Nat) (T : TypeId) (A B : List Value) (s : Sl) (x : S39) (W w' : World) : Prop := BlkIs w' b T (A ++ (s.takeS x).enc ++ B) ∧ W.grownBy w' (some b)
set_option maxHeartbeats 8000000 in
set_option maxRecDepth 100000 in
theorem slot_take.calls (b : Nat) (T : TypeId) (A B : List Value) (s : Sl) (x : S39) (W : World) (hB : BlkIs W b T (A ++ s.enc ++ B)) :
 Calls Tryd.prog 31 #[.pointer (some ⟨b, A.length, none⟩), .agg #[.int .i64 x.f0, .int .i64 x.f1, .int .i64 x.f2, .int .i64 x.f3, .int .i64 x.f4, .int .i64 x.f5, .int .i64 x.f6, .int .i64 x.f7, .int .i64 x.f8, .int .i64 x.f9, .int .i64 x.f10]] W fun e w' => e = .returned (.tuple #[]) ∧ TakePost b T A B s x W w' := by
 have hu := Tryd.underlying39
 obtain ⟨W0, hW0⟩ : ∃ W0, W0 = W.alloc (.cells #[.int .i64 x.f0, .int .i64 x.f1, .int .i64 x.f2, .int .i64 x.f3, .int .i64 x.f4, .int .i64 x.f5, .int .i64 x.f6, .int .i64 x.f7, .int .i64 x.f8, .int .i64 x.f9, .int .i64 x.f10] 39) := ⟨_, rfl⟩
 have hX0 : BlkIs W0 W.heap.size 39 [.int .i64 x.f0, .int .i64 x.f1, .int .i64 x.f2, .int .i64 x.f3, .int .i64 x.f4, .int .i64 x.f5, .int .i64 x.f6, .int .i64 x.f7, .int .i64 x.f8, .int .i64 x.f9, .int .i64 x.f10] := by rw [hW0]; exact heap_alloc_new W _
 have hB0 : BlkIs W0 b T (A ++ s.enc ++ B) := by rw [hW0]; exact hB.alloc _
 have hG0 : W.grownBy W0 (some b) := by rw [hW0]; exact grown_of_below (below_alloc (Below.refl _ _) _) _
 have hne : ¬ W.heap.size = b := by have := hB.lt; omega
 have HX0 := As hX0
 have SB0 := As hB0
 have HG0 := As hG0
 have HW := As hW0
 have HNE : Aside0 (some W.heap.size ≠ some b) := ⟨fun e => hne (by injection e)⟩
 clear hB hX0 hB0 hG0 hW0
 by_cases k1 : x.f5 = 1
 ·have HT : Aside0 (s.takeS x = ⟨true, ⟨x.f1, x.f0, x.f6, x.f7, x.f8, x.f4, x.f9, false⟩, false, mxI s.top x.f9⟩) := ⟨if_pos k1⟩
  have d1 : (x.f5 == 1) = true := beq_iff_eq.mpr k1
  clear k1
  go_enter Tryd.func31, Tryd.ntmps31
  go_upto_region 1 with (fail)
  rw [← HW.out]
  have c0 : W0.cell? ⟨W.heap.size, 0, none⟩ = some (.int .i64 x.f0) := HX0.out.at_ 0
  have c1 : W0.cell? ⟨W.heap.size, 1, none⟩ = some (.int .i64 x.f1) := HX0.out.at_ 1
  obtain ⟨_, _, _, _, c4, c5, c6, c7, c8, c9, _⟩ := cs11 HX0.out
  have s7 : W0.cell? ⟨b, A.length + 1 + 6, none⟩ = some (.int .i64 s.l.un) := seg_at SB0.out 7 rfl
  have s10 : W0.cell? ⟨b, A.length + 10, none⟩ = some (.int .i64 s.top) := seg_at SB0.out 10 rfl
  go_upto_region 11 with (first | ((with_reducible refine gate_ (.store 4 (.tmp 15) (.const (.bool true))) rfl ?_); refine seg_store ?hN ?hgd 4 (.tmp 15) (.const (.bool true)) ?ho (SB0.out) 0 (.bool true) [.bool true] [.bool true, .int .i64 s.l.o, .int .i64 s.l.k, .int .i64 s.l.s, .int .i64 s.l.h, .int .i64 s.l.z, .int .i64 s.l.fr, .int .i64 s.l.un, .bool s.l.rc, .bool s.e, .int .i64 s.top] ?ha ?hx ?hu ?ht ?hf ?h1 ?hE ?_; (case hN => rfl); (case hgd => rfl); (case ho => rfl); (case ha => exact ⟨_, rfl, by omega⟩); (case hx => rfl); (case hu => rfl); (case ht => kernel_rfl); (case hf => exact Nat.le_of_ble_eq_true rfl); (case h1 => intro v hv; simp only [List.mem_cons, List.not_mem_nil, or_false] at hv; rcases hv with rfl <;> rfl); (case hE => rfl); intro w1 SB1 hg1; have HX1 := As (HX0.out.grown hg1.out HNE.out); have HG1 := As (grown2 HG0.out hg1.out); have c0 : w1.cell? ⟨W.heap.size, 0, none⟩ = some (.int .i64 x.f0) := HX1.out.at_ 0; have c1 : w1.cell? ⟨W.heap.size, 1, none⟩ = some (.int .i64 x.f1) := HX1.out.at_ 1; obtain ⟨_, _, _, _, c4, c5, c6, c7, c8, c9, _⟩ := cs11 HX1.out; have s7 : w1.cell? ⟨b, A.length + 1 + 6, none⟩ = some (.int .i64 s.l.un) := seg_at SB1.out 7 rfl; have s10 : w1.cell? ⟨b, A.length + 10, none⟩ = some (.int .i64 s.top) := seg_at SB1.out 10 rfl) | ((with_reducible refine gate_ (.store 4 (.tmp 17) (.const (.bool false))) rfl ?_); refine seg_store ?hN ?hgd 4 (.tmp 17) (.const (.bool false)) ?ho (SB1.out) 9 (.bool false) [.bool false] [.bool true, .int .i64 s.l.o, .int .i64 s.l.k, .int .i64 s.l.s, .int .i64 s.l.h, .int .i64 s.l.z, .int .i64 s.l.fr, .int .i64 s.l.un, .bool s.l.rc, .bool false, .int .i64 s.top] ?ha ?hx ?hu ?ht ?hf ?h1 ?hE ?_; (case hN => rfl); (case hgd => rfl); (case ho => rfl); (case ha => exact ⟨_, rfl, by omega⟩); (case hx => rfl); (case hu => rfl); (case ht => kernel_rfl); (case hf => exact Nat.le_of_ble_eq_true rfl); (case h1 => intro v hv; simp only [List.mem_cons, List.not_mem_nil, or_false] at hv; rcases hv with rfl <;> rfl); (case hE => rfl); intro w2 SB2 hg2; have HX2 := As (HX1.out.grown hg2.out HNE.out); have HG2 := As (grown2 HG1.out hg2.out); have c0 : w2.cell? ⟨W.heap.size, 0, none⟩ = some (.int .i64 x.f0) := HX2.out.at_ 0; have c1 : w2.cell? ⟨W.heap.size, 1, none⟩ = some (.int .i64 x.f1) := HX2.out.at_ 1; obtain ⟨_, _, _, _, c4, c5, c6, c7, c8, c9, _⟩ := cs11 HX2.out; have s7 : w2.cell? ⟨b, A.length + 1 + 6, none⟩ = some (.int .i64 s.l.un) := seg_at SB2.out 7 rfl; have s10 : w2.cell? ⟨b, A.length + 10, none⟩ = some (.int .i64 s.top) := seg_at SB2.out 10 rfl) | ((with_reducible refine gate_ (.store 41 (.tmp 35) (.tmp 33)) rfl ?_); refine seg_store ?hN ?hgd 41 (.tmp 35) (.tmp 33) ?ho (SB2.out) 1 (.agg #[.int .i64 x.f1, .int .i64 x.f0, .int .i64 x.f6, .int .i64 x.f7, .int .i64 x.f8, .int .i64 x.f4, .int .i64 x.f9, .bool false]) [.int .i64 x.f1, .int .i64 x.f0, .int .i64 x.f6, .int .i64 x.f7, .int .i64 x.f8, .int .i64 x.f4, .int .i64 x.f9, .bool false] [.bool true, .int .i64 x.f1, .int .i64 x.f0, .int .i64 x.f6, .int .i64 x.f7, .int .i64 x.f8, .int .i64 x.f4, .int .i64 x.f9, .bool false, .bool false, .int .i64 s.top] ?ha ?hx ?hu ?ht ?hf ?h1 ?hE ?_; (case hN => rfl); (case hgd => rfl); (case ho => rfl); (case ha => exact ⟨_, rfl, by omega⟩); (case hx => rfl); (case hu => rfl); (case ht => kernel_rfl); (case hf => exact Nat.le_of_ble_eq_true rfl); (case h1 => intro v hv; simp only [List.mem_cons, List.not_mem_nil, or_false] at hv; rcases hv with rfl | rfl | rfl | rfl | rfl | rfl | rfl | rfl <;> rfl); (case hE => rfl); intro w3 SB3 hg3; have HX3 := As (HX2.out.grown hg3.out HNE.out); have HG3 := As (grown2 HG2.out hg3.out); have c9 : w3.cell? ⟨W.heap.size, 9, none⟩ = some (.int .i64 x.f9) := HX3.out.at_ 9; have s7 : w3.cell? ⟨b, A.length + 1 + 6, none⟩ = some (.int .i64 x.f9) := seg_at SB3.out 7 rfl; have s10 : w3.cell? ⟨b, A.length + 10, none⟩ = some (.int .i64 s.top) := seg_at SB3.out 10 rfl))
  by_cases hm : s.top < x.f9
  ·have HM : Aside0 (mxI s.top x.f9 = x.f9) := ⟨if_pos hm⟩
   go_still_tail 10, (by kernel_rfl)
   go_wp2_with (((with_reducible refine gate_ (.store 3 (.tmp 65) (.tmp 63)) rfl ?_); refine seg_store ?hN ?hgd 3 (.tmp 65) (.tmp 63) ?ho (SB3.out.drew) 10 (.int .i64 x.f9) [.int .i64 x.f9] [.bool true, .int .i64 x.f1, .int .i64 x.f0, .int .i64 x.f6, .int .i64 x.f7, .int .i64 x.f8, .int .i64 x.f4, .int .i64 x.f9, .bool false, .bool false, .int .i64 x.f9] ?ha ?hx ?hu ?ht ?hf ?h1 ?hE ?_; (case hN => rfl); (case hgd => rfl); (case ho => rfl); (case ha => exact ⟨_, rfl, by omega⟩); (case hx => rfl); (case hu => rfl); (case ht => kernel_rfl); (case hf => exact Nat.le_of_ble_eq_true rfl); (case h1 => intro v hv; simp only [List.mem_cons, List.not_mem_nil, or_false] at hv; rcases hv with rfl <;> rfl); (case hE => rfl); intro w4 SB4 hg4; have HX4 := As (HX3.out.drew.grown hg4.out HNE.out); have HG4 := As (grown2 (grown2 HG3.out (grown_drew _ _)) hg4.out)))
   (first | go_end0 | ((try simp only [Exit.inBlock, Exit.then]); refine bodyPost_ret (results_none rfl _ _ _) rfl ?_))
   exact ⟨rfl, by unfold TakePost; rw [HT.out, HM.out]; exact ⟨SB4.out, HG4.out⟩⟩
  ·have HM : Aside0 (mxI s.top x.f9 = s.top) := ⟨if_neg hm⟩
   go_still_tail 10, (by kernel_rfl)
   go_wp2_with (((with_reducible refine gate_ (.store 3 (.tmp 65) (.tmp 63)) rfl ?_); refine seg_store ?hN ?hgd 3 (.tmp 65) (.tmp 63) ?ho (SB3.out.drew) 10 (.int .i64 s.top) [.int .i64 s.top] [.bool true, .int .i64 x.f1, .int .i64 x.f0, .int .i64 x.f6, .int .i64 x.f7, .int .i64 x.f8, .int .i64 x.f4, .int .i64 x.f9, .bool false, .bool false, .int .i64 s.top] ?ha ?hx ?hu ?ht ?hf ?h1 ?hE ?_; (case hN => rfl); (case hgd => rfl); (case ho => rfl); (case ha => exact ⟨_, rfl, by omega⟩); (case hx => rfl); (case hu => rfl); (case ht => kernel_rfl); (case hf => exact Nat.le_of_ble_eq_true rfl); (case h1 => intro v hv; simp only [List.mem_cons, List.not_mem_nil, or_false] at hv; rcases hv with rfl <;> rfl); (case hE => rfl); intro w4 SB4 hg4; have HX4 := As (HX3.out.drew.grown hg4.out HNE.out); have HG4 := As (grown2 (grown2 HG3.out (grown_drew _ _)) hg4.out)))
   (first | go_end0 | ((try simp only [Exit.inBlock, Exit.then]); refine bodyPost_ret (results_none rfl _ _ _) rfl ?_))
   exact ⟨rfl, by unfold TakePost; rw [HT.out, HM.out]; exact ⟨SB4.out, HG4.out⟩⟩
 ·have d1 : (x.f5 == 1) = false := beq_eq_false_iff_ne.mpr k1
  by_cases k2 : x.f5 = 2
  ·have HT : Aside0 (s.takeS x = ⟨s.g, ⟨s.l.o, s.l.k, s.l.s, s.l.h, s.l.z, s.l.fr, mxI s.l.un x.f9, s.l.rc⟩, s.e, mxI s.top x.f9⟩) := ⟨(if_neg k1).trans (if_pos k2)⟩
   clear k1
   have d2 : (x.f5 == 2) = true := beq_iff_eq.mpr k2
   clear k2
   go_enter Tryd.func31, Tryd.ntmps31
   go_upto_region 1 with (fail)
   rw [← HW.out]
   have c0 : W0.cell? ⟨W.heap.size, 0, none⟩ = some (.int .i64 x.f0) := HX0.out.at_ 0
   have c1 : W0.cell? ⟨W.heap.size, 1, none⟩ = some (.int .i64 x.f1) := HX0.out.at_ 1
   obtain ⟨_, _, _, _, c4, c5, c6, c7, c8, c9, _⟩ := cs11 HX0.out
   have s7 : W0.cell? ⟨b, A.length + 1 + 6, none⟩ = some (.int .i64 s.l.un) := seg_at SB0.out 7 rfl
   have s10 : W0.cell? ⟨b, A.length + 10, none⟩ = some (.int .i64 s.top) := seg_at SB0.out 10 rfl
   by_cases hu_ : s.l.un < x.f9
   ·have HU : Aside0 (mxI s.l.un x.f9 = x.f9) := ⟨if_pos hu_⟩
    go_upto_region 7 with (fail)
    go_still_tail 9, (by kernel_rfl)
    go_upto_region 11 with (((with_reducible refine gate_ (.store 3 (.tmp 49) (.tmp 46)) rfl ?_); refine seg_store ?hN ?hgd 3 (.tmp 49) (.tmp 46) ?ho (SB0.out.drew) 7 (.int .i64 x.f9) [.int .i64 x.f9] [.bool s.g, .int .i64 s.l.o, .int .i64 s.l.k, .int .i64 s.l.s, .int .i64 s.l.h, .int .i64 s.l.z, .int .i64 s.l.fr, .int .i64 x.f9, .bool s.l.rc, .bool s.e, .int .i64 s.top] ?ha ?hx ?hu ?ht ?hf ?h1 ?hE ?_; (case hN => rfl); (case hgd => rfl); (case ho => rfl); (case ha => exact ⟨_, rfl, by omega⟩); (case hx => rfl); (case hu => rfl); (case ht => kernel_rfl); (case hf => exact Nat.le_of_ble_eq_true rfl); (case h1 => intro v hv; simp only [List.mem_cons, List.not_mem_nil, or_false] at hv; rcases hv with rfl <;> rfl); (case hE => rfl); intro w1 SB1 hg1; have HX1 := As (HX0.out.drew.grown hg1.out HNE.out); have HG1 := As (grown2 (grown2 HG0.out (grown_drew _ _)) hg1.out); have c9 : w1.cell? ⟨W.heap.size, 9, none⟩ = some (.int .i64 x.f9) := HX1.out.at_ 9; have s7 : w1.cell? ⟨b, A.length + 1 + 6, none⟩ = some (.int .i64 x.f9) := seg_at SB1.out 7 rfl; have s10 : w1.cell? ⟨b, A.length + 10, none⟩ = some (.int .i64 s.top) := seg_at SB1.out 10 rfl))
    clear hu_
    by_cases hm : s.top < x.f9
    ·have HM : Aside0 (mxI s.top x.f9 = x.f9) := ⟨if_pos hm⟩
     go_still_tail 10, (by kernel_rfl)
     go_wp2_with (((with_reducible refine gate_ (.store 3 (.tmp 65) (.tmp 63)) rfl ?_); refine seg_store ?hN ?hgd 3 (.tmp 65) (.tmp 63) ?ho (SB1.out.drew) 10 (.int .i64 x.f9) [.int .i64 x.f9] [.bool s.g, .int .i64 s.l.o, .int .i64 s.l.k, .int .i64 s.l.s, .int .i64 s.l.h, .int .i64 s.l.z, .int .i64 s.l.fr, .int .i64 x.f9, .bool s.l.rc, .bool s.e, .int .i64 x.f9] ?ha ?hx ?hu ?ht ?hf ?h1 ?hE ?_; (case hN => rfl); (case hgd => rfl); (case ho => rfl); (case ha => exact ⟨_, rfl, by omega⟩); (case hx => rfl); (case hu => rfl); (case ht => kernel_rfl); (case hf => exact Nat.le_of_ble_eq_true rfl); (case h1 => intro v hv; simp only [List.mem_cons, List.not_mem_nil, or_false] at hv; rcases hv with rfl <;> rfl); (case hE => rfl); intro w2 SB2 hg2; have HX2 := As (HX1.out.drew.grown hg2.out HNE.out); have HG2 := As (grown2 (grown2 HG1.out (grown_drew _ _)) hg2.out)))
     (first | go_end0 | ((try simp only [Exit.inBlock, Exit.then]); refine bodyPost_ret (results_none rfl _ _ _) rfl ?_))
     exact ⟨rfl, by unfold TakePost; rw [HT.out, HM.out, HU.out]; exact ⟨SB2.out, HG2.out⟩⟩
    ·have HM : Aside0 (mxI s.top x.f9 = s.top) := ⟨if_neg hm⟩
     go_still_tail 10, (by kernel_rfl)
     go_wp2_with (((with_reducible refine gate_ (.store 3 (.tmp 65) (.tmp 63)) rfl ?_); refine seg_store ?hN ?hgd 3 (.tmp 65) (.tmp 63) ?ho (SB1.out.drew) 10 (.int .i64 s.top) [.int .i64 s.top] [.bool s.g, .int .i64 s.l.o, .int .i64 s.l.k, .int .i64 s.l.s, .int .i64 s.l.h, .int .i64 s.l.z, .int .i64 s.l.fr, .int .i64 x.f9, .bool s.l.rc, .bool s.e, .int .i64 s.top] ?ha ?hx ?hu ?ht ?hf ?h1 ?hE ?_; (case hN => rfl); (case hgd => rfl); (case ho => rfl); (case ha => exact ⟨_, rfl, by omega⟩); (case hx => rfl); (case hu => rfl); (case ht => kernel_rfl); (case hf => exact Nat.le_of_ble_eq_true rfl); (case h1 => intro v hv; simp only [List.mem_cons, List.not_mem_nil, or_false] at hv; rcases hv with rfl <;> rfl); (case hE => rfl); intro w2 SB2 hg2; have HX2 := As (HX1.out.drew.grown hg2.out HNE.out); have HG2 := As (grown2 (grown2 HG1.out (grown_drew _ _)) hg2.out)))
     (first | go_end0 | ((try simp only [Exit.inBlock, Exit.then]); refine bodyPost_ret (results_none rfl _ _ _) rfl ?_))
     exact ⟨rfl, by unfold TakePost; rw [HT.out, HM.out, HU.out]; exact ⟨SB2.out, HG2.out⟩⟩
   ·have HU : Aside0 (mxI s.l.un x.f9 = s.l.un) := ⟨if_neg hu_⟩
    go_upto_region 7 with (fail)
    go_still_tail 9, (by kernel_rfl)
    go_upto_region 11 with (((with_reducible refine gate_ (.store 3 (.tmp 49) (.tmp 46)) rfl ?_); refine seg_store ?hN ?hgd 3 (.tmp 49) (.tmp 46) ?ho (SB0.out.drew) 7 (.int .i64 s.l.un) [.int .i64 s.l.un] [.bool s.g, .int .i64 s.l.o, .int .i64 s.l.k, .int .i64 s.l.s, .int .i64 s.l.h, .int .i64 s.l.z, .int .i64 s.l.fr, .int .i64 s.l.un, .bool s.l.rc, .bool s.e, .int .i64 s.top] ?ha ?hx ?hu ?ht ?hf ?h1 ?hE ?_; (case hN => rfl); (case hgd => rfl); (case ho => rfl); (case ha => exact ⟨_, rfl, by omega⟩); (case hx => rfl); (case hu => rfl); (case ht => kernel_rfl); (case hf => exact Nat.le_of_ble_eq_true rfl); (case h1 => intro v hv; simp only [List.mem_cons, List.not_mem_nil, or_false] at hv; rcases hv with rfl <;> rfl); (case hE => rfl); intro w1 SB1 hg1; have HX1 := As (HX0.out.drew.grown hg1.out HNE.out); have HG1 := As (grown2 (grown2 HG0.out (grown_drew _ _)) hg1.out); have c9 : w1.cell? ⟨W.heap.size, 9, none⟩ = some (.int .i64 x.f9) := HX1.out.at_ 9; have s7 : w1.cell? ⟨b, A.length + 1 + 6, none⟩ = some (.int .i64 s.l.un) := seg_at SB1.out 7 rfl; have s10 : w1.cell? ⟨b, A.length + 10, none⟩ = some (.int .i64 s.top) := seg_at SB1.out 10 rfl))
    clear hu_
    by_cases hm : s.top < x.f9
    ·have HM : Aside0 (mxI s.top x.f9 = x.f9) := ⟨if_pos hm⟩
     go_still_tail 10, (by kernel_rfl)
     go_wp2_with (((with_reducible refine gate_ (.store 3 (.tmp 65) (.tmp 63)) rfl ?_); refine seg_store ?hN ?hgd 3 (.tmp 65) (.tmp 63) ?ho (SB1.out.drew) 10 (.int .i64 x.f9) [.int .i64 x.f9] [.bool s.g, .int .i64 s.l.o, .int .i64 s.l.k, .int .i64 s.l.s, .int .i64 s.l.h, .int .i64 s.l.z, .int .i64 s.l.fr, .int .i64 s.l.un, .bool s.l.rc, .bool s.e, .int .i64 x.f9] ?ha ?hx ?hu ?ht ?hf ?h1 ?hE ?_; (case hN => rfl); (case hgd => rfl); (case ho => rfl); (case ha => exact ⟨_, rfl, by omega⟩); (case hx => rfl); (case hu => rfl); (case ht => kernel_rfl); (case hf => exact Nat.le_of_ble_eq_true rfl); (case h1 => intro v hv; simp only [List.mem_cons, List.not_mem_nil, or_false] at hv; rcases hv with rfl <;> rfl); (case hE => rfl); intro w2 SB2 hg2; have HX2 := As (HX1.out.drew.grown hg2.out HNE.out); have HG2 := As (grown2 (grown2 HG1.out (grown_drew _ _)) hg2.out)))
     (first | go_end0 | ((try simp only [Exit.inBlock, Exit.then]); refine bodyPost_ret (results_none rfl _ _ _) rfl ?_))
     exact ⟨rfl, by unfold TakePost; rw [HT.out, HM.out, HU.out]; exact ⟨SB2.out, HG2.out⟩⟩
    ·have HM : Aside0 (mxI s.top x.f9 = s.top) := ⟨if_neg hm⟩
     go_still_tail 10, (by kernel_rfl)
     go_wp2_with (((with_reducible refine gate_ (.store 3 (.tmp 65) (.tmp 63)) rfl ?_); refine seg_store ?hN ?hgd 3 (.tmp 65) (.tmp 63) ?ho (SB1.out.drew) 10 (.int .i64 s.top) [.int .i64 s.top] [.bool s.g, .int .i64 s.l.o, .int .i64 s.l.k, .int .i64 s.l.s, .int .i64 s.l.h, .int .i64 s.l.z, .int .i64 s.l.fr, .int .i64 s.l.un, .bool s.l.rc, .bool s.e, .int .i64 s.top] ?ha ?hx ?hu ?ht ?hf ?h1 ?hE ?_; (case hN => rfl); (case hgd => rfl); (case ho => rfl); (case ha => exact ⟨_, rfl, by omega⟩); (case hx => rfl); (case hu => rfl); (case ht => kernel_rfl); (case hf => exact Nat.le_of_ble_eq_true rfl); (case h1 => intro v hv; simp only [List.mem_cons, List.not_mem_nil, or_false] at hv; rcases hv with rfl <;> rfl); (case hE => rfl); intro w2 SB2 hg2; have HX2 := As (HX1.out.drew.grown hg2.out HNE.out); have HG2 := As (grown2 (grown2 HG1.out (grown_drew _ _)) hg2.out)))
     (first | go_end0 | ((try simp only [Exit.inBlock, Exit.then]); refine bodyPost_ret (results_none rfl _ _ _) rfl ?_))
     exact ⟨rfl, by unfold TakePost; rw [HT.out, HM.out, HU.out]; exact ⟨SB2.out, HG2.out⟩⟩
  ·have d2 : (x.f5 == 2) = false := beq_eq_false_iff_ne.mpr k2
   by_cases k3 : x.f5 = 3
   ·have HT : Aside0 (s.takeS x = ⟨s.g, s.l, true, mxI s.top x.f9⟩) := ⟨(if_neg k1).trans ((if_neg k2).trans (if_pos (.inl k3)))⟩
    clear k1 k2
    have d3 : (x.f5 == 3) = true := beq_iff_eq.mpr k3
    clear k3
    go_enter Tryd.func31, Tryd.ntmps31
    go_upto_region 1 with (fail)
    rw [← HW.out]
    have c0 : W0.cell? ⟨W.heap.size, 0, none⟩ = some (.int .i64 x.f0) := HX0.out.at_ 0
    have c1 : W0.cell? ⟨W.heap.size, 1, none⟩ = some (.int .i64 x.f1) := HX0.out.at_ 1
    obtain ⟨_, _, _, _, c4, c5, c6, c7, c8, c9, _⟩ := cs11 HX0.out
    have s7 : W0.cell? ⟨b, A.length + 1 + 6, none⟩ = some (.int .i64 s.l.un) := seg_at SB0.out 7 rfl
    have s10 : W0.cell? ⟨b, A.length + 10, none⟩ = some (.int .i64 s.top) := seg_at SB0.out 10 rfl
    go_upto_region 11 with (((with_reducible refine gate_ (.store 4 (.tmp 55) (.const (.bool true))) rfl ?_); refine seg_store ?hN ?hgd 4 (.tmp 55) (.const (.bool true)) ?ho (SB0.out) 9 (.bool true) [.bool true] [.bool s.g, .int .i64 s.l.o, .int .i64 s.l.k, .int .i64 s.l.s, .int .i64 s.l.h, .int .i64 s.l.z, .int .i64 s.l.fr, .int .i64 s.l.un, .bool s.l.rc, .bool true, .int .i64 s.top] ?ha ?hx ?hu ?ht ?hf ?h1 ?hE ?_; (case hN => rfl); (case hgd => rfl); (case ho => rfl); (case ha => exact ⟨_, rfl, by omega⟩); (case hx => rfl); (case hu => rfl); (case ht => kernel_rfl); (case hf => exact Nat.le_of_ble_eq_true rfl); (case h1 => intro v hv; simp only [List.mem_cons, List.not_mem_nil, or_false] at hv; rcases hv with rfl <;> rfl); (case hE => rfl); intro w1 SB1 hg1; have HX1 := As (HX0.out.grown hg1.out HNE.out); have HG1 := As (grown2 HG0.out hg1.out); have c9 : w1.cell? ⟨W.heap.size, 9, none⟩ = some (.int .i64 x.f9) := HX1.out.at_ 9; have s7 : w1.cell? ⟨b, A.length + 1 + 6, none⟩ = some (.int .i64 s.l.un) := seg_at SB1.out 7 rfl; have s10 : w1.cell? ⟨b, A.length + 10, none⟩ = some (.int .i64 s.top) := seg_at SB1.out 10 rfl))
    by_cases hm : s.top < x.f9
    ·have HM : Aside0 (mxI s.top x.f9 = x.f9) := ⟨if_pos hm⟩
     go_still_tail 10, (by kernel_rfl)
     go_wp2_with (((with_reducible refine gate_ (.store 3 (.tmp 65) (.tmp 63)) rfl ?_); refine seg_store ?hN ?hgd 3 (.tmp 65) (.tmp 63) ?ho (SB1.out.drew) 10 (.int .i64 x.f9) [.int .i64 x.f9] [.bool s.g, .int .i64 s.l.o, .int .i64 s.l.k, .int .i64 s.l.s, .int .i64 s.l.h, .int .i64 s.l.z, .int .i64 s.l.fr, .int .i64 s.l.un, .bool s.l.rc, .bool true, .int .i64 x.f9] ?ha ?hx ?hu ?ht ?hf ?h1 ?hE ?_; (case hN => rfl); (case hgd => rfl); (case ho => rfl); (case ha => exact ⟨_, rfl, by omega⟩); (case hx => rfl); (case hu => rfl); (case ht => kernel_rfl); (case hf => exact Nat.le_of_ble_eq_true rfl); (case h1 => intro v hv; simp only [List.mem_cons, List.not_mem_nil, or_false] at hv; rcases hv with rfl <;> rfl); (case hE => rfl); intro w2 SB2 hg2; have HX2 := As (HX1.out.drew.grown hg2.out HNE.out); have HG2 := As (grown2 (grown2 HG1.out (grown_drew _ _)) hg2.out)))
     (first | go_end0 | ((try simp only [Exit.inBlock, Exit.then]); refine bodyPost_ret (results_none rfl _ _ _) rfl ?_))
     exact ⟨rfl, by unfold TakePost; rw [HT.out, HM.out]; exact ⟨SB2.out, HG2.out⟩⟩
    ·have HM : Aside0 (mxI s.top x.f9 = s.top) := ⟨if_neg hm⟩
     go_still_tail 10, (by kernel_rfl)
     go_wp2_with (((with_reducible refine gate_ (.store 3 (.tmp 65) (.tmp 63)) rfl ?_); refine seg_store ?hN ?hgd 3 (.tmp 65) (.tmp 63) ?ho (SB1.out.drew) 10 (.int .i64 s.top) [.int .i64 s.top] [.bool s.g, .int .i64 s.l.o, .int .i64 s.l.k, .int .i64 s.l.s, .int .i64 s.l.h, .int .i64 s.l.z, .int .i64 s.l.fr, .int .i64 s.l.un, .bool s.l.rc, .bool true, .int .i64 s.top] ?ha ?hx ?hu ?ht ?hf ?h1 ?hE ?_; (case hN => rfl); (case hgd => rfl); (case ho => rfl); (case ha => exact ⟨_, rfl, by omega⟩); (case hx => rfl); (case hu => rfl); (case ht => kernel_rfl); (case hf => exact Nat.le_of_ble_eq_true rfl); (case h1 => intro v hv; simp only [List.mem_cons, List.not_mem_nil, or_false] at hv; rcases hv with rfl <;> rfl); (case hE => rfl); intro w2 SB2 hg2; have HX2 := As (HX1.out.drew.grown hg2.out HNE.out); have HG2 := As (grown2 (grown2 HG1.out (grown_drew _ _)) hg2.out)))
     (first | go_end0 | ((try simp only [Exit.inBlock, Exit.then]); refine bodyPost_ret (results_none rfl _ _ _) rfl ?_))
     exact ⟨rfl, by unfold TakePost; rw [HT.out, HM.out]; exact ⟨SB2.out, HG2.out⟩⟩
   ·have d3 : (x.f5 == 3) = false := beq_eq_false_iff_ne.mpr k3
    by_cases k5 : x.f5 = 5
    ·have HT : Aside0 (s.takeS x = ⟨s.g, s.l, true, mxI s.top x.f9⟩) := ⟨(if_neg k1).trans ((if_neg k2).trans (if_pos (.inr k5)))⟩
     have d5 : (x.f5 == 5) = true := beq_iff_eq.mpr k5
     clear k1 k2 k3 k5
     go_enter Tryd.func31, Tryd.ntmps31
     go_upto_region 1 with (fail)
     rw [← HW.out]
     have c0 : W0.cell? ⟨W.heap.size, 0, none⟩ = some (.int .i64 x.f0) := HX0.out.at_ 0
     have c1 : W0.cell? ⟨W.heap.size, 1, none⟩ = some (.int .i64 x.f1) := HX0.out.at_ 1
     obtain ⟨_, _, _, _, c4, c5, c6, c7, c8, c9, _⟩ := cs11 HX0.out
     have s7 : W0.cell? ⟨b, A.length + 1 + 6, none⟩ = some (.int .i64 s.l.un) := seg_at SB0.out 7 rfl
     have s10 : W0.cell? ⟨b, A.length + 10, none⟩ = some (.int .i64 s.top) := seg_at SB0.out 10 rfl
     go_upto_region 11 with (((with_reducible refine gate_ (.store 4 (.tmp 55) (.const (.bool true))) rfl ?_); refine seg_store ?hN ?hgd 4 (.tmp 55) (.const (.bool true)) ?ho (SB0.out) 9 (.bool true) [.bool true] [.bool s.g, .int .i64 s.l.o, .int .i64 s.l.k, .int .i64 s.l.s, .int .i64 s.l.h, .int .i64 s.l.z, .int .i64 s.l.fr, .int .i64 s.l.un, .bool s.l.rc, .bool true, .int .i64 s.top] ?ha ?hx ?hu ?ht ?hf ?h1 ?hE ?_; (case hN => rfl); (case hgd => rfl); (case ho => rfl); (case ha => exact ⟨_, rfl, by omega⟩); (case hx => rfl); (case hu => rfl); (case ht => kernel_rfl); (case hf => exact Nat.le_of_ble_eq_true rfl); (case h1 => intro v hv; simp only [List.mem_cons, List.not_mem_nil, or_false] at hv; rcases hv with rfl <;> rfl); (case hE => rfl); intro w1 SB1 hg1; have HX1 := As (HX0.out.grown hg1.out HNE.out); have HG1 := As (grown2 HG0.out hg1.out); have c9 : w1.cell? ⟨W.heap.size, 9, none⟩ = some (.int .i64 x.f9) := HX1.out.at_ 9; have s7 : w1.cell? ⟨b, A.length + 1 + 6, none⟩ = some (.int .i64 s.l.un) := seg_at SB1.out 7 rfl; have s10 : w1.cell? ⟨b, A.length + 10, none⟩ = some (.int .i64 s.top) := seg_at SB1.out 10 rfl))
     by_cases hm : s.top < x.f9
     ·have HM : Aside0 (mxI s.top x.f9 = x.f9) := ⟨if_pos hm⟩
      go_still_tail 10, (by kernel_rfl)
      go_wp2_with (((with_reducible refine gate_ (.store 3 (.tmp 65) (.tmp 63)) rfl ?_); refine seg_store ?hN ?hgd 3 (.tmp 65) (.tmp 63) ?ho (SB1.out.drew) 10 (.int .i64 x.f9) [.int .i64 x.f9] [.bool s.g, .int .i64 s.l.o, .int .i64 s.l.k, .int .i64 s.l.s, .int .i64 s.l.h, .int .i64 s.l.z, .int .i64 s.l.fr, .int .i64 s.l.un, .bool s.l.rc, .bool true, .int .i64 x.f9] ?ha ?hx ?hu ?ht ?hf ?h1 ?hE ?_; (case hN => rfl); (case hgd => rfl); (case ho => rfl); (case ha => exact ⟨_, rfl, by omega⟩); (case hx => rfl); (case hu => rfl); (case ht => kernel_rfl); (case hf => exact Nat.le_of_ble_eq_true rfl); (case h1 => intro v hv; simp only [List.mem_cons, List.not_mem_nil, or_false] at hv; rcases hv with rfl <;> rfl); (case hE => rfl); intro w2 SB2 hg2; have HX2 := As (HX1.out.drew.grown hg2.out HNE.out); have HG2 := As (grown2 (grown2 HG1.out (grown_drew _ _)) hg2.out)))
      (first | go_end0 | ((try simp only [Exit.inBlock, Exit.then]); refine bodyPost_ret (results_none rfl _ _ _) rfl ?_))
      exact ⟨rfl, by unfold TakePost; rw [HT.out, HM.out]; exact ⟨SB2.out, HG2.out⟩⟩
     ·have HM : Aside0 (mxI s.top x.f9 = s.top) := ⟨if_neg hm⟩
      go_still_tail 10, (by kernel_rfl)
      go_wp2_with (((with_reducible refine gate_ (.store 3 (.tmp 65) (.tmp 63)) rfl ?_); refine seg_store ?hN ?hgd 3 (.tmp 65) (.tmp 63) ?ho (SB1.out.drew) 10 (.int .i64 s.top) [.int .i64 s.top] [.bool s.g, .int .i64 s.l.o, .int .i64 s.l.k, .int .i64 s.l.s, .int .i64 s.l.h, .int .i64 s.l.z, .int .i64 s.l.fr, .int .i64 s.l.un, .bool s.l.rc, .bool true, .int .i64 s.top] ?ha ?hx ?hu ?ht ?hf ?h1 ?hE ?_; (case hN => rfl); (case hgd => rfl); (case ho => rfl); (case ha => exact ⟨_, rfl, by omega⟩); (case hx => rfl); (case hu => rfl); (case ht => kernel_rfl); (case hf => exact Nat.le_of_ble_eq_true rfl); (case h1 => intro v hv; simp only [List.mem_cons, List.not_mem_nil, or_false] at hv; rcases hv with rfl <;> rfl); (case hE => rfl); intro w2 SB2 hg2; have HX2 := As (HX1.out.drew.grown hg2.out HNE.out); have HG2 := As (grown2 (grown2 HG1.out (grown_drew _ _)) hg2.out)))
      (first | go_end0 | ((try simp only [Exit.inBlock, Exit.then]); refine bodyPost_ret (results_none rfl _ _ _) rfl ?_))
      exact ⟨rfl, by unfold TakePost; rw [HT.out, HM.out]; exact ⟨SB2.out, HG2.out⟩⟩
    ·have HT : Aside0 (s.takeS x = ⟨s.g, ⟨s.l.o, s.l.k, s.l.s, s.l.h, s.l.z, s.l.fr, s.l.un, true⟩, s.e, mxI s.top x.f9⟩) := ⟨(if_neg k1).trans ((if_neg k2).trans (if_neg (fun h => h.elim k3 k5)))⟩
     have d5 : (x.f5 == 5) = false := beq_eq_false_iff_ne.mpr k5
     clear k1 k2 k3 k5
     go_enter Tryd.func31, Tryd.ntmps31
     go_upto_region 1 with (fail)
     rw [← HW.out]
     have c0 : W0.cell? ⟨W.heap.size, 0, none⟩ = some (.int .i64 x.f0) := HX0.out.at_ 0
     have c1 : W0.cell? ⟨W.heap.size, 1, none⟩ = some (.int .i64 x.f1) := HX0.out.at_ 1
     obtain ⟨_, _, _, _, c4, c5, c6, c7, c8, c9, _⟩ := cs11 HX0.out
     have s7 : W0.cell? ⟨b, A.length + 1 + 6, none⟩ = some (.int .i64 s.l.un) := seg_at SB0.out 7 rfl
     have s10 : W0.cell? ⟨b, A.length + 10, none⟩ = some (.int .i64 s.top) := seg_at SB0.out 10 rfl
     go_upto_region 11 with (((with_reducible refine gate_ (.store 4 (.tmp 9) (.const (.bool true))) rfl ?_); refine seg_store ?hN ?hgd 4 (.tmp 9) (.const (.bool true)) ?ho (SB0.out) 8 (.bool true) [.bool true] [.bool s.g, .int .i64 s.l.o, .int .i64 s.l.k, .int .i64 s.l.s, .int .i64 s.l.h, .int .i64 s.l.z, .int .i64 s.l.fr, .int .i64 s.l.un, .bool true, .bool s.e, .int .i64 s.top] ?ha ?hx ?hu ?ht ?hf ?h1 ?hE ?_; (case hN => rfl); (case hgd => rfl); (case ho => rfl); (case ha => exact ⟨_, rfl, by omega⟩); (case hx => rfl); (case hu => rfl); (case ht => kernel_rfl); (case hf => exact Nat.le_of_ble_eq_true rfl); (case h1 => intro v hv; simp only [List.mem_cons, List.not_mem_nil, or_false] at hv; rcases hv with rfl <;> rfl); (case hE => rfl); intro w1 SB1 hg1; have HX1 := As (HX0.out.grown hg1.out HNE.out); have HG1 := As (grown2 HG0.out hg1.out); have c9 : w1.cell? ⟨W.heap.size, 9, none⟩ = some (.int .i64 x.f9) := HX1.out.at_ 9; have s7 : w1.cell? ⟨b, A.length + 1 + 6, none⟩ = some (.int .i64 s.l.un) := seg_at SB1.out 7 rfl; have s10 : w1.cell? ⟨b, A.length + 10, none⟩ = some (.int .i64 s.top) := seg_at SB1.out 10 rfl))
     by_cases hm : s.top < x.f9
     ·have HM : Aside0 (mxI s.top x.f9 = x.f9) := ⟨if_pos hm⟩
      go_still_tail 10, (by kernel_rfl)
      go_wp2_with (((with_reducible refine gate_ (.store 3 (.tmp 65) (.tmp 63)) rfl ?_); refine seg_store ?hN ?hgd 3 (.tmp 65) (.tmp 63) ?ho (SB1.out.drew) 10 (.int .i64 x.f9) [.int .i64 x.f9] [.bool s.g, .int .i64 s.l.o, .int .i64 s.l.k, .int .i64 s.l.s, .int .i64 s.l.h, .int .i64 s.l.z, .int .i64 s.l.fr, .int .i64 s.l.un, .bool true, .bool s.e, .int .i64 x.f9] ?ha ?hx ?hu ?ht ?hf ?h1 ?hE ?_; (case hN => rfl); (case hgd => rfl); (case ho => rfl); (case ha => exact ⟨_, rfl, by omega⟩); (case hx => rfl); (case hu => rfl); (case ht => kernel_rfl); (case hf => exact Nat.le_of_ble_eq_true rfl); (case h1 => intro v hv; simp only [List.mem_cons, List.not_mem_nil, or_false] at hv; rcases hv with rfl <;> rfl); (case hE => rfl); intro w2 SB2 hg2; have HX2 := As (HX1.out.drew.grown hg2.out HNE.out); have HG2 := As (grown2 (grown2 HG1.out (grown_drew _ _)) hg2.out)))
      (first | go_end0 | ((try simp only [Exit.inBlock, Exit.then]); refine bodyPost_ret (results_none rfl _ _ _) rfl ?_))
      exact ⟨rfl, by unfold TakePost; rw [HT.out, HM.out]; exact ⟨SB2.out, HG2.out⟩⟩
     ·have HM : Aside0 (mxI s.top x.f9 = s.top) := ⟨if_neg hm⟩
      go_still_tail 10, (by kernel_rfl)
      go_wp2_with (((with_reducible refine gate_ (.store 3 (.tmp 65) (.tmp 63)) rfl ?_); refine seg_store ?hN ?hgd 3 (.tmp 65) (.tmp 63) ?ho (SB1.out.drew) 10 (.int .i64 s.top) [.int .i64 s.top] [.bool s.g, .int .i64 s.l.o, .int .i64 s.l.k, .int .i64 s.l.s, .int .i64 s.l.h, .int .i64 s.l.z, .int .i64 s.l.fr, .int .i64 s.l.un, .bool true, .bool s.e, .int .i64 s.top] ?ha ?hx ?hu ?ht ?hf ?h1 ?hE ?_; (case hN => rfl); (case hgd => rfl); (case ho => rfl); (case ha => exact ⟨_, rfl, by omega⟩); (case hx => rfl); (case hu => rfl); (case ht => kernel_rfl); (case hf => exact Nat.le_of_ble_eq_true rfl); (case h1 => intro v hv; simp only [List.mem_cons, List.not_mem_nil, or_false] at hv; rcases hv with rfl <;> rfl); (case hE => rfl); intro w2 SB2 hg2; have HX2 := As (HX1.out.drew.grown hg2.out HNE.out); have HG2 := As (grown2 (grown2 HG1.out (grown_drew _ _)) hg2.out)))
      (first | go_end0 | ((try simp only [Exit.inBlock, Exit.then]); refine bodyPost_ret (results_none rfl _ _ _) rfl ?_))
      exact ⟨rfl, by unfold TakePost; rw [HT.out, HM.out]; exact ⟨SB2.out, HG2.out⟩⟩
end
section
attribute [local go_sem ↓] some_setCell
def zSl : Sl := ⟨false, ⟨0, 0, 0, 0, 0, 0, 0, false⟩, false, 0⟩
def rdS (ss : List Sl) (k : Int) : Sl := ss.getD k.toNat zSl
def slotB (x : S39) : Bool := decide (1 ≤ x.f5) && decide (x.f5 ≤ 5)
theorem slotted_is (x : S39) : lease_slotted.f x.f0 x.f1 x.f2 x.f3 x.f4 x.f5 x.f6 x.f7 x.f8 x.f9 x.f10 = some (slotB x) := by
 unfold lease_slotted.f slotB
 by_cases h : x.f5 ≥ 1
 ·rw [if_pos h, decide_eq_true (show 1 ≤ x.f5 from h), Bool.true_and]
 ·rw [if_neg h, decide_eq_false (show ¬ 1 ≤ x.f5 from h), Bool.false_and]
theorem valid_fits {x : S39} (h : validB x = true) : fitsB x = true := by
 unfold validB at h
 simp only [Bool.and_eq_true] at h
 exact h.2.2.2.2.2.2.2.2.2.2
theorem slot_rng {x : S39} (h : validB x = true) (hs : slotB x = true) : 0 ≤ x.f6 ∧ x.f6 < 64 := by
 have hf := valid_fits h
 unfold slotB at hs
 simp only [Bool.and_eq_true, decide_eq_true_eq] at hs
 have key : ∀ (f : Fm) (d : Int), f.a0 = 0 → f.a1 = 63 → f.allB x d = true → 0 ≤ x.f6 ∧ x.f6 < 64 := by
  intro f d h0 h1 ha
  unfold Fm.allB holdsB at ha
  simp only [Bool.and_eq_true, decide_eq_true_eq] at ha
  omega
 have hk : x.f5 = 1 ∨ x.f5 = 2 ∨ x.f5 = 3 ∨ x.f5 = 4 ∨ x.f5 = 5 := by omega
 have hab : (formOf x.f5).a0 = 0 ∧ (formOf x.f5).a1 = 63 := by
  rcases hk with e | e | e | e | e <;> rw [e] <;> exact ⟨rfl, rfl⟩
 unfold fitsB at hf
 split at hf
 ·cases hf
 ·split at hf
  ·split at hf
   ·cases hf
   ·exact key _ _ hab.1 hab.2 hf
  ·split at hf
   ·split at hf
    ·cases hf
    ·exact key _ _ hab.1 hab.2 hf
   ·exact key _ _ hab.1 hab.2 hf
def rightI (l : List S39) : Nat → Nat → List Sl → Int
 | 0, _, _ => 0
 | d + 1, i, ss => if validB (rd_T39 l i) = false then 2
  else if ((rd_T39 l i).f0 != (rd_T39 l 0).f0 || (rd_T39 l i).f1 != (rd_T39 l 0).f1) = true then 20
  else if (decide (0 < i) && decide ((rd_T39 l i).f4 < (rd_T39 l ((i : Int) - 1)).f4)) = true then 22
  else if slotB (rd_T39 l i) = false then rightI l d (i + 1) ss
  else if (rdS ss (rd_T39 l i).f6).fitsB (rd_T39 l i) = false then 18
  else rightI l d (i + 1) (ss.set (rd_T39 l i).f6.toNat ((rdS ss (rd_T39 l i).f6).takeS (rd_T39 l i)))
def lease_Right.f (l : List S39) : Option Int := some (rightI l l.length 0 (List.replicate 64 zSl))
theorem valid_at (x : S39) (W : World) (hG : GW W) (b : Bool) (h : validB x = b) : Calls Tryd.prog 34 #[.agg #[.int .i64 x.f0, .int .i64 x.f1, .int .i64 x.f2, .int .i64 x.f3, .int .i64 x.f4, .int .i64 x.f5, .int .i64 x.f6, .int .i64 x.f7, .int .i64 x.f8, .int .i64 x.f9, .int .i64 x.f10]] W fun e w' => e = .returned (.bool b) ∧ Below W.heap.size W w' := by
 subst h
 exact valid.calls x W hG
theorem fit_at (b : Nat) (T : TypeId) (ss : List Sl) (x : S39) (W : World) (hB : BlkIs W b T (flat Sl.enc ss)) (k : Nat) (hk : k < ss.length) (r : Bool) (h : ss[k].fitsB x = r) : Calls Tryd.prog 36 #[.pointer (some ⟨b, k * 11, none⟩), .agg #[.int .i64 x.f0, .int .i64 x.f1, .int .i64 x.f2, .int .i64 x.f3, .int .i64 x.f4, .int .i64 x.f5, .int .i64 x.f6, .int .i64 x.f7, .int .i64 x.f8, .int .i64 x.f9, .int .i64 x.f10]] W fun e w' => e = .returned (.bool r) ∧ Below W.heap.size W w' := by
 subst h
 exact slot_fits.calls b (k * 11) ss[k] x W (fun j v hj => by
  have hj11 : j < 11 := (List.getElem?_eq_some_iff.1 hj).1
  rw [hB.at_, fget Sl.len ss k j hk hj11, hj])
theorem split_flat (ss : List Sl) (k : Nat) (hk : k < ss.length) : flat Sl.enc ss = flat Sl.enc (ss.take k) ++ ss[k].enc ++ flat Sl.enc (ss.drop (k + 1)) := by
 have h : ss = ss.take k ++ ss[k] :: ss.drop (k + 1) := by rw [← List.drop_eq_getElem_cons hk, List.take_append_drop]
 have h2 := congrArg (flat Sl.enc) h
 rw [flat_append, flat_cons, ← List.append_assoc] at h2
 exact h2
theorem set_flat (ss : List Sl) (k : Nat) (hk : k < ss.length) (s : Sl) : flat Sl.enc (ss.set k s) = flat Sl.enc (ss.take k) ++ s.enc ++ flat Sl.enc (ss.drop (k + 1)) := by
 rw [List.set_eq_take_append_cons_drop, if_pos hk, flat_append, flat_cons, ← List.append_assoc]
theorem take_at (b : Nat) (T : TypeId) (ss : List Sl) (x : S39) (W : World) (hB : BlkIs W b T (flat Sl.enc ss)) (k : Nat) (hk : k < ss.length) : Calls Tryd.prog 31 #[.pointer (some ⟨b, k * 11, none⟩), .agg #[.int .i64 x.f0, .int .i64 x.f1, .int .i64 x.f2, .int .i64 x.f3, .int .i64 x.f4, .int .i64 x.f5, .int .i64 x.f6, .int .i64 x.f7, .int .i64 x.f8, .int .i64 x.f9, .int .i64 x.f10]] W fun e w' => e = .returned (.tuple #[]) ∧ Aside0 (BlkIs w' b T (flat Sl.enc (ss.set k (ss[k].takeS x)))) ∧ Aside0 (W.grownBy w' (some b)) := by
 rw [split_flat ss k hk] at hB
 have hlen : (flat Sl.enc (ss.take k)).length = k * 11 := by rw [flen Sl.len, List.length_take, Nat.min_eq_left (by omega)]
 have h := slot_take.calls b T _ _ ss[k] x W hB
 rw [hlen] at h
 refine h.mono fun e w' ⟨he, h1, h2⟩ => ⟨he, ⟨?_⟩, ⟨h2⟩⟩
 rw [set_flat ss k hk]
 exact h1
def zcR : Array Value := (flat Sl.enc (List.replicate 64 zSl)).toArray
theorem zcR_size : zcR.size = 704 := by kernel_rfl
theorem zcR_ne : zcR ≠ #[] := fun e => by
 have := zcR_size
 rw [e] at this
 cases this
theorem zcR_run (w : World) : (zeroValue 68).run Tryd.prog w = .ok (.agg zcR) w := by kernel_rfl
attribute [local go_sem ↓] zcR_run
attribute [local go_sem] zcR_size
attribute [local simp] zcR_ne
set_option maxHeartbeats 16000000 in
set_option maxRecDepth 100000 in
theorem lease_Right.calls (A0 : Option Addr) (c0 : Nat) (l : List S39) (r : Int) (w : World) (hG : GW w) (hr0 : Kd.C k39 w A0 l.length l) (hc0 : l.length ≤ c0) (h : lease_Right.f l = some r) :
 Calls Tryd.prog 17 #[.slice A0 l.length c0] w fun e w' => e = .returned (.int .i64 r) ∧ Below w.heap.size w w' := by
 have hr := Option.some.inj h
 clear h
 have hu := Tryd.underlying39
 have HG := As hG
 have HC := As hr0
 have HLM : Aside0 (l.length ≤ 9223372036854775807) := ⟨hr0.2.1⟩
 have HE := As hr
 clear hG hr0 hr hc0
 go_enter Tryd.func17, Tryd.ntmps17
 go_wp2_with (fail)
 unfold zcR
 obtain ⟨W0, hW0⟩ : ∃ W0, W0 = w.alloc (.cells (flat Sl.enc (List.replicate 64 zSl)).toArray 68) := ⟨_, rfl⟩
 rw [← hW0]
 have HS0 : Aside0 (BlkIs W0 w.heap.size 68 (flat Sl.enc (List.replicate 64 zSl))) := ⟨by rw [hW0]; exact heap_alloc_new w _⟩
 have HB0 : Aside0 (Below w.heap.size w W0) := ⟨by rw [hW0]; exact below_alloc (Below.refl _ _) _⟩
 clear hW0
 go_loopg [9] l.length (fun kq v9 w' => ∃ (i : Nat) (ss : List Sl), v9 = .int .i64 i ∧ Aside0 (i + kq = l.length) ∧ Aside0 (rightI l kq i ss = r) ∧ Aside0 (ss.length = 64) ∧ Aside0 (BlkIs w' w.heap.size 68 (flat Sl.enc ss)) ∧ Aside0 (Below w.heap.size w w'))
 case atStart => exact ⟨0, List.replicate 64 zSl, rfl, ⟨by omega⟩, HE, ⟨List.length_replicate ..⟩, HS0, HB0⟩
 case round =>
  clear HS0 HB0 HE
  obtain ⟨i, ss, rfl, HI, HX, HLS, HS, HB⟩ := hrel
  cases gk with
  | zero =>
   have c4b0 : decide ((i : Int) < (l.length : Int)) = false := decide_eq_false (by have := HI.out; omega)
   have c4b1 : decide (i < l.length) = false := decide_eq_false (by have := HI.out; omega)
   have hre : (0 : Int) = r := HX.out
   subst hre
   go_wp2
   go_ret
   exact ⟨rfl, HB.out⟩
  | succ k1 =>
   have hil : i < l.length := by have := HI.out; omega
   have c4b0 : decide ((i : Int) < (l.length : Int)) = true := decide_eq_true (by omega)
   have c4b1 : decide (i < l.length) = true := decide_eq_true hil
   have hi64 : (i : Int) ≤ 9223372036854775806 := by have := HLM.out; omega
   have p1 : 0 ≤ (i : Int) := by omega
   have q1 : (i : Int) < (l.length : Int) := by omega
   obtain ⟨ad, e1, hx0, hx1, hx2, hx3, hx4, hx5, hx6, hx7, hx8, hx9, hx10⟩ := at_T39 HC.out i p1 q1
   cases e1
   obtain ⟨ad', e2, hy0, hy1, _⟩ := at_T39 HC.out 0 (by omega) (by omega)
   cases e2
   obtain ⟨y, hye⟩ : ∃ y, y = rd_T39 l 0 := ⟨_, rfl⟩
   rw [← hye] at hy0 hy1
   have EY := As hye
   have HY0 := As hy0
   have HY1 := As hy1
   clear hye hy0 hy1
   replace hx0 := (HB.out.cell (World.block_lt_of_cell? w _ hx0)).trans hx0
   replace hx1 := (HB.out.cell (World.block_lt_of_cell? w _ hx1)).trans hx1
   replace hx2 := (HB.out.cell (World.block_lt_of_cell? w _ hx2)).trans hx2
   replace hx3 := (HB.out.cell (World.block_lt_of_cell? w _ hx3)).trans hx3
   replace hx4 := (HB.out.cell (World.block_lt_of_cell? w _ hx4)).trans hx4
   replace hx5 := (HB.out.cell (World.block_lt_of_cell? w _ hx5)).trans hx5
   replace hx6 := (HB.out.cell (World.block_lt_of_cell? w _ hx6)).trans hx6
   replace hx7 := (HB.out.cell (World.block_lt_of_cell? w _ hx7)).trans hx7
   replace hx8 := (HB.out.cell (World.block_lt_of_cell? w _ hx8)).trans hx8
   replace hx9 := (HB.out.cell (World.block_lt_of_cell? w _ hx9)).trans hx9
   replace hx10 := (HB.out.cell (World.block_lt_of_cell? w _ hx10)).trans hx10
   rw [Int.toNat_natCast] at hx0 hx1 hx2 hx3 hx4 hx5 hx6 hx7 hx8 hx9 hx10
   obtain ⟨x, hxe⟩ : ∃ x, x = rd_T39 l (i : Int) := ⟨_, rfl⟩
   rw [← hxe] at hx0 hx1 hx2 hx3 hx4 hx5 hx6 hx7 hx8 hx9 hx10
   have EX := As hxe
   clear hxe
   have hHN := heap_alloc_new wr (.cells #[.int .i64 x.f0, .int .i64 x.f1, .int .i64 x.f2, .int .i64 x.f3, .int .i64 x.f4, .int .i64 x.f5, .int .i64 x.f6, .int .i64 x.f7, .int .i64 x.f8, .int .i64 x.f9, .int .i64 x.f10] 39)
   have hHS := HS.out.alloc (.cells #[.int .i64 x.f0, .int .i64 x.f1, .int .i64 x.f2, .int .i64 x.f3, .int .i64 x.f4, .int .i64 x.f5, .int .i64 x.f6, .int .i64 x.f7, .int .i64 x.f8, .int .i64 x.f9, .int .i64 x.f10] 39)
   have hHB := below_alloc HB.out (.cells #[.int .i64 x.f0, .int .i64 x.f1, .int .i64 x.f2, .int .i64 x.f3, .int .i64 x.f4, .int .i64 x.f5, .int .i64 x.f6, .int .i64 x.f7, .int .i64 x.f8, .int .i64 x.f9, .int .i64 x.f10] 39)
   have HNW : Aside0 (w.heap.size ≠ wr.heap.size) := ⟨fun e => by have := HS.out.lt; omega⟩
   go_upto_region 5 with (fail)
   generalize wr.alloc (.cells #[.int .i64 x.f0, .int .i64 x.f1, .int .i64 x.f2, .int .i64 x.f3, .int .i64 x.f4, .int .i64 x.f5, .int .i64 x.f6, .int .i64 x.f7, .int .i64 x.f8, .int .i64 x.f9, .int .i64 x.f10] 39) = w1 at hHN hHS hHB ⊢
   have HN1 : Aside0 (BlkIs w1 wr.heap.size 39 [.int .i64 x.f0, .int .i64 x.f1, .int .i64 x.f2, .int .i64 x.f3, .int .i64 x.f4, .int .i64 x.f5, .int .i64 x.f6, .int .i64 x.f7, .int .i64 x.f8, .int .i64 x.f9, .int .i64 x.f10]) := ⟨hHN⟩
   have HS1 := As hHS
   have HB1 := As hHB
   have HG1 := As (HG.out.below HB1.out)
   clear hHN hHS hHB hx0 hx1 hx2 hx3 hx4 hx5 hx6 hx7 hx8 hx9 hx10 HS HB
   obtain ⟨x0_1, x1_1, x2_1, x3_1, x4_1, x5_1, x6_1, x7_1, x8_1, x9_1, x10_1⟩ := cs11 HN1.out
   cases hv : validB x with
   | false =>
    have HV := As hv
    clear hv
    have hre : (2 : Int) = r := by
     rw [← HX.out, rightI, ← EX.out, ← EY.out, if_pos HV.out]
    subst hre
    go_wp2_with ((go_at_call 34; (with_reducible refine (valid_at x _ HG1.out false HV.out).mono ?_); rintro e w2 ⟨rfl, hb2⟩; have HN2 := As (HN1.out.below hb2); have HS2 := As (HS1.out.below hb2); have HB2 := As (below_step HB1.out hb2); clear hb2; obtain ⟨x0_2, x1_2, x2_2, x3_2, x4_2, x5_2, x6_2, x7_2, x8_2, x9_2, x10_2⟩ := cs11 HN2.out; have ya_2 := (HB2.out.cell (World.block_lt_of_cell? w _ HY0.out)).trans HY0.out; have yb_2 := (HB2.out.cell (World.block_lt_of_cell? w _ HY1.out)).trans HY1.out))
    go_ret
    exact ⟨rfl, by repeat (first | exact HB2.out | apply below_drew1 | apply pw_below_drewN)⟩
   | true =>
    have HV := As hv
    have HVN : Aside0 (¬ validB x = false) := ⟨by rw [hv]; decide⟩
    clear hv
    go_upto_region 7 with ((go_at_call 34; (with_reducible refine (valid_at x _ HG1.out true HV.out).mono ?_); rintro e w2 ⟨rfl, hb2⟩; have HN2 := As (HN1.out.below hb2); have HS2 := As (HS1.out.below hb2); have HB2 := As (below_step HB1.out hb2); clear hb2; obtain ⟨x0_2, x1_2, x2_2, x3_2, x4_2, x5_2, x6_2, x7_2, x8_2, x9_2, x10_2⟩ := cs11 HN2.out; have ya_2 := (HB2.out.cell (World.block_lt_of_cell? w _ HY0.out)).trans HY0.out; have yb_2 := (HB2.out.cell (World.block_lt_of_cell? w _ HY1.out)).trans HY1.out))
    have z2 : w2.cell? ad = some (.int .i64 y.f0) := ya_2
    have z3 : w2.cell? ⟨ad.block, ad.off + 1, none⟩ = some (.int .i64 y.f1) := yb_2
    have z0 : w2.cell? (ad.add 0) = some (.int .i64 y.f0) := ya_2
    have z1 : w2.cell? ⟨(ad.add 0).block, (ad.add 0).off + 1, none⟩ = some (.int .i64 y.f1) := yb_2
    have hl0 : (0 : Int) < (l.length : Int) := by omega
    have hl0n : 0 < l.length := by omega
    cases hp0 : (x.f0 != y.f0) with
    | true =>
     have HP : Aside0 ((x.f0 != y.f0 || x.f1 != y.f1) = true) := ⟨by rw [hp0]; rfl⟩
     have hre : (20 : Int) = r := by
      rw [← HX.out, rightI, ← EX.out, ← EY.out, if_neg HVN.out, if_pos HP.out]
     subst hre
     go_quiet ((fail))
     go_wp2
     go_ret
     exact ⟨rfl, by repeat (first | exact HB2.out | apply below_drew1 | apply pw_below_drewN)⟩
    | false =>
     cases hp1 : (x.f1 != y.f1) with
     | true =>
      have HP : Aside0 ((x.f0 != y.f0 || x.f1 != y.f1) = true) := ⟨by rw [hp0, hp1]; rfl⟩
      have hre : (20 : Int) = r := by
       rw [← HX.out, rightI, ← EX.out, ← EY.out, if_neg HVN.out, if_pos HP.out]
      subst hre
      go_quiet ((fail))
      go_wp2
      go_ret
      exact ⟨rfl, by repeat (first | exact HB2.out | apply below_drew1 | apply pw_below_drewN)⟩
     | false =>
      have HP : Aside0 (¬ (x.f0 != y.f0 || x.f1 != y.f1) = true) := ⟨by rw [hp0, hp1]; decide⟩
      go_quiet ((fail))
      go_upto_region 9 with (fail)
      have HN6 := As (HN2.out.drewN nq)
      have HS6 := As (HS2.out.drewN nq)
      have HB6 := As (pw_below_drewN HB2.out nq)
      generalize (World.drewN _ nq) = w2b at HN6 HS6 HB6 ⊢
      obtain ⟨x0_6, x1_6, x2_6, x3_6, x4_6, x5_6, x6_6, x7_6, x8_6, x9_6, x10_6⟩ := cs11 HN6.out
      clear z0 z1 z2 z3 ya_2 yb_2 hl0 hl0n
      by_cases t0 : i = 0
      ·have HT : Aside0 (¬ (decide (0 < i) && decide (x.f4 < (rd_T39 l ((i : Int) - 1)).f4)) = true) := ⟨by rw [decide_eq_false (show ¬ 0 < i by omega)]; simp⟩
       have d0 : decide (0 < (i : Int)) = false := decide_eq_false (by omega)
       have d0n : decide (0 < i) = false := decide_eq_false (by omega)
       clear t0
       go_quiet ((fail))
       go_upto_region 11 with (fail)
       have HN7 := As (HN6.out.drewN nq)
       have HS7 := As (HS6.out.drewN nq)
       have HB7 := As (pw_below_drewN HB6.out nq)
       generalize (World.drewN _ nq) = w2c at HN7 HS7 HB7 ⊢
       obtain ⟨x0_7, x1_7, x2_7, x3_7, x4_7, x5_7, x6_7, x7_7, x8_7, x9_7, x10_7⟩ := cs11 HN7.out
       cases hs : slotB x with
       | false =>
        have HSL := As hs
        clear hs
        have hre : rightI l k1 (i + 1) ss = r := by
         rw [← HX.out, rightI, ← EX.out, ← EY.out, if_neg HVN.out, if_neg HP.out, if_neg HT.out, if_pos HSL.out]
        have HRE := As hre
        clear hre
        go_wp2_with ((go_at_call 35; (with_reducible refine (lease_slotted.calls x.f0 x.f1 x.f2 x.f3 x.f4 x.f5 x.f6 x.f7 x.f8 x.f9 x.f10 false _ (by rw [slotted_is]; exact congrArg some HSL.out)).mono ?_); rintro e w3 ⟨rfl, hb3⟩; have HN3 := As (HN7.out.below hb3); have HS3 := As (HS7.out.below hb3); have HB3 := As (below_step HB7.out hb3); clear hb3; obtain ⟨x0_3, x1_3, x2_3, x3_3, x4_3, x5_3, x6_3, x7_3, x8_3, x9_3, _⟩ := cs11 HN3.out; have x10_3 : w3.cell? ⟨wr.heap.size, 10, none⟩ = some (.int .i64 x.f10) := HN3.out.at_ 10))
        go_roundg k1
        case measure => omega
        case rel => exact ⟨i + 1, ss, by simp, ⟨by have := HI.out; omega⟩, HRE, HLS, HS3, HB3⟩
       | true =>
        have HSL := As hs
        have HSN : Aside0 (¬ slotB x = false) := ⟨by rw [hs]; decide⟩
        obtain ⟨f0, f64⟩ := slot_rng HV.out hs
        clear hs
        have HK : Aside0 (x.f6.toNat < ss.length) := ⟨by have := HLS.out; omega⟩
        have HRD : Aside0 (rdS ss x.f6 = ss[x.f6.toNat]'HK.out) := ⟨by unfold rdS; rw [List.getD_eq_getElem?_getD, List.getElem?_eq_getElem HK.out]; rfl⟩
        cases hf : (ss[x.f6.toNat]'HK.out).fitsB x with
        | false =>
         have HFI := As hf
         clear hf
         have hre : (18 : Int) = r := by
          rw [← HX.out, rightI, ← EX.out, ← EY.out, if_neg HVN.out, if_neg HP.out, if_neg HT.out, if_neg HSN.out, HRD.out, if_pos HFI.out]
         subst hre
         go_wp2_with (first | (go_at_call 35; (with_reducible refine (lease_slotted.calls x.f0 x.f1 x.f2 x.f3 x.f4 x.f5 x.f6 x.f7 x.f8 x.f9 x.f10 true _ (by rw [slotted_is]; exact congrArg some HSL.out)).mono ?_); rintro e w3 ⟨rfl, hb3⟩; have HN3 := As (HN7.out.below hb3); have HS3 := As (HS7.out.below hb3); have HB3 := As (below_step HB7.out hb3); clear hb3; obtain ⟨x0_3, x1_3, x2_3, x3_3, x4_3, x5_3, x6_3, x7_3, x8_3, x9_3, _⟩ := cs11 HN3.out; have x10_3 : w3.cell? ⟨wr.heap.size, 10, none⟩ = some (.int .i64 x.f10) := HN3.out.at_ 10) | (go_at_call 36; (with_reducible refine (fit_at _ _ ss x _ HS3.out x.f6.toNat HK.out false HFI.out).mono ?_); rintro e w4 ⟨rfl, hb4⟩; have HN4 := As (HN3.out.below hb4); have HS4 := As (HS3.out.below hb4); have HB4 := As (below_step HB3.out hb4); clear hb4; obtain ⟨x0_4, x1_4, x2_4, x3_4, x4_4, x5_4, x6_4, x7_4, x8_4, x9_4, _⟩ := cs11 HN4.out; have x10_4 : w4.cell? ⟨wr.heap.size, 10, none⟩ = some (.int .i64 x.f10) := HN4.out.at_ 10))
         go_ret
         exact ⟨rfl, HB4.out⟩
        | true =>
         have HFI := As hf
         have HFN : Aside0 (¬ (ss[x.f6.toNat]'HK.out).fitsB x = false) := ⟨by rw [hf]; decide⟩
         clear hf
         have hre : rightI l k1 (i + 1) (ss.set x.f6.toNat ((ss[x.f6.toNat]'HK.out).takeS x)) = r := by
          rw [← HX.out, rightI, ← EX.out, ← EY.out, if_neg HVN.out, if_neg HP.out, if_neg HT.out, if_neg HSN.out, HRD.out, if_neg HFN.out]
         have HRE := As hre
         clear hre
         go_wp2_with (first | (go_at_call 35; (with_reducible refine (lease_slotted.calls x.f0 x.f1 x.f2 x.f3 x.f4 x.f5 x.f6 x.f7 x.f8 x.f9 x.f10 true _ (by rw [slotted_is]; exact congrArg some HSL.out)).mono ?_); rintro e w3 ⟨rfl, hb3⟩; have HN3 := As (HN7.out.below hb3); have HS3 := As (HS7.out.below hb3); have HB3 := As (below_step HB7.out hb3); clear hb3; obtain ⟨x0_3, x1_3, x2_3, x3_3, x4_3, x5_3, x6_3, x7_3, x8_3, x9_3, _⟩ := cs11 HN3.out; have x10_3 : w3.cell? ⟨wr.heap.size, 10, none⟩ = some (.int .i64 x.f10) := HN3.out.at_ 10) | (go_at_call 36; (with_reducible refine (fit_at _ _ ss x _ HS3.out x.f6.toNat HK.out true HFI.out).mono ?_); rintro e w4 ⟨rfl, hb4⟩; have HN4 := As (HN3.out.below hb4); have HS4 := As (HS3.out.below hb4); have HB4 := As (below_step HB3.out hb4); clear hb4; obtain ⟨x0_4, x1_4, x2_4, x3_4, x4_4, x5_4, x6_4, x7_4, x8_4, x9_4, _⟩ := cs11 HN4.out; have x10_4 : w4.cell? ⟨wr.heap.size, 10, none⟩ = some (.int .i64 x.f10) := HN4.out.at_ 10) | (go_at_call 31; (with_reducible refine (take_at _ _ ss x _ HS4.out x.f6.toNat HK.out).mono ?_); rintro e w5 ⟨rfl, HS5, HG5⟩))
         have hb5 := pw_below_grown HB4.out _ HB4.out.size HG5.out (by intro k hk; injection hk with hk; omega)
         have HB5 := As hb5
         clear hb5
         go_roundg k1
         case measure => omega
         case rel => exact ⟨i + 1, _, by simp, ⟨by have := HI.out; omega⟩, HRE, ⟨by rw [List.length_set]; exact HLS.out⟩, HS5, HB5⟩
      ·have d0 : decide (0 < (i : Int)) = true := decide_eq_true (by omega)
       have d0n : decide (0 < i) = true := decide_eq_true (by omega)
       have p2 : 0 ≤ (i : Int) - 1 := by omega
       have p2b : (1 : Int) ≤ (i : Int) := by omega
       have q2 : (i : Int) - 1 < (l.length : Int) := by omega
       obtain ⟨ad3, e3, _, _, _, _, hv4, _⟩ := at_T39 HC.out ((i : Int) - 1) p2 q2
       cases e3
       obtain ⟨v, hve⟩ : ∃ v, v = rd_T39 l ((i : Int) - 1) := ⟨_, rfl⟩
       rw [← hve] at hv4
       have EV := As hve
       clear hve
       have ht2 : ((i : Int) - 1).toNat = i - 1 := by omega
       rw [ht2] at hv4
       replace hv4 := (HB6.out.cell (World.block_lt_of_cell? w _ hv4)).trans hv4
       have hw2 : IntKind.i64.wrap ((i : Int) - 1) = (i : Int) - 1 := IntWalk.i64_in _ (by omega)
       have HIZ := As t0
       replace p2 := eq_true p2
       replace p2b := eq_true p2b
       replace q2 := eq_true q2
       clear t0
       cases ht : decide (x.f4 < v.f4) with
       | true =>
        have HT : Aside0 ((decide (0 < i) && decide (x.f4 < (rd_T39 l ((i : Int) - 1)).f4)) = true) := ⟨by rw [← EV.out, d0n, ht]; rfl⟩
        have hre : (22 : Int) = r := by
         rw [← HX.out, rightI, ← EX.out, ← EY.out, if_neg HVN.out, if_neg HP.out, if_pos HT.out]
        subst hre
        go_quiet ((fail))
        go_wp2
        go_ret
        exact ⟨rfl, by repeat (first | exact HB6.out | apply below_drew1 | apply pw_below_drewN)⟩
       | false =>
        have HT : Aside0 (¬ (decide (0 < i) && decide (x.f4 < (rd_T39 l ((i : Int) - 1)).f4)) = true) := ⟨by rw [← EV.out, d0n, ht]; decide⟩
        go_quiet ((fail))
        go_upto_region 11 with (fail)
        clear hv4 hw2 p2 p2b q2 ht2 ht
        have HN7 := As (HN6.out.drewN nq)
        have HS7 := As (HS6.out.drewN nq)
        have HB7 := As (pw_below_drewN HB6.out nq)
        generalize (World.drewN _ nq) = w2c at HN7 HS7 HB7 ⊢
        obtain ⟨x0_7, x1_7, x2_7, x3_7, x4_7, x5_7, x6_7, x7_7, x8_7, x9_7, x10_7⟩ := cs11 HN7.out
        cases hs : slotB x with
        | false =>
         have HSL := As hs
         clear hs
         have hre : rightI l k1 (i + 1) ss = r := by
          rw [← HX.out, rightI, ← EX.out, ← EY.out, if_neg HVN.out, if_neg HP.out, if_neg HT.out, if_pos HSL.out]
         have HRE := As hre
         clear hre
         go_wp2_with ((go_at_call 35; (with_reducible refine (lease_slotted.calls x.f0 x.f1 x.f2 x.f3 x.f4 x.f5 x.f6 x.f7 x.f8 x.f9 x.f10 false _ (by rw [slotted_is]; exact congrArg some HSL.out)).mono ?_); rintro e w3 ⟨rfl, hb3⟩; have HN3 := As (HN7.out.below hb3); have HS3 := As (HS7.out.below hb3); have HB3 := As (below_step HB7.out hb3); clear hb3; obtain ⟨x0_3, x1_3, x2_3, x3_3, x4_3, x5_3, x6_3, x7_3, x8_3, x9_3, _⟩ := cs11 HN3.out; have x10_3 : w3.cell? ⟨wr.heap.size, 10, none⟩ = some (.int .i64 x.f10) := HN3.out.at_ 10))
         go_roundg k1
         case measure => omega
         case rel => exact ⟨i + 1, ss, by simp, ⟨by have := HI.out; omega⟩, HRE, HLS, HS3, HB3⟩
        | true =>
         have HSL := As hs
         have HSN : Aside0 (¬ slotB x = false) := ⟨by rw [hs]; decide⟩
         obtain ⟨f0, f64⟩ := slot_rng HV.out hs
         clear hs
         have HK : Aside0 (x.f6.toNat < ss.length) := ⟨by have := HLS.out; omega⟩
         have HRD : Aside0 (rdS ss x.f6 = ss[x.f6.toNat]'HK.out) := ⟨by unfold rdS; rw [List.getD_eq_getElem?_getD, List.getElem?_eq_getElem HK.out]; rfl⟩
         cases hf : (ss[x.f6.toNat]'HK.out).fitsB x with
         | false =>
          have HFI := As hf
          clear hf
          have hre : (18 : Int) = r := by
           rw [← HX.out, rightI, ← EX.out, ← EY.out, if_neg HVN.out, if_neg HP.out, if_neg HT.out, if_neg HSN.out, HRD.out, if_pos HFI.out]
          subst hre
          go_wp2_with (first | (go_at_call 35; (with_reducible refine (lease_slotted.calls x.f0 x.f1 x.f2 x.f3 x.f4 x.f5 x.f6 x.f7 x.f8 x.f9 x.f10 true _ (by rw [slotted_is]; exact congrArg some HSL.out)).mono ?_); rintro e w3 ⟨rfl, hb3⟩; have HN3 := As (HN7.out.below hb3); have HS3 := As (HS7.out.below hb3); have HB3 := As (below_step HB7.out hb3); clear hb3; obtain ⟨x0_3, x1_3, x2_3, x3_3, x4_3, x5_3, x6_3, x7_3, x8_3, x9_3, _⟩ := cs11 HN3.out; have x10_3 : w3.cell? ⟨wr.heap.size, 10, none⟩ = some (.int .i64 x.f10) := HN3.out.at_ 10) | (go_at_call 36; (with_reducible refine (fit_at _ _ ss x _ HS3.out x.f6.toNat HK.out false HFI.out).mono ?_); rintro e w4 ⟨rfl, hb4⟩; have HN4 := As (HN3.out.below hb4); have HS4 := As (HS3.out.below hb4); have HB4 := As (below_step HB3.out hb4); clear hb4; obtain ⟨x0_4, x1_4, x2_4, x3_4, x4_4, x5_4, x6_4, x7_4, x8_4, x9_4, _⟩ := cs11 HN4.out; have x10_4 : w4.cell? ⟨wr.heap.size, 10, none⟩ = some (.int .i64 x.f10) := HN4.out.at_ 10))
          go_ret
          exact ⟨rfl, HB4.out⟩
         | true =>
          have HFI := As hf
          have HFN : Aside0 (¬ (ss[x.f6.toNat]'HK.out).fitsB x = false) := ⟨by rw [hf]; decide⟩
          clear hf
          have hre : rightI l k1 (i + 1) (ss.set x.f6.toNat ((ss[x.f6.toNat]'HK.out).takeS x)) = r := by
           rw [← HX.out, rightI, ← EX.out, ← EY.out, if_neg HVN.out, if_neg HP.out, if_neg HT.out, if_neg HSN.out, HRD.out, if_neg HFN.out]
          have HRE := As hre
          clear hre
          go_wp2_with (first | (go_at_call 35; (with_reducible refine (lease_slotted.calls x.f0 x.f1 x.f2 x.f3 x.f4 x.f5 x.f6 x.f7 x.f8 x.f9 x.f10 true _ (by rw [slotted_is]; exact congrArg some HSL.out)).mono ?_); rintro e w3 ⟨rfl, hb3⟩; have HN3 := As (HN7.out.below hb3); have HS3 := As (HS7.out.below hb3); have HB3 := As (below_step HB7.out hb3); clear hb3; obtain ⟨x0_3, x1_3, x2_3, x3_3, x4_3, x5_3, x6_3, x7_3, x8_3, x9_3, _⟩ := cs11 HN3.out; have x10_3 : w3.cell? ⟨wr.heap.size, 10, none⟩ = some (.int .i64 x.f10) := HN3.out.at_ 10) | (go_at_call 36; (with_reducible refine (fit_at _ _ ss x _ HS3.out x.f6.toNat HK.out true HFI.out).mono ?_); rintro e w4 ⟨rfl, hb4⟩; have HN4 := As (HN3.out.below hb4); have HS4 := As (HS3.out.below hb4); have HB4 := As (below_step HB3.out hb4); clear hb4; obtain ⟨x0_4, x1_4, x2_4, x3_4, x4_4, x5_4, x6_4, x7_4, x8_4, x9_4, _⟩ := cs11 HN4.out; have x10_4 : w4.cell? ⟨wr.heap.size, 10, none⟩ = some (.int .i64 x.f10) := HN4.out.at_ 10) | (go_at_call 31; (with_reducible refine (take_at _ _ ss x _ HS4.out x.f6.toNat HK.out).mono ?_); rintro e w5 ⟨rfl, HS5, HG5⟩))
          have hb5 := pw_below_grown HB4.out _ HB4.out.size HG5.out (by intro k hk; injection hk with hk; omega)
          have HB5 := As hb5
          clear hb5
          go_roundg k1
          case measure => omega
          case rel => exact ⟨i + 1, _, by simp, ⟨by have := HI.out; omega⟩, HRE, ⟨by rw [List.length_set]; exact HLS.out⟩, HS5, HB5⟩
theorem lease_Right.called (A0 : Option Addr) (c0 : Nat) (l : List S39) (r : Int) (w : World) (hr0 : Kd.C k39 w A0 l.length l) (hc0 : l.length ≤ c0) (h : lease_Right.f l = some r) (hG : GW w) :
 Calls Tryd.prog 17 #[.slice A0 l.length c0] w fun e w' => e = .returned (.int .i64 r) ∧ Below w.heap.size w w' := lease_Right.calls A0 c0 l r w hG hr0 hc0 h
end
end Go.Proofs.YtnlonmbfpkalhaaDoor.PM
