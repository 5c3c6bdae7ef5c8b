-- Written by a program of this claim's own (hookprint.py), after the pattern of the kit's print. Lean checks it.
import Derived.Test.YtejhjncobibgmaaPAx0
import Derived.Test.YtejhjncobibgmaaPAx2
import Derived.Test.YtejhjncobibgmaaDelF
namespace Go.Proofs.Ytejhjncobibgmaa.PA
open Go.RowKit Go.Proofs.YtejhjncobibgmaaW.PrintWords Go.Proofs.YtejhjncobibgmaaW.PrintLast Go.Proofs.YtejhjncobibgmaaW.PrintMore
attribute [local go_sem ↓] some_setCell
attribute [local go_sem] max2_int min2_int max_two min_two max_three min_three max_four min_four   -- for this text's walks alone
set_option linter.unusedVariables false
set_option linter.unusedSimpArgs false

set_option maxHeartbeats 4000000 in
theorem flight_Pending.closure (m0 m1 : Int) (B0 B1 : Nat) (x : S27) (W : World) (h0 : W.cell? ⟨B0, 0, none⟩ = some (.int .i64 m0)) (h1 : W.cell? ⟨B1, 0, none⟩ = some (.int .i64 m1)) :
  Calls Try.prog 34 (#[.agg #[.int .i64 x.f0, .int .i64 x.f1, .int .i64 x.f2, .int .i64 x.f3, .string x.f4]] ++ #[.pointer (some ⟨B0, 0, none⟩), .pointer (some ⟨B1, 0, none⟩)]) W fun e w' => e = .returned (.bool (x.f0 != m0 || x.f1 != m1)) ∧ Below W.heap.size W w' := by
 have hu_e := Try.underlying27; have HB := Aside0.mk (Below.refl W.heap.size W); (have hA0 : ∀ cs, (W.alloc (.cells cs 27)).cell? ⟨B0, 0, none⟩ = some (.int .i64 m0) := fun cs => (Below.cell (below_alloc (Below.refl W.heap.size W) _) (World.block_lt_of_cell? W _ h0)).trans h0); (have hA1 : ∀ cs, (W.alloc (.cells cs 27)).cell? ⟨B1, 0, none⟩ = some (.int .i64 m1) := fun cs => (Below.cell (below_alloc (Below.refl W.heap.size W) _) (World.block_lt_of_cell? W _ h1)).trans h1)
 by_cases c : x.f0 = m0
 ·have c0 : (x.f0 != m0) = false := bne_eq_false_iff_eq.mpr c
  (have hc : (x.f0 != m0 || x.f1 != m1) = (x.f1 != m1) := by rw [c0, Bool.false_or]); rw [hc]; clear c hc; go_enter Try.func34, Try.ntmps34; go_wp2; go_ret; exact ⟨rfl, below_alloc HB.out _⟩
 ·have c0 : (x.f0 != m0) = true := bne_iff_ne.mpr c
  (have hc : (x.f0 != m0 || x.f1 != m1) = true := by rw [c0, Bool.true_or]); rw [hc]; clear c hc; go_enter Try.func34, Try.ntmps34; go_wp2; go_ret; exact ⟨rfl, below_alloc HB.out _⟩
def flight_Pending.f (a0_0 a0_1 a0_2 : Int) (l0_3 : List S27) (a1 a2 : Int) : Option (List S27) := (api_Parcel_33.f l0_3).bind fun t1 => some (t1.filter fun x => !(x.f0 != a1 || x.f1 != a2))
set_option maxHeartbeats 8000000 in
theorem flight_Pending.calls (a0_0 a0_1 a0_2 : Int) (A0_3 : Option Addr) (c0_3 : Nat) (l0_3 : List S27) (a1 a2 : Int) (r : List S27) (w : World) (hr0_3 : Kd.C k27 w A0_3 l0_3.length l0_3) (hc0_3 : l0_3.length ≤ c0_3) (h : flight_Pending.f a0_0 a0_1 a0_2 l0_3 a1 a2 = some r) :
  Calls Try.prog 16 #[.agg #[.int .i64 a0_0, .int .i64 a0_1, .int .i64 a0_2, .slice A0_3 l0_3.length c0_3], .int .i64 a1, .int .i64 a2] w fun e w' => ∃ v0_ : Value, e = .returned (v0_) ∧ Kd.R k27 27 w' w.heap.size (fun _ => True) v0_ r ∧ Below w.heap.size w w' := by
 unfold flight_Pending.f at h; obtain ⟨l1, e1, h⟩ := Option.bind_eq_some_iff.mp h; have hr := Option.some.inj h; clear h; obtain ⟨W0, hW0⟩ : ∃ W0, W0 = ((w.alloc (.cells #[.int .i64 a0_0, .int .i64 a0_1, .int .i64 a0_2, .slice A0_3 l0_3.length c0_3] 25)).alloc (.cells #[.int .i64 a1] 3)).alloc (.cells #[.int .i64 a2] 3) := ⟨_, rfl⟩; (have hB0 : Below w.heap.size w W0 := by rw [hW0]; exact below_alloc (below_alloc (below_alloc (Below.refl _ _) _) _) _); (have hsz : W0.heap.size = w.heap.size + 1 + 1 + 1 := by rw [hW0]; simp)
 have hM2 : W0.heap[w.heap.size + 2]? = some (.cells #[.int .i64 a2] 3 (0, 0)) := by
  rw [hW0]; have := heap_alloc_new ((w.alloc (.cells #[.int .i64 a0_0, .int .i64 a0_1, .int .i64 a0_2, .slice A0_3 l0_3.length c0_3] 25)).alloc (.cells #[.int .i64 a1] 3)) (.cells #[.int .i64 a2] 3)
  rwa [World.size_alloc, World.size_alloc] at this
 have hM1 : W0.heap[w.heap.size + 1]? = some (.cells #[.int .i64 a1] 3 (0, 0)) := by
  rw [hW0]; refine (Below.heap_alloc _ _ _ (by simp)).trans ?_; have := heap_alloc_new (w.alloc (.cells #[.int .i64 a0_0, .int .i64 a0_1, .int .i64 a0_2, .slice A0_3 l0_3.length c0_3] 25)) (.cells #[.int .i64 a1] 3)
  rwa [World.size_alloc] at this
 have hr1 : Kd.C k27 W0 A0_3 l0_3.length l0_3 := Kd.C_below hr0_3 hB0; have hC := api_Parcel_33.calls A0_3 c0_3 l0_3 l1 W0 hr1 hc0_3 e1; have eg : ∀ args w, (callFunc 34 args).run Try.prog w = .ok (.enter 34 args) w := enters_of Try.func34 (by kernel_rfl) rfl
 have hD : ∀ (v : Value) (W1 : World), Kd.R k27 27 W1 W0.heap.size (fun _ => True) v l1 → Below W0.heap.size W0 W1 → Calls Try.prog 32 #[v, .func (.func 34) #[] #[.pointer (some ⟨w.heap.size + 1, 0, none⟩), .pointer (some ⟨w.heap.size + 2, 0, none⟩)]] W1 fun e w' => ∃ v0_ : Value, e = .returned v0_ ∧ Kd.R k27 27 w' W0.heap.size (fun _ => True) v0_ r ∧ Below W0.heap.size W0 w' := by
  intro v W1 hv hb; rw [← hr]; refine DeleteFunc.calls v l1 34 _ (fun x => x.f0 != a1 || x.f1 != a2) W0 W1 _ hv hb eg ?_; intro g hg W x hgr; have b1 : W.heap[w.heap.size + 1]? = some (.cells #[.int .i64 a1] 3 (0, 0)) := (hgr.block _ (by have := hb.size; omega) (by intro e; injection e with e; omega)).trans ((hb.block _ (by omega)).trans hM1); have b2 : W.heap[w.heap.size + 2]? = some (.cells #[.int .i64 a2] 3 (0, 0)) := (hgr.block _ (by have := hb.size; omega) (by intro e; injection e with e; omega)).trans ((hb.block _ (by omega)).trans hM2); exact flight_Pending.closure a1 a2 (w.heap.size + 1) (w.heap.size + 2) x W ((blk_cell b1 0).trans rfl) ((blk_cell b2 0).trans rfl)
 have HB0 := Aside0.mk hB0; clear hM1 hM2 hr1 hr0_3 hsz hr hB0 eg e1; go_enter Try.func16, Try.ntmps16; go_wp2_with (first | (go_at_call 33; rw [← hW0]; refine hC.mono ?_; rintro e w' ⟨v1, rfl, hv1, hb1⟩) | (go_at_call 32; refine (hD _ _ hv1 hb1).mono ?_; rintro e w' ⟨v2, rfl, hv2, hb2⟩)); go_ret; exact ⟨_, rfl, Kd.R_lower hv2 HB0.out.size, HB0.out.trans (hb2.mono HB0.out.size)⟩

end Go.Proofs.Ytejhjncobibgmaa.PA
