-- Written by a program of this claim's own (hookprint.py), after the pattern of the kit's print. Lean checks it.
import Derived.Test.YtghepgcbciikmaaPAx0
import Derived.Test.YtghepgcbciikmaaPAx5
import Derived.Test.YtghepgcbciikmaaPAx13
import Derived.Test.YtghepgcbciikmaaDelF
namespace Go.Proofs.Ytghepgcbciikmaa.PA
open Go.RowKit Go.Proofs.YtghepgcbciikmaaW.PrintWords Go.Proofs.YtghepgcbciikmaaW.PrintLast Go.Proofs.YtghepgcbciikmaaW.PrintMore
attribute [local go_sem ↓] some_setCell
attribute [local go_sem] max2_int min2_int max_two min_two max_three min_three max_four min_four   -- for this text's walks alone
set_option linter.unusedVariables false
set_option linter.unusedSimpArgs false

def trace_Clear.out (m0 : Int) (x : S35) : Bool := decide (x.f4 < m0) && decide (0 < x.f5)
set_option maxHeartbeats 4000000 in
theorem trace_Clear.closure (m0 : Int) (B0 : Nat) (x : S35) (W : World) (h0 : W.cell? ⟨B0, 0, none⟩ = some (.int .i64 m0)) :
  Calls Try.prog 38 (#[.agg #[.int .i64 x.f0, .int .i64 x.f1, .int .i64 x.f2, .int .i64 x.f3, .int .i64 x.f4, .int .i64 x.f5]] ++ #[.pointer (some ⟨B0, 0, none⟩)]) W fun e w' => e = .returned (.bool (trace_Clear.out m0 x)) ∧ Below W.heap.size W w' := by
 unfold trace_Clear.out; have hu_e := Try.underlying35; have HB := Aside0.mk (Below.refl W.heap.size W); (have hA0 : ∀ cs, (W.alloc (.cells cs 35)).cell? ⟨B0, 0, none⟩ = some (.int .i64 m0) := fun cs => (Below.cell (below_alloc (Below.refl W.heap.size W) _) (World.block_lt_of_cell? W _ h0)).trans h0)
 by_cases c : x.f4 < m0
 ·have c0 : decide (x.f4 < m0) = true := decide_eq_true c
  rw [c0, Bool.true_and]; clear c; go_enter Try.func38, Try.ntmps38; go_wp2; go_ret; exact ⟨rfl, below_alloc HB.out _⟩
 ·have c0 : decide (x.f4 < m0) = false := decide_eq_false c
  rw [c0, Bool.false_and]; clear c; go_enter Try.func38, Try.ntmps38; go_wp2; go_ret; exact ⟨rfl, below_alloc HB.out _⟩
def trace_Clear.f (l0_0 : List S35) (a1 : Int) : Option (List S35 × Int) := (trace_valid.f l0_0).bind fun t0 => if t0 = true then (api_Expectation_33.f l0_0).bind fun t1 => some (t1.filter fun x => !(trace_Clear.out a1 x), 0) else some ([], 2)
set_option maxHeartbeats 8000000 in
set_option maxRecDepth 100000 in
theorem trace_Clear.calls (A0_0 : Option Addr) (c0_0 : Nat) (l0_0 : List S35) (a1 : Int) (r1 : List S35) (r2 : Int) (w : World) (hr0_0 : Kd.C k35 w A0_0 l0_0.length l0_0) (hc0_0 : l0_0.length ≤ c0_0) (h : trace_Clear.f l0_0 a1 = some (r1, r2)) :
  Calls Try.prog 17 #[.agg #[.slice A0_0 l0_0.length c0_0], .int .i64 a1] w fun e w' => ∃ v0_ : Value, e = .returned (.tuple #[.agg #[v0_], .int .i64 r2]) ∧ Kd.R k35 35 w' w.heap.size (fun _ => True) v0_ r1 ∧ Below w.heap.size w w' := by
 unfold trace_Clear.f at h; obtain ⟨t0, e0, h⟩ := Option.bind_eq_some_iff.mp h; have hu := Try.underlying29; obtain ⟨W0, hW0⟩ : ∃ W0, W0 = ((w.alloc (.cells #[.slice A0_0 l0_0.length c0_0] 29)).alloc (.cells #[.int .i64 a1] 3)).alloc (.cells #[.slice none 0 0] 29) := ⟨_, rfl⟩; (have hB0 : Below w.heap.size w W0 := by rw [hW0]; exact below_alloc (below_alloc (below_alloc (Below.refl _ _) _) _) _); (have hsz : W0.heap.size = w.heap.size + 1 + 1 + 1 := by rw [hW0]; simp)
 have HM0 : Aside0 (W0.heap[w.heap.size]? = some (.cells #[.slice A0_0 l0_0.length c0_0] 29 (0, 0))) := ⟨by
  rw [hW0]; refine (Below.heap_alloc _ _ _ (by simp; try omega)).trans ?_; refine (Below.heap_alloc _ _ _ (by simp; try omega)).trans ?_; exact heap_alloc_new w _⟩
 have HM1 : Aside0 (W0.heap[w.heap.size + 1]? = some (.cells #[.int .i64 a1] 3 (0, 0))) := ⟨by
  rw [hW0]; refine (Below.heap_alloc _ _ _ (by simp)).trans ?_; have := heap_alloc_new (w.alloc (.cells #[.slice A0_0 l0_0.length c0_0] 29)) (.cells #[.int .i64 a1] 3)
  rwa [World.size_alloc] at this⟩
 have HM2 : Aside0 (W0.heap[w.heap.size + 1 + 1]? = some (.cells #[.slice none 0 0] 29 (0, 0))) := ⟨by
  rw [hW0]; have := heap_alloc_new ((w.alloc (.cells #[.slice A0_0 l0_0.length c0_0] 29)).alloc (.cells #[.int .i64 a1] 3)) (.cells #[.slice none 0 0] 29)
  rwa [World.size_alloc, World.size_alloc] at this⟩
 have hr1 : Kd.C k35 W0 A0_0 l0_0.length l0_0 := Kd.C_below hr0_0 hB0; have HC := Aside0.mk hr1; have HCC := Aside0.mk hc0_0; have HB0 := Aside0.mk hB0; have E0 := Aside0.mk e0; have HS := Aside0.mk hsz; have HW0 := Aside0.mk hW0; clear hr1 hr0_0 hc0_0 hB0 e0 hsz; have HV : Aside0 (Calls Try.prog 28 #[.agg #[.slice A0_0 l0_0.length c0_0]] W0 fun e w' => e = .returned (.bool t0) ∧ Below W0.heap.size W0 w') := ⟨trace_valid.calls A0_0 c0_0 l0_0 t0 W0 HC.out HCC.out E0.out⟩
 cases t0 with
 | false =>
  (have h1 : some (([] : List S35), (2 : Int)) = some (r1, r2) := by rw [if_neg (by decide)] at h; exact h); clear h; simp only [Option.some.injEq, Prod.mk.injEq] at h1; obtain ⟨rfl, rfl⟩ := h1; clear hW0; go_enter Try.func17, Try.ntmps17; go_wp2_with (go_at_call 28; rw [← HW0.out]; (with_reducible refine HV.out.mono ?_); rintro e w1 ⟨rfl, hb1⟩; have HM3 := Aside0.mk (blk_below HM2.out hb1); have hcz : w1.cell? ⟨w.heap.size + 1 + 1, 0, none⟩ = some (.slice none 0 0) := (blk_cell HM3.out 0).trans rfl; have hfz := blk_frozen HM3.out 0); refine bodyPost_ret (results_ct rfl _ _ (w.heap.size + 1 + 1) 29 #[.slice none 0 0] (0, 0) _ rfl (by refine blk_put (cs := #[.slice none 0 0]) ?_ 0 _ rfl; exact HM3.out) Try.underlying29 rfl (by kernel_rfl)) rfl ?_
  exact ⟨_, rfl, Kd.R_nil _ _ _ _ _, below_set (HB0.out.trans (hb1.mono HB0.out.size)) (by omega)⟩
 | true =>
  (have h1 : ((api_Expectation_33.f l0_0).bind fun t1 => some (t1.filter fun x => !(trace_Clear.out a1 x), (0 : Int))) = some (r1, r2) := by rw [if_pos rfl] at h; exact h); clear h; obtain ⟨l1, e1, h⟩ := Option.bind_eq_some_iff.mp h1; clear h1; simp only [Option.some.injEq, Prod.mk.injEq] at h; obtain ⟨hrr, rfl⟩ := h; have E1 := Aside0.mk e1; have HRR := Aside0.mk hrr; clear e1 hrr; have eg : Aside0 (∀ args w, (callFunc 38 args).run Try.prog w = .ok (.enter 38 args) w) := ⟨enters_of Try.func38 (by kernel_rfl) rfl⟩
  have hD : Aside0 (∀ (v : Value) (W1 W2 : World), Below W0.heap.size W0 W1 → Kd.R k35 35 W2 W1.heap.size (fun _ => True) v l1 → Below W1.heap.size W1 W2 → Calls Try.prog 35 #[v, .func (.func 38) #[] #[.pointer (some ⟨w.heap.size + 1, 0, none⟩)]] W2 fun e w' => ∃ v0_ : Value, e = .returned v0_ ∧ Kd.R k35 35 w' W1.heap.size (fun _ => True) v0_ r1 ∧ Below W1.heap.size W1 w') := ⟨by
   intro v W1 W2 hb1 hv hb2; rw [← HRR.out]; refine DeleteFunc.calls v l1 38 _ (trace_Clear.out a1) W1 W2 _ hv hb2 eg.out ?_; intro g hg W x hgr; have z := HS.out; have z1 := hb1.size; have z2 := hb2.size; have b1 : W.heap[w.heap.size + 1]? = some (.cells #[.int .i64 a1] 3 (0, 0)) := (hgr.block _ (by omega) (by intro e; injection e with e; omega)).trans ((hb2.block _ (by omega)).trans ((hb1.block _ (by omega)).trans HM1.out)); exact trace_Clear.closure a1 (w.heap.size + 1) x W ((blk_cell b1 0).trans rfl)⟩
  clear hW0; go_enter Try.func17, Try.ntmps17; go_wp2_with (first | (go_at_call 28; rw [← HW0.out]; (with_reducible refine HV.out.mono ?_); rintro e w1 ⟨rfl, hb1⟩; have hc1 : w1.cell? ⟨w.heap.size, 0, none⟩ = some (.slice A0_0 l0_0.length c0_0) := (blk_cell (blk_below HM0.out hb1) 0).trans rfl; have HB1 := Aside0.mk hb1; clear hb1) | (go_at_call 33; (with_reducible refine (api_Expectation_33.calls A0_0 c0_0 l0_0 l1 _ (Kd.C_below HC.out HB1.out) HCC.out E1.out).mono ?_); rintro e w2 ⟨v1, rfl, hv1, hb2⟩; have HV1 := Aside0.mk hv1; have HB2 := Aside0.mk hb2; clear hv1 hb2) | (go_at_call 35; (with_reducible refine (hD.out _ _ _ HB1.out HV1.out HB2.out).mono ?_); rintro e w3 ⟨v2, rfl, hv2, hb3⟩; have HM3 := Aside0.mk (blk_below (blk_below HM2.out HB1.out) hb3); obtain ⟨A3, c3, rfl⟩ := Kd.R_slice hv2; have HV3 := Aside0.mk hv2; have HB3 := Aside0.mk hb3; clear hv2 hb3; have hcz : w3.cell? ⟨w.heap.size + 1 + 1, 0, none⟩ = some (.slice none 0 0) := (blk_cell HM3.out 0).trans rfl; have hfz := blk_frozen HM3.out 0)); refine bodyPost_ret (results_ct rfl _ _ (w.heap.size + 1 + 1) 29 #[.slice A3 r1.length c3] (0, 0) _ rfl (by refine blk_put (cs := #[.slice none 0 0]) ?_ 0 _ rfl; exact HM3.out) Try.underlying29 rfl (by kernel_rfl)) rfl ?_; have z := HS.out; have z1 := HB1.out.size
  exact ⟨_, rfl, Kd.R_lower (Kd.R_mono (Kd.R_far (p := ⟨w.heap.size + 1 + 1, 0, none⟩) (Kd.R_bound HV3.out) (fun k hk => by have := hk.2.1; show k ≠ w.heap.size + 1 + 1; omega) _) (fun _ _ => trivial)) (Nat.le_trans HB0.out.size HB1.out.size), below_set (HB0.out.trans ((HB1.out.trans (HB3.out.mono HB1.out.size)).mono HB0.out.size)) (by omega)⟩

end Go.Proofs.Ytghepgcbciikmaa.PA
