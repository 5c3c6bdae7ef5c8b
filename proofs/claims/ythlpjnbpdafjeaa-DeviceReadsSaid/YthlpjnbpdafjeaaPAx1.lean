-- Written by a program of this claim's own (hookprint.py), after the pattern of the kit's print. Lean checks it.
import Derived.Test.YthlpjnbpdafjeaaPAx0
namespace Go.Proofs.Ythlpjnbpdafjeaa.PA
open Go.RowKit Go.Proofs.YthlpjnbpdafjeaaW.PrintWords Go.Proofs.YthlpjnbpdafjeaaW.PrintLast Go.Proofs.YthlpjnbpdafjeaaW.PrintMore
attribute [local go_sem ↓] some_setCell
attribute [local go_sem] max2_int min2_int max_two min_two max_three min_three max_four min_four   -- for this text's walks alone
set_option linter.unusedVariables false
set_option linter.unusedSimpArgs false

def device_New.f (a0 : Int) (a1 : Int) : Option (Int × List ByteArray × List Int × List Int × Int × Bool × Int) := if a0 < 16 then (some (0, ([] : List ByteArray), ([] : List Int), ([] : List Int), 0, false, 1)) else (if a0 > 64 then (some (0, ([] : List ByteArray), ([] : List Int), ([] : List Int), 0, false, 1)) else (if a1 < 1 then (some (0, ([] : List ByteArray), ([] : List Int), ([] : List Int), 0, false, 1)) else (if a1 > 512 then (some (0, ([] : List ByteArray), ([] : List Int), ([] : List Int), 0, false, 1)) else (if 0 ≤ a1 then (if (a1 : Int).toNat ≤ 17592186044416 then (some (a0, (List.replicate (a1 : Int).toNat (⟨#[]⟩ : ByteArray)), ([] : List Int), ([] : List Int), 0, false, 0)) else (none)) else (none)))))
set_option maxHeartbeats 8000000 in
set_option maxRecDepth 100000 in
theorem device_New.calls (a0 : Int) (a1 : Int) (r1 : Int) (r2 : List ByteArray) (r3 : List Int) (r4 : List Int) (r5 : Int) (r6 : Bool) (r7 : Int) (w : World) (h : device_New.f a0 a1 = some (r1, r2, r3, r4, r5, r6, r7)) :
  Calls Try.prog 7 #[.int .i64 a0, .int .i64 a1] w fun e w' => ∃ v1_ v2_ v3_ : Value, e = .returned (.tuple #[.agg #[.int .i64 r1, v1_, v2_, v3_, .int .i64 r5, .bool r6], .int .i64 r7]) ∧ Kd.R Kd.string 9 w' w.heap.size (fun _ => True) v1_ r2 ∧ Kd.R (Kd.int .i64) 3 w' w.heap.size (fun k_ => some k_ ≠ (v3_ : Value).ownBlock) v2_ r3 ∧ Kd.R (Kd.int .i64) 3 w' w.heap.size (fun k_ => some k_ ≠ (v2_ : Value).ownBlock) v3_ r4 ∧ Below w.heap.size w w' := by
 have hu26 := Try.underlying26; have HB := As (Below.refl w.heap.size w); have H : (if a0 < 16 then (some (0, ([] : List ByteArray), ([] : List Int), ([] : List Int), 0, false, 1)) else (if a0 > 64 then (some (0, ([] : List ByteArray), ([] : List Int), ([] : List Int), 0, false, 1)) else (if a1 < 1 then (some (0, ([] : List ByteArray), ([] : List Int), ([] : List Int), 0, false, 1)) else (if a1 > 512 then (some (0, ([] : List ByteArray), ([] : List Int), ([] : List Int), 0, false, 1)) else (if 0 ≤ a1 then (if (a1 : Int).toNat ≤ 17592186044416 then (some (a0, (List.replicate (a1 : Int).toNat (⟨#[]⟩ : ByteArray)), ([] : List Int), ([] : List Int), 0, false, 0)) else (none)) else (none)))))) = some (r1, r2, r3, r4, r5, r6, r7) := h; clear h
 by_cases c3 : a0 < 16
 ·rw [if_pos c3] at H
  have b0_ : decide (a0 < 16) = true := decide_eq_true c3; clear c3; simp only [Option.some.injEq, Prod.mk.injEq] at H; obtain ⟨rfl, rfl, rfl, rfl, rfl, rfl, rfl⟩ := H; go_enter Try.func7, Try.ntmps7
  go_wp2_with (first | ((with_reducible refine gate_dst (N := 4) rfl ?_); refine bxE 4 #[.int .i64 0, .slice none 0 0, .slice none 0 0, .slice none 0 0, .int .i64 0, .bool false] 26 ?_; intro a0_ hg w4 hbox hb; have a1_ := As (hbox); have a2_ := As (by rw [hg]; exact (below_size hBq) : w.heap.size ≤ a0_); replace HB := sBq hb; have a3_ := a2_; clear hb hbox hg; have := cf6 a1_.out))
  refine bodyPost_ret (results_ct rfl _ _ a0_ 26 #[.int .i64 0, .slice none 0 0, .slice none 0 0, .slice none 0 0, .int .i64 0, .bool false] (0, 0) _ rfl (by refine plT ?_; apply puts6; refine plT ?_; exact a1_.out) Try.underlying26 rfl (by kernel_rfl)) rfl ?_
  exact ⟨_, _, _, erq, by first | exact Kd.R_nil _ _ _ _ _ | exact Kd.N_nil _ _ _ _ _ | exact Kd.V_nil _ _ _ _ _ | exact Kd.Q_nil _ _ _ _ _ | exact Kd.S_nil _ _ _ _ _, by first | exact Kd.R_nil _ _ _ _ _ | exact Kd.N_nil _ _ _ _ _ | exact Kd.V_nil _ _ _ _ _ | exact Kd.Q_nil _ _ _ _ _ | exact Kd.S_nil _ _ _ _ _, by first | exact Kd.R_nil _ _ _ _ _ | exact Kd.N_nil _ _ _ _ _ | exact Kd.V_nil _ _ _ _ _ | exact Kd.Q_nil _ _ _ _ _ | exact Kd.S_nil _ _ _ _ _, hBq⟩
 ·rw [if_neg c3] at H
  have b0_ : decide (a0 < 16) = false := decide_eq_false c3; clear c3
  by_cases c6 : a0 > 64
  ·rw [if_pos c6] at H
   have b1_ : decide (64 < a0) = true := decide_eq_true c6; clear c6; simp only [Option.some.injEq, Prod.mk.injEq] at H; obtain ⟨rfl, rfl, rfl, rfl, rfl, rfl, rfl⟩ := H; go_enter Try.func7, Try.ntmps7
   go_wp2_with (first | ((with_reducible refine gate_dst (N := 4) rfl ?_); refine bxE 4 #[.int .i64 0, .slice none 0 0, .slice none 0 0, .slice none 0 0, .int .i64 0, .bool false] 26 ?_; intro a0_ hg w7 hbox hb; have a1_ := As (hbox); have a2_ := As (by rw [hg]; exact (below_size hBq) : w.heap.size ≤ a0_); replace HB := sBq hb; have a3_ := a2_; clear hb hbox hg; have := cf6 a1_.out))
   refine bodyPost_ret (results_ct rfl _ _ a0_ 26 #[.int .i64 0, .slice none 0 0, .slice none 0 0, .slice none 0 0, .int .i64 0, .bool false] (0, 0) _ rfl (by refine plT ?_; apply puts6; refine plT ?_; exact a1_.out) Try.underlying26 rfl (by kernel_rfl)) rfl ?_
   exact ⟨_, _, _, erq, by first | exact Kd.R_nil _ _ _ _ _ | exact Kd.N_nil _ _ _ _ _ | exact Kd.V_nil _ _ _ _ _ | exact Kd.Q_nil _ _ _ _ _ | exact Kd.S_nil _ _ _ _ _, by first | exact Kd.R_nil _ _ _ _ _ | exact Kd.N_nil _ _ _ _ _ | exact Kd.V_nil _ _ _ _ _ | exact Kd.Q_nil _ _ _ _ _ | exact Kd.S_nil _ _ _ _ _, by first | exact Kd.R_nil _ _ _ _ _ | exact Kd.N_nil _ _ _ _ _ | exact Kd.V_nil _ _ _ _ _ | exact Kd.Q_nil _ _ _ _ _ | exact Kd.S_nil _ _ _ _ _, hBq⟩
  ·rw [if_neg c6] at H
   have b1_ : decide (64 < a0) = false := decide_eq_false c6; clear c6
   by_cases c9 : a1 < 1
   ·rw [if_pos c9] at H
    have b2_ : decide (a1 < 1) = true := decide_eq_true c9; clear c9; simp only [Option.some.injEq, Prod.mk.injEq] at H; obtain ⟨rfl, rfl, rfl, rfl, rfl, rfl, rfl⟩ := H; go_enter Try.func7, Try.ntmps7
    go_wp2_with (first | ((with_reducible refine gate_dst (N := 4) rfl ?_); refine bxE 4 #[.int .i64 0, .slice none 0 0, .slice none 0 0, .slice none 0 0, .int .i64 0, .bool false] 26 ?_; intro a0_ hg w10 hbox hb; have a1_ := As (hbox); have a2_ := As (by rw [hg]; exact (below_size hBq) : w.heap.size ≤ a0_); replace HB := sBq hb; have a3_ := a2_; clear hb hbox hg; have := cf6 a1_.out))
    refine bodyPost_ret (results_ct rfl _ _ a0_ 26 #[.int .i64 0, .slice none 0 0, .slice none 0 0, .slice none 0 0, .int .i64 0, .bool false] (0, 0) _ rfl (by refine plT ?_; apply puts6; refine plT ?_; exact a1_.out) Try.underlying26 rfl (by kernel_rfl)) rfl ?_
    exact ⟨_, _, _, erq, by first | exact Kd.R_nil _ _ _ _ _ | exact Kd.N_nil _ _ _ _ _ | exact Kd.V_nil _ _ _ _ _ | exact Kd.Q_nil _ _ _ _ _ | exact Kd.S_nil _ _ _ _ _, by first | exact Kd.R_nil _ _ _ _ _ | exact Kd.N_nil _ _ _ _ _ | exact Kd.V_nil _ _ _ _ _ | exact Kd.Q_nil _ _ _ _ _ | exact Kd.S_nil _ _ _ _ _, by first | exact Kd.R_nil _ _ _ _ _ | exact Kd.N_nil _ _ _ _ _ | exact Kd.V_nil _ _ _ _ _ | exact Kd.Q_nil _ _ _ _ _ | exact Kd.S_nil _ _ _ _ _, hBq⟩
   ·rw [if_neg c9] at H
    have b2_ : decide (a1 < 1) = false := decide_eq_false c9; clear c9
    by_cases c12 : a1 > 512
    ·rw [if_pos c12] at H
     have a9_ : decide (512 < a1) = true := decide_eq_true c12; clear c12; simp only [Option.some.injEq, Prod.mk.injEq] at H; obtain ⟨rfl, rfl, rfl, rfl, rfl, rfl, rfl⟩ := H; go_enter Try.func7, Try.ntmps7
     go_wp2_with (first | ((with_reducible refine gate_dst (N := 4) rfl ?_); refine bxE 4 #[.int .i64 0, .slice none 0 0, .slice none 0 0, .slice none 0 0, .int .i64 0, .bool false] 26 ?_; intro a0_ hg w13 hbox hb; have a1_ := As (hbox); have a2_ := As (by rw [hg]; exact (below_size hBq) : w.heap.size ≤ a0_); replace HB := sBq hb; have a3_ := a2_; clear hb hbox hg; have := cf6 a1_.out))
     refine bodyPost_ret (results_ct rfl _ _ a0_ 26 #[.int .i64 0, .slice none 0 0, .slice none 0 0, .slice none 0 0, .int .i64 0, .bool false] (0, 0) _ rfl (by refine plT ?_; apply puts6; refine plT ?_; exact a1_.out) Try.underlying26 rfl (by kernel_rfl)) rfl ?_
     exact ⟨_, _, _, erq, by first | exact Kd.R_nil _ _ _ _ _ | exact Kd.N_nil _ _ _ _ _ | exact Kd.V_nil _ _ _ _ _ | exact Kd.Q_nil _ _ _ _ _ | exact Kd.S_nil _ _ _ _ _, by first | exact Kd.R_nil _ _ _ _ _ | exact Kd.N_nil _ _ _ _ _ | exact Kd.V_nil _ _ _ _ _ | exact Kd.Q_nil _ _ _ _ _ | exact Kd.S_nil _ _ _ _ _, by first | exact Kd.R_nil _ _ _ _ _ | exact Kd.N_nil _ _ _ _ _ | exact Kd.V_nil _ _ _ _ _ | exact Kd.Q_nil _ _ _ _ _ | exact Kd.S_nil _ _ _ _ _, hBq⟩
    ·rw [if_neg c12] at H
     have a9_ : decide (512 < a1) = false := decide_eq_false c12; clear c12
     by_cases c15 : 0 ≤ a1
     ·rw [if_pos c15] at H
      have b4_ := eq_true c15; have b5_ : decide (0 ≤ a1) = true := decide_eq_true c15; clear c15
      by_cases c16 : (a1 : Int).toNat ≤ 17592186044416
      ·rw [if_pos c16] at H
       have b6_ := eq_true c16; have b7_ : decide ((a1 : Int).toNat ≤ 17592186044416) = true := decide_eq_true c16; clear c16; obtain ⟨a5_, hy102⟩ : ∃ y_ : List ByteArray, y_ = (List.replicate (a1 : Int).toNat (⟨#[]⟩ : ByteArray)) := ⟨_, rfl⟩; (replace H : (some (a0, a5_, ([] : List Int), ([] : List Int), 0, false, 0)) = some (r1, r2, r3, r4, r5, r6, r7) := by first | (rw [hy102]; with_reducible exact H) | (have H2_ := (Option.bind_some _ _).symm.trans H; rw [hy102]; with_reducible exact H2_) | (have H2_ := (Option.bind_some _ _).symm.trans H; with_reducible exact H2_) | with_reducible exact H | (rw [hy102]; exact H) | exact H); have Ny102 := As hy102; clear hy102; simp only [Option.some.injEq, Prod.mk.injEq] at H; obtain ⟨rfl, rfl, rfl, rfl, rfl, rfl, rfl⟩ := H; go_enter Try.func7, Try.ntmps7
       go_wp2_with (first | ((with_reducible refine gate_dst (N := 4) rfl ?_); refine bxE 4 #[.int .i64 0, .slice none 0 0, .slice none 0 0, .slice none 0 0, .int .i64 0, .bool false] 26 ?_; intro a0_ hg w17 hbox hb; have a1_ := As (hbox); have a2_ := As (by rw [hg]; exact (below_size hBq) : w.heap.size ≤ a0_); replace HB := sBq hb; have a3_ := a2_; clear hb hbox hg) | ((with_reducible refine gate_dst (N := 23) rfl ?_); refine Kd.R_make Kd.string _ 9 rfl (N := 23) rfl 23 _ _ rfl a1 rfl rfl Try.underlying23 (.string ⟨#[]⟩) 16 info9 rfl (by decide) (by omega) (⟨#[]⟩ : ByteArray) (ok := fun _ => True) (okp := fun _ => True) rfl (fun _ hk => hk) trivial (dq) (Nat.le_trans (Nat.mul_le_mul_right _ (dq : a1.toNat ≤ 17592186044416)) (by omega)) (Below.refl _ _) (Nat.le_refl _) ?_; intro b8_ w18 a4_ hb hg_ hnew_; clear hg_ hnew_; (first | rw [← Ny102.out] at a4_ | (simp only [Int.reduceToNat] at a4_; rw [← Ny102.out] at a4_)); have a6_ := As (Kd.R_lower a4_ (below_size hBq)); replace a1_ := As (blk_below (plq a1_.out) hb); replace HB := sBq hb; clear hb a4_; obtain ⟨a7_, a8_, b3_⟩ := Kd.R_slice a6_.out; subst b3_; have := cf6 a1_.out))
       refine bodyPost_ret (results_ct rfl _ _ a0_ 26 #[a0, .slice a7_ a5_.length a8_, .slice none 0 0, .slice none 0 0, .int .i64 0, .bool false] (0, 0) _ rfl (by refine plT ?_; apply puts6; refine plT ?_; exact a1_.out) Try.underlying26 rfl (by kernel_rfl)) rfl ?_
       exact ⟨_, _, _, erq, by (with_reducible repeat (first | apply Kd.R_alloc | apply Kd.R_drewN | apply Kd.R_drew)); exact Kd.R_mono (Kd.R_far (p := ⟨a0_, 5, none⟩) (Kd.R_far (p := ⟨a0_, 4, none⟩) (Kd.R_far (p := ⟨a0_, 3, none⟩) (Kd.R_far (p := ⟨a0_, 2, none⟩) (Kd.R_far (p := ⟨a0_, 1, none⟩) (Kd.R_far (p := ⟨a0_, 0, none⟩) (Kd.R_types a6_.out a1_.out (by decide)) (fun _ hk => hk.2) (a0)) (fun _ hk => hk.2) (.slice a7_ a5_.length a8_)) (fun _ hk => hk.2) (.slice none 0 0)) (fun _ hk => hk.2) (.slice none 0 0)) (fun _ hk => hk.2) (.int .i64 0)) (fun _ hk => hk.2) (.bool false)) (fun _ hk => trivial), by first | exact Kd.R_nil _ _ _ _ _ | exact Kd.N_nil _ _ _ _ _ | exact Kd.V_nil _ _ _ _ _ | exact Kd.Q_nil _ _ _ _ _ | exact Kd.S_nil _ _ _ _ _, by first | exact Kd.R_nil _ _ _ _ _ | exact Kd.N_nil _ _ _ _ _ | exact Kd.V_nil _ _ _ _ _ | exact Kd.Q_nil _ _ _ _ _ | exact Kd.S_nil _ _ _ _ _, hBq⟩
      ·rw [if_neg c16] at H
       exact absurd H (by simp)
     ·rw [if_neg c15] at H
      exact absurd H (by simp)

end Go.Proofs.Ythlpjnbpdafjeaa.PA
