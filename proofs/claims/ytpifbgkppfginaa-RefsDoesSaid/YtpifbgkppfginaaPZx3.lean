-- Printed by this claim's own program.
import Derived.Test.YtpifbgkppfginaaPZx0
namespace Go.Proofs.Ytpifbgkppfginaa.PZ
open Go.RowKit Go.Proofs.YtpifbgkppfginaaW.PrintWords Go.Proofs.YtpifbgkppfginaaW.PrintLast Go.Proofs.YtpifbgkppfginaaW.PrintMore
attribute [local go_sem ↓] some_setCell
attribute [local go_sem] max2_int min2_int max_two min_two max_three min_three max_four min_four
set_option linter.unusedVariables false
set_option linter.unusedSimpArgs false
def refs_valid.l0 : Nat → List (S33) → Int → Int → List (S33) → Option (Bool)
 | 0, _, _, _, _ => none
 | k + 1, x10, x11, x12, x102000 => if x12 < x11 then (if 0 ≤ x12 then (if x12 < (x10.length : Int) then (if x12 > 0 then (if 0 ≤ (wrap64 (x12 - 1)) then (if (wrap64 (x12 - 1)) < (x102000.length : Int) then (if ((rd_T33 x10 x12).f0) ≤ ((rd_T33 x102000 (wrap64 (x12 - 1))).f0) then (some false) else (if (((rd_T33 x10 x12).f2).size : Int) > 16384 then (some false) else ((digest_Sum.f k ((rd_T33 x10 x12).f2)).bind fun b8_ => (if ((rd_T33 x10 x12).f0) = b8_ then (if ((rd_T33 x10 x12).f1) < 1 then (some false) else (if ((rd_T33 x10 x12).f1) ≥ 2147483647 then (some false) else (refs_valid.l0 k x10 x11 (wrap64 (x12 + 1)) x102000))) else (some false))))) else (none)) else (none)) else (if (((rd_T33 x10 x12).f2).size : Int) > 16384 then (some false) else ((digest_Sum.f k ((rd_T33 x10 x12).f2)).bind fun c0_ => (if ((rd_T33 x10 x12).f0) = c0_ then (if ((rd_T33 x10 x12).f1) < 1 then (some false) else (if ((rd_T33 x10 x12).f1) ≥ 2147483647 then (some false) else (refs_valid.l0 k x10 x11 (wrap64 (x12 + 1)) x102000))) else (some false))))) else (none)) else (none)) else (some true)
def refs_valid.f (k : Nat) (l0_0 : List (S33)) : Option (Bool) := if (l0_0.length : Int) > 1024 then (some false) else (refs_valid.l0 k l0_0 (l0_0.length : Int) 0 l0_0)
def refs_valid.T6 : Bool × List (List Nat × List Nat) := (true, [([], []), ([0], [0]), ([1], [1]), ([2], [2]), ([3, 2], [2, 3]), ([2], [2]), ([5, 2], [2, 5]), ([2], [2]), ([7, 2], [2, 7]), ([6, 8, 2], [2, 6, 8]), ([9, 2], [2, 9]), ([10, 2], [2, 10]), ([4, 11, 2], [2, 4, 11]), ([2, 12], [2, 12]), ([13, 2], [13]), ([14], [14]), ([15, 14], [14, 15]), ([16, 14], [14, 16]), ([17, 14], [14, 17]), ([14, 18], [14, 18]), ([19, 14], [19]), ([20], [20]), ([21, 20], [20, 21]), ([20], [20]), ([23, 20], [20, 23]), ([24, 20, 20], [20, 24]), ([22, 25, 20], [20, 22, 25]), ([20, 26], [20, 26]), ([27, 25], [27]), ([28], [28]), ([29, 28], [28, 29]), ([30, 28], [28, 30]), ([28, 31], [28, 31]), ([32, 28], [32]), ([33], [33]), ([34, 33], [33, 34]), ([35, 33], [33, 35]), ([33, 36], [33, 36])])
def refs_valid.B6 : List Nat := [0, 1, 3, 7, 15, 7, 39, 7, 135, 487, 999, 2023, 4095, 8191, 16383, 32767, 65535, 131071, 262143, 524287, 1048575, 2097151, 4194303, 2097151, 10485759, 27262975, 67108863, 134217727, 268435455, 536870911, 1073741823, 2147483647, 4294967295, 8589934591, 17179869183, 34359738367, 68719476735, 137438953471]
theorem refs_valid.tab6 : rtab .any (opsOf Try.f29 6) = refs_valid.T6 := by kernel_rfl
theorem refs_valid.bits6 : waitsOk refs_valid.T6.2 refs_valid.B6 = true := by kernel_rfl
set_option maxHeartbeats 8000000 in
set_option maxRecDepth 100000 in
theorem refs_valid.calls (k : Nat) (A0_0 : Option Addr) (c0_0 : Nat) (l0_0 : List (S33)) (r : Bool) (w : World) (hr0_0 : Kd.C k33 w A0_0 l0_0.length l0_0) (hc0_0 : l0_0.length ≤ c0_0) (h : refs_valid.f k l0_0 = some r) :
 Calls Try.prog 29 #[.agg #[.slice A0_0 l0_0.length c0_0]] w fun e w' => e = .returned (.bool r) ∧ Below w.heap.size w w' := by
 have hu25 := Try.underlying25; have hu33 := Try.underlying33; have HR0_0 := As hr0_0; have HC0_0 := As hc0_0; clear hr0_0 hc0_0; have HB := As (Below.refl w.heap.size w); have H : (if (l0_0.length : Int) > 1024 then (some false) else (refs_valid.l0 k l0_0 (l0_0.length : Int) 0 l0_0)) = some r := h; clear h
 by_cases c2 : (l0_0.length : Int) > 1024
 ·rw [if_pos c2] at H
  have c3_ : decide (1024 < (l0_0.length : Int)) = true := decide_eq_true c2; have c4_ : decide (1024 < l0_0.length) = true := decide_eq_true (by omega); clear c2; obtain rfl := Option.some.inj H; go_enter Try.func29, Try.ntmps29; go_wp2_with (first | ((with_reducible refine gate_dst (N := 1) rfl ?_); (try (refine gate_guard (by rfl) ?_; dsimp only)); refine bxE 1 #[.slice A0_0 l0_0.length c0_0] 25 ?_; intro a9_ hg w3 hbox hb; have a3_ := As (hbox); have c2_ := As (by rw [hg]; exact (below_size hBq) : w.heap.size ≤ a9_); replace HB := sBq hb; have c9_ := c2_; clear hb hbox hg; have c5_ : w3.cell? ⟨a9_, 0, none⟩ = some (.slice A0_0 l0_0.length c0_0) := (blk_cell a3_.out 0).trans rfl; have c6_ := blk_frozen a3_.out 0)); go_ret; exact ⟨by first | rfl | (simp [errW_none, errW_some] <;> rfl) | (simp [*, errW_none, errW_some] <;> rfl), hBq⟩
 ·rw [if_neg c2] at H
  have c3_ : decide (1024 < (l0_0.length : Int)) = false := decide_eq_false c2; have c4_ : decide (1024 < l0_0.length) = false := decide_eq_false (by omega); clear c2; have H' := As H; clear H; go_enter Try.func29, Try.ntmps29; go_wp2_with (first | ((with_reducible refine gate_dst (N := 1) rfl ?_); (try (refine gate_guard (by rfl) ?_; dsimp only)); refine bxE 1 #[.slice A0_0 l0_0.length c0_0] 25 ?_; intro a9_ hg w5 hbox hb; have a3_ := As (hbox); have c2_ := As (by rw [hg]; exact (below_size hBq) : w.heap.size ≤ a9_); replace HB := sBq hb; have c9_ := c2_; clear hb hbox hg; have c7_ : w5.cell? ⟨a9_, 0, none⟩ = some (.slice A0_0 l0_0.length c0_0) := (blk_cell a3_.out 0).trans rfl; have c8_ := blk_frozen a3_.out 0))
  go_loopg [12] k (fun kq v12 w' => ∃ (a0_ : Int), v12 = .int .i64 a0_ ∧ Aside0 (refs_valid.l0 kq l0_0 (l0_0.length : Int) a0_ l0_0 = some r) ∧ Aside0 (kq ≤ k) ∧ Aside0 (w'.heap[a9_]? = some (.cells #[(.slice A0_0 l0_0.length c0_0)] 25 (0, 0))) ∧ Aside0 (Below w.heap.size w w'))
  case atStart => exact ⟨(0), (by first | rfl | (simp; done) | (simp [*]; done)), H', ⟨Nat.le_refl _⟩, ⟨by refine plT ?_; exact a3_.out⟩, ⟨hBq⟩⟩
  case round =>
   clear H'; (try clear c2); (try clear c3_); (try clear c4_); (try clear p2); (try clear c5_); (try clear c7_); (try clear c6_); (try clear c8_); obtain ⟨a0_, rfl, HA, HK1, a3_, HB⟩ := hrel
   cases gk with
   | zero => exact absurd HA.out (by simp [refs_valid.l0])
   | succ k1 =>
    have H := HA.out; clear HA; simp only [refs_valid.l0] at H
    by_cases c7 : a0_ < (l0_0.length : Int)
    ·rw [if_pos c7] at H
     have e4_ : decide (a0_ < (l0_0.length : Int)) = true := decide_eq_true c7; clear c7
     by_cases c8 : 0 ≤ a0_
     ·rw [if_pos c8] at H
      have g9_ : decide (0 ≤ a0_) = true := decide_eq_true c8; clear c8
      by_cases c9 : a0_ < (l0_0.length : Int)
      ·rw [if_pos c9] at H
       have h0_ : decide (a0_ < (l0_0.length : Int)) = true := decide_eq_true c9; clear c9
       by_cases c10 : a0_ > 0
       ·rw [if_pos c10] at H
        have d0_ : decide (0 < a0_) = true := decide_eq_true c10; clear c10; obtain ⟨ji11, hji11⟩ : ∃ j_ : Int, (wrap64 (a0_ - 1)) = j_ := ⟨_, rfl⟩; (replace H : (if 0 ≤ (ji11) then (if (ji11) < (l0_0.length : Int) then (if ((rd_T33 l0_0 a0_).f0) ≤ ((rd_T33 l0_0 (ji11)).f0) then (some false) else (if (((rd_T33 l0_0 a0_).f2).size : Int) > 16384 then (some false) else ((digest_Sum.f k1 ((rd_T33 l0_0 a0_).f2)).bind fun b8_ => (if ((rd_T33 l0_0 a0_).f0) = b8_ then (if ((rd_T33 l0_0 a0_).f1) < 1 then (some false) else (if ((rd_T33 l0_0 a0_).f1) ≥ 2147483647 then (some false) else (refs_valid.l0 k1 l0_0 (l0_0.length : Int) (wrap64 (a0_ + 1)) l0_0))) else (some false))))) else (none)) else (none)) = some r := by first | (rw [hji11] at H; exact H) | (simp only [hji11] at H ⊢; exact H)); have hji11w : (IntKind.i64.wrap (a0_ - 1)) = ji11 := (i64_w _).trans hji11
        by_cases c12 : 0 ≤ (ji11)
        ·rw [if_pos c12] at H
         have e5_ : decide (0 ≤ (ji11)) = true := decide_eq_true c12; clear c12
         by_cases c13 : (ji11) < (l0_0.length : Int)
         ·rw [if_pos c13] at H
          have e6_ : decide ((ji11) < (l0_0.length : Int)) = true := decide_eq_true c13; clear c13
          by_cases c14 : ((rd_T33 l0_0 a0_).f0) ≤ ((rd_T33 l0_0 (ji11)).f0)
          ·rw [if_pos c14] at H
           have d1_ : decide (((rd_T33 l0_0 a0_).f0) ≤ ((rd_T33 l0_0 (ji11)).f0)) = true := decide_eq_true c14; clear c14; obtain rfl := Option.some.inj H; have b1_ : 0 ≤ (a0_ : Int) := dq; have b2_ : a0_ < (l0_0.length : Int) := dq; obtain ⟨a5_, b6_, _, _, _⟩ := at_T33 (Kd.C_below HR0_0.out HB.out) a0_ b1_ b2_; cases b6_; replace b1_ := eq_true b1_; replace b2_ := eq_true b2_
           (try go_wp2_with (first | ((with_reducible refine gate_dst (N := 4) rfl ?_); (try (refine gate_guard (by rfl) ?_; dsimp only)); refine bxE 4 #[.int .i64 0, .int .i64 0, .string (⟨#[]⟩ : ByteArray)] 33 ?_; intro a1_ hg w15 hbox hb; have a2_ := As (hbox); have b3_ := As (by rw [hg]; exact (below_size hBq) : w.heap.size ≤ a1_); replace HB := sBq hb; have b9_ := b3_; have a4_ := As (by rw [hg]; exact Nat.ne_of_lt (blk_lt (g := a9_) (plq a3_.out)) : a9_ ≠ a1_); replace a3_ := As (blk_below (plq a3_.out) hb); have b0_ := As a4_.out.symm; clear hb hbox hg; have e7_ := b0_.out; have e8_ := a4_.out; have := cf3 a2_.out)))
           have n0_ : Aside0 ((((w15.setCell ⟨a1_, 0, none⟩ (((rd_T33 l0_0 a0_).f0))).setCell ⟨a1_, 1, none⟩ (((rd_T33 l0_0 a0_).f1))).setCell ⟨a1_, 2, none⟩ (.string ((rd_T33 l0_0 a0_).f2))).heap[a9_]? = some (.cells #[.slice (some a5_) l0_0.length c0_0] 25 (0, 0))) := ⟨by (iterate 3 (refine blk_far ?_ a4_.out _)); exact a3_.out⟩; have n1_ : Aside0 ((((w15.setCell ⟨a1_, 0, none⟩ (((rd_T33 l0_0 a0_).f0))).setCell ⟨a1_, 1, none⟩ (((rd_T33 l0_0 a0_).f1))).setCell ⟨a1_, 2, none⟩ (.string ((rd_T33 l0_0 a0_).f2))).heap[a1_]? = some (.cells #[((rd_T33 l0_0 a0_).f0), ((rd_T33 l0_0 a0_).f1), .string ((rd_T33 l0_0 a0_).f2)] 33 (0, 0))) := ⟨by apply puts3; exact a2_.out⟩
           have n2_ : Aside0 (Below w.heap.size w (((w15.setCell ⟨a1_, 0, none⟩ (((rd_T33 l0_0 a0_).f0))).setCell ⟨a1_, 1, none⟩ (((rd_T33 l0_0 a0_).f1))).setCell ⟨a1_, 2, none⟩ (.string ((rd_T33 l0_0 a0_).f2)))) := ⟨hBq⟩; (try clear a3_); (try clear a2_); (try clear HB); generalize (((w15.setCell ⟨a1_, 0, none⟩ (((rd_T33 l0_0 a0_).f0))).setCell ⟨a1_, 1, none⟩ (((rd_T33 l0_0 a0_).f1))).setCell ⟨a1_, 2, none⟩ (.string ((rd_T33 l0_0 a0_).f2))) = w18 at n0_ n1_ n2_ ⊢; have a3_ := n0_; have a2_ := n1_; have HB := n2_; clear n0_ n1_ n2_; replace a3_ := As (blk_drew a3_.out); replace a2_ := As (blk_drew a2_.out); replace HB := As (below_drew1 HB.out); have b4_ : 0 ≤ ((ji11) : Int) := dq; have b5_ : (ji11) < (l0_0.length : Int) := dq; obtain ⟨b7_, c1_, a6_, a7_, a8_⟩ := at_T33 HR0_0.out (ji11) b4_ b5_; have hw104_2 := a8_; have hw104_1 := a7_; have hw104_0 := a6_; obtain rfl : a5_ = b7_ := (by injection c1_)
           replace a6_ := (HB.out.cell (World.block_lt_of_cell? w _ a6_)).trans a6_; replace a7_ := (HB.out.cell (World.block_lt_of_cell? w _ a7_)).trans a7_; replace a8_ := (HB.out.cell (World.block_lt_of_cell? w _ a8_)).trans a8_; replace b4_ := eq_true b4_; replace b5_ := eq_true b5_
           refine start_ (n := 38) (S := fun w' => w'.cell? ⟨a1_, 0, none⟩ = some (.int .i64 ((rd_T33 l0_0 a0_).f0)) ∧ w'.cell? ⟨a1_, 1, none⟩ = some (.int .i64 ((rd_T33 l0_0 a0_).f1)) ∧ w'.cell? ⟨a1_, 2, none⟩ = some (.string ((rd_T33 l0_0 a0_).f2)) ∧ w'.cell? ⟨a9_, 0, none⟩ = some (.slice (some a5_) l0_0.length c0_0) ∧ w'.cell? (a5_.add (((ji11)).toNat * 3)) = some (.int .i64 ((rd_T33 l0_0 (ji11)).f0)) ∧ w'.cell? ⟨(a5_.add (((ji11)).toNat * 3)).block, (a5_.add (((ji11)).toNat * 3)).off + 1, none⟩ = some (.int .i64 ((rd_T33 l0_0 (ji11)).f1)) ∧ w'.cell? ⟨(a5_.add (((ji11)).toNat * 3)).block, (a5_.add (((ji11)).toNat * 3)).off + 2, none⟩ = some (.string ((rd_T33 l0_0 (ji11)).f2))) (ds := []) (marksOf 38 0) (by kernel_rfl) rfl rfl ⟨bc a2_ 0, bc a2_ 1, bc a2_ 2, bc a3_ 0, ((HB.out.cell (World.block_lt_of_cell? w _ hw104_0)).trans hw104_0), ((HB.out.cell (World.block_lt_of_cell? w _ hw104_1)).trans hw104_1), ((HB.out.cell (World.block_lt_of_cell? w _ hw104_2)).trans hw104_2)⟩ (fun hHeld => ?_); refine with_tabW refs_valid.tab6 refs_valid.bits6 (fun HT_ HW_ => ?_); generalize w18.drew = w19 at a3_ a2_ HB a6_ a7_ a8_ hHeld ⊢; refine pv_ 0 17 38 1 ?_
           refine pv_ 1 18 38 3 ?_; refine pv_ 2 19 38 7 ?_; refine pv_ 3 20 38 15 ?_; refine pv_ 5 22 38 47 ?_; refine pv_ 7 24 38 175 ?_; refine pv_ 8 25 38 431 ?_
           (refine ta_ 4 21 38 447 ?_ rfl rfl (take_ofW HT_.out HW_.out (by kernel_rfl)) (fun _ _ _ h => h) (by rfl) ?_ hHeld ?_ ?_ ?_; rotate_left; rintro w' ⟨s0, s1, s2, s3, s4, s5, s6⟩; go_simp; with_reducible rfl; rotate_left; simp only [Act.put, q1, q2, q3, i64_w, i32_w]; rfl); (refine ta_ 6 23 38 511 ?_ rfl rfl (take_ofW HT_.out HW_.out (by kernel_rfl)) (fun _ _ _ h => h) (by rfl) ?_ hHeld ?_ ?_ ?_; rotate_left; rintro w' ⟨s0, s1, s2, s3, s4, s5, s6⟩; go_simp; with_reducible rfl; rotate_left; simp only [Act.put, q1, q2, q3, i64_w, i32_w]; rfl); refine pv_ 9 26 38 1023 ?_; refine pv_ 10 27 38 2047 ?_; (refine ta_ 11 28 38 4095 ?_ rfl rfl (take_ofW HT_.out HW_.out (by kernel_rfl)) (fun _ _ _ h => h) (by rfl) ?_ hHeld ?_ ?_ ?_; rotate_left; rintro w' ⟨s0, s1, s2, s3, s4, s5, s6⟩; go_simp; with_reducible rfl; rotate_left; simp only [Act.put, q1, q2, q3, i64_w, i32_w]; rfl)
           refine pv_ 12 29 38 8191 ?_; refine pv_ 13 30 38 16383 ?_; refine pv_ 14 31 38 32767 ?_; refine pure_ (i := 15) (N := some 32) (v := undef) (a' := ?_) (marksOf 38 65535) rfl rfl (any_of HT_.out (by kernel_rfl)) (fun _ _ _ h => h) (Or.inr ⟨by rfl, rfl⟩) ?_ ?_; rotate_left
           ·simp only [Act.put, q1, q2, q3, i64_w, i32_w]
            rfl
           refine pure_ (i := 16) (N := some 33) (v := undef) (a' := ?_) (marksOf 38 131071) rfl rfl (any_of HT_.out (by kernel_rfl)) (fun _ _ _ h => h) (Or.inr ⟨by rfl, rfl⟩) ?_ ?_; rotate_left
           ·simp only [Act.put, q1, q2, q3, i64_w, i32_w]
            rfl
           refine pure_ (i := 17) (N := some 34) (v := undef) (a' := ?_) (marksOf 38 262143) rfl rfl (any_of HT_.out (by kernel_rfl)) (fun _ _ _ h => h) (Or.inr ⟨by rfl, rfl⟩) ?_ ?_; rotate_left
           ·simp only [Act.put, q1, q2, q3, i64_w, i32_w]
            rfl
           refine pure_ (i := 18) (N := some 35) (v := undef) (a' := ?_) (marksOf 38 524287) rfl rfl (any_of HT_.out (by kernel_rfl)) (fun _ _ _ h => h) (Or.inr ⟨by rfl, rfl⟩) ?_ ?_; rotate_left
           ·simp only [Act.put, q1, q2, q3, i64_w, i32_w]
            rfl
           refine pv_ 19 36 38 1048575 ?_; refine pv_ 20 37 38 2097151 ?_; refine pure_ (i := 21) (N := some 38) (v := undef) (a' := ?_) (marksOf 38 4194303) rfl rfl (any_of HT_.out (by kernel_rfl)) (fun _ _ _ h => h) (Or.inr ⟨by rfl, rfl⟩) ?_ ?_; rotate_left
           ·simp only [Act.put, q1, q2, q3, i64_w, i32_w]
            rfl
           refine pure_ (i := 22) (N := some 39) (v := undef) (a' := ?_) (marksOf 38 8388607) rfl rfl (any_of HT_.out (by kernel_rfl)) (fun _ _ _ h => h) (Or.inr ⟨by rfl, rfl⟩) ?_ ?_; rotate_left
           ·simp only [Act.put, q1, q2, q3, i64_w, i32_w]
            rfl
           refine pure_ (i := 23) (N := some 40) (v := undef) (a' := ?_) (marksOf 38 16777215) rfl rfl (any_of HT_.out (by kernel_rfl)) (fun _ _ _ h => h) (Or.inr ⟨by rfl, rfl⟩) ?_ ?_; rotate_left
           ·simp only [Act.put, q1, q2, q3, i64_w, i32_w]
            rfl
           refine pure_ (i := 24) (N := some 41) (v := undef) (a' := ?_) (marksOf 38 33554431) rfl rfl (any_of HT_.out (by kernel_rfl)) (fun _ _ _ h => h) (Or.inr ⟨by rfl, rfl⟩) ?_ ?_; rotate_left
           ·simp only [Act.put, q1, q2, q3, i64_w, i32_w]
            rfl
           refine pure_ (i := 25) (N := some 42) (v := undef) (a' := ?_) (marksOf 38 67108863) rfl rfl (any_of HT_.out (by kernel_rfl)) (fun _ _ _ h => h) (Or.inr ⟨by rfl, rfl⟩) ?_ ?_; rotate_left
           ·simp only [Act.put, q1, q2, q3, i64_w, i32_w]
            rfl
           refine pure_ (i := 26) (N := some 43) (v := undef) (a' := ?_) (marksOf 38 134217727) rfl rfl (any_of HT_.out (by kernel_rfl)) (fun _ _ _ h => h) (Or.inr ⟨by rfl, rfl⟩) ?_ ?_; rotate_left
           ·simp only [Act.put, q1, q2, q3, i64_w, i32_w]
            rfl
           refine pv_ 27 44 38 268435455 ?_; refine pv_ 28 45 38 536870911 ?_; refine pure_ (i := 29) (N := some 46) (v := undef) (a' := ?_) (marksOf 38 1073741823) rfl rfl (any_of HT_.out (by kernel_rfl)) (fun _ _ _ h => h) (Or.inr ⟨by rfl, rfl⟩) ?_ ?_; rotate_left
           ·simp only [Act.put, q1, q2, q3, i64_w, i32_w]
            rfl
           refine pure_ (i := 30) (N := some 47) (v := undef) (a' := ?_) (marksOf 38 2147483647) rfl rfl (any_of HT_.out (by kernel_rfl)) (fun _ _ _ h => h) (Or.inr ⟨by rfl, rfl⟩) ?_ ?_; rotate_left
           ·simp only [Act.put, q1, q2, q3, i64_w, i32_w]
            rfl
           refine pure_ (i := 31) (N := some 48) (v := undef) (a' := ?_) (marksOf 38 4294967295) rfl rfl (any_of HT_.out (by kernel_rfl)) (fun _ _ _ h => h) (Or.inr ⟨by rfl, rfl⟩) ?_ ?_; rotate_left
           ·simp only [Act.put, q1, q2, q3, i64_w, i32_w]
            rfl
           refine pv_ 32 49 38 8589934591 ?_; refine pv_ 33 50 38 17179869183 ?_; refine pure_ (i := 34) (N := some 51) (v := undef) (a' := ?_) (marksOf 38 34359738367) rfl rfl (any_of HT_.out (by kernel_rfl)) (fun _ _ _ h => h) (Or.inr ⟨by rfl, rfl⟩) ?_ ?_; rotate_left
           ·simp only [Act.put, q1, q2, q3, i64_w, i32_w]
            rfl
           refine pure_ (i := 35) (N := some 52) (v := undef) (a' := ?_) (marksOf 38 68719476735) rfl rfl (any_of HT_.out (by kernel_rfl)) (fun _ _ _ h => h) (Or.inr ⟨by rfl, rfl⟩) ?_ ?_; rotate_left
           ·simp only [Act.put, q1, q2, q3, i64_w, i32_w]
            rfl
           refine pure_ (i := 36) (N := some 53) (v := undef) (a' := ?_) (marksOf 38 137438953471) rfl rfl (any_of HT_.out (by kernel_rfl)) (fun _ _ _ h => h) (Or.inr ⟨by rfl, rfl⟩) ?_ ?_; rotate_left
           ·simp only [Act.put, q1, q2, q3, i64_w, i32_w]
            rfl
           refine pv_ 37 54 38 274877906943 ?_; refine done_ (done_of HT_.out (by kernel_rfl)) ?_; (try go_wp2); go_ret; exact ⟨by first | rfl | (simp [errW_none, errW_some] <;> rfl) | (simp only [← hji11]; first | rfl | (simp [errW_none, errW_some] <;> rfl)) | (simp [*, errW_none, errW_some] <;> rfl), hBq⟩
          ·rw [if_neg c14] at H
           have d1_ : decide (((rd_T33 l0_0 a0_).f0) ≤ ((rd_T33 l0_0 (ji11)).f0)) = false := decide_eq_false c14; clear c14
           by_cases c20 : (((rd_T33 l0_0 a0_).f2).size : Int) > 16384
           ·rw [if_pos c20] at H
            have d2_ : decide (16384 < (((rd_T33 l0_0 a0_).f2).size : Int)) = true := decide_eq_true c20; have d3_ : decide (16384 < ((rd_T33 l0_0 a0_).f2).size) = true := decide_eq_true (by omega); clear c20; obtain rfl := Option.some.inj H; have b1_ : 0 ≤ (a0_ : Int) := dq; have b2_ : a0_ < (l0_0.length : Int) := dq; obtain ⟨a5_, b6_, _, _, _⟩ := at_T33 (Kd.C_below HR0_0.out HB.out) a0_ b1_ b2_; cases b6_; replace b1_ := eq_true b1_; replace b2_ := eq_true b2_
            (try go_wp2_with (first | ((with_reducible refine gate_dst (N := 4) rfl ?_); (try (refine gate_guard (by rfl) ?_; dsimp only)); refine bxE 4 #[.int .i64 0, .int .i64 0, .string (⟨#[]⟩ : ByteArray)] 33 ?_; intro a1_ hg w21 hbox hb; have a2_ := As (hbox); have b3_ := As (by rw [hg]; exact (below_size hBq) : w.heap.size ≤ a1_); replace HB := sBq hb; have b9_ := b3_; have a4_ := As (by rw [hg]; exact Nat.ne_of_lt (blk_lt (g := a9_) (plq a3_.out)) : a9_ ≠ a1_); replace a3_ := As (blk_below (plq a3_.out) hb); have b0_ := As a4_.out.symm; clear hb hbox hg; have e9_ := b0_.out; have f0_ := a4_.out; have := cf3 a2_.out)))
            have n0_ : Aside0 ((((w21.setCell ⟨a1_, 0, none⟩ (((rd_T33 l0_0 a0_).f0))).setCell ⟨a1_, 1, none⟩ (((rd_T33 l0_0 a0_).f1))).setCell ⟨a1_, 2, none⟩ (.string ((rd_T33 l0_0 a0_).f2))).heap[a9_]? = some (.cells #[.slice (some a5_) l0_0.length c0_0] 25 (0, 0))) := ⟨by (iterate 3 (refine blk_far ?_ a4_.out _)); exact a3_.out⟩; have n1_ : Aside0 ((((w21.setCell ⟨a1_, 0, none⟩ (((rd_T33 l0_0 a0_).f0))).setCell ⟨a1_, 1, none⟩ (((rd_T33 l0_0 a0_).f1))).setCell ⟨a1_, 2, none⟩ (.string ((rd_T33 l0_0 a0_).f2))).heap[a1_]? = some (.cells #[((rd_T33 l0_0 a0_).f0), ((rd_T33 l0_0 a0_).f1), .string ((rd_T33 l0_0 a0_).f2)] 33 (0, 0))) := ⟨by apply puts3; exact a2_.out⟩
            have n2_ : Aside0 (Below w.heap.size w (((w21.setCell ⟨a1_, 0, none⟩ (((rd_T33 l0_0 a0_).f0))).setCell ⟨a1_, 1, none⟩ (((rd_T33 l0_0 a0_).f1))).setCell ⟨a1_, 2, none⟩ (.string ((rd_T33 l0_0 a0_).f2)))) := ⟨hBq⟩; (try clear a3_); (try clear a2_); (try clear HB); generalize (((w21.setCell ⟨a1_, 0, none⟩ (((rd_T33 l0_0 a0_).f0))).setCell ⟨a1_, 1, none⟩ (((rd_T33 l0_0 a0_).f1))).setCell ⟨a1_, 2, none⟩ (.string ((rd_T33 l0_0 a0_).f2))) = w24 at n0_ n1_ n2_ ⊢; have a3_ := n0_; have a2_ := n1_; have HB := n2_; clear n0_ n1_ n2_; replace a3_ := As (blk_drew a3_.out); replace a2_ := As (blk_drew a2_.out); replace HB := As (below_drew1 HB.out); have b4_ : 0 ≤ ((ji11) : Int) := dq; have b5_ : (ji11) < (l0_0.length : Int) := dq; obtain ⟨b7_, c1_, a6_, a7_, a8_⟩ := at_T33 HR0_0.out (ji11) b4_ b5_; have hw104_2 := a8_; have hw104_1 := a7_; have hw104_0 := a6_; obtain rfl : a5_ = b7_ := (by injection c1_)
            replace a6_ := (HB.out.cell (World.block_lt_of_cell? w _ a6_)).trans a6_; replace a7_ := (HB.out.cell (World.block_lt_of_cell? w _ a7_)).trans a7_; replace a8_ := (HB.out.cell (World.block_lt_of_cell? w _ a8_)).trans a8_; replace b4_ := eq_true b4_; replace b5_ := eq_true b5_
            refine start_ (n := 38) (S := fun w' => w'.cell? ⟨a1_, 0, none⟩ = some (.int .i64 ((rd_T33 l0_0 a0_).f0)) ∧ w'.cell? ⟨a1_, 1, none⟩ = some (.int .i64 ((rd_T33 l0_0 a0_).f1)) ∧ w'.cell? ⟨a1_, 2, none⟩ = some (.string ((rd_T33 l0_0 a0_).f2)) ∧ w'.cell? ⟨a9_, 0, none⟩ = some (.slice (some a5_) l0_0.length c0_0) ∧ w'.cell? (a5_.add (((ji11)).toNat * 3)) = some (.int .i64 ((rd_T33 l0_0 (ji11)).f0)) ∧ w'.cell? ⟨(a5_.add (((ji11)).toNat * 3)).block, (a5_.add (((ji11)).toNat * 3)).off + 1, none⟩ = some (.int .i64 ((rd_T33 l0_0 (ji11)).f1)) ∧ w'.cell? ⟨(a5_.add (((ji11)).toNat * 3)).block, (a5_.add (((ji11)).toNat * 3)).off + 2, none⟩ = some (.string ((rd_T33 l0_0 (ji11)).f2))) (ds := []) (marksOf 38 0) (by kernel_rfl) rfl rfl ⟨bc a2_ 0, bc a2_ 1, bc a2_ 2, bc a3_ 0, ((HB.out.cell (World.block_lt_of_cell? w _ hw104_0)).trans hw104_0), ((HB.out.cell (World.block_lt_of_cell? w _ hw104_1)).trans hw104_1), ((HB.out.cell (World.block_lt_of_cell? w _ hw104_2)).trans hw104_2)⟩ (fun hHeld => ?_); refine with_tabW refs_valid.tab6 refs_valid.bits6 (fun HT_ HW_ => ?_); generalize w24.drew = w25 at a3_ a2_ HB a6_ a7_ a8_ hHeld ⊢; refine pv_ 0 17 38 1 ?_
            refine pv_ 1 18 38 3 ?_; refine pv_ 2 19 38 7 ?_; refine pv_ 3 20 38 15 ?_; refine pv_ 5 22 38 47 ?_; refine pv_ 7 24 38 175 ?_; refine pv_ 8 25 38 431 ?_
            (refine ta_ 4 21 38 447 ?_ rfl rfl (take_ofW HT_.out HW_.out (by kernel_rfl)) (fun _ _ _ h => h) (by rfl) ?_ hHeld ?_ ?_ ?_; rotate_left; rintro w' ⟨s0, s1, s2, s3, s4, s5, s6⟩; go_simp; with_reducible rfl; rotate_left; simp only [Act.put, q1, q2, q3, i64_w, i32_w]; rfl); (refine ta_ 6 23 38 511 ?_ rfl rfl (take_ofW HT_.out HW_.out (by kernel_rfl)) (fun _ _ _ h => h) (by rfl) ?_ hHeld ?_ ?_ ?_; rotate_left; rintro w' ⟨s0, s1, s2, s3, s4, s5, s6⟩; go_simp; with_reducible rfl; rotate_left; simp only [Act.put, q1, q2, q3, i64_w, i32_w]; rfl); refine pv_ 9 26 38 1023 ?_; refine pv_ 10 27 38 2047 ?_; (refine ta_ 11 28 38 4095 ?_ rfl rfl (take_ofW HT_.out HW_.out (by kernel_rfl)) (fun _ _ _ h => h) (by rfl) ?_ hHeld ?_ ?_ ?_; rotate_left; rintro w' ⟨s0, s1, s2, s3, s4, s5, s6⟩; go_simp; with_reducible rfl; rotate_left; simp only [Act.put, q1, q2, q3, i64_w, i32_w]; rfl)
            refine pv_ 12 29 38 8191 ?_; refine pv_ 13 30 38 16383 ?_; refine pv_ 14 31 38 32767 ?_; refine pv_ 15 32 38 65535 ?_; (refine ta_ 16 33 38 131071 ?_ rfl rfl (take_ofW HT_.out HW_.out (by kernel_rfl)) (fun _ _ _ h => h) (by rfl) ?_ hHeld ?_ ?_ ?_; rotate_left; rintro w' ⟨s0, s1, s2, s3, s4, s5, s6⟩; go_simp; with_reducible rfl; rotate_left; simp only [Act.put, q1, q2, q3, i64_w, i32_w]; rfl); refine pv_ 17 34 38 262143 ?_
            refine pv_ 18 35 38 524287 ?_; refine pv_ 19 36 38 1048575 ?_; refine pv_ 20 37 38 2097151 ?_; refine pure_ (i := 21) (N := some 38) (v := undef) (a' := ?_) (marksOf 38 4194303) rfl rfl (any_of HT_.out (by kernel_rfl)) (fun _ _ _ h => h) (Or.inr ⟨by rfl, rfl⟩) ?_ ?_; rotate_left
            ·simp only [Act.put, q1, q2, q3, i64_w, i32_w]
             rfl
            refine pure_ (i := 22) (N := some 39) (v := undef) (a' := ?_) (marksOf 38 8388607) rfl rfl (any_of HT_.out (by kernel_rfl)) (fun _ _ _ h => h) (Or.inr ⟨by rfl, rfl⟩) ?_ ?_; rotate_left
            ·simp only [Act.put, q1, q2, q3, i64_w, i32_w]
             rfl
            refine pure_ (i := 23) (N := some 40) (v := undef) (a' := ?_) (marksOf 38 16777215) rfl rfl (any_of HT_.out (by kernel_rfl)) (fun _ _ _ h => h) (Or.inr ⟨by rfl, rfl⟩) ?_ ?_; rotate_left
            ·simp only [Act.put, q1, q2, q3, i64_w, i32_w]
             rfl
            refine pure_ (i := 24) (N := some 41) (v := undef) (a' := ?_) (marksOf 38 33554431) rfl rfl (any_of HT_.out (by kernel_rfl)) (fun _ _ _ h => h) (Or.inr ⟨by rfl, rfl⟩) ?_ ?_; rotate_left
            ·simp only [Act.put, q1, q2, q3, i64_w, i32_w]
             rfl
            refine pure_ (i := 25) (N := some 42) (v := undef) (a' := ?_) (marksOf 38 67108863) rfl rfl (any_of HT_.out (by kernel_rfl)) (fun _ _ _ h => h) (Or.inr ⟨by rfl, rfl⟩) ?_ ?_; rotate_left
            ·simp only [Act.put, q1, q2, q3, i64_w, i32_w]
             rfl
            refine pure_ (i := 26) (N := some 43) (v := undef) (a' := ?_) (marksOf 38 134217727) rfl rfl (any_of HT_.out (by kernel_rfl)) (fun _ _ _ h => h) (Or.inr ⟨by rfl, rfl⟩) ?_ ?_; rotate_left
            ·simp only [Act.put, q1, q2, q3, i64_w, i32_w]
             rfl
            refine pv_ 27 44 38 268435455 ?_; refine pv_ 28 45 38 536870911 ?_; refine pure_ (i := 29) (N := some 46) (v := undef) (a' := ?_) (marksOf 38 1073741823) rfl rfl (any_of HT_.out (by kernel_rfl)) (fun _ _ _ h => h) (Or.inr ⟨by rfl, rfl⟩) ?_ ?_; rotate_left
            ·simp only [Act.put, q1, q2, q3, i64_w, i32_w]
             rfl
            refine pure_ (i := 30) (N := some 47) (v := undef) (a' := ?_) (marksOf 38 2147483647) rfl rfl (any_of HT_.out (by kernel_rfl)) (fun _ _ _ h => h) (Or.inr ⟨by rfl, rfl⟩) ?_ ?_; rotate_left
            ·simp only [Act.put, q1, q2, q3, i64_w, i32_w]
             rfl
            refine pure_ (i := 31) (N := some 48) (v := undef) (a' := ?_) (marksOf 38 4294967295) rfl rfl (any_of HT_.out (by kernel_rfl)) (fun _ _ _ h => h) (Or.inr ⟨by rfl, rfl⟩) ?_ ?_; rotate_left
            ·simp only [Act.put, q1, q2, q3, i64_w, i32_w]
             rfl
            refine pv_ 32 49 38 8589934591 ?_; refine pv_ 33 50 38 17179869183 ?_; refine pure_ (i := 34) (N := some 51) (v := undef) (a' := ?_) (marksOf 38 34359738367) rfl rfl (any_of HT_.out (by kernel_rfl)) (fun _ _ _ h => h) (Or.inr ⟨by rfl, rfl⟩) ?_ ?_; rotate_left
            ·simp only [Act.put, q1, q2, q3, i64_w, i32_w]
             rfl
            refine pure_ (i := 35) (N := some 52) (v := undef) (a' := ?_) (marksOf 38 68719476735) rfl rfl (any_of HT_.out (by kernel_rfl)) (fun _ _ _ h => h) (Or.inr ⟨by rfl, rfl⟩) ?_ ?_; rotate_left
            ·simp only [Act.put, q1, q2, q3, i64_w, i32_w]
             rfl
            refine pure_ (i := 36) (N := some 53) (v := undef) (a' := ?_) (marksOf 38 137438953471) rfl rfl (any_of HT_.out (by kernel_rfl)) (fun _ _ _ h => h) (Or.inr ⟨by rfl, rfl⟩) ?_ ?_; rotate_left
            ·simp only [Act.put, q1, q2, q3, i64_w, i32_w]
             rfl
            refine pv_ 37 54 38 274877906943 ?_; refine done_ (done_of HT_.out (by kernel_rfl)) ?_; (try go_wp2); go_ret; exact ⟨by first | rfl | (simp [errW_none, errW_some] <;> rfl) | (simp only [← hji11]; first | rfl | (simp [errW_none, errW_some] <;> rfl)) | (simp [*, errW_none, errW_some] <;> rfl), hBq⟩
           ·rw [if_neg c20] at H
            have d2_ : decide (16384 < (((rd_T33 l0_0 a0_).f2).size : Int)) = false := decide_eq_false c20; have d3_ : decide (16384 < ((rd_T33 l0_0 a0_).f2).size) = false := decide_eq_false (by omega); clear c20; obtain ⟨b8_, A26, H⟩ := bnd H; (try dsimp only at H)
            by_cases c27 : ((rd_T33 l0_0 a0_).f0) = b8_
            ·rw [if_pos c27] at H
             have d4_ : (((rd_T33 l0_0 a0_).f0) == b8_) = true := beq_iff_eq.mpr c27; have d5_ : (((rd_T33 l0_0 a0_).f0) != b8_) = false := bne_eq_false_iff_eq.mpr c27; clear c27
             by_cases c28 : ((rd_T33 l0_0 a0_).f1) < 1
             ·rw [if_pos c28] at H
              have d6_ : decide (((rd_T33 l0_0 a0_).f1) < 1) = true := decide_eq_true c28; clear c28; obtain rfl := Option.some.inj H; have b1_ : 0 ≤ (a0_ : Int) := dq; have b2_ : a0_ < (l0_0.length : Int) := dq; obtain ⟨a5_, b6_, _, _, _⟩ := at_T33 (Kd.C_below HR0_0.out HB.out) a0_ b1_ b2_; cases b6_; replace b1_ := eq_true b1_; replace b2_ := eq_true b2_
              (try go_wp2_with (first | ((with_reducible refine gate_dst (N := 4) rfl ?_); (try (refine gate_guard (by rfl) ?_; dsimp only)); refine bxE 4 #[.int .i64 0, .int .i64 0, .string (⟨#[]⟩ : ByteArray)] 33 ?_; intro a1_ hg w29 hbox hb; have a2_ := As (hbox); have b3_ := As (by rw [hg]; exact (below_size hBq) : w.heap.size ≤ a1_); replace HB := sBq hb; have b9_ := b3_; have a4_ := As (by rw [hg]; exact Nat.ne_of_lt (blk_lt (g := a9_) (plq a3_.out)) : a9_ ≠ a1_); replace a3_ := As (blk_below (plq a3_.out) hb); have b0_ := As a4_.out.symm; clear hb hbox hg; have f1_ := b0_.out; have f2_ := a4_.out; have := cf3 a2_.out)))
              have n0_ : Aside0 ((((w29.setCell ⟨a1_, 0, none⟩ (((rd_T33 l0_0 a0_).f0))).setCell ⟨a1_, 1, none⟩ (((rd_T33 l0_0 a0_).f1))).setCell ⟨a1_, 2, none⟩ (.string ((rd_T33 l0_0 a0_).f2))).heap[a9_]? = some (.cells #[.slice (some a5_) l0_0.length c0_0] 25 (0, 0))) := ⟨by (iterate 3 (refine blk_far ?_ a4_.out _)); exact a3_.out⟩; have n1_ : Aside0 ((((w29.setCell ⟨a1_, 0, none⟩ (((rd_T33 l0_0 a0_).f0))).setCell ⟨a1_, 1, none⟩ (((rd_T33 l0_0 a0_).f1))).setCell ⟨a1_, 2, none⟩ (.string ((rd_T33 l0_0 a0_).f2))).heap[a1_]? = some (.cells #[((rd_T33 l0_0 a0_).f0), ((rd_T33 l0_0 a0_).f1), .string ((rd_T33 l0_0 a0_).f2)] 33 (0, 0))) := ⟨by apply puts3; exact a2_.out⟩
              have n2_ : Aside0 (Below w.heap.size w (((w29.setCell ⟨a1_, 0, none⟩ (((rd_T33 l0_0 a0_).f0))).setCell ⟨a1_, 1, none⟩ (((rd_T33 l0_0 a0_).f1))).setCell ⟨a1_, 2, none⟩ (.string ((rd_T33 l0_0 a0_).f2)))) := ⟨hBq⟩; (try clear a3_); (try clear a2_); (try clear HB); generalize (((w29.setCell ⟨a1_, 0, none⟩ (((rd_T33 l0_0 a0_).f0))).setCell ⟨a1_, 1, none⟩ (((rd_T33 l0_0 a0_).f1))).setCell ⟨a1_, 2, none⟩ (.string ((rd_T33 l0_0 a0_).f2))) = w32 at n0_ n1_ n2_ ⊢; have a3_ := n0_; have a2_ := n1_; have HB := n2_; clear n0_ n1_ n2_; replace a3_ := As (blk_drew a3_.out); replace a2_ := As (blk_drew a2_.out); replace HB := As (below_drew1 HB.out); have b4_ : 0 ≤ ((ji11) : Int) := dq; have b5_ : (ji11) < (l0_0.length : Int) := dq; obtain ⟨b7_, c1_, a6_, a7_, a8_⟩ := at_T33 HR0_0.out (ji11) b4_ b5_; have hw104_2 := a8_; have hw104_1 := a7_; have hw104_0 := a6_; obtain rfl : a5_ = b7_ := (by injection c1_)
              replace a6_ := (HB.out.cell (World.block_lt_of_cell? w _ a6_)).trans a6_; replace a7_ := (HB.out.cell (World.block_lt_of_cell? w _ a7_)).trans a7_; replace a8_ := (HB.out.cell (World.block_lt_of_cell? w _ a8_)).trans a8_; replace b4_ := eq_true b4_; replace b5_ := eq_true b5_
              refine start_ (n := 38) (S := fun w' => w'.cell? ⟨a1_, 0, none⟩ = some (.int .i64 ((rd_T33 l0_0 a0_).f0)) ∧ w'.cell? ⟨a1_, 1, none⟩ = some (.int .i64 ((rd_T33 l0_0 a0_).f1)) ∧ w'.cell? ⟨a1_, 2, none⟩ = some (.string ((rd_T33 l0_0 a0_).f2)) ∧ w'.cell? ⟨a9_, 0, none⟩ = some (.slice (some a5_) l0_0.length c0_0) ∧ w'.cell? (a5_.add (((ji11)).toNat * 3)) = some (.int .i64 ((rd_T33 l0_0 (ji11)).f0)) ∧ w'.cell? ⟨(a5_.add (((ji11)).toNat * 3)).block, (a5_.add (((ji11)).toNat * 3)).off + 1, none⟩ = some (.int .i64 ((rd_T33 l0_0 (ji11)).f1)) ∧ w'.cell? ⟨(a5_.add (((ji11)).toNat * 3)).block, (a5_.add (((ji11)).toNat * 3)).off + 2, none⟩ = some (.string ((rd_T33 l0_0 (ji11)).f2))) (ds := []) (marksOf 38 0) (by kernel_rfl) rfl rfl ⟨bc a2_ 0, bc a2_ 1, bc a2_ 2, bc a3_ 0, ((HB.out.cell (World.block_lt_of_cell? w _ hw104_0)).trans hw104_0), ((HB.out.cell (World.block_lt_of_cell? w _ hw104_1)).trans hw104_1), ((HB.out.cell (World.block_lt_of_cell? w _ hw104_2)).trans hw104_2)⟩ (fun hHeld => ?_); refine with_tabW refs_valid.tab6 refs_valid.bits6 (fun HT_ HW_ => ?_); generalize w32.drew = w33 at a3_ a2_ HB a6_ a7_ a8_ hHeld ⊢
              refine pv_ 0 17 38 1 ?_; refine pv_ 1 18 38 3 ?_; refine pv_ 2 19 38 7 ?_; refine pv_ 3 20 38 15 ?_; refine pv_ 5 22 38 47 ?_; refine pv_ 7 24 38 175 ?_
              refine pv_ 8 25 38 431 ?_; (refine ta_ 4 21 38 447 ?_ rfl rfl (take_ofW HT_.out HW_.out (by kernel_rfl)) (fun _ _ _ h => h) (by rfl) ?_ hHeld ?_ ?_ ?_; rotate_left; rintro w' ⟨s0, s1, s2, s3, s4, s5, s6⟩; go_simp; with_reducible rfl; rotate_left; simp only [Act.put, q1, q2, q3, i64_w, i32_w]; rfl); (refine ta_ 6 23 38 511 ?_ rfl rfl (take_ofW HT_.out HW_.out (by kernel_rfl)) (fun _ _ _ h => h) (by rfl) ?_ hHeld ?_ ?_ ?_; rotate_left; rintro w' ⟨s0, s1, s2, s3, s4, s5, s6⟩; go_simp; with_reducible rfl; rotate_left; simp only [Act.put, q1, q2, q3, i64_w, i32_w]; rfl); refine pv_ 9 26 38 1023 ?_; refine pv_ 10 27 38 2047 ?_
              (refine ta_ 11 28 38 4095 ?_ rfl rfl (take_ofW HT_.out HW_.out (by kernel_rfl)) (fun _ _ _ h => h) (by rfl) ?_ hHeld ?_ ?_ ?_; rotate_left; rintro w' ⟨s0, s1, s2, s3, s4, s5, s6⟩; go_simp; with_reducible rfl; rotate_left; simp only [Act.put, q1, q2, q3, i64_w, i32_w]; rfl); refine pv_ 12 29 38 8191 ?_; refine pv_ 13 30 38 16383 ?_; refine pv_ 14 31 38 32767 ?_; refine pv_ 15 32 38 65535 ?_; (refine ta_ 16 33 38 131071 ?_ rfl rfl (take_ofW HT_.out HW_.out (by kernel_rfl)) (fun _ _ _ h => h) (by rfl) ?_ hHeld ?_ ?_ ?_; rotate_left; rintro w' ⟨s0, s1, s2, s3, s4, s5, s6⟩; go_simp; with_reducible rfl; rotate_left; simp only [Act.put, q1, q2, q3, i64_w, i32_w]; rfl)
              refine pv_ 17 34 38 262143 ?_; refine pv_ 18 35 38 524287 ?_; refine pv_ 19 36 38 1048575 ?_; refine pv_ 20 37 38 2097151 ?_; refine pv_ 21 38 38 4194303 ?_; refine pv_ 23 40 38 12582911 ?_
              (refine ta_ 22 39 38 16777215 ?_ rfl rfl (take_ofW HT_.out HW_.out (by kernel_rfl)) (fun _ _ _ h => h) (by rfl) ?_ hHeld ?_ ?_ ?_; rotate_left; rintro w' ⟨s0, s1, s2, s3, s4, s5, s6⟩; go_simp; with_reducible rfl; rotate_left; simp only [Act.put, q1, q2, q3, i64_w, i32_w]; rfl); (refine ta_ 24 41 38 33554431 ?_ rfl rfl (take_ofW HT_.out HW_.out (by kernel_rfl)) (fun _ _ _ h => h) (by rfl) ?_ hHeld ?_ ?_ ?_; rotate_left; rintro w' ⟨s0, s1, s2, s3, s4, s5, s6⟩; go_simp; with_reducible rfl; rotate_left; simp only [Act.put, q1, q2, q3, i64_w, i32_w]; rfl); refine one_ (i := 25) (N := some 42) (marksOf 38 67108863) rfl rfl (one_of HT_.out (by kernel_rfl)) (by decide) (fun K hK => ?_); refine goes_ Try.func10 (by kernel_rfl) rfl #[.string ((rd_T33 l0_0 a0_).f2)] (by rfl) rfl rfl gq ?_
              with_reducible refine (digest_Sum.calls k1 ((rd_T33 l0_0 a0_).f2) b8_ _ A26.out).mono ?_
              rintro e w' ⟨rfl, ⟨nd, rfl⟩⟩; refine ⟨_, rfl, ?_⟩; refine hK.out _ _ ⟨bc a2_ 0, bc a2_ 1, bc a2_ 2, bc a3_ 0, ((HB.out.cell (World.block_lt_of_cell? w _ hw104_0)).trans hw104_0), ((HB.out.cell (World.block_lt_of_cell? w _ hw104_1)).trans hw104_1), ((HB.out.cell (World.block_lt_of_cell? w _ hw104_2)).trans hw104_2)⟩ (fun hHeld => ?_); clear hK K; refine norm_ (a' := ?_) ?_ ?_; rotate_left
              ·show Act.put _ (some 42) _ = _
               simp only [Act.put, q1, q2, q3, i64_w, i32_w]; rfl
              refine pv_ 26 43 38 134217727 ?_; refine pv_ 27 44 38 268435455 ?_; refine pv_ 28 45 38 536870911 ?_; refine pv_ 29 46 38 1073741823 ?_; (refine ta_ 30 47 38 2147483647 ?_ rfl rfl (take_ofW HT_.out HW_.out (by kernel_rfl)) (fun _ _ _ h => h) (by rfl) ?_ hHeld ?_ ?_ ?_; rotate_left; rintro w' ⟨s0, s1, s2, s3, s4, s5, s6⟩; go_simp; with_reducible rfl; rotate_left; simp only [Act.put, q1, q2, q3, i64_w, i32_w]; rfl); refine pv_ 31 48 38 4294967295 ?_
              refine pv_ 32 49 38 8589934591 ?_; refine pv_ 33 50 38 17179869183 ?_; refine pure_ (i := 34) (N := some 51) (v := undef) (a' := ?_) (marksOf 38 34359738367) rfl rfl (any_of HT_.out (by kernel_rfl)) (fun _ _ _ h => h) (Or.inr ⟨by rfl, rfl⟩) ?_ ?_; rotate_left
              ·simp only [Act.put, q1, q2, q3, i64_w, i32_w]
               rfl
              refine pure_ (i := 35) (N := some 52) (v := undef) (a' := ?_) (marksOf 38 68719476735) rfl rfl (any_of HT_.out (by kernel_rfl)) (fun _ _ _ h => h) (Or.inr ⟨by rfl, rfl⟩) ?_ ?_; rotate_left
              ·simp only [Act.put, q1, q2, q3, i64_w, i32_w]
               rfl
              refine pure_ (i := 36) (N := some 53) (v := undef) (a' := ?_) (marksOf 38 137438953471) rfl rfl (any_of HT_.out (by kernel_rfl)) (fun _ _ _ h => h) (Or.inr ⟨by rfl, rfl⟩) ?_ ?_; rotate_left
              ·simp only [Act.put, q1, q2, q3, i64_w, i32_w]
               rfl
              refine pv_ 37 54 38 274877906943 ?_; refine done_ (done_of HT_.out (by kernel_rfl)) ?_; (try go_wp2); go_ret; exact ⟨by first | rfl | (simp [errW_none, errW_some] <;> rfl) | (simp only [← hji11]; first | rfl | (simp [errW_none, errW_some] <;> rfl)) | (simp [*, errW_none, errW_some] <;> rfl), hBq⟩
             ·rw [if_neg c28] at H
              have d6_ : decide (((rd_T33 l0_0 a0_).f1) < 1) = false := decide_eq_false c28; clear c28
              by_cases c34 : ((rd_T33 l0_0 a0_).f1) ≥ 2147483647
              ·rw [if_pos c34] at H
               have d7_ : decide (2147483647 ≤ ((rd_T33 l0_0 a0_).f1)) = true := decide_eq_true c34; clear c34; obtain rfl := Option.some.inj H; have b1_ : 0 ≤ (a0_ : Int) := dq; have b2_ : a0_ < (l0_0.length : Int) := dq; obtain ⟨a5_, b6_, _, _, _⟩ := at_T33 (Kd.C_below HR0_0.out HB.out) a0_ b1_ b2_; cases b6_; replace b1_ := eq_true b1_; replace b2_ := eq_true b2_
               (try go_wp2_with (first | ((with_reducible refine gate_dst (N := 4) rfl ?_); (try (refine gate_guard (by rfl) ?_; dsimp only)); refine bxE 4 #[.int .i64 0, .int .i64 0, .string (⟨#[]⟩ : ByteArray)] 33 ?_; intro a1_ hg w35 hbox hb; have a2_ := As (hbox); have b3_ := As (by rw [hg]; exact (below_size hBq) : w.heap.size ≤ a1_); replace HB := sBq hb; have b9_ := b3_; have a4_ := As (by rw [hg]; exact Nat.ne_of_lt (blk_lt (g := a9_) (plq a3_.out)) : a9_ ≠ a1_); replace a3_ := As (blk_below (plq a3_.out) hb); have b0_ := As a4_.out.symm; clear hb hbox hg; have f3_ := b0_.out; have f4_ := a4_.out; have := cf3 a2_.out)))
               have n0_ : Aside0 ((((w35.setCell ⟨a1_, 0, none⟩ (((rd_T33 l0_0 a0_).f0))).setCell ⟨a1_, 1, none⟩ (((rd_T33 l0_0 a0_).f1))).setCell ⟨a1_, 2, none⟩ (.string ((rd_T33 l0_0 a0_).f2))).heap[a9_]? = some (.cells #[.slice (some a5_) l0_0.length c0_0] 25 (0, 0))) := ⟨by (iterate 3 (refine blk_far ?_ a4_.out _)); exact a3_.out⟩; have n1_ : Aside0 ((((w35.setCell ⟨a1_, 0, none⟩ (((rd_T33 l0_0 a0_).f0))).setCell ⟨a1_, 1, none⟩ (((rd_T33 l0_0 a0_).f1))).setCell ⟨a1_, 2, none⟩ (.string ((rd_T33 l0_0 a0_).f2))).heap[a1_]? = some (.cells #[((rd_T33 l0_0 a0_).f0), ((rd_T33 l0_0 a0_).f1), .string ((rd_T33 l0_0 a0_).f2)] 33 (0, 0))) := ⟨by apply puts3; exact a2_.out⟩
               have n2_ : Aside0 (Below w.heap.size w (((w35.setCell ⟨a1_, 0, none⟩ (((rd_T33 l0_0 a0_).f0))).setCell ⟨a1_, 1, none⟩ (((rd_T33 l0_0 a0_).f1))).setCell ⟨a1_, 2, none⟩ (.string ((rd_T33 l0_0 a0_).f2)))) := ⟨hBq⟩; (try clear a3_); (try clear a2_); (try clear HB); generalize (((w35.setCell ⟨a1_, 0, none⟩ (((rd_T33 l0_0 a0_).f0))).setCell ⟨a1_, 1, none⟩ (((rd_T33 l0_0 a0_).f1))).setCell ⟨a1_, 2, none⟩ (.string ((rd_T33 l0_0 a0_).f2))) = w38 at n0_ n1_ n2_ ⊢; have a3_ := n0_; have a2_ := n1_; have HB := n2_; clear n0_ n1_ n2_; replace a3_ := As (blk_drew a3_.out); replace a2_ := As (blk_drew a2_.out); replace HB := As (below_drew1 HB.out); have b4_ : 0 ≤ ((ji11) : Int) := dq; have b5_ : (ji11) < (l0_0.length : Int) := dq; obtain ⟨b7_, c1_, a6_, a7_, a8_⟩ := at_T33 HR0_0.out (ji11) b4_ b5_; have hw104_2 := a8_; have hw104_1 := a7_; have hw104_0 := a6_; obtain rfl : a5_ = b7_ := (by injection c1_)
               replace a6_ := (HB.out.cell (World.block_lt_of_cell? w _ a6_)).trans a6_; replace a7_ := (HB.out.cell (World.block_lt_of_cell? w _ a7_)).trans a7_; replace a8_ := (HB.out.cell (World.block_lt_of_cell? w _ a8_)).trans a8_; replace b4_ := eq_true b4_; replace b5_ := eq_true b5_
               refine start_ (n := 38) (S := fun w' => w'.cell? ⟨a1_, 0, none⟩ = some (.int .i64 ((rd_T33 l0_0 a0_).f0)) ∧ w'.cell? ⟨a1_, 1, none⟩ = some (.int .i64 ((rd_T33 l0_0 a0_).f1)) ∧ w'.cell? ⟨a1_, 2, none⟩ = some (.string ((rd_T33 l0_0 a0_).f2)) ∧ w'.cell? ⟨a9_, 0, none⟩ = some (.slice (some a5_) l0_0.length c0_0) ∧ w'.cell? (a5_.add (((ji11)).toNat * 3)) = some (.int .i64 ((rd_T33 l0_0 (ji11)).f0)) ∧ w'.cell? ⟨(a5_.add (((ji11)).toNat * 3)).block, (a5_.add (((ji11)).toNat * 3)).off + 1, none⟩ = some (.int .i64 ((rd_T33 l0_0 (ji11)).f1)) ∧ w'.cell? ⟨(a5_.add (((ji11)).toNat * 3)).block, (a5_.add (((ji11)).toNat * 3)).off + 2, none⟩ = some (.string ((rd_T33 l0_0 (ji11)).f2))) (ds := []) (marksOf 38 0) (by kernel_rfl) rfl rfl ⟨bc a2_ 0, bc a2_ 1, bc a2_ 2, bc a3_ 0, ((HB.out.cell (World.block_lt_of_cell? w _ hw104_0)).trans hw104_0), ((HB.out.cell (World.block_lt_of_cell? w _ hw104_1)).trans hw104_1), ((HB.out.cell (World.block_lt_of_cell? w _ hw104_2)).trans hw104_2)⟩ (fun hHeld => ?_); refine with_tabW refs_valid.tab6 refs_valid.bits6 (fun HT_ HW_ => ?_); generalize w38.drew = w39 at a3_ a2_ HB a6_ a7_ a8_ hHeld ⊢
               refine pv_ 0 17 38 1 ?_; refine pv_ 1 18 38 3 ?_; refine pv_ 2 19 38 7 ?_; refine pv_ 3 20 38 15 ?_; refine pv_ 5 22 38 47 ?_; refine pv_ 7 24 38 175 ?_
               refine pv_ 8 25 38 431 ?_; (refine ta_ 4 21 38 447 ?_ rfl rfl (take_ofW HT_.out HW_.out (by kernel_rfl)) (fun _ _ _ h => h) (by rfl) ?_ hHeld ?_ ?_ ?_; rotate_left; rintro w' ⟨s0, s1, s2, s3, s4, s5, s6⟩; go_simp; with_reducible rfl; rotate_left; simp only [Act.put, q1, q2, q3, i64_w, i32_w]; rfl); (refine ta_ 6 23 38 511 ?_ rfl rfl (take_ofW HT_.out HW_.out (by kernel_rfl)) (fun _ _ _ h => h) (by rfl) ?_ hHeld ?_ ?_ ?_; rotate_left; rintro w' ⟨s0, s1, s2, s3, s4, s5, s6⟩; go_simp; with_reducible rfl; rotate_left; simp only [Act.put, q1, q2, q3, i64_w, i32_w]; rfl); refine pv_ 9 26 38 1023 ?_; refine pv_ 10 27 38 2047 ?_
               (refine ta_ 11 28 38 4095 ?_ rfl rfl (take_ofW HT_.out HW_.out (by kernel_rfl)) (fun _ _ _ h => h) (by rfl) ?_ hHeld ?_ ?_ ?_; rotate_left; rintro w' ⟨s0, s1, s2, s3, s4, s5, s6⟩; go_simp; with_reducible rfl; rotate_left; simp only [Act.put, q1, q2, q3, i64_w, i32_w]; rfl); refine pv_ 12 29 38 8191 ?_; refine pv_ 13 30 38 16383 ?_; refine pv_ 14 31 38 32767 ?_; refine pv_ 15 32 38 65535 ?_; (refine ta_ 16 33 38 131071 ?_ rfl rfl (take_ofW HT_.out HW_.out (by kernel_rfl)) (fun _ _ _ h => h) (by rfl) ?_ hHeld ?_ ?_ ?_; rotate_left; rintro w' ⟨s0, s1, s2, s3, s4, s5, s6⟩; go_simp; with_reducible rfl; rotate_left; simp only [Act.put, q1, q2, q3, i64_w, i32_w]; rfl)
               refine pv_ 17 34 38 262143 ?_; refine pv_ 18 35 38 524287 ?_; refine pv_ 19 36 38 1048575 ?_; refine pv_ 20 37 38 2097151 ?_; refine pv_ 21 38 38 4194303 ?_; refine pv_ 23 40 38 12582911 ?_
               (refine ta_ 22 39 38 16777215 ?_ rfl rfl (take_ofW HT_.out HW_.out (by kernel_rfl)) (fun _ _ _ h => h) (by rfl) ?_ hHeld ?_ ?_ ?_; rotate_left; rintro w' ⟨s0, s1, s2, s3, s4, s5, s6⟩; go_simp; with_reducible rfl; rotate_left; simp only [Act.put, q1, q2, q3, i64_w, i32_w]; rfl); (refine ta_ 24 41 38 33554431 ?_ rfl rfl (take_ofW HT_.out HW_.out (by kernel_rfl)) (fun _ _ _ h => h) (by rfl) ?_ hHeld ?_ ?_ ?_; rotate_left; rintro w' ⟨s0, s1, s2, s3, s4, s5, s6⟩; go_simp; with_reducible rfl; rotate_left; simp only [Act.put, q1, q2, q3, i64_w, i32_w]; rfl); refine one_ (i := 25) (N := some 42) (marksOf 38 67108863) rfl rfl (one_of HT_.out (by kernel_rfl)) (by decide) (fun K hK => ?_); refine goes_ Try.func10 (by kernel_rfl) rfl #[.string ((rd_T33 l0_0 a0_).f2)] (by rfl) rfl rfl gq ?_
               with_reducible refine (digest_Sum.calls k1 ((rd_T33 l0_0 a0_).f2) b8_ _ A26.out).mono ?_
               rintro e w' ⟨rfl, ⟨nd, rfl⟩⟩; refine ⟨_, rfl, ?_⟩; refine hK.out _ _ ⟨bc a2_ 0, bc a2_ 1, bc a2_ 2, bc a3_ 0, ((HB.out.cell (World.block_lt_of_cell? w _ hw104_0)).trans hw104_0), ((HB.out.cell (World.block_lt_of_cell? w _ hw104_1)).trans hw104_1), ((HB.out.cell (World.block_lt_of_cell? w _ hw104_2)).trans hw104_2)⟩ (fun hHeld => ?_); clear hK K; refine norm_ (a' := ?_) ?_ ?_; rotate_left
               ·show Act.put _ (some 42) _ = _
                simp only [Act.put, q1, q2, q3, i64_w, i32_w]; rfl
               refine pv_ 26 43 38 134217727 ?_; refine pv_ 27 44 38 268435455 ?_; refine pv_ 28 45 38 536870911 ?_; refine pv_ 29 46 38 1073741823 ?_; (refine ta_ 30 47 38 2147483647 ?_ rfl rfl (take_ofW HT_.out HW_.out (by kernel_rfl)) (fun _ _ _ h => h) (by rfl) ?_ hHeld ?_ ?_ ?_; rotate_left; rintro w' ⟨s0, s1, s2, s3, s4, s5, s6⟩; go_simp; with_reducible rfl; rotate_left; simp only [Act.put, q1, q2, q3, i64_w, i32_w]; rfl); refine pv_ 31 48 38 4294967295 ?_
               refine pv_ 32 49 38 8589934591 ?_; refine pv_ 33 50 38 17179869183 ?_; refine pv_ 34 51 38 34359738367 ?_; (refine ta_ 35 52 38 68719476735 ?_ rfl rfl (take_ofW HT_.out HW_.out (by kernel_rfl)) (fun _ _ _ h => h) (by rfl) ?_ hHeld ?_ ?_ ?_; rotate_left; rintro w' ⟨s0, s1, s2, s3, s4, s5, s6⟩; go_simp; with_reducible rfl; rotate_left; simp only [Act.put, q1, q2, q3, i64_w, i32_w]; rfl); refine pv_ 36 53 38 137438953471 ?_; refine pv_ 37 54 38 274877906943 ?_
               refine done_ (done_of HT_.out (by kernel_rfl)) ?_; (try go_wp2); go_ret; exact ⟨by first | rfl | (simp [errW_none, errW_some] <;> rfl) | (simp only [← hji11]; first | rfl | (simp [errW_none, errW_some] <;> rfl)) | (simp [*, errW_none, errW_some] <;> rfl), hBq⟩
              ·rw [if_neg c34] at H
               have d7_ : decide (2147483647 ≤ ((rd_T33 l0_0 a0_).f1)) = false := decide_eq_false c34; clear c34; have H' := As H; clear H; have b1_ : 0 ≤ (a0_ : Int) := dq; have b2_ : a0_ < (l0_0.length : Int) := dq; obtain ⟨a5_, b6_, _, _, _⟩ := at_T33 (Kd.C_below HR0_0.out HB.out) a0_ b1_ b2_; cases b6_; replace b1_ := eq_true b1_; replace b2_ := eq_true b2_
               (try go_wp2_with (first | ((with_reducible refine gate_dst (N := 4) rfl ?_); (try (refine gate_guard (by rfl) ?_; dsimp only)); refine bxE 4 #[.int .i64 0, .int .i64 0, .string (⟨#[]⟩ : ByteArray)] 33 ?_; intro a1_ hg w40 hbox hb; have a2_ := As (hbox); have b3_ := As (by rw [hg]; exact (below_size hBq) : w.heap.size ≤ a1_); replace HB := sBq hb; have b9_ := b3_; have a4_ := As (by rw [hg]; exact Nat.ne_of_lt (blk_lt (g := a9_) (plq a3_.out)) : a9_ ≠ a1_); replace a3_ := As (blk_below (plq a3_.out) hb); have b0_ := As a4_.out.symm; clear hb hbox hg; have f5_ := b0_.out; have f6_ := a4_.out; have := cf3 a2_.out)))
               have n0_ : Aside0 ((((w40.setCell ⟨a1_, 0, none⟩ (((rd_T33 l0_0 a0_).f0))).setCell ⟨a1_, 1, none⟩ (((rd_T33 l0_0 a0_).f1))).setCell ⟨a1_, 2, none⟩ (.string ((rd_T33 l0_0 a0_).f2))).heap[a9_]? = some (.cells #[.slice (some a5_) l0_0.length c0_0] 25 (0, 0))) := ⟨by (iterate 3 (refine blk_far ?_ a4_.out _)); exact a3_.out⟩; have n1_ : Aside0 ((((w40.setCell ⟨a1_, 0, none⟩ (((rd_T33 l0_0 a0_).f0))).setCell ⟨a1_, 1, none⟩ (((rd_T33 l0_0 a0_).f1))).setCell ⟨a1_, 2, none⟩ (.string ((rd_T33 l0_0 a0_).f2))).heap[a1_]? = some (.cells #[((rd_T33 l0_0 a0_).f0), ((rd_T33 l0_0 a0_).f1), .string ((rd_T33 l0_0 a0_).f2)] 33 (0, 0))) := ⟨by apply puts3; exact a2_.out⟩
               have n2_ : Aside0 (Below w.heap.size w (((w40.setCell ⟨a1_, 0, none⟩ (((rd_T33 l0_0 a0_).f0))).setCell ⟨a1_, 1, none⟩ (((rd_T33 l0_0 a0_).f1))).setCell ⟨a1_, 2, none⟩ (.string ((rd_T33 l0_0 a0_).f2)))) := ⟨hBq⟩; (try clear a3_); (try clear a2_); (try clear HB); generalize (((w40.setCell ⟨a1_, 0, none⟩ (((rd_T33 l0_0 a0_).f0))).setCell ⟨a1_, 1, none⟩ (((rd_T33 l0_0 a0_).f1))).setCell ⟨a1_, 2, none⟩ (.string ((rd_T33 l0_0 a0_).f2))) = w43 at n0_ n1_ n2_ ⊢; have a3_ := n0_; have a2_ := n1_; have HB := n2_; clear n0_ n1_ n2_; replace a3_ := As (blk_drew a3_.out); replace a2_ := As (blk_drew a2_.out); replace HB := As (below_drew1 HB.out); have b4_ : 0 ≤ ((ji11) : Int) := dq; have b5_ : (ji11) < (l0_0.length : Int) := dq; obtain ⟨b7_, c1_, a6_, a7_, a8_⟩ := at_T33 HR0_0.out (ji11) b4_ b5_; have hw104_2 := a8_; have hw104_1 := a7_; have hw104_0 := a6_; obtain rfl : a5_ = b7_ := (by injection c1_)
               replace a6_ := (HB.out.cell (World.block_lt_of_cell? w _ a6_)).trans a6_; replace a7_ := (HB.out.cell (World.block_lt_of_cell? w _ a7_)).trans a7_; replace a8_ := (HB.out.cell (World.block_lt_of_cell? w _ a8_)).trans a8_; replace b4_ := eq_true b4_; replace b5_ := eq_true b5_
               refine start_ (n := 38) (S := fun w' => w'.cell? ⟨a1_, 0, none⟩ = some (.int .i64 ((rd_T33 l0_0 a0_).f0)) ∧ w'.cell? ⟨a1_, 1, none⟩ = some (.int .i64 ((rd_T33 l0_0 a0_).f1)) ∧ w'.cell? ⟨a1_, 2, none⟩ = some (.string ((rd_T33 l0_0 a0_).f2)) ∧ w'.cell? ⟨a9_, 0, none⟩ = some (.slice (some a5_) l0_0.length c0_0) ∧ w'.cell? (a5_.add (((ji11)).toNat * 3)) = some (.int .i64 ((rd_T33 l0_0 (ji11)).f0)) ∧ w'.cell? ⟨(a5_.add (((ji11)).toNat * 3)).block, (a5_.add (((ji11)).toNat * 3)).off + 1, none⟩ = some (.int .i64 ((rd_T33 l0_0 (ji11)).f1)) ∧ w'.cell? ⟨(a5_.add (((ji11)).toNat * 3)).block, (a5_.add (((ji11)).toNat * 3)).off + 2, none⟩ = some (.string ((rd_T33 l0_0 (ji11)).f2))) (ds := []) (marksOf 38 0) (by kernel_rfl) rfl rfl ⟨bc a2_ 0, bc a2_ 1, bc a2_ 2, bc a3_ 0, ((HB.out.cell (World.block_lt_of_cell? w _ hw104_0)).trans hw104_0), ((HB.out.cell (World.block_lt_of_cell? w _ hw104_1)).trans hw104_1), ((HB.out.cell (World.block_lt_of_cell? w _ hw104_2)).trans hw104_2)⟩ (fun hHeld => ?_); refine with_tabW refs_valid.tab6 refs_valid.bits6 (fun HT_ HW_ => ?_); generalize w43.drew = w44 at a3_ a2_ HB a6_ a7_ a8_ hHeld ⊢
               refine pv_ 0 17 38 1 ?_; refine pv_ 1 18 38 3 ?_; refine pv_ 2 19 38 7 ?_; refine pv_ 3 20 38 15 ?_; refine pv_ 5 22 38 47 ?_; refine pv_ 7 24 38 175 ?_
               refine pv_ 8 25 38 431 ?_; (refine ta_ 4 21 38 447 ?_ rfl rfl (take_ofW HT_.out HW_.out (by kernel_rfl)) (fun _ _ _ h => h) (by rfl) ?_ hHeld ?_ ?_ ?_; rotate_left; rintro w' ⟨s0, s1, s2, s3, s4, s5, s6⟩; go_simp; with_reducible rfl; rotate_left; simp only [Act.put, q1, q2, q3, i64_w, i32_w]; rfl); (refine ta_ 6 23 38 511 ?_ rfl rfl (take_ofW HT_.out HW_.out (by kernel_rfl)) (fun _ _ _ h => h) (by rfl) ?_ hHeld ?_ ?_ ?_; rotate_left; rintro w' ⟨s0, s1, s2, s3, s4, s5, s6⟩; go_simp; with_reducible rfl; rotate_left; simp only [Act.put, q1, q2, q3, i64_w, i32_w]; rfl); refine pv_ 9 26 38 1023 ?_; refine pv_ 10 27 38 2047 ?_
               (refine ta_ 11 28 38 4095 ?_ rfl rfl (take_ofW HT_.out HW_.out (by kernel_rfl)) (fun _ _ _ h => h) (by rfl) ?_ hHeld ?_ ?_ ?_; rotate_left; rintro w' ⟨s0, s1, s2, s3, s4, s5, s6⟩; go_simp; with_reducible rfl; rotate_left; simp only [Act.put, q1, q2, q3, i64_w, i32_w]; rfl); refine pv_ 12 29 38 8191 ?_; refine pv_ 13 30 38 16383 ?_; refine pv_ 14 31 38 32767 ?_; refine pv_ 15 32 38 65535 ?_; (refine ta_ 16 33 38 131071 ?_ rfl rfl (take_ofW HT_.out HW_.out (by kernel_rfl)) (fun _ _ _ h => h) (by rfl) ?_ hHeld ?_ ?_ ?_; rotate_left; rintro w' ⟨s0, s1, s2, s3, s4, s5, s6⟩; go_simp; with_reducible rfl; rotate_left; simp only [Act.put, q1, q2, q3, i64_w, i32_w]; rfl)
               refine pv_ 17 34 38 262143 ?_; refine pv_ 18 35 38 524287 ?_; refine pv_ 19 36 38 1048575 ?_; refine pv_ 20 37 38 2097151 ?_; refine pv_ 21 38 38 4194303 ?_; refine pv_ 23 40 38 12582911 ?_
               (refine ta_ 22 39 38 16777215 ?_ rfl rfl (take_ofW HT_.out HW_.out (by kernel_rfl)) (fun _ _ _ h => h) (by rfl) ?_ hHeld ?_ ?_ ?_; rotate_left; rintro w' ⟨s0, s1, s2, s3, s4, s5, s6⟩; go_simp; with_reducible rfl; rotate_left; simp only [Act.put, q1, q2, q3, i64_w, i32_w]; rfl); (refine ta_ 24 41 38 33554431 ?_ rfl rfl (take_ofW HT_.out HW_.out (by kernel_rfl)) (fun _ _ _ h => h) (by rfl) ?_ hHeld ?_ ?_ ?_; rotate_left; rintro w' ⟨s0, s1, s2, s3, s4, s5, s6⟩; go_simp; with_reducible rfl; rotate_left; simp only [Act.put, q1, q2, q3, i64_w, i32_w]; rfl); refine one_ (i := 25) (N := some 42) (marksOf 38 67108863) rfl rfl (one_of HT_.out (by kernel_rfl)) (by decide) (fun K hK => ?_); refine goes_ Try.func10 (by kernel_rfl) rfl #[.string ((rd_T33 l0_0 a0_).f2)] (by rfl) rfl rfl gq ?_
               with_reducible refine (digest_Sum.calls k1 ((rd_T33 l0_0 a0_).f2) b8_ _ A26.out).mono ?_
               rintro e w' ⟨rfl, ⟨nd, rfl⟩⟩; refine ⟨_, rfl, ?_⟩; refine hK.out _ _ ⟨bc a2_ 0, bc a2_ 1, bc a2_ 2, bc a3_ 0, ((HB.out.cell (World.block_lt_of_cell? w _ hw104_0)).trans hw104_0), ((HB.out.cell (World.block_lt_of_cell? w _ hw104_1)).trans hw104_1), ((HB.out.cell (World.block_lt_of_cell? w _ hw104_2)).trans hw104_2)⟩ (fun hHeld => ?_); clear hK K; refine norm_ (a' := ?_) ?_ ?_; rotate_left
               ·show Act.put _ (some 42) _ = _
                simp only [Act.put, q1, q2, q3, i64_w, i32_w]; rfl
               refine pv_ 26 43 38 134217727 ?_; refine pv_ 27 44 38 268435455 ?_; refine pv_ 28 45 38 536870911 ?_; refine pv_ 29 46 38 1073741823 ?_; (refine ta_ 30 47 38 2147483647 ?_ rfl rfl (take_ofW HT_.out HW_.out (by kernel_rfl)) (fun _ _ _ h => h) (by rfl) ?_ hHeld ?_ ?_ ?_; rotate_left; rintro w' ⟨s0, s1, s2, s3, s4, s5, s6⟩; go_simp; with_reducible rfl; rotate_left; simp only [Act.put, q1, q2, q3, i64_w, i32_w]; rfl); refine pv_ 31 48 38 4294967295 ?_
               refine pv_ 32 49 38 8589934591 ?_; refine pv_ 33 50 38 17179869183 ?_; refine pv_ 34 51 38 34359738367 ?_; (refine ta_ 35 52 38 68719476735 ?_ rfl rfl (take_ofW HT_.out HW_.out (by kernel_rfl)) (fun _ _ _ h => h) (by rfl) ?_ hHeld ?_ ?_ ?_; rotate_left; rintro w' ⟨s0, s1, s2, s3, s4, s5, s6⟩; go_simp; with_reducible rfl; rotate_left; simp only [Act.put, q1, q2, q3, i64_w, i32_w]; rfl); refine pv_ 36 53 38 137438953471 ?_; refine pv_ 37 54 38 274877906943 ?_
               refine done_ (done_of HT_.out (by kernel_rfl)) ?_; (try go_wp2); go_roundg k1
               case measure => have := HK1.out; omega
               case rel => exact ⟨(wrap64 (a0_ + 1)), (by first | rfl | (simp; done) | (simp [*]; done)), H', ⟨by have := HK1.out; omega⟩, ⟨by refine plT ?_; exact a3_.out⟩, ⟨hBq⟩⟩
            ·rw [if_neg c27] at H
             have d4_ : (((rd_T33 l0_0 a0_).f0) == b8_) = false := beq_eq_false_iff_ne.mpr c27; have d5_ : (((rd_T33 l0_0 a0_).f0) != b8_) = true := bne_iff_ne.mpr c27; obtain rfl := Option.some.inj H; have b1_ : 0 ≤ (a0_ : Int) := dq; have b2_ : a0_ < (l0_0.length : Int) := dq; obtain ⟨a5_, b6_, _, _, _⟩ := at_T33 (Kd.C_below HR0_0.out HB.out) a0_ b1_ b2_; cases b6_; replace b1_ := eq_true b1_; replace b2_ := eq_true b2_
             (try go_wp2_with (first | ((with_reducible refine gate_dst (N := 4) rfl ?_); (try (refine gate_guard (by rfl) ?_; dsimp only)); refine bxE 4 #[.int .i64 0, .int .i64 0, .string (⟨#[]⟩ : ByteArray)] 33 ?_; intro a1_ hg w45 hbox hb; have a2_ := As (hbox); have b3_ := As (by rw [hg]; exact (below_size hBq) : w.heap.size ≤ a1_); replace HB := sBq hb; have b9_ := b3_; have a4_ := As (by rw [hg]; exact Nat.ne_of_lt (blk_lt (g := a9_) (plq a3_.out)) : a9_ ≠ a1_); replace a3_ := As (blk_below (plq a3_.out) hb); have b0_ := As a4_.out.symm; clear hb hbox hg; have f7_ := b0_.out; have f8_ := a4_.out; have := cf3 a2_.out)))
             have n0_ : Aside0 ((((w45.setCell ⟨a1_, 0, none⟩ (((rd_T33 l0_0 a0_).f0))).setCell ⟨a1_, 1, none⟩ (((rd_T33 l0_0 a0_).f1))).setCell ⟨a1_, 2, none⟩ (.string ((rd_T33 l0_0 a0_).f2))).heap[a9_]? = some (.cells #[.slice (some a5_) l0_0.length c0_0] 25 (0, 0))) := ⟨by (iterate 3 (refine blk_far ?_ a4_.out _)); exact a3_.out⟩; have n1_ : Aside0 ((((w45.setCell ⟨a1_, 0, none⟩ (((rd_T33 l0_0 a0_).f0))).setCell ⟨a1_, 1, none⟩ (((rd_T33 l0_0 a0_).f1))).setCell ⟨a1_, 2, none⟩ (.string ((rd_T33 l0_0 a0_).f2))).heap[a1_]? = some (.cells #[((rd_T33 l0_0 a0_).f0), ((rd_T33 l0_0 a0_).f1), .string ((rd_T33 l0_0 a0_).f2)] 33 (0, 0))) := ⟨by apply puts3; exact a2_.out⟩
             have n2_ : Aside0 (Below w.heap.size w (((w45.setCell ⟨a1_, 0, none⟩ (((rd_T33 l0_0 a0_).f0))).setCell ⟨a1_, 1, none⟩ (((rd_T33 l0_0 a0_).f1))).setCell ⟨a1_, 2, none⟩ (.string ((rd_T33 l0_0 a0_).f2)))) := ⟨hBq⟩; (try clear a3_); (try clear a2_); (try clear HB); generalize (((w45.setCell ⟨a1_, 0, none⟩ (((rd_T33 l0_0 a0_).f0))).setCell ⟨a1_, 1, none⟩ (((rd_T33 l0_0 a0_).f1))).setCell ⟨a1_, 2, none⟩ (.string ((rd_T33 l0_0 a0_).f2))) = w48 at n0_ n1_ n2_ ⊢; have a3_ := n0_; have a2_ := n1_; have HB := n2_; clear n0_ n1_ n2_; replace a3_ := As (blk_drew a3_.out); replace a2_ := As (blk_drew a2_.out); replace HB := As (below_drew1 HB.out); have b4_ : 0 ≤ ((ji11) : Int) := dq; have b5_ : (ji11) < (l0_0.length : Int) := dq; obtain ⟨b7_, c1_, a6_, a7_, a8_⟩ := at_T33 HR0_0.out (ji11) b4_ b5_; have hw104_2 := a8_; have hw104_1 := a7_; have hw104_0 := a6_; obtain rfl : a5_ = b7_ := (by injection c1_)
             replace a6_ := (HB.out.cell (World.block_lt_of_cell? w _ a6_)).trans a6_; replace a7_ := (HB.out.cell (World.block_lt_of_cell? w _ a7_)).trans a7_; replace a8_ := (HB.out.cell (World.block_lt_of_cell? w _ a8_)).trans a8_; replace b4_ := eq_true b4_; replace b5_ := eq_true b5_
             refine start_ (n := 38) (S := fun w' => w'.cell? ⟨a1_, 0, none⟩ = some (.int .i64 ((rd_T33 l0_0 a0_).f0)) ∧ w'.cell? ⟨a1_, 1, none⟩ = some (.int .i64 ((rd_T33 l0_0 a0_).f1)) ∧ w'.cell? ⟨a1_, 2, none⟩ = some (.string ((rd_T33 l0_0 a0_).f2)) ∧ w'.cell? ⟨a9_, 0, none⟩ = some (.slice (some a5_) l0_0.length c0_0) ∧ w'.cell? (a5_.add (((ji11)).toNat * 3)) = some (.int .i64 ((rd_T33 l0_0 (ji11)).f0)) ∧ w'.cell? ⟨(a5_.add (((ji11)).toNat * 3)).block, (a5_.add (((ji11)).toNat * 3)).off + 1, none⟩ = some (.int .i64 ((rd_T33 l0_0 (ji11)).f1)) ∧ w'.cell? ⟨(a5_.add (((ji11)).toNat * 3)).block, (a5_.add (((ji11)).toNat * 3)).off + 2, none⟩ = some (.string ((rd_T33 l0_0 (ji11)).f2))) (ds := []) (marksOf 38 0) (by kernel_rfl) rfl rfl ⟨bc a2_ 0, bc a2_ 1, bc a2_ 2, bc a3_ 0, ((HB.out.cell (World.block_lt_of_cell? w _ hw104_0)).trans hw104_0), ((HB.out.cell (World.block_lt_of_cell? w _ hw104_1)).trans hw104_1), ((HB.out.cell (World.block_lt_of_cell? w _ hw104_2)).trans hw104_2)⟩ (fun hHeld => ?_); refine with_tabW refs_valid.tab6 refs_valid.bits6 (fun HT_ HW_ => ?_); generalize w48.drew = w49 at a3_ a2_ HB a6_ a7_ a8_ hHeld ⊢; refine pv_ 0 17 38 1 ?_
             refine pv_ 1 18 38 3 ?_; refine pv_ 2 19 38 7 ?_; refine pv_ 3 20 38 15 ?_; refine pv_ 5 22 38 47 ?_; refine pv_ 7 24 38 175 ?_; refine pv_ 8 25 38 431 ?_
             (refine ta_ 4 21 38 447 ?_ rfl rfl (take_ofW HT_.out HW_.out (by kernel_rfl)) (fun _ _ _ h => h) (by rfl) ?_ hHeld ?_ ?_ ?_; rotate_left; rintro w' ⟨s0, s1, s2, s3, s4, s5, s6⟩; go_simp; with_reducible rfl; rotate_left; simp only [Act.put, q1, q2, q3, i64_w, i32_w]; rfl); (refine ta_ 6 23 38 511 ?_ rfl rfl (take_ofW HT_.out HW_.out (by kernel_rfl)) (fun _ _ _ h => h) (by rfl) ?_ hHeld ?_ ?_ ?_; rotate_left; rintro w' ⟨s0, s1, s2, s3, s4, s5, s6⟩; go_simp; with_reducible rfl; rotate_left; simp only [Act.put, q1, q2, q3, i64_w, i32_w]; rfl); refine pv_ 9 26 38 1023 ?_; refine pv_ 10 27 38 2047 ?_; (refine ta_ 11 28 38 4095 ?_ rfl rfl (take_ofW HT_.out HW_.out (by kernel_rfl)) (fun _ _ _ h => h) (by rfl) ?_ hHeld ?_ ?_ ?_; rotate_left; rintro w' ⟨s0, s1, s2, s3, s4, s5, s6⟩; go_simp; with_reducible rfl; rotate_left; simp only [Act.put, q1, q2, q3, i64_w, i32_w]; rfl)
             refine pv_ 12 29 38 8191 ?_; refine pv_ 13 30 38 16383 ?_; refine pv_ 14 31 38 32767 ?_; refine pv_ 15 32 38 65535 ?_; (refine ta_ 16 33 38 131071 ?_ rfl rfl (take_ofW HT_.out HW_.out (by kernel_rfl)) (fun _ _ _ h => h) (by rfl) ?_ hHeld ?_ ?_ ?_; rotate_left; rintro w' ⟨s0, s1, s2, s3, s4, s5, s6⟩; go_simp; with_reducible rfl; rotate_left; simp only [Act.put, q1, q2, q3, i64_w, i32_w]; rfl); refine pv_ 17 34 38 262143 ?_
             refine pv_ 18 35 38 524287 ?_; refine pv_ 19 36 38 1048575 ?_; refine pv_ 20 37 38 2097151 ?_; refine pv_ 21 38 38 4194303 ?_; refine pv_ 23 40 38 12582911 ?_; (refine ta_ 22 39 38 16777215 ?_ rfl rfl (take_ofW HT_.out HW_.out (by kernel_rfl)) (fun _ _ _ h => h) (by rfl) ?_ hHeld ?_ ?_ ?_; rotate_left; rintro w' ⟨s0, s1, s2, s3, s4, s5, s6⟩; go_simp; with_reducible rfl; rotate_left; simp only [Act.put, q1, q2, q3, i64_w, i32_w]; rfl)
             (refine ta_ 24 41 38 33554431 ?_ rfl rfl (take_ofW HT_.out HW_.out (by kernel_rfl)) (fun _ _ _ h => h) (by rfl) ?_ hHeld ?_ ?_ ?_; rotate_left; rintro w' ⟨s0, s1, s2, s3, s4, s5, s6⟩; go_simp; with_reducible rfl; rotate_left; simp only [Act.put, q1, q2, q3, i64_w, i32_w]; rfl); refine one_ (i := 25) (N := some 42) (marksOf 38 67108863) rfl rfl (one_of HT_.out (by kernel_rfl)) (by decide) (fun K hK => ?_); refine goes_ Try.func10 (by kernel_rfl) rfl #[.string ((rd_T33 l0_0 a0_).f2)] (by rfl) rfl rfl gq ?_
             with_reducible refine (digest_Sum.calls k1 ((rd_T33 l0_0 a0_).f2) b8_ _ A26.out).mono ?_
             rintro e w' ⟨rfl, ⟨nd, rfl⟩⟩; refine ⟨_, rfl, ?_⟩; refine hK.out _ _ ⟨bc a2_ 0, bc a2_ 1, bc a2_ 2, bc a3_ 0, ((HB.out.cell (World.block_lt_of_cell? w _ hw104_0)).trans hw104_0), ((HB.out.cell (World.block_lt_of_cell? w _ hw104_1)).trans hw104_1), ((HB.out.cell (World.block_lt_of_cell? w _ hw104_2)).trans hw104_2)⟩ (fun hHeld => ?_); clear hK K; refine norm_ (a' := ?_) ?_ ?_; rotate_left
             ·show Act.put _ (some 42) _ = _
              simp only [Act.put, q1, q2, q3, i64_w, i32_w]; rfl
             refine pv_ 26 43 38 134217727 ?_; refine pv_ 27 44 38 268435455 ?_; refine pv_ 28 45 38 536870911 ?_; refine pure_ (i := 29) (N := some 46) (v := undef) (a' := ?_) (marksOf 38 1073741823) rfl rfl (any_of HT_.out (by kernel_rfl)) (fun _ _ _ h => h) (Or.inr ⟨by rfl, rfl⟩) ?_ ?_; rotate_left
             ·simp only [Act.put, q1, q2, q3, i64_w, i32_w]
              rfl
             refine pure_ (i := 30) (N := some 47) (v := undef) (a' := ?_) (marksOf 38 2147483647) rfl rfl (any_of HT_.out (by kernel_rfl)) (fun _ _ _ h => h) (Or.inr ⟨by rfl, rfl⟩) ?_ ?_; rotate_left
             ·simp only [Act.put, q1, q2, q3, i64_w, i32_w]
              rfl
             refine pure_ (i := 31) (N := some 48) (v := undef) (a' := ?_) (marksOf 38 4294967295) rfl rfl (any_of HT_.out (by kernel_rfl)) (fun _ _ _ h => h) (Or.inr ⟨by rfl, rfl⟩) ?_ ?_; rotate_left
             ·simp only [Act.put, q1, q2, q3, i64_w, i32_w]
              rfl
             refine pv_ 32 49 38 8589934591 ?_; refine pv_ 33 50 38 17179869183 ?_; refine pure_ (i := 34) (N := some 51) (v := undef) (a' := ?_) (marksOf 38 34359738367) rfl rfl (any_of HT_.out (by kernel_rfl)) (fun _ _ _ h => h) (Or.inr ⟨by rfl, rfl⟩) ?_ ?_; rotate_left
             ·simp only [Act.put, q1, q2, q3, i64_w, i32_w]
              rfl
             refine pure_ (i := 35) (N := some 52) (v := undef) (a' := ?_) (marksOf 38 68719476735) rfl rfl (any_of HT_.out (by kernel_rfl)) (fun _ _ _ h => h) (Or.inr ⟨by rfl, rfl⟩) ?_ ?_; rotate_left
             ·simp only [Act.put, q1, q2, q3, i64_w, i32_w]
              rfl
             refine pure_ (i := 36) (N := some 53) (v := undef) (a' := ?_) (marksOf 38 137438953471) rfl rfl (any_of HT_.out (by kernel_rfl)) (fun _ _ _ h => h) (Or.inr ⟨by rfl, rfl⟩) ?_ ?_; rotate_left
             ·simp only [Act.put, q1, q2, q3, i64_w, i32_w]
              rfl
             refine pv_ 37 54 38 274877906943 ?_; refine done_ (done_of HT_.out (by kernel_rfl)) ?_; (try go_wp2); go_ret; exact ⟨by first | rfl | (simp [errW_none, errW_some] <;> rfl) | (simp only [← hji11]; first | rfl | (simp [errW_none, errW_some] <;> rfl)) | (simp [*, errW_none, errW_some] <;> rfl), hBq⟩
         ·rw [if_neg c13] at H
          exact absurd H (by simp)
        ·rw [if_neg c12] at H
         exact absurd H (by simp)
       ·rw [if_neg c10] at H
        have d0_ : decide (0 < a0_) = false := decide_eq_false c10; clear c10
        by_cases c50 : (((rd_T33 l0_0 a0_).f2).size : Int) > 16384
        ·rw [if_pos c50] at H
         have d8_ : decide (16384 < (((rd_T33 l0_0 a0_).f2).size : Int)) = true := decide_eq_true c50; have d9_ : decide (16384 < ((rd_T33 l0_0 a0_).f2).size) = true := decide_eq_true (by omega); clear c50; obtain rfl := Option.some.inj H; have b1_ : 0 ≤ (a0_ : Int) := dq; have b2_ : a0_ < (l0_0.length : Int) := dq; obtain ⟨a5_, b6_, _, _, _⟩ := at_T33 (Kd.C_below HR0_0.out HB.out) a0_ b1_ b2_; cases b6_; replace b1_ := eq_true b1_; replace b2_ := eq_true b2_
         (try go_wp2_with (first | ((with_reducible refine gate_dst (N := 4) rfl ?_); (try (refine gate_guard (by rfl) ?_; dsimp only)); refine bxE 4 #[.int .i64 0, .int .i64 0, .string (⟨#[]⟩ : ByteArray)] 33 ?_; intro a1_ hg w51 hbox hb; have a2_ := As (hbox); have b3_ := As (by rw [hg]; exact (below_size hBq) : w.heap.size ≤ a1_); replace HB := sBq hb; have b9_ := b3_; have a4_ := As (by rw [hg]; exact Nat.ne_of_lt (blk_lt (g := a9_) (plq a3_.out)) : a9_ ≠ a1_); replace a3_ := As (blk_below (plq a3_.out) hb); have b0_ := As a4_.out.symm; clear hb hbox hg; have f9_ := b0_.out; have g0_ := a4_.out; have := cf3 a2_.out)))
         have n0_ : Aside0 ((((w51.setCell ⟨a1_, 0, none⟩ (((rd_T33 l0_0 a0_).f0))).setCell ⟨a1_, 1, none⟩ (((rd_T33 l0_0 a0_).f1))).setCell ⟨a1_, 2, none⟩ (.string ((rd_T33 l0_0 a0_).f2))).heap[a9_]? = some (.cells #[.slice (some a5_) l0_0.length c0_0] 25 (0, 0))) := ⟨by (iterate 3 (refine blk_far ?_ a4_.out _)); exact a3_.out⟩; have n1_ : Aside0 ((((w51.setCell ⟨a1_, 0, none⟩ (((rd_T33 l0_0 a0_).f0))).setCell ⟨a1_, 1, none⟩ (((rd_T33 l0_0 a0_).f1))).setCell ⟨a1_, 2, none⟩ (.string ((rd_T33 l0_0 a0_).f2))).heap[a1_]? = some (.cells #[((rd_T33 l0_0 a0_).f0), ((rd_T33 l0_0 a0_).f1), .string ((rd_T33 l0_0 a0_).f2)] 33 (0, 0))) := ⟨by apply puts3; exact a2_.out⟩
         have n2_ : Aside0 (Below w.heap.size w (((w51.setCell ⟨a1_, 0, none⟩ (((rd_T33 l0_0 a0_).f0))).setCell ⟨a1_, 1, none⟩ (((rd_T33 l0_0 a0_).f1))).setCell ⟨a1_, 2, none⟩ (.string ((rd_T33 l0_0 a0_).f2)))) := ⟨hBq⟩; (try clear a3_); (try clear a2_); (try clear HB); generalize (((w51.setCell ⟨a1_, 0, none⟩ (((rd_T33 l0_0 a0_).f0))).setCell ⟨a1_, 1, none⟩ (((rd_T33 l0_0 a0_).f1))).setCell ⟨a1_, 2, none⟩ (.string ((rd_T33 l0_0 a0_).f2))) = w54 at n0_ n1_ n2_ ⊢; have a3_ := n0_; have a2_ := n1_; have HB := n2_; clear n0_ n1_ n2_; replace a3_ := As (blk_drew a3_.out); replace a2_ := As (blk_drew a2_.out); replace HB := As (below_drew1 HB.out); refine start_ (n := 38) (S := fun w' => w'.cell? ⟨a1_, 0, none⟩ = some (.int .i64 ((rd_T33 l0_0 a0_).f0)) ∧ w'.cell? ⟨a1_, 1, none⟩ = some (.int .i64 ((rd_T33 l0_0 a0_).f1)) ∧ w'.cell? ⟨a1_, 2, none⟩ = some (.string ((rd_T33 l0_0 a0_).f2))) (ds := []) (marksOf 38 0) (by kernel_rfl) rfl rfl ⟨bc a2_ 0, bc a2_ 1, bc a2_ 2⟩ (fun hHeld => ?_); refine with_tabW refs_valid.tab6 refs_valid.bits6 (fun HT_ HW_ => ?_)
         generalize w54.drew = w55 at a3_ a2_ HB hHeld ⊢; refine pv_ 0 17 38 1 ?_; refine pv_ 1 18 38 3 ?_; refine pv_ 2 19 38 7 ?_; refine pure_ (i := 3) (N := some 20) (v := undef) (a' := ?_) (marksOf 38 15) rfl rfl (any_of HT_.out (by kernel_rfl)) (fun _ _ _ h => h) (Or.inr ⟨by rfl, rfl⟩) ?_ ?_; rotate_left
         ·simp only [Act.put, q1, q2, q3, i64_w, i32_w]
          rfl
         refine pure_ (i := 4) (N := some 21) (v := undef) (a' := ?_) (marksOf 38 31) rfl rfl (any_of HT_.out (by kernel_rfl)) (fun _ _ _ h => h) (Or.inr ⟨by rfl, rfl⟩) ?_ ?_; rotate_left
         ·simp only [Act.put, q1, q2, q3, i64_w, i32_w]
          rfl
         refine pure_ (i := 5) (N := some 22) (v := undef) (a' := ?_) (marksOf 38 63) rfl rfl (any_of HT_.out (by kernel_rfl)) (fun _ _ _ h => h) (Or.inr ⟨by rfl, rfl⟩) ?_ ?_; rotate_left
         ·simp only [Act.put, q1, q2, q3, i64_w, i32_w]
          rfl
         refine pure_ (i := 6) (N := some 23) (v := undef) (a' := ?_) (marksOf 38 127) rfl rfl (any_of HT_.out (by kernel_rfl)) (fun _ _ _ h => h) (Or.inr ⟨by rfl, rfl⟩) ?_ ?_; rotate_left
         ·simp only [Act.put, q1, q2, q3, i64_w, i32_w]
          rfl
         refine pure_ (i := 7) (N := some 24) (v := undef) (a' := ?_) (marksOf 38 255) rfl rfl (any_of HT_.out (by kernel_rfl)) (fun _ _ _ h => h) (Or.inr ⟨by rfl, rfl⟩) ?_ ?_; rotate_left
         ·simp only [Act.put, q1, q2, q3, i64_w, i32_w]
          rfl
         refine pure_ (i := 8) (N := some 25) (v := undef) (a' := ?_) (marksOf 38 511) rfl rfl (any_of HT_.out (by kernel_rfl)) (fun _ _ _ h => h) (Or.inr ⟨by rfl, rfl⟩) ?_ ?_; rotate_left
         ·simp only [Act.put, q1, q2, q3, i64_w, i32_w]
          rfl
         refine pure_ (i := 9) (N := some 26) (v := undef) (a' := ?_) (marksOf 38 1023) rfl rfl (any_of HT_.out (by kernel_rfl)) (fun _ _ _ h => h) (Or.inr ⟨by rfl, rfl⟩) ?_ ?_; rotate_left
         ·simp only [Act.put, q1, q2, q3, i64_w, i32_w]
          rfl
         refine pure_ (i := 10) (N := some 27) (v := undef) (a' := ?_) (marksOf 38 2047) rfl rfl (any_of HT_.out (by kernel_rfl)) (fun _ _ _ h => h) (Or.inr ⟨by rfl, rfl⟩) ?_ ?_; rotate_left
         ·simp only [Act.put, q1, q2, q3, i64_w, i32_w]
          rfl
         refine pure_ (i := 11) (N := some 28) (v := undef) (a' := ?_) (marksOf 38 4095) rfl rfl (any_of HT_.out (by kernel_rfl)) (fun _ _ _ h => h) (Or.inr ⟨by rfl, rfl⟩) ?_ ?_; rotate_left
         ·simp only [Act.put, q1, q2, q3, i64_w, i32_w]
          rfl
         refine pure_ (i := 12) (N := some 29) (v := undef) (a' := ?_) (marksOf 38 8191) rfl rfl (any_of HT_.out (by kernel_rfl)) (fun _ _ _ h => h) (Or.inr ⟨by rfl, rfl⟩) ?_ ?_; rotate_left
         ·simp only [Act.put, q1, q2, q3, i64_w, i32_w]
          rfl
         refine pv_ 13 30 38 16383 ?_; refine pv_ 14 31 38 32767 ?_; refine pv_ 15 32 38 65535 ?_; (refine ta_ 16 33 38 131071 ?_ rfl rfl (take_ofW HT_.out HW_.out (by kernel_rfl)) (fun _ _ _ h => h) (by rfl) ?_ hHeld ?_ ?_ ?_; rotate_left; rintro w' ⟨s0, s1, s2⟩; go_simp; with_reducible rfl; rotate_left; simp only [Act.put, q1, q2, q3, i64_w, i32_w]; rfl); refine pv_ 17 34 38 262143 ?_; refine pv_ 18 35 38 524287 ?_
         refine pv_ 19 36 38 1048575 ?_; refine pv_ 20 37 38 2097151 ?_; refine pure_ (i := 21) (N := some 38) (v := undef) (a' := ?_) (marksOf 38 4194303) rfl rfl (any_of HT_.out (by kernel_rfl)) (fun _ _ _ h => h) (Or.inr ⟨by rfl, rfl⟩) ?_ ?_; rotate_left
         ·simp only [Act.put, q1, q2, q3, i64_w, i32_w]
          rfl
         refine pure_ (i := 22) (N := some 39) (v := undef) (a' := ?_) (marksOf 38 8388607) rfl rfl (any_of HT_.out (by kernel_rfl)) (fun _ _ _ h => h) (Or.inr ⟨by rfl, rfl⟩) ?_ ?_; rotate_left
         ·simp only [Act.put, q1, q2, q3, i64_w, i32_w]
          rfl
         refine pure_ (i := 23) (N := some 40) (v := undef) (a' := ?_) (marksOf 38 16777215) rfl rfl (any_of HT_.out (by kernel_rfl)) (fun _ _ _ h => h) (Or.inr ⟨by rfl, rfl⟩) ?_ ?_; rotate_left
         ·simp only [Act.put, q1, q2, q3, i64_w, i32_w]
          rfl
         refine pure_ (i := 24) (N := some 41) (v := undef) (a' := ?_) (marksOf 38 33554431) rfl rfl (any_of HT_.out (by kernel_rfl)) (fun _ _ _ h => h) (Or.inr ⟨by rfl, rfl⟩) ?_ ?_; rotate_left
         ·simp only [Act.put, q1, q2, q3, i64_w, i32_w]
          rfl
         refine pure_ (i := 25) (N := some 42) (v := undef) (a' := ?_) (marksOf 38 67108863) rfl rfl (any_of HT_.out (by kernel_rfl)) (fun _ _ _ h => h) (Or.inr ⟨by rfl, rfl⟩) ?_ ?_; rotate_left
         ·simp only [Act.put, q1, q2, q3, i64_w, i32_w]
          rfl
         refine pure_ (i := 26) (N := some 43) (v := undef) (a' := ?_) (marksOf 38 134217727) rfl rfl (any_of HT_.out (by kernel_rfl)) (fun _ _ _ h => h) (Or.inr ⟨by rfl, rfl⟩) ?_ ?_; rotate_left
         ·simp only [Act.put, q1, q2, q3, i64_w, i32_w]
          rfl
         refine pv_ 27 44 38 268435455 ?_; refine pv_ 28 45 38 536870911 ?_; refine pure_ (i := 29) (N := some 46) (v := undef) (a' := ?_) (marksOf 38 1073741823) rfl rfl (any_of HT_.out (by kernel_rfl)) (fun _ _ _ h => h) (Or.inr ⟨by rfl, rfl⟩) ?_ ?_; rotate_left
         ·simp only [Act.put, q1, q2, q3, i64_w, i32_w]
          rfl
         refine pure_ (i := 30) (N := some 47) (v := undef) (a' := ?_) (marksOf 38 2147483647) rfl rfl (any_of HT_.out (by kernel_rfl)) (fun _ _ _ h => h) (Or.inr ⟨by rfl, rfl⟩) ?_ ?_; rotate_left
         ·simp only [Act.put, q1, q2, q3, i64_w, i32_w]
          rfl
         refine pure_ (i := 31) (N := some 48) (v := undef) (a' := ?_) (marksOf 38 4294967295) rfl rfl (any_of HT_.out (by kernel_rfl)) (fun _ _ _ h => h) (Or.inr ⟨by rfl, rfl⟩) ?_ ?_; rotate_left
         ·simp only [Act.put, q1, q2, q3, i64_w, i32_w]
          rfl
         refine pv_ 32 49 38 8589934591 ?_; refine pv_ 33 50 38 17179869183 ?_; refine pure_ (i := 34) (N := some 51) (v := undef) (a' := ?_) (marksOf 38 34359738367) rfl rfl (any_of HT_.out (by kernel_rfl)) (fun _ _ _ h => h) (Or.inr ⟨by rfl, rfl⟩) ?_ ?_; rotate_left
         ·simp only [Act.put, q1, q2, q3, i64_w, i32_w]
          rfl
         refine pure_ (i := 35) (N := some 52) (v := undef) (a' := ?_) (marksOf 38 68719476735) rfl rfl (any_of HT_.out (by kernel_rfl)) (fun _ _ _ h => h) (Or.inr ⟨by rfl, rfl⟩) ?_ ?_; rotate_left
         ·simp only [Act.put, q1, q2, q3, i64_w, i32_w]
          rfl
         refine pure_ (i := 36) (N := some 53) (v := undef) (a' := ?_) (marksOf 38 137438953471) rfl rfl (any_of HT_.out (by kernel_rfl)) (fun _ _ _ h => h) (Or.inr ⟨by rfl, rfl⟩) ?_ ?_; rotate_left
         ·simp only [Act.put, q1, q2, q3, i64_w, i32_w]
          rfl
         refine pv_ 37 54 38 274877906943 ?_; refine done_ (done_of HT_.out (by kernel_rfl)) ?_; (try go_wp2); go_ret; exact ⟨by first | rfl | (simp [errW_none, errW_some] <;> rfl) | (simp [*, errW_none, errW_some] <;> rfl), hBq⟩
        ·rw [if_neg c50] at H
         have d8_ : decide (16384 < (((rd_T33 l0_0 a0_).f2).size : Int)) = false := decide_eq_false c50; have d9_ : decide (16384 < ((rd_T33 l0_0 a0_).f2).size) = false := decide_eq_false (by omega); clear c50; obtain ⟨c0_, A56, H⟩ := bnd H; (try dsimp only at H)
         by_cases c57 : ((rd_T33 l0_0 a0_).f0) = c0_
         ·rw [if_pos c57] at H
          have e0_ : (((rd_T33 l0_0 a0_).f0) == c0_) = true := beq_iff_eq.mpr c57; have e1_ : (((rd_T33 l0_0 a0_).f0) != c0_) = false := bne_eq_false_iff_eq.mpr c57; clear c57
          by_cases c58 : ((rd_T33 l0_0 a0_).f1) < 1
          ·rw [if_pos c58] at H
           have e2_ : decide (((rd_T33 l0_0 a0_).f1) < 1) = true := decide_eq_true c58; clear c58; obtain rfl := Option.some.inj H; have b1_ : 0 ≤ (a0_ : Int) := dq; have b2_ : a0_ < (l0_0.length : Int) := dq; obtain ⟨a5_, b6_, _, _, _⟩ := at_T33 (Kd.C_below HR0_0.out HB.out) a0_ b1_ b2_; cases b6_; replace b1_ := eq_true b1_; replace b2_ := eq_true b2_
           (try go_wp2_with (first | ((with_reducible refine gate_dst (N := 4) rfl ?_); (try (refine gate_guard (by rfl) ?_; dsimp only)); refine bxE 4 #[.int .i64 0, .int .i64 0, .string (⟨#[]⟩ : ByteArray)] 33 ?_; intro a1_ hg w59 hbox hb; have a2_ := As (hbox); have b3_ := As (by rw [hg]; exact (below_size hBq) : w.heap.size ≤ a1_); replace HB := sBq hb; have b9_ := b3_; have a4_ := As (by rw [hg]; exact Nat.ne_of_lt (blk_lt (g := a9_) (plq a3_.out)) : a9_ ≠ a1_); replace a3_ := As (blk_below (plq a3_.out) hb); have b0_ := As a4_.out.symm; clear hb hbox hg; have g1_ := b0_.out; have g2_ := a4_.out; have := cf3 a2_.out)))
           have n0_ : Aside0 ((((w59.setCell ⟨a1_, 0, none⟩ (((rd_T33 l0_0 a0_).f0))).setCell ⟨a1_, 1, none⟩ (((rd_T33 l0_0 a0_).f1))).setCell ⟨a1_, 2, none⟩ (.string ((rd_T33 l0_0 a0_).f2))).heap[a9_]? = some (.cells #[.slice (some a5_) l0_0.length c0_0] 25 (0, 0))) := ⟨by (iterate 3 (refine blk_far ?_ a4_.out _)); exact a3_.out⟩; have n1_ : Aside0 ((((w59.setCell ⟨a1_, 0, none⟩ (((rd_T33 l0_0 a0_).f0))).setCell ⟨a1_, 1, none⟩ (((rd_T33 l0_0 a0_).f1))).setCell ⟨a1_, 2, none⟩ (.string ((rd_T33 l0_0 a0_).f2))).heap[a1_]? = some (.cells #[((rd_T33 l0_0 a0_).f0), ((rd_T33 l0_0 a0_).f1), .string ((rd_T33 l0_0 a0_).f2)] 33 (0, 0))) := ⟨by apply puts3; exact a2_.out⟩
           have n2_ : Aside0 (Below w.heap.size w (((w59.setCell ⟨a1_, 0, none⟩ (((rd_T33 l0_0 a0_).f0))).setCell ⟨a1_, 1, none⟩ (((rd_T33 l0_0 a0_).f1))).setCell ⟨a1_, 2, none⟩ (.string ((rd_T33 l0_0 a0_).f2)))) := ⟨hBq⟩; (try clear a3_); (try clear a2_); (try clear HB); generalize (((w59.setCell ⟨a1_, 0, none⟩ (((rd_T33 l0_0 a0_).f0))).setCell ⟨a1_, 1, none⟩ (((rd_T33 l0_0 a0_).f1))).setCell ⟨a1_, 2, none⟩ (.string ((rd_T33 l0_0 a0_).f2))) = w62 at n0_ n1_ n2_ ⊢; have a3_ := n0_; have a2_ := n1_; have HB := n2_; clear n0_ n1_ n2_; replace a3_ := As (blk_drew a3_.out); replace a2_ := As (blk_drew a2_.out); replace HB := As (below_drew1 HB.out); refine start_ (n := 38) (S := fun w' => w'.cell? ⟨a1_, 0, none⟩ = some (.int .i64 ((rd_T33 l0_0 a0_).f0)) ∧ w'.cell? ⟨a1_, 1, none⟩ = some (.int .i64 ((rd_T33 l0_0 a0_).f1)) ∧ w'.cell? ⟨a1_, 2, none⟩ = some (.string ((rd_T33 l0_0 a0_).f2))) (ds := []) (marksOf 38 0) (by kernel_rfl) rfl rfl ⟨bc a2_ 0, bc a2_ 1, bc a2_ 2⟩ (fun hHeld => ?_); refine with_tabW refs_valid.tab6 refs_valid.bits6 (fun HT_ HW_ => ?_)
           generalize w62.drew = w63 at a3_ a2_ HB hHeld ⊢; refine pv_ 0 17 38 1 ?_; refine pv_ 1 18 38 3 ?_; refine pv_ 2 19 38 7 ?_; refine pure_ (i := 3) (N := some 20) (v := undef) (a' := ?_) (marksOf 38 15) rfl rfl (any_of HT_.out (by kernel_rfl)) (fun _ _ _ h => h) (Or.inr ⟨by rfl, rfl⟩) ?_ ?_; rotate_left
           ·simp only [Act.put, q1, q2, q3, i64_w, i32_w]
            rfl
           refine pure_ (i := 4) (N := some 21) (v := undef) (a' := ?_) (marksOf 38 31) rfl rfl (any_of HT_.out (by kernel_rfl)) (fun _ _ _ h => h) (Or.inr ⟨by rfl, rfl⟩) ?_ ?_; rotate_left
           ·simp only [Act.put, q1, q2, q3, i64_w, i32_w]
            rfl
           refine pure_ (i := 5) (N := some 22) (v := undef) (a' := ?_) (marksOf 38 63) rfl rfl (any_of HT_.out (by kernel_rfl)) (fun _ _ _ h => h) (Or.inr ⟨by rfl, rfl⟩) ?_ ?_; rotate_left
           ·simp only [Act.put, q1, q2, q3, i64_w, i32_w]
            rfl
           refine pure_ (i := 6) (N := some 23) (v := undef) (a' := ?_) (marksOf 38 127) rfl rfl (any_of HT_.out (by kernel_rfl)) (fun _ _ _ h => h) (Or.inr ⟨by rfl, rfl⟩) ?_ ?_; rotate_left
           ·simp only [Act.put, q1, q2, q3, i64_w, i32_w]
            rfl
           refine pure_ (i := 7) (N := some 24) (v := undef) (a' := ?_) (marksOf 38 255) rfl rfl (any_of HT_.out (by kernel_rfl)) (fun _ _ _ h => h) (Or.inr ⟨by rfl, rfl⟩) ?_ ?_; rotate_left
           ·simp only [Act.put, q1, q2, q3, i64_w, i32_w]
            rfl
           refine pure_ (i := 8) (N := some 25) (v := undef) (a' := ?_) (marksOf 38 511) rfl rfl (any_of HT_.out (by kernel_rfl)) (fun _ _ _ h => h) (Or.inr ⟨by rfl, rfl⟩) ?_ ?_; rotate_left
           ·simp only [Act.put, q1, q2, q3, i64_w, i32_w]
            rfl
           refine pure_ (i := 9) (N := some 26) (v := undef) (a' := ?_) (marksOf 38 1023) rfl rfl (any_of HT_.out (by kernel_rfl)) (fun _ _ _ h => h) (Or.inr ⟨by rfl, rfl⟩) ?_ ?_; rotate_left
           ·simp only [Act.put, q1, q2, q3, i64_w, i32_w]
            rfl
           refine pure_ (i := 10) (N := some 27) (v := undef) (a' := ?_) (marksOf 38 2047) rfl rfl (any_of HT_.out (by kernel_rfl)) (fun _ _ _ h => h) (Or.inr ⟨by rfl, rfl⟩) ?_ ?_; rotate_left
           ·simp only [Act.put, q1, q2, q3, i64_w, i32_w]
            rfl
           refine pure_ (i := 11) (N := some 28) (v := undef) (a' := ?_) (marksOf 38 4095) rfl rfl (any_of HT_.out (by kernel_rfl)) (fun _ _ _ h => h) (Or.inr ⟨by rfl, rfl⟩) ?_ ?_; rotate_left
           ·simp only [Act.put, q1, q2, q3, i64_w, i32_w]
            rfl
           refine pure_ (i := 12) (N := some 29) (v := undef) (a' := ?_) (marksOf 38 8191) rfl rfl (any_of HT_.out (by kernel_rfl)) (fun _ _ _ h => h) (Or.inr ⟨by rfl, rfl⟩) ?_ ?_; rotate_left
           ·simp only [Act.put, q1, q2, q3, i64_w, i32_w]
            rfl
           refine pv_ 13 30 38 16383 ?_; refine pv_ 14 31 38 32767 ?_; refine pv_ 15 32 38 65535 ?_; (refine ta_ 16 33 38 131071 ?_ rfl rfl (take_ofW HT_.out HW_.out (by kernel_rfl)) (fun _ _ _ h => h) (by rfl) ?_ hHeld ?_ ?_ ?_; rotate_left; rintro w' ⟨s0, s1, s2⟩; go_simp; with_reducible rfl; rotate_left; simp only [Act.put, q1, q2, q3, i64_w, i32_w]; rfl); refine pv_ 17 34 38 262143 ?_; refine pv_ 18 35 38 524287 ?_
           refine pv_ 19 36 38 1048575 ?_; refine pv_ 20 37 38 2097151 ?_; refine pv_ 21 38 38 4194303 ?_; refine pv_ 23 40 38 12582911 ?_; (refine ta_ 22 39 38 16777215 ?_ rfl rfl (take_ofW HT_.out HW_.out (by kernel_rfl)) (fun _ _ _ h => h) (by rfl) ?_ hHeld ?_ ?_ ?_; rotate_left; rintro w' ⟨s0, s1, s2⟩; go_simp; with_reducible rfl; rotate_left; simp only [Act.put, q1, q2, q3, i64_w, i32_w]; rfl); (refine ta_ 24 41 38 33554431 ?_ rfl rfl (take_ofW HT_.out HW_.out (by kernel_rfl)) (fun _ _ _ h => h) (by rfl) ?_ hHeld ?_ ?_ ?_; rotate_left; rintro w' ⟨s0, s1, s2⟩; go_simp; with_reducible rfl; rotate_left; simp only [Act.put, q1, q2, q3, i64_w, i32_w]; rfl)
           refine one_ (i := 25) (N := some 42) (marksOf 38 67108863) rfl rfl (one_of HT_.out (by kernel_rfl)) (by decide) (fun K hK => ?_); refine goes_ Try.func10 (by kernel_rfl) rfl #[.string ((rd_T33 l0_0 a0_).f2)] (by rfl) rfl rfl gq ?_
           with_reducible refine (digest_Sum.calls k1 ((rd_T33 l0_0 a0_).f2) c0_ _ A56.out).mono ?_
           rintro e w' ⟨rfl, ⟨nd, rfl⟩⟩; refine ⟨_, rfl, ?_⟩; refine hK.out _ _ ⟨bc a2_ 0, bc a2_ 1, bc a2_ 2⟩ (fun hHeld => ?_); clear hK K; refine norm_ (a' := ?_) ?_ ?_; rotate_left
           ·show Act.put _ (some 42) _ = _
            simp only [Act.put, q1, q2, q3, i64_w, i32_w]; rfl
           refine pv_ 26 43 38 134217727 ?_; refine pv_ 27 44 38 268435455 ?_; refine pv_ 28 45 38 536870911 ?_; refine pv_ 29 46 38 1073741823 ?_; (refine ta_ 30 47 38 2147483647 ?_ rfl rfl (take_ofW HT_.out HW_.out (by kernel_rfl)) (fun _ _ _ h => h) (by rfl) ?_ hHeld ?_ ?_ ?_; rotate_left; rintro w' ⟨s0, s1, s2⟩; go_simp; with_reducible rfl; rotate_left; simp only [Act.put, q1, q2, q3, i64_w, i32_w]; rfl); refine pv_ 31 48 38 4294967295 ?_
           refine pv_ 32 49 38 8589934591 ?_; refine pv_ 33 50 38 17179869183 ?_; refine pure_ (i := 34) (N := some 51) (v := undef) (a' := ?_) (marksOf 38 34359738367) rfl rfl (any_of HT_.out (by kernel_rfl)) (fun _ _ _ h => h) (Or.inr ⟨by rfl, rfl⟩) ?_ ?_; rotate_left
           ·simp only [Act.put, q1, q2, q3, i64_w, i32_w]
            rfl
           refine pure_ (i := 35) (N := some 52) (v := undef) (a' := ?_) (marksOf 38 68719476735) rfl rfl (any_of HT_.out (by kernel_rfl)) (fun _ _ _ h => h) (Or.inr ⟨by rfl, rfl⟩) ?_ ?_; rotate_left
           ·simp only [Act.put, q1, q2, q3, i64_w, i32_w]
            rfl
           refine pure_ (i := 36) (N := some 53) (v := undef) (a' := ?_) (marksOf 38 137438953471) rfl rfl (any_of HT_.out (by kernel_rfl)) (fun _ _ _ h => h) (Or.inr ⟨by rfl, rfl⟩) ?_ ?_; rotate_left
           ·simp only [Act.put, q1, q2, q3, i64_w, i32_w]
            rfl
           refine pv_ 37 54 38 274877906943 ?_; refine done_ (done_of HT_.out (by kernel_rfl)) ?_; (try go_wp2); go_ret; exact ⟨by first | rfl | (simp [errW_none, errW_some] <;> rfl) | (simp [*, errW_none, errW_some] <;> rfl), hBq⟩
          ·rw [if_neg c58] at H
           have e2_ : decide (((rd_T33 l0_0 a0_).f1) < 1) = false := decide_eq_false c58; clear c58
           by_cases c64 : ((rd_T33 l0_0 a0_).f1) ≥ 2147483647
           ·rw [if_pos c64] at H
            have e3_ : decide (2147483647 ≤ ((rd_T33 l0_0 a0_).f1)) = true := decide_eq_true c64; clear c64; obtain rfl := Option.some.inj H; have b1_ : 0 ≤ (a0_ : Int) := dq; have b2_ : a0_ < (l0_0.length : Int) := dq; obtain ⟨a5_, b6_, _, _, _⟩ := at_T33 (Kd.C_below HR0_0.out HB.out) a0_ b1_ b2_; cases b6_; replace b1_ := eq_true b1_; replace b2_ := eq_true b2_
            (try go_wp2_with (first | ((with_reducible refine gate_dst (N := 4) rfl ?_); (try (refine gate_guard (by rfl) ?_; dsimp only)); refine bxE 4 #[.int .i64 0, .int .i64 0, .string (⟨#[]⟩ : ByteArray)] 33 ?_; intro a1_ hg w65 hbox hb; have a2_ := As (hbox); have b3_ := As (by rw [hg]; exact (below_size hBq) : w.heap.size ≤ a1_); replace HB := sBq hb; have b9_ := b3_; have a4_ := As (by rw [hg]; exact Nat.ne_of_lt (blk_lt (g := a9_) (plq a3_.out)) : a9_ ≠ a1_); replace a3_ := As (blk_below (plq a3_.out) hb); have b0_ := As a4_.out.symm; clear hb hbox hg; have g3_ := b0_.out; have g4_ := a4_.out; have := cf3 a2_.out)))
            have n0_ : Aside0 ((((w65.setCell ⟨a1_, 0, none⟩ (((rd_T33 l0_0 a0_).f0))).setCell ⟨a1_, 1, none⟩ (((rd_T33 l0_0 a0_).f1))).setCell ⟨a1_, 2, none⟩ (.string ((rd_T33 l0_0 a0_).f2))).heap[a9_]? = some (.cells #[.slice (some a5_) l0_0.length c0_0] 25 (0, 0))) := ⟨by (iterate 3 (refine blk_far ?_ a4_.out _)); exact a3_.out⟩; have n1_ : Aside0 ((((w65.setCell ⟨a1_, 0, none⟩ (((rd_T33 l0_0 a0_).f0))).setCell ⟨a1_, 1, none⟩ (((rd_T33 l0_0 a0_).f1))).setCell ⟨a1_, 2, none⟩ (.string ((rd_T33 l0_0 a0_).f2))).heap[a1_]? = some (.cells #[((rd_T33 l0_0 a0_).f0), ((rd_T33 l0_0 a0_).f1), .string ((rd_T33 l0_0 a0_).f2)] 33 (0, 0))) := ⟨by apply puts3; exact a2_.out⟩
            have n2_ : Aside0 (Below w.heap.size w (((w65.setCell ⟨a1_, 0, none⟩ (((rd_T33 l0_0 a0_).f0))).setCell ⟨a1_, 1, none⟩ (((rd_T33 l0_0 a0_).f1))).setCell ⟨a1_, 2, none⟩ (.string ((rd_T33 l0_0 a0_).f2)))) := ⟨hBq⟩; (try clear a3_); (try clear a2_); (try clear HB); generalize (((w65.setCell ⟨a1_, 0, none⟩ (((rd_T33 l0_0 a0_).f0))).setCell ⟨a1_, 1, none⟩ (((rd_T33 l0_0 a0_).f1))).setCell ⟨a1_, 2, none⟩ (.string ((rd_T33 l0_0 a0_).f2))) = w68 at n0_ n1_ n2_ ⊢; have a3_ := n0_; have a2_ := n1_; have HB := n2_; clear n0_ n1_ n2_; replace a3_ := As (blk_drew a3_.out); replace a2_ := As (blk_drew a2_.out); replace HB := As (below_drew1 HB.out); refine start_ (n := 38) (S := fun w' => w'.cell? ⟨a1_, 0, none⟩ = some (.int .i64 ((rd_T33 l0_0 a0_).f0)) ∧ w'.cell? ⟨a1_, 1, none⟩ = some (.int .i64 ((rd_T33 l0_0 a0_).f1)) ∧ w'.cell? ⟨a1_, 2, none⟩ = some (.string ((rd_T33 l0_0 a0_).f2))) (ds := []) (marksOf 38 0) (by kernel_rfl) rfl rfl ⟨bc a2_ 0, bc a2_ 1, bc a2_ 2⟩ (fun hHeld => ?_); refine with_tabW refs_valid.tab6 refs_valid.bits6 (fun HT_ HW_ => ?_)
            generalize w68.drew = w69 at a3_ a2_ HB hHeld ⊢; refine pv_ 0 17 38 1 ?_; refine pv_ 1 18 38 3 ?_; refine pv_ 2 19 38 7 ?_; refine pure_ (i := 3) (N := some 20) (v := undef) (a' := ?_) (marksOf 38 15) rfl rfl (any_of HT_.out (by kernel_rfl)) (fun _ _ _ h => h) (Or.inr ⟨by rfl, rfl⟩) ?_ ?_; rotate_left
            ·simp only [Act.put, q1, q2, q3, i64_w, i32_w]
             rfl
            refine pure_ (i := 4) (N := some 21) (v := undef) (a' := ?_) (marksOf 38 31) rfl rfl (any_of HT_.out (by kernel_rfl)) (fun _ _ _ h => h) (Or.inr ⟨by rfl, rfl⟩) ?_ ?_; rotate_left
            ·simp only [Act.put, q1, q2, q3, i64_w, i32_w]
             rfl
            refine pure_ (i := 5) (N := some 22) (v := undef) (a' := ?_) (marksOf 38 63) rfl rfl (any_of HT_.out (by kernel_rfl)) (fun _ _ _ h => h) (Or.inr ⟨by rfl, rfl⟩) ?_ ?_; rotate_left
            ·simp only [Act.put, q1, q2, q3, i64_w, i32_w]
             rfl
            refine pure_ (i := 6) (N := some 23) (v := undef) (a' := ?_) (marksOf 38 127) rfl rfl (any_of HT_.out (by kernel_rfl)) (fun _ _ _ h => h) (Or.inr ⟨by rfl, rfl⟩) ?_ ?_; rotate_left
            ·simp only [Act.put, q1, q2, q3, i64_w, i32_w]
             rfl
            refine pure_ (i := 7) (N := some 24) (v := undef) (a' := ?_) (marksOf 38 255) rfl rfl (any_of HT_.out (by kernel_rfl)) (fun _ _ _ h => h) (Or.inr ⟨by rfl, rfl⟩) ?_ ?_; rotate_left
            ·simp only [Act.put, q1, q2, q3, i64_w, i32_w]
             rfl
            refine pure_ (i := 8) (N := some 25) (v := undef) (a' := ?_) (marksOf 38 511) rfl rfl (any_of HT_.out (by kernel_rfl)) (fun _ _ _ h => h) (Or.inr ⟨by rfl, rfl⟩) ?_ ?_; rotate_left
            ·simp only [Act.put, q1, q2, q3, i64_w, i32_w]
             rfl
            refine pure_ (i := 9) (N := some 26) (v := undef) (a' := ?_) (marksOf 38 1023) rfl rfl (any_of HT_.out (by kernel_rfl)) (fun _ _ _ h => h) (Or.inr ⟨by rfl, rfl⟩) ?_ ?_; rotate_left
            ·simp only [Act.put, q1, q2, q3, i64_w, i32_w]
             rfl
            refine pure_ (i := 10) (N := some 27) (v := undef) (a' := ?_) (marksOf 38 2047) rfl rfl (any_of HT_.out (by kernel_rfl)) (fun _ _ _ h => h) (Or.inr ⟨by rfl, rfl⟩) ?_ ?_; rotate_left
            ·simp only [Act.put, q1, q2, q3, i64_w, i32_w]
             rfl
            refine pure_ (i := 11) (N := some 28) (v := undef) (a' := ?_) (marksOf 38 4095) rfl rfl (any_of HT_.out (by kernel_rfl)) (fun _ _ _ h => h) (Or.inr ⟨by rfl, rfl⟩) ?_ ?_; rotate_left
            ·simp only [Act.put, q1, q2, q3, i64_w, i32_w]
             rfl
            refine pure_ (i := 12) (N := some 29) (v := undef) (a' := ?_) (marksOf 38 8191) rfl rfl (any_of HT_.out (by kernel_rfl)) (fun _ _ _ h => h) (Or.inr ⟨by rfl, rfl⟩) ?_ ?_; rotate_left
            ·simp only [Act.put, q1, q2, q3, i64_w, i32_w]
             rfl
            refine pv_ 13 30 38 16383 ?_; refine pv_ 14 31 38 32767 ?_; refine pv_ 15 32 38 65535 ?_; (refine ta_ 16 33 38 131071 ?_ rfl rfl (take_ofW HT_.out HW_.out (by kernel_rfl)) (fun _ _ _ h => h) (by rfl) ?_ hHeld ?_ ?_ ?_; rotate_left; rintro w' ⟨s0, s1, s2⟩; go_simp; with_reducible rfl; rotate_left; simp only [Act.put, q1, q2, q3, i64_w, i32_w]; rfl); refine pv_ 17 34 38 262143 ?_; refine pv_ 18 35 38 524287 ?_
            refine pv_ 19 36 38 1048575 ?_; refine pv_ 20 37 38 2097151 ?_; refine pv_ 21 38 38 4194303 ?_; refine pv_ 23 40 38 12582911 ?_; (refine ta_ 22 39 38 16777215 ?_ rfl rfl (take_ofW HT_.out HW_.out (by kernel_rfl)) (fun _ _ _ h => h) (by rfl) ?_ hHeld ?_ ?_ ?_; rotate_left; rintro w' ⟨s0, s1, s2⟩; go_simp; with_reducible rfl; rotate_left; simp only [Act.put, q1, q2, q3, i64_w, i32_w]; rfl); (refine ta_ 24 41 38 33554431 ?_ rfl rfl (take_ofW HT_.out HW_.out (by kernel_rfl)) (fun _ _ _ h => h) (by rfl) ?_ hHeld ?_ ?_ ?_; rotate_left; rintro w' ⟨s0, s1, s2⟩; go_simp; with_reducible rfl; rotate_left; simp only [Act.put, q1, q2, q3, i64_w, i32_w]; rfl)
            refine one_ (i := 25) (N := some 42) (marksOf 38 67108863) rfl rfl (one_of HT_.out (by kernel_rfl)) (by decide) (fun K hK => ?_); refine goes_ Try.func10 (by kernel_rfl) rfl #[.string ((rd_T33 l0_0 a0_).f2)] (by rfl) rfl rfl gq ?_
            with_reducible refine (digest_Sum.calls k1 ((rd_T33 l0_0 a0_).f2) c0_ _ A56.out).mono ?_
            rintro e w' ⟨rfl, ⟨nd, rfl⟩⟩; refine ⟨_, rfl, ?_⟩; refine hK.out _ _ ⟨bc a2_ 0, bc a2_ 1, bc a2_ 2⟩ (fun hHeld => ?_); clear hK K; refine norm_ (a' := ?_) ?_ ?_; rotate_left
            ·show Act.put _ (some 42) _ = _
             simp only [Act.put, q1, q2, q3, i64_w, i32_w]; rfl
            refine pv_ 26 43 38 134217727 ?_; refine pv_ 27 44 38 268435455 ?_; refine pv_ 28 45 38 536870911 ?_; refine pv_ 29 46 38 1073741823 ?_; (refine ta_ 30 47 38 2147483647 ?_ rfl rfl (take_ofW HT_.out HW_.out (by kernel_rfl)) (fun _ _ _ h => h) (by rfl) ?_ hHeld ?_ ?_ ?_; rotate_left; rintro w' ⟨s0, s1, s2⟩; go_simp; with_reducible rfl; rotate_left; simp only [Act.put, q1, q2, q3, i64_w, i32_w]; rfl); refine pv_ 31 48 38 4294967295 ?_
            refine pv_ 32 49 38 8589934591 ?_; refine pv_ 33 50 38 17179869183 ?_; refine pv_ 34 51 38 34359738367 ?_; (refine ta_ 35 52 38 68719476735 ?_ rfl rfl (take_ofW HT_.out HW_.out (by kernel_rfl)) (fun _ _ _ h => h) (by rfl) ?_ hHeld ?_ ?_ ?_; rotate_left; rintro w' ⟨s0, s1, s2⟩; go_simp; with_reducible rfl; rotate_left; simp only [Act.put, q1, q2, q3, i64_w, i32_w]; rfl); refine pv_ 36 53 38 137438953471 ?_; refine pv_ 37 54 38 274877906943 ?_
            refine done_ (done_of HT_.out (by kernel_rfl)) ?_; (try go_wp2); go_ret; exact ⟨by first | rfl | (simp [errW_none, errW_some] <;> rfl) | (simp [*, errW_none, errW_some] <;> rfl), hBq⟩
           ·rw [if_neg c64] at H
            have e3_ : decide (2147483647 ≤ ((rd_T33 l0_0 a0_).f1)) = false := decide_eq_false c64; clear c64; have H' := As H; clear H; have b1_ : 0 ≤ (a0_ : Int) := dq; have b2_ : a0_ < (l0_0.length : Int) := dq; obtain ⟨a5_, b6_, _, _, _⟩ := at_T33 (Kd.C_below HR0_0.out HB.out) a0_ b1_ b2_; cases b6_; replace b1_ := eq_true b1_; replace b2_ := eq_true b2_
            (try go_wp2_with (first | ((with_reducible refine gate_dst (N := 4) rfl ?_); (try (refine gate_guard (by rfl) ?_; dsimp only)); refine bxE 4 #[.int .i64 0, .int .i64 0, .string (⟨#[]⟩ : ByteArray)] 33 ?_; intro a1_ hg w70 hbox hb; have a2_ := As (hbox); have b3_ := As (by rw [hg]; exact (below_size hBq) : w.heap.size ≤ a1_); replace HB := sBq hb; have b9_ := b3_; have a4_ := As (by rw [hg]; exact Nat.ne_of_lt (blk_lt (g := a9_) (plq a3_.out)) : a9_ ≠ a1_); replace a3_ := As (blk_below (plq a3_.out) hb); have b0_ := As a4_.out.symm; clear hb hbox hg; have g5_ := b0_.out; have g6_ := a4_.out; have := cf3 a2_.out)))
            have n0_ : Aside0 ((((w70.setCell ⟨a1_, 0, none⟩ (((rd_T33 l0_0 a0_).f0))).setCell ⟨a1_, 1, none⟩ (((rd_T33 l0_0 a0_).f1))).setCell ⟨a1_, 2, none⟩ (.string ((rd_T33 l0_0 a0_).f2))).heap[a9_]? = some (.cells #[.slice (some a5_) l0_0.length c0_0] 25 (0, 0))) := ⟨by (iterate 3 (refine blk_far ?_ a4_.out _)); exact a3_.out⟩; have n1_ : Aside0 ((((w70.setCell ⟨a1_, 0, none⟩ (((rd_T33 l0_0 a0_).f0))).setCell ⟨a1_, 1, none⟩ (((rd_T33 l0_0 a0_).f1))).setCell ⟨a1_, 2, none⟩ (.string ((rd_T33 l0_0 a0_).f2))).heap[a1_]? = some (.cells #[((rd_T33 l0_0 a0_).f0), ((rd_T33 l0_0 a0_).f1), .string ((rd_T33 l0_0 a0_).f2)] 33 (0, 0))) := ⟨by apply puts3; exact a2_.out⟩
            have n2_ : Aside0 (Below w.heap.size w (((w70.setCell ⟨a1_, 0, none⟩ (((rd_T33 l0_0 a0_).f0))).setCell ⟨a1_, 1, none⟩ (((rd_T33 l0_0 a0_).f1))).setCell ⟨a1_, 2, none⟩ (.string ((rd_T33 l0_0 a0_).f2)))) := ⟨hBq⟩; (try clear a3_); (try clear a2_); (try clear HB); generalize (((w70.setCell ⟨a1_, 0, none⟩ (((rd_T33 l0_0 a0_).f0))).setCell ⟨a1_, 1, none⟩ (((rd_T33 l0_0 a0_).f1))).setCell ⟨a1_, 2, none⟩ (.string ((rd_T33 l0_0 a0_).f2))) = w73 at n0_ n1_ n2_ ⊢; have a3_ := n0_; have a2_ := n1_; have HB := n2_; clear n0_ n1_ n2_; replace a3_ := As (blk_drew a3_.out); replace a2_ := As (blk_drew a2_.out); replace HB := As (below_drew1 HB.out); refine start_ (n := 38) (S := fun w' => w'.cell? ⟨a1_, 0, none⟩ = some (.int .i64 ((rd_T33 l0_0 a0_).f0)) ∧ w'.cell? ⟨a1_, 1, none⟩ = some (.int .i64 ((rd_T33 l0_0 a0_).f1)) ∧ w'.cell? ⟨a1_, 2, none⟩ = some (.string ((rd_T33 l0_0 a0_).f2))) (ds := []) (marksOf 38 0) (by kernel_rfl) rfl rfl ⟨bc a2_ 0, bc a2_ 1, bc a2_ 2⟩ (fun hHeld => ?_); refine with_tabW refs_valid.tab6 refs_valid.bits6 (fun HT_ HW_ => ?_)
            generalize w73.drew = w74 at a3_ a2_ HB hHeld ⊢; refine pv_ 0 17 38 1 ?_; refine pv_ 1 18 38 3 ?_; refine pv_ 2 19 38 7 ?_; refine pure_ (i := 3) (N := some 20) (v := undef) (a' := ?_) (marksOf 38 15) rfl rfl (any_of HT_.out (by kernel_rfl)) (fun _ _ _ h => h) (Or.inr ⟨by rfl, rfl⟩) ?_ ?_; rotate_left
            ·simp only [Act.put, q1, q2, q3, i64_w, i32_w]
             rfl
            refine pure_ (i := 4) (N := some 21) (v := undef) (a' := ?_) (marksOf 38 31) rfl rfl (any_of HT_.out (by kernel_rfl)) (fun _ _ _ h => h) (Or.inr ⟨by rfl, rfl⟩) ?_ ?_; rotate_left
            ·simp only [Act.put, q1, q2, q3, i64_w, i32_w]
             rfl
            refine pure_ (i := 5) (N := some 22) (v := undef) (a' := ?_) (marksOf 38 63) rfl rfl (any_of HT_.out (by kernel_rfl)) (fun _ _ _ h => h) (Or.inr ⟨by rfl, rfl⟩) ?_ ?_; rotate_left
            ·simp only [Act.put, q1, q2, q3, i64_w, i32_w]
             rfl
            refine pure_ (i := 6) (N := some 23) (v := undef) (a' := ?_) (marksOf 38 127) rfl rfl (any_of HT_.out (by kernel_rfl)) (fun _ _ _ h => h) (Or.inr ⟨by rfl, rfl⟩) ?_ ?_; rotate_left
            ·simp only [Act.put, q1, q2, q3, i64_w, i32_w]
             rfl
            refine pure_ (i := 7) (N := some 24) (v := undef) (a' := ?_) (marksOf 38 255) rfl rfl (any_of HT_.out (by kernel_rfl)) (fun _ _ _ h => h) (Or.inr ⟨by rfl, rfl⟩) ?_ ?_; rotate_left
            ·simp only [Act.put, q1, q2, q3, i64_w, i32_w]
             rfl
            refine pure_ (i := 8) (N := some 25) (v := undef) (a' := ?_) (marksOf 38 511) rfl rfl (any_of HT_.out (by kernel_rfl)) (fun _ _ _ h => h) (Or.inr ⟨by rfl, rfl⟩) ?_ ?_; rotate_left
            ·simp only [Act.put, q1, q2, q3, i64_w, i32_w]
             rfl
            refine pure_ (i := 9) (N := some 26) (v := undef) (a' := ?_) (marksOf 38 1023) rfl rfl (any_of HT_.out (by kernel_rfl)) (fun _ _ _ h => h) (Or.inr ⟨by rfl, rfl⟩) ?_ ?_; rotate_left
            ·simp only [Act.put, q1, q2, q3, i64_w, i32_w]
             rfl
            refine pure_ (i := 10) (N := some 27) (v := undef) (a' := ?_) (marksOf 38 2047) rfl rfl (any_of HT_.out (by kernel_rfl)) (fun _ _ _ h => h) (Or.inr ⟨by rfl, rfl⟩) ?_ ?_; rotate_left
            ·simp only [Act.put, q1, q2, q3, i64_w, i32_w]
             rfl
            refine pure_ (i := 11) (N := some 28) (v := undef) (a' := ?_) (marksOf 38 4095) rfl rfl (any_of HT_.out (by kernel_rfl)) (fun _ _ _ h => h) (Or.inr ⟨by rfl, rfl⟩) ?_ ?_; rotate_left
            ·simp only [Act.put, q1, q2, q3, i64_w, i32_w]
             rfl
            refine pure_ (i := 12) (N := some 29) (v := undef) (a' := ?_) (marksOf 38 8191) rfl rfl (any_of HT_.out (by kernel_rfl)) (fun _ _ _ h => h) (Or.inr ⟨by rfl, rfl⟩) ?_ ?_; rotate_left
            ·simp only [Act.put, q1, q2, q3, i64_w, i32_w]
             rfl
            refine pv_ 13 30 38 16383 ?_; refine pv_ 14 31 38 32767 ?_; refine pv_ 15 32 38 65535 ?_; (refine ta_ 16 33 38 131071 ?_ rfl rfl (take_ofW HT_.out HW_.out (by kernel_rfl)) (fun _ _ _ h => h) (by rfl) ?_ hHeld ?_ ?_ ?_; rotate_left; rintro w' ⟨s0, s1, s2⟩; go_simp; with_reducible rfl; rotate_left; simp only [Act.put, q1, q2, q3, i64_w, i32_w]; rfl); refine pv_ 17 34 38 262143 ?_; refine pv_ 18 35 38 524287 ?_
            refine pv_ 19 36 38 1048575 ?_; refine pv_ 20 37 38 2097151 ?_; refine pv_ 21 38 38 4194303 ?_; refine pv_ 23 40 38 12582911 ?_; (refine ta_ 22 39 38 16777215 ?_ rfl rfl (take_ofW HT_.out HW_.out (by kernel_rfl)) (fun _ _ _ h => h) (by rfl) ?_ hHeld ?_ ?_ ?_; rotate_left; rintro w' ⟨s0, s1, s2⟩; go_simp; with_reducible rfl; rotate_left; simp only [Act.put, q1, q2, q3, i64_w, i32_w]; rfl); (refine ta_ 24 41 38 33554431 ?_ rfl rfl (take_ofW HT_.out HW_.out (by kernel_rfl)) (fun _ _ _ h => h) (by rfl) ?_ hHeld ?_ ?_ ?_; rotate_left; rintro w' ⟨s0, s1, s2⟩; go_simp; with_reducible rfl; rotate_left; simp only [Act.put, q1, q2, q3, i64_w, i32_w]; rfl)
            refine one_ (i := 25) (N := some 42) (marksOf 38 67108863) rfl rfl (one_of HT_.out (by kernel_rfl)) (by decide) (fun K hK => ?_); refine goes_ Try.func10 (by kernel_rfl) rfl #[.string ((rd_T33 l0_0 a0_).f2)] (by rfl) rfl rfl gq ?_
            with_reducible refine (digest_Sum.calls k1 ((rd_T33 l0_0 a0_).f2) c0_ _ A56.out).mono ?_
            rintro e w' ⟨rfl, ⟨nd, rfl⟩⟩; refine ⟨_, rfl, ?_⟩; refine hK.out _ _ ⟨bc a2_ 0, bc a2_ 1, bc a2_ 2⟩ (fun hHeld => ?_); clear hK K; refine norm_ (a' := ?_) ?_ ?_; rotate_left
            ·show Act.put _ (some 42) _ = _
             simp only [Act.put, q1, q2, q3, i64_w, i32_w]; rfl
            refine pv_ 26 43 38 134217727 ?_; refine pv_ 27 44 38 268435455 ?_; refine pv_ 28 45 38 536870911 ?_; refine pv_ 29 46 38 1073741823 ?_; (refine ta_ 30 47 38 2147483647 ?_ rfl rfl (take_ofW HT_.out HW_.out (by kernel_rfl)) (fun _ _ _ h => h) (by rfl) ?_ hHeld ?_ ?_ ?_; rotate_left; rintro w' ⟨s0, s1, s2⟩; go_simp; with_reducible rfl; rotate_left; simp only [Act.put, q1, q2, q3, i64_w, i32_w]; rfl); refine pv_ 31 48 38 4294967295 ?_
            refine pv_ 32 49 38 8589934591 ?_; refine pv_ 33 50 38 17179869183 ?_; refine pv_ 34 51 38 34359738367 ?_; (refine ta_ 35 52 38 68719476735 ?_ rfl rfl (take_ofW HT_.out HW_.out (by kernel_rfl)) (fun _ _ _ h => h) (by rfl) ?_ hHeld ?_ ?_ ?_; rotate_left; rintro w' ⟨s0, s1, s2⟩; go_simp; with_reducible rfl; rotate_left; simp only [Act.put, q1, q2, q3, i64_w, i32_w]; rfl); refine pv_ 36 53 38 137438953471 ?_; refine pv_ 37 54 38 274877906943 ?_
            refine done_ (done_of HT_.out (by kernel_rfl)) ?_; (try go_wp2); go_roundg k1
            case measure => have := HK1.out; omega
            case rel => exact ⟨(wrap64 (a0_ + 1)), (by first | rfl | (simp; done) | (simp [*]; done)), H', ⟨by have := HK1.out; omega⟩, ⟨by refine plT ?_; exact a3_.out⟩, ⟨hBq⟩⟩
         ·rw [if_neg c57] at H
          have e0_ : (((rd_T33 l0_0 a0_).f0) == c0_) = false := beq_eq_false_iff_ne.mpr c57; have e1_ : (((rd_T33 l0_0 a0_).f0) != c0_) = true := bne_iff_ne.mpr c57; obtain rfl := Option.some.inj H; have b1_ : 0 ≤ (a0_ : Int) := dq; have b2_ : a0_ < (l0_0.length : Int) := dq; obtain ⟨a5_, b6_, _, _, _⟩ := at_T33 (Kd.C_below HR0_0.out HB.out) a0_ b1_ b2_; cases b6_; replace b1_ := eq_true b1_; replace b2_ := eq_true b2_
          (try go_wp2_with (first | ((with_reducible refine gate_dst (N := 4) rfl ?_); (try (refine gate_guard (by rfl) ?_; dsimp only)); refine bxE 4 #[.int .i64 0, .int .i64 0, .string (⟨#[]⟩ : ByteArray)] 33 ?_; intro a1_ hg w75 hbox hb; have a2_ := As (hbox); have b3_ := As (by rw [hg]; exact (below_size hBq) : w.heap.size ≤ a1_); replace HB := sBq hb; have b9_ := b3_; have a4_ := As (by rw [hg]; exact Nat.ne_of_lt (blk_lt (g := a9_) (plq a3_.out)) : a9_ ≠ a1_); replace a3_ := As (blk_below (plq a3_.out) hb); have b0_ := As a4_.out.symm; clear hb hbox hg; have g7_ := b0_.out; have g8_ := a4_.out; have := cf3 a2_.out)))
          have n0_ : Aside0 ((((w75.setCell ⟨a1_, 0, none⟩ (((rd_T33 l0_0 a0_).f0))).setCell ⟨a1_, 1, none⟩ (((rd_T33 l0_0 a0_).f1))).setCell ⟨a1_, 2, none⟩ (.string ((rd_T33 l0_0 a0_).f2))).heap[a9_]? = some (.cells #[.slice (some a5_) l0_0.length c0_0] 25 (0, 0))) := ⟨by (iterate 3 (refine blk_far ?_ a4_.out _)); exact a3_.out⟩; have n1_ : Aside0 ((((w75.setCell ⟨a1_, 0, none⟩ (((rd_T33 l0_0 a0_).f0))).setCell ⟨a1_, 1, none⟩ (((rd_T33 l0_0 a0_).f1))).setCell ⟨a1_, 2, none⟩ (.string ((rd_T33 l0_0 a0_).f2))).heap[a1_]? = some (.cells #[((rd_T33 l0_0 a0_).f0), ((rd_T33 l0_0 a0_).f1), .string ((rd_T33 l0_0 a0_).f2)] 33 (0, 0))) := ⟨by apply puts3; exact a2_.out⟩
          have n2_ : Aside0 (Below w.heap.size w (((w75.setCell ⟨a1_, 0, none⟩ (((rd_T33 l0_0 a0_).f0))).setCell ⟨a1_, 1, none⟩ (((rd_T33 l0_0 a0_).f1))).setCell ⟨a1_, 2, none⟩ (.string ((rd_T33 l0_0 a0_).f2)))) := ⟨hBq⟩; (try clear a3_); (try clear a2_); (try clear HB); generalize (((w75.setCell ⟨a1_, 0, none⟩ (((rd_T33 l0_0 a0_).f0))).setCell ⟨a1_, 1, none⟩ (((rd_T33 l0_0 a0_).f1))).setCell ⟨a1_, 2, none⟩ (.string ((rd_T33 l0_0 a0_).f2))) = w78 at n0_ n1_ n2_ ⊢; have a3_ := n0_; have a2_ := n1_; have HB := n2_; clear n0_ n1_ n2_; replace a3_ := As (blk_drew a3_.out); replace a2_ := As (blk_drew a2_.out); replace HB := As (below_drew1 HB.out); refine start_ (n := 38) (S := fun w' => w'.cell? ⟨a1_, 0, none⟩ = some (.int .i64 ((rd_T33 l0_0 a0_).f0)) ∧ w'.cell? ⟨a1_, 1, none⟩ = some (.int .i64 ((rd_T33 l0_0 a0_).f1)) ∧ w'.cell? ⟨a1_, 2, none⟩ = some (.string ((rd_T33 l0_0 a0_).f2))) (ds := []) (marksOf 38 0) (by kernel_rfl) rfl rfl ⟨bc a2_ 0, bc a2_ 1, bc a2_ 2⟩ (fun hHeld => ?_); refine with_tabW refs_valid.tab6 refs_valid.bits6 (fun HT_ HW_ => ?_)
          generalize w78.drew = w79 at a3_ a2_ HB hHeld ⊢; refine pv_ 0 17 38 1 ?_; refine pv_ 1 18 38 3 ?_; refine pv_ 2 19 38 7 ?_; refine pure_ (i := 3) (N := some 20) (v := undef) (a' := ?_) (marksOf 38 15) rfl rfl (any_of HT_.out (by kernel_rfl)) (fun _ _ _ h => h) (Or.inr ⟨by rfl, rfl⟩) ?_ ?_; rotate_left
          ·simp only [Act.put, q1, q2, q3, i64_w, i32_w]
           rfl
          refine pure_ (i := 4) (N := some 21) (v := undef) (a' := ?_) (marksOf 38 31) rfl rfl (any_of HT_.out (by kernel_rfl)) (fun _ _ _ h => h) (Or.inr ⟨by rfl, rfl⟩) ?_ ?_; rotate_left
          ·simp only [Act.put, q1, q2, q3, i64_w, i32_w]
           rfl
          refine pure_ (i := 5) (N := some 22) (v := undef) (a' := ?_) (marksOf 38 63) rfl rfl (any_of HT_.out (by kernel_rfl)) (fun _ _ _ h => h) (Or.inr ⟨by rfl, rfl⟩) ?_ ?_; rotate_left
          ·simp only [Act.put, q1, q2, q3, i64_w, i32_w]
           rfl
          refine pure_ (i := 6) (N := some 23) (v := undef) (a' := ?_) (marksOf 38 127) rfl rfl (any_of HT_.out (by kernel_rfl)) (fun _ _ _ h => h) (Or.inr ⟨by rfl, rfl⟩) ?_ ?_; rotate_left
          ·simp only [Act.put, q1, q2, q3, i64_w, i32_w]
           rfl
          refine pure_ (i := 7) (N := some 24) (v := undef) (a' := ?_) (marksOf 38 255) rfl rfl (any_of HT_.out (by kernel_rfl)) (fun _ _ _ h => h) (Or.inr ⟨by rfl, rfl⟩) ?_ ?_; rotate_left
          ·simp only [Act.put, q1, q2, q3, i64_w, i32_w]
           rfl
          refine pure_ (i := 8) (N := some 25) (v := undef) (a' := ?_) (marksOf 38 511) rfl rfl (any_of HT_.out (by kernel_rfl)) (fun _ _ _ h => h) (Or.inr ⟨by rfl, rfl⟩) ?_ ?_; rotate_left
          ·simp only [Act.put, q1, q2, q3, i64_w, i32_w]
           rfl
          refine pure_ (i := 9) (N := some 26) (v := undef) (a' := ?_) (marksOf 38 1023) rfl rfl (any_of HT_.out (by kernel_rfl)) (fun _ _ _ h => h) (Or.inr ⟨by rfl, rfl⟩) ?_ ?_; rotate_left
          ·simp only [Act.put, q1, q2, q3, i64_w, i32_w]
           rfl
          refine pure_ (i := 10) (N := some 27) (v := undef) (a' := ?_) (marksOf 38 2047) rfl rfl (any_of HT_.out (by kernel_rfl)) (fun _ _ _ h => h) (Or.inr ⟨by rfl, rfl⟩) ?_ ?_; rotate_left
          ·simp only [Act.put, q1, q2, q3, i64_w, i32_w]
           rfl
          refine pure_ (i := 11) (N := some 28) (v := undef) (a' := ?_) (marksOf 38 4095) rfl rfl (any_of HT_.out (by kernel_rfl)) (fun _ _ _ h => h) (Or.inr ⟨by rfl, rfl⟩) ?_ ?_; rotate_left
          ·simp only [Act.put, q1, q2, q3, i64_w, i32_w]
           rfl
          refine pure_ (i := 12) (N := some 29) (v := undef) (a' := ?_) (marksOf 38 8191) rfl rfl (any_of HT_.out (by kernel_rfl)) (fun _ _ _ h => h) (Or.inr ⟨by rfl, rfl⟩) ?_ ?_; rotate_left
          ·simp only [Act.put, q1, q2, q3, i64_w, i32_w]
           rfl
          refine pv_ 13 30 38 16383 ?_; refine pv_ 14 31 38 32767 ?_; refine pv_ 15 32 38 65535 ?_; (refine ta_ 16 33 38 131071 ?_ rfl rfl (take_ofW HT_.out HW_.out (by kernel_rfl)) (fun _ _ _ h => h) (by rfl) ?_ hHeld ?_ ?_ ?_; rotate_left; rintro w' ⟨s0, s1, s2⟩; go_simp; with_reducible rfl; rotate_left; simp only [Act.put, q1, q2, q3, i64_w, i32_w]; rfl); refine pv_ 17 34 38 262143 ?_; refine pv_ 18 35 38 524287 ?_
          refine pv_ 19 36 38 1048575 ?_; refine pv_ 20 37 38 2097151 ?_; refine pv_ 21 38 38 4194303 ?_; refine pv_ 23 40 38 12582911 ?_; (refine ta_ 22 39 38 16777215 ?_ rfl rfl (take_ofW HT_.out HW_.out (by kernel_rfl)) (fun _ _ _ h => h) (by rfl) ?_ hHeld ?_ ?_ ?_; rotate_left; rintro w' ⟨s0, s1, s2⟩; go_simp; with_reducible rfl; rotate_left; simp only [Act.put, q1, q2, q3, i64_w, i32_w]; rfl); (refine ta_ 24 41 38 33554431 ?_ rfl rfl (take_ofW HT_.out HW_.out (by kernel_rfl)) (fun _ _ _ h => h) (by rfl) ?_ hHeld ?_ ?_ ?_; rotate_left; rintro w' ⟨s0, s1, s2⟩; go_simp; with_reducible rfl; rotate_left; simp only [Act.put, q1, q2, q3, i64_w, i32_w]; rfl)
          refine one_ (i := 25) (N := some 42) (marksOf 38 67108863) rfl rfl (one_of HT_.out (by kernel_rfl)) (by decide) (fun K hK => ?_); refine goes_ Try.func10 (by kernel_rfl) rfl #[.string ((rd_T33 l0_0 a0_).f2)] (by rfl) rfl rfl gq ?_
          with_reducible refine (digest_Sum.calls k1 ((rd_T33 l0_0 a0_).f2) c0_ _ A56.out).mono ?_
          rintro e w' ⟨rfl, ⟨nd, rfl⟩⟩; refine ⟨_, rfl, ?_⟩; refine hK.out _ _ ⟨bc a2_ 0, bc a2_ 1, bc a2_ 2⟩ (fun hHeld => ?_); clear hK K; refine norm_ (a' := ?_) ?_ ?_; rotate_left
          ·show Act.put _ (some 42) _ = _
           simp only [Act.put, q1, q2, q3, i64_w, i32_w]; rfl
          refine pv_ 26 43 38 134217727 ?_; refine pv_ 27 44 38 268435455 ?_; refine pv_ 28 45 38 536870911 ?_; refine pure_ (i := 29) (N := some 46) (v := undef) (a' := ?_) (marksOf 38 1073741823) rfl rfl (any_of HT_.out (by kernel_rfl)) (fun _ _ _ h => h) (Or.inr ⟨by rfl, rfl⟩) ?_ ?_; rotate_left
          ·simp only [Act.put, q1, q2, q3, i64_w, i32_w]
           rfl
          refine pure_ (i := 30) (N := some 47) (v := undef) (a' := ?_) (marksOf 38 2147483647) rfl rfl (any_of HT_.out (by kernel_rfl)) (fun _ _ _ h => h) (Or.inr ⟨by rfl, rfl⟩) ?_ ?_; rotate_left
          ·simp only [Act.put, q1, q2, q3, i64_w, i32_w]
           rfl
          refine pure_ (i := 31) (N := some 48) (v := undef) (a' := ?_) (marksOf 38 4294967295) rfl rfl (any_of HT_.out (by kernel_rfl)) (fun _ _ _ h => h) (Or.inr ⟨by rfl, rfl⟩) ?_ ?_; rotate_left
          ·simp only [Act.put, q1, q2, q3, i64_w, i32_w]
           rfl
          refine pv_ 32 49 38 8589934591 ?_; refine pv_ 33 50 38 17179869183 ?_; refine pure_ (i := 34) (N := some 51) (v := undef) (a' := ?_) (marksOf 38 34359738367) rfl rfl (any_of HT_.out (by kernel_rfl)) (fun _ _ _ h => h) (Or.inr ⟨by rfl, rfl⟩) ?_ ?_; rotate_left
          ·simp only [Act.put, q1, q2, q3, i64_w, i32_w]
           rfl
          refine pure_ (i := 35) (N := some 52) (v := undef) (a' := ?_) (marksOf 38 68719476735) rfl rfl (any_of HT_.out (by kernel_rfl)) (fun _ _ _ h => h) (Or.inr ⟨by rfl, rfl⟩) ?_ ?_; rotate_left
          ·simp only [Act.put, q1, q2, q3, i64_w, i32_w]
           rfl
          refine pure_ (i := 36) (N := some 53) (v := undef) (a' := ?_) (marksOf 38 137438953471) rfl rfl (any_of HT_.out (by kernel_rfl)) (fun _ _ _ h => h) (Or.inr ⟨by rfl, rfl⟩) ?_ ?_; rotate_left
          ·simp only [Act.put, q1, q2, q3, i64_w, i32_w]
           rfl
          refine pv_ 37 54 38 274877906943 ?_; refine done_ (done_of HT_.out (by kernel_rfl)) ?_; (try go_wp2); go_ret; exact ⟨by first | rfl | (simp [errW_none, errW_some] <;> rfl) | (simp [*, errW_none, errW_some] <;> rfl), hBq⟩
      ·rw [if_neg c9] at H
       exact absurd H (by simp)
     ·rw [if_neg c8] at H
      exact absurd H (by simp)
    ·rw [if_neg c7] at H
     have e4_ : decide (a0_ < (l0_0.length : Int)) = false := decide_eq_false c7; clear c7; obtain rfl := Option.some.inj H; go_wp2; go_ret; exact ⟨by first | rfl | (simp [errW_none, errW_some] <;> rfl) | (simp [*, errW_none, errW_some] <;> rfl), hBq⟩
end Go.Proofs.Ytpifbgkppfginaa.PZ
