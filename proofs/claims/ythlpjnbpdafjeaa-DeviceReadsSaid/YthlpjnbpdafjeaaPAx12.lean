-- Written by a program of this claim's own (hookprint.py), after the pattern of the kit's print. Lean checks it.
import Derived.Test.YthlpjnbpdafjeaaPAx0
import Derived.Test.YthlpjnbpdafjeaaPAx10
import Derived.Test.YthlpjnbpdafjeaaPAx11
namespace Go.Proofs.Ythlpjnbpdafjeaa.PA
open Go.RowKit Go.Proofs.YthlpjnbpdafjeaaW.PrintWords Go.Proofs.YthlpjnbpdafjeaaW.PrintLast Go.Proofs.YthlpjnbpdafjeaaW.PrintMore
attribute [local go_sem ↓] some_setCell
attribute [local go_sem] max2_int min2_int max_two min_two max_three min_three max_four min_four   -- for this text's walks alone
set_option linter.unusedVariables false
set_option linter.unusedSimpArgs false

def slices_BinarySearch_int_int.l0 : Nat → List Int → Int → Int → Int → Int → Option (Int × Bool)
 | 0, _, _, _, _, _ => none
 | k + 1, x0, x1, x6, x7, x8 => if x7 < x8 then (if 0 ≤ (wrap64 ((IntKind.u64.wrap (wrap64 (x7 + x8))) / 2)) then (if (wrap64 ((IntKind.u64.wrap (wrap64 (x7 + x8))) / 2)) < (x0.length : Int) then ((cmp_Less_int.f (rd x0 (wrap64 ((IntKind.u64.wrap (wrap64 (x7 + x8))) / 2))) x1).bind fun a9_ => (if a9_ = true then (slices_BinarySearch_int_int.l0 k x0 x1 x6 (wrap64 ((wrap64 ((IntKind.u64.wrap (wrap64 (x7 + x8))) / 2)) + 1)) x8) else (slices_BinarySearch_int_int.l0 k x0 x1 x6 x7 (wrap64 ((IntKind.u64.wrap (wrap64 (x7 + x8))) / 2))))) else (none)) else (none)) else (if x7 < x6 then (if 0 ≤ x7 then (if x7 < (x0.length : Int) then (if (rd x0 x7) = x1 then (some (x7, true)) else ((slices_isNaN_int.f (rd x0 x7)).bind fun b3_ => (if b3_ = true then ((slices_isNaN_int.f x1).bind fun b4_ => (some (x7, b4_))) else (some (x7, false))))) else (none)) else (none)) else (some (x7, false)))
def slices_BinarySearch_int_int.f (k : Nat) (l0 : List Int) (a1 : Int) : Option (Int × Bool) := slices_BinarySearch_int_int.l0 k l0 a1 (l0.length : Int) 0 (l0.length : Int)
theorem slices_BinarySearch_int_int.mono_l : ∀ k, (∀ y0 y1 y2 y3 y4, LeO (slices_BinarySearch_int_int.l0 k y0 y1 y2 y3 y4) (slices_BinarySearch_int_int.l0 (k + 1) y0 y1 y2 y3 y4))
 | 0 => fun _ _ _ _ _ r h => by simp [slices_BinarySearch_int_int.l0] at h
 | k + 1 => by
  have ih0 := slices_BinarySearch_int_int.mono_l k
  all_goals (intros; unfold slices_BinarySearch_int_int.l0; (repeat' first | (with_reducible first | exact LeO.refl _ | exact LeO.none _ | apply ih0 | apply LeO.ite | refine LeO.bind ?_ (fun _ => ?_)) | apply ih0 | exact LeO.none _ | apply LeO.ite | refine LeO.bind ?_ (fun _ => ?_)))
theorem slices_BinarySearch_int_int.mono : ∀ a0 a1 k, LeO (slices_BinarySearch_int_int.f k a0 a1) (slices_BinarySearch_int_int.f (k + 1) a0 a1) := by
 intro a0 a1 k; have ih0 := slices_BinarySearch_int_int.mono_l k; unfold slices_BinarySearch_int_int.f
 repeat' first | (with_reducible first | exact LeO.refl _ | exact LeO.none _ | apply ih0 | apply LeO.ite | refine LeO.bind ?_ (fun _ => ?_)) | apply ih0 | exact LeO.none _ | apply LeO.ite | refine LeO.bind ?_ (fun _ => ?_)
set_option maxHeartbeats 8000000 in
set_option maxRecDepth 100000 in
theorem slices_BinarySearch_int_int.calls (k : Nat) (A0 : Option Addr) (c0 : Nat) (l0 : List Int) (a1 : Int) (r1 : Int) (r2 : Bool) (w : World) (hr0 : Kd.C (Kd.int .i64) w A0 l0.length l0) (hc0 : l0.length ≤ c0) (h : slices_BinarySearch_int_int.f k l0 a1 = some (r1, r2)) :
  Calls Try.prog 48 #[.slice A0 l0.length c0, .int .i64 a1] w fun e w' => e = .returned (.tuple #[.int .i64 r1, .bool r2]) ∧ Drawn0 w w' := by
 have HR0 := As hr0; have HC0 := As hc0; clear hr0 hc0; have H : (slices_BinarySearch_int_int.l0 k l0 a1 (l0.length : Int) 0 (l0.length : Int)) = some (r1, r2) := h; clear h; have H' := As H; clear H; go_enter Try.func48, Try.ntmps48; go_wp2; go_loopg [7, 8] k (fun kq v7 v8 w' => ∃ (a0_ : Int) (a3_ : Int), v7 = .int .i64 a0_ ∧ v8 = .int .i64 a3_ ∧ Aside0 (slices_BinarySearch_int_int.l0 kq l0 a1 (l0.length : Int) a0_ a3_ = some (r1, r2)) ∧ Aside0 (kq ≤ k) ∧ Drawn0 w w')
 case atStart => exact ⟨(0), ((l0.length : Int)), (by first | rfl | (simp; done) | (simp [*]; done)), (by first | rfl | (simp; done) | (simp [*]; done)), H', ⟨Nat.le_refl _⟩, by repeat (first | exact Drawn0.refl _ | apply Drawn0.step)⟩
 case round =>
  clear H'; (try clear p2); obtain ⟨a0_, a3_, rfl, rfl, HA, HK1, ⟨m1, rfl⟩⟩ := hrel
  cases gk with
  | zero => exact absurd HA.out (by simp [slices_BinarySearch_int_int.l0])
  | succ k1 =>
   have H := HA.out; clear HA; simp only [slices_BinarySearch_int_int.l0] at H
   by_cases c3 : a0_ < a3_
   ·rw [if_pos c3] at H
    have c2_ : decide (a0_ < a3_) = true := decide_eq_true c3; clear c3; obtain ⟨ji4, hji4⟩ : ∃ j_ : Int, (wrap64 ((IntKind.u64.wrap (wrap64 (a0_ + a3_))) / 2)) = j_ := ⟨_, rfl⟩; (replace H : (if 0 ≤ (ji4) then (if (ji4) < (l0.length : Int) then ((cmp_Less_int.f (rd l0 (ji4)) a1).bind fun a9_ => (if a9_ = true then (slices_BinarySearch_int_int.l0 k1 l0 a1 (l0.length : Int) (wrap64 ((ji4) + 1)) a3_) else (slices_BinarySearch_int_int.l0 k1 l0 a1 (l0.length : Int) a0_ ji4))) else (none)) else (none)) = some (r1, r2) := by first | (rw [hji4] at H; exact H) | (simp only [hji4] at H ⊢; exact H)); have hji4w : (IntKind.i64.wrap ((IntKind.u64.wrap (wrap64 (a0_ + a3_))) / 2)) = ji4 := (i64_w _).trans hji4
    by_cases c5 : 0 ≤ (ji4)
    ·rw [if_pos c5] at H
     have c6_ : decide (0 ≤ (ji4)) = true := decide_eq_true c5; clear c5
     by_cases c6 : (ji4) < (l0.length : Int)
     ·rw [if_pos c6] at H
      have c7_ : decide ((ji4) < (l0.length : Int)) = true := decide_eq_true c6; clear c6; obtain ⟨a9_, A7, H⟩ := bnd H; (try dsimp only at H)
      by_cases c8 : a9_ = true
      ·subst c8
       rw [if_pos rfl] at H; have H' := As H; clear H; have a4_ : 0 ≤ ((ji4) : Int) := dq; have a5_ : (ji4) < (l0.length : Int) := dq; obtain ⟨b9_, b5_, b7_⟩ := Kd.at_int HR0.out (ji4) a4_ a5_; cases b5_; replace a4_ := eq_true a4_; replace a5_ := eq_true a5_; go_wp2_with (first | ((with_reducible refine gate_callee (f := 51) rfl ?_); refine goesL_ (some 27) rfl rfl Try.func51 (by kernel_rfl) rfl #[(rd l0 (ji4)), a1] rfl (by (try simp only [List.map_toArray, List.map_cons, List.map_nil]); first | done | (simp only [hji4]; rfl) | rfl | (simp only [List.length_drop, List.length_take]; rfl)) ?_; (with_reducible refine (cmp_Less_int.calls (rd l0 (ji4)) a1 true _ A7.out).mono ?_); rintro e w' ⟨rfl, ⟨nd, rfl⟩⟩; refine ⟨_, rfl, ?_⟩)); go_roundg k1
       case measure => have := HK1.out; omega
       case rel => exact ⟨(wrap64 ((ji4) + 1)), (a3_), (by first | rfl | (simp; done) | (simp only [← hji4] <;> (first | rfl | simp)) | (simp [*]; done)), (by first | rfl | (simp; done) | (simp [*]; done)), H', ⟨by have := HK1.out; omega⟩, by repeat (first | exact Drawn0.refl _ | apply Drawn0.step)⟩
      ·replace c8 := Bool.eq_false_iff.mpr c8
       subst c8; rw [if_neg nft] at H; have H' := As H; clear H; have a4_ : 0 ≤ ((ji4) : Int) := dq; have a5_ : (ji4) < (l0.length : Int) := dq; obtain ⟨b9_, b5_, b7_⟩ := Kd.at_int HR0.out (ji4) a4_ a5_; cases b5_; replace a4_ := eq_true a4_; replace a5_ := eq_true a5_; go_wp2_with (first | ((with_reducible refine gate_callee (f := 51) rfl ?_); refine goesL_ (some 27) rfl rfl Try.func51 (by kernel_rfl) rfl #[(rd l0 (ji4)), a1] rfl (by (try simp only [List.map_toArray, List.map_cons, List.map_nil]); first | done | (simp only [hji4]; rfl) | rfl | (simp only [List.length_drop, List.length_take]; rfl)) ?_; (with_reducible refine (cmp_Less_int.calls (rd l0 (ji4)) a1 false _ A7.out).mono ?_); rintro e w' ⟨rfl, ⟨nd, rfl⟩⟩; refine ⟨_, rfl, ?_⟩)); go_roundg k1
       case measure => have := HK1.out; omega
       case rel => exact ⟨(a0_), (ji4), (by first | rfl | (simp; done) | (simp [*]; done)), (by first | rfl | (simp; done) | (simp only [← hji4] <;> (first | rfl | simp)) | (simp [*]; done)), H', ⟨by have := HK1.out; omega⟩, by repeat (first | exact Drawn0.refl _ | apply Drawn0.step)⟩
     ·rw [if_neg c6] at H
      exact absurd H (by simp)
    ·rw [if_neg c5] at H
     exact absurd H (by simp)
   ·rw [if_neg c3] at H
    have c2_ : decide (a0_ < a3_) = false := decide_eq_false c3; clear c3
    by_cases c9 : a0_ < (l0.length : Int)
    ·rw [if_pos c9] at H
     have c3_ : decide (a0_ < (l0.length : Int)) = true := decide_eq_true c9; clear c9
     by_cases c10 : 0 ≤ a0_
     ·rw [if_pos c10] at H
      have c4_ : decide (0 ≤ a0_) = true := decide_eq_true c10; clear c10
      by_cases c11 : a0_ < (l0.length : Int)
      ·rw [if_pos c11] at H
       have c5_ : decide (a0_ < (l0.length : Int)) = true := decide_eq_true c11; clear c11
       by_cases c12 : (rd l0 a0_) = a1
       ·rw [if_pos c12] at H
        have c0_ : ((rd l0 a0_) == a1) = true := beq_iff_eq.mpr c12; have c1_ : ((rd l0 a0_) != a1) = false := bne_eq_false_iff_eq.mpr c12; clear c12; simp only [Option.some.injEq, Prod.mk.injEq] at H; obtain ⟨rfl, rfl⟩ := H; have a1_ : 0 ≤ (a0_ : Int) := dq; have a2_ : a0_ < (l0.length : Int) := dq; obtain ⟨a8_, b0_, b1_⟩ := Kd.at_int HR0.out a0_ a1_ a2_; cases b0_; replace a1_ := eq_true a1_; replace a2_ := eq_true a2_; go_wp2; go_ret2; exact ⟨by first | rfl | (simp; done) | (simp [*]; done), by repeat (first | exact Drawn0.refl _ | apply Drawn0.step)⟩
       ·rw [if_neg c12] at H
        have c0_ : ((rd l0 a0_) == a1) = false := beq_eq_false_iff_ne.mpr c12; have c1_ : ((rd l0 a0_) != a1) = true := bne_iff_ne.mpr c12; obtain ⟨b3_, A13, H⟩ := bnd H; (try dsimp only at H)
        by_cases c14 : b3_ = true
        ·subst c14
         rw [if_pos rfl] at H; obtain ⟨b4_, A15, H⟩ := bnd H; (try dsimp only at H); simp only [Option.some.injEq, Prod.mk.injEq] at H; obtain ⟨rfl, rfl⟩ := H; have a1_ : 0 ≤ (a0_ : Int) := dq; have a2_ : a0_ < (l0.length : Int) := dq; obtain ⟨a8_, b0_, b1_⟩ := Kd.at_int HR0.out a0_ a1_ a2_; cases b0_; replace a1_ := eq_true a1_; replace a2_ := eq_true a2_; have a6_ : 0 ≤ (a0_ : Int) := dq; have a7_ : a0_ < (l0.length : Int) := dq; obtain ⟨b2_, b6_, b8_⟩ := Kd.at_int HR0.out a0_ a6_ a7_; obtain rfl : a8_ = b2_ := (by injection b6_); replace a6_ := eq_true a6_; replace a7_ := eq_true a7_; go_wp2_with (first | (go_at_call 52; (with_reducible refine (slices_isNaN_int.calls (rd l0 a0_) true _ A13.out).mono ?_); rintro e w' ⟨rfl, ⟨nd, rfl⟩⟩) | (go_at_call 52; (with_reducible refine (slices_isNaN_int.calls a1 b4_ _ A15.out).mono ?_); rintro e w' ⟨rfl, ⟨nd, rfl⟩⟩)); go_ret2
         exact ⟨by first | rfl | (simp; done) | (simp [*]; done), by repeat (first | exact Drawn0.refl _ | apply Drawn0.step)⟩
        ·replace c14 := Bool.eq_false_iff.mpr c14
         subst c14; rw [if_neg nft] at H; simp only [Option.some.injEq, Prod.mk.injEq] at H; obtain ⟨rfl, rfl⟩ := H; have a1_ : 0 ≤ (a0_ : Int) := dq; have a2_ : a0_ < (l0.length : Int) := dq; obtain ⟨a8_, b0_, b1_⟩ := Kd.at_int HR0.out a0_ a1_ a2_; cases b0_; replace a1_ := eq_true a1_; replace a2_ := eq_true a2_; have a6_ : 0 ≤ (a0_ : Int) := dq; have a7_ : a0_ < (l0.length : Int) := dq; obtain ⟨b2_, b6_, b8_⟩ := Kd.at_int HR0.out a0_ a6_ a7_; obtain rfl : a8_ = b2_ := (by injection b6_); replace a6_ := eq_true a6_; replace a7_ := eq_true a7_; go_wp2_with (first | (go_at_call 52; (with_reducible refine (slices_isNaN_int.calls (rd l0 a0_) false _ A13.out).mono ?_); rintro e w' ⟨rfl, ⟨nd, rfl⟩⟩)); go_ret2; exact ⟨by first | rfl | (simp; done) | (simp [*]; done), by repeat (first | exact Drawn0.refl _ | apply Drawn0.step)⟩
      ·rw [if_neg c11] at H
       exact absurd H (by simp)
     ·rw [if_neg c10] at H
      exact absurd H (by simp)
    ·rw [if_neg c9] at H
     have c3_ : decide (a0_ < (l0.length : Int)) = false := decide_eq_false c9; clear c9; simp only [Option.some.injEq, Prod.mk.injEq] at H; obtain ⟨rfl, rfl⟩ := H; go_wp2; go_ret2; exact ⟨by first | rfl | (simp; done) | (simp [*]; done), by repeat (first | exact Drawn0.refl _ | apply Drawn0.step)⟩

end Go.Proofs.Ythlpjnbpdafjeaa.PA
