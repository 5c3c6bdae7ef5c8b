-- Written by a program of this claim's own (hookprint.py), after the pattern of the kit's print. Lean checks it.
import Derived.Test.YtfabnklcdagfjaaPAx0
namespace Go.Proofs.Ytfabnklcdagfjaa.PA
open Go.RowKit Go.Proofs.YtfabnklcdagfjaaW.PrintWords Go.Proofs.YtfabnklcdagfjaaW.PrintLast Go.Proofs.YtfabnklcdagfjaaW.PrintMore
attribute [local go_sem ↓] some_setCell
attribute [local go_sem] max2_int min2_int max_two min_two max_three min_three max_four min_four   -- for this text's walks alone
set_option linter.unusedVariables false
set_option linter.unusedSimpArgs false

def digest_Sum.l0 : Nat → ByteArray → Int → Int → Int → Option (Int)
 | 0, _, _, _, _ => none
 | k + 1, x0, x3, x6, x7 => if x7 < x6 then (if 0 ≤ x7 then (if x7 < (x0.size : Int) then (digest_Sum.l0 k x0 (Int.tmod (wrap64 ((wrap64 ((wrap64 (x3 * 1000003)) + (wrap64 (bt x0 x7)))) + 1)) 2147483647) x6 (wrap64 (x7 + 1))) else (none)) else (none)) else (some x3)
def digest_Sum.f (k : Nat) (a0 : ByteArray) : Option (Int) := digest_Sum.l0 k a0 1 (a0.size : Int) 0
theorem digest_Sum.mono_l : ∀ k, (∀ y0 y1 y2 y3, LeO (digest_Sum.l0 k y0 y1 y2 y3) (digest_Sum.l0 (k + 1) y0 y1 y2 y3))
 | 0 => fun _ _ _ _ r h => by simp [digest_Sum.l0] at h
 | k + 1 => by
  have ih0 := digest_Sum.mono_l k
  all_goals (intros; unfold digest_Sum.l0; (repeat' first | (with_reducible first | exact LeO.refl _ | exact LeO.none _ | apply ih0 | apply LeO.ite | refine LeO.bind ?_ (fun _ => ?_)) | apply ih0 | exact LeO.none _ | apply LeO.ite | refine LeO.bind ?_ (fun _ => ?_)))
theorem digest_Sum.mono : ∀ a0 k, LeO (digest_Sum.f k a0) (digest_Sum.f (k + 1) a0) := by
 intro a0 k; have ih0 := digest_Sum.mono_l k; unfold digest_Sum.f
 repeat' first | (with_reducible first | exact LeO.refl _ | exact LeO.none _ | apply ih0 | apply LeO.ite | refine LeO.bind ?_ (fun _ => ?_)) | apply ih0 | exact LeO.none _ | apply LeO.ite | refine LeO.bind ?_ (fun _ => ?_)
set_option maxHeartbeats 8000000 in
set_option maxRecDepth 100000 in
theorem digest_Sum.calls (k : Nat) (a0 : ByteArray) (r : Int) (w : World) (h : digest_Sum.f k a0 = some r) :
  Calls Try.prog 31 #[.string a0] w fun e w' => e = .returned (.int .i64 r) ∧ Drawn0 w w' := by
 have H : (digest_Sum.l0 k a0 1 (a0.size : Int) 0) = some r := h; clear h; have H' := As H; clear H; go_enter Try.func31, Try.ntmps31; go_wp2; go_loopg [3, 7] k (fun kq v3 v7 w' => ∃ (x3_1 : Int) (x7_1 : Int), v3 = .int .i64 x3_1 ∧ v7 = .int .i64 x7_1 ∧ Aside0 (digest_Sum.l0 kq a0 x3_1 (a0.size : Int) x7_1 = some r) ∧ Aside0 (kq ≤ k) ∧ Drawn0 w w')
 case atStart => exact ⟨(1), (0), (by first | rfl | (simp; done) | (simp [*]; done)), (by first | rfl | (simp; done) | (simp [*]; done)), H', ⟨Nat.le_refl _⟩, by repeat (first | exact Drawn0.refl _ | apply Drawn0.step)⟩
 case round =>
  clear H'; obtain ⟨x3_1, x7_1, rfl, rfl, HA, HK1, ⟨m1, rfl⟩⟩ := hrel
  cases gk with
  | zero => exact absurd HA.out (by simp [digest_Sum.l0])
  | succ k1 =>
   have H := HA.out; clear HA; simp only [digest_Sum.l0] at H
   by_cases c2 : x7_1 < (a0.size : Int)
   ·rw [if_pos c2] at H
    have c2b0 : decide (x7_1 < (a0.size : Int)) = true := decide_eq_true c2; clear c2
    by_cases c3 : 0 ≤ x7_1
    ·rw [if_pos c3] at H
     have c3b0 : decide (0 ≤ x7_1) = true := decide_eq_true c3; clear c3
     by_cases c4 : x7_1 < (a0.size : Int)
     ·rw [if_pos c4] at H
      have c4b0 : decide (x7_1 < (a0.size : Int)) = true := decide_eq_true c4; clear c4; have H' := As H; clear H; have p5 : 0 ≤ (x7_1 : Int) := of_decide_eq_true (by first | (with_reducible assumption) | assumption); have q5 : x7_1 < (a0.size : Int) := of_decide_eq_true (by first | (with_reducible assumption) | assumption); have hx5 := bt_at a0 x7_1; replace p5 := eq_true p5; replace q5 := eq_true q5; go_wp2; go_roundg k1
      case measure => have := HK1.out; omega
      case rel => exact ⟨(Int.tmod (wrap64 ((wrap64 ((wrap64 (x3_1 * 1000003)) + (wrap64 (bt a0 x7_1)))) + 1)) 2147483647), (wrap64 (x7_1 + 1)), (by first | rfl | (simp; done) | (simp [*]; done)), (by first | rfl | (simp; done) | (simp [*]; done)), H', ⟨by have := HK1.out; omega⟩, by repeat (first | exact Drawn0.refl _ | apply Drawn0.step)⟩
     ·rw [if_neg c4] at H
      exact absurd H (by simp)
    ·rw [if_neg c3] at H
     exact absurd H (by simp)
   ·rw [if_neg c2] at H
    have c2b0 : decide (x7_1 < (a0.size : Int)) = false := decide_eq_false c2; clear c2; obtain rfl := Option.some.inj H; go_wp2; go_ret; exact ⟨by first | rfl | (simp; done) | (simp [*]; done), by repeat (first | exact Drawn0.refl _ | apply Drawn0.step)⟩

end Go.Proofs.Ytfabnklcdagfjaa.PA
