-- Written by a program of this claim's own (hookprint.py), after the pattern of the kit's print. Lean checks it.
import Derived.Test.YtfabnklcdagfjaaPAx0
namespace Go.Proofs.Ytfabnklcdagfjaa.PA
open Go.RowKit Go.Proofs.YtfabnklcdagfjaaW.PrintWords Go.Proofs.YtfabnklcdagfjaaW.PrintLast Go.Proofs.YtfabnklcdagfjaaW.PrintMore
attribute [local go_sem ↓] some_setCell
attribute [local go_sem] max2_int min2_int max_two min_two max_three min_three max_four min_four   -- for this text's walks alone
set_option linter.unusedVariables false
set_option linter.unusedSimpArgs false

def challenge_used.l0 : Nat → Int → Int → Int → Int → List (S52) → Option (Int)
 | 0, _, _, _, _, _ => none
 | k + 1, x6, x7, x120000, x120001, x120002 => if x7 < x6 then (if 0 ≤ x7 then (if x7 < (x120002.length : Int) then (if ((rd_T52 x120002 x7).f2) = 0 then (some x7) else (challenge_used.l0 k x6 (wrap64 (x7 + 1)) x120000 x120001 x120002)) else (none)) else (none)) else (some (x120002.length : Int))
def challenge_used.f (k : Nat) (a0_0 : Int) (a0_1 : Int) (l0_2 : List (S52)) : Option (Int) := challenge_used.l0 k (l0_2.length : Int) 0 a0_0 a0_1 l0_2
theorem challenge_used.mono_l : ∀ k, (∀ y0 y1 y2 y3 y4, LeO (challenge_used.l0 k y0 y1 y2 y3 y4) (challenge_used.l0 (k + 1) y0 y1 y2 y3 y4))
 | 0 => fun _ _ _ _ _ r h => by simp [challenge_used.l0] at h
 | k + 1 => by
  have ih0 := challenge_used.mono_l k
  all_goals (intros; unfold challenge_used.l0; (repeat' first | (with_reducible first | exact LeO.refl _ | exact LeO.none _ | apply ih0 | apply LeO.ite | refine LeO.bind ?_ (fun _ => ?_)) | apply ih0 | exact LeO.none _ | apply LeO.ite | refine LeO.bind ?_ (fun _ => ?_)))
theorem challenge_used.mono : ∀ a0 a1 a2 k, LeO (challenge_used.f k a0 a1 a2) (challenge_used.f (k + 1) a0 a1 a2) := by
 intro a0 a1 a2 k; have ih0 := challenge_used.mono_l k; unfold challenge_used.f
 repeat' first | (with_reducible first | exact LeO.refl _ | exact LeO.none _ | apply ih0 | apply LeO.ite | refine LeO.bind ?_ (fun _ => ?_)) | apply ih0 | exact LeO.none _ | apply LeO.ite | refine LeO.bind ?_ (fun _ => ?_)
set_option maxHeartbeats 8000000 in
set_option maxRecDepth 100000 in
theorem challenge_used.calls (k : Nat) (a0_0 : Int) (a0_1 : Int) (A0_2 : Option Addr) (c0_2 : Nat) (l0_2 : List (S52)) (r : Int) (w : World) (hr0_2 : Kd.C k52 w A0_2 l0_2.length l0_2) (hc0_2 : l0_2.length ≤ c0_2) (h : challenge_used.f k a0_0 a0_1 l0_2 = some r) :
  Calls Try.prog 36 #[.agg #[.int .i64 a0_0, .int .i64 a0_1, .slice A0_2 l0_2.length c0_2]] w fun e w' => e = .returned (.int .i64 r) ∧ Below w.heap.size w w' := by
 have hu32 := Try.underlying32; have HR0_2 := As hr0_2; have HC0_2 := As hc0_2; clear hr0_2 hc0_2; have HB := As (Below.refl w.heap.size w); have H : (challenge_used.l0 k (l0_2.length : Int) 0 a0_0 a0_1 l0_2) = some r := h; clear h; have H' := As H; clear H; go_enter Try.func36, Try.ntmps36
 go_wp2_with (first | ((with_reducible refine gate_dst (N := 1) rfl ?_); refine box_event ?hg (N := 1) ?hd (cs := #[.int .i64 a0_0, .int .i64 a0_1, .slice A0_2 l0_2.length c0_2]) (t := 32) ?hr ?_; (case hd => rfl); (case hg => rfl); (case hr => first | (go_simp; done) | (go_simp; rfl)); intro gb119 hg w2 hbox hb; have BK119 := As (hbox); have GW119 := As (by rw [hg]; exact (below_size hBq) : w.heap.size ≤ gb119); replace HB := sBq hb; have GE119 := GW119; clear hb hbox hg; obtain ⟨hcz3_0, hcz3_1, hcz3_2, hfz3_0, hfz3_1, hfz3_2⟩ := cf3 BK119.out))
 go_loopg [7] k (fun kq v7 w' => ∃ (x7_1 : Int), v7 = .int .i64 x7_1 ∧ Aside0 (challenge_used.l0 kq (l0_2.length : Int) x7_1 a0_0 a0_1 l0_2 = some r) ∧ Aside0 (kq ≤ k) ∧ Aside0 (w'.heap[gb119]? = some (.cells #[.int .i64 a0_0, .int .i64 a0_1, (.slice A0_2 l0_2.length c0_2)] 32 (0, 0))) ∧ Aside0 (Below w.heap.size w w'))
 case atStart => exact ⟨(0), (by first | rfl | (simp; done) | (simp [*]; done)), H', ⟨Nat.le_refl _⟩, ⟨by (with_reducible repeat (first | apply bN | apply bD | apply bA)); exact BK119.out⟩, ⟨hBq⟩⟩
 case round =>
  clear H'; (try clear p2); (try clear c3); (try clear hcz3_0 hcz3_1 hcz3_2); (try clear hfz3_0 hfz3_1 hfz3_2); obtain ⟨x7_1, rfl, HA, HK1, BK119, HB⟩ := hrel
  cases gk with
  | zero => exact absurd HA.out (by simp [challenge_used.l0])
  | succ k1 =>
   have H := HA.out; clear HA; simp only [challenge_used.l0] at H
   by_cases c4 : x7_1 < (l0_2.length : Int)
   ·rw [if_pos c4] at H
    have c4b0 : decide (x7_1 < (l0_2.length : Int)) = true := decide_eq_true c4; clear c4
    by_cases c5 : 0 ≤ x7_1
    ·rw [if_pos c5] at H
     have c5b0 : decide (0 ≤ x7_1) = true := decide_eq_true c5; clear c5
     by_cases c6 : x7_1 < (l0_2.length : Int)
     ·rw [if_pos c6] at H
      have c6b0 : decide (x7_1 < (l0_2.length : Int)) = true := decide_eq_true c6; clear c6
      by_cases c7 : ((rd_T52 l0_2 x7_1).f2) = 0
      ·rw [if_pos c7] at H
       have c7b0 : (((rd_T52 l0_2 x7_1).f2) == 0) = true := beq_iff_eq.mpr c7; have c7b1 : (((rd_T52 l0_2 x7_1).f2) != 0) = false := bne_eq_false_iff_eq.mpr c7; clear c7; obtain rfl := Option.some.inj H; obtain ⟨hcz8_0, hcz8_1, hcz8_2, hfz8_0, hfz8_1, hfz8_2⟩ := cf3 BK119.out; have p120 : 0 ≤ (x7_1 : Int) := of_decide_eq_true (by first | (with_reducible assumption) | assumption); have q120 : x7_1 < (l0_2.length : Int) := of_decide_eq_true (by first | (with_reducible assumption) | assumption); obtain ⟨ad120, e120, hx120_0, hx120_1, hx120_2⟩ := at_T52 (Kd.C_below HR0_2.out HB.out) x7_1 p120 q120; cases e120; replace p120 := eq_true p120; replace q120 := eq_true q120; go_wp2; go_ret
       exact ⟨erq, hBq⟩
      ·rw [if_neg c7] at H
       have c7b0 : (((rd_T52 l0_2 x7_1).f2) == 0) = false := beq_eq_false_iff_ne.mpr c7; have c7b1 : (((rd_T52 l0_2 x7_1).f2) != 0) = true := bne_iff_ne.mpr c7; have H' := As H; clear H; obtain ⟨hcz9_0, hcz9_1, hcz9_2, hfz9_0, hfz9_1, hfz9_2⟩ := cf3 BK119.out; have p120 : 0 ≤ (x7_1 : Int) := of_decide_eq_true (by first | (with_reducible assumption) | assumption); have q120 : x7_1 < (l0_2.length : Int) := of_decide_eq_true (by first | (with_reducible assumption) | assumption); obtain ⟨ad120, e120, hx120_0, hx120_1, hx120_2⟩ := at_T52 (Kd.C_below HR0_2.out HB.out) x7_1 p120 q120; cases e120; replace p120 := eq_true p120; replace q120 := eq_true q120; go_wp2; go_roundg k1
       case measure => have := HK1.out; omega
       case rel => exact ⟨(wrap64 (x7_1 + 1)), (by first | rfl | (simp; done) | (simp [*]; done)), H', ⟨by have := HK1.out; omega⟩, ⟨by (with_reducible repeat (first | apply bN | apply bD | apply bA)); exact BK119.out⟩, ⟨hBq⟩⟩
     ·rw [if_neg c6] at H
      exact absurd H (by simp)
    ·rw [if_neg c5] at H
     exact absurd H (by simp)
   ·rw [if_neg c4] at H
    have c4b0 : decide (x7_1 < (l0_2.length : Int)) = false := decide_eq_false c4; clear c4; obtain rfl := Option.some.inj H; obtain ⟨hcz10_0, hcz10_1, hcz10_2, hfz10_0, hfz10_1, hfz10_2⟩ := cf3 BK119.out; go_wp2; go_ret; exact ⟨erq, hBq⟩

end Go.Proofs.Ytfabnklcdagfjaa.PA
