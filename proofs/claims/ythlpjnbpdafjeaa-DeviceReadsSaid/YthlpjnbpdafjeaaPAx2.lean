-- Written by a program of this claim's own (hookprint.py), after the pattern of the kit's print. Lean checks it.
import Derived.Test.YthlpjnbpdafjeaaPAx0
namespace Go.Proofs.Ythlpjnbpdafjeaa.PA
open Go.RowKit Go.Proofs.YthlpjnbpdafjeaaW.PrintWords Go.Proofs.YthlpjnbpdafjeaaW.PrintLast Go.Proofs.YthlpjnbpdafjeaaW.PrintMore
attribute [local go_sem ↓] some_setCell
attribute [local go_sem] max2_int min2_int max_two min_two max_three min_three max_four min_four   -- for this text's walks alone
set_option linter.unusedVariables false
set_option linter.unusedSimpArgs false

def device_marked.l0 : Nat → Int → List Int → Int → Int → Int → List ByteArray → List Int → List Int → Int → Bool → Option (Bool)
 | 0, _, _, _, _, _, _, _, _, _, _ => none
 | k + 1, x5, x8, x9, x10, x106000, x106001, x106002, x106003, x106004, x106005 => if x10 < x9 then (if 0 ≤ x10 then (if x10 < (x8.length : Int) then (if (rd x8 x10) ≤ x5 then (some false) else (if (rd x8 x10) ≥ (x106001.length : Int) then (some false) else (if 0 ≤ (rd x8 x10) then (if (rd x8 x10) < (x106001.length : Int) then (if (rdOf ByteArray.empty x106001 (rd x8 x10)).toList = ([] : List UInt8) then (device_marked.l0 k (rd x8 x10) x8 x9 (wrap64 (x10 + 1)) x106000 x106001 x106002 x106003 x106004 x106005) else (some false)) else (none)) else (none)))) else (none)) else (none)) else (some true)
def device_marked.f (k : Nat) (a0_0 : Int) (l0_1 : List ByteArray) (l0_2 : List Int) (l0_3 : List Int) (a0_4 : Int) (a0_5 : Bool) (l1 : List Int) : Option (Bool) := device_marked.l0 k (-1) l1 (l1.length : Int) 0 a0_0 l0_1 l0_2 l0_3 a0_4 a0_5
theorem device_marked.mono_l : ∀ k, (∀ y0 y1 y2 y3 y4 y5 y6 y7 y8 y9, LeO (device_marked.l0 k y0 y1 y2 y3 y4 y5 y6 y7 y8 y9) (device_marked.l0 (k + 1) y0 y1 y2 y3 y4 y5 y6 y7 y8 y9))
 | 0 => fun _ _ _ _ _ _ _ _ _ _ r h => by simp [device_marked.l0] at h
 | k + 1 => by
  have ih0 := device_marked.mono_l k
  all_goals (intros; unfold device_marked.l0; (repeat' first | (with_reducible first | exact LeO.refl _ | exact LeO.none _ | apply ih0 | apply LeO.ite | refine LeO.bind ?_ (fun _ => ?_)) | apply ih0 | exact LeO.none _ | apply LeO.ite | refine LeO.bind ?_ (fun _ => ?_)))
theorem device_marked.mono : ∀ a0 a1 a2 a3 a4 a5 a6 k, LeO (device_marked.f k a0 a1 a2 a3 a4 a5 a6) (device_marked.f (k + 1) a0 a1 a2 a3 a4 a5 a6) := by
 intro a0 a1 a2 a3 a4 a5 a6 k; have ih0 := device_marked.mono_l k; unfold device_marked.f
 repeat' first | (with_reducible first | exact LeO.refl _ | exact LeO.none _ | apply ih0 | apply LeO.ite | refine LeO.bind ?_ (fun _ => ?_)) | apply ih0 | exact LeO.none _ | apply LeO.ite | refine LeO.bind ?_ (fun _ => ?_)
set_option maxHeartbeats 8000000 in
set_option maxRecDepth 100000 in
theorem device_marked.calls (k : Nat) (a0_0 : Int) (A0_1 : Option Addr) (c0_1 : Nat) (l0_1 : List ByteArray) (A0_2 : Option Addr) (c0_2 : Nat) (l0_2 : List Int) (A0_3 : Option Addr) (c0_3 : Nat) (l0_3 : List Int) (a0_4 : Int) (a0_5 : Bool) (A1 : Option Addr) (c1 : Nat) (l1 : List Int) (r : Bool) (w : World) (hr0_1 : Kd.C Kd.string w A0_1 l0_1.length l0_1) (hc0_1 : l0_1.length ≤ c0_1) (hr0_2 : Kd.C (Kd.int .i64) w A0_2 l0_2.length l0_2) (hc0_2 : l0_2.length ≤ c0_2) (hr0_3 : Kd.C (Kd.int .i64) w A0_3 l0_3.length l0_3) (hc0_3 : l0_3.length ≤ c0_3) (hr1 : Kd.C (Kd.int .i64) w A1 l1.length l1) (hc1 : l1.length ≤ c1) (h : device_marked.f k a0_0 l0_1 l0_2 l0_3 a0_4 a0_5 l1 = some r) :
  Calls Try.prog 45 #[.agg #[.int .i64 a0_0, .slice A0_1 l0_1.length c0_1, .slice A0_2 l0_2.length c0_2, .slice A0_3 l0_3.length c0_3, .int .i64 a0_4, .bool a0_5], .slice A1 l1.length c1] w fun e w' => e = .returned (.bool r) ∧ Below w.heap.size w w' := by
 have hu26 := Try.underlying26; have HR0_1 := As hr0_1; have HC0_1 := As hc0_1; clear hr0_1 hc0_1; have HR0_2 := As hr0_2; have HC0_2 := As hc0_2; clear hr0_2 hc0_2; have HR0_3 := As hr0_3; have HC0_3 := As hc0_3; clear hr0_3 hc0_3; have HR1 := As hr1; have HC1 := As hc1; clear hr1 hc1; have HB := As (Below.refl w.heap.size w); have H : (device_marked.l0 k (-1) l1 (l1.length : Int) 0 a0_0 l0_1 l0_2 l0_3 a0_4 a0_5) = some r := h; clear h; have H' := As H; clear H; go_enter Try.func45, Try.ntmps45
 go_wp2_with (first | ((with_reducible refine gate_dst (N := 2) rfl ?_); (try (refine gate_guard (by rfl) ?_; dsimp only)); refine bxE 2 #[a0_0, .slice A0_1 l0_1.length c0_1, .slice A0_2 l0_2.length c0_2, .slice A0_3 l0_3.length c0_3, a0_4, .bool a0_5] 26 ?_; intro b2_ hg w3 hbox hb; have a5_ := As (hbox); have b3_ := As (by rw [hg]; exact (below_size hBq) : w.heap.size ≤ b2_); replace HB := sBq hb; have c0_ := b3_; clear hb hbox hg)); go_loopg [5, 10] k (fun kq v5 v10 w' => ∃ (a9_ : Int) (a0_ : Int), v5 = .int .i64 a9_ ∧ v10 = .int .i64 a0_ ∧ Aside0 (device_marked.l0 kq a9_ l1 (l1.length : Int) a0_ a0_0 l0_1 l0_2 l0_3 a0_4 a0_5 = some r) ∧ Aside0 (kq ≤ k) ∧ Aside0 (w'.heap[b2_]? = some (.cells #[a0_0, (.slice A0_1 l0_1.length c0_1), (.slice A0_2 l0_2.length c0_2), (.slice A0_3 l0_3.length c0_3), a0_4, .bool a0_5] 26 (0, 0))) ∧ Aside0 (Below w.heap.size w w'))
 case atStart => exact ⟨((-1)), (0), (by first | rfl | (simp; done) | (simp [*]; done)), (by first | rfl | (simp; done) | (simp [*]; done)), H', ⟨Nat.le_refl _⟩, ⟨by refine plT ?_; exact a5_.out⟩, ⟨hBq⟩⟩
 case round =>
  clear H'; (try clear c1); (try clear p2); obtain ⟨a9_, a0_, rfl, rfl, HA, HK1, a5_, HB⟩ := hrel
  cases gk with
  | zero => exact absurd HA.out (by simp [device_marked.l0])
  | succ k1 =>
   have H := HA.out; clear HA; simp only [device_marked.l0] at H
   by_cases c4 : a0_ < (l1.length : Int)
   ·rw [if_pos c4] at H
    have b7_ : decide (a0_ < (l1.length : Int)) = true := decide_eq_true c4; clear c4
    by_cases c5 : 0 ≤ a0_
    ·rw [if_pos c5] at H
     have c3_ : decide (0 ≤ a0_) = true := decide_eq_true c5; clear c5
     by_cases c6 : a0_ < (l1.length : Int)
     ·rw [if_pos c6] at H
      have c4_ : decide (a0_ < (l1.length : Int)) = true := decide_eq_true c6; clear c6
      by_cases c7 : (rd l1 a0_) ≤ a9_
      ·rw [if_pos c7] at H
       have b8_ : decide ((rd l1 a0_) ≤ a9_) = true := decide_eq_true c7; clear c7; obtain rfl := Option.some.inj H; have a2_ : 0 ≤ (a0_ : Int) := dq; have a3_ : a0_ < (l1.length : Int) := dq; obtain ⟨b0_, a6_, a1_⟩ := Kd.at_int HR1.out a0_ a2_ a3_; cases a6_; replace a1_ := (HB.out.cell (World.block_lt_of_cell? w _ a1_)).trans a1_; replace a2_ := eq_true a2_; replace a3_ := eq_true a3_; go_wp2; go_ret; exact ⟨erq, hBq⟩
      ·rw [if_neg c7] at H
       have b8_ : decide ((rd l1 a0_) ≤ a9_) = false := decide_eq_false c7; clear c7
       by_cases c8 : (rd l1 a0_) ≥ (l0_1.length : Int)
       ·rw [if_pos c8] at H
        have b9_ : decide ((l0_1.length : Int) ≤ (rd l1 a0_)) = true := decide_eq_true c8; clear c8; obtain rfl := Option.some.inj H; have a2_ : 0 ≤ (a0_ : Int) := dq; have a3_ : a0_ < (l1.length : Int) := dq; obtain ⟨b0_, a6_, a1_⟩ := Kd.at_int HR1.out a0_ a2_ a3_; cases a6_; replace a1_ := (HB.out.cell (World.block_lt_of_cell? w _ a1_)).trans a1_; replace a2_ := eq_true a2_; replace a3_ := eq_true a3_; have := cf6 a5_.out; go_wp2; go_ret
        exact ⟨erq, hBq⟩
       ·rw [if_neg c8] at H
        have b9_ : decide ((l0_1.length : Int) ≤ (rd l1 a0_)) = false := decide_eq_false c8; clear c8
        by_cases c10 : 0 ≤ (rd l1 a0_)
        ·rw [if_pos c10] at H
         have c1_ : decide (0 ≤ (rd l1 a0_)) = true := decide_eq_true c10; clear c10
         by_cases c11 : (rd l1 a0_) < (l0_1.length : Int)
         ·rw [if_pos c11] at H
          have c2_ : decide ((rd l1 a0_) < (l0_1.length : Int)) = true := decide_eq_true c11; clear c11
          by_cases c12 : (rdOf ByteArray.empty l0_1 (rd l1 a0_)).toList = ([] : List UInt8)
          ·rw [if_pos c12] at H
           have b4_ : ((rdOf ByteArray.empty l0_1 (rd l1 a0_)).toList == ([] : List UInt8)) = true := beq_iff_eq.mpr c12; have b5_ : ((rdOf ByteArray.empty l0_1 (rd l1 a0_)).toList != ([] : List UInt8)) = false := bne_eq_false_iff_eq.mpr c12; clear c12; have H' := As H; clear H; have a2_ : 0 ≤ (a0_ : Int) := dq; have a3_ : a0_ < (l1.length : Int) := dq; obtain ⟨b0_, a6_, a1_⟩ := Kd.at_int HR1.out a0_ a2_ a3_; cases a6_; replace a1_ := (HB.out.cell (World.block_lt_of_cell? w _ a1_)).trans a1_; replace a2_ := eq_true a2_; replace a3_ := eq_true a3_; have := cf6 a5_.out; have a7_ : 0 ≤ ((rd l1 a0_) : Int) := dq; have a8_ : (rd l1 a0_) < (l0_1.length : Int) := dq; obtain ⟨b6_, b1_, a4_⟩ := Kd.at_string HR0_1.out (rd l1 a0_) a7_ a8_; cases b1_; replace a4_ := (HB.out.cell (World.block_lt_of_cell? w _ a4_)).trans a4_; replace a7_ := eq_true a7_; replace a8_ := eq_true a8_; go_wp2; go_roundg k1
           case measure => have := HK1.out; omega
           case rel => exact ⟨(rd l1 a0_), (wrap64 (a0_ + 1)), (by first | rfl | (simp; done) | (simp [*]; done)), (by first | rfl | (simp; done) | (simp [*]; done)), H', ⟨by have := HK1.out; omega⟩, ⟨by refine plT ?_; exact a5_.out⟩, ⟨hBq⟩⟩
          ·rw [if_neg c12] at H
           have b4_ : ((rdOf ByteArray.empty l0_1 (rd l1 a0_)).toList == ([] : List UInt8)) = false := beq_eq_false_iff_ne.mpr c12; have b5_ : ((rdOf ByteArray.empty l0_1 (rd l1 a0_)).toList != ([] : List UInt8)) = true := bne_iff_ne.mpr c12; obtain rfl := Option.some.inj H; have a2_ : 0 ≤ (a0_ : Int) := dq; have a3_ : a0_ < (l1.length : Int) := dq; obtain ⟨b0_, a6_, a1_⟩ := Kd.at_int HR1.out a0_ a2_ a3_; cases a6_; replace a1_ := (HB.out.cell (World.block_lt_of_cell? w _ a1_)).trans a1_; replace a2_ := eq_true a2_; replace a3_ := eq_true a3_; have := cf6 a5_.out; have a7_ : 0 ≤ ((rd l1 a0_) : Int) := dq; have a8_ : (rd l1 a0_) < (l0_1.length : Int) := dq; obtain ⟨b6_, b1_, a4_⟩ := Kd.at_string HR0_1.out (rd l1 a0_) a7_ a8_; cases b1_; replace a4_ := (HB.out.cell (World.block_lt_of_cell? w _ a4_)).trans a4_; replace a7_ := eq_true a7_; replace a8_ := eq_true a8_; go_wp2; go_ret; exact ⟨erq, hBq⟩
         ·rw [if_neg c11] at H
          exact absurd H (by simp)
        ·rw [if_neg c10] at H
         exact absurd H (by simp)
     ·rw [if_neg c6] at H
      exact absurd H (by simp)
    ·rw [if_neg c5] at H
     exact absurd H (by simp)
   ·rw [if_neg c4] at H
    have b7_ : decide (a0_ < (l1.length : Int)) = false := decide_eq_false c4; clear c4; obtain rfl := Option.some.inj H; go_wp2; go_ret; exact ⟨erq, hBq⟩

end Go.Proofs.Ythlpjnbpdafjeaa.PA
