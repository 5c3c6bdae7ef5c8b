-- Written by a program of this claim's own (hookprint.py), after the pattern of the kit's print. Lean checks it.
import Derived.Test.YthlpjnbpdafjeaaPAx0
import Derived.Test.YthlpjnbpdafjeaaPAx2
namespace Go.Proofs.Ythlpjnbpdafjeaa.PA
open Go.RowKit Go.Proofs.YthlpjnbpdafjeaaW.PrintWords Go.Proofs.YthlpjnbpdafjeaaW.PrintLast Go.Proofs.YthlpjnbpdafjeaaW.PrintMore
attribute [local go_sem ↓] some_setCell
attribute [local go_sem] max2_int min2_int max_two min_two max_three min_three max_four min_four   -- for this text's walks alone
set_option linter.unusedVariables false
set_option linter.unusedSimpArgs false

mutual
def device_valid.j0 : Nat → Bool → Int → List ByteArray → List Int → List Int → Int → Bool → Option (Bool)
 | 0, _, _, _, _, _, _, _ => none
 | k + 1, x34, x109000, x109001, x109002, x109003, x109004, x109005 => if x34 = true then (some false) else (device_valid.l0 k x109001 (x109001.length : Int) 0 x109000 x109001 x109002 x109003 x109004 x109005)
def device_valid.l0 : Nat → List ByteArray → Int → Int → Int → List ByteArray → List Int → List Int → Int → Bool → Option (Bool)
 | 0, _, _, _, _, _, _, _, _, _ => none
 | k + 1, x36, x37, x38, x109000, x109001, x109002, x109003, x109004, x109005 => if x38 < x37 then (if 0 ≤ x38 then (if x38 < (x36.length : Int) then (if ((rdOf ByteArray.empty x36 x38).size : Int) > x109000 then (some false) else (device_valid.l0 k x36 x37 (wrap64 (x38 + 1)) x109000 x109001 x109002 x109003 x109004 x109005)) else (none)) else (none)) else ((device_marked.f k x109000 x109001 x109002 x109003 x109004 x109005 x109002).bind fun b1_ => (if b1_ = true then ((device_marked.f k x109000 x109001 x109002 x109003 x109004 x109005 x109003).bind fun b2_ => (some b2_)) else (some false)))
end
def device_valid.f (k : Nat) (a0_0 : Int) (l0_1 : List ByteArray) (l0_2 : List Int) (l0_3 : List Int) (a0_4 : Int) (a0_5 : Bool) : Option (Bool) := if a0_0 < 16 then (device_valid.j0 k true a0_0 l0_1 l0_2 l0_3 a0_4 a0_5) else (if a0_0 > 64 then (device_valid.j0 k true a0_0 l0_1 l0_2 l0_3 a0_4 a0_5) else (if (l0_1.length : Int) < 1 then (device_valid.j0 k true a0_0 l0_1 l0_2 l0_3 a0_4 a0_5) else (if (l0_1.length : Int) > 512 then (device_valid.j0 k true a0_0 l0_1 l0_2 l0_3 a0_4 a0_5) else (if a0_4 < 0 then (device_valid.j0 k true a0_0 l0_1 l0_2 l0_3 a0_4 a0_5) else (device_valid.j0 k (decide (a0_4 > 1048576)) a0_0 l0_1 l0_2 l0_3 a0_4 a0_5)))))
theorem device_valid.mono_l : ∀ k, (∀ y0 y1 y2 y3 y4 y5 y6, LeO (device_valid.j0 k y0 y1 y2 y3 y4 y5 y6) (device_valid.j0 (k + 1) y0 y1 y2 y3 y4 y5 y6)) ∧ (∀ y0 y1 y2 y3 y4 y5 y6 y7 y8, LeO (device_valid.l0 k y0 y1 y2 y3 y4 y5 y6 y7 y8) (device_valid.l0 (k + 1) y0 y1 y2 y3 y4 y5 y6 y7 y8))
 | 0 => ⟨fun _ _ _ _ _ _ _ r h => by simp [device_valid.j0] at h, fun _ _ _ _ _ _ _ _ _ r h => by simp [device_valid.l0] at h⟩
 | k + 1 => by
  obtain ⟨ih0, ih1⟩ := device_valid.mono_l k; refine ⟨?_, ?_⟩
  all_goals (intros; (first | unfold device_valid.j0 | unfold device_valid.l0); (repeat' first | (with_reducible first | exact LeO.refl _ | exact LeO.none _ | apply ih0 | apply ih1 | apply device_marked.mono | apply LeO.ite | refine LeO.bind ?_ (fun _ => ?_)) | apply ih0 | apply ih1 | apply device_marked.mono | exact LeO.none _ | apply LeO.ite | refine LeO.bind ?_ (fun _ => ?_)))
theorem device_valid.mono : ∀ a0 a1 a2 a3 a4 a5 k, LeO (device_valid.f k a0 a1 a2 a3 a4 a5) (device_valid.f (k + 1) a0 a1 a2 a3 a4 a5) := by
 intro a0 a1 a2 a3 a4 a5 k; obtain ⟨ih0, ih1⟩ := device_valid.mono_l k; unfold device_valid.f
 repeat' first | (with_reducible first | exact LeO.refl _ | exact LeO.none _ | apply ih0 | apply ih1 | apply device_marked.mono | apply LeO.ite | refine LeO.bind ?_ (fun _ => ?_)) | apply ih0 | apply ih1 | apply device_marked.mono | exact LeO.none _ | apply LeO.ite | refine LeO.bind ?_ (fun _ => ?_)
set_option maxHeartbeats 8000000 in
set_option maxRecDepth 100000 in
theorem device_valid.calls (k : Nat) (a0_0 : Int) (A0_1 : Option Addr) (c0_1 : Nat) (l0_1 : List ByteArray) (A0_2 : Option Addr) (c0_2 : Nat) (l0_2 : List Int) (A0_3 : Option Addr) (c0_3 : Nat) (l0_3 : List Int) (a0_4 : Int) (a0_5 : Bool) (r : Bool) (w : World) (hr0_1 : Kd.C Kd.string w A0_1 l0_1.length l0_1) (hc0_1 : l0_1.length ≤ c0_1) (hr0_2 : Kd.C (Kd.int .i64) w A0_2 l0_2.length l0_2) (hc0_2 : l0_2.length ≤ c0_2) (hr0_3 : Kd.C (Kd.int .i64) w A0_3 l0_3.length l0_3) (hc0_3 : l0_3.length ≤ c0_3) (h : device_valid.f k a0_0 l0_1 l0_2 l0_3 a0_4 a0_5 = some r) :
  Calls Try.prog 32 #[.agg #[.int .i64 a0_0, .slice A0_1 l0_1.length c0_1, .slice A0_2 l0_2.length c0_2, .slice A0_3 l0_3.length c0_3, .int .i64 a0_4, .bool a0_5]] w fun e w' => e = .returned (.bool r) ∧ Below w.heap.size w w' := by
 have hu26 := Try.underlying26; have HR0_1 := As hr0_1; have HC0_1 := As hc0_1; clear hr0_1 hc0_1; have HR0_2 := As hr0_2; have HC0_2 := As hc0_2; clear hr0_2 hc0_2; have HR0_3 := As hr0_3; have HC0_3 := As hc0_3; clear hr0_3 hc0_3; have HB := As (Below.refl w.heap.size w); have H : (if a0_0 < 16 then (device_valid.j0 k true a0_0 l0_1 l0_2 l0_3 a0_4 a0_5) else (if a0_0 > 64 then (device_valid.j0 k true a0_0 l0_1 l0_2 l0_3 a0_4 a0_5) else (if (l0_1.length : Int) < 1 then (device_valid.j0 k true a0_0 l0_1 l0_2 l0_3 a0_4 a0_5) else (if (l0_1.length : Int) > 512 then (device_valid.j0 k true a0_0 l0_1 l0_2 l0_3 a0_4 a0_5) else (if a0_4 < 0 then (device_valid.j0 k true a0_0 l0_1 l0_2 l0_3 a0_4 a0_5) else (device_valid.j0 k (decide (a0_4 > 1048576)) a0_0 l0_1 l0_2 l0_3 a0_4 a0_5)))))) = some r := h; clear h; have HC2 := As H; clear H; go_enter Try.func32, Try.ntmps32
 go_upto_region 1 with (first | ((with_reducible refine gate_dst (N := 1) rfl ?_); (try (refine gate_guard (by rfl) ?_; dsimp only)); refine bxE 1 #[a0_0, .slice A0_1 l0_1.length c0_1, .slice A0_2 l0_2.length c0_2, .slice A0_3 l0_3.length c0_3, a0_4, .bool a0_5] 26 ?_; intro a7_ hg w3 hbox hb; have a0_ := As (hbox); have b7_ := As (by rw [hg]; exact (below_size hBq) : w.heap.size ≤ a7_); replace HB := sBq hb; have c1_ := b7_; clear hb hbox hg)); (try simp only [Act.put, List.setIfInBounds_toArray, List.set_cons_zero, List.set_cons_succ]); go_cut [34] (fun v34 wc => ∃ (kq : Nat) (a6_ : Bool), v34 = .bool a6_ ∧ Aside0 (device_valid.j0 kq a6_ a0_0 l0_1 l0_2 l0_3 a0_4 a0_5 = some r) ∧ Aside0 (kq ≤ k) ∧ Aside0 (wc.heap[a7_]? = some (.cells #[a0_0, (.slice A0_1 l0_1.length c0_1), (.slice A0_2 l0_2.length c0_2), (.slice A0_3 l0_3.length c0_3), a0_4, .bool a0_5] 26 (0, 0))) ∧ Aside0 (Below w.heap.size w wc))
 case first =>
  have H := HC2.out; clear HC2
  by_cases c4 : a0_0 < 16
  ·rw [if_pos c4] at H
   have a3_ : decide (a0_0 < 16) = true := decide_eq_true c4; clear c4; (first | rw [a3_] | (simp only [i64_w, i32_w]; rw [a3_]) | skip); have H' := As H; clear H; have hq0_ := cf6 a0_.out; go_wp2; go_meet
   case rel => exact ⟨_, (true), (by first | rfl | (simp; done) | (simp [*]; done)), H', ⟨by first | omega | exact Nat.le_refl _⟩, ⟨by refine plT ?_; exact a0_.out⟩, ⟨hBq⟩⟩
  ·rw [if_neg c4] at H
   have a3_ : decide (a0_0 < 16) = false := decide_eq_false c4; clear c4; (first | rw [a3_] | (simp only [i64_w, i32_w]; rw [a3_]) | skip)
   by_cases c6 : a0_0 > 64
   ·rw [if_pos c6] at H
    have b3_ : decide (64 < a0_0) = true := decide_eq_true c6; clear c6; have H' := As H; clear H; have hq1_ := cf6 a0_.out; go_wp2; go_meet
    case rel => exact ⟨_, (true), (by first | rfl | (simp; done) | (simp [*]; done)), H', ⟨by first | omega | exact Nat.le_refl _⟩, ⟨by refine plT ?_; exact a0_.out⟩, ⟨hBq⟩⟩
   ·rw [if_neg c6] at H
    have b3_ : decide (64 < a0_0) = false := decide_eq_false c6; clear c6
    by_cases c8 : (l0_1.length : Int) < 1
    ·rw [if_pos c8] at H
     have b4_ : decide ((l0_1.length : Int) < 1) = true := decide_eq_true c8; have b5_ : decide (l0_1.length < 1) = true := decide_eq_true (by omega); clear c8; have H' := As H; clear H; have hq2_ := cf6 a0_.out; go_wp2; go_meet
     case rel => exact ⟨_, (true), (by first | rfl | (simp; done) | (simp [*]; done)), H', ⟨by first | omega | exact Nat.le_refl _⟩, ⟨by refine plT ?_; exact a0_.out⟩, ⟨hBq⟩⟩
    ·rw [if_neg c8] at H
     have b4_ : decide ((l0_1.length : Int) < 1) = false := decide_eq_false c8; have b5_ : decide (l0_1.length < 1) = false := decide_eq_false (by omega); clear c8
     by_cases c10 : (l0_1.length : Int) > 512
     ·rw [if_pos c10] at H
      have a8_ : decide (512 < (l0_1.length : Int)) = true := decide_eq_true c10; have a9_ : decide (512 < l0_1.length) = true := decide_eq_true (by omega); clear c10; have H' := As H; clear H; have hq3_ := cf6 a0_.out; go_wp2; go_meet
      case rel => exact ⟨_, (true), (by first | rfl | (simp; done) | (simp [*]; done)), H', ⟨by first | omega | exact Nat.le_refl _⟩, ⟨by refine plT ?_; exact a0_.out⟩, ⟨hBq⟩⟩
     ·rw [if_neg c10] at H
      have a8_ : decide (512 < (l0_1.length : Int)) = false := decide_eq_false c10; have a9_ : decide (512 < l0_1.length) = false := decide_eq_false (by omega); clear c10
      by_cases c12 : a0_4 < 0
      ·rw [if_pos c12] at H
       have b0_ : decide (a0_4 < 0) = true := decide_eq_true c12; clear c12; have H' := As H; clear H; have hq4_ := cf6 a0_.out; go_wp2; go_meet
       case rel => exact ⟨_, (true), (by first | rfl | (simp; done) | (simp [*]; done)), H', ⟨by first | omega | exact Nat.le_refl _⟩, ⟨by refine plT ?_; exact a0_.out⟩, ⟨hBq⟩⟩
      ·rw [if_neg c12] at H
       have b0_ : decide (a0_4 < 0) = false := decide_eq_false c12; clear c12; have H' := As H; clear H; have hq5_ := cf6 a0_.out; go_wp2; go_meet
       case rel => exact ⟨_, (decide (a0_4 > 1048576)), (by first | rfl | (simp; done) | (simp [*]; done)), H', ⟨by first | omega | exact Nat.le_refl _⟩, ⟨by refine plT ?_; exact a0_.out⟩, ⟨hBq⟩⟩
 case rest =>
  clear HC2; (try clear c1); (try clear p2); (try clear c3); (try clear c4); (try clear a3_); (try clear c6); (try clear b3_); (try clear c8); (try clear b4_); (try clear b5_); (try clear c10); (try clear a8_); (try clear a9_); (try clear c12); (try clear b0_); (try clear hq3_); (try clear hq4_); (try clear hq5_); (try clear hq0_); (try clear hq1_); (try clear hq2_); (try clear hq3_); (try clear hq4_); (try clear hq5_); (try clear hq0_)
  (try clear hq0_); (try clear hq1_); (try clear hq2_); obtain ⟨kq, a6_, rfl, HA, HJ1, a0_, HB⟩ := hcut
  cases kq with
  | zero => exact absurd HA.out (by simp [device_valid.j0])
  | succ kj1 =>
   have H := HA.out; clear HA; simp only [device_valid.j0] at H
   by_cases c15 : a6_ = true
   ·subst c15
    rw [if_pos rfl] at H; obtain rfl := Option.some.inj H; go_wp2; go_ret; exact ⟨erq, hBq⟩
   ·replace c15 := Bool.eq_false_iff.mpr c15
    subst c15; rw [if_neg nft] at H; have H' := As H; clear H; have hq6_ := cf6 a0_.out; go_wp2
    go_loopg [38] kj1 (fun kq v38 w' => ∃ (a1_ : Int), v38 = .int .i64 a1_ ∧ Aside0 (device_valid.l0 kq l0_1 (l0_1.length : Int) a1_ a0_0 l0_1 l0_2 l0_3 a0_4 a0_5 = some r) ∧ Aside0 (kq ≤ kj1) ∧ Aside0 (w'.heap[a7_]? = some (.cells #[a0_0, (.slice A0_1 l0_1.length c0_1), (.slice A0_2 l0_2.length c0_2), (.slice A0_3 l0_3.length c0_3), a0_4, .bool a0_5] 26 (0, 0))) ∧ Aside0 (Below w.heap.size w w'))
    case atStart => exact ⟨(0), (by first | rfl | (simp; done) | (simp [*]; done)), H', ⟨Nat.le_refl _⟩, ⟨by refine plT ?_; exact a0_.out⟩, ⟨hBq⟩⟩
    case round =>
     clear H'; (try clear c1); (try clear p2); (try clear c3); (try clear c4); (try clear a3_); (try clear c6); (try clear b3_); (try clear c8); (try clear b4_); (try clear b5_); (try clear c10); (try clear a8_); (try clear a9_); (try clear c12); (try clear b0_); (try clear c15); (try clear hq3_); (try clear hq4_); (try clear hq5_); (try clear hq6_); (try clear hq0_); (try clear hq1_); (try clear hq2_); (try clear hq3_); (try clear hq4_); (try clear hq5_)
     (try clear hq5_); (try clear hq6_); (try clear hq0_); (try clear hq1_); (try clear hq2_); (try clear p2); obtain ⟨a1_, rfl, HA, HK2, a0_, HB⟩ := hrel
     cases gk with
     | zero => exact absurd HA.out (by simp [device_valid.l0])
     | succ k2 =>
      have H := HA.out; clear HA; simp only [device_valid.l0] at H
      by_cases c17 : a1_ < (l0_1.length : Int)
      ·rw [if_pos c17] at H
       have b8_ : decide (a1_ < (l0_1.length : Int)) = true := decide_eq_true c17; clear c17
       by_cases c18 : 0 ≤ a1_
       ·rw [if_pos c18] at H
        have c2_ : decide (0 ≤ a1_) = true := decide_eq_true c18; clear c18
        by_cases c19 : a1_ < (l0_1.length : Int)
        ·rw [if_pos c19] at H
         have c3_ : decide (a1_ < (l0_1.length : Int)) = true := decide_eq_true c19; clear c19
         by_cases c20 : ((rdOf ByteArray.empty l0_1 a1_).size : Int) > a0_0
         ·rw [if_pos c20] at H
          have b9_ : decide (a0_0 < ((rdOf ByteArray.empty l0_1 a1_).size : Int)) = true := decide_eq_true c20; clear c20; obtain rfl := Option.some.inj H; have a4_ : 0 ≤ (a1_ : Int) := dq; have a5_ : a1_ < (l0_1.length : Int) := dq; obtain ⟨c0_, b6_, a2_⟩ := Kd.at_string HR0_1.out a1_ a4_ a5_; cases b6_; replace a2_ := (HB.out.cell (World.block_lt_of_cell? w _ a2_)).trans a2_; replace a4_ := eq_true a4_; replace a5_ := eq_true a5_; have := cf6 a0_.out; go_wp2; go_ret; exact ⟨erq, hBq⟩
         ·rw [if_neg c20] at H
          have b9_ : decide (a0_0 < ((rdOf ByteArray.empty l0_1 a1_).size : Int)) = false := decide_eq_false c20; clear c20; have H' := As H; clear H; have a4_ : 0 ≤ (a1_ : Int) := dq; have a5_ : a1_ < (l0_1.length : Int) := dq; obtain ⟨c0_, b6_, a2_⟩ := Kd.at_string HR0_1.out a1_ a4_ a5_; cases b6_; replace a2_ := (HB.out.cell (World.block_lt_of_cell? w _ a2_)).trans a2_; replace a4_ := eq_true a4_; replace a5_ := eq_true a5_; have := cf6 a0_.out; go_wp2; go_roundg k2
          case measure => have := HJ1.out; have := HK2.out; omega
          case rel => exact ⟨(wrap64 (a1_ + 1)), (by first | rfl | (simp; done) | (simp [*]; done)), H', ⟨by have := HJ1.out; have := HK2.out; omega⟩, ⟨by refine plT ?_; exact a0_.out⟩, ⟨hBq⟩⟩
        ·rw [if_neg c19] at H
         exact absurd H (by simp)
       ·rw [if_neg c18] at H
        exact absurd H (by simp)
      ·rw [if_neg c17] at H
       have b8_ : decide (a1_ < (l0_1.length : Int)) = false := decide_eq_false c17; clear c17; obtain ⟨b1_, A23, H⟩ := bnd H; (try dsimp only at H)
       by_cases c24 : b1_ = true
       ·subst c24
        rw [if_pos rfl] at H; obtain ⟨b2_, A25, H⟩ := bnd H; (try dsimp only at H); obtain rfl := Option.some.inj H; have := cf6 a0_.out
        go_wp2_with (first | ((with_reducible refine gate_callee (f := 45) rfl ?_); refine gL (some 51) Try.func45 #[.agg #[a0_0, .slice A0_1 l0_1.length c0_1, .slice A0_2 l0_2.length c0_2, .slice A0_3 l0_3.length c0_3, a0_4, .bool a0_5], .slice A0_2 l0_2.length c0_2] ?_; (with_reducible refine (device_marked.calls k2 a0_0 _ _ l0_1 _ _ l0_2 _ _ l0_3 a0_4 a0_5 _ _ l0_2 true _ ?side1 ?side2 ?side3 ?side4 ?side5 ?side6 ?side7 ?side8 A23.out).mono ?_); (case side1 => exact cq ⟨Kd.C_below HR0_1.out HB.out⟩); (case side2 => exact HC0_1.out); (case side3 => exact cq ⟨Kd.C_below HR0_2.out HB.out⟩); (case side4 => exact HC0_2.out); (case side5 => exact cq ⟨Kd.C_below HR0_3.out HB.out⟩); (case side6 => exact HC0_3.out); (case side7 => exact cq ⟨Kd.C_below HR0_2.out HB.out⟩); (case side8 => exact HC0_2.out); rintro e w27 ⟨rfl, hb⟩; refine ⟨_, rfl, ?_⟩; replace a0_ := As (blk_below (plq a0_.out) hb); replace HB := sBq hb; (try clear hb); have := cf6 a0_.out) | (go_at_call 45; (with_reducible refine (device_marked.calls k2 a0_0 _ _ l0_1 _ _ l0_2 _ _ l0_3 a0_4 a0_5 _ _ l0_3 b2_ _ ?side1 ?side2 ?side3 ?side4 ?side5 ?side6 ?side7 ?side8 A25.out).mono ?_); (case side1 => exact cq ⟨Kd.C_below HR0_1.out HB.out⟩); (case side2 => exact HC0_1.out); (case side3 => exact cq ⟨Kd.C_below HR0_2.out HB.out⟩); (case side4 => exact HC0_2.out); (case side5 => exact cq ⟨Kd.C_below HR0_3.out HB.out⟩); (case side6 => exact HC0_3.out); (case side7 => exact cq ⟨Kd.C_below HR0_3.out HB.out⟩); (case side8 => exact HC0_3.out); rintro e w29 ⟨rfl, hb⟩; replace a0_ := As (blk_below (plq a0_.out) hb); replace HB := sBq hb; (try clear hb)))
        go_ret; exact ⟨erq, hBq⟩
       ·replace c24 := Bool.eq_false_iff.mpr c24
        subst c24; rw [if_neg nft] at H; obtain rfl := Option.some.inj H; have := cf6 a0_.out
        go_wp2_with (first | ((with_reducible refine gate_callee (f := 45) rfl ?_); refine gL (some 51) Try.func45 #[.agg #[a0_0, .slice A0_1 l0_1.length c0_1, .slice A0_2 l0_2.length c0_2, .slice A0_3 l0_3.length c0_3, a0_4, .bool a0_5], .slice A0_2 l0_2.length c0_2] ?_; (with_reducible refine (device_marked.calls k2 a0_0 _ _ l0_1 _ _ l0_2 _ _ l0_3 a0_4 a0_5 _ _ l0_2 false _ ?side1 ?side2 ?side3 ?side4 ?side5 ?side6 ?side7 ?side8 A23.out).mono ?_); (case side1 => exact cq ⟨Kd.C_below HR0_1.out HB.out⟩); (case side2 => exact HC0_1.out); (case side3 => exact cq ⟨Kd.C_below HR0_2.out HB.out⟩); (case side4 => exact HC0_2.out); (case side5 => exact cq ⟨Kd.C_below HR0_3.out HB.out⟩); (case side6 => exact HC0_3.out); (case side7 => exact cq ⟨Kd.C_below HR0_2.out HB.out⟩); (case side8 => exact HC0_2.out); rintro e w31 ⟨rfl, hb⟩; refine ⟨_, rfl, ?_⟩; replace a0_ := As (blk_below (plq a0_.out) hb); replace HB := sBq hb; (try clear hb)))
        go_ret; exact ⟨erq, hBq⟩

end Go.Proofs.Ythlpjnbpdafjeaa.PA
