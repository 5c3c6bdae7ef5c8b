-- Printed by this claim's own program.
import Derived.Test.YtcgpbmafkgbbdaaDoorPSx0
import Derived.Test.YtcgpbmafkgbbdaaDoorRow
namespace Go.Proofs.YtcgpbmafkgbbdaaDoor.PS
open Go.RowKit Go.Proofs.YtcgpbmafkgbbdaaDoorW.PrintWords Go.Proofs.YtcgpbmafkgbbdaaDoorW.PrintLast Go.Proofs.YtcgpbmafkgbbdaaDoorW.PrintMore
attribute [local go_sem ↓] some_setCell
attribute [local go_sem] max2_int min2_int max_two min_two max_three min_three max_four min_four
set_option linter.unusedVariables false
set_option linter.unusedSimpArgs false
mutual
def ref15_parts.j0 : Nat → Bool → Bool → Int → Int → Int → Int → Int → Int → Int → Int → Int → Int → Int → Option (Bool)
 | 0, _, _, _, _, _, _, _, _, _, _, _, _, _ => none
 | k + 1, x3, x4, x177000, x177001, x177002, x177003, x177004, x177005, x177006, x177007, x177008, x177009, x177010 => (ref15_in.f x177009 (wrap64 (x177004 + 1)) (wrap64 (x177004 + 65536))).bind fun b2_ => (if b2_ = true then (ref15_parts.j1 k x3 x4 (decide (x177009 ≤ 1048576)) x177000 x177001 x177002 x177003 x177004 x177005 x177006 x177007 x177008 x177009 x177010) else (ref15_parts.j1 k x3 x4 false x177000 x177001 x177002 x177003 x177004 x177005 x177006 x177007 x177008 x177009 x177010))
def ref15_parts.j1 : Nat → Bool → Bool → Bool → Int → Int → Int → Int → Int → Int → Int → Int → Int → Int → Int → Option (Bool)
 | 0, _, _, _, _, _, _, _, _, _, _, _, _, _, _ => none
 | k + 1, x3, x4, x5, x177000, x177001, x177002, x177003, x177004, x177005, x177006, x177007, x177008, x177009, x177010 => if x177007 = 0 then (ref15_parts.j2 k x3 x4 x5 (x177008 == 0) x177000 x177001 x177002 x177003 x177004 x177005 x177006 x177007 x177008 x177009 x177010) else (ref15_parts.j2 k x3 x4 x5 false x177000 x177001 x177002 x177003 x177004 x177005 x177006 x177007 x177008 x177009 x177010)
def ref15_parts.j2 : Nat → Bool → Bool → Bool → Bool → Int → Int → Int → Int → Int → Int → Int → Int → Int → Int → Int → Option (Bool)
 | 0, _, _, _, _, _, _, _, _, _, _, _, _, _, _, _ => none
 | k + 1, x3, x4, x5, x6, x177000, x177001, x177002, x177003, x177004, x177005, x177006, x177007, x177008, x177009, x177010 => if x177005 = 1 then (if x3 = true then (if x4 = true then (some x5) else (some false)) else (some false)) else (if x177005 = 2 then (if x3 = true then (if x6 = true then (some x5) else (some false)) else (some false)) else (if x177005 = 3 then (ref15_parts.j3 k x3 x4 x6 x177005 (x177005 == 3) x177000 x177001 x177002 x177003 x177004 x177005 x177006 x177007 x177008 x177009 x177010) else (ref15_parts.j3 k x3 x4 x6 x177005 (x177005 == 5) x177000 x177001 x177002 x177003 x177004 x177005 x177006 x177007 x177008 x177009 x177010)))
def ref15_parts.j3 : Nat → Bool → Bool → Bool → Int → Bool → Int → Int → Int → Int → Int → Int → Int → Int → Int → Int → Int → Option (Bool)
 | 0, _, _, _, _, _, _, _, _, _, _, _, _, _, _, _, _ => none
 | k + 1, x3, x4, x6, x41, x60, x177000, x177001, x177002, x177003, x177004, x177005, x177006, x177007, x177008, x177009, x177010 => if x60 = true then (if x3 = true then (if x6 = true then (some (x177009 == 0)) else (some false)) else (some false)) else (if x41 = 4 then (if x3 = true then (if x4 = true then (some (x177009 == 0)) else (some false)) else (some false)) else (if x41 = 6 then ((ref15_in.f x177006 0 2147483646).bind fun b3_ => (if b3_ = true then ((ref15_in.f x177007 0 2147483646).bind fun b4_ => (if b4_ = true then ((ref15_in.f x177008 0 256).bind fun b5_ => (if b5_ = true then (some (x177009 == 0)) else (some false))) else (some false))) else (some false))) else (if x41 = 7 then ((ref15_in.f x177006 0 2147483646).bind fun b6_ => (if b6_ = true then (if x4 = true then ((ref15_lock.f x177009).bind fun b7_ => (some b7_)) else (some false)) else (some false))) else (if x41 = 8 then ((ref15_in.f x177006 0 2147483646).bind fun b8_ => (if b8_ = true then ((ref15_in.f x177007 0 4294967293).bind fun b9_ => (if b9_ = true then (if x177008 = 0 then (some (x177009 == 0)) else (some false)) else (some false))) else (some false))) else (some false)))))
end
def ref15_parts.f (k : Nat) (a0_0 : Int) (a0_1 : Int) (a0_2 : Int) (a0_3 : Int) (a0_4 : Int) (a0_5 : Int) (a0_6 : Int) (a0_7 : Int) (a0_8 : Int) (a0_9 : Int) (a0_10 : Int) : Option (Bool) := (ref15_in.f a0_6 0 63).bind fun a1_ => ((ref15_in.f a0_7 0 2147483646).bind fun b0_ => (if b0_ = true then ((ref15_in.f a0_8 1 1024).bind fun a8_ => (ref15_parts.j0 k a1_ a8_ a0_0 a0_1 a0_2 a0_3 a0_4 a0_5 a0_6 a0_7 a0_8 a0_9 a0_10)) else (ref15_parts.j0 k a1_ false a0_0 a0_1 a0_2 a0_3 a0_4 a0_5 a0_6 a0_7 a0_8 a0_9 a0_10)))
theorem ref15_parts.mono_l : ∀ k, (∀ y0 y1 y2 y3 y4 y5 y6 y7 y8 y9 y10 y11 y12, LeO (ref15_parts.j0 k y0 y1 y2 y3 y4 y5 y6 y7 y8 y9 y10 y11 y12) (ref15_parts.j0 (k + 1) y0 y1 y2 y3 y4 y5 y6 y7 y8 y9 y10 y11 y12)) ∧ (∀ y0 y1 y2 y3 y4 y5 y6 y7 y8 y9 y10 y11 y12 y13, LeO (ref15_parts.j1 k y0 y1 y2 y3 y4 y5 y6 y7 y8 y9 y10 y11 y12 y13) (ref15_parts.j1 (k + 1) y0 y1 y2 y3 y4 y5 y6 y7 y8 y9 y10 y11 y12 y13)) ∧ (∀ y0 y1 y2 y3 y4 y5 y6 y7 y8 y9 y10 y11 y12 y13 y14, LeO (ref15_parts.j2 k y0 y1 y2 y3 y4 y5 y6 y7 y8 y9 y10 y11 y12 y13 y14) (ref15_parts.j2 (k + 1) y0 y1 y2 y3 y4 y5 y6 y7 y8 y9 y10 y11 y12 y13 y14)) ∧ (∀ y0 y1 y2 y3 y4 y5 y6 y7 y8 y9 y10 y11 y12 y13 y14 y15, LeO (ref15_parts.j3 k y0 y1 y2 y3 y4 y5 y6 y7 y8 y9 y10 y11 y12 y13 y14 y15) (ref15_parts.j3 (k + 1) y0 y1 y2 y3 y4 y5 y6 y7 y8 y9 y10 y11 y12 y13 y14 y15))
 | 0 => ⟨fun _ _ _ _ _ _ _ _ _ _ _ _ _ r h => by simp [ref15_parts.j0] at h, fun _ _ _ _ _ _ _ _ _ _ _ _ _ _ r h => by simp [ref15_parts.j1] at h, fun _ _ _ _ _ _ _ _ _ _ _ _ _ _ _ r h => by simp [ref15_parts.j2] at h, fun _ _ _ _ _ _ _ _ _ _ _ _ _ _ _ _ r h => by simp [ref15_parts.j3] at h⟩
 | k + 1 => by
  obtain ⟨ih0, ih1, ih2, ih3⟩ := ref15_parts.mono_l k; refine ⟨?_, ?_, ?_, ?_⟩
  all_goals (intros; (first | unfold ref15_parts.j0 | unfold ref15_parts.j1 | unfold ref15_parts.j2 | unfold ref15_parts.j3); (repeat' first | (with_reducible first | exact LeO.refl _ | exact LeO.none _ | apply ih0 | apply ih1 | apply ih2 | apply ih3 | apply LeO.ite | refine LeO.bind ?_ (fun _ => ?_)) | apply ih0 | apply ih1 | apply ih2 | apply ih3 | exact LeO.none _ | apply LeO.ite | refine LeO.bind ?_ (fun _ => ?_)))
theorem ref15_parts.mono : ∀ a0 a1 a2 a3 a4 a5 a6 a7 a8 a9 a10 k, LeO (ref15_parts.f k a0 a1 a2 a3 a4 a5 a6 a7 a8 a9 a10) (ref15_parts.f (k + 1) a0 a1 a2 a3 a4 a5 a6 a7 a8 a9 a10) := by
 intro a0 a1 a2 a3 a4 a5 a6 a7 a8 a9 a10 k; obtain ⟨ih0, ih1, ih2, ih3⟩ := ref15_parts.mono_l k; unfold ref15_parts.f
 repeat' first | (with_reducible first | exact LeO.refl _ | exact LeO.none _ | apply ih0 | apply ih1 | apply ih2 | apply ih3 | apply LeO.ite | refine LeO.bind ?_ (fun _ => ?_)) | apply ih0 | apply ih1 | apply ih2 | apply ih3 | exact LeO.none _ | apply LeO.ite | refine LeO.bind ?_ (fun _ => ?_)
set_option maxHeartbeats 8000000 in
set_option maxRecDepth 100000 in
theorem ref15_parts.calls (k : Nat) (a0_0 : Int) (a0_1 : Int) (a0_2 : Int) (a0_3 : Int) (a0_4 : Int) (a0_5 : Int) (a0_6 : Int) (a0_7 : Int) (a0_8 : Int) (a0_9 : Int) (a0_10 : Int) (r : Bool) (w : World) (h : ref15_parts.f k a0_0 a0_1 a0_2 a0_3 a0_4 a0_5 a0_6 a0_7 a0_8 a0_9 a0_10 = some r) :
 Calls Tryd.prog 62 #[.agg #[.int .i64 a0_0, .int .i64 a0_1, .int .i64 a0_2, .int .i64 a0_3, .int .i64 a0_4, .int .i64 a0_5, .int .i64 a0_6, .int .i64 a0_7, .int .i64 a0_8, .int .i64 a0_9, .int .i64 a0_10]] w fun e w' => e = .returned (.bool r) ∧ Below w.heap.size w w' := by
 have hu51 := Tryd.underlying51; have HB := As (Below.refl w.heap.size w); have H : ((ref15_in.f a0_6 0 63).bind fun a1_ => ((ref15_in.f a0_7 0 2147483646).bind fun b0_ => (if b0_ = true then ((ref15_in.f a0_8 1 1024).bind fun a8_ => (ref15_parts.j0 k a1_ a8_ a0_0 a0_1 a0_2 a0_3 a0_4 a0_5 a0_6 a0_7 a0_8 a0_9 a0_10)) else (ref15_parts.j0 k a1_ false a0_0 a0_1 a0_2 a0_3 a0_4 a0_5 a0_6 a0_7 a0_8 a0_9 a0_10)))) = some r := h; clear h; obtain ⟨a1_, A2, H⟩ := bnd H; (try dsimp only at H); have HC3 := As H; clear H; go_enter Tryd.func62, Tryd.ntmps62
 go_upto_region 2 with (first | ((with_reducible refine gate_dst (N := 1) rfl ?_); refine bxE 1 #[a0_0, a0_1, a0_2, a0_3, a0_4, a0_5, a0_6, a0_7, a0_8, a0_9, a0_10] 51 ?_; intro a6_ hg w4 hbox hb; have a0_ := As (hbox); have c5_ := As (by rw [hg]; exact (below_size hBq) : w.heap.size ≤ a6_); replace HB := sBq hb; have d6_ := c5_; clear hb hbox hg; have hq0_ := cf11 a0_.out) | ((with_reducible refine gate_callee (f := 43) rfl ?_); refine gL (some 9) Tryd.func43 #[a0_6, .int .i64 0, .int .i64 63] ?_; (with_reducible refine (ref15_in.calls a0_6 0 63 a1_ _ A2.out).mono ?_); rintro e w' ⟨rfl, ⟨nd, rfl⟩⟩; refine ⟨_, rfl, ?_⟩))
 (try simp only [Act.put, List.setIfInBounds_toArray, List.set_cons_zero, List.set_cons_succ]); go_cut [4] (fun v4 wc => ∃ (kq : Nat) (a2_ : Bool), v4 = .bool a2_ ∧ Aside0 (ref15_parts.j0 kq a1_ a2_ a0_0 a0_1 a0_2 a0_3 a0_4 a0_5 a0_6 a0_7 a0_8 a0_9 a0_10 = some r) ∧ Aside0 (kq ≤ k) ∧ Aside0 (wc.heap[a6_]? = some (.cells #[a0_0, a0_1, a0_2, a0_3, a0_4, a0_5, a0_6, a0_7, a0_8, a0_9, a0_10] 51 (0, 0))) ∧ Aside0 (Below w.heap.size w wc))
 case first =>
  have H := HC3.out; clear HC3; obtain ⟨b0_, A6, H⟩ := bnd H; (try dsimp only at H)
  by_cases c7 : b0_ = true
  ·subst c7
   rw [if_pos rfl] at H; obtain ⟨a8_, A8, H⟩ := bnd H; (try dsimp only at H); have H' := As H; clear H; have hq1_ := cf11 a0_.out; go_wp2_with (first | ((with_reducible refine gate_callee (f := 43) rfl ?_); refine gL (some 12) Tryd.func43 #[a0_7, .int .i64 0, .int .i64 2147483646] ?_; (with_reducible refine (ref15_in.calls a0_7 0 2147483646 true _ A6.out).mono ?_); rintro e w' ⟨rfl, ⟨nd, rfl⟩⟩; refine ⟨_, rfl, ?_⟩) | (go_at_call 43; (with_reducible refine (ref15_in.calls a0_8 1 1024 a8_ _ A8.out).mono ?_); rintro e w' ⟨rfl, ⟨nd, rfl⟩⟩)); go_meet
   case rel => exact ⟨_, (a8_), (by first | rfl | (simp; done) | (simp [*]; done)), H', ⟨by first | omega | exact Nat.le_refl _⟩, ⟨by refine plT ?_; exact a0_.out⟩, ⟨hBq⟩⟩
  ·replace c7 := Bool.eq_false_iff.mpr c7
   subst c7; rw [if_neg nft] at H; have H' := As H; clear H; have hq2_ := cf11 a0_.out; go_wp2_with (first | ((with_reducible refine gate_callee (f := 43) rfl ?_); refine gL (some 12) Tryd.func43 #[a0_7, .int .i64 0, .int .i64 2147483646] ?_; (with_reducible refine (ref15_in.calls a0_7 0 2147483646 false _ A6.out).mono ?_); rintro e w' ⟨rfl, ⟨nd, rfl⟩⟩; refine ⟨_, rfl, ?_⟩)); go_meet
   case rel => exact ⟨_, (false), (by first | rfl | (simp; done) | (simp [*]; done)), H', ⟨by first | omega | exact Nat.le_refl _⟩, ⟨by refine plT ?_; exact a0_.out⟩, ⟨hBq⟩⟩
 case rest =>
  clear HC3; (try clear p2); (try clear c4); (try clear c6); (try clear c7); (try clear hq2_); (try clear hq0_); (try clear hq1_); (try clear hq2_); (try clear hq0_); (try clear hq1_); obtain ⟨kq, a2_, rfl, HA, HJ2, a0_, HB⟩ := hcut
  cases kq with
  | zero => exact absurd HA.out (by simp [ref15_parts.j0])
  | succ kj2 =>
   have H := HA.out; clear HA; simp only [ref15_parts.j0] at H; have HC11 := As H; clear H; go_upto_region 3 with (fail); go_cut [5] (fun v5 wc => ∃ (kq : Nat) (a9_ : Bool), v5 = .bool a9_ ∧ Aside0 (ref15_parts.j1 kq a1_ a2_ a9_ a0_0 a0_1 a0_2 a0_3 a0_4 a0_5 a0_6 a0_7 a0_8 a0_9 a0_10 = some r) ∧ Aside0 (kq ≤ kj2) ∧ Aside0 (wc.heap[a6_]? = some (.cells #[a0_0, a0_1, a0_2, a0_3, a0_4, a0_5, a0_6, a0_7, a0_8, a0_9, a0_10] 51 (0, 0))) ∧ Aside0 (Below w.heap.size w wc))
   case first =>
    have H := HC11.out; clear HC11; obtain ⟨b2_, A12, H⟩ := bnd H; (try dsimp only at H)
    by_cases c13 : b2_ = true
    ·subst c13
     rw [if_pos rfl] at H; have H' := As H; clear H; have hq3_ := cf11 a0_.out; go_wp2_with (first | ((with_reducible refine gate_callee (f := 43) rfl ?_); refine gL (some 26) Tryd.func43 #[a0_9, (wrap64 (a0_4 + 1)), (wrap64 (a0_4 + 65536))] ?_; (with_reducible refine (ref15_in.calls a0_9 (wrap64 (a0_4 + 1)) (wrap64 (a0_4 + 65536)) true _ A12.out).mono ?_); rintro e w' ⟨rfl, ⟨nd, rfl⟩⟩; refine ⟨_, rfl, ?_⟩)); go_meet
     case rel => exact ⟨_, (decide (a0_9 ≤ 1048576)), (by first | rfl | (simp; done) | (simp [*]; done)), H', ⟨by have := HJ2.out; first | omega | exact Nat.le_refl _⟩, ⟨by refine plT ?_; exact a0_.out⟩, ⟨hBq⟩⟩
    ·replace c13 := Bool.eq_false_iff.mpr c13
     subst c13; rw [if_neg nft] at H; have H' := As H; clear H; have hq4_ := cf11 a0_.out; go_wp2_with (first | ((with_reducible refine gate_callee (f := 43) rfl ?_); refine gL (some 26) Tryd.func43 #[a0_9, (wrap64 (a0_4 + 1)), (wrap64 (a0_4 + 65536))] ?_; (with_reducible refine (ref15_in.calls a0_9 (wrap64 (a0_4 + 1)) (wrap64 (a0_4 + 65536)) false _ A12.out).mono ?_); rintro e w' ⟨rfl, ⟨nd, rfl⟩⟩; refine ⟨_, rfl, ?_⟩)); go_meet
     case rel => exact ⟨_, (false), (by first | rfl | (simp; done) | (simp [*]; done)), H', ⟨by have := HJ2.out; first | omega | exact Nat.le_refl _⟩, ⟨by refine plT ?_; exact a0_.out⟩, ⟨hBq⟩⟩
   case rest =>
    clear HC11; (try clear c1); (try clear p2); (try clear c4); (try clear c6); (try clear p6); (try clear c7); (try clear c13); (try clear hq2_); (try clear hq3_); (try clear hq4_); (try clear hq0_); (try clear hq1_); (try clear hq2_)
    (try clear hq3_); (try clear hq4_); (try clear hq0_); (try clear hq1_); (try clear p2); obtain ⟨kq, a9_, rfl, HA, HJ10, a0_, HB⟩ := hcut
    cases kq with
    | zero => exact absurd HA.out (by simp [ref15_parts.j1])
    | succ kj10 =>
     have H := HA.out; clear HA; simp only [ref15_parts.j1] at H; have HC16 := As H; clear H; go_upto_region 4 with (fail); go_cut [6] (fun v6 wc => ∃ (kq : Nat) (a4_ : Bool), v6 = .bool a4_ ∧ Aside0 (ref15_parts.j2 kq a1_ a2_ a9_ a4_ a0_0 a0_1 a0_2 a0_3 a0_4 a0_5 a0_6 a0_7 a0_8 a0_9 a0_10 = some r) ∧ Aside0 (kq ≤ kj10) ∧ Aside0 (wc.heap[a6_]? = some (.cells #[a0_0, a0_1, a0_2, a0_3, a0_4, a0_5, a0_6, a0_7, a0_8, a0_9, a0_10] 51 (0, 0))) ∧ Aside0 (Below w.heap.size w wc))
     case first =>
      have H := HC16.out; clear HC16
      by_cases c17 : a0_7 = 0
      ·rw [if_pos c17] at H
       have a3_ : (a0_7 == 0) = true := beq_iff_eq.mpr c17; have b1_ : (a0_7 != 0) = false := bne_eq_false_iff_eq.mpr c17; clear c17; (first | rw [a3_] | (simp only [i64_w, i32_w]; rw [a3_]) | skip); have H' := As H; clear H; have hq5_ := cf11 a0_.out; go_wp2; go_meet
       case rel => exact ⟨_, ((a0_8 == 0)), (by first | rfl | (simp; done) | (simp [*]; done)), H', ⟨by have := HJ2.out; have := HJ10.out; first | omega | exact Nat.le_refl _⟩, ⟨by refine plT ?_; exact a0_.out⟩, ⟨hBq⟩⟩
      ·rw [if_neg c17] at H
       have a3_ : (a0_7 == 0) = false := beq_eq_false_iff_ne.mpr c17; have b1_ : (a0_7 != 0) = true := bne_iff_ne.mpr c17; (first | rw [a3_] | (simp only [i64_w, i32_w]; rw [a3_]) | skip); have H' := As H; clear H; have hq6_ := cf11 a0_.out; go_wp2; go_meet
       case rel => exact ⟨_, (false), (by first | rfl | (simp; done) | (simp [*]; done)), H', ⟨by have := HJ2.out; have := HJ10.out; first | omega | exact Nat.le_refl _⟩, ⟨by refine plT ?_; exact a0_.out⟩, ⟨hBq⟩⟩
     case rest =>
      clear HC16; (try clear c1); (try clear p2); (try clear c4); (try clear c6); (try clear p6); (try clear c7); (try clear c13); (try clear c17); (try clear a3_); (try clear b1_); (try clear hq2_); (try clear hq3_); (try clear hq4_); (try clear hq5_); (try clear hq6_); (try clear hq0_)
      (try clear hq0_); (try clear hq1_); (try clear hq2_); (try clear hq3_); (try clear hq4_); (try clear hq5_); (try clear hq6_); (try clear hq0_)
      (try clear hq0_); (try clear hq1_); (try clear p2); (try clear p6); obtain ⟨kq, a4_, rfl, HA, HJ15, a0_, HB⟩ := hcut
      cases kq with
      | zero => exact absurd HA.out (by simp [ref15_parts.j2])
      | succ kj15 =>
       have H := HA.out; clear HA; simp only [ref15_parts.j2] at H
       by_cases c20 : a0_5 = 1
       ·rw [if_pos c20] at H
        have c0_ : (a0_5 == 1) = true := beq_iff_eq.mpr c20; have c1_ : (a0_5 != 1) = false := bne_eq_false_iff_eq.mpr c20; clear c20
        by_cases c21 : a1_ = true
        ·subst c21
         rw [if_pos rfl] at H
         by_cases c22 : a2_ = true
         ·subst c22
          rw [if_pos rfl] at H; obtain rfl := Option.some.inj H; have hq7_ := cf11 a0_.out; go_wp2; go_ret; exact ⟨erq, hBq⟩
         ·replace c22 := Bool.eq_false_iff.mpr c22
          subst c22; rw [if_neg nft] at H; obtain rfl := Option.some.inj H; have hq8_ := cf11 a0_.out; go_wp2; go_ret; exact ⟨erq, hBq⟩
        ·replace c21 := Bool.eq_false_iff.mpr c21
         subst c21; rw [if_neg nft] at H; obtain rfl := Option.some.inj H; have hq9_ := cf11 a0_.out; go_wp2; go_ret; exact ⟨erq, hBq⟩
       ·rw [if_neg c20] at H
        have c0_ : (a0_5 == 1) = false := beq_eq_false_iff_ne.mpr c20; have c1_ : (a0_5 != 1) = true := bne_iff_ne.mpr c20
        by_cases c26 : a0_5 = 2
        ·rw [if_pos c26] at H
         have c2_ : (a0_5 == 2) = true := beq_iff_eq.mpr c26; have c3_ : (a0_5 != 2) = false := bne_eq_false_iff_eq.mpr c26; clear c26
         by_cases c27 : a1_ = true
         ·subst c27
          rw [if_pos rfl] at H
          by_cases c28 : a4_ = true
          ·subst c28
           rw [if_pos rfl] at H; obtain rfl := Option.some.inj H; have hq10_ := cf11 a0_.out; go_wp2; go_ret; exact ⟨erq, hBq⟩
          ·replace c28 := Bool.eq_false_iff.mpr c28
           subst c28; rw [if_neg nft] at H; obtain rfl := Option.some.inj H; have hq11_ := cf11 a0_.out; go_wp2; go_ret; exact ⟨erq, hBq⟩
         ·replace c27 := Bool.eq_false_iff.mpr c27
          subst c27; rw [if_neg nft] at H; obtain rfl := Option.some.inj H; have hq12_ := cf11 a0_.out; go_wp2; go_ret; exact ⟨erq, hBq⟩
        ·rw [if_neg c26] at H
         have c2_ : (a0_5 == 2) = false := beq_eq_false_iff_ne.mpr c26; have c3_ : (a0_5 != 2) = true := bne_iff_ne.mpr c26; have HC32 := As H; clear H; have hq13_ := cf11 a0_.out; go_upto_if 60 with (fail); go_cut [60] (fun v60 wc => ∃ (kq : Nat) (a7_ : Bool), v60 = .bool a7_ ∧ Aside0 (ref15_parts.j3 kq a1_ a2_ a4_ a0_5 a7_ a0_0 a0_1 a0_2 a0_3 a0_4 a0_5 a0_6 a0_7 a0_8 a0_9 a0_10 = some r) ∧ Aside0 (kq ≤ kj15) ∧ Aside0 (wc.heap[a6_]? = some (.cells #[a0_0, a0_1, a0_2, a0_3, a0_4, a0_5, a0_6, a0_7, a0_8, a0_9, a0_10] 51 (0, 0))) ∧ Aside0 (Below w.heap.size w wc))
         case first =>
          have H := HC32.out; clear HC32
          by_cases c34 : a0_5 = 3
          ·rw [if_pos c34] at H
           have a5_ : (a0_5 == 3) = true := beq_iff_eq.mpr c34; have c4_ : (a0_5 != 3) = false := bne_eq_false_iff_eq.mpr c34; clear c34; (first | rw [a5_] | (simp only [i64_w, i32_w]; rw [a5_]) | skip); have H' := As H; clear H; go_wp2; go_meet
           case rel => exact ⟨_, ((a0_5 == 3)), (by first | rfl | (simp; done) | (simp [*]; done)), H', ⟨by have := HJ2.out; have := HJ10.out; have := HJ15.out; first | omega | exact Nat.le_refl _⟩, ⟨by refine plT ?_; exact a0_.out⟩, ⟨hBq⟩⟩
          ·rw [if_neg c34] at H
           have a5_ : (a0_5 == 3) = false := beq_eq_false_iff_ne.mpr c34; have c4_ : (a0_5 != 3) = true := bne_iff_ne.mpr c34; (first | rw [a5_] | (simp only [i64_w, i32_w]; rw [a5_]) | skip); have H' := As H; clear H; go_wp2; go_meet
           case rel => exact ⟨_, ((a0_5 == 5)), (by first | rfl | (simp; done) | (simp [*]; done)), H', ⟨by have := HJ2.out; have := HJ10.out; have := HJ15.out; first | omega | exact Nat.le_refl _⟩, ⟨by refine plT ?_; exact a0_.out⟩, ⟨hBq⟩⟩
         case rest =>
          clear HC32; (try clear c1); (try clear c2); (try clear p2); (try clear c3); (try clear c4); (try clear c6); (try clear p6); (try clear c7); (try clear c13); (try clear c17); (try clear a3_); (try clear b1_); (try clear c20); (try clear c0_); (try clear c1_); (try clear c21); (try clear c22); (try clear c26); (try clear c2_); (try clear c3_); (try clear c27); (try clear c28); (try clear c34); (try clear a5_); (try clear c4_); (try clear hq2_); (try clear hq3_); (try clear hq4_); (try clear hq5_); (try clear hq6_)
          (try clear hq6_); (try clear hq7_); (try clear hq8_); (try clear hq9_); (try clear hq10_); (try clear hq11_); (try clear hq12_)
          (try clear hq12_); (try clear hq13_); (try clear hq0_); (try clear hq1_); (try clear hq2_); (try clear hq3_); (try clear hq4_); (try clear hq5_)
          (try clear hq5_); (try clear hq6_); (try clear hq7_); (try clear hq8_); (try clear hq9_); (try clear hq10_); (try clear hq11_)
          (try clear hq11_); (try clear hq12_); (try clear hq13_); (try clear hq0_); (try clear hq1_); (try clear p2); (try clear p6); obtain ⟨kq, a7_, rfl, HA, HJ31, a0_, HB⟩ := hcut
          cases kq with
          | zero => exact absurd HA.out (by simp [ref15_parts.j3])
          | succ kj31 =>
           have H := HA.out; clear HA; simp only [ref15_parts.j3] at H
           by_cases c35 : a7_ = true
           ·subst c35
            rw [if_pos rfl] at H
            by_cases c36 : a1_ = true
            ·subst c36
             rw [if_pos rfl] at H
             by_cases c37 : a4_ = true
             ·subst c37
              rw [if_pos rfl] at H; obtain rfl := Option.some.inj H; have := cf11 a0_.out; go_wp2; go_ret; exact ⟨erq, hBq⟩
             ·replace c37 := Bool.eq_false_iff.mpr c37
              subst c37; rw [if_neg nft] at H; obtain rfl := Option.some.inj H; go_wp2; go_ret; exact ⟨erq, hBq⟩
            ·replace c36 := Bool.eq_false_iff.mpr c36
             subst c36; rw [if_neg nft] at H; obtain rfl := Option.some.inj H; go_wp2; go_ret; exact ⟨erq, hBq⟩
           ·replace c35 := Bool.eq_false_iff.mpr c35
            subst c35; rw [if_neg nft] at H
            by_cases c39 : a0_5 = 4
            ·rw [if_pos c39] at H
             have c6_ : (a0_5 == 4) = true := beq_iff_eq.mpr c39; have c7_ : (a0_5 != 4) = false := bne_eq_false_iff_eq.mpr c39; clear c39
             by_cases c40 : a1_ = true
             ·subst c40
              rw [if_pos rfl] at H
              by_cases c41 : a2_ = true
              ·subst c41
               rw [if_pos rfl] at H; obtain rfl := Option.some.inj H; have := cf11 a0_.out; go_wp2; go_ret; exact ⟨erq, hBq⟩
              ·replace c41 := Bool.eq_false_iff.mpr c41
               subst c41; rw [if_neg nft] at H; obtain rfl := Option.some.inj H; go_wp2; go_ret; exact ⟨erq, hBq⟩
             ·replace c40 := Bool.eq_false_iff.mpr c40
              subst c40; rw [if_neg nft] at H; obtain rfl := Option.some.inj H; go_wp2; go_ret; exact ⟨erq, hBq⟩
            ·rw [if_neg c39] at H
             have c6_ : (a0_5 == 4) = false := beq_eq_false_iff_ne.mpr c39; have c7_ : (a0_5 != 4) = true := bne_iff_ne.mpr c39
             by_cases c43 : a0_5 = 6
             ·rw [if_pos c43] at H
              have c8_ : (a0_5 == 6) = true := beq_iff_eq.mpr c43; have c9_ : (a0_5 != 6) = false := bne_eq_false_iff_eq.mpr c43; clear c43; obtain ⟨b3_, A44, H⟩ := bnd H; (try dsimp only at H)
              by_cases c45 : b3_ = true
              ·subst c45
               rw [if_pos rfl] at H; obtain ⟨b4_, A46, H⟩ := bnd H; (try dsimp only at H)
               by_cases c47 : b4_ = true
               ·subst c47
                rw [if_pos rfl] at H; obtain ⟨b5_, A48, H⟩ := bnd H; (try dsimp only at H)
                by_cases c49 : b5_ = true
                ·subst c49
                 rw [if_pos rfl] at H; obtain rfl := Option.some.inj H; have := cf11 a0_.out; go_wp2_with (first | ((with_reducible refine gate_callee (f := 43) rfl ?_); refine gL (some 87) Tryd.func43 #[a0_6, .int .i64 0, .int .i64 2147483646] ?_; (with_reducible refine (ref15_in.calls a0_6 0 2147483646 true _ A44.out).mono ?_); rintro e w' ⟨rfl, ⟨nd, rfl⟩⟩; refine ⟨_, rfl, ?_⟩) | (go_at_call 43; (with_reducible refine (ref15_in.calls a0_7 0 2147483646 true _ A46.out).mono ?_); rintro e w' ⟨rfl, ⟨nd, rfl⟩⟩) | (go_at_call 43; (with_reducible refine (ref15_in.calls a0_8 0 256 true _ A48.out).mono ?_); rintro e w' ⟨rfl, ⟨nd, rfl⟩⟩)); go_ret; exact ⟨erq, hBq⟩
                ·replace c49 := Bool.eq_false_iff.mpr c49
                 subst c49; rw [if_neg nft] at H; obtain rfl := Option.some.inj H; have := cf11 a0_.out; go_wp2_with (first | ((with_reducible refine gate_callee (f := 43) rfl ?_); refine gL (some 87) Tryd.func43 #[a0_6, .int .i64 0, .int .i64 2147483646] ?_; (with_reducible refine (ref15_in.calls a0_6 0 2147483646 true _ A44.out).mono ?_); rintro e w' ⟨rfl, ⟨nd, rfl⟩⟩; refine ⟨_, rfl, ?_⟩) | (go_at_call 43; (with_reducible refine (ref15_in.calls a0_7 0 2147483646 true _ A46.out).mono ?_); rintro e w' ⟨rfl, ⟨nd, rfl⟩⟩) | (go_at_call 43; (with_reducible refine (ref15_in.calls a0_8 0 256 false _ A48.out).mono ?_); rintro e w' ⟨rfl, ⟨nd, rfl⟩⟩)); go_ret; exact ⟨erq, hBq⟩
               ·replace c47 := Bool.eq_false_iff.mpr c47
                subst c47; rw [if_neg nft] at H; obtain rfl := Option.some.inj H; have := cf11 a0_.out; go_wp2_with (first | ((with_reducible refine gate_callee (f := 43) rfl ?_); refine gL (some 87) Tryd.func43 #[a0_6, .int .i64 0, .int .i64 2147483646] ?_; (with_reducible refine (ref15_in.calls a0_6 0 2147483646 true _ A44.out).mono ?_); rintro e w' ⟨rfl, ⟨nd, rfl⟩⟩; refine ⟨_, rfl, ?_⟩) | (go_at_call 43; (with_reducible refine (ref15_in.calls a0_7 0 2147483646 false _ A46.out).mono ?_); rintro e w' ⟨rfl, ⟨nd, rfl⟩⟩)); go_ret; exact ⟨erq, hBq⟩
              ·replace c45 := Bool.eq_false_iff.mpr c45
               subst c45; rw [if_neg nft] at H; obtain rfl := Option.some.inj H; have := cf11 a0_.out; go_wp2_with (first | ((with_reducible refine gate_callee (f := 43) rfl ?_); refine gL (some 87) Tryd.func43 #[a0_6, .int .i64 0, .int .i64 2147483646] ?_; (with_reducible refine (ref15_in.calls a0_6 0 2147483646 false _ A44.out).mono ?_); rintro e w' ⟨rfl, ⟨nd, rfl⟩⟩; refine ⟨_, rfl, ?_⟩)); go_ret; exact ⟨erq, hBq⟩
             ·rw [if_neg c43] at H
              have c8_ : (a0_5 == 6) = false := beq_eq_false_iff_ne.mpr c43; have c9_ : (a0_5 != 6) = true := bne_iff_ne.mpr c43
              by_cases c54 : a0_5 = 7
              ·rw [if_pos c54] at H
               have d0_ : (a0_5 == 7) = true := beq_iff_eq.mpr c54; have d1_ : (a0_5 != 7) = false := bne_eq_false_iff_eq.mpr c54; clear c54; obtain ⟨b6_, A55, H⟩ := bnd H; (try dsimp only at H)
               by_cases c56 : b6_ = true
               ·subst c56
                rw [if_pos rfl] at H
                by_cases c57 : a2_ = true
                ·subst c57
                 rw [if_pos rfl] at H; obtain ⟨b7_, A58, H⟩ := bnd H; (try dsimp only at H); obtain rfl := Option.some.inj H; have := cf11 a0_.out; go_wp2_with (first | ((with_reducible refine gate_callee (f := 43) rfl ?_); refine gL (some 107) Tryd.func43 #[a0_6, .int .i64 0, .int .i64 2147483646] ?_; (with_reducible refine (ref15_in.calls a0_6 0 2147483646 true _ A55.out).mono ?_); rintro e w' ⟨rfl, ⟨nd, rfl⟩⟩; refine ⟨_, rfl, ?_⟩) | (go_at_call 69; (with_reducible refine (ref15_lock.calls a0_9 b7_ _ A58.out).mono ?_); rintro e w' ⟨rfl, ⟨nd, rfl⟩⟩)); go_ret; exact ⟨erq, hBq⟩
                ·replace c57 := Bool.eq_false_iff.mpr c57
                 subst c57; rw [if_neg nft] at H; obtain rfl := Option.some.inj H; have := cf11 a0_.out; go_wp2_with (first | ((with_reducible refine gate_callee (f := 43) rfl ?_); refine gL (some 107) Tryd.func43 #[a0_6, .int .i64 0, .int .i64 2147483646] ?_; (with_reducible refine (ref15_in.calls a0_6 0 2147483646 true _ A55.out).mono ?_); rintro e w' ⟨rfl, ⟨nd, rfl⟩⟩; refine ⟨_, rfl, ?_⟩)); go_ret; exact ⟨erq, hBq⟩
               ·replace c56 := Bool.eq_false_iff.mpr c56
                subst c56; rw [if_neg nft] at H; obtain rfl := Option.some.inj H; have := cf11 a0_.out; go_wp2_with (first | ((with_reducible refine gate_callee (f := 43) rfl ?_); refine gL (some 107) Tryd.func43 #[a0_6, .int .i64 0, .int .i64 2147483646] ?_; (with_reducible refine (ref15_in.calls a0_6 0 2147483646 false _ A55.out).mono ?_); rintro e w' ⟨rfl, ⟨nd, rfl⟩⟩; refine ⟨_, rfl, ?_⟩)); go_ret; exact ⟨erq, hBq⟩
              ·rw [if_neg c54] at H
               have d0_ : (a0_5 == 7) = false := beq_eq_false_iff_ne.mpr c54; have d1_ : (a0_5 != 7) = true := bne_iff_ne.mpr c54
               by_cases c62 : a0_5 = 8
               ·rw [if_pos c62] at H
                have d2_ : (a0_5 == 8) = true := beq_iff_eq.mpr c62; have d3_ : (a0_5 != 8) = false := bne_eq_false_iff_eq.mpr c62; clear c62; obtain ⟨b8_, A63, H⟩ := bnd H; (try dsimp only at H)
                by_cases c64 : b8_ = true
                ·subst c64
                 rw [if_pos rfl] at H; obtain ⟨b9_, A65, H⟩ := bnd H; (try dsimp only at H)
                 by_cases c66 : b9_ = true
                 ·subst c66
                  rw [if_pos rfl] at H
                  by_cases c67 : a0_8 = 0
                  ·rw [if_pos c67] at H
                   have d4_ : (a0_8 == 0) = true := beq_iff_eq.mpr c67; have d5_ : (a0_8 != 0) = false := bne_eq_false_iff_eq.mpr c67; clear c67; obtain rfl := Option.some.inj H; have := cf11 a0_.out; go_wp2_with (first | ((with_reducible refine gate_callee (f := 43) rfl ?_); refine gL (some 120) Tryd.func43 #[a0_6, .int .i64 0, .int .i64 2147483646] ?_; (with_reducible refine (ref15_in.calls a0_6 0 2147483646 true _ A63.out).mono ?_); rintro e w' ⟨rfl, ⟨nd, rfl⟩⟩; refine ⟨_, rfl, ?_⟩) | (go_at_call 43; (with_reducible refine (ref15_in.calls a0_7 0 4294967293 true _ A65.out).mono ?_); rintro e w' ⟨rfl, ⟨nd, rfl⟩⟩)); go_ret; exact ⟨erq, hBq⟩
                  ·rw [if_neg c67] at H
                   have d4_ : (a0_8 == 0) = false := beq_eq_false_iff_ne.mpr c67; have d5_ : (a0_8 != 0) = true := bne_iff_ne.mpr c67; obtain rfl := Option.some.inj H; have := cf11 a0_.out; go_wp2_with (first | ((with_reducible refine gate_callee (f := 43) rfl ?_); refine gL (some 120) Tryd.func43 #[a0_6, .int .i64 0, .int .i64 2147483646] ?_; (with_reducible refine (ref15_in.calls a0_6 0 2147483646 true _ A63.out).mono ?_); rintro e w' ⟨rfl, ⟨nd, rfl⟩⟩; refine ⟨_, rfl, ?_⟩) | (go_at_call 43; (with_reducible refine (ref15_in.calls a0_7 0 4294967293 true _ A65.out).mono ?_); rintro e w' ⟨rfl, ⟨nd, rfl⟩⟩)); go_ret; exact ⟨erq, hBq⟩
                 ·replace c66 := Bool.eq_false_iff.mpr c66
                  subst c66; rw [if_neg nft] at H; obtain rfl := Option.some.inj H; have := cf11 a0_.out; go_wp2_with (first | ((with_reducible refine gate_callee (f := 43) rfl ?_); refine gL (some 120) Tryd.func43 #[a0_6, .int .i64 0, .int .i64 2147483646] ?_; (with_reducible refine (ref15_in.calls a0_6 0 2147483646 true _ A63.out).mono ?_); rintro e w' ⟨rfl, ⟨nd, rfl⟩⟩; refine ⟨_, rfl, ?_⟩) | (go_at_call 43; (with_reducible refine (ref15_in.calls a0_7 0 4294967293 false _ A65.out).mono ?_); rintro e w' ⟨rfl, ⟨nd, rfl⟩⟩)); go_ret; exact ⟨erq, hBq⟩
                ·replace c64 := Bool.eq_false_iff.mpr c64
                 subst c64; rw [if_neg nft] at H; obtain rfl := Option.some.inj H; have := cf11 a0_.out; go_wp2_with (first | ((with_reducible refine gate_callee (f := 43) rfl ?_); refine gL (some 120) Tryd.func43 #[a0_6, .int .i64 0, .int .i64 2147483646] ?_; (with_reducible refine (ref15_in.calls a0_6 0 2147483646 false _ A63.out).mono ?_); rintro e w' ⟨rfl, ⟨nd, rfl⟩⟩; refine ⟨_, rfl, ?_⟩)); go_ret; exact ⟨erq, hBq⟩
               ·rw [if_neg c62] at H
                have d2_ : (a0_5 == 8) = false := beq_eq_false_iff_ne.mpr c62; have d3_ : (a0_5 != 8) = true := bne_iff_ne.mpr c62; obtain rfl := Option.some.inj H; go_wp2; go_ret; exact ⟨erq, hBq⟩
def ref15_Valid.f (k : Nat) (a0_0 : Int) (a0_1 : Int) (a0_2 : Int) (a0_3 : Int) (a0_4 : Int) (a0_5 : Int) (a0_6 : Int) (a0_7 : Int) (a0_8 : Int) (a0_9 : Int) (a0_10 : Int) : Option (Bool) := (ref15_in.f a0_0 1 2147483646).bind fun a4_ => (if a4_ = true then ((ref15_in.f a0_1 1 2147483646).bind fun a5_ => (if a5_ = true then (if a0_0 = a0_1 then (some false) else ((ref15_in.f a0_2 1 256).bind fun a6_ => (if a6_ = true then ((ref15_in.f a0_3 0 2147483646).bind fun a7_ => (if a7_ = true then (if a0_2 > 1 then ((ref15_in.f a0_4 0 1048576).bind fun a8_ => (if a8_ = true then ((ref15_in.f a0_10 0 2147483646).bind fun a9_ => (if a9_ = true then ((ref15_parts.f k a0_0 a0_1 a0_2 a0_3 a0_4 a0_5 a0_6 a0_7 a0_8 a0_9 a0_10).bind fun b0_ => (some b0_)) else (some false))) else (some false))) else (if a0_3 = 0 then ((ref15_in.f a0_4 0 1048576).bind fun b1_ => (if b1_ = true then ((ref15_in.f a0_10 0 2147483646).bind fun b2_ => (if b2_ = true then ((ref15_parts.f k a0_0 a0_1 a0_2 a0_3 a0_4 a0_5 a0_6 a0_7 a0_8 a0_9 a0_10).bind fun b3_ => (some b3_)) else (some false))) else (some false))) else (some false))) else (some false))) else (some false)))) else (some false))) else (some false))
theorem ref15_Valid.mono : ∀ a0 a1 a2 a3 a4 a5 a6 a7 a8 a9 a10 k, LeO (ref15_Valid.f k a0 a1 a2 a3 a4 a5 a6 a7 a8 a9 a10) (ref15_Valid.f (k + 1) a0 a1 a2 a3 a4 a5 a6 a7 a8 a9 a10) := by
 intro a0 a1 a2 a3 a4 a5 a6 a7 a8 a9 a10 k; unfold ref15_Valid.f
 repeat' first | (with_reducible first | exact LeO.refl _ | exact LeO.none _ | apply ref15_parts.mono | apply LeO.ite | refine LeO.bind ?_ (fun _ => ?_)) | apply ref15_parts.mono | exact LeO.none _ | apply LeO.ite | refine LeO.bind ?_ (fun _ => ?_)
set_option maxHeartbeats 8000000 in
set_option maxRecDepth 100000 in
theorem ref15_Valid.calls (k : Nat) (a0_0 : Int) (a0_1 : Int) (a0_2 : Int) (a0_3 : Int) (a0_4 : Int) (a0_5 : Int) (a0_6 : Int) (a0_7 : Int) (a0_8 : Int) (a0_9 : Int) (a0_10 : Int) (r : Bool) (w : World) (h : ref15_Valid.f k a0_0 a0_1 a0_2 a0_3 a0_4 a0_5 a0_6 a0_7 a0_8 a0_9 a0_10 = some r) :
 Calls Tryd.prog 47 #[.agg #[.int .i64 a0_0, .int .i64 a0_1, .int .i64 a0_2, .int .i64 a0_3, .int .i64 a0_4, .int .i64 a0_5, .int .i64 a0_6, .int .i64 a0_7, .int .i64 a0_8, .int .i64 a0_9, .int .i64 a0_10]] w fun e w' => e = .returned (.bool r) ∧ Below w.heap.size w w' := by
 have hu51 := Tryd.underlying51; have HB := As (Below.refl w.heap.size w); have H : ((ref15_in.f a0_0 1 2147483646).bind fun a4_ => (if a4_ = true then ((ref15_in.f a0_1 1 2147483646).bind fun a5_ => (if a5_ = true then (if a0_0 = a0_1 then (some false) else ((ref15_in.f a0_2 1 256).bind fun a6_ => (if a6_ = true then ((ref15_in.f a0_3 0 2147483646).bind fun a7_ => (if a7_ = true then (if a0_2 > 1 then ((ref15_in.f a0_4 0 1048576).bind fun a8_ => (if a8_ = true then ((ref15_in.f a0_10 0 2147483646).bind fun a9_ => (if a9_ = true then ((ref15_parts.f k a0_0 a0_1 a0_2 a0_3 a0_4 a0_5 a0_6 a0_7 a0_8 a0_9 a0_10).bind fun b0_ => (some b0_)) else (some false))) else (some false))) else (if a0_3 = 0 then ((ref15_in.f a0_4 0 1048576).bind fun b1_ => (if b1_ = true then ((ref15_in.f a0_10 0 2147483646).bind fun b2_ => (if b2_ = true then ((ref15_parts.f k a0_0 a0_1 a0_2 a0_3 a0_4 a0_5 a0_6 a0_7 a0_8 a0_9 a0_10).bind fun b3_ => (some b3_)) else (some false))) else (some false))) else (some false))) else (some false))) else (some false)))) else (some false))) else (some false))) = some r := h; clear h; replace H := Option.bind_eq_some_iff.mp H; obtain ⟨a4_, A20, H⟩ := H
 (try dsimp only at H); have A2 := As A20; clear A20
 by_cases c3 : a4_ = true
 ·subst c3
  rw [if_pos rfl] at H; replace H := Option.bind_eq_some_iff.mp H; obtain ⟨a5_, A40, H⟩ := H
  (try dsimp only at H); have A4 := As A40; clear A40
  by_cases c5 : a5_ = true
  ·subst c5
   rw [if_pos rfl] at H
   by_cases c6 : a0_0 = a0_1
   ·rw [if_pos c6] at H
    have b8_ : (a0_0 == a0_1) = true := beq_iff_eq.mpr c6; have b9_ : (a0_0 != a0_1) = false := bne_eq_false_iff_eq.mpr c6; clear c6; obtain rfl := Option.some.inj H; go_enter Tryd.func47, Tryd.ntmps47
    go_wp2_with (first | ((with_reducible refine gate_dst (N := 1) rfl ?_); refine bxE 1 #[a0_0, a0_1, a0_2, a0_3, a0_4, a0_5, a0_6, a0_7, a0_8, a0_9, a0_10] 51 ?_; intro a1_ hg w7 hbox hb; have a0_ := As (hbox); have a2_ := As (by rw [hg]; exact (below_size hBq) : w.heap.size ≤ a1_); replace HB := sBq hb; have a3_ := a2_; clear hb hbox hg; have := cf11 a0_.out) | ((with_reducible refine gate_callee (f := 43) rfl ?_); refine gL (some 5) Tryd.func43 #[a0_0, .int .i64 1, .int .i64 2147483646] ?_; (with_reducible refine (ref15_in.calls a0_0 1 2147483646 true _ A2.out).mono ?_); rintro e w' ⟨rfl, ⟨nd, rfl⟩⟩; refine ⟨_, rfl, ?_⟩) | (go_at_call 43; (with_reducible refine (ref15_in.calls a0_1 1 2147483646 true _ A4.out).mono ?_); rintro e w' ⟨rfl, ⟨nd, rfl⟩⟩))
    go_ret; exact ⟨erq, hBq⟩
   ·rw [if_neg c6] at H
    have b8_ : (a0_0 == a0_1) = false := beq_eq_false_iff_ne.mpr c6; have b9_ : (a0_0 != a0_1) = true := bne_iff_ne.mpr c6; obtain ⟨a6_, A9, H⟩ := bnd H; (try dsimp only at H)
    by_cases c10 : a6_ = true
    ·subst c10
     rw [if_pos rfl] at H; replace H := Option.bind_eq_some_iff.mp H; obtain ⟨a7_, b4_, H⟩ := H
     (try dsimp only at H); have A11 := As b4_; clear b4_
     by_cases c12 : a7_ = true
     ·subst c12
      rw [if_pos rfl] at H
      by_cases c13 : a0_2 > 1
      ·rw [if_pos c13] at H
       have b5_ : decide (1 < a0_2) = true := decide_eq_true c13; clear c13; obtain ⟨a8_, A14, H⟩ := bnd H; (try dsimp only at H)
       by_cases c15 : a8_ = true
       ·subst c15
        rw [if_pos rfl] at H; obtain ⟨a9_, A16, H⟩ := bnd H; (try dsimp only at H)
        by_cases c17 : a9_ = true
        ·subst c17
         rw [if_pos rfl] at H; obtain ⟨b0_, A18, H⟩ := bnd H; (try dsimp only at H); obtain rfl := Option.some.inj H; go_enter Tryd.func47, Tryd.ntmps47
         go_wp2_with (first | ((with_reducible refine gate_dst (N := 1) rfl ?_); refine bxE 1 #[a0_0, a0_1, a0_2, a0_3, a0_4, a0_5, a0_6, a0_7, a0_8, a0_9, a0_10] 51 ?_; intro a1_ hg w19 hbox hb; have a0_ := As (hbox); have a2_ := As (by rw [hg]; exact (below_size hBq) : w.heap.size ≤ a1_); replace HB := sBq hb; have a3_ := a2_; clear hb hbox hg; have := cf11 a0_.out) | ((with_reducible refine gate_callee (f := 43) rfl ?_); refine gL (some 5) Tryd.func43 #[a0_0, .int .i64 1, .int .i64 2147483646] ?_; (with_reducible refine (ref15_in.calls a0_0 1 2147483646 true _ A2.out).mono ?_); rintro e w' ⟨rfl, ⟨nd, rfl⟩⟩; refine ⟨_, rfl, ?_⟩) | (go_at_call 43; (with_reducible refine (ref15_in.calls a0_1 1 2147483646 true _ A4.out).mono ?_); rintro e w' ⟨rfl, ⟨nd, rfl⟩⟩) | (go_at_call 43; (with_reducible refine (ref15_in.calls a0_2 1 256 true _ A9.out).mono ?_); rintro e w' ⟨rfl, ⟨nd, rfl⟩⟩) | (go_at_call 43; (with_reducible refine (ref15_in.calls a0_3 0 2147483646 true _ A11.out).mono ?_); rintro e w' ⟨rfl, ⟨nd, rfl⟩⟩) | (go_at_call 43; (with_reducible refine (ref15_in.calls a0_4 0 1048576 true _ A14.out).mono ?_); rintro e w' ⟨rfl, ⟨nd, rfl⟩⟩) | (go_at_call 43; (with_reducible refine (ref15_in.calls a0_10 0 2147483646 true _ A16.out).mono ?_); rintro e w' ⟨rfl, ⟨nd, rfl⟩⟩) | (go_at_call 62; (with_reducible refine (ref15_parts.calls k a0_0 a0_1 a0_2 a0_3 a0_4 a0_5 a0_6 a0_7 a0_8 a0_9 a0_10 b0_ _ A18.out).mono ?_); rintro e w21 ⟨rfl, hb⟩; replace a0_ := As (blk_below (plq a0_.out) hb); replace HB := sBq hb; (try clear hb)))
         go_ret; exact ⟨erq, hBq⟩
        ·replace c17 := Bool.eq_false_iff.mpr c17
         subst c17; rw [if_neg nft] at H; obtain rfl := Option.some.inj H; go_enter Tryd.func47, Tryd.ntmps47
         go_wp2_with (first | ((with_reducible refine gate_dst (N := 1) rfl ?_); refine bxE 1 #[a0_0, a0_1, a0_2, a0_3, a0_4, a0_5, a0_6, a0_7, a0_8, a0_9, a0_10] 51 ?_; intro a1_ hg w22 hbox hb; have a0_ := As (hbox); have a2_ := As (by rw [hg]; exact (below_size hBq) : w.heap.size ≤ a1_); replace HB := sBq hb; have a3_ := a2_; clear hb hbox hg; have := cf11 a0_.out) | ((with_reducible refine gate_callee (f := 43) rfl ?_); refine gL (some 5) Tryd.func43 #[a0_0, .int .i64 1, .int .i64 2147483646] ?_; (with_reducible refine (ref15_in.calls a0_0 1 2147483646 true _ A2.out).mono ?_); rintro e w' ⟨rfl, ⟨nd, rfl⟩⟩; refine ⟨_, rfl, ?_⟩) | (go_at_call 43; (with_reducible refine (ref15_in.calls a0_1 1 2147483646 true _ A4.out).mono ?_); rintro e w' ⟨rfl, ⟨nd, rfl⟩⟩) | (go_at_call 43; (with_reducible refine (ref15_in.calls a0_2 1 256 true _ A9.out).mono ?_); rintro e w' ⟨rfl, ⟨nd, rfl⟩⟩) | (go_at_call 43; (with_reducible refine (ref15_in.calls a0_3 0 2147483646 true _ A11.out).mono ?_); rintro e w' ⟨rfl, ⟨nd, rfl⟩⟩) | (go_at_call 43; (with_reducible refine (ref15_in.calls a0_4 0 1048576 true _ A14.out).mono ?_); rintro e w' ⟨rfl, ⟨nd, rfl⟩⟩) | (go_at_call 43; (with_reducible refine (ref15_in.calls a0_10 0 2147483646 false _ A16.out).mono ?_); rintro e w' ⟨rfl, ⟨nd, rfl⟩⟩))
         go_ret; exact ⟨erq, hBq⟩
       ·replace c15 := Bool.eq_false_iff.mpr c15
        subst c15; rw [if_neg nft] at H; obtain rfl := Option.some.inj H; go_enter Tryd.func47, Tryd.ntmps47
        go_wp2_with (first | ((with_reducible refine gate_dst (N := 1) rfl ?_); refine bxE 1 #[a0_0, a0_1, a0_2, a0_3, a0_4, a0_5, a0_6, a0_7, a0_8, a0_9, a0_10] 51 ?_; intro a1_ hg w24 hbox hb; have a0_ := As (hbox); have a2_ := As (by rw [hg]; exact (below_size hBq) : w.heap.size ≤ a1_); replace HB := sBq hb; have a3_ := a2_; clear hb hbox hg; have := cf11 a0_.out) | ((with_reducible refine gate_callee (f := 43) rfl ?_); refine gL (some 5) Tryd.func43 #[a0_0, .int .i64 1, .int .i64 2147483646] ?_; (with_reducible refine (ref15_in.calls a0_0 1 2147483646 true _ A2.out).mono ?_); rintro e w' ⟨rfl, ⟨nd, rfl⟩⟩; refine ⟨_, rfl, ?_⟩) | (go_at_call 43; (with_reducible refine (ref15_in.calls a0_1 1 2147483646 true _ A4.out).mono ?_); rintro e w' ⟨rfl, ⟨nd, rfl⟩⟩) | (go_at_call 43; (with_reducible refine (ref15_in.calls a0_2 1 256 true _ A9.out).mono ?_); rintro e w' ⟨rfl, ⟨nd, rfl⟩⟩) | (go_at_call 43; (with_reducible refine (ref15_in.calls a0_3 0 2147483646 true _ A11.out).mono ?_); rintro e w' ⟨rfl, ⟨nd, rfl⟩⟩) | (go_at_call 43; (with_reducible refine (ref15_in.calls a0_4 0 1048576 false _ A14.out).mono ?_); rintro e w' ⟨rfl, ⟨nd, rfl⟩⟩))
        go_ret; exact ⟨erq, hBq⟩
      ·rw [if_neg c13] at H
       have b5_ : decide (1 < a0_2) = false := decide_eq_false c13; clear c13
       by_cases c26 : a0_3 = 0
       ·rw [if_pos c26] at H
        have b6_ : (a0_3 == 0) = true := beq_iff_eq.mpr c26; have b7_ : (a0_3 != 0) = false := bne_eq_false_iff_eq.mpr c26; clear c26; obtain ⟨b1_, A27, H⟩ := bnd H; (try dsimp only at H)
        by_cases c28 : b1_ = true
        ·subst c28
         rw [if_pos rfl] at H; obtain ⟨b2_, A29, H⟩ := bnd H; (try dsimp only at H)
         by_cases c30 : b2_ = true
         ·subst c30
          rw [if_pos rfl] at H; obtain ⟨b3_, A31, H⟩ := bnd H; (try dsimp only at H); obtain rfl := Option.some.inj H; go_enter Tryd.func47, Tryd.ntmps47
          go_wp2_with (first | ((with_reducible refine gate_dst (N := 1) rfl ?_); refine bxE 1 #[a0_0, a0_1, a0_2, a0_3, a0_4, a0_5, a0_6, a0_7, a0_8, a0_9, a0_10] 51 ?_; intro a1_ hg w32 hbox hb; have a0_ := As (hbox); have a2_ := As (by rw [hg]; exact (below_size hBq) : w.heap.size ≤ a1_); replace HB := sBq hb; have a3_ := a2_; clear hb hbox hg; have := cf11 a0_.out) | ((with_reducible refine gate_callee (f := 43) rfl ?_); refine gL (some 5) Tryd.func43 #[a0_0, .int .i64 1, .int .i64 2147483646] ?_; (with_reducible refine (ref15_in.calls a0_0 1 2147483646 true _ A2.out).mono ?_); rintro e w' ⟨rfl, ⟨nd, rfl⟩⟩; refine ⟨_, rfl, ?_⟩) | (go_at_call 43; (with_reducible refine (ref15_in.calls a0_1 1 2147483646 true _ A4.out).mono ?_); rintro e w' ⟨rfl, ⟨nd, rfl⟩⟩) | (go_at_call 43; (with_reducible refine (ref15_in.calls a0_2 1 256 true _ A9.out).mono ?_); rintro e w' ⟨rfl, ⟨nd, rfl⟩⟩) | (go_at_call 43; (with_reducible refine (ref15_in.calls a0_3 0 2147483646 true _ A11.out).mono ?_); rintro e w' ⟨rfl, ⟨nd, rfl⟩⟩) | (go_at_call 43; (with_reducible refine (ref15_in.calls a0_4 0 1048576 true _ A27.out).mono ?_); rintro e w' ⟨rfl, ⟨nd, rfl⟩⟩) | (go_at_call 43; (with_reducible refine (ref15_in.calls a0_10 0 2147483646 true _ A29.out).mono ?_); rintro e w' ⟨rfl, ⟨nd, rfl⟩⟩) | (go_at_call 62; (with_reducible refine (ref15_parts.calls k a0_0 a0_1 a0_2 a0_3 a0_4 a0_5 a0_6 a0_7 a0_8 a0_9 a0_10 b3_ _ A31.out).mono ?_); rintro e w34 ⟨rfl, hb⟩; replace a0_ := As (blk_below (plq a0_.out) hb); replace HB := sBq hb; (try clear hb)))
          go_ret; exact ⟨erq, hBq⟩
         ·replace c30 := Bool.eq_false_iff.mpr c30
          subst c30; rw [if_neg nft] at H; obtain rfl := Option.some.inj H; go_enter Tryd.func47, Tryd.ntmps47
          go_wp2_with (first | ((with_reducible refine gate_dst (N := 1) rfl ?_); refine bxE 1 #[a0_0, a0_1, a0_2, a0_3, a0_4, a0_5, a0_6, a0_7, a0_8, a0_9, a0_10] 51 ?_; intro a1_ hg w35 hbox hb; have a0_ := As (hbox); have a2_ := As (by rw [hg]; exact (below_size hBq) : w.heap.size ≤ a1_); replace HB := sBq hb; have a3_ := a2_; clear hb hbox hg; have := cf11 a0_.out) | ((with_reducible refine gate_callee (f := 43) rfl ?_); refine gL (some 5) Tryd.func43 #[a0_0, .int .i64 1, .int .i64 2147483646] ?_; (with_reducible refine (ref15_in.calls a0_0 1 2147483646 true _ A2.out).mono ?_); rintro e w' ⟨rfl, ⟨nd, rfl⟩⟩; refine ⟨_, rfl, ?_⟩) | (go_at_call 43; (with_reducible refine (ref15_in.calls a0_1 1 2147483646 true _ A4.out).mono ?_); rintro e w' ⟨rfl, ⟨nd, rfl⟩⟩) | (go_at_call 43; (with_reducible refine (ref15_in.calls a0_2 1 256 true _ A9.out).mono ?_); rintro e w' ⟨rfl, ⟨nd, rfl⟩⟩) | (go_at_call 43; (with_reducible refine (ref15_in.calls a0_3 0 2147483646 true _ A11.out).mono ?_); rintro e w' ⟨rfl, ⟨nd, rfl⟩⟩) | (go_at_call 43; (with_reducible refine (ref15_in.calls a0_4 0 1048576 true _ A27.out).mono ?_); rintro e w' ⟨rfl, ⟨nd, rfl⟩⟩) | (go_at_call 43; (with_reducible refine (ref15_in.calls a0_10 0 2147483646 false _ A29.out).mono ?_); rintro e w' ⟨rfl, ⟨nd, rfl⟩⟩))
          go_ret; exact ⟨erq, hBq⟩
        ·replace c28 := Bool.eq_false_iff.mpr c28
         subst c28; rw [if_neg nft] at H; obtain rfl := Option.some.inj H; go_enter Tryd.func47, Tryd.ntmps47
         go_wp2_with (first | ((with_reducible refine gate_dst (N := 1) rfl ?_); refine bxE 1 #[a0_0, a0_1, a0_2, a0_3, a0_4, a0_5, a0_6, a0_7, a0_8, a0_9, a0_10] 51 ?_; intro a1_ hg w37 hbox hb; have a0_ := As (hbox); have a2_ := As (by rw [hg]; exact (below_size hBq) : w.heap.size ≤ a1_); replace HB := sBq hb; have a3_ := a2_; clear hb hbox hg; have := cf11 a0_.out) | ((with_reducible refine gate_callee (f := 43) rfl ?_); refine gL (some 5) Tryd.func43 #[a0_0, .int .i64 1, .int .i64 2147483646] ?_; (with_reducible refine (ref15_in.calls a0_0 1 2147483646 true _ A2.out).mono ?_); rintro e w' ⟨rfl, ⟨nd, rfl⟩⟩; refine ⟨_, rfl, ?_⟩) | (go_at_call 43; (with_reducible refine (ref15_in.calls a0_1 1 2147483646 true _ A4.out).mono ?_); rintro e w' ⟨rfl, ⟨nd, rfl⟩⟩) | (go_at_call 43; (with_reducible refine (ref15_in.calls a0_2 1 256 true _ A9.out).mono ?_); rintro e w' ⟨rfl, ⟨nd, rfl⟩⟩) | (go_at_call 43; (with_reducible refine (ref15_in.calls a0_3 0 2147483646 true _ A11.out).mono ?_); rintro e w' ⟨rfl, ⟨nd, rfl⟩⟩) | (go_at_call 43; (with_reducible refine (ref15_in.calls a0_4 0 1048576 false _ A27.out).mono ?_); rintro e w' ⟨rfl, ⟨nd, rfl⟩⟩))
         go_ret; exact ⟨erq, hBq⟩
       ·rw [if_neg c26] at H
        have b6_ : (a0_3 == 0) = false := beq_eq_false_iff_ne.mpr c26; have b7_ : (a0_3 != 0) = true := bne_iff_ne.mpr c26; obtain rfl := Option.some.inj H; go_enter Tryd.func47, Tryd.ntmps47
        go_wp2_with (first | ((with_reducible refine gate_dst (N := 1) rfl ?_); refine bxE 1 #[a0_0, a0_1, a0_2, a0_3, a0_4, a0_5, a0_6, a0_7, a0_8, a0_9, a0_10] 51 ?_; intro a1_ hg w39 hbox hb; have a0_ := As (hbox); have a2_ := As (by rw [hg]; exact (below_size hBq) : w.heap.size ≤ a1_); replace HB := sBq hb; have a3_ := a2_; clear hb hbox hg; have := cf11 a0_.out) | ((with_reducible refine gate_callee (f := 43) rfl ?_); refine gL (some 5) Tryd.func43 #[a0_0, .int .i64 1, .int .i64 2147483646] ?_; (with_reducible refine (ref15_in.calls a0_0 1 2147483646 true _ A2.out).mono ?_); rintro e w' ⟨rfl, ⟨nd, rfl⟩⟩; refine ⟨_, rfl, ?_⟩) | (go_at_call 43; (with_reducible refine (ref15_in.calls a0_1 1 2147483646 true _ A4.out).mono ?_); rintro e w' ⟨rfl, ⟨nd, rfl⟩⟩) | (go_at_call 43; (with_reducible refine (ref15_in.calls a0_2 1 256 true _ A9.out).mono ?_); rintro e w' ⟨rfl, ⟨nd, rfl⟩⟩) | (go_at_call 43; (with_reducible refine (ref15_in.calls a0_3 0 2147483646 true _ A11.out).mono ?_); rintro e w' ⟨rfl, ⟨nd, rfl⟩⟩))
        go_ret; exact ⟨erq, hBq⟩
     ·replace c12 := Bool.eq_false_iff.mpr c12
      subst c12; rw [if_neg nft] at H; obtain rfl := Option.some.inj H; go_enter Tryd.func47, Tryd.ntmps47
      go_wp2_with (first | ((with_reducible refine gate_dst (N := 1) rfl ?_); refine bxE 1 #[a0_0, a0_1, a0_2, a0_3, a0_4, a0_5, a0_6, a0_7, a0_8, a0_9, a0_10] 51 ?_; intro a1_ hg w41 hbox hb; have a0_ := As (hbox); have a2_ := As (by rw [hg]; exact (below_size hBq) : w.heap.size ≤ a1_); replace HB := sBq hb; have a3_ := a2_; clear hb hbox hg; have := cf11 a0_.out) | ((with_reducible refine gate_callee (f := 43) rfl ?_); refine gL (some 5) Tryd.func43 #[a0_0, .int .i64 1, .int .i64 2147483646] ?_; (with_reducible refine (ref15_in.calls a0_0 1 2147483646 true _ A2.out).mono ?_); rintro e w' ⟨rfl, ⟨nd, rfl⟩⟩; refine ⟨_, rfl, ?_⟩) | (go_at_call 43; (with_reducible refine (ref15_in.calls a0_1 1 2147483646 true _ A4.out).mono ?_); rintro e w' ⟨rfl, ⟨nd, rfl⟩⟩) | (go_at_call 43; (with_reducible refine (ref15_in.calls a0_2 1 256 true _ A9.out).mono ?_); rintro e w' ⟨rfl, ⟨nd, rfl⟩⟩) | (go_at_call 43; (with_reducible refine (ref15_in.calls a0_3 0 2147483646 false _ A11.out).mono ?_); rintro e w' ⟨rfl, ⟨nd, rfl⟩⟩))
      go_ret; exact ⟨erq, hBq⟩
    ·replace c10 := Bool.eq_false_iff.mpr c10
     subst c10; rw [if_neg nft] at H; obtain rfl := Option.some.inj H; go_enter Tryd.func47, Tryd.ntmps47
     go_wp2_with (first | ((with_reducible refine gate_dst (N := 1) rfl ?_); refine bxE 1 #[a0_0, a0_1, a0_2, a0_3, a0_4, a0_5, a0_6, a0_7, a0_8, a0_9, a0_10] 51 ?_; intro a1_ hg w43 hbox hb; have a0_ := As (hbox); have a2_ := As (by rw [hg]; exact (below_size hBq) : w.heap.size ≤ a1_); replace HB := sBq hb; have a3_ := a2_; clear hb hbox hg; have := cf11 a0_.out) | ((with_reducible refine gate_callee (f := 43) rfl ?_); refine gL (some 5) Tryd.func43 #[a0_0, .int .i64 1, .int .i64 2147483646] ?_; (with_reducible refine (ref15_in.calls a0_0 1 2147483646 true _ A2.out).mono ?_); rintro e w' ⟨rfl, ⟨nd, rfl⟩⟩; refine ⟨_, rfl, ?_⟩) | (go_at_call 43; (with_reducible refine (ref15_in.calls a0_1 1 2147483646 true _ A4.out).mono ?_); rintro e w' ⟨rfl, ⟨nd, rfl⟩⟩) | (go_at_call 43; (with_reducible refine (ref15_in.calls a0_2 1 256 false _ A9.out).mono ?_); rintro e w' ⟨rfl, ⟨nd, rfl⟩⟩))
     go_ret; exact ⟨erq, hBq⟩
  ·replace c5 := Bool.eq_false_iff.mpr c5
   subst c5; rw [if_neg nft] at H; obtain rfl := Option.some.inj H; go_enter Tryd.func47, Tryd.ntmps47
   go_wp2_with (first | ((with_reducible refine gate_dst (N := 1) rfl ?_); refine bxE 1 #[a0_0, a0_1, a0_2, a0_3, a0_4, a0_5, a0_6, a0_7, a0_8, a0_9, a0_10] 51 ?_; intro a1_ hg w45 hbox hb; have a0_ := As (hbox); have a2_ := As (by rw [hg]; exact (below_size hBq) : w.heap.size ≤ a1_); replace HB := sBq hb; have a3_ := a2_; clear hb hbox hg; have := cf11 a0_.out) | ((with_reducible refine gate_callee (f := 43) rfl ?_); refine gL (some 5) Tryd.func43 #[a0_0, .int .i64 1, .int .i64 2147483646] ?_; (with_reducible refine (ref15_in.calls a0_0 1 2147483646 true _ A2.out).mono ?_); rintro e w' ⟨rfl, ⟨nd, rfl⟩⟩; refine ⟨_, rfl, ?_⟩) | (go_at_call 43; (with_reducible refine (ref15_in.calls a0_1 1 2147483646 false _ A4.out).mono ?_); rintro e w' ⟨rfl, ⟨nd, rfl⟩⟩))
   go_ret; exact ⟨erq, hBq⟩
 ·replace c3 := Bool.eq_false_iff.mpr c3
  subst c3; rw [if_neg nft] at H; obtain rfl := Option.some.inj H; go_enter Tryd.func47, Tryd.ntmps47
  go_wp2_with (first | ((with_reducible refine gate_dst (N := 1) rfl ?_); refine bxE 1 #[a0_0, a0_1, a0_2, a0_3, a0_4, a0_5, a0_6, a0_7, a0_8, a0_9, a0_10] 51 ?_; intro a1_ hg w47 hbox hb; have a0_ := As (hbox); have a2_ := As (by rw [hg]; exact (below_size hBq) : w.heap.size ≤ a1_); replace HB := sBq hb; have a3_ := a2_; clear hb hbox hg; have := cf11 a0_.out) | ((with_reducible refine gate_callee (f := 43) rfl ?_); refine gL (some 5) Tryd.func43 #[a0_0, .int .i64 1, .int .i64 2147483646] ?_; (with_reducible refine (ref15_in.calls a0_0 1 2147483646 false _ A2.out).mono ?_); rintro e w' ⟨rfl, ⟨nd, rfl⟩⟩; refine ⟨_, rfl, ?_⟩))
  go_ret; exact ⟨erq, hBq⟩
section
attribute [local go_sem ↓] some_setCell
def wantB (t : Int) (x : S51) : Bool := slotB x && decide (x.f4 ≤ t)
def bucket (l : List S51) (t : Int) (s : Nat) : List S51 := l.filter (fun x => wantB t x && decide (x.f6.toNat = s))
def rowV (V : Nat → Value) : List Value := (List.range 64).map V
def updV (V : Nat → Value) (k : Nat) (v : Value) : Nat → Value := fun s => if s = k then v else V s
theorem rowV_len (V : Nat → Value) : (rowV V).length = 64 := by simp [rowV]
theorem rowV_get (V : Nat → Value) (k : Nat) (h : k < 64) : (rowV V)[k]? = some (V k) := by simp [rowV, h]
theorem rowV_set (V : Nat → Value) (k : Nat) (v : Value) : (rowV V).set k v = rowV (updV V k v) := by
 apply List.ext_getElem?
 intro j
 by_cases hj : j < 64
 ·rw [rowV_get _ _ hj, List.getElem?_set]
  unfold updV
  by_cases e : k = j
  ·subst e
   rw [if_pos rfl, if_pos (by rw [rowV_len]; exact hj), if_pos rfl]
  ·rw [if_neg e, if_neg (fun h => e h.symm), rowV_get _ _ hj]
 ·rw [List.getElem?_eq_none (by rw [List.length_set, rowV_len]; omega), List.getElem?_eq_none (by rw [rowV_len]; omega)]
theorem over_one (L : List Value) (k : Nat) (v : Value) (h : k < L.length) : over L k [v] = L.set k v := by
 unfold over
 rw [List.set_eq_take_append_cons_drop, if_pos h]
 simp
theorem flat51 : Flat k51 (fun (x : S51) => [.int .i64 x.f0, .int .i64 x.f1, .int .i64 x.f2, .int .i64 x.f3, .int .i64 x.f4, .int .i64 x.f5, .int .i64 x.f6, .int .i64 x.f7, .int .i64 x.f8, .int .i64 x.f9, .int .i64 x.f10]) := ⟨fun _ => rfl, fun h => k51_openM h, fun w base ok x => k51_mkM w base ok x, by decide⟩
theorem own_only {W : World} {base : Nat} {ok : Nat → Prop} {v : Value} {xs : List S51} (h : Kd.R k51 51 W base ok v xs) : Kd.R k51 51 W base (fun k => v.ownBlock = some k) v xs := by
 rcases flat51.block h with ⟨rfl, rfl⟩ | ⟨g, cap, cur, rfl, hg, hok, hH, hnc, hcm, hl, htk⟩
 ·exact Kd.R_nil _ _ _ _ _
 ·exact flat51.own rfl hg rfl hH hnc hcm hl htk
structure Bk (W : World) (base : Nat) (V : Nat → Value) (bs : Nat → List S51) : Prop where
 row : ∀ s, s < 64 → Kd.R k51 51 W base (fun k => (V s).ownBlock = some k) (V s) (bs s)
 apart : ∀ s t, s < 64 → t < 64 → s ≠ t → (V s).ownBlock = none ∨ (V s).ownBlock ≠ (V t).ownBlock
theorem Bk.below {W W' : World} {base : Nat} {V : Nat → Value} {bs : Nat → List S51} (h : Bk W base V bs) (hb : Below W.heap.size W W') : Bk W' base V bs := ⟨fun s hs => Kd.R_below (h.row s hs) hb, h.apart⟩
theorem Bk.far {W W' : World} {base g : Nat} {V : Nat → Value} {bs : Nat → List S51} (h : Bk W base V bs) (hg : W.grownBy W' (some g)) (hlt : g < base) : Bk W' base V bs :=
 ⟨fun s hs => Kd.R_grown (h.row s hs) hg (fun k hk e => by
  injection e with e
  have := Kd.R_base (h.row s hs) k hk
  omega), h.apart⟩
theorem Bk.put {W W' : World} {base k : Nat} {V : Nat → Value} {bs : Nat → List S51} {v : Value} {ok : Nat → Prop} {ys : List S51} (hk : k < 64) (h : Bk W base V bs) (hg : W.grownBy W' (V k).ownBlock) (hv : Kd.R k51 51 W' base ok v ys) (hat : v.ownBlock = (V k).ownBlock ∨ ∃ b, v.ownBlock = some b ∧ W.heap.size ≤ b) :
 Bk W' base (updV V k v) (fun s => if s = k then ys else bs s) := by
 have hne : ∀ s, s < 64 → s ≠ k → (V s).ownBlock = none ∨ (V s).ownBlock ≠ v.ownBlock := by
  intro s hs e
  rcases hat with e2 | ⟨b, e2, hb⟩
  ·rw [e2]
   exact h.apart s k hs hk e
  ·cases ho : (V s).ownBlock with
   | none => exact .inl rfl
   | some q =>
    refine .inr (fun e3 => ?_)
    have := Kd.R_lt (h.row s hs) q ho
    rw [e2] at e3
    injection e3 with e3
    omega
 refine ⟨fun s hs => ?_, fun s t hs ht e => ?_⟩
 ·by_cases e : s = k
  ·subst e
   simp only [updV, if_pos rfl]
   exact own_only hv
  ·simp only [updV, if_neg e]
   refine Kd.R_grown (h.row s hs) hg (fun q hq e2 => ?_)
   rcases h.apart s k hs hk e with h1 | h1
   ·rw [h1] at hq; cases hq
   ·exact h1 (hq.trans e2)
 ·unfold updV
  by_cases e1 : s = k
  ·subst e1
   rw [if_pos rfl, if_neg (fun h => e h.symm)]
   rcases hne t ht (fun h => e h.symm) with h1 | h1
   ·cases hv' : v.ownBlock with
    | none => exact .inl rfl
    | some q => exact .inr (fun h2 => by rw [h1] at h2; cases h2)
   ·exact .inr (fun h2 => h1 h2.symm)
  ·rw [if_neg e1]
   by_cases e2 : t = k
   ·subst e2
    rw [if_pos rfl]
    exact hne s hs e1
   ·rw [if_neg e2]
    exact h.apart s t hs ht e
theorem bucket_no {l : List S51} {t : Int} {i : Nat} {x : S51} (hi : i < l.length) (hx : l[i] = x) (hw : wantB t x = false) (s : Nat) : bucket (l.take (i + 1)) t s = bucket (l.take i) t s := by
 unfold bucket
 rw [List.take_succ_eq_append_getElem hi, List.filter_append, hx]
 simp [hw]
theorem bucket_yes {l : List S51} {t : Int} {i : Nat} {x : S51} (hi : i < l.length) (hx : l[i] = x) (hw : wantB t x = true) (s : Nat) : bucket (l.take (i + 1)) t s = if s = x.f6.toNat then bucket (l.take i) t x.f6.toNat ++ [x] else bucket (l.take i) t s := by
 unfold bucket
 rw [List.take_succ_eq_append_getElem hi, List.filter_append, hx]
 by_cases e : s = x.f6.toNat
 ·subst e
  simp [hw]
 ·rw [if_neg e]
  have e2 : decide (x.f6.toNat = s) = false := decide_eq_false (fun h => e h.symm)
  simp only [List.filter_cons, List.filter_nil, hw, e2, Bool.and_false, Bool.false_eq_true, if_false, List.append_nil]
theorem bucket_len (l : List S51) (t : Int) (i s : Nat) : (bucket (l.take i) t s).length ≤ i := by
 unfold bucket
 exact Nat.le_trans (List.length_filter_le _ _) (by rw [List.length_take]; omega)
theorem zero_rows : #[Value.slice none 0 0, Value.slice none 0 0, Value.slice none 0 0, Value.slice none 0 0, Value.slice none 0 0, Value.slice none 0 0, Value.slice none 0 0, Value.slice none 0 0, Value.slice none 0 0, Value.slice none 0 0, Value.slice none 0 0, Value.slice none 0 0, Value.slice none 0 0, Value.slice none 0 0, Value.slice none 0 0, Value.slice none 0 0, Value.slice none 0 0, Value.slice none 0 0, Value.slice none 0 0, Value.slice none 0 0, Value.slice none 0 0, Value.slice none 0 0, Value.slice none 0 0, Value.slice none 0 0, Value.slice none 0 0, Value.slice none 0 0, Value.slice none 0 0, Value.slice none 0 0, Value.slice none 0 0, Value.slice none 0 0, Value.slice none 0 0, Value.slice none 0 0, Value.slice none 0 0, Value.slice none 0 0, Value.slice none 0 0, Value.slice none 0 0, Value.slice none 0 0, Value.slice none 0 0, Value.slice none 0 0, Value.slice none 0 0, Value.slice none 0 0, Value.slice none 0 0, Value.slice none 0 0, Value.slice none 0 0, Value.slice none 0 0, Value.slice none 0 0, Value.slice none 0 0, Value.slice none 0 0, Value.slice none 0 0, Value.slice none 0 0, Value.slice none 0 0, Value.slice none 0 0, Value.slice none 0 0, Value.slice none 0 0, Value.slice none 0 0, Value.slice none 0 0, Value.slice none 0 0, Value.slice none 0 0, Value.slice none 0 0, Value.slice none 0 0, Value.slice none 0 0, Value.slice none 0 0, Value.slice none 0 0, Value.slice none 0 0] = (rowV (fun _ => .slice none 0 0)).toArray := by kernel_rfl
theorem infoS : (Tryd.prog.info? 51).map (fun i => (i.zero, i.size, i.bytes)) = some (some (.agg #[.int .i64 0, .int .i64 0, .int .i64 0, .int .i64 0, .int .i64 0, .int .i64 0, .int .i64 0, .int .i64 0, .int .i64 0, .int .i64 0, .int .i64 0]), 11, 88) := by kernel_rfl
theorem over_all (L M : List Value) (h : M.length = L.length) : over L 0 M = M := by
 unfold over
 rw [List.take_zero, Nat.zero_add, h, List.drop_length, List.nil_append, List.append_nil]
theorem slice_form {W : World} {base : Nat} {ok : Nat → Prop} {v : Value} {xs : List S51} (h : Kd.R k51 51 W base ok v xs) : ∃ A n c, v = .slice A n c := by
 obtain ⟨A, c, e⟩ := Kd.R_slice h
 exact ⟨A, _, c, e⟩
theorem slice_cells {W : World} {base : Nat} {ok : Nat → Prop} {v u : Value} {xs : List S51} (h : Kd.R k51 51 W base ok v xs) (e : v = u) : u.cells.toList = [u] := by
 obtain ⟨A, n, c, rfl⟩ := slice_form h
 subst e
 rfl
theorem slice_one {W : World} {base : Nat} {ok : Nat → Prop} {v u : Value} {xs : List S51} (h : Kd.R k51 51 W base ok v xs) (e : v = u) : ∀ q ∈ [u], q.oneCell' = true := by
 obtain ⟨A, n, c, rfl⟩ := slice_form h
 subst e
 intro q hq
 rw [List.mem_singleton] at hq
 subst hq
 rfl
theorem rowV_one {W : World} {base : Nat} {V : Nat → Value} {bs : Nat → List S51} (h : Bk W base V bs) : ∀ q ∈ rowV V, q.oneCell' = true := by
 intro q hq
 unfold rowV at hq
 obtain ⟨s, hs, rfl⟩ := List.mem_map.mp hq
 obtain ⟨A, n, c, e⟩ := slice_form (h.row s (List.mem_range.mp hs))
 rw [e]
 rfl
theorem below_of2 {w W W1 : World} {b2 : Nat} {r : Option Nat} (h : Below w.heap.size w W) (h2 : Below b2 w W1) (hle : b2 ≤ W.heap.size) (hg : W.drew.grownBy W1 r) (hr : ∀ k, r = some k → w.heap.size ≤ k) : Below w.heap.size w W1 :=
 pw_below_grown (below_drew1 h) _ h.size hg hr
def sorted.T6 : Bool × List (List Nat × List Nat) := (true, [([], []), ([0], [0]), ([], []), ([2], [2]), ([3], [3]), ([4], [4]), ([], []), ([6], [6]), ([5, 7], [5, 7]), ([1, 0, 1, 2, 3, 4, 5, 6, 7, 8], [1]), ([9, 8, 8, 0, 1, 2, 3, 4, 5, 6, 7, 8], [8, 9])])
def sorted.B6 : List Nat := [0, 1, 0, 4, 12, 28, 0, 64, 252, 511, 1023]
theorem sorted.tab6 : rtab .any (opsOf Tryd.f50 6) = sorted.T6 := by kernel_rfl
theorem sorted.bits6 : waitsOk sorted.T6.2 sorted.B6 = true := by kernel_rfl
def SortedPost (l : List S51) (t : Int) (w : World) (e : Ending) (w' : World) : Prop := ∃ V : Nat → Value, e = .returned (.agg (rowV V).toArray) ∧ (∀ s, s < 64 → ∃ A n c, V s = .slice A n c ∧ n = (bucket l t s).length ∧ n ≤ c ∧ Kd.C k51 w' A (bucket l t s).length (bucket l t s)) ∧ Below w.heap.size w w'
set_option maxHeartbeats 16000000 in
set_option maxRecDepth 100000 in
theorem sorted.calls (A0 : Option Addr) (c0 : Nat) (l : List S51) (t : Int) (w : World) (hr0 : Kd.C k51 w A0 l.length l) (hc0 : l.length ≤ c0) (hlim : l.length < 1599289640401) (hS : ∀ x ∈ l, slotB x = true → 0 ≤ x.f6 ∧ x.f6 < 64) :
 Calls Tryd.prog 50 #[.slice A0 l.length c0, .int .i64 t] w (SortedPost l t w) := by
 have hu := Tryd.underlying51
 have HC := As hr0
 have HLM := As hlim
 have HSL := As hS
 clear hr0 hlim hS hc0
 go_enter Tryd.func50, Tryd.ntmps50
 go_wp2_with (fail)
 rw [zero_rows]
 obtain ⟨W0, hW0⟩ : ∃ W0, W0 = (w.alloc (.cells (rowV (fun _ => .slice none 0 0)).toArray 90)).alloc (.cells (rowV (fun _ => .slice none 0 0)).toArray 90) := ⟨_, rfl⟩
 rw [← hW0]
 have HZ0 : Aside0 (BlkIs W0 w.heap.size 90 (rowV (fun _ => .slice none 0 0))) := ⟨by rw [hW0]; exact BlkIs.alloc (heap_alloc_new w _) _⟩
 have HV0 : Aside0 (BlkIs W0 (w.heap.size + 1) 90 (rowV (fun _ => .slice none 0 0))) := ⟨by
  rw [hW0]
  have := heap_alloc_new (w.alloc (.cells (rowV (fun _ => .slice none 0 0)).toArray 90)) (.cells (rowV (fun _ => .slice none 0 0)).toArray 90)
  rwa [World.size_alloc] at this⟩
 have HB0 : Aside0 (Below w.heap.size w W0) := ⟨by rw [hW0]; exact below_alloc (below_alloc (Below.refl _ _) _) _⟩
 have HK0 : Aside0 (Bk W0 (w.heap.size + 2) (fun _ => .slice none 0 0) (fun s => bucket (l.take 0) t s)) := ⟨⟨fun s _ => by
  have : bucket (l.take 0) t s = [] := rfl
  rw [this]
  exact Kd.R_nil _ _ _ _ _, fun s t _ _ _ => .inl rfl⟩⟩
 clear hW0
 go_loopg [10] l.length (fun kq v10 w' => ∃ (i : Nat) (V : Nat → Value), v10 = .int .i64 i ∧ Aside0 (i + kq = l.length) ∧ Aside0 (BlkIs w' w.heap.size 90 (rowV (fun _ => .slice none 0 0))) ∧ Aside0 (BlkIs w' (w.heap.size + 1) 90 (rowV V)) ∧ Aside0 (Bk w' (w.heap.size + 2) V (fun s => bucket (l.take i) t s)) ∧ Aside0 (Below w.heap.size w w'))
 case atStart => exact ⟨0, _, rfl, ⟨by omega⟩, HZ0, HV0, HK0, HB0⟩
 case round =>
  clear HZ0 HV0 HK0 HB0
  obtain ⟨i, V, rfl, HI, HZ, HV, HK, HB⟩ := hrel
  cases gk with
  | zero =>
   have a1_ : decide ((i : Int) < (l.length : Int)) = false := decide_eq_false (by have := HI.out; omega)
   have a2_ : decide (i < l.length) = false := decide_eq_false (by have := HI.out; omega)
   have hil : i = l.length := by have := HI.out; omega
   have HIL := As hil
   clear hil
   go_wp2_with (first | ((with_reducible refine gate_ (.load 90 (.tmp 5)) rfl ?_); refine blk_load rfl 90 (.tmp 5) rfl HV.out rfl _ Tryd.underlying90 rfl (by rw [rowV_len]; kernel_rfl) ?_) | ((with_reducible refine gate_ (.store 90 (.tmp 4) (.tmp 33)) rfl ?_); refine blk_store rfl rfl 90 (.tmp 4) (.tmp 33) rfl HZ.out 0 (.agg (rowV V).toArray) (rowV V) (rowV V) ⟨_, rfl, rfl⟩ rfl rfl (by rw [rowV_len]; kernel_rfl) (by rw [rowV_len, rowV_len]; omega) ?h1 ?hE ?_; (case h1 => exact rowV_one HK.out); (case hE => exact over_all _ _ (by rw [rowV_len, rowV_len])); intro w1 HZ1 HG1))
   refine bodyPost_ret (results_cell rfl _ rfl HZ1.out _ Tryd.underlying90 rfl (by rw [rowV_len]; kernel_rfl)) rfl ?_
   refine ⟨V, rfl, fun s hs => ?_, ?_⟩
   ·have h1 := (HK.out.far HG1.out (by omega)).row s hs
    obtain ⟨A, c, e1, hc1, hC⟩ := Kd.R_reads h1
    have e2 : bucket (l.take i) t s = bucket l t s := by rw [HIL.out, List.take_length]
    rw [← e2]
    exact ⟨A, _, c, e1, rfl, hc1, hC⟩
   ·exact pw_below_grown HB.out _ HB.out.size HG1.out (by intro k hk; injection hk with hk; omega)
  | succ k1 =>
   have hil : i < l.length := by have := HI.out; omega
   have a1_ : decide ((i : Int) < (l.length : Int)) = true := decide_eq_true (by omega)
   have a2_ : decide (i < l.length) = true := decide_eq_true hil
   have a5_ : (i : Int) ≤ 9223372036854775806 := by have := HLM.out; omega
   have p1 : 0 ≤ (i : Int) := by omega
   have q1 : (i : Int) < (l.length : Int) := by omega
   obtain ⟨ad, e1, hx0, hx1, hx2, hx3, hx4, hx5, hx6, hx7, hx8, hx9, a0_⟩ := at_T51 HC.out i p1 q1
   cases e1
   replace hx0 := (HB.out.cell (World.block_lt_of_cell? w _ hx0)).trans hx0
   replace hx1 := (HB.out.cell (World.block_lt_of_cell? w _ hx1)).trans hx1
   replace hx2 := (HB.out.cell (World.block_lt_of_cell? w _ hx2)).trans hx2
   replace hx3 := (HB.out.cell (World.block_lt_of_cell? w _ hx3)).trans hx3
   replace hx4 := (HB.out.cell (World.block_lt_of_cell? w _ hx4)).trans hx4
   replace hx5 := (HB.out.cell (World.block_lt_of_cell? w _ hx5)).trans hx5
   replace hx6 := (HB.out.cell (World.block_lt_of_cell? w _ hx6)).trans hx6
   replace hx7 := (HB.out.cell (World.block_lt_of_cell? w _ hx7)).trans hx7
   replace hx8 := (HB.out.cell (World.block_lt_of_cell? w _ hx8)).trans hx8
   replace hx9 := (HB.out.cell (World.block_lt_of_cell? w _ hx9)).trans hx9
   replace a0_ := (HB.out.cell (World.block_lt_of_cell? w _ a0_)).trans a0_
   rw [Int.toNat_natCast] at hx0 hx1 hx2 hx3 hx4 hx5 hx6 hx7 hx8 hx9 a0_
   obtain ⟨x, hxe⟩ : ∃ x, x = rd_T51 l (i : Int) := ⟨_, rfl⟩
   rw [← hxe] at hx0 hx1 hx2 hx3 hx4 hx5 hx6 hx7 hx8 hx9 a0_
   have EL : Aside0 (l[i] = x) := ⟨by rw [hxe]; unfold rd_T51; rw [Int.toNat_natCast, List.getD_eq_getElem?_getD, List.getElem?_eq_getElem hil]; rfl⟩
   clear hxe
   have hHN := heap_alloc_new wr (.cells #[x.f0, x.f1, x.f2, x.f3, x.f4, x.f5, x.f6, x.f7, x.f8, x.f9, x.f10] 51)
   have hHZ := HZ.out.alloc (.cells #[x.f0, x.f1, x.f2, x.f3, x.f4, x.f5, x.f6, x.f7, x.f8, x.f9, x.f10] 51)
   have hHV := HV.out.alloc (.cells #[x.f0, x.f1, x.f2, x.f3, x.f4, x.f5, x.f6, x.f7, x.f8, x.f9, x.f10] 51)
   have hHK := HK.out.below (below_alloc (Below.refl _ _) (.cells #[x.f0, x.f1, x.f2, x.f3, x.f4, x.f5, x.f6, x.f7, x.f8, x.f9, x.f10] 51))
   have hHB := below_alloc HB.out (.cells #[x.f0, x.f1, x.f2, x.f3, x.f4, x.f5, x.f6, x.f7, x.f8, x.f9, x.f10] 51)
   have HNW : Aside0 (w.heap.size + 2 ≤ wr.heap.size) := ⟨by have := HV.out.lt; omega⟩
   have HOW : Aside0 (∀ s, s < 64 → ∀ k, (V s).ownBlock = some k → k < wr.heap.size) := ⟨fun s hs k hk => Kd.R_lt (HK.out.row s hs) k hk⟩
   go_upto_region 5 with (fail)
   generalize wr.alloc (.cells #[x.f0, x.f1, x.f2, x.f3, x.f4, x.f5, x.f6, x.f7, x.f8, x.f9, x.f10] 51) = w1 at hHN hHZ hHV hHK hHB ⊢
   have HN1 : Aside0 (BlkIs w1 wr.heap.size 51 [x.f0, x.f1, x.f2, x.f3, x.f4, x.f5, x.f6, x.f7, x.f8, x.f9, x.f10]) := ⟨hHN⟩
   have HZ1 := As hHZ
   have HV1 := As hHV
   have HK1 := As hHK
   have HB1 := As hHB
   clear hHN hHZ hHV hHK hHB hx0 hx1 hx2 hx3 hx4 hx5 hx6 hx7 hx8 hx9 a0_ HZ HV HK HB
   have hq0_ := cs11 HN1.out
   cases hs : slotB x with
   | false =>
    have HSB := As hs
    have HWB : Aside0 (wantB t x = false) := ⟨by unfold wantB; rw [hs]; rfl⟩
    clear hs
    go_wp2_with (go_at_call 54; (with_reducible refine (lease_slotted.calls x.f0 x.f1 x.f2 x.f3 x.f4 x.f5 x.f6 x.f7 x.f8 x.f9 x.f10 false _ (by rw [slotted_is]; exact congrArg some HSB.out)).mono ?_); rintro e w3 ⟨rfl, hb3⟩; have HN3 := As (HN1.out.below hb3); have HZ3 := As (HZ1.out.below hb3); have HV3 := As (HV1.out.below hb3); have HK3 := As (HK1.out.below hb3); have HB3 := As (below_step HB1.out hb3); clear hb3; have hq1_ := cs11 HN3.out; have a3_ : w3.cell? ⟨wr.heap.size, 10, none⟩ = some (x.f10) := HN3.out.at_ 10)
    have HKN : Aside0 (Bk w3 (w.heap.size + 2) V (fun s => bucket (l.take (i + 1)) t s)) := ⟨by rw [show (fun s => bucket (l.take (i + 1)) t s) = (fun s => bucket (l.take i) t s) from funext (fun s => bucket_no hil EL.out HWB.out s)]; exact HK3.out⟩
    go_roundg k1
    case measure => omega
    case rel => exact ⟨i + 1, V, by simp, ⟨by have := HI.out; omega⟩, HZ3, HV3, HKN, HB3⟩
   | true =>
    have HSB := As hs
    cases ht : decide (x.f4 ≤ t) with
    | false =>
     have HWB : Aside0 (wantB t x = false) := ⟨by unfold wantB; rw [hs, ht]; rfl⟩
     clear hs
     go_wp2_with (go_at_call 54; (with_reducible refine (lease_slotted.calls x.f0 x.f1 x.f2 x.f3 x.f4 x.f5 x.f6 x.f7 x.f8 x.f9 x.f10 true _ (by rw [slotted_is]; exact congrArg some HSB.out)).mono ?_); rintro e w3 ⟨rfl, hb3⟩; have HN3 := As (HN1.out.below hb3); have HZ3 := As (HZ1.out.below hb3); have HV3 := As (HV1.out.below hb3); have HK3 := As (HK1.out.below hb3); have HB3 := As (below_step HB1.out hb3); clear hb3; have hq1_ := cs11 HN3.out; have a3_ : w3.cell? ⟨wr.heap.size, 10, none⟩ = some (x.f10) := HN3.out.at_ 10)
     have HKN : Aside0 (Bk w3 (w.heap.size + 2) V (fun s => bucket (l.take (i + 1)) t s)) := ⟨by rw [show (fun s => bucket (l.take (i + 1)) t s) = (fun s => bucket (l.take i) t s) from funext (fun s => bucket_no hil EL.out HWB.out s)]; exact HK3.out⟩
     go_roundg k1
     case measure => omega
     case rel => exact ⟨i + 1, V, by simp, ⟨by have := HI.out; omega⟩, HZ3, HV3, HKN, HB3⟩
    | true =>
     have HWB : Aside0 (wantB t x = true) := ⟨by unfold wantB; rw [hs, ht]; rfl⟩
     obtain ⟨f0, f64⟩ := HSL.out x (by rw [← EL.out]; exact List.getElem_mem hil) hs
     clear hs
     go_upto_region 6 with (go_at_call 54; (with_reducible refine (lease_slotted.calls x.f0 x.f1 x.f2 x.f3 x.f4 x.f5 x.f6 x.f7 x.f8 x.f9 x.f10 true _ (by rw [slotted_is]; exact congrArg some HSB.out)).mono ?_); rintro e w3 ⟨rfl, hb3⟩; have HN3 := As (HN1.out.below hb3); have HZ3 := As (HZ1.out.below hb3); have HV3 := As (HV1.out.below hb3); have HK3 := As (HK1.out.below hb3); have HB3 := As (below_step HB1.out hb3); clear hb3; have hq1_ := cs11 HN3.out; have a3_ : w3.cell? ⟨wr.heap.size, 10, none⟩ = some (x.f10) := HN3.out.at_ 10)
     have HKL : Aside0 (x.f6.toNat < 64) := ⟨by omega⟩
     obtain ⟨k, hk⟩ : ∃ k, k = x.f6.toNat := ⟨_, rfl⟩
     have HKE := As hk
     clear hk
     refine start_ (n := 11) (S := fun w' => w'.cell? ⟨wr.heap.size, 0, none⟩ = some (x.f0) ∧ w'.cell? ⟨wr.heap.size, 1, none⟩ = some (x.f1) ∧ w'.cell? ⟨wr.heap.size, 2, none⟩ = some (x.f2) ∧ w'.cell? ⟨wr.heap.size, 3, none⟩ = some (x.f3) ∧ w'.cell? ⟨wr.heap.size, 4, none⟩ = some (x.f4) ∧ w'.cell? ⟨wr.heap.size, 5, none⟩ = some (x.f5) ∧ w'.cell? ⟨wr.heap.size, 6, none⟩ = some (x.f6) ∧ w'.cell? ⟨wr.heap.size, 7, none⟩ = some (x.f7) ∧ w'.cell? ⟨wr.heap.size, 8, none⟩ = some (x.f8) ∧ w'.cell? ⟨wr.heap.size, 9, none⟩ = some (x.f9) ∧ w'.cell? ⟨wr.heap.size, 10, none⟩ = some (x.f10) ∧ w'.cell? ⟨w.heap.size + 1, x.f6.toNat, none⟩ = some (V x.f6.toNat)) (ds := [10]) (marksOf 11 0) (by kernel_rfl) rfl rfl ⟨HN3.out.drew.at_ 0, HN3.out.drew.at_ 1, HN3.out.drew.at_ 2, HN3.out.drew.at_ 3, HN3.out.drew.at_ 4, HN3.out.drew.at_ 5, HN3.out.drew.at_ 6, HN3.out.drew.at_ 7, HN3.out.drew.at_ 8, HN3.out.drew.at_ 9, HN3.out.drew.at_ 10, (HV3.out.drew.at_ _).trans (rowV_get V _ HKL.out)⟩ (fun hHeld => ?_)
     refine with_tabW sorted.tab6 sorted.bits6 (fun HT_ HW_ => ?_)
     have HN4 := As HN3.out.drew
     have HZ4 := As HZ3.out.drew
     have HV4 := As HV3.out.drew
     have HB4 := As (below_drew1 HB3.out)
     have HK4 := As (HK3.out.below (below_drew1 (Below.refl _ _)))
     generalize w3.drew = w4 at HN4 HZ4 HV4 HB4 HK4 hHeld ⊢
     refine pv_ 0 22 11 1 ?_
     refine ta_ 1 23 11 3 ?_ rfl rfl (take_ofW HT_.out HW_.out (by kernel_rfl)) (fun _ _ _ h => h) (by rfl) ?_ hHeld ?_ ?_ ?_
     rotate_left
     ·rintro w' ⟨s0, s1, s2, s3, s4, s5, s6, s7, s8, s9, s10, s11⟩
      go_simp
      with_reducible rfl
     rotate_left
     ·simp only [Act.put, List.setIfInBounds_toArray, List.set_cons_zero, List.set_cons_succ, q1, q2, q3, i64_w, i32_w]
      rfl
     refine pv_ 2 24 11 7 ?_
     refine ta_ 3 25 11 15 ?_ rfl rfl (take_ofW HT_.out HW_.out (by kernel_rfl)) (fun _ _ _ h => h) (by rfl) ?_ hHeld ?_ ?_ ?_
     rotate_left
     ·rintro w' ⟨s0, s1, s2, s3, s4, s5, s6, s7, s8, s9, s10, s11⟩
      go_simp
      with_reducible rfl
     rotate_left
     ·simp only [Act.put, List.setIfInBounds_toArray, List.set_cons_zero, List.set_cons_succ, q1, q2, q3, i64_w, i32_w]
      rfl
     refine pv_ 4 26 11 31 ?_
     refine ta_ 5 27 11 63 ?_ rfl rfl (take_ofW HT_.out HW_.out (by kernel_rfl)) (fun _ _ _ h => h) (by rfl) ?_ hHeld ?_ ?_ ?_
     rotate_left
     ·rintro w' ⟨s0, s1, s2, s3, s4, s5, s6, s7, s8, s9, s10, s11⟩
      go_simp
      with_reducible rfl
     rotate_left
     ·simp only [Act.put, List.setIfInBounds_toArray, List.set_cons_zero, List.set_cons_succ, q1, q2, q3, i64_w, i32_w]
      rfl
     refine ta_ 6 28 11 127 ?_ rfl rfl (take_ofW HT_.out HW_.out (by kernel_rfl)) (fun _ _ _ h => h) (by rfl) ?_ hHeld ?_ ?_ ?_
     rotate_left
     ·rintro w' ⟨s0, s1, s2, s3, s4, s5, s6, s7, s8, s9, s10, s11⟩
      go_simp
      with_reducible rfl
     rotate_left
     ·simp only [Act.put, List.setIfInBounds_toArray, List.set_cons_zero, List.set_cons_succ, q1, q2, q3, i64_w, i32_w]
      rfl
     refine one_ (i := 7) (N := some 29) (marksOf 11 255) rfl rfl (one_of HT_.out (by kernel_rfl)) (by decide) (fun K hK => ?_)
     refine value_ (w1 := ?_) (v := ?_) (by rfl) rfl ?_ ?_
     rotate_left 2
     ·go_simp
      constructor
      ·rfl
      ·rfl
     refine hK.out _ _ ⟨(HN4.out.alloc _).at_ 0, (HN4.out.alloc _).at_ 1, (HN4.out.alloc _).at_ 2, (HN4.out.alloc _).at_ 3, (HN4.out.alloc _).at_ 4, (HN4.out.alloc _).at_ 5, (HN4.out.alloc _).at_ 6, (HN4.out.alloc _).at_ 7, (HN4.out.alloc _).at_ 8, (HN4.out.alloc _).at_ 9, (HN4.out.alloc _).at_ 10, ((HV4.out.alloc _).at_ _).trans (rowV_get V _ HKL.out)⟩ (fun hHeld => ?_)
     clear hK K
     refine norm_ (a' := ?_) ?_ ?_
     rotate_left
     ·show Act.put _ (some 29) _ = _
      simp only [Act.put, List.setIfInBounds_toArray, List.set_cons_zero, List.set_cons_succ, q1, q2, q3, i64_w, i32_w]
      rfl
     refine one_ (i := 8) (N := some 30) (marksOf 11 511) rfl rfl (one_of HT_.out (by kernel_rfl)) (by decide) (fun K hK => ?_)
     refine Kd.R_append_step k51 (w0 := w4) (w.heap.size + 2) (by rfl) (.tmp 27) (.tmp 29) 27 51 (.agg #[.int .i64 0, .int .i64 0, .int .i64 0, .int .i64 0, .int .i64 0, .int .i64 0, .int .i64 0, .int .i64 0, .int .i64 0, .int .i64 0, .int .i64 0]) 88 rfl Tryd.underlying27 infoS rfl (by decide) (by omega) (V x.f6.toNat) (bucket (l.take i) t x.f6.toNat) x [x.f0, x.f1, x.f2, x.f3, x.f4, x.f5, x.f6, x.f7, x.f8, x.f9, x.f10] (fun _ => True) (fun _ => False) rfl rfl ?aP (fun _ hk => hk.elim) ?aF ?aO ?aB ?aS ?aL ?_
     case aP => exact k51_mkM _ _ _ x
     case aF => exact fun _ _ => trivial
     case aO => exact Kd.R_mono (HK4.out.row _ HKL.out) (fun _ _ => trivial)
     case aB => exact Below.refl _ _
     case aS => have := HV4.out.lt; omega
     case aL => have := bucket_len l t i x.f6.toNat; have := HLM.out; omega
     intro v1 w5 ho hb5 hg5 hat5
     have hne5 : ∀ g, g < w.heap.size + 2 ∨ g = wr.heap.size → some g ≠ (V x.f6.toNat).ownBlock := by
      intro g hg e
      have h1 := Kd.R_base (HK3.out.row _ HKL.out) g e.symm
      have h2 := HOW.out _ HKL.out g e.symm
      omega
     have HN5 := As (HN4.out.grown hg5 (hne5 _ (.inr rfl)))
     have HZ5 := As (HZ4.out.grown hg5 (hne5 _ (.inl (by omega))))
     have HV5 := As (HV4.out.grown hg5 (hne5 _ (.inl (by omega))))
     have HK5 : Aside0 (Bk w5 (w.heap.size + 2) (updV V x.f6.toNat v1) (fun s => if s = x.f6.toNat then bucket (l.take i) t x.f6.toNat ++ [x] else bucket (l.take i) t s)) := ⟨Bk.put HKL.out HK4.out hg5 ho hat5⟩
     have HB5 : Aside0 (Below w.heap.size w w5) := ⟨pw_below_grown HB4.out _ HB4.out.size hg5 (fun k hk => by have := Kd.R_base (HK3.out.row _ HKL.out) k hk; omega)⟩
     clear ho hb5 hg5 hat5 hne5
     refine hK.out _ _ ⟨HN5.out.at_ 0, HN5.out.at_ 1, HN5.out.at_ 2, HN5.out.at_ 3, HN5.out.at_ 4, HN5.out.at_ 5, HN5.out.at_ 6, HN5.out.at_ 7, HN5.out.at_ 8, HN5.out.at_ 9, HN5.out.at_ 10, (HV5.out.at_ _).trans (rowV_get V _ HKL.out)⟩ (fun hHeld => ?_)
     clear hK K
     refine norm_ (a' := ?_) ?_ ?_
     rotate_left
     ·show Act.put _ (some 30) _ = _
      simp only [Act.put, List.setIfInBounds_toArray, List.set_cons_zero, List.set_cons_succ, q1, q2, q3, i64_w, i32_w]
      rfl
     refine pv_ 9 31 11 1023 ?_
     refine last_ (i := 10) (N := none) (marksOf 11 2047) rfl rfl (one_of HT_.out (by kernel_rfl)) (by decide) (fun K hK => ?_)
     refine blk_store_step ?hw ?hN 27 (.tmp 31) (.tmp 30) ?ho HV5.out x.f6.toNat v1 [v1] (rowV (updV V x.f6.toNat v1)) ?ha ?hx ?hu ?ht ?hf ?h1 ?hE ?_
     case hw => rfl
     case hN => rfl
     case ho => rfl
     case ha => exact ⟨_, rfl, rfl⟩
     case hx => rfl
     case hu => exact slice_cells (HK5.out.row _ HKL.out) (by simp [updV])
     case ht => kernel_rfl
     case hf => rw [rowV_len]; have := HKL.out; show x.f6.toNat + 1 ≤ 64; omega
     case h1 => exact slice_one (HK5.out.row _ HKL.out) (by simp [updV])
     case hE => rw [over_one _ _ _ (by rw [rowV_len]; exact HKL.out), rowV_set]
     intro w6 HV6 hg6
     have HZ6 := As (HZ5.out.grown hg6.out (fun e => by injection e with e; omega))
     have HK6 := As (HK5.out.far hg6.out (by omega))
     have HB6 : Aside0 (Below w.heap.size w w6) := ⟨pw_below_grown HB5.out _ HB5.out.size hg6.out (by intro k hk; injection hk with hk; omega)⟩
     clear hg6
     refine hK.out _ _ ?_
     refine done_ (done_of HT_.out (by kernel_rfl)) ?_
     have HKN : Aside0 (Bk w6 (w.heap.size + 2) (updV V x.f6.toNat v1) (fun s => bucket (l.take (i + 1)) t s)) := ⟨by rw [show (fun s => bucket (l.take (i + 1)) t s) = (fun s => if s = x.f6.toNat then bucket (l.take i) t x.f6.toNat ++ [x] else bucket (l.take i) t s) from funext (fun s => bucket_yes hil EL.out HWB.out s)]; exact HK6.out⟩
     go_wp2
     go_roundg k1
     case measure => omega
     case rel => exact ⟨i + 1, _, by simp, ⟨by have := HI.out; omega⟩, HZ6, HV6, HKN, HB6⟩
end
section
attribute [local go_sem ↓] some_setCell
def Le.rec_ (s : Le) : S41 := ⟨s.o, s.k, s.s, s.h, s.z, s.fr, s.un, s.rc⟩
def lastS (l : List S51) : Sl := l.foldl Sl.takeS zSl
def inForce (l : List S51) (t : Int) (s : Nat) : List S41 := if (lastS (bucket l t s)).inB t = true then [(lastS (bucket l t s)).l.rec_] else []
def leasesL (l : List S51) (t : Int) (k : Nat) : List S41 := (List.range k).flatMap (inForce l t)
def lease_Leases.f (l : List S51) (t : Int) : Option (List S41 × Int) :=
 if 1599289640401 ≤ l.length then none
 else if rightI l l.length 0 (List.replicate 64 zSl) ≠ 0 then some ([], rightI l l.length 0 (List.replicate 64 zSl))
 else if t < 0 ∨ 1048576 < t then some ([], 1)
 else some (leasesL l t 64, 0)
theorem leasesL_succ (l : List S51) (t : Int) (i : Nat) : leasesL l t (i + 1) = leasesL l t i ++ inForce l t i := by
 unfold leasesL
 rw [List.range_succ, List.flatMap_append]
 simp
theorem leasesL_len (l : List S51) (t : Int) (i : Nat) : (leasesL l t i).length ≤ i := by
 induction i with
 | zero => simp [leasesL]
 | succ i ih =>
  rw [leasesL_succ, List.length_append]
  have : (inForce l t i).length ≤ 1 := by
   unfold inForce
   split <;> simp
  omega
theorem lastS_succ {L : List S51} {j : Nat} {x : S51} (hj : j < L.length) (hx : L[j] = x) : lastS (L.take (j + 1)) = (lastS (L.take j)).takeS x := by
 unfold lastS
 rw [List.take_succ_eq_append_getElem hj, List.foldl_append, hx]
 rfl
theorem take0 (b : Nat) (s : Sl) (x : S51) (W : World) (hB : BlkIs W b 93 s.enc) : Calls Tryd.prog 51 #[.pointer (some ⟨b, 0, none⟩), .agg #[x.f0, x.f1, x.f2, x.f3, x.f4, x.f5, x.f6, x.f7, x.f8, x.f9, x.f10]] W fun e w' => e = .returned (.tuple #[]) ∧ Aside0 (BlkIs w' b 93 (s.takeS x).enc) ∧ Aside0 (W.grownBy w' (some b)) :=
 (slot_take.calls b 93 [] [] s x W hB).mono fun e w' ⟨he, h1, h2⟩ => ⟨he, ⟨h1⟩, ⟨h2⟩⟩
theorem in0 (b : Nat) (s : Sl) (t : Int) (W : World) (hB : BlkIs W b 93 s.enc) (r : Bool) (h : s.inB t = r) : Calls Tryd.prog 52 #[.pointer (some ⟨b, 0, none⟩), .int .i64 t] W fun e w' => e = .returned (.bool r) ∧ w' = W := by
 subst h
 exact slot_in.calls b 0 s t W (fun j v hj => by rw [hB.at_, Nat.zero_add]; exact hj)
theorem index_list {P : Program} {ops : Array Oper} {rest : List Oper} {o : Oper} {a : Act} {Q : Exit → Act → World → Prop} {W : World} {L : List Value} (hgd : o.guard = none) (ty e : TypeId) (q y : Operand) (ho : o.op = .index ty q y) (n k : Nat) (v : Value) (hq : a.eval q = .agg L.toArray) (hy : a.eval y = .int .i64 (k : Int))
 (hu : P.underlying ty = some (.array n e)) (hk : k < n) (hv : L[k]? = some v) (d : TypeDesc) (he : P.underlying e = some d) (hd : (match d with | .struct _ => true | .array _ _ => true | _ => false) = false) (hi : (P.info? e).map (·.size) = some 1)
 (h : wpList P ops Q rest (a.put o.dst v) W) : wpList P ops Q (o :: rest) a W := by
 have hr := index_run (P := P) (W := W) ty e n k v hu hk hv d he hd hi
 refine wpList_plain hgd fun K hK => ?_
 unfold Oper.wp execOp
 simp only [ho, hq, hy, Sem.run_bind, Sem.run_pure, Result.andThen_ok, hr]
 exact hK _ _ h
theorem infoL : (Tryd.prog.info? 41).map (fun i => (i.zero, i.size, i.bytes)) = some (some (.agg #[.int .i64 0, .int .i64 0, .int .i64 0, .int .i64 0, .int .i64 0, .int .i64 0, .int .i64 0, .bool false]), 8, 64) := by kernel_rfl
theorem right_ok {l : List S51} : ∀ (d i : Nat) (ss : List Sl), rightI l d i ss = 0 → ∀ j : Nat, i ≤ j → j < i + d → validB (rd_T51 l j) = true
 | 0, i, ss, _, j, h1, h2 => by omega
 | d + 1, i, ss, h, j, h1, h2 => by
  rw [rightI] at h
  split at h
  ·cases h
  ·rename_i hv
   split at h
   ·cases h
   ·split at h
    ·cases h
    ·by_cases e : j = i
     ·subst e
      exact Bool.not_eq_false _ ▸ hv
     ·split at h
      ·exact right_ok d (i + 1) _ h j (by omega) (by omega)
      ·split at h
       ·cases h
       ·exact right_ok d (i + 1) _ h j (by omega) (by omega)
theorem right_slots {l : List S51} (h : rightI l l.length 0 (List.replicate 64 zSl) = 0) : ∀ x ∈ l, slotB x = true → 0 ≤ x.f6 ∧ x.f6 < 64 := by
 intro x hx hs
 obtain ⟨j, hj, rfl⟩ := List.getElem_of_mem hx
 have h1 := right_ok l.length 0 _ h j (Nat.zero_le _) (by omega)
 have h2 : rd_T51 l (j : Int) = l[j] := by
  unfold rd_T51
  rw [Int.toNat_natCast, List.getD_eq_getElem?_getD, List.getElem?_eq_getElem hj]
  rfl
 rw [h2] at h1
 exact slot_rng h1 hs
theorem flat41 : Flat k41 (fun (x : S41) => [x.f0, x.f1, x.f2, x.f3, x.f4, x.f5, x.f6, .bool x.f7]) := ⟨fun _ => rfl, fun h => k41_openM h, fun w base ok x => k41_mkM w base ok x, by decide⟩
theorem own_keep {W W' : World} {base b : Nat} {v : Value} {xs : List S41} (h : Kd.R k41 41 W base (fun _ => True) v xs) (hg : W.grownBy W' (some b)) (hne : ∀ k, v.ownBlock = some k → k < b) : Kd.R k41 41 W' base (fun _ => True) v xs := by
 rcases flat41.block h with ⟨rfl, rfl⟩ | ⟨g, cap, cur, rfl, hg2, hok, hH, hnc, hcm, hl, htk⟩
 ·exact Kd.R_nil _ _ _ _ _
 ·have h1 : Kd.R k41 41 W base (fun k => (Value.slice (some ⟨g, 0, none⟩) xs.length cap).ownBlock = some k) (.slice (some ⟨g, 0, none⟩) xs.length cap) xs := flat41.own rfl hg2 rfl hH hnc hcm hl htk
  refine Kd.R_mono (Kd.R_grown h1 hg (fun k hk e => ?_)) (fun _ _ => trivial)
  injection e with e
  have := hne k hk
  omega
set_option maxHeartbeats 16000000 in
set_option maxRecDepth 100000 in
theorem lease_Leases.calls (A0 : Option Addr) (c0 : Nat) (l : List S51) (t : Int) (r1 : List S41) (r2 : Int) (w : World) (hr0 : Kd.C k51 w A0 l.length l) (hc0 : l.length ≤ c0) (h : lease_Leases.f l t = some (r1, r2)) (hG : GW w) :
 Calls Tryd.prog 39 #[.slice A0 l.length c0, .int .i64 t] w fun e w' => ∃ v0_ : Value, e = .returned (.tuple #[v0_, .int .i64 r2]) ∧ Kd.R k41 41 w' w.heap.size (fun _ => True) v0_ r1 ∧ Below w.heap.size w w' := by
 unfold lease_Leases.f at h
 by_cases hl : 1599289640401 ≤ l.length
 ·rw [if_pos hl] at h
  cases h
 rw [if_neg hl] at h
 obtain ⟨r0, hr0e⟩ : ∃ r0, r0 = rightI l l.length 0 (List.replicate 64 zSl) := ⟨_, rfl⟩
 rw [← hr0e] at h
 have HG := As hG
 have HC := As hr0
 have HCC := As hc0
 have HR : Aside0 (lease_Right.f l = some r0) := ⟨by rw [hr0e]; rfl⟩
 have HLM : Aside0 (l.length < 1599289640401) := ⟨by omega⟩
 have HSR : Aside0 (r0 = 0 → ∀ x ∈ l, slotB x = true → 0 ≤ x.f6 ∧ x.f6 < 64) := ⟨fun e => right_slots (hr0e.symm.trans e)⟩
 clear hG hr0 hc0 hr0e hl
 by_cases hz : r0 = 0
 ·rw [if_neg (fun h => h hz)] at h
  subst hz
  have HSS := As (HSR.out rfl)
  clear HSR
  by_cases ht : t < 0 ∨ 1048576 < t
  ·rw [if_pos ht] at h
   simp only [Option.some.injEq, Prod.mk.injEq] at h
   obtain ⟨rfl, rfl⟩ := h
   by_cases h0 : t < 0
   ·have a4_ : decide (t < 0) = true := decide_eq_true h0
    clear ht h0
    go_enter Tryd.func39, Tryd.ntmps39
    go_wp2_with ((go_at_call 40; (with_reducible refine (lease_Right.calls A0 c0 l 0 _ HG.out HC.out HCC.out HR.out).mono ?_); rintro e w2 ⟨rfl, hb2⟩; have HB2 := As hb2; clear hb2))
    go_ret2
    exact ⟨_, rfl, Kd.R_nil _ _ _ _ _, by repeat (first | exact HB2.out | apply below_drew1 | apply pw_below_drewN)⟩
   ·have a4_ : decide (t < 0) = false := decide_eq_false h0
    have a6_ : decide (1048576 < t) = true := decide_eq_true (by omega)
    clear ht h0
    go_enter Tryd.func39, Tryd.ntmps39
    go_wp2_with ((go_at_call 40; (with_reducible refine (lease_Right.calls A0 c0 l 0 _ HG.out HC.out HCC.out HR.out).mono ?_); rintro e w2 ⟨rfl, hb2⟩; have HB2 := As hb2; clear hb2))
    go_ret2
    exact ⟨_, rfl, Kd.R_nil _ _ _ _ _, by repeat (first | exact HB2.out | apply below_drew1 | apply pw_below_drewN)⟩
  ·rw [if_neg ht] at h
   simp only [Option.some.injEq, Prod.mk.injEq] at h
   obtain ⟨rfl, rfl⟩ := h
   have a4_ : decide (t < 0) = false := decide_eq_false (by omega)
   have a6_ : decide (1048576 < t) = false := decide_eq_false (by omega)
   clear ht
   go_enter Tryd.func39, Tryd.ntmps39
   go_wp2_with (first | (go_at_call 40; (with_reducible refine (lease_Right.calls A0 c0 l 0 _ HG.out HC.out HCC.out HR.out).mono ?_); rintro e w2 ⟨rfl, hb2⟩; have HB2 := As hb2; clear hb2) | (go_at_call 50; go_loud ((with_reducible refine (sorted.calls A0 c0 l t _ (Kd.C_below HC.out HB2.out) HCC.out HLM.out HSS.out).mono ?_); rintro e w3 ⟨V, rfl, HV0, hb3⟩; have HV := As HV0; have HB3 := As (below_step HB2.out hb3); clear HV0 hb3)))
   go_loopg [7, 27] 64 (fun kq v7 v27 w' => ∃ i : Nat, v27 = .int .i64 i ∧ Aside0 (i + kq = 64) ∧ Aside0 (Kd.R k41 41 w' w3.heap.size (fun _ => True) v7 (leasesL l t i)) ∧ Aside0 (Below w3.heap.size w3 w'))
   case atStart => exact ⟨0, rfl, ⟨rfl⟩, ⟨Kd.R_nil _ _ _ _ _⟩, ⟨Below.refl _ _⟩⟩
   case round =>
    obtain ⟨i, rfl, HI, HO, HB⟩ := hrel
    cases gk with
    | zero =>
     have a1_ : decide ((i : Int) < 64) = false := decide_eq_false (by have := HI.out; omega)
     have a2_ : decide (i < 64) = false := decide_eq_false (by have := HI.out; omega)
     have HIE : Aside0 (i = 64) := ⟨by have := HI.out; omega⟩
     go_wp2
     go_ret2
     exact ⟨_, rfl, Kd.R_lower (by rw [← HIE.out]; exact HO.out) HB3.out.size, below_step HB3.out HB.out⟩
    | succ k1 =>
     have hil : i < 64 := by have := HI.out; omega
     have HIL := As hil
     have a5_ : (i : Int) ≤ 9223372036854775806 := by omega
     have pi1 : 0 ≤ (i : Int) := by omega
     have a1_ : decide ((i : Int) < 64) = true := decide_eq_true (by omega)
     have a2_ : decide (i < 64) = true := decide_eq_true hil
     obtain ⟨A, n, cp, hVi, hn, hnc, hC⟩ := HV.out i hil
     subst hn
     obtain ⟨L, hL⟩ : ∃ L, L = bucket l t i := ⟨_, rfl⟩
     rw [← hL] at hVi hnc hC
     have HL := As hL
     have HVI := As hVi
     have HCL := As hC
     have HLL : Aside0 (L.length ≤ 9223372036854775807) := ⟨hC.2.1⟩
     have HNC := As hnc
     clear hL hVi hC hnc hil
     obtain ⟨b, hb⟩ : ∃ b, b = wr.heap.size := ⟨_, rfl⟩
     have hON : BlkIs (wr.alloc (.cells zSl.enc.toArray 93)) b 93 zSl.enc := by rw [hb]; exact heap_alloc_new wr _
     have hOO := Kd.R_below HO.out (below_alloc (Below.refl _ _) (.cells zSl.enc.toArray 93))
     have hOB := below_alloc HB.out (.cells zSl.enc.toArray 93)
     have HOL : Aside0 (∀ k, u7.ownBlock = some k → k < b) := ⟨fun k hk => by rw [hb]; exact Kd.R_lt HO.out k hk⟩
     have HBL : Aside0 (w3.heap.size ≤ b) := ⟨by rw [hb]; exact HB.out.size⟩
     go_upto_region 11 with ((with_reducible refine gate_ (.index 90 (.tmp 26) (.tmp 27)) rfl ?_); refine index_list rfl 90 27 (.tmp 26) (.tmp 27) rfl 64 i (.slice A L.length cp) rfl rfl Tryd.underlying90 HIL.out ((rowV_get V i HIL.out).trans (congrArg some HVI.out)) _ Tryd.underlying27 rfl (by kernel_rfl) ?_)
     rw [← hb]
     rw [show (#[.bool false, .int .i64 0, .int .i64 0, .int .i64 0, .int .i64 0, .int .i64 0, .int .i64 0, .int .i64 0, .bool false, .bool false, .int .i64 0] : Array Value) = zSl.enc.toArray from rfl]
     generalize wr.alloc (.cells zSl.enc.toArray 93) = w1 at hON hOO hOB ⊢
     have HN1 := As hON
     have HO1 := As hOO
     have HB1 := As hOB
     clear hON hOO hOB hb HO HB
     go_wp2_with (fail)
     go_loopg [32] L.length (fun kq v32 w' => ∃ j : Nat, v32 = .int .i64 j ∧ Aside0 (j + kq = L.length) ∧ Aside0 (BlkIs w' b 93 (lastS (L.take j)).enc) ∧ Aside0 (Kd.R k41 41 w' w3.heap.size (fun _ => True) u7 (leasesL l t i)) ∧ Aside0 (Below w3.heap.size w3 w'))
     case atStart => exact ⟨0, rfl, ⟨by omega⟩, HN1, HO1, HB1⟩
     case round =>
      clear HN1 HO1 HB1
      obtain ⟨j, rfl, HJ, HN, HO, HB⟩ := hrel
      cases gk with
      | zero =>
       have d4b0 : decide ((j : Int) < (L.length : Int)) = false := decide_eq_false (by have := HJ.out; omega)
       have d4b1 : decide (j < L.length) = false := decide_eq_false (by have := HJ.out; omega)
       have HN2 : Aside0 (BlkIs wr b 93 (lastS L).enc) := ⟨by
        have := HN.out
        rw [show j = L.length by have := HJ.out; omega, List.take_length] at this
        exact this⟩
       clear HN
       cases hin : (lastS L).inB t with
       | false =>
        have HIN := As hin
        clear hin
        have HNX : Aside0 (Kd.R k41 41 wr w3.heap.size (fun _ => True) u7 (leasesL l t (i + 1))) := ⟨by
         rw [leasesL_succ, show inForce l t i = [] by unfold inForce; rw [← HL.out, HIN.out]; rfl, List.append_nil]
         exact HO.out⟩
        go_wp2_with (go_at_call 52; (with_reducible refine (in0 b (lastS L) t _ HN2.out false HIN.out).mono ?_); rintro e w5 ⟨rfl, rfl⟩)
        go_roundg k1
        case measure => omega
        case rel => exact ⟨i + 1, by simp, ⟨by have := HI.out; omega⟩, HNX, HB⟩
       | true =>
        have HIN := As hin
        clear hin
        obtain ⟨s, hs⟩ : ∃ s, s = lastS L := ⟨_, rfl⟩
        rw [← hs] at HN2 HIN
        have HS := As hs
        clear hs
        have huL := Tryd.underlying41
        have y1 : wr.cell? ⟨b, 1, none⟩ = some (.int .i64 s.l.o) := HN2.out.at_ 1
        have y2 : wr.cell? ⟨b, 2, none⟩ = some (.int .i64 s.l.k) := HN2.out.at_ 2
        have y3 : wr.cell? ⟨b, 3, none⟩ = some (.int .i64 s.l.s) := HN2.out.at_ 3
        have y4 : wr.cell? ⟨b, 4, none⟩ = some (.int .i64 s.l.h) := HN2.out.at_ 4
        have y5 : wr.cell? ⟨b, 5, none⟩ = some (.int .i64 s.l.z) := HN2.out.at_ 5
        have y6 : wr.cell? ⟨b, 6, none⟩ = some (.int .i64 s.l.fr) := HN2.out.at_ 6
        have y7 : wr.cell? ⟨b, 7, none⟩ = some (.int .i64 s.l.un) := HN2.out.at_ 7
        have y8 : wr.cell? ⟨b, 8, none⟩ = some (.bool s.l.rc) := HN2.out.at_ 8
        go_wp2_with (first | (go_at_call 52; (with_reducible refine (in0 b s t _ HN2.out true HIN.out).mono ?_); rintro e w5 ⟨rfl, rfl⟩) | ((with_reducible refine gate_ (.call { callee := .builtin .append, args := #[.tmp 41, .tmp 44], argTypes := #[37, 37] }) rfl ?_); refine Kd.R_append k41 (w0 := w3) w3.heap.size rfl (.tmp 41) (.tmp 44) 37 41 (.agg #[.int .i64 0, .int .i64 0, .int .i64 0, .int .i64 0, .int .i64 0, .int .i64 0, .int .i64 0, .bool false]) 64 rfl Tryd.underlying37 infoL rfl (by decide) (by omega) u7 (leasesL l t i) s.l.rec_ [.int .i64 s.l.o, .int .i64 s.l.k, .int .i64 s.l.s, .int .i64 s.l.h, .int .i64 s.l.z, .int .i64 s.l.fr, .int .i64 s.l.un, .bool s.l.rc] (fun _ => True) (fun _ => False) rfl rfl ?aP (fun _ hk => hk.elim) ?aF ?aO ?aB ?aS ?aL ?_; (case aP => exact k41_mkM _ _ _ s.l.rec_); (case aF => exact fun _ _ => trivial); (case aO => exact HO.out); (case aB => exact HB.out); (case aS => exact HB.out.size); (case aL => have := leasesL_len l t i; have := HIL.out; omega); intro v1 w5 ho hb5 hg5 hat5; have HNX : Aside0 (Kd.R k41 41 w5 w3.heap.size (fun _ => True) v1 (leasesL l t (i + 1))) := ⟨by rw [leasesL_succ, show inForce l t i = [s.l.rec_] by unfold inForce; rw [← HL.out, ← HS.out, HIN.out]; rfl]; exact ho⟩; have HB5 := As hb5; clear ho hb5 hg5 hat5))
        go_roundg k1
        case measure => omega
        case rel => exact ⟨i + 1, by simp, ⟨by have := HI.out; omega⟩, HNX, HB5⟩
      | succ k2 =>
       have hjl : j < L.length := by have := HJ.out; omega
       have d4b0 : decide ((j : Int) < (L.length : Int)) = true := decide_eq_true (by omega)
       have d4b1 : decide (j < L.length) = true := decide_eq_true hjl
       have hj64 : (j : Int) ≤ 9223372036854775806 := by have := HLL.out; omega
       have p1 : 0 ≤ (j : Int) := by omega
       have q1 : (j : Int) < (L.length : Int) := by omega
       obtain ⟨ad, e1, hx0, hx1, hx2, hx3, hx4, hx5, hx6, hx7, hx8, hx9, a0_⟩ := at_T51 HCL.out j p1 q1
       cases e1
       replace hx0 := (HB.out.cell (World.block_lt_of_cell? w3 _ hx0)).trans hx0
       replace hx1 := (HB.out.cell (World.block_lt_of_cell? w3 _ hx1)).trans hx1
       replace hx2 := (HB.out.cell (World.block_lt_of_cell? w3 _ hx2)).trans hx2
       replace hx3 := (HB.out.cell (World.block_lt_of_cell? w3 _ hx3)).trans hx3
       replace hx4 := (HB.out.cell (World.block_lt_of_cell? w3 _ hx4)).trans hx4
       replace hx5 := (HB.out.cell (World.block_lt_of_cell? w3 _ hx5)).trans hx5
       replace hx6 := (HB.out.cell (World.block_lt_of_cell? w3 _ hx6)).trans hx6
       replace hx7 := (HB.out.cell (World.block_lt_of_cell? w3 _ hx7)).trans hx7
       replace hx8 := (HB.out.cell (World.block_lt_of_cell? w3 _ hx8)).trans hx8
       replace hx9 := (HB.out.cell (World.block_lt_of_cell? w3 _ hx9)).trans hx9
       replace a0_ := (HB.out.cell (World.block_lt_of_cell? w3 _ a0_)).trans a0_
       rw [Int.toNat_natCast] at hx0 hx1 hx2 hx3 hx4 hx5 hx6 hx7 hx8 hx9 a0_
       obtain ⟨x, hxe⟩ : ∃ x, x = rd_T51 L (j : Int) := ⟨_, rfl⟩
       rw [← hxe] at hx0 hx1 hx2 hx3 hx4 hx5 hx6 hx7 hx8 hx9 a0_
       have EL : Aside0 (L[j] = x) := ⟨by rw [hxe]; unfold rd_T51; rw [Int.toNat_natCast, List.getD_eq_getElem?_getD, List.getElem?_eq_getElem hjl]; rfl⟩
       have HJL := As hjl
       clear hxe
       have hHN := heap_alloc_new wr (.cells #[x.f0, x.f1, x.f2, x.f3, x.f4, x.f5, x.f6, x.f7, x.f8, x.f9, x.f10] 51)
       have hHS := HN.out.alloc (.cells #[x.f0, x.f1, x.f2, x.f3, x.f4, x.f5, x.f6, x.f7, x.f8, x.f9, x.f10] 51)
       have hHO := Kd.R_below HO.out (below_alloc (Below.refl _ _) (.cells #[x.f0, x.f1, x.f2, x.f3, x.f4, x.f5, x.f6, x.f7, x.f8, x.f9, x.f10] 51))
       have hHB := below_alloc HB.out (.cells #[x.f0, x.f1, x.f2, x.f3, x.f4, x.f5, x.f6, x.f7, x.f8, x.f9, x.f10] 51)
       go_upto_region 14 with (fail)
       generalize wr.alloc (.cells #[x.f0, x.f1, x.f2, x.f3, x.f4, x.f5, x.f6, x.f7, x.f8, x.f9, x.f10] 51) = w4 at hHN hHS hHO hHB ⊢
       have HX4 : Aside0 (BlkIs w4 wr.heap.size 51 [x.f0, x.f1, x.f2, x.f3, x.f4, x.f5, x.f6, x.f7, x.f8, x.f9, x.f10]) := ⟨hHN⟩
       have HN4 := As hHS
       have HO4 := As hHO
       have HB4 := As hHB
       clear hHN hHS hHO hHB hx0 hx1 hx2 hx3 hx4 hx5 hx6 hx7 hx8 hx9 a0_ HN HO HB
       have hq2_ := cs11 HX4.out
       go_wp2_with (go_at_call 51; (with_reducible refine (take0 b (lastS (L.take j)) x _ HN4.out).mono ?_); rintro e w5 ⟨rfl, HN5, HG5⟩)
       have HN6 : Aside0 (BlkIs w5 b 93 (lastS (L.take (j + 1))).enc) := ⟨by rw [lastS_succ HJL.out EL.out]; exact HN5.out⟩
       have HO6 : Aside0 (Kd.R k41 41 w5 w3.heap.size (fun _ => True) u7 (leasesL l t i)) := ⟨own_keep HO4.out HG5.out HOL.out⟩
       have HB6 : Aside0 (Below w3.heap.size w3 w5) := ⟨pw_below_grown HB4.out _ HB4.out.size HG5.out (by intro k hk; injection hk with hk; have := HBL.out; omega)⟩
       go_roundg k2
       case measure => omega
       case rel => exact ⟨j + 1, by simp, ⟨by have := HJ.out; omega⟩, HN6, HO6, HB6⟩
 ·rw [if_pos hz] at h
  simp only [Option.some.injEq, Prod.mk.injEq] at h
  obtain ⟨rfl, rfl⟩ := h
  have a7_ : (r0 == 0) = false := beq_eq_false_iff_ne.mpr hz
  have a8_ : (r0 != 0) = true := bne_iff_ne.mpr hz
  clear hz
  go_enter Tryd.func39, Tryd.ntmps39
  go_wp2_with ((go_at_call 40; (with_reducible refine (lease_Right.calls A0 c0 l r0 _ HG.out HC.out HCC.out HR.out).mono ?_); rintro e w2 ⟨rfl, hb2⟩; have HB2 := As hb2; clear hb2))
  go_ret2
  exact ⟨_, rfl, Kd.R_nil _ _ _ _ _, by repeat (first | exact HB2.out | apply below_drew1 | apply pw_below_drewN)⟩
end
section
attribute [local go_sem ↓] some_setCell
def zLe : Le := ⟨0, 0, 0, 0, 0, 0, 0, false⟩
structure St where
 ls : List Le
 op : List Bool
 un : List Int
def St.enc (s : St) : List Value := flat Le.enc s.ls ++ (s.op.map Value.bool ++ s.un.map (Value.int .i64))
structure St.ok (s : St) : Prop where
 l : s.ls.length = 64
 o : s.op.length = 64
 u : s.un.length = 64
def St.le (s : St) (k : Nat) : Le := s.ls.getD k zLe
def St.opn (s : St) (k : Nat) : Bool := s.op.getD k false
def St.unt (s : St) (k : Nat) : Int := s.un.getD k 0
def St.setL (s : St) (k : Nat) (l : Le) : St := ⟨s.ls.set k l, s.op, s.un⟩
def St.setO (s : St) (k : Nat) (b : Bool) : St := ⟨s.ls, s.op.set k b, s.un⟩
def St.setU (s : St) (k : Nat) (u : Int) : St := ⟨s.ls, s.op, s.un.set k u⟩
theorem St.ok.setL {s : St} (h : s.ok) (k : Nat) (l : Le) : (s.setL k l).ok := ⟨by simp [St.setL, h.l], h.o, h.u⟩
theorem St.ok.setO {s : St} (h : s.ok) (k : Nat) (b : Bool) : (s.setO k b).ok := ⟨h.l, by simp [St.setO, h.o], h.u⟩
theorem St.ok.setU {s : St} (h : s.ok) (k : Nat) (u : Int) : (s.setU k u).ok := ⟨h.l, h.o, by simp [St.setU, h.u]⟩
theorem St.flen {s : St} (h : s.ok) : (flat Le.enc s.ls).length = 512 := by rw [_root_.Go.Proofs.YtcgpbmafkgbbdaaDoorW.PrintWords.flen Le.len, h.l]
theorem St.len {s : St} (h : s.ok) : s.enc.length = 640 := by
 unfold St.enc
 rw [List.length_append, List.length_append, List.length_map, List.length_map, St.flen h, h.o, h.u]
theorem St.le_is {s : St} (h : s.ok) (k : Nat) (hk : k < 64) : s.le k = s.ls[k]'(by rw [h.l]; exact hk) := by
 unfold St.le
 rw [List.getD_eq_getElem?_getD, List.getElem?_eq_getElem (by rw [h.l]; exact hk)]
 rfl
theorem St.get_le {s : St} (h : s.ok) (k j : Nat) (hk : k < 64) (hj : j < 8) : s.enc[k * 8 + j]? = (s.le k).enc[j]? := by
 unfold St.enc
 rw [List.getElem?_append_left (by rw [St.flen h]; omega), fget Le.len s.ls k j (by rw [h.l]; exact hk) hj, St.le_is h k hk]
theorem St.get_op {s : St} (h : s.ok) (k : Nat) (hk : k < 64) : s.enc[512 + k]? = some (.bool (s.opn k)) := by
 unfold St.enc St.opn
 rw [List.getElem?_append_right (by rw [St.flen h]; omega), St.flen h, Nat.add_sub_cancel_left, List.getElem?_append_left (by rw [List.length_map, h.o]; exact hk), List.getElem?_map, List.getD_eq_getElem?_getD, List.getElem?_eq_getElem (by rw [h.o]; exact hk)]
 rfl
theorem St.get_un {s : St} (h : s.ok) (k : Nat) (hk : k < 64) : s.enc[576 + k]? = some (.int .i64 (s.unt k)) := by
 unfold St.enc St.unt
 rw [List.getElem?_append_right (by rw [St.flen h]; omega), St.flen h, List.getElem?_append_right (by rw [List.length_map, h.o]; omega), List.length_map, h.o, show 576 + k - 512 - 64 = k by omega, List.getElem?_map, List.getD_eq_getElem?_getD, List.getElem?_eq_getElem (by rw [h.u]; exact hk)]
 rfl
theorem over_set (L : List Value) (k : Nat) (v : Value) (h : k < L.length) : over L k [v] = L.set k v := by
 unfold over
 rw [List.set_eq_take_append_cons_drop, if_pos h]
 simp
theorem St.put_un {s : St} (h : s.ok) (k : Nat) (hk : k < 64) (u : Int) : over s.enc (576 + k) [.int .i64 u] = (s.setU k u).enc := by
 rw [over_set _ _ _ (by rw [St.len h]; omega)]
 unfold St.enc St.setU
 rw [List.set_append_right _ _ (by rw [St.flen h]; omega), St.flen h, List.set_append_right _ _ (by rw [List.length_map, h.o]; omega), List.length_map, h.o, show 576 + k - 512 - 64 = k by omega, ← List.map_set]
theorem St.put_op {s : St} (h : s.ok) (k : Nat) (hk : k < 64) (b : Bool) : over s.enc (512 + k) [.bool b] = (s.setO k b).enc := by
 rw [over_set _ _ _ (by rw [St.len h]; omega)]
 unfold St.enc St.setO
 rw [List.set_append_right _ _ (by rw [St.flen h]; omega), St.flen h, Nat.add_sub_cancel_left, List.set_append_left _ _ (by rw [List.length_map, h.o]; exact hk), ← List.map_set]
theorem St.put_one {s : St} (h : s.ok) (k j : Nat) (hk : k < 64) (hj : j < 8) (v : Value) (l : Le) (hl : (s.le k).enc.set j v = l.enc) : over s.enc (k * 8 + j) [v] = (s.setL k l).enc := by
 rw [over_set _ _ _ (by rw [St.len h]; omega)]
 unfold St.enc St.setL
 rw [List.set_append_left _ _ (by rw [St.flen h]; omega), fset Le.len s.ls k j (by rw [h.l]; exact hk) v l hj (by rw [← St.le_is h k hk]; exact hl)]
theorem over_whole (L M : List Value) (h : M.length = L.length) : over L 0 M = M := by
 unfold over
 rw [List.take_zero, Nat.zero_add, h, List.drop_length, List.nil_append, List.append_nil]
theorem St.put_le {s : St} (h : s.ok) (k : Nat) (hk : k < 64) (l : Le) : over s.enc (k * 8) l.enc = (s.setL k l).enc := by
 have hkl : k < s.ls.length := by rw [h.l]; exact hk
 have hA : (flat Le.enc (s.ls.take k)).length = k * 8 := by rw [_root_.Go.Proofs.YtcgpbmafkgbbdaaDoorW.PrintWords.flen Le.len, List.length_take, Nat.min_eq_left (by omega)]
 have h1 : flat Le.enc s.ls = flat Le.enc (s.ls.take k) ++ (s.ls[k]).enc ++ flat Le.enc (s.ls.drop (k + 1)) := by
  have e : s.ls = s.ls.take k ++ s.ls[k] :: s.ls.drop (k + 1) := by rw [← List.drop_eq_getElem_cons hkl, List.take_append_drop]
  have e2 := congrArg (flat Le.enc) e
  rw [flat_append, flat_cons, ← List.append_assoc] at e2
  exact e2
 unfold St.enc St.setL
 rw [h1, List.append_assoc (flat Le.enc (s.ls.take k) ++ (s.ls[k]).enc)]
 have h2 := over_seg (A := flat Le.enc (s.ls.take k)) (E := (s.ls[k]).enc) (B := flat Le.enc (s.ls.drop (k + 1)) ++ (s.op.map Value.bool ++ s.un.map (Value.int .i64))) 0 l.enc (by simp [Le.len])
 rw [hA] at h2
 simp only [Nat.add_zero] at h2
 rw [h2, over_whole _ _ (by simp [Le.len]), List.set_eq_take_append_cons_drop, if_pos hkl, flat_append, flat_cons]
 simp only [List.append_assoc]
def St.force (s : St) (k : Nat) (t : Int) : Bool := s.opn k && decide (t ≤ (s.le k).un)
set_option maxHeartbeats 4000000 in
theorem force.calls (b : Nat) (s : St) (x6 t : Int) (W : World) (hB : BlkIs W b 76 s.enc) (hs : s.ok) (h0 : 0 ≤ x6) (h64 : x6 < 64) (r : Bool) (h : s.force x6.toNat t = r) :
 Calls Tryd.prog 38 #[.pointer (some ⟨b, 0, none⟩), .int .i64 x6, .int .i64 t] W fun e w' => e = .returned (.bool r) ∧ w' = W := by
 subst h
 have hk : x6.toNat < 64 := by omega
 have c1 : W.cell? ⟨b, 512 + x6.toNat, none⟩ = some (.bool (s.opn x6.toNat)) := (hB.at_ _).trans (St.get_op hs _ hk)
 have c2 : W.cell? ⟨b, x6.toNat * 8 + 6, none⟩ = some (.int .i64 (s.le x6.toNat).un) := (hB.at_ _).trans (St.get_le hs _ 6 hk (by omega))
 unfold St.force
 have HW : Aside0 (∃ w0 : World, w0 = W) := ⟨W, rfl⟩
 clear hB hs hk
 cases ho : s.opn x6.toNat with
 | false =>
  rw [ho] at c1
  clear ho
  go_enter Tryd.func38, Tryd.ntmps38
  go_wp2
  go_ret
  exact ⟨rfl, rfl⟩
 | true =>
  rw [ho] at c1
  clear ho
  cases hd : decide (t ≤ (s.le x6.toNat).un) with
  | false =>
   go_enter Tryd.func38, Tryd.ntmps38
   go_wp2
   go_ret
   exact ⟨rfl, rfl⟩
  | true =>
   go_enter Tryd.func38, Tryd.ntmps38
   go_wp2
   go_ret
   exact ⟨rfl, rfl⟩
def unI (i : Nat) : List Int := List.replicate i (-1) ++ List.replicate (64 - i) 0
def stI (i : Nat) : St := ⟨List.replicate 64 zLe, List.replicate 64 false, unI i⟩
theorem stI_ok (i : Nat) (hi : i ≤ 64) : (stI i).ok := ⟨by simp [stI], by simp [stI], by simp [stI, unI]; omega⟩
theorem stI_set (i : Nat) (hi : i < 64) : (stI i).setU i (-1) = stI (i + 1) := by
 have : (unI i).set i (-1) = unI (i + 1) := by
  unfold unI
  rw [List.set_append_right _ _ (by simp), List.length_replicate, Nat.sub_self, show 64 - i = (64 - (i + 1)) + 1 by omega, List.replicate_succ, List.set_cons_zero, List.replicate_succ', List.append_assoc]
  rfl
 unfold St.setU stI
 rw [this]
def St.zero : St := stI 64
theorem St.zero_ok : St.zero.ok := stI_ok 64 (Nat.le_refl _)
def zcS : Array Value := (stI 0).enc.toArray
theorem zcS_size : zcS.size = 640 := by kernel_rfl
theorem zcS_ne : zcS ≠ #[] := fun e => by
 have := zcS_size
 rw [e] at this
 cases this
theorem zcS_run (w : World) : (zeroValue 76).run Tryd.prog w = .ok (.agg zcS) w := by kernel_rfl
attribute [local go_sem ↓] zcS_run
attribute [local go_sem] zcS_size
attribute [local simp] zcS_ne
theorem st_one (s : St) : ∀ q ∈ s.enc, q.oneCell' = true := by
 intro q hq
 unfold St.enc at hq
 rcases List.mem_append.mp hq with h | h
 ·obtain ⟨l, _, hl⟩ := List.mem_flatMap.mp h
  unfold Le.enc at hl
  simp only [List.mem_cons, List.not_mem_nil, or_false] at hl
  rcases hl with rfl | rfl | rfl | rfl | rfl | rfl | rfl | rfl <;> rfl
 ·rcases List.mem_append.mp h with h | h
  ·obtain ⟨b, _, rfl⟩ := List.mem_map.mp h
   rfl
  ·obtain ⟨b, _, rfl⟩ := List.mem_map.mp h
   rfl
set_option maxHeartbeats 16000000 in
set_option maxRecDepth 100000 in
theorem empty.calls (w : World) : Calls Tryd.prog 36 #[] w fun e w' => e = .returned (.agg St.zero.enc.toArray) ∧ Below w.heap.size w w' := by
 go_enter Tryd.func36, Tryd.ntmps36
 go_wp2_with (fail)
 unfold zcS
 obtain ⟨W0, hW0⟩ : ∃ W0, W0 = (w.alloc (.cells (stI 0).enc.toArray 76)).alloc (.cells (stI 0).enc.toArray 76) := ⟨_, rfl⟩
 rw [← hW0]
 have HZ0 : Aside0 (BlkIs W0 w.heap.size 76 (stI 0).enc) := ⟨by rw [hW0]; exact BlkIs.alloc (heap_alloc_new w _) _⟩
 have HV0 : Aside0 (BlkIs W0 (w.heap.size + 1) 76 (stI 0).enc) := ⟨by
  rw [hW0]
  have := heap_alloc_new (w.alloc (.cells (stI 0).enc.toArray 76)) (.cells (stI 0).enc.toArray 76)
  rwa [World.size_alloc] at this⟩
 have HB0 : Aside0 (Below w.heap.size w W0) := ⟨by rw [hW0]; exact below_alloc (below_alloc (Below.refl _ _) _) _⟩
 clear hW0
 go_loopg [3] 64 (fun kq v3 w' => ∃ i : Nat, v3 = .int .i64 i ∧ Aside0 (i + kq = 64) ∧ Aside0 (BlkIs w' w.heap.size 76 (stI 0).enc) ∧ Aside0 (BlkIs w' (w.heap.size + 1) 76 (stI i).enc) ∧ Aside0 (Below w.heap.size w w'))
 case atStart => exact ⟨0, rfl, ⟨rfl⟩, HZ0, HV0, HB0⟩
 case round =>
  clear HZ0 HV0 HB0
  obtain ⟨i, rfl, HI, HZ, HV, HB⟩ := hrel
  cases gk with
  | zero =>
   have a1_ : decide ((i : Int) < 64) = false := decide_eq_false (by have := HI.out; omega)
   have a2_ : decide (i < 64) = false := decide_eq_false (by have := HI.out; omega)
   have HV2 : Aside0 (BlkIs wr (w.heap.size + 1) 76 St.zero.enc) := ⟨by
    have := HV.out
    rw [show i = 64 by have := HI.out; omega] at this
    exact this⟩
   go_wp2_with (first | ((with_reducible refine gate_ (.load 76 (.tmp 1)) rfl ?_); refine blk_load rfl 76 (.tmp 1) rfl HV2.out rfl _ Tryd.underlying76 rfl (by rw [St.len St.zero_ok]; kernel_rfl) ?_) | ((with_reducible refine gate_ (.store 76 (.tmp 0) (.tmp 10)) rfl ?_); refine blk_store rfl rfl 76 (.tmp 0) (.tmp 10) rfl HZ.out 0 (.agg St.zero.enc.toArray) St.zero.enc St.zero.enc ⟨_, rfl, rfl⟩ rfl rfl (by rw [St.len St.zero_ok]; kernel_rfl) (by rw [St.len St.zero_ok, St.len (stI_ok 0 (by omega))]; omega) ?h1 ?hE ?_; (case h1 => exact st_one _); (case hE => exact over_whole _ _ (by rw [St.len St.zero_ok, St.len (stI_ok 0 (by omega))])); intro w1 HZ1 HG1))
   refine bodyPost_ret (results_cell rfl _ rfl HZ1.out _ Tryd.underlying76 rfl (by rw [St.len St.zero_ok]; kernel_rfl)) rfl ?_
   exact ⟨rfl, pw_below_grown HB.out _ HB.out.size HG1.out (by intro k hk; injection hk with hk; omega)⟩
  | succ k1 =>
   have hil : i < 64 := by have := HI.out; omega
   have a1_ : decide ((i : Int) < 64) = true := decide_eq_true (by omega)
   have a2_ : decide (i < 64) = true := decide_eq_true hil
   have a5_ : (i : Int) ≤ 9223372036854775806 := by omega
   have pi1 : 0 ≤ (i : Int) := by omega
   have pi2 : (i : Int) < 64 := by omega
   have HIL := Aside0.mk hil
   have HV1 : Aside0 (BlkIs wr (w.heap.size + 1) 76 (stI i).enc) := HV
   clear HV
   go_wp2_with (((with_reducible refine gate_ (.store 3 (.tmp 8) (.const (.int .i64 (-1)))) rfl ?_); refine blk_store rfl rfl 3 (.tmp 8) (.const (.int .i64 (-1))) rfl HV1.out (576 + i) (.int .i64 (-1)) [.int .i64 (-1)] (stI (i + 1)).enc ⟨_, rfl, by first | rfl | (simp; done) | (simp; omega) | omega⟩ rfl rfl (by kernel_rfl) (by rw [St.len (stI_ok i (by have := HIL.out; omega))]; have := HIL.out; show 576 + i + 1 ≤ 640; omega) ?h1 ?hE ?_; (case h1 => intro q hq; rw [List.mem_singleton] at hq; subst hq; rfl); (case hE => rw [St.put_un (stI_ok i (by have := HIL.out; omega)) i HIL.out, stI_set i HIL.out]); intro w1 HV2 HG2))
   have HZ2 := Aside0.mk (HZ.out.grown HG2.out (fun e => by injection e with e; omega))
   have HB2 : Aside0 (Below w.heap.size w w1) := ⟨pw_below_grown HB.out _ HB.out.size HG2.out (by intro k hk; injection hk with hk; omega)⟩
   go_roundg k1
   case measure => omega
   case rel => exact ⟨i + 1, by simp, ⟨by have := HI.out; omega⟩, HZ2, HV2, HB2⟩
end
section
attribute [local go_sem ↓] some_setCell
def Le.till (l : Le) (u : Int) : Le := ⟨l.o, l.k, l.s, l.h, l.z, l.fr, u, l.rc⟩
def Le.got (l : Le) : Le := ⟨l.o, l.k, l.s, l.h, l.z, l.fr, l.un, true⟩
def St.sayS (s : St) (x : S51) : Option St :=
 if x.f5 = 1 then (if x.f4 ≤ s.unt x.f6.toNat then none else some (((s.setL x.f6.toNat ⟨x.f1, x.f0, x.f6, x.f7, x.f8, x.f4, x.f9, false⟩).setO x.f6.toNat true).setU x.f6.toNat x.f9))
 else if x.f5 = 2 then (if s.force x.f6.toNat x.f4 = true then (if x.f9 ≤ s.unt x.f6.toNat then none else some ((s.setL x.f6.toNat ((s.le x.f6.toNat).till x.f9)).setU x.f6.toNat x.f9)) else none)
 else if x.f5 = 3 ∨ x.f5 = 5 then (if s.force x.f6.toNat x.f4 = true then some (s.setO x.f6.toNat false) else none)
 else if x.f5 = 4 then (if s.force x.f6.toNat x.f4 = true then (if (s.le x.f6.toNat).h = x.f7 then (if (s.le x.f6.toNat).z = x.f8 then some (s.setL x.f6.toNat (s.le x.f6.toNat).got) else none) else none) else none)
 else some s
def SayPost (b : Nat) (s : St) (x : S51) (W w' : World) : Prop := BlkIs w' b 76 ((s.sayS x).getD s).enc ∧ W.grownBy w' (some b)
theorem gdrewN (w : World) (n : Nat) (row : Option Nat) : w.grownBy (w.drewN n) row := ⟨rfl, rfl, rfl, Nat.le_refl _, fun _ _ _ => rfl⟩
theorem gdrew (w : World) (row : Option Nat) : w.grownBy w.drew row := ⟨rfl, rfl, rfl, Nat.le_refl _, fun _ _ _ => rfl⟩
theorem grown_new {w w1 w2 : World} {g : Nat} {r : Option Nat} (h : w.grownBy w1 r) (h2 : w1.grownBy w2 (some g)) (hg : w.heap.size ≤ g) : w.grownBy w2 r :=
 ⟨h2.os.trans h.os, h2.tape.trans h.tape, h2.output.trans h.output, Nat.le_trans h.size h2.size, fun i hi hr => (h2.block i (Nat.lt_of_lt_of_le hi h.size) (fun e => by injection e with e; omega)).trans (h.block i hi hr)⟩
theorem le_one (l : Le) : ∀ q ∈ l.enc, q.oneCell' = true := by
 intro q hl
 unfold Le.enc at hl
 simp only [List.mem_cons, List.not_mem_nil, or_false] at hl
 rcases hl with rfl | rfl | rfl | rfl | rfl | rfl | rfl | rfl <;> rfl
def say.T6 : Bool × List (List Nat × List Nat) := (true, [([], []), ([], []), ([1], [1]), ([], []), ([], []), ([4], [4]), ([], []), ([6], [6]), ([0], [0]), ([8], [8]), ([9, 2, 0, 1, 2], [2, 9]), ([10, 0, 1, 2], [10]), ([3], [3]), ([12], [12]), ([13, 5, 0, 1, 2, 3, 4, 5, 6, 7, 8, 9, 10, 11], [5, 13]), ([14, 7, 11, 0, 1, 2, 3, 4, 5, 6, 7, 8, 9, 10, 11], [7, 14])])
def say.B6 : List Nat := [0, 0, 2, 0, 0, 16, 0, 64, 1, 257, 775, 1799, 8, 4104, 16383, 32767]
theorem say.tab6 : rtab .any (opsOf Tryd.f37 6) = say.T6 := by kernel_rfl
theorem say.bits6 : waitsOk say.T6.2 say.B6 = true := by kernel_rfl
def say.T10 : Bool × List (List Nat × List Nat) := (true, [([], []), ([], []), ([1], [1]), ([], []), ([], []), ([4], [4]), ([], []), ([6], [6]), ([], []), ([8], [8]), ([0], [0]), ([10], [10]), ([11, 2, 0, 1, 2, 6, 7], [2, 11]), ([12, 0, 1, 2, 6, 7], [12]), ([13, 7, 0, 1, 2, 6, 7], [7, 13]), ([3], [3]), ([15], [15]), ([16, 5, 0, 1, 2, 3, 4, 5, 6, 7, 8, 9, 10, 11, 12, 13, 14], [5, 16]), ([17, 9, 14, 0, 1, 2, 3, 4, 5, 6, 7, 8, 9, 10, 11, 12, 13, 14], [9, 17])])
def say.B10 : List Nat := [0, 0, 2, 0, 0, 16, 0, 64, 0, 256, 1, 1025, 3271, 7367, 15559, 8, 32776, 131071, 262143]
theorem say.tab10 : rtab .any (opsOf Tryd.f37 10) = say.T10 := by kernel_rfl
theorem say.bits10 : waitsOk say.T10.2 say.B10 = true := by kernel_rfl
def say.T17 : Bool × List (List Nat × List Nat) := (true, [([], []), ([], []), ([1], [1]), ([0], [0]), ([3], [3]), ([4, 2], [2, 4]), ([5], [5]), ([], []), ([7, 6, 0, 1, 2, 3, 4, 5, 6, 7], [6, 7])])
def say.B17 : List Nat := [0, 0, 2, 1, 9, 31, 63, 0, 255]
theorem say.tab17 : rtab .any (opsOf Tryd.f37 17) = say.T17 := by kernel_rfl
theorem say.bits17 : waitsOk say.T17.2 say.B17 = true := by kernel_rfl
set_option maxHeartbeats 16000000 in
set_option maxRecDepth 100000 in
theorem say.calls (b : Nat) (s : St) (x : S51) (W : World) (hB : BlkIs W b 76 s.enc) (hs : s.ok) (hk : 1 ≤ x.f5 → x.f5 ≤ 5 → 0 ≤ x.f6 ∧ x.f6 < 64) (r : Bool) (hr : (s.sayS x).isSome = r) :
 Calls Tryd.prog 37 #[.pointer (some ⟨b, 0, none⟩), .agg #[x.f0, x.f1, x.f2, x.f3, x.f4, x.f5, x.f6, x.f7, x.f8, x.f9, x.f10]] W fun e w' => e = .returned (.bool r) ∧ SayPost b s x W w' := by
 have hu := Tryd.underlying51
 have huL := Tryd.underlying41
 obtain ⟨W0, hW0⟩ : ∃ W0, W0 = W.alloc (.cells #[x.f0, x.f1, x.f2, x.f3, x.f4, x.f5, x.f6, x.f7, x.f8, x.f9, x.f10] 51) := ⟨_, rfl⟩
 have hX0 : BlkIs W0 W.heap.size 51 [x.f0, x.f1, x.f2, x.f3, x.f4, x.f5, x.f6, x.f7, x.f8, x.f9, x.f10] := by rw [hW0]; exact heap_alloc_new W _
 have hB0 : BlkIs W0 b 76 s.enc := by rw [hW0]; exact hB.alloc _
 have hG0 : W.grownBy W0 (some b) := by rw [hW0]; exact grown_of_below (below_alloc (Below.refl _ _) _) _
 have hne : ¬ W.heap.size = b := by have := hB.lt; omega
 have HX0 := As hX0
 have SB0 := As hB0
 have HG0 := As hG0
 have HW := As hW0
 have HOK := As hs
 have HNE : Aside0 (some W.heap.size ≠ some b) := ⟨fun e => hne (by injection e)⟩
 clear hB hX0 hB0 hG0 hW0 hs
 unfold SayPost
 by_cases k1 : x.f5 = 1
 ·obtain ⟨f0, f64⟩ := hk (by omega) (by omega)
  have HKL : Aside0 (x.f6.toNat < 64) := ⟨by omega⟩
  have d1 : (x.f5 == 1) = true := beq_iff_eq.mpr k1
  cases hc : decide (x.f4 ≤ s.unt x.f6.toNat) with
  | true =>
   have HT : Aside0 (s.sayS x = none) := ⟨by unfold St.sayS; rw [if_pos k1, if_pos (of_decide_eq_true hc)]⟩
   rw [HT.out] at hr
   have hr2 : r = false := hr.symm
   subst hr2
   clear hr
   clear k1 hk
   go_enter Tryd.func37, Tryd.ntmps37
   go_upto_region 1 with (fail)
   rw [← HW.out]
   have hq0_ := cs11 HX0.out
   have u_0 : W0.cell? ⟨b, 576 + x.f6.toNat, none⟩ = some (.int .i64 (s.unt x.f6.toNat)) := (SB0.out.at_ _).trans (St.get_un HOK.out _ HKL.out)
   go_upto_region 3 with (fail)
   go_quiet ((fail))
   go_wp2
   go_ret
   exact ⟨rfl, by rw [HT.out]; exact SB0.out.drewN _, grown2 HG0.out (gdrewN _ _ _)⟩
  | false =>
   have HT : Aside0 (s.sayS x = some (((s.setL x.f6.toNat ⟨x.f1, x.f0, x.f6, x.f7, x.f8, x.f4, x.f9, false⟩).setO x.f6.toNat true).setU x.f6.toNat x.f9)) := ⟨by unfold St.sayS; rw [if_pos k1, if_neg (of_decide_eq_false hc)]⟩
   rw [HT.out] at hr
   have hr2 : r = true := hr.symm
   subst hr2
   clear hr
   clear k1 hk
   go_enter Tryd.func37, Tryd.ntmps37
   go_upto_region 1 with (fail)
   rw [← HW.out]
   have hq0_ := cs11 HX0.out
   have u_0 : W0.cell? ⟨b, 576 + x.f6.toNat, none⟩ = some (.int .i64 (s.unt x.f6.toNat)) := (SB0.out.at_ _).trans (St.get_un HOK.out _ HKL.out)
   go_upto_region 3 with (fail)
   go_quiet ((fail))
   go_upto_region 5 with (fail)
   have HX1 := As (HX0.out.drewN nq)
   have SB1 := As (SB0.out.drewN nq)
   have HG1 := As (grown2 HG0.out (gdrewN _ nq _))
   generalize (World.drewN _ nq) = w1 at HX1 SB1 HG1 ⊢
   have hq1_ := cs11 HX1.out
   go_still_tail 21, (by kernel_rfl)
   go_upto_region 6 with (((with_reducible refine gate_ (.store 41 (.tmp 40) (.tmp 37)) rfl ?_); refine blk_store rfl rfl 41 (.tmp 40) (.tmp 37) rfl (SB1.out.drew) (x.f6.toNat * 8) (.agg #[x.f1, x.f0, x.f6, x.f7, x.f8, x.f4, x.f9, .bool false]) (⟨x.f1, x.f0, x.f6, x.f7, x.f8, x.f4, x.f9, false⟩ : Le).enc (s.setL x.f6.toNat ⟨x.f1, x.f0, x.f6, x.f7, x.f8, x.f4, x.f9, false⟩).enc ?ha ?hx ?hu ?ht ?hf ?h1 ?hE ?_; (case ha => first | exact ⟨_, rfl, rfl⟩ | exact ⟨_, rfl, by omega⟩); (case hx => rfl); (case hu => rfl); (case ht => kernel_rfl); (case hf => rw [St.len HOK.out]; have := HKL.out; show x.f6.toNat * 8 + 8 ≤ 640; omega); (case h1 => exact le_one _); (case hE => exact St.put_le HOK.out _ HKL.out _); intro w2 SB2 hg2; have HX2 := As (HX1.out.drew.grown hg2.out HNE.out); have HG2 := As (grown2 (grown2 HG1.out (gdrew _ _)) hg2.out)))
   have HOK2 : Aside0 (s.setL x.f6.toNat ⟨x.f1, x.f0, x.f6, x.f7, x.f8, x.f4, x.f9, false⟩).ok := ⟨HOK.out.setL _ _⟩
   have HOK3 : Aside0 ((s.setL x.f6.toNat ⟨x.f1, x.f0, x.f6, x.f7, x.f8, x.f4, x.f9, false⟩).setO x.f6.toNat true).ok := ⟨HOK2.out.setO _ _⟩
   refine start_ (n := 16) (S := fun w' => w'.cell? ⟨W.heap.size, 6, none⟩ = some (x.f6) ∧ w'.cell? ⟨W.heap.size, 9, none⟩ = some (x.f9)) (ds := []) (marksOf 16 0) (by kernel_rfl) rfl rfl ⟨HX2.out.drew.at_ 6, HX2.out.drew.at_ 9⟩ (fun hHeld => ?_)
   refine with_tabW say.tab6 say.bits6 (fun HT_ HW_ => ?_)
   have HX3 := As HX2.out.drew
   have SB3 := As SB2.out.drew
   have HG3 := As (grown2 HG2.out (gdrew _ _))
   generalize w2.drew = w3 at HX3 SB3 HG3 hHeld ⊢
   refine pv_ 0 41 16 1 ?_
   refine pv_ 1 42 16 3 ?_
   refine ta_ 2 43 16 7 ?_ rfl rfl (take_ofW HT_.out HW_.out (by kernel_rfl)) (fun _ _ _ h => h) (by rfl) ?_ hHeld ?_ ?_ ?_
   rotate_left
   ·rintro w' ⟨s0, s1⟩
    go_simp
    with_reducible rfl
   rotate_left
   ·simp only [Act.put, List.setIfInBounds_toArray, List.set_cons_zero, List.set_cons_succ, q1, q2, q3, i64_w, i32_w]
    rfl
   refine pv_ 3 44 16 15 ?_
   refine pv_ 4 45 16 31 ?_
   refine ta_ 5 46 16 63 ?_ rfl rfl (take_ofW HT_.out HW_.out (by kernel_rfl)) (fun _ _ _ h => h) (by rfl) ?_ hHeld ?_ ?_ ?_
   rotate_left
   ·rintro w' ⟨s0, s1⟩
    go_simp
    with_reducible rfl
   rotate_left
   ·simp only [Act.put, List.setIfInBounds_toArray, List.set_cons_zero, List.set_cons_succ, q1, q2, q3, i64_w, i32_w]
    rfl
   refine pv_ 6 47 16 127 ?_
   refine ta_ 7 48 16 255 ?_ rfl rfl (take_ofW HT_.out HW_.out (by kernel_rfl)) (fun _ _ _ h => h) (by rfl) ?_ hHeld ?_ ?_ ?_
   rotate_left
   ·rintro w' ⟨s0, s1⟩
    go_simp
    with_reducible rfl
   rotate_left
   ·simp only [Act.put, List.setIfInBounds_toArray, List.set_cons_zero, List.set_cons_succ, q1, q2, q3, i64_w, i32_w]
    rfl
   refine pv_ 8 49 16 511 ?_
   refine pv_ 9 50 16 1023 ?_
   refine pv_ 10 51 16 2047 ?_
   refine pv_ 12 52 16 6143 ?_
   refine pv_ 13 53 16 14335 ?_
   refine one_ (i := 11) (N := none) (marksOf 16 16383) rfl rfl (one_of HT_.out (by kernel_rfl)) (by decide) (fun K hK => ?_)
   refine blk_store_step ?hw ?hN 4 (.tmp 51) (.const (.bool true)) ?ho SB3.out (512 + x.f6.toNat) (.bool true) [.bool true] ((s.setL x.f6.toNat ⟨x.f1, x.f0, x.f6, x.f7, x.f8, x.f4, x.f9, false⟩).setO x.f6.toNat true).enc ?ha ?hx ?hu ?ht ?hf ?h1 ?hE ?_
   case hw => rfl
   case hN => rfl
   case ho => rfl
   case ha => first | exact ⟨_, rfl, rfl⟩ | exact ⟨_, rfl, by omega⟩
   case hx => rfl
   case hu => rfl
   case ht => kernel_rfl
   case hf => rw [St.len HOK2.out]; have := HKL.out; show 512 + x.f6.toNat + 1 ≤ 640; omega
   case h1 => intro q hq; rw [List.mem_singleton] at hq; subst hq; rfl
   case hE => exact St.put_op HOK2.out _ HKL.out _
   intro w4 SB4 hg4
   have HX4 := As (HX3.out.grown hg4.out HNE.out)
   have HG4 := As (grown2 HG3.out hg4.out)
   clear hg4
   refine hK.out _ _ ⟨HX4.out.at_ 6, HX4.out.at_ 9⟩ (fun hHeld => ?_)
   clear hK K
   refine pv_ 14 54 16 32767 ?_
   refine one_ (i := 15) (N := none) (marksOf 16 65535) rfl rfl (one_of HT_.out (by kernel_rfl)) (by decide) (fun K hK => ?_)
   refine blk_store_step ?hw ?hN 3 (.tmp 54) (.tmp 48) ?ho SB4.out (576 + x.f6.toNat) (x.f9) [x.f9] (((s.setL x.f6.toNat ⟨x.f1, x.f0, x.f6, x.f7, x.f8, x.f4, x.f9, false⟩).setO x.f6.toNat true).setU x.f6.toNat x.f9).enc ?ha ?hx ?hu ?ht ?hf ?h1 ?hE ?_
   case hw => rfl
   case hN => rfl
   case ho => rfl
   case ha => first | exact ⟨_, rfl, rfl⟩ | exact ⟨_, rfl, by omega⟩
   case hx => rfl
   case hu => rfl
   case ht => kernel_rfl
   case hf => rw [St.len HOK3.out]; have := HKL.out; show 576 + x.f6.toNat + 1 ≤ 640; omega
   case h1 => intro q hq; rw [List.mem_singleton] at hq; subst hq; rfl
   case hE => exact St.put_un HOK3.out _ HKL.out _
   intro w5 SB5 hg5
   have HX5 := As (HX4.out.grown hg5.out HNE.out)
   have HG5 := As (grown2 HG4.out hg5.out)
   clear hg5
   refine hK.out _ _ ⟨HX5.out.at_ 6, HX5.out.at_ 9⟩ (fun hHeld => ?_)
   clear hK K
   refine done_ (done_of HT_.out (by kernel_rfl)) ?_
   (try simp only [Act.put, List.setIfInBounds_toArray, List.set_cons_zero, List.set_cons_succ])
   go_wp2
   go_ret
   exact ⟨rfl, by rw [HT.out]; exact SB5.out, HG5.out⟩
 ·have d1 : (x.f5 == 1) = false := beq_eq_false_iff_ne.mpr k1
  by_cases k2 : x.f5 = 2
  ·obtain ⟨f0, f64⟩ := hk (by omega) (by omega)
   have HKL : Aside0 (x.f6.toNat < 64) := ⟨by omega⟩
   have d2 : (x.f5 == 2) = true := beq_iff_eq.mpr k2
   cases hf : s.force x.f6.toNat x.f4 with
   | false =>
    have HT : Aside0 (s.sayS x = none) := ⟨by unfold St.sayS; rw [if_neg k1, if_pos k2, if_neg (by rw [hf]; decide)]⟩
    rw [HT.out] at hr
    have hr2 : r = false := hr.symm
    subst hr2
    clear hr
    clear k1 k2 hk
    go_enter Tryd.func37, Tryd.ntmps37
    go_upto_region 1 with (fail)
    rw [← HW.out]
    have hq0_ := cs11 HX0.out
    have u_0 : W0.cell? ⟨b, 576 + x.f6.toNat, none⟩ = some (.int .i64 (s.unt x.f6.toNat)) := (SB0.out.at_ _).trans (St.get_un HOK.out _ HKL.out)
    have HF : Aside0 (∀ n, Calls Tryd.prog 38 #[.pointer (some ⟨b, 0, none⟩), x.f6, x.f4] (W0.drewN n) fun e w' => e = .returned (.bool false) ∧ w' = W0.drewN n) := ⟨fun n => force.calls b s x.f6 x.f4 _ (SB0.out.drewN n) HOK.out f0 f64 false hf⟩
    go_upto_region 8 with (fail)
    go_quiet ((go_at_call 38; exact Calls.quiet_of_same (HF.out _)))
    go_wp2
    go_ret
    exact ⟨rfl, by rw [HT.out]; exact SB0.out.drewN _, grown2 HG0.out (gdrewN _ _ _)⟩
   | true =>
    cases hc : decide (x.f9 ≤ s.unt x.f6.toNat) with
    | true =>
     have HT : Aside0 (s.sayS x = none) := ⟨by unfold St.sayS; rw [if_neg k1, if_pos k2, if_pos hf, if_pos (of_decide_eq_true hc)]⟩
     rw [HT.out] at hr
     have hr2 : r = false := hr.symm
     subst hr2
     clear hr
     clear k1 k2 hk
     go_enter Tryd.func37, Tryd.ntmps37
     go_upto_region 1 with (fail)
     rw [← HW.out]
     have hq0_ := cs11 HX0.out
     have u_0 : W0.cell? ⟨b, 576 + x.f6.toNat, none⟩ = some (.int .i64 (s.unt x.f6.toNat)) := (SB0.out.at_ _).trans (St.get_un HOK.out _ HKL.out)
     have HF : Aside0 (∀ n, Calls Tryd.prog 38 #[.pointer (some ⟨b, 0, none⟩), x.f6, x.f4] (W0.drewN n) fun e w' => e = .returned (.bool true) ∧ w' = W0.drewN n) := ⟨fun n => force.calls b s x.f6 x.f4 _ (SB0.out.drewN n) HOK.out f0 f64 true hf⟩
     go_upto_region 8 with (fail)
     go_quiet ((go_at_call 38; exact Calls.quiet_of_same (HF.out _)))
     go_wp2
     go_ret
     exact ⟨rfl, by rw [HT.out]; exact SB0.out.drewN _, grown2 HG0.out (gdrewN _ _ _)⟩
    | false =>
     have HT : Aside0 (s.sayS x = some ((s.setL x.f6.toNat ((s.le x.f6.toNat).till x.f9)).setU x.f6.toNat x.f9)) := ⟨by unfold St.sayS; rw [if_neg k1, if_pos k2, if_pos hf, if_neg (of_decide_eq_false hc)]⟩
     rw [HT.out] at hr
     have hr2 : r = true := hr.symm
     subst hr2
     clear hr
     clear k1 k2 hk
     go_enter Tryd.func37, Tryd.ntmps37
     go_upto_region 1 with (fail)
     rw [← HW.out]
     have hq0_ := cs11 HX0.out
     have u_0 : W0.cell? ⟨b, 576 + x.f6.toNat, none⟩ = some (.int .i64 (s.unt x.f6.toNat)) := (SB0.out.at_ _).trans (St.get_un HOK.out _ HKL.out)
     have HF : Aside0 (∀ n, Calls Tryd.prog 38 #[.pointer (some ⟨b, 0, none⟩), x.f6, x.f4] (W0.drewN n) fun e w' => e = .returned (.bool true) ∧ w' = W0.drewN n) := ⟨fun n => force.calls b s x.f6 x.f4 _ (SB0.out.drewN n) HOK.out f0 f64 true hf⟩
     go_upto_region 8 with (fail)
     go_quiet ((go_at_call 38; exact Calls.quiet_of_same (HF.out _)))
     go_upto_region 10 with (fail)
     have HX1 := As (HX0.out.drewN nq)
     have SB1 := As (SB0.out.drewN nq)
     have HG1 := As (grown2 HG0.out (gdrewN _ nq _))
     generalize (World.drewN _ nq) = w2 at HX1 SB1 HG1 ⊢
     have HOK2 : Aside0 (s.setL x.f6.toNat ((s.le x.f6.toNat).till x.f9)).ok := ⟨HOK.out.setL _ _⟩
     refine start_ (n := 19) (S := fun w' => w'.cell? ⟨W.heap.size, 6, none⟩ = some (x.f6) ∧ w'.cell? ⟨W.heap.size, 9, none⟩ = some (x.f9)) (ds := []) (marksOf 19 0) (by kernel_rfl) rfl rfl ⟨HX1.out.drew.at_ 6, HX1.out.drew.at_ 9⟩ (fun hHeld => ?_)
     refine with_tabW say.tab10 say.bits10 (fun HT_ HW_ => ?_)
     have HX3 := As HX1.out.drew
     have SB3 := As SB1.out.drew
     have HG3 := As (grown2 HG1.out (gdrew _ _))
     generalize w2.drew = w3 at HX3 SB3 HG3 hHeld ⊢
     refine pv_ 0 76 19 1 ?_
     refine pv_ 1 77 19 3 ?_
     refine ta_ 2 78 19 7 ?_ rfl rfl (take_ofW HT_.out HW_.out (by kernel_rfl)) (fun _ _ _ h => h) (by rfl) ?_ hHeld ?_ ?_ ?_
     rotate_left
     ·rintro w' ⟨s0, s1⟩
      go_simp
      with_reducible rfl
     rotate_left
     ·simp only [Act.put, List.setIfInBounds_toArray, List.set_cons_zero, List.set_cons_succ, q1, q2, q3, i64_w, i32_w]
      rfl
     refine pv_ 3 79 19 15 ?_
     refine pv_ 4 80 19 31 ?_
     refine ta_ 5 81 19 63 ?_ rfl rfl (take_ofW HT_.out HW_.out (by kernel_rfl)) (fun _ _ _ h => h) (by rfl) ?_ hHeld ?_ ?_ ?_
     rotate_left
     ·rintro w' ⟨s0, s1⟩
      go_simp
      with_reducible rfl
     rotate_left
     ·simp only [Act.put, List.setIfInBounds_toArray, List.set_cons_zero, List.set_cons_succ, q1, q2, q3, i64_w, i32_w]
      rfl
     refine pv_ 6 82 19 127 ?_
     refine ta_ 7 83 19 255 ?_ rfl rfl (take_ofW HT_.out HW_.out (by kernel_rfl)) (fun _ _ _ h => h) (by rfl) ?_ hHeld ?_ ?_ ?_
     rotate_left
     ·rintro w' ⟨s0, s1⟩
      go_simp
      with_reducible rfl
     rotate_left
     ·simp only [Act.put, List.setIfInBounds_toArray, List.set_cons_zero, List.set_cons_succ, q1, q2, q3, i64_w, i32_w]
      rfl
     refine pv_ 8 84 19 511 ?_
     refine ta_ 9 85 19 1023 ?_ rfl rfl (take_ofW HT_.out HW_.out (by kernel_rfl)) (fun _ _ _ h => h) (by rfl) ?_ hHeld ?_ ?_ ?_
     rotate_left
     ·rintro w' ⟨s0, s1⟩
      go_simp
      with_reducible rfl
     rotate_left
     ·simp only [Act.put, List.setIfInBounds_toArray, List.set_cons_zero, List.set_cons_succ, q1, q2, q3, i64_w, i32_w]
      rfl
     refine pv_ 10 86 19 2047 ?_
     refine pv_ 11 87 19 4095 ?_
     refine pv_ 12 88 19 8191 ?_
     refine pv_ 13 89 19 16383 ?_
     refine pv_ 15 90 19 49151 ?_
     refine pv_ 16 91 19 114687 ?_
     refine one_ (i := 14) (N := none) (marksOf 19 131071) rfl rfl (one_of HT_.out (by kernel_rfl)) (by decide) (fun K hK => ?_)
     refine blk_store_step ?hw ?hN 3 (.tmp 89) (.tmp 83) ?ho SB3.out (x.f6.toNat * 8 + 6) (x.f9) [x.f9] (s.setL x.f6.toNat ((s.le x.f6.toNat).till x.f9)).enc ?ha ?hx ?hu ?ht ?hf ?h1 ?hE ?_
     case hw => rfl
     case hN => rfl
     case ho => rfl
     case ha => first | exact ⟨_, rfl, rfl⟩ | exact ⟨_, rfl, by omega⟩
     case hx => rfl
     case hu => rfl
     case ht => kernel_rfl
     case hf => rw [St.len HOK.out]; have := HKL.out; show x.f6.toNat * 8 + 6 + 1 ≤ 640; omega
     case h1 => intro q hq; rw [List.mem_singleton] at hq; subst hq; rfl
     case hE => exact St.put_one HOK.out _ 6 HKL.out (by omega) _ _ rfl
     intro w4 SB4 hg4
     have HX4 := As (HX3.out.grown hg4.out HNE.out)
     have HG4 := As (grown2 HG3.out hg4.out)
     clear hg4
     refine hK.out _ _ ⟨HX4.out.at_ 6, HX4.out.at_ 9⟩ (fun hHeld => ?_)
     clear hK K
     refine pv_ 17 92 19 262143 ?_
     refine one_ (i := 18) (N := none) (marksOf 19 524287) rfl rfl (one_of HT_.out (by kernel_rfl)) (by decide) (fun K hK => ?_)
     refine blk_store_step ?hw ?hN 3 (.tmp 92) (.tmp 85) ?ho SB4.out (576 + x.f6.toNat) (x.f9) [x.f9] ((s.setL x.f6.toNat ((s.le x.f6.toNat).till x.f9)).setU x.f6.toNat x.f9).enc ?ha ?hx ?hu ?ht ?hf ?h1 ?hE ?_
     case hw => rfl
     case hN => rfl
     case ho => rfl
     case ha => first | exact ⟨_, rfl, rfl⟩ | exact ⟨_, rfl, by omega⟩
     case hx => rfl
     case hu => rfl
     case ht => kernel_rfl
     case hf => rw [St.len HOK2.out]; have := HKL.out; show 576 + x.f6.toNat + 1 ≤ 640; omega
     case h1 => intro q hq; rw [List.mem_singleton] at hq; subst hq; rfl
     case hE => exact St.put_un HOK2.out _ HKL.out _
     intro w5 SB5 hg5
     have HX5 := As (HX4.out.grown hg5.out HNE.out)
     have HG5 := As (grown2 HG4.out hg5.out)
     clear hg5
     refine hK.out _ _ ⟨HX5.out.at_ 6, HX5.out.at_ 9⟩ (fun hHeld => ?_)
     clear hK K
     refine done_ (done_of HT_.out (by kernel_rfl)) ?_
     (try simp only [Act.put, List.setIfInBounds_toArray, List.set_cons_zero, List.set_cons_succ])
     go_wp2
     go_ret
     exact ⟨rfl, by rw [HT.out]; exact SB5.out, HG5.out⟩
  ·have d2 : (x.f5 == 2) = false := beq_eq_false_iff_ne.mpr k2
   by_cases k3 : x.f5 = 3
   ·obtain ⟨f0, f64⟩ := hk (by omega) (by omega)
    have HKL : Aside0 (x.f6.toNat < 64) := ⟨by omega⟩
    have d3 : (x.f5 == 3) = true := beq_iff_eq.mpr k3
    cases hf : s.force x.f6.toNat x.f4 with
    | false =>
     have HT : Aside0 (s.sayS x = none) := ⟨by unfold St.sayS; rw [if_neg k1, if_neg k2, if_pos (.inl k3), if_neg (by rw [hf]; decide)]⟩
     rw [HT.out] at hr
     have hr2 : r = false := hr.symm
     subst hr2
     clear hr
     clear k1 k2 k3 hk
     have HFF := As hf
     clear hf
     go_enter Tryd.func37, Tryd.ntmps37
     go_upto_region 1 with (fail)
     rw [← HW.out]
     have hq0_ := cs11 HX0.out
     go_wp2_with ((go_at_call 38; (with_reducible refine (force.calls b s x.f6 x.f4 _ SB0.out HOK.out f0 f64 false HFF.out).mono ?_); rintro e w3 ⟨rfl, rfl⟩))
     go_ret
     exact ⟨rfl, by rw [HT.out]; exact SB0.out, HG0.out⟩
    | true =>
     have HT : Aside0 (s.sayS x = some (s.setO x.f6.toNat false)) := ⟨by unfold St.sayS; rw [if_neg k1, if_neg k2, if_pos (.inl k3), if_pos hf]⟩
     rw [HT.out] at hr
     have hr2 : r = true := hr.symm
     subst hr2
     clear hr
     clear k1 k2 k3 hk
     have HFF := As hf
     clear hf
     go_enter Tryd.func37, Tryd.ntmps37
     go_upto_region 1 with (fail)
     rw [← HW.out]
     have hq0_ := cs11 HX0.out
     go_upto_region 15 with ((go_at_call 38; (with_reducible refine (force.calls b s x.f6 x.f4 _ SB0.out HOK.out f0 f64 true HFF.out).mono ?_); rintro e w3 ⟨rfl, rfl⟩))
     go_still_tail 6, (by kernel_rfl)
     go_wp2_with (((with_reducible refine gate_ (.store 4 (.tmp 108) (.const (.bool false))) rfl ?_); refine blk_store rfl rfl 4 (.tmp 108) (.const (.bool false)) rfl (SB0.out.drew) (512 + x.f6.toNat) (.bool false) [.bool false] (s.setO x.f6.toNat false).enc ?ha ?hx ?hu ?ht ?hf ?h1 ?hE ?_; (case ha => first | exact ⟨_, rfl, rfl⟩ | exact ⟨_, rfl, by omega⟩); (case hx => rfl); (case hu => rfl); (case ht => kernel_rfl); (case hf => rw [St.len HOK.out]; have := HKL.out; show 512 + x.f6.toNat + 1 ≤ 640; omega); (case h1 => intro q hq; rw [List.mem_singleton] at hq; subst hq; rfl); (case hE => exact St.put_op HOK.out _ HKL.out _); intro w2 SB2 hg2; have HG2 := As (grown2 (grown2 HG0.out (gdrew _ _)) hg2.out)))
     go_ret
     exact ⟨rfl, by rw [HT.out]; exact SB2.out, HG2.out⟩
   ·have d3 : (x.f5 == 3) = false := beq_eq_false_iff_ne.mpr k3
    by_cases k5 : x.f5 = 5
    ·obtain ⟨f0, f64⟩ := hk (by omega) (by omega)
     have HKL : Aside0 (x.f6.toNat < 64) := ⟨by omega⟩
     have d5 : (x.f5 == 5) = true := beq_iff_eq.mpr k5
     cases hf : s.force x.f6.toNat x.f4 with
     | false =>
      have HT : Aside0 (s.sayS x = none) := ⟨by unfold St.sayS; rw [if_neg k1, if_neg k2, if_pos (.inr k5), if_neg (by rw [hf]; decide)]⟩
      rw [HT.out] at hr
      have hr2 : r = false := hr.symm
      subst hr2
      clear hr
      clear k1 k2 k3 k5 hk
      have HFF := As hf
      clear hf
      go_enter Tryd.func37, Tryd.ntmps37
      go_upto_region 1 with (fail)
      rw [← HW.out]
      have hq0_ := cs11 HX0.out
      go_wp2_with ((go_at_call 38; (with_reducible refine (force.calls b s x.f6 x.f4 _ SB0.out HOK.out f0 f64 false HFF.out).mono ?_); rintro e w3 ⟨rfl, rfl⟩))
      go_ret
      exact ⟨rfl, by rw [HT.out]; exact SB0.out, HG0.out⟩
     | true =>
      have HT : Aside0 (s.sayS x = some (s.setO x.f6.toNat false)) := ⟨by unfold St.sayS; rw [if_neg k1, if_neg k2, if_pos (.inr k5), if_pos hf]⟩
      rw [HT.out] at hr
      have hr2 : r = true := hr.symm
      subst hr2
      clear hr
      clear k1 k2 k3 k5 hk
      have HFF := As hf
      clear hf
      go_enter Tryd.func37, Tryd.ntmps37
      go_upto_region 1 with (fail)
      rw [← HW.out]
      have hq0_ := cs11 HX0.out
      go_upto_region 15 with ((go_at_call 38; (with_reducible refine (force.calls b s x.f6 x.f4 _ SB0.out HOK.out f0 f64 true HFF.out).mono ?_); rintro e w3 ⟨rfl, rfl⟩))
      go_still_tail 6, (by kernel_rfl)
      go_wp2_with (((with_reducible refine gate_ (.store 4 (.tmp 108) (.const (.bool false))) rfl ?_); refine blk_store rfl rfl 4 (.tmp 108) (.const (.bool false)) rfl (SB0.out.drew) (512 + x.f6.toNat) (.bool false) [.bool false] (s.setO x.f6.toNat false).enc ?ha ?hx ?hu ?ht ?hf ?h1 ?hE ?_; (case ha => first | exact ⟨_, rfl, rfl⟩ | exact ⟨_, rfl, by omega⟩); (case hx => rfl); (case hu => rfl); (case ht => kernel_rfl); (case hf => rw [St.len HOK.out]; have := HKL.out; show 512 + x.f6.toNat + 1 ≤ 640; omega); (case h1 => intro q hq; rw [List.mem_singleton] at hq; subst hq; rfl); (case hE => exact St.put_op HOK.out _ HKL.out _); intro w2 SB2 hg2; have HG2 := As (grown2 (grown2 HG0.out (gdrew _ _)) hg2.out)))
      go_ret
      exact ⟨rfl, by rw [HT.out]; exact SB2.out, HG2.out⟩
    ·have d5 : (x.f5 == 5) = false := beq_eq_false_iff_ne.mpr k5
     by_cases k4 : x.f5 = 4
     ·obtain ⟨f0, f64⟩ := hk (by omega) (by omega)
      have HKL : Aside0 (x.f6.toNat < 64) := ⟨by omega⟩
      have d4 : (x.f5 == 4) = true := beq_iff_eq.mpr k4
      cases hf : s.force x.f6.toNat x.f4 with
      | false =>
       have HT : Aside0 (s.sayS x = none) := ⟨by unfold St.sayS; rw [if_neg k1, if_neg k2, if_neg (fun h => h.elim k3 k5), if_pos k4, if_neg (by rw [hf]; decide)]⟩
       rw [HT.out] at hr
       have hr2 : r = false := hr.symm
       subst hr2
       clear hr
       clear k1 k2 k3 k5 k4 hk
       have HFF := As hf
       clear hf
       go_enter Tryd.func37, Tryd.ntmps37
       go_upto_region 1 with (fail)
       rw [← HW.out]
       have hq0_ := cs11 HX0.out
       go_upto_region 17 with (fail)
       refine start_ (n := 9) (S := fun w' => w'.cell? ⟨W.heap.size, 6, none⟩ = some (x.f6) ∧ w'.cell? ⟨b, x.f6.toNat * 8, none⟩ = some (.int .i64 (s.le x.f6.toNat).o) ∧ w'.cell? ⟨b, x.f6.toNat * 8 + 1, none⟩ = some (.int .i64 (s.le x.f6.toNat).k) ∧ w'.cell? ⟨b, x.f6.toNat * 8 + 2, none⟩ = some (.int .i64 (s.le x.f6.toNat).s) ∧ w'.cell? ⟨b, x.f6.toNat * 8 + 3, none⟩ = some (.int .i64 (s.le x.f6.toNat).h) ∧ w'.cell? ⟨b, x.f6.toNat * 8 + 4, none⟩ = some (.int .i64 (s.le x.f6.toNat).z) ∧ w'.cell? ⟨b, x.f6.toNat * 8 + 5, none⟩ = some (.int .i64 (s.le x.f6.toNat).fr) ∧ w'.cell? ⟨b, x.f6.toNat * 8 + 6, none⟩ = some (.int .i64 (s.le x.f6.toNat).un) ∧ w'.cell? ⟨b, x.f6.toNat * 8 + 7, none⟩ = some (.bool (s.le x.f6.toNat).rc)) (ds := []) (marksOf 9 0) (by kernel_rfl) rfl rfl ⟨HX0.out.drew.at_ 6, (SB0.out.drew.at_ _).trans (St.get_le HOK.out _ 0 HKL.out (by omega)), (SB0.out.drew.at_ _).trans (St.get_le HOK.out _ 1 HKL.out (by omega)), (SB0.out.drew.at_ _).trans (St.get_le HOK.out _ 2 HKL.out (by omega)), (SB0.out.drew.at_ _).trans (St.get_le HOK.out _ 3 HKL.out (by omega)), (SB0.out.drew.at_ _).trans (St.get_le HOK.out _ 4 HKL.out (by omega)), (SB0.out.drew.at_ _).trans (St.get_le HOK.out _ 5 HKL.out (by omega)), (SB0.out.drew.at_ _).trans (St.get_le HOK.out _ 6 HKL.out (by omega)), (SB0.out.drew.at_ _).trans (St.get_le HOK.out _ 7 HKL.out (by omega))⟩ (fun hHeld => ?_)
       refine with_tabW say.tab17 say.bits17 (fun HT_ HW_ => ?_)
       have HX3 := As HX0.out.drew
       have SB3 := As SB0.out.drew
       have HG3 := As (grown2 HG0.out (gdrew _ _))
       generalize W0.drew = w3 at HX3 SB3 HG3 hHeld ⊢
       refine pv_ 0 111 9 1 ?_
       refine pv_ 1 112 9 3 ?_
       refine ta_ 2 113 9 7 ?_ rfl rfl (take_ofW HT_.out HW_.out (by kernel_rfl)) (fun _ _ _ h => h) (by rfl) ?_ hHeld ?_ ?_ ?_
       rotate_left
       ·rintro w' ⟨s0, s1, s2, s3, s4, s5, s6, s7, s8⟩
        go_simp
        with_reducible rfl
       rotate_left
       ·simp only [Act.put, List.setIfInBounds_toArray, List.set_cons_zero, List.set_cons_succ, q1, q2, q3, i64_w, i32_w]
        rfl
       refine pv_ 3 114 9 15 ?_
       refine pv_ 4 115 9 31 ?_
       refine pv_ 5 116 9 63 ?_
       refine ta_ 6 117 9 127 ?_ rfl rfl (take_ofW HT_.out HW_.out (by kernel_rfl)) (fun _ _ _ h => h) (by rfl) ?_ hHeld ?_ ?_ ?_
       rotate_left
       ·rintro w' ⟨s0, s1, s2, s3, s4, s5, s6, s7, s8⟩
        go_simp
        with_reducible rfl
       rotate_left
       ·simp only [Act.put, List.setIfInBounds_toArray, List.set_cons_zero, List.set_cons_succ, q1, q2, q3, i64_w, i32_w]
        rfl
       refine one_ (i := 7) (N := some 5) (marksOf 9 255) rfl rfl (one_of HT_.out (by kernel_rfl)) (by decide) (fun K hK => ?_)
       refine box_step ?hg (N := 5) ?hd (cs := #[.int .i64 0, .int .i64 0, .int .i64 0, .int .i64 0, .int .i64 0, .int .i64 0, .int .i64 0, .bool false]) (t := 41) ?hr ?_
       case hd => rfl
       case hg => rfl
       case hr => first | (go_simp; done) | (go_simp; rfl)
       intro g hg w4 hbox hb4
       have HN4 : Aside0 (BlkIs w4 g 41 [.int .i64 0, .int .i64 0, .int .i64 0, .int .i64 0, .int .i64 0, .int .i64 0, .int .i64 0, .bool false]) := ⟨hbox⟩
       have HX4 := As (HX3.out.below hb4)
       have SB4 := As (SB3.out.below hb4)
       have HG4 := As (grown2 HG3.out (grown_of_below hb4 _))
       have HGW : Aside0 (W.heap.size < g ∧ b < g) := ⟨by rw [hg]; exact ⟨HX3.out.lt, SB3.out.lt⟩⟩
       have HGN : Aside0 (W.heap.size ≤ g) := ⟨by have := HGW.out.1; omega⟩
       clear hbox hb4 hg
       refine hK.out _ _ ⟨HX4.out.at_ 6, (SB4.out.at_ _).trans (St.get_le HOK.out _ 0 HKL.out (by omega)), (SB4.out.at_ _).trans (St.get_le HOK.out _ 1 HKL.out (by omega)), (SB4.out.at_ _).trans (St.get_le HOK.out _ 2 HKL.out (by omega)), (SB4.out.at_ _).trans (St.get_le HOK.out _ 3 HKL.out (by omega)), (SB4.out.at_ _).trans (St.get_le HOK.out _ 4 HKL.out (by omega)), (SB4.out.at_ _).trans (St.get_le HOK.out _ 5 HKL.out (by omega)), (SB4.out.at_ _).trans (St.get_le HOK.out _ 6 HKL.out (by omega)), (SB4.out.at_ _).trans (St.get_le HOK.out _ 7 HKL.out (by omega))⟩ (fun hHeld => ?_)
       clear hK K
       refine norm_ (a' := ?_) ?_ ?_
       rotate_left
       ·show Act.put _ (some 5) _ = _
        simp only [Act.put, List.setIfInBounds_toArray, List.set_cons_zero, List.set_cons_succ, q1, q2, q3, i64_w, i32_w]
        rfl
       refine one_ (i := 8) (N := none) (marksOf 9 511) rfl rfl (one_of HT_.out (by kernel_rfl)) (by decide) (fun K hK => ?_)
       refine blk_store_step ?hw ?hN 41 (.tmp 5) (.tmp 117) ?ho HN4.out (0) (.agg #[.int .i64 (s.le x.f6.toNat).o, .int .i64 (s.le x.f6.toNat).k, .int .i64 (s.le x.f6.toNat).s, .int .i64 (s.le x.f6.toNat).h, .int .i64 (s.le x.f6.toNat).z, .int .i64 (s.le x.f6.toNat).fr, .int .i64 (s.le x.f6.toNat).un, .bool (s.le x.f6.toNat).rc]) (s.le x.f6.toNat).enc (s.le x.f6.toNat).enc ?ha ?hx ?hu ?ht ?hf ?h1 ?hE ?_
       case hw => rfl
       case hN => rfl
       case ho => rfl
       case ha => first | exact ⟨_, rfl, rfl⟩ | exact ⟨_, rfl, by omega⟩
       case hx => rfl
       case hu => rfl
       case ht => kernel_rfl
       case hf => exact Nat.le_refl 8
       case h1 => exact le_one _
       case hE => exact over_whole _ _ rfl
       intro w5 HN5 hg5
       have HX5 := As (HX4.out.grown hg5.out (fun e => by injection e with e; have := HGW.out.1; omega))
       have SB5 := As (SB4.out.grown hg5.out (fun e => by injection e with e; have := HGW.out.2; omega))
       have HG5 := As (grown_new HG4.out hg5.out HGN.out)
       clear hg5
       refine hK.out _ _ ⟨HX5.out.at_ 6, (SB5.out.at_ _).trans (St.get_le HOK.out _ 0 HKL.out (by omega)), (SB5.out.at_ _).trans (St.get_le HOK.out _ 1 HKL.out (by omega)), (SB5.out.at_ _).trans (St.get_le HOK.out _ 2 HKL.out (by omega)), (SB5.out.at_ _).trans (St.get_le HOK.out _ 3 HKL.out (by omega)), (SB5.out.at_ _).trans (St.get_le HOK.out _ 4 HKL.out (by omega)), (SB5.out.at_ _).trans (St.get_le HOK.out _ 5 HKL.out (by omega)), (SB5.out.at_ _).trans (St.get_le HOK.out _ 6 HKL.out (by omega)), (SB5.out.at_ _).trans (St.get_le HOK.out _ 7 HKL.out (by omega))⟩ (fun hHeld => ?_)
       clear hK K
       refine done_ (done_of HT_.out (by kernel_rfl)) ?_
       (try simp only [Act.put, List.setIfInBounds_toArray, List.set_cons_zero, List.set_cons_succ])
       have hq2_ := cs11 HX5.out
       have a3_ : w5.cell? ⟨g, 3, none⟩ = some (.int .i64 (s.le x.f6.toNat).h) := HN5.out.at_ 3
       have a4_ : w5.cell? ⟨g, 4, none⟩ = some (.int .i64 (s.le x.f6.toNat).z) := HN5.out.at_ 4
       go_wp2_with ((go_at_call 38; (with_reducible refine (force.calls b s x.f6 x.f4 _ SB5.out HOK.out f0 f64 false HFF.out).mono ?_); rintro e w3 ⟨rfl, rfl⟩))
       go_ret
       exact ⟨rfl, by rw [HT.out]; exact SB5.out, HG5.out⟩
      | true =>
       by_cases e3 : (s.le x.f6.toNat).h = x.f7
       ·by_cases e4 : (s.le x.f6.toNat).z = x.f8
        ·have HT : Aside0 (s.sayS x = some (s.setL x.f6.toNat (s.le x.f6.toNat).got)) := ⟨by unfold St.sayS; rw [if_neg k1, if_neg k2, if_neg (fun h => h.elim k3 k5), if_pos k4, if_pos hf, if_pos e3, if_pos e4]⟩
         rw [HT.out] at hr
         have hr2 : r = true := hr.symm
         subst hr2
         clear hr
         have q3 : ((s.le x.f6.toNat).h != x.f7) = false := bne_eq_false_iff_eq.mpr e3
         have q4 : ((s.le x.f6.toNat).z != x.f8) = false := bne_eq_false_iff_eq.mpr e4
         clear e3 e4
         clear k1 k2 k3 k5 k4 hk
         have HFF := As hf
         clear hf
         go_enter Tryd.func37, Tryd.ntmps37
         go_upto_region 1 with (fail)
         rw [← HW.out]
         have hq0_ := cs11 HX0.out
         go_upto_region 17 with (fail)
         refine start_ (n := 9) (S := fun w' => w'.cell? ⟨W.heap.size, 6, none⟩ = some (x.f6) ∧ w'.cell? ⟨b, x.f6.toNat * 8, none⟩ = some (.int .i64 (s.le x.f6.toNat).o) ∧ w'.cell? ⟨b, x.f6.toNat * 8 + 1, none⟩ = some (.int .i64 (s.le x.f6.toNat).k) ∧ w'.cell? ⟨b, x.f6.toNat * 8 + 2, none⟩ = some (.int .i64 (s.le x.f6.toNat).s) ∧ w'.cell? ⟨b, x.f6.toNat * 8 + 3, none⟩ = some (.int .i64 (s.le x.f6.toNat).h) ∧ w'.cell? ⟨b, x.f6.toNat * 8 + 4, none⟩ = some (.int .i64 (s.le x.f6.toNat).z) ∧ w'.cell? ⟨b, x.f6.toNat * 8 + 5, none⟩ = some (.int .i64 (s.le x.f6.toNat).fr) ∧ w'.cell? ⟨b, x.f6.toNat * 8 + 6, none⟩ = some (.int .i64 (s.le x.f6.toNat).un) ∧ w'.cell? ⟨b, x.f6.toNat * 8 + 7, none⟩ = some (.bool (s.le x.f6.toNat).rc)) (ds := []) (marksOf 9 0) (by kernel_rfl) rfl rfl ⟨HX0.out.drew.at_ 6, (SB0.out.drew.at_ _).trans (St.get_le HOK.out _ 0 HKL.out (by omega)), (SB0.out.drew.at_ _).trans (St.get_le HOK.out _ 1 HKL.out (by omega)), (SB0.out.drew.at_ _).trans (St.get_le HOK.out _ 2 HKL.out (by omega)), (SB0.out.drew.at_ _).trans (St.get_le HOK.out _ 3 HKL.out (by omega)), (SB0.out.drew.at_ _).trans (St.get_le HOK.out _ 4 HKL.out (by omega)), (SB0.out.drew.at_ _).trans (St.get_le HOK.out _ 5 HKL.out (by omega)), (SB0.out.drew.at_ _).trans (St.get_le HOK.out _ 6 HKL.out (by omega)), (SB0.out.drew.at_ _).trans (St.get_le HOK.out _ 7 HKL.out (by omega))⟩ (fun hHeld => ?_)
         refine with_tabW say.tab17 say.bits17 (fun HT_ HW_ => ?_)
         have HX3 := As HX0.out.drew
         have SB3 := As SB0.out.drew
         have HG3 := As (grown2 HG0.out (gdrew _ _))
         generalize W0.drew = w3 at HX3 SB3 HG3 hHeld ⊢
         refine pv_ 0 111 9 1 ?_
         refine pv_ 1 112 9 3 ?_
         refine ta_ 2 113 9 7 ?_ rfl rfl (take_ofW HT_.out HW_.out (by kernel_rfl)) (fun _ _ _ h => h) (by rfl) ?_ hHeld ?_ ?_ ?_
         rotate_left
         ·rintro w' ⟨s0, s1, s2, s3, s4, s5, s6, s7, s8⟩
          go_simp
          with_reducible rfl
         rotate_left
         ·simp only [Act.put, List.setIfInBounds_toArray, List.set_cons_zero, List.set_cons_succ, q1, q2, q3, i64_w, i32_w]
          rfl
         refine pv_ 3 114 9 15 ?_
         refine pv_ 4 115 9 31 ?_
         refine pv_ 5 116 9 63 ?_
         refine ta_ 6 117 9 127 ?_ rfl rfl (take_ofW HT_.out HW_.out (by kernel_rfl)) (fun _ _ _ h => h) (by rfl) ?_ hHeld ?_ ?_ ?_
         rotate_left
         ·rintro w' ⟨s0, s1, s2, s3, s4, s5, s6, s7, s8⟩
          go_simp
          with_reducible rfl
         rotate_left
         ·simp only [Act.put, List.setIfInBounds_toArray, List.set_cons_zero, List.set_cons_succ, q1, q2, q3, i64_w, i32_w]
          rfl
         refine one_ (i := 7) (N := some 5) (marksOf 9 255) rfl rfl (one_of HT_.out (by kernel_rfl)) (by decide) (fun K hK => ?_)
         refine box_step ?hg (N := 5) ?hd (cs := #[.int .i64 0, .int .i64 0, .int .i64 0, .int .i64 0, .int .i64 0, .int .i64 0, .int .i64 0, .bool false]) (t := 41) ?hr ?_
         case hd => rfl
         case hg => rfl
         case hr => first | (go_simp; done) | (go_simp; rfl)
         intro g hg w4 hbox hb4
         have HN4 : Aside0 (BlkIs w4 g 41 [.int .i64 0, .int .i64 0, .int .i64 0, .int .i64 0, .int .i64 0, .int .i64 0, .int .i64 0, .bool false]) := ⟨hbox⟩
         have HX4 := As (HX3.out.below hb4)
         have SB4 := As (SB3.out.below hb4)
         have HG4 := As (grown2 HG3.out (grown_of_below hb4 _))
         have HGW : Aside0 (W.heap.size < g ∧ b < g) := ⟨by rw [hg]; exact ⟨HX3.out.lt, SB3.out.lt⟩⟩
         have HGN : Aside0 (W.heap.size ≤ g) := ⟨by have := HGW.out.1; omega⟩
         clear hbox hb4 hg
         refine hK.out _ _ ⟨HX4.out.at_ 6, (SB4.out.at_ _).trans (St.get_le HOK.out _ 0 HKL.out (by omega)), (SB4.out.at_ _).trans (St.get_le HOK.out _ 1 HKL.out (by omega)), (SB4.out.at_ _).trans (St.get_le HOK.out _ 2 HKL.out (by omega)), (SB4.out.at_ _).trans (St.get_le HOK.out _ 3 HKL.out (by omega)), (SB4.out.at_ _).trans (St.get_le HOK.out _ 4 HKL.out (by omega)), (SB4.out.at_ _).trans (St.get_le HOK.out _ 5 HKL.out (by omega)), (SB4.out.at_ _).trans (St.get_le HOK.out _ 6 HKL.out (by omega)), (SB4.out.at_ _).trans (St.get_le HOK.out _ 7 HKL.out (by omega))⟩ (fun hHeld => ?_)
         clear hK K
         refine norm_ (a' := ?_) ?_ ?_
         rotate_left
         ·show Act.put _ (some 5) _ = _
          simp only [Act.put, List.setIfInBounds_toArray, List.set_cons_zero, List.set_cons_succ, q1, q2, q3, i64_w, i32_w]
          rfl
         refine one_ (i := 8) (N := none) (marksOf 9 511) rfl rfl (one_of HT_.out (by kernel_rfl)) (by decide) (fun K hK => ?_)
         refine blk_store_step ?hw ?hN 41 (.tmp 5) (.tmp 117) ?ho HN4.out (0) (.agg #[.int .i64 (s.le x.f6.toNat).o, .int .i64 (s.le x.f6.toNat).k, .int .i64 (s.le x.f6.toNat).s, .int .i64 (s.le x.f6.toNat).h, .int .i64 (s.le x.f6.toNat).z, .int .i64 (s.le x.f6.toNat).fr, .int .i64 (s.le x.f6.toNat).un, .bool (s.le x.f6.toNat).rc]) (s.le x.f6.toNat).enc (s.le x.f6.toNat).enc ?ha ?hx ?hu ?ht ?hf ?h1 ?hE ?_
         case hw => rfl
         case hN => rfl
         case ho => rfl
         case ha => first | exact ⟨_, rfl, rfl⟩ | exact ⟨_, rfl, by omega⟩
         case hx => rfl
         case hu => rfl
         case ht => kernel_rfl
         case hf => exact Nat.le_refl 8
         case h1 => exact le_one _
         case hE => exact over_whole _ _ rfl
         intro w5 HN5 hg5
         have HX5 := As (HX4.out.grown hg5.out (fun e => by injection e with e; have := HGW.out.1; omega))
         have SB5 := As (SB4.out.grown hg5.out (fun e => by injection e with e; have := HGW.out.2; omega))
         have HG5 := As (grown_new HG4.out hg5.out HGN.out)
         clear hg5
         refine hK.out _ _ ⟨HX5.out.at_ 6, (SB5.out.at_ _).trans (St.get_le HOK.out _ 0 HKL.out (by omega)), (SB5.out.at_ _).trans (St.get_le HOK.out _ 1 HKL.out (by omega)), (SB5.out.at_ _).trans (St.get_le HOK.out _ 2 HKL.out (by omega)), (SB5.out.at_ _).trans (St.get_le HOK.out _ 3 HKL.out (by omega)), (SB5.out.at_ _).trans (St.get_le HOK.out _ 4 HKL.out (by omega)), (SB5.out.at_ _).trans (St.get_le HOK.out _ 5 HKL.out (by omega)), (SB5.out.at_ _).trans (St.get_le HOK.out _ 6 HKL.out (by omega)), (SB5.out.at_ _).trans (St.get_le HOK.out _ 7 HKL.out (by omega))⟩ (fun hHeld => ?_)
         clear hK K
         refine done_ (done_of HT_.out (by kernel_rfl)) ?_
         (try simp only [Act.put, List.setIfInBounds_toArray, List.set_cons_zero, List.set_cons_succ])
         have hq2_ := cs11 HX5.out
         have a3_ : w5.cell? ⟨g, 3, none⟩ = some (.int .i64 (s.le x.f6.toNat).h) := HN5.out.at_ 3
         have a4_ : w5.cell? ⟨g, 4, none⟩ = some (.int .i64 (s.le x.f6.toNat).z) := HN5.out.at_ 4
         go_upto_region 20 with ((go_at_call 38; (with_reducible refine (force.calls b s x.f6 x.f4 _ SB5.out HOK.out f0 f64 true HFF.out).mono ?_); rintro e w3 ⟨rfl, rfl⟩))
         go_still_tail 7, (by kernel_rfl)
         go_wp2_with (((with_reducible refine gate_ (.store 4 (.tmp 145) (.const (.bool true))) rfl ?_); refine blk_store rfl rfl 4 (.tmp 145) (.const (.bool true)) rfl (SB5.out.drew) (x.f6.toNat * 8 + 7) (.bool true) [.bool true] (s.setL x.f6.toNat (s.le x.f6.toNat).got).enc ?ha ?hx ?hu ?ht ?hf ?h1 ?hE ?_; (case ha => first | exact ⟨_, rfl, rfl⟩ | exact ⟨_, rfl, by omega⟩); (case hx => rfl); (case hu => rfl); (case ht => kernel_rfl); (case hf => rw [St.len HOK.out]; have := HKL.out; show x.f6.toNat * 8 + 7 + 1 ≤ 640; omega); (case h1 => intro q hq; rw [List.mem_singleton] at hq; subst hq; rfl); (case hE => exact St.put_one HOK.out _ 7 HKL.out (by omega) _ _ rfl); intro w6 SB6 hg6; have HG6 := As (grown2 (grown2 HG5.out (gdrew _ _)) hg6.out)))
         go_ret
         exact ⟨rfl, by rw [HT.out]; exact SB6.out, HG6.out⟩
        ·have HT : Aside0 (s.sayS x = none) := ⟨by unfold St.sayS; rw [if_neg k1, if_neg k2, if_neg (fun h => h.elim k3 k5), if_pos k4, if_pos hf, if_pos e3, if_neg e4]⟩
         rw [HT.out] at hr
         have hr2 : r = false := hr.symm
         subst hr2
         clear hr
         have q3 : ((s.le x.f6.toNat).h != x.f7) = false := bne_eq_false_iff_eq.mpr e3
         have q4 : ((s.le x.f6.toNat).z != x.f8) = true := bne_iff_ne.mpr e4
         clear e3 e4
         clear k1 k2 k3 k5 k4 hk
         have HFF := As hf
         clear hf
         go_enter Tryd.func37, Tryd.ntmps37
         go_upto_region 1 with (fail)
         rw [← HW.out]
         have hq0_ := cs11 HX0.out
         go_upto_region 17 with (fail)
         refine start_ (n := 9) (S := fun w' => w'.cell? ⟨W.heap.size, 6, none⟩ = some (x.f6) ∧ w'.cell? ⟨b, x.f6.toNat * 8, none⟩ = some (.int .i64 (s.le x.f6.toNat).o) ∧ w'.cell? ⟨b, x.f6.toNat * 8 + 1, none⟩ = some (.int .i64 (s.le x.f6.toNat).k) ∧ w'.cell? ⟨b, x.f6.toNat * 8 + 2, none⟩ = some (.int .i64 (s.le x.f6.toNat).s) ∧ w'.cell? ⟨b, x.f6.toNat * 8 + 3, none⟩ = some (.int .i64 (s.le x.f6.toNat).h) ∧ w'.cell? ⟨b, x.f6.toNat * 8 + 4, none⟩ = some (.int .i64 (s.le x.f6.toNat).z) ∧ w'.cell? ⟨b, x.f6.toNat * 8 + 5, none⟩ = some (.int .i64 (s.le x.f6.toNat).fr) ∧ w'.cell? ⟨b, x.f6.toNat * 8 + 6, none⟩ = some (.int .i64 (s.le x.f6.toNat).un) ∧ w'.cell? ⟨b, x.f6.toNat * 8 + 7, none⟩ = some (.bool (s.le x.f6.toNat).rc)) (ds := []) (marksOf 9 0) (by kernel_rfl) rfl rfl ⟨HX0.out.drew.at_ 6, (SB0.out.drew.at_ _).trans (St.get_le HOK.out _ 0 HKL.out (by omega)), (SB0.out.drew.at_ _).trans (St.get_le HOK.out _ 1 HKL.out (by omega)), (SB0.out.drew.at_ _).trans (St.get_le HOK.out _ 2 HKL.out (by omega)), (SB0.out.drew.at_ _).trans (St.get_le HOK.out _ 3 HKL.out (by omega)), (SB0.out.drew.at_ _).trans (St.get_le HOK.out _ 4 HKL.out (by omega)), (SB0.out.drew.at_ _).trans (St.get_le HOK.out _ 5 HKL.out (by omega)), (SB0.out.drew.at_ _).trans (St.get_le HOK.out _ 6 HKL.out (by omega)), (SB0.out.drew.at_ _).trans (St.get_le HOK.out _ 7 HKL.out (by omega))⟩ (fun hHeld => ?_)
         refine with_tabW say.tab17 say.bits17 (fun HT_ HW_ => ?_)
         have HX3 := As HX0.out.drew
         have SB3 := As SB0.out.drew
         have HG3 := As (grown2 HG0.out (gdrew _ _))
         generalize W0.drew = w3 at HX3 SB3 HG3 hHeld ⊢
         refine pv_ 0 111 9 1 ?_
         refine pv_ 1 112 9 3 ?_
         refine ta_ 2 113 9 7 ?_ rfl rfl (take_ofW HT_.out HW_.out (by kernel_rfl)) (fun _ _ _ h => h) (by rfl) ?_ hHeld ?_ ?_ ?_
         rotate_left
         ·rintro w' ⟨s0, s1, s2, s3, s4, s5, s6, s7, s8⟩
          go_simp
          with_reducible rfl
         rotate_left
         ·simp only [Act.put, List.setIfInBounds_toArray, List.set_cons_zero, List.set_cons_succ, q1, q2, q3, i64_w, i32_w]
          rfl
         refine pv_ 3 114 9 15 ?_
         refine pv_ 4 115 9 31 ?_
         refine pv_ 5 116 9 63 ?_
         refine ta_ 6 117 9 127 ?_ rfl rfl (take_ofW HT_.out HW_.out (by kernel_rfl)) (fun _ _ _ h => h) (by rfl) ?_ hHeld ?_ ?_ ?_
         rotate_left
         ·rintro w' ⟨s0, s1, s2, s3, s4, s5, s6, s7, s8⟩
          go_simp
          with_reducible rfl
         rotate_left
         ·simp only [Act.put, List.setIfInBounds_toArray, List.set_cons_zero, List.set_cons_succ, q1, q2, q3, i64_w, i32_w]
          rfl
         refine one_ (i := 7) (N := some 5) (marksOf 9 255) rfl rfl (one_of HT_.out (by kernel_rfl)) (by decide) (fun K hK => ?_)
         refine box_step ?hg (N := 5) ?hd (cs := #[.int .i64 0, .int .i64 0, .int .i64 0, .int .i64 0, .int .i64 0, .int .i64 0, .int .i64 0, .bool false]) (t := 41) ?hr ?_
         case hd => rfl
         case hg => rfl
         case hr => first | (go_simp; done) | (go_simp; rfl)
         intro g hg w4 hbox hb4
         have HN4 : Aside0 (BlkIs w4 g 41 [.int .i64 0, .int .i64 0, .int .i64 0, .int .i64 0, .int .i64 0, .int .i64 0, .int .i64 0, .bool false]) := ⟨hbox⟩
         have HX4 := As (HX3.out.below hb4)
         have SB4 := As (SB3.out.below hb4)
         have HG4 := As (grown2 HG3.out (grown_of_below hb4 _))
         have HGW : Aside0 (W.heap.size < g ∧ b < g) := ⟨by rw [hg]; exact ⟨HX3.out.lt, SB3.out.lt⟩⟩
         have HGN : Aside0 (W.heap.size ≤ g) := ⟨by have := HGW.out.1; omega⟩
         clear hbox hb4 hg
         refine hK.out _ _ ⟨HX4.out.at_ 6, (SB4.out.at_ _).trans (St.get_le HOK.out _ 0 HKL.out (by omega)), (SB4.out.at_ _).trans (St.get_le HOK.out _ 1 HKL.out (by omega)), (SB4.out.at_ _).trans (St.get_le HOK.out _ 2 HKL.out (by omega)), (SB4.out.at_ _).trans (St.get_le HOK.out _ 3 HKL.out (by omega)), (SB4.out.at_ _).trans (St.get_le HOK.out _ 4 HKL.out (by omega)), (SB4.out.at_ _).trans (St.get_le HOK.out _ 5 HKL.out (by omega)), (SB4.out.at_ _).trans (St.get_le HOK.out _ 6 HKL.out (by omega)), (SB4.out.at_ _).trans (St.get_le HOK.out _ 7 HKL.out (by omega))⟩ (fun hHeld => ?_)
         clear hK K
         refine norm_ (a' := ?_) ?_ ?_
         rotate_left
         ·show Act.put _ (some 5) _ = _
          simp only [Act.put, List.setIfInBounds_toArray, List.set_cons_zero, List.set_cons_succ, q1, q2, q3, i64_w, i32_w]
          rfl
         refine one_ (i := 8) (N := none) (marksOf 9 511) rfl rfl (one_of HT_.out (by kernel_rfl)) (by decide) (fun K hK => ?_)
         refine blk_store_step ?hw ?hN 41 (.tmp 5) (.tmp 117) ?ho HN4.out (0) (.agg #[.int .i64 (s.le x.f6.toNat).o, .int .i64 (s.le x.f6.toNat).k, .int .i64 (s.le x.f6.toNat).s, .int .i64 (s.le x.f6.toNat).h, .int .i64 (s.le x.f6.toNat).z, .int .i64 (s.le x.f6.toNat).fr, .int .i64 (s.le x.f6.toNat).un, .bool (s.le x.f6.toNat).rc]) (s.le x.f6.toNat).enc (s.le x.f6.toNat).enc ?ha ?hx ?hu ?ht ?hf ?h1 ?hE ?_
         case hw => rfl
         case hN => rfl
         case ho => rfl
         case ha => first | exact ⟨_, rfl, rfl⟩ | exact ⟨_, rfl, by omega⟩
         case hx => rfl
         case hu => rfl
         case ht => kernel_rfl
         case hf => exact Nat.le_refl 8
         case h1 => exact le_one _
         case hE => exact over_whole _ _ rfl
         intro w5 HN5 hg5
         have HX5 := As (HX4.out.grown hg5.out (fun e => by injection e with e; have := HGW.out.1; omega))
         have SB5 := As (SB4.out.grown hg5.out (fun e => by injection e with e; have := HGW.out.2; omega))
         have HG5 := As (grown_new HG4.out hg5.out HGN.out)
         clear hg5
         refine hK.out _ _ ⟨HX5.out.at_ 6, (SB5.out.at_ _).trans (St.get_le HOK.out _ 0 HKL.out (by omega)), (SB5.out.at_ _).trans (St.get_le HOK.out _ 1 HKL.out (by omega)), (SB5.out.at_ _).trans (St.get_le HOK.out _ 2 HKL.out (by omega)), (SB5.out.at_ _).trans (St.get_le HOK.out _ 3 HKL.out (by omega)), (SB5.out.at_ _).trans (St.get_le HOK.out _ 4 HKL.out (by omega)), (SB5.out.at_ _).trans (St.get_le HOK.out _ 5 HKL.out (by omega)), (SB5.out.at_ _).trans (St.get_le HOK.out _ 6 HKL.out (by omega)), (SB5.out.at_ _).trans (St.get_le HOK.out _ 7 HKL.out (by omega))⟩ (fun hHeld => ?_)
         clear hK K
         refine done_ (done_of HT_.out (by kernel_rfl)) ?_
         (try simp only [Act.put, List.setIfInBounds_toArray, List.set_cons_zero, List.set_cons_succ])
         have hq2_ := cs11 HX5.out
         have a3_ : w5.cell? ⟨g, 3, none⟩ = some (.int .i64 (s.le x.f6.toNat).h) := HN5.out.at_ 3
         have a4_ : w5.cell? ⟨g, 4, none⟩ = some (.int .i64 (s.le x.f6.toNat).z) := HN5.out.at_ 4
         go_wp2_with ((go_at_call 38; (with_reducible refine (force.calls b s x.f6 x.f4 _ SB5.out HOK.out f0 f64 true HFF.out).mono ?_); rintro e w3 ⟨rfl, rfl⟩))
         go_ret
         exact ⟨rfl, by rw [HT.out]; exact SB5.out, HG5.out⟩
       ·have HT : Aside0 (s.sayS x = none) := ⟨by unfold St.sayS; rw [if_neg k1, if_neg k2, if_neg (fun h => h.elim k3 k5), if_pos k4, if_pos hf, if_neg e3]⟩
        rw [HT.out] at hr
        have hr2 : r = false := hr.symm
        subst hr2
        clear hr
        have q3 : ((s.le x.f6.toNat).h != x.f7) = true := bne_iff_ne.mpr e3
        clear e3
        clear k1 k2 k3 k5 k4 hk
        have HFF := As hf
        clear hf
        go_enter Tryd.func37, Tryd.ntmps37
        go_upto_region 1 with (fail)
        rw [← HW.out]
        have hq0_ := cs11 HX0.out
        go_upto_region 17 with (fail)
        refine start_ (n := 9) (S := fun w' => w'.cell? ⟨W.heap.size, 6, none⟩ = some (x.f6) ∧ w'.cell? ⟨b, x.f6.toNat * 8, none⟩ = some (.int .i64 (s.le x.f6.toNat).o) ∧ w'.cell? ⟨b, x.f6.toNat * 8 + 1, none⟩ = some (.int .i64 (s.le x.f6.toNat).k) ∧ w'.cell? ⟨b, x.f6.toNat * 8 + 2, none⟩ = some (.int .i64 (s.le x.f6.toNat).s) ∧ w'.cell? ⟨b, x.f6.toNat * 8 + 3, none⟩ = some (.int .i64 (s.le x.f6.toNat).h) ∧ w'.cell? ⟨b, x.f6.toNat * 8 + 4, none⟩ = some (.int .i64 (s.le x.f6.toNat).z) ∧ w'.cell? ⟨b, x.f6.toNat * 8 + 5, none⟩ = some (.int .i64 (s.le x.f6.toNat).fr) ∧ w'.cell? ⟨b, x.f6.toNat * 8 + 6, none⟩ = some (.int .i64 (s.le x.f6.toNat).un) ∧ w'.cell? ⟨b, x.f6.toNat * 8 + 7, none⟩ = some (.bool (s.le x.f6.toNat).rc)) (ds := []) (marksOf 9 0) (by kernel_rfl) rfl rfl ⟨HX0.out.drew.at_ 6, (SB0.out.drew.at_ _).trans (St.get_le HOK.out _ 0 HKL.out (by omega)), (SB0.out.drew.at_ _).trans (St.get_le HOK.out _ 1 HKL.out (by omega)), (SB0.out.drew.at_ _).trans (St.get_le HOK.out _ 2 HKL.out (by omega)), (SB0.out.drew.at_ _).trans (St.get_le HOK.out _ 3 HKL.out (by omega)), (SB0.out.drew.at_ _).trans (St.get_le HOK.out _ 4 HKL.out (by omega)), (SB0.out.drew.at_ _).trans (St.get_le HOK.out _ 5 HKL.out (by omega)), (SB0.out.drew.at_ _).trans (St.get_le HOK.out _ 6 HKL.out (by omega)), (SB0.out.drew.at_ _).trans (St.get_le HOK.out _ 7 HKL.out (by omega))⟩ (fun hHeld => ?_)
        refine with_tabW say.tab17 say.bits17 (fun HT_ HW_ => ?_)
        have HX3 := As HX0.out.drew
        have SB3 := As SB0.out.drew
        have HG3 := As (grown2 HG0.out (gdrew _ _))
        generalize W0.drew = w3 at HX3 SB3 HG3 hHeld ⊢
        refine pv_ 0 111 9 1 ?_
        refine pv_ 1 112 9 3 ?_
        refine ta_ 2 113 9 7 ?_ rfl rfl (take_ofW HT_.out HW_.out (by kernel_rfl)) (fun _ _ _ h => h) (by rfl) ?_ hHeld ?_ ?_ ?_
        rotate_left
        ·rintro w' ⟨s0, s1, s2, s3, s4, s5, s6, s7, s8⟩
         go_simp
         with_reducible rfl
        rotate_left
        ·simp only [Act.put, List.setIfInBounds_toArray, List.set_cons_zero, List.set_cons_succ, q1, q2, q3, i64_w, i32_w]
         rfl
        refine pv_ 3 114 9 15 ?_
        refine pv_ 4 115 9 31 ?_
        refine pv_ 5 116 9 63 ?_
        refine ta_ 6 117 9 127 ?_ rfl rfl (take_ofW HT_.out HW_.out (by kernel_rfl)) (fun _ _ _ h => h) (by rfl) ?_ hHeld ?_ ?_ ?_
        rotate_left
        ·rintro w' ⟨s0, s1, s2, s3, s4, s5, s6, s7, s8⟩
         go_simp
         with_reducible rfl
        rotate_left
        ·simp only [Act.put, List.setIfInBounds_toArray, List.set_cons_zero, List.set_cons_succ, q1, q2, q3, i64_w, i32_w]
         rfl
        refine one_ (i := 7) (N := some 5) (marksOf 9 255) rfl rfl (one_of HT_.out (by kernel_rfl)) (by decide) (fun K hK => ?_)
        refine box_step ?hg (N := 5) ?hd (cs := #[.int .i64 0, .int .i64 0, .int .i64 0, .int .i64 0, .int .i64 0, .int .i64 0, .int .i64 0, .bool false]) (t := 41) ?hr ?_
        case hd => rfl
        case hg => rfl
        case hr => first | (go_simp; done) | (go_simp; rfl)
        intro g hg w4 hbox hb4
        have HN4 : Aside0 (BlkIs w4 g 41 [.int .i64 0, .int .i64 0, .int .i64 0, .int .i64 0, .int .i64 0, .int .i64 0, .int .i64 0, .bool false]) := ⟨hbox⟩
        have HX4 := As (HX3.out.below hb4)
        have SB4 := As (SB3.out.below hb4)
        have HG4 := As (grown2 HG3.out (grown_of_below hb4 _))
        have HGW : Aside0 (W.heap.size < g ∧ b < g) := ⟨by rw [hg]; exact ⟨HX3.out.lt, SB3.out.lt⟩⟩
        have HGN : Aside0 (W.heap.size ≤ g) := ⟨by have := HGW.out.1; omega⟩
        clear hbox hb4 hg
        refine hK.out _ _ ⟨HX4.out.at_ 6, (SB4.out.at_ _).trans (St.get_le HOK.out _ 0 HKL.out (by omega)), (SB4.out.at_ _).trans (St.get_le HOK.out _ 1 HKL.out (by omega)), (SB4.out.at_ _).trans (St.get_le HOK.out _ 2 HKL.out (by omega)), (SB4.out.at_ _).trans (St.get_le HOK.out _ 3 HKL.out (by omega)), (SB4.out.at_ _).trans (St.get_le HOK.out _ 4 HKL.out (by omega)), (SB4.out.at_ _).trans (St.get_le HOK.out _ 5 HKL.out (by omega)), (SB4.out.at_ _).trans (St.get_le HOK.out _ 6 HKL.out (by omega)), (SB4.out.at_ _).trans (St.get_le HOK.out _ 7 HKL.out (by omega))⟩ (fun hHeld => ?_)
        clear hK K
        refine norm_ (a' := ?_) ?_ ?_
        rotate_left
        ·show Act.put _ (some 5) _ = _
         simp only [Act.put, List.setIfInBounds_toArray, List.set_cons_zero, List.set_cons_succ, q1, q2, q3, i64_w, i32_w]
         rfl
        refine one_ (i := 8) (N := none) (marksOf 9 511) rfl rfl (one_of HT_.out (by kernel_rfl)) (by decide) (fun K hK => ?_)
        refine blk_store_step ?hw ?hN 41 (.tmp 5) (.tmp 117) ?ho HN4.out (0) (.agg #[.int .i64 (s.le x.f6.toNat).o, .int .i64 (s.le x.f6.toNat).k, .int .i64 (s.le x.f6.toNat).s, .int .i64 (s.le x.f6.toNat).h, .int .i64 (s.le x.f6.toNat).z, .int .i64 (s.le x.f6.toNat).fr, .int .i64 (s.le x.f6.toNat).un, .bool (s.le x.f6.toNat).rc]) (s.le x.f6.toNat).enc (s.le x.f6.toNat).enc ?ha ?hx ?hu ?ht ?hf ?h1 ?hE ?_
        case hw => rfl
        case hN => rfl
        case ho => rfl
        case ha => first | exact ⟨_, rfl, rfl⟩ | exact ⟨_, rfl, by omega⟩
        case hx => rfl
        case hu => rfl
        case ht => kernel_rfl
        case hf => exact Nat.le_refl 8
        case h1 => exact le_one _
        case hE => exact over_whole _ _ rfl
        intro w5 HN5 hg5
        have HX5 := As (HX4.out.grown hg5.out (fun e => by injection e with e; have := HGW.out.1; omega))
        have SB5 := As (SB4.out.grown hg5.out (fun e => by injection e with e; have := HGW.out.2; omega))
        have HG5 := As (grown_new HG4.out hg5.out HGN.out)
        clear hg5
        refine hK.out _ _ ⟨HX5.out.at_ 6, (SB5.out.at_ _).trans (St.get_le HOK.out _ 0 HKL.out (by omega)), (SB5.out.at_ _).trans (St.get_le HOK.out _ 1 HKL.out (by omega)), (SB5.out.at_ _).trans (St.get_le HOK.out _ 2 HKL.out (by omega)), (SB5.out.at_ _).trans (St.get_le HOK.out _ 3 HKL.out (by omega)), (SB5.out.at_ _).trans (St.get_le HOK.out _ 4 HKL.out (by omega)), (SB5.out.at_ _).trans (St.get_le HOK.out _ 5 HKL.out (by omega)), (SB5.out.at_ _).trans (St.get_le HOK.out _ 6 HKL.out (by omega)), (SB5.out.at_ _).trans (St.get_le HOK.out _ 7 HKL.out (by omega))⟩ (fun hHeld => ?_)
        clear hK K
        refine done_ (done_of HT_.out (by kernel_rfl)) ?_
        (try simp only [Act.put, List.setIfInBounds_toArray, List.set_cons_zero, List.set_cons_succ])
        have hq2_ := cs11 HX5.out
        have a3_ : w5.cell? ⟨g, 3, none⟩ = some (.int .i64 (s.le x.f6.toNat).h) := HN5.out.at_ 3
        have a4_ : w5.cell? ⟨g, 4, none⟩ = some (.int .i64 (s.le x.f6.toNat).z) := HN5.out.at_ 4
        go_wp2_with ((go_at_call 38; (with_reducible refine (force.calls b s x.f6 x.f4 _ SB5.out HOK.out f0 f64 true HFF.out).mono ?_); rintro e w3 ⟨rfl, rfl⟩))
        go_ret
        exact ⟨rfl, by rw [HT.out]; exact SB5.out, HG5.out⟩
     ·have d4 : (x.f5 == 4) = false := beq_eq_false_iff_ne.mpr k4
      have HT : Aside0 (s.sayS x = some s) := ⟨by unfold St.sayS; rw [if_neg k1, if_neg k2, if_neg (fun h => h.elim k3 k5), if_neg k4]⟩
      rw [HT.out] at hr
      have hr2 : r = true := hr.symm
      subst hr2
      clear hr
      clear k1 k2 k3 k4 k5 hk
      go_enter Tryd.func37, Tryd.ntmps37
      go_upto_region 1 with (fail)
      rw [← HW.out]
      have hq0_ := cs11 HX0.out
      go_wp2
      go_ret
      exact ⟨rfl, by rw [HT.out]; exact SB0.out, HG0.out⟩
end
section
attribute [local go_sem ↓] some_setCell
theorem r15_in (a b c : Int) : ref15_in.f a b c = some (decide (b ≤ a) && decide (a ≤ c)) := by
 unfold ref15_in.f
 by_cases h : a ≥ b
 ·rw [if_pos h, decide_eq_true (show b ≤ a from h), Bool.true_and]
 ·rw [if_neg h, decide_eq_false (show ¬ b ≤ a from h), Bool.false_and]
theorem r15_lock (a : Int) : ∃ r, ref15_lock.f a = some r := by
 unfold ref15_lock.f
 split
 ·split <;> exact ⟨_, rfl⟩
 ·exact ⟨_, rfl⟩
theorem ite_some {c : Prop} [Decidable c] {a b : Option Bool} (ha : ∃ r, a = some r) (hb : ∃ r, b = some r) : ∃ r, (if c then a else b) = some r := by
 split
 ·exact ha
 ·exact hb
theorem r15_parts (k : Nat) (f0 f1 f2 f3 f4 f5 f6 f7 f8 f9 f10 : Int) : ∃ r, ref15_parts.f (k + 4) f0 f1 f2 f3 f4 f5 f6 f7 f8 f9 f10 = some r := by
 obtain ⟨lk, hlk⟩ := r15_lock f9
 simp only [ref15_parts.f, ref15_parts.j0, ref15_parts.j1, ref15_parts.j2, ref15_parts.j3, r15_in, hlk, Option.bind_some]
 repeat' first | (with_reducible exact ⟨_, rfl⟩) | (with_reducible refine ite_some ?_ ?_)
theorem r15_valid (f0 f1 f2 f3 f4 f5 f6 f7 f8 f9 f10 : Int) : ∃ r, ref15_Valid.f 4 f0 f1 f2 f3 f4 f5 f6 f7 f8 f9 f10 = some r := by
 obtain ⟨p, hp⟩ := r15_parts 0 f0 f1 f2 f3 f4 f5 f6 f7 f8 f9 f10
 rw [Nat.zero_add] at hp
 simp only [ref15_Valid.f, r15_in, hp, Option.bind_some]
 repeat' first | (with_reducible exact ⟨_, rfl⟩) | (with_reducible refine ite_some ?_ ?_)
def validR (x : S51) : Bool := (ref15_Valid.f 4 x.f0 x.f1 x.f2 x.f3 x.f4 x.f5 x.f6 x.f7 x.f8 x.f9 x.f10).getD false
theorem validR_is (x : S51) : ref15_Valid.f 4 x.f0 x.f1 x.f2 x.f3 x.f4 x.f5 x.f6 x.f7 x.f8 x.f9 x.f10 = some (validR x) := by
 obtain ⟨r, hr⟩ := r15_valid x.f0 x.f1 x.f2 x.f3 x.f4 x.f5 x.f6 x.f7 x.f8 x.f9 x.f10
 unfold validR
 rw [hr]
 rfl
theorem r15_slot (f0 f1 f2 f3 f4 f5 f6 f7 f8 f9 f10 : Int) (h1 : 1 ≤ f5) (h5 : f5 ≤ 5) (h6 : ¬ (0 ≤ f6 ∧ f6 ≤ 63)) : ref15_parts.f 4 f0 f1 f2 f3 f4 f5 f6 f7 f8 f9 f10 = some false := by
 have e : (decide (0 ≤ f6) && decide (f6 ≤ 63)) = false := by
  rw [Bool.and_eq_false_iff, decide_eq_false_iff_not, decide_eq_false_iff_not]
  omega
 have hk : f5 = 1 ∨ f5 = 2 ∨ f5 = 3 ∨ f5 = 4 ∨ f5 = 5 := by omega
 rcases hk with rfl | rfl | rfl | rfl | rfl <;> simp [ref15_parts.f, ref15_parts.j0, ref15_parts.j1, ref15_parts.j2, ref15_parts.j3, r15_in, e]
theorem validR_rng {x : S51} (h : validR x = true) (h1 : 1 ≤ x.f5) (h5 : x.f5 ≤ 5) : 0 ≤ x.f6 ∧ x.f6 < 64 := by
 by_cases h6 : 0 ≤ x.f6 ∧ x.f6 ≤ 63
 ·omega
 ·have hp := r15_slot x.f0 x.f1 x.f2 x.f3 x.f4 x.f5 x.f6 x.f7 x.f8 x.f9 x.f10 h1 h5 h6
  have hv := validR_is x
  rw [h] at hv
  simp [ref15_Valid.f, r15_in, hp] at hv
theorem validR_at (x : S51) (W : World) (b : Bool) (h : validR x = b) : Calls Tryd.prog 47 #[.agg #[x.f0, x.f1, x.f2, x.f3, x.f4, x.f5, x.f6, x.f7, x.f8, x.f9, x.f10]] W fun e w' => e = .returned (.bool b) ∧ Below W.heap.size W w' := by
 subst h
 exact ref15_Valid.calls 4 x.f0 x.f1 x.f2 x.f3 x.f4 x.f5 x.f6 x.f7 x.f8 x.f9 x.f10 (validR x) W (validR_is x)
theorem St.sayS_ok {s s' : St} {x : S51} (h : s.ok) (hs : s.sayS x = some s') : s'.ok := by
 unfold St.sayS at hs
 split at hs
 ·split at hs
  ·cases hs
  ·injection hs with hs
   subst hs
   exact ((h.setL _ _).setO _ _).setU _ _
 ·split at hs
  ·split at hs
   ·split at hs
    ·cases hs
    ·injection hs with hs
     subst hs
     exact (h.setL _ _).setU _ _
   ·cases hs
  ·split at hs
   ·split at hs
    ·injection hs with hs
     subst hs
     exact h.setO _ _
    ·cases hs
   ·split at hs
    ·split at hs
     ·split at hs
      ·split at hs
       ·injection hs with hs
        subst hs
        exact h.setL _ _
       ·cases hs
      ·cases hs
     ·cases hs
    ·injection hs with hs
     subst hs
     exact h
theorem zero_blk (wa : World) : BlkIs (wa.alloc (.cells zcS 76)) wa.heap.size 76 (stI 0).enc := heap_alloc_new wa _
def rrI (l : List S51) : Nat → Nat → St → Int
 | 0, _, _ => 0
 | d + 1, i, s => if validR (rd_T51 l i) = false then 2
  else if ((rd_T51 l i).f0 != (rd_T51 l 0).f0 || (rd_T51 l i).f1 != (rd_T51 l 0).f1) = true then 20
  else if (decide (0 < i) && decide ((rd_T51 l i).f4 < (rd_T51 l ((i : Int) - 1)).f4)) = true then 22
  else match s.sayS (rd_T51 l i) with
   | none => 18
   | some s' => rrI l d (i + 1) s'
def ref16_Right.f (l : List S51) : Option Int := some (rrI l l.length 0 St.zero)
end
section
attribute [local go_sem ↓] some_setCell
attribute [local go_sem ↓] zcS_run
attribute [local go_sem] zcS_size
attribute [local simp] zcS_ne
set_option maxHeartbeats 16000000 in
set_option maxRecDepth 100000 in
theorem ref16_Right.calls (A0 : Option Addr) (c0 : Nat) (l : List S51) (r : Int) (w : World) (hr0 : Kd.C k51 w A0 l.length l) (hc0 : l.length ≤ c0) (h : ref16_Right.f l = some r) :
 Calls Tryd.prog 35 #[.slice A0 l.length c0] w fun e w' => e = .returned (.int .i64 r) ∧ Below w.heap.size w w' := by
 have hr := Option.some.inj h
 clear h
 have hu := Tryd.underlying51
 have HC := As hr0
 have HLM : Aside0 (l.length ≤ 9223372036854775807) := ⟨hr0.2.1⟩
 have HE := As hr
 clear hr0 hr hc0
 go_enter Tryd.func35, Tryd.ntmps35
 go_upto_region 2 with (first | (go_at_call 36; (with_reducible refine (empty.calls _).mono ?_); rintro e wa ⟨rfl, hba⟩; have HBA := As hba; clear hba) | ((with_reducible refine gate_ (.store 76 (.tmp 3) (.tmp 6)) rfl ?_); refine blk_store rfl rfl 76 (.tmp 3) (.tmp 6) rfl (zero_blk wa) 0 (.agg St.zero.enc.toArray) St.zero.enc St.zero.enc ⟨_, rfl, rfl⟩ rfl rfl (by rw [St.len St.zero_ok]; kernel_rfl) (by rw [St.len St.zero_ok, St.len (stI_ok 0 (by omega))]; omega) ?h1 ?hE ?_; (case h1 => exact st_one _); (case hE => exact over_whole _ _ (by rw [St.len St.zero_ok, St.len (stI_ok 0 (by omega))])); intro wb HSb HGb))
 have HBb : Aside0 (Below w.heap.size w wb) := ⟨pw_below_grown (below_alloc HBA.out _) _ (below_alloc HBA.out _).size HGb.out (by intro k hk; injection hk with hk; have := HBA.out.size; omega)⟩
 obtain ⟨b, hb⟩ : ∃ b, b = wa.heap.size := ⟨_, rfl⟩
 have HBW : Aside0 (w.heap.size ≤ b) := ⟨by rw [hb]; exact HBA.out.size⟩
 rw [← hb] at HSb ⊢
 clear HBA HGb hb
 go_wp2_with (fail)
 go_loopg [9] l.length (fun kq v9 w' => ∃ (i : Nat) (s : St), v9 = .int .i64 i ∧ Aside0 (i + kq = l.length) ∧ Aside0 (rrI l kq i s = r) ∧ Aside0 s.ok ∧ Aside0 (BlkIs w' b 76 s.enc) ∧ Aside0 (Below w.heap.size w w'))
 case atStart => exact ⟨0, St.zero, rfl, ⟨by omega⟩, HE, ⟨St.zero_ok⟩, HSb, HBb⟩
 case round =>
  clear HSb HBb HE
  obtain ⟨i, s, rfl, HI, HX, HOK, HS, HB⟩ := hrel
  cases gk with
  | zero =>
   have a1_ : decide ((i : Int) < (l.length : Int)) = false := decide_eq_false (by have := HI.out; omega)
   have a2_ : decide (i < l.length) = false := decide_eq_false (by have := HI.out; omega)
   have hre : (0 : Int) = r := HX.out
   subst hre
   go_wp2
   go_ret
   exact ⟨rfl, HB.out⟩
  | succ k1 =>
   have hil : i < l.length := by have := HI.out; omega
   have a1_ : decide ((i : Int) < (l.length : Int)) = true := decide_eq_true (by omega)
   have a2_ : decide (i < l.length) = true := decide_eq_true hil
   have a5_ : (i : Int) ≤ 9223372036854775806 := by have := HLM.out; omega
   have p1 : 0 ≤ (i : Int) := by omega
   have q1 : (i : Int) < (l.length : Int) := by omega
   obtain ⟨ad, e1, hx0, hx1, hx2, hx3, hx4, hx5, hx6, hx7, hx8, hx9, a0_⟩ := at_T51 HC.out i p1 q1
   cases e1
   obtain ⟨ad', e2, hy0, hy1, _⟩ := at_T51 HC.out 0 (by omega) (by omega)
   cases e2
   obtain ⟨y, hye⟩ : ∃ y, y = rd_T51 l 0 := ⟨_, rfl⟩
   rw [← hye] at hy0 hy1
   have EY := As hye
   have HY0 := As hy0
   have HY1 := As hy1
   clear hye hy0 hy1
   replace hx0 := (HB.out.cell (World.block_lt_of_cell? w _ hx0)).trans hx0
   replace hx1 := (HB.out.cell (World.block_lt_of_cell? w _ hx1)).trans hx1
   replace hx2 := (HB.out.cell (World.block_lt_of_cell? w _ hx2)).trans hx2
   replace hx3 := (HB.out.cell (World.block_lt_of_cell? w _ hx3)).trans hx3
   replace hx4 := (HB.out.cell (World.block_lt_of_cell? w _ hx4)).trans hx4
   replace hx5 := (HB.out.cell (World.block_lt_of_cell? w _ hx5)).trans hx5
   replace hx6 := (HB.out.cell (World.block_lt_of_cell? w _ hx6)).trans hx6
   replace hx7 := (HB.out.cell (World.block_lt_of_cell? w _ hx7)).trans hx7
   replace hx8 := (HB.out.cell (World.block_lt_of_cell? w _ hx8)).trans hx8
   replace hx9 := (HB.out.cell (World.block_lt_of_cell? w _ hx9)).trans hx9
   replace a0_ := (HB.out.cell (World.block_lt_of_cell? w _ a0_)).trans a0_
   rw [Int.toNat_natCast] at hx0 hx1 hx2 hx3 hx4 hx5 hx6 hx7 hx8 hx9 a0_
   obtain ⟨x, hxe⟩ : ∃ x, x = rd_T51 l (i : Int) := ⟨_, rfl⟩
   rw [← hxe] at hx0 hx1 hx2 hx3 hx4 hx5 hx6 hx7 hx8 hx9 a0_
   have EX := As hxe
   clear hxe
   have hHN := heap_alloc_new wr (.cells #[x.f0, x.f1, x.f2, x.f3, x.f4, x.f5, x.f6, x.f7, x.f8, x.f9, x.f10] 51)
   have hHS := HS.out.alloc (.cells #[x.f0, x.f1, x.f2, x.f3, x.f4, x.f5, x.f6, x.f7, x.f8, x.f9, x.f10] 51)
   have hHB := below_alloc HB.out (.cells #[x.f0, x.f1, x.f2, x.f3, x.f4, x.f5, x.f6, x.f7, x.f8, x.f9, x.f10] 51)
   go_upto_region 5 with (fail)
   generalize wr.alloc (.cells #[x.f0, x.f1, x.f2, x.f3, x.f4, x.f5, x.f6, x.f7, x.f8, x.f9, x.f10] 51) = w1 at hHN hHS hHB ⊢
   have HN1 : Aside0 (BlkIs w1 wr.heap.size 51 [x.f0, x.f1, x.f2, x.f3, x.f4, x.f5, x.f6, x.f7, x.f8, x.f9, x.f10]) := ⟨hHN⟩
   have HS1 := As hHS
   have HB1 := As hHB
   clear hHN hHS hHB hx0 hx1 hx2 hx3 hx4 hx5 hx6 hx7 hx8 hx9 a0_ HS HB
   have hq1_ := cs11 HN1.out
   cases hv : validR x with
   | false =>
    have HV := As hv
    clear hv
    have hre : (2 : Int) = r := by
     rw [← HX.out, rrI, ← EX.out, ← EY.out, if_pos HV.out]
    subst hre
    go_wp2_with ((go_at_call 47; (with_reducible refine (validR_at x _ false HV.out).mono ?_); rintro e w2 ⟨rfl, hb2⟩; have HN2 := As (HN1.out.below hb2); have HS2 := As (HS1.out.below hb2); have HB2 := As (below_step HB1.out hb2); clear hb2; have hq3_ := cs11 HN2.out; have ya_2 := (HB2.out.cell (World.block_lt_of_cell? w _ HY0.out)).trans HY0.out; have yb_2 := (HB2.out.cell (World.block_lt_of_cell? w _ HY1.out)).trans HY1.out))
    go_ret
    exact ⟨rfl, by repeat (first | exact HB2.out | apply below_drew1 | apply pw_below_drewN)⟩
   | true =>
    have HV := As hv
    have HVN : Aside0 (¬ validR x = false) := ⟨by rw [hv]; decide⟩
    clear hv
    go_upto_region 7 with ((go_at_call 47; (with_reducible refine (validR_at x _ true HV.out).mono ?_); rintro e w2 ⟨rfl, hb2⟩; have HN2 := As (HN1.out.below hb2); have HS2 := As (HS1.out.below hb2); have HB2 := As (below_step HB1.out hb2); clear hb2; have hq3_ := cs11 HN2.out; have ya_2 := (HB2.out.cell (World.block_lt_of_cell? w _ HY0.out)).trans HY0.out; have yb_2 := (HB2.out.cell (World.block_lt_of_cell? w _ HY1.out)).trans HY1.out))
    have z2 : w2.cell? ad = some (.int .i64 y.f0) := ya_2
    have z3 : w2.cell? ⟨ad.block, ad.off + 1, none⟩ = some (.int .i64 y.f1) := yb_2
    have z0 : w2.cell? (ad.add 0) = some (.int .i64 y.f0) := ya_2
    have z1 : w2.cell? ⟨(ad.add 0).block, (ad.add 0).off + 1, none⟩ = some (.int .i64 y.f1) := yb_2
    have hl0 : (0 : Int) < (l.length : Int) := by omega
    have hl0n : 0 < l.length := by omega
    cases hp0 : (x.f0 != y.f0) with
    | true =>
     have HP : Aside0 ((x.f0 != y.f0 || x.f1 != y.f1) = true) := ⟨by rw [hp0]; rfl⟩
     have hre : (20 : Int) = r := by
      rw [← HX.out, rrI, ← EX.out, ← EY.out, if_neg HVN.out, if_pos HP.out]
     subst hre
     go_quiet ((fail))
     go_wp2
     go_ret
     exact ⟨rfl, by repeat (first | exact HB2.out | apply below_drew1 | apply pw_below_drewN)⟩
    | false =>
     cases hp1 : (x.f1 != y.f1) with
     | true =>
      have HP : Aside0 ((x.f0 != y.f0 || x.f1 != y.f1) = true) := ⟨by rw [hp0, hp1]; rfl⟩
      have hre : (20 : Int) = r := by
       rw [← HX.out, rrI, ← EX.out, ← EY.out, if_neg HVN.out, if_pos HP.out]
      subst hre
      go_quiet ((fail))
      go_wp2
      go_ret
      exact ⟨rfl, by repeat (first | exact HB2.out | apply below_drew1 | apply pw_below_drewN)⟩
     | false =>
      have HP : Aside0 (¬ (x.f0 != y.f0 || x.f1 != y.f1) = true) := ⟨by rw [hp0, hp1]; decide⟩
      go_quiet ((fail))
      go_upto_region 9 with (fail)
      have HN6 := As (HN2.out.drewN nq)
      have HS6 := As (HS2.out.drewN nq)
      have HB6 := As (pw_below_drewN HB2.out nq)
      generalize (World.drewN _ nq) = w2b at HN6 HS6 HB6 ⊢
      have hq4_ := cs11 HN6.out
      clear z0 z1 z2 z3 ya_2 yb_2 hl0 hl0n
      by_cases t0 : i = 0
      ·have HT : Aside0 (¬ (decide (0 < i) && decide (x.f4 < (rd_T51 l ((i : Int) - 1)).f4)) = true) := ⟨by rw [decide_eq_false (show ¬ 0 < i by omega)]; simp⟩
       have d0 : decide (0 < (i : Int)) = false := decide_eq_false (by omega)
       have d0n : decide (0 < i) = false := decide_eq_false (by omega)
       clear t0
       go_quiet ((fail))
       go_upto_region 11 with (fail)
       have HN7 := As (HN6.out.drewN nq)
       have HS7 := As (HS6.out.drewN nq)
       have HB7 := As (pw_below_drewN HB6.out nq)
       generalize (World.drewN _ nq) = w2c at HN7 HS7 HB7 ⊢
       have hq5_ := cs11 HN7.out
       cases hs : s.sayS x with
       | none =>
        have HSY := As hs
        have HSI : Aside0 ((s.sayS x).isSome = false) := ⟨by rw [hs]; rfl⟩
        clear hs
        have hre : (18 : Int) = r := by
         rw [← HX.out, rrI, ← EX.out, ← EY.out, if_neg HVN.out, if_neg HP.out, if_neg HT.out, HSY.out]
        subst hre
        go_wp2_with ((go_at_call 37; (with_reducible refine (say.calls b s x _ HS7.out HOK.out (fun h1 h5 => validR_rng HV.out h1 h5) false HSI.out).mono ?_); rintro e w5 ⟨rfl, hs5, hg5⟩; have HS5 := As hs5; have HB5 : Aside0 (Below w.heap.size w w5) := ⟨pw_below_grown HB7.out _ HB7.out.size hg5 (by intro k hk; injection hk with hk; have := HBW.out; omega)⟩; clear hs5 hg5))
        go_ret
        exact ⟨rfl, HB5.out⟩
       | some s' =>
        have HSY := As hs
        have HSI : Aside0 ((s.sayS x).isSome = true) := ⟨by rw [hs]; rfl⟩
        clear hs
        have hre : rrI l k1 (i + 1) s' = r := by
         rw [← HX.out, rrI, ← EX.out, ← EY.out, if_neg HVN.out, if_neg HP.out, if_neg HT.out, HSY.out]
        have HRE := As hre
        clear hre
        go_wp2_with ((go_at_call 37; (with_reducible refine (say.calls b s x _ HS7.out HOK.out (fun h1 h5 => validR_rng HV.out h1 h5) true HSI.out).mono ?_); rintro e w5 ⟨rfl, hs5, hg5⟩; have HS5 := As hs5; have HB5 : Aside0 (Below w.heap.size w w5) := ⟨pw_below_grown HB7.out _ HB7.out.size hg5 (by intro k hk; injection hk with hk; have := HBW.out; omega)⟩; clear hs5 hg5))
        have HS6 : Aside0 (BlkIs w5 b 76 s'.enc) := ⟨by have := HS5.out; rw [HSY.out] at this; exact this⟩
        go_roundg k1
        case measure => omega
        case rel => exact ⟨i + 1, s', by simp, ⟨by have := HI.out; omega⟩, HRE, ⟨St.sayS_ok HOK.out HSY.out⟩, HS6, HB5⟩
      ·have d0 : decide (0 < (i : Int)) = true := decide_eq_true (by omega)
       have d0n : decide (0 < i) = true := decide_eq_true (by omega)
       have p2 : 0 ≤ (i : Int) - 1 := by omega
       have p2b : (1 : Int) ≤ (i : Int) := by omega
       have q2 : (i : Int) - 1 < (l.length : Int) := by omega
       obtain ⟨ad3, e3, _, _, _, _, hv4, _⟩ := at_T51 HC.out ((i : Int) - 1) p2 q2
       cases e3
       obtain ⟨v, hve⟩ : ∃ v, v = rd_T51 l ((i : Int) - 1) := ⟨_, rfl⟩
       rw [← hve] at hv4
       have EV := As hve
       clear hve
       have ht2 : ((i : Int) - 1).toNat = i - 1 := by omega
       rw [ht2] at hv4
       replace hv4 := (HB6.out.cell (World.block_lt_of_cell? w _ hv4)).trans hv4
       have hw2 : IntKind.i64.wrap ((i : Int) - 1) = (i : Int) - 1 := IntWalk.i64_in _ (by omega)
       have HIZ := As t0
       replace p2 := eq_true p2
       replace p2b := eq_true p2b
       replace q2 := eq_true q2
       clear t0
       cases ht : decide (x.f4 < v.f4) with
       | true =>
        have HT : Aside0 ((decide (0 < i) && decide (x.f4 < (rd_T51 l ((i : Int) - 1)).f4)) = true) := ⟨by rw [← EV.out, d0n, ht]; rfl⟩
        have hre : (22 : Int) = r := by
         rw [← HX.out, rrI, ← EX.out, ← EY.out, if_neg HVN.out, if_neg HP.out, if_pos HT.out]
        subst hre
        go_quiet ((fail))
        go_wp2
        go_ret
        exact ⟨rfl, by repeat (first | exact HB6.out | apply below_drew1 | apply pw_below_drewN)⟩
       | false =>
        have HT : Aside0 (¬ (decide (0 < i) && decide (x.f4 < (rd_T51 l ((i : Int) - 1)).f4)) = true) := ⟨by rw [← EV.out, d0n, ht]; decide⟩
        go_quiet ((fail))
        go_upto_region 11 with (fail)
        clear hv4 hw2 p2 p2b q2 ht2 ht
        have HN7 := As (HN6.out.drewN nq)
        have HS7 := As (HS6.out.drewN nq)
        have HB7 := As (pw_below_drewN HB6.out nq)
        generalize (World.drewN _ nq) = w2c at HN7 HS7 HB7 ⊢
        have hq5_ := cs11 HN7.out
        cases hs : s.sayS x with
        | none =>
         have HSY := As hs
         have HSI : Aside0 ((s.sayS x).isSome = false) := ⟨by rw [hs]; rfl⟩
         clear hs
         have hre : (18 : Int) = r := by
          rw [← HX.out, rrI, ← EX.out, ← EY.out, if_neg HVN.out, if_neg HP.out, if_neg HT.out, HSY.out]
         subst hre
         go_wp2_with ((go_at_call 37; (with_reducible refine (say.calls b s x _ HS7.out HOK.out (fun h1 h5 => validR_rng HV.out h1 h5) false HSI.out).mono ?_); rintro e w5 ⟨rfl, hs5, hg5⟩; have HS5 := As hs5; have HB5 : Aside0 (Below w.heap.size w w5) := ⟨pw_below_grown HB7.out _ HB7.out.size hg5 (by intro k hk; injection hk with hk; have := HBW.out; omega)⟩; clear hs5 hg5))
         go_ret
         exact ⟨rfl, HB5.out⟩
        | some s' =>
         have HSY := As hs
         have HSI : Aside0 ((s.sayS x).isSome = true) := ⟨by rw [hs]; rfl⟩
         clear hs
         have hre : rrI l k1 (i + 1) s' = r := by
          rw [← HX.out, rrI, ← EX.out, ← EY.out, if_neg HVN.out, if_neg HP.out, if_neg HT.out, HSY.out]
         have HRE := As hre
         clear hre
         go_wp2_with ((go_at_call 37; (with_reducible refine (say.calls b s x _ HS7.out HOK.out (fun h1 h5 => validR_rng HV.out h1 h5) true HSI.out).mono ?_); rintro e w5 ⟨rfl, hs5, hg5⟩; have HS5 := As hs5; have HB5 : Aside0 (Below w.heap.size w w5) := ⟨pw_below_grown HB7.out _ HB7.out.size hg5 (by intro k hk; injection hk with hk; have := HBW.out; omega)⟩; clear hs5 hg5))
         have HS6 : Aside0 (BlkIs w5 b 76 s'.enc) := ⟨by have := HS5.out; rw [HSY.out] at this; exact this⟩
         go_roundg k1
         case measure => omega
         case rel => exact ⟨i + 1, s', by simp, ⟨by have := HI.out; omega⟩, HRE, ⟨St.sayS_ok HOK.out HSY.out⟩, HS6, HB5⟩
end
end Go.Proofs.YtcgpbmafkgbbdaaDoor.PS
