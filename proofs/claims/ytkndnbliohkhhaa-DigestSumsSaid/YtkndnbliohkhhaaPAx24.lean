-- Written by a program of this claim's own (hookprint.py), after the pattern of the kit's print. Lean checks it.
import Derived.Test.YtkndnbliohkhhaaPAx0
import Derived.Test.YtkndnbliohkhhaaPAx1
import Derived.Test.YtkndnbliohkhhaaPAx3
import Derived.Test.YtkndnbliohkhhaaPAx4
import Derived.Test.YtkndnbliohkhhaaPAx5
import Derived.Test.YtkndnbliohkhhaaPAx6
import Derived.Test.YtkndnbliohkhhaaPAx9
import Derived.Test.YtkndnbliohkhhaaPAx12
import Derived.Test.YtkndnbliohkhhaaPAx14
import Derived.Test.YtkndnbliohkhhaaPAx15
import Derived.Test.YtkndnbliohkhhaaPAx19
import Derived.Test.YtkndnbliohkhhaaPAx22
import Derived.Test.YtkndnbliohkhhaaPAx23
namespace Go.Proofs.Ytkndnbliohkhhaa.PA
open Go.RowKit Go.Proofs.YtkndnbliohkhhaaW.PrintWords Go.Proofs.YtkndnbliohkhhaaW.PrintLast Go.Proofs.YtkndnbliohkhhaaW.PrintMore
attribute [local go_sem ↓] some_setCell
attribute [local go_sem] max2_int min2_int max_two min_two max_three min_three max_four min_four   -- for this text's walks alone
set_option linter.unusedVariables false
set_option linter.unusedSimpArgs false

mutual
def storagebarterlaw02_DigestSums.j0 : Nat → ByteArray → List Int → Int → Int → Int → Int → Bool → Option (Bool)
 | 0, _, _, _, _, _, _, _ => none
 | k + 1, x0, x1, x2, x3, x4, x5, x24 => if x24 = true then (some true) else ((storagebartermake_Mod.f x4 5000).bind fun t163 => ((some (([x4, t163] : List Int) : List Int)).bind fun y164 => (storagebarterlaw02_DigestSums.l0 k x0 x1 x2 x3 x5 y164 (y164.length : Int) 0)))
def storagebarterlaw02_DigestSums.l0 : Nat → ByteArray → List Int → Int → Int → Int → List Int → Int → Int → Option (Bool)
 | 0, _, _, _, _, _, _, _, _ => none
 | k + 1, x0, x1, x2, x3, x5, x28, x29, x30 => if x30 < x29 then (if 0 ≤ x30 then (if x30 < (x28.length : Int) then ((digest_Power.f k (rd x28 x30)).bind fun t168 => ((storagebarterref02_Power.f k (rd x28 x30)).bind fun t169 => (if t168 = t169 then ((digest_Join.f k x2 x3 (rd x28 x30)).bind fun t170 => ((storagebarterref02_Join.f k x2 x3 (rd x28 x30)).bind fun t171 => (if t170 = t171 then (storagebarterlaw02_DigestSums.l0 k x0 x1 x2 x3 x5 x28 x29 (wrap64 (x30 + 1))) else (none)))) else (none)))) else (none)) else (none)) else ((digest_Sum.f k x0).bind fun t172 => ((storagebarterref02_Sum.f k x0).bind fun t173 => (if t172 = t173 then ((digest_Of.f k x1).bind fun t174 => ((storagebarterref02_Of.f k x1).bind fun t175 => (if t174 = t175 then ((digest_At.f k x0 x5).bind fun t176 => ((storagebarterref02_At.f k x0 x5).bind fun t177 => (if t176 = t177 then ((digest_At.f k x0 (wrap64 (x5 + 2147483647))).bind fun t178 => ((storagebarterref02_At.f k x0 (wrap64 (x5 + 2147483647))).bind fun t179 => (some (t178 == t179)))) else (none)))) else (none)))) else (none))))
end
def storagebarterlaw02_DigestSums.f (k : Nat) (a0 : ByteArray) (l1 : List Int) (a2 : Int) (a3 : Int) (a4 : Int) (a5 : Int) : Option (Bool) := (storagebarterlaw02_sane.f k).bind fun t162 => (if t162 = true then (if (a0.size : Int) > 5000 then (storagebarterlaw02_DigestSums.j0 k a0 l1 a2 a3 a4 a5 true) else (storagebarterlaw02_DigestSums.j0 k a0 l1 a2 a3 a4 a5 (decide ((l1.length : Int) > 1000)))) else (none))
set_option maxHeartbeats 8000000 in
set_option maxRecDepth 100000 in
theorem storagebarterlaw02_DigestSums.calls (k : Nat) (a0 : ByteArray) (A1 : Option Addr) (c1 : Nat) (l1 : List Int) (a2 : Int) (a3 : Int) (a4 : Int) (a5 : Int) (r : Bool) (w : World) (hr1 : Kd.C (Kd.int .i64) w A1 l1.length l1) (hc1 : l1.length ≤ c1) (h : storagebarterlaw02_DigestSums.f k a0 l1 a2 a3 a4 a5 = some r) :
  Calls Try.prog 7 #[.string a0, .slice A1 l1.length c1, .int .i64 a2, .int .i64 a3, .int .i64 a4, .int .i64 a5] w fun e w' => e = .returned (.bool r) ∧ Below w.heap.size w w' := by
 have HR1 := As hr1; have HC1 := As hc1; clear hr1 hc1; have HB := As (Below.refl w.heap.size w); have H : ((storagebarterlaw02_sane.f k).bind fun t162 => (if t162 = true then (if (a0.size : Int) > 5000 then (storagebarterlaw02_DigestSums.j0 k a0 l1 a2 a3 a4 a5 true) else (storagebarterlaw02_DigestSums.j0 k a0 l1 a2 a3 a4 a5 (decide ((l1.length : Int) > 1000)))) else (none))) = some r := h; clear h; replace H := Option.bind_eq_some_iff.mp H; obtain ⟨t162, A70, H⟩ := H; (try dsimp only at H); have A7 := As A70; clear A70
 by_cases c8 : t162 = true
 ·subst c8
  rw [if_pos rfl] at H; have HC9 := As H; clear H; go_enter Try.func7, Try.ntmps7; go_upto_region 3 with (first | ((with_reducible refine gate_callee (f := 8) rfl ?_); refine goesL_ (some 15) rfl rfl Try.func8 (by kernel_rfl) rfl #[] rfl (by (try simp only [m1, m2, m3]); first | done | rfl | (simp only [m4, m5]; rfl)) ?_; (with_reducible refine (storagebarterlaw02_sane.calls k  true _ A7.out).mono ?_); rintro e w' ⟨rfl, ⟨nd, rfl⟩⟩; refine ⟨_, rfl, ?_⟩)); (try simp only [Act.put, List.setIfInBounds_toArray, List.set_cons_zero, List.set_cons_succ]); go_cut [24] (fun v24 wc => ∃ (kq : Nat) (x24_8 : Bool), v24 = .bool x24_8 ∧ Aside0 (storagebarterlaw02_DigestSums.j0 kq a0 l1 a2 a3 a4 a5 x24_8 = some r) ∧ Aside0 (kq ≤ k) ∧ Aside0 (Below w.heap.size w wc))
  case first =>
   have H := HC9.out; clear HC9
   by_cases c10 : (a0.size : Int) > 5000
   ·rw [if_pos c10] at H
    have c10b0 : decide (5000 < (a0.size : Int)) = true := decide_eq_true c10; have c10b1 : decide (5000 < a0.size) = true := decide_eq_true (by omega); clear c10; (first | rw [c10b0] | (simp only [i64_w, i32_w]; rw [c10b0]) | skip); have H' := As H; clear H; go_wp2; go_meet
    case rel => exact ⟨_, (true), (by first | rfl | (simp; done) | (simp [*]; done)), H', ⟨by first | omega | exact Nat.le_refl _⟩, ⟨hBq⟩⟩
   ·rw [if_neg c10] at H
    have c10b0 : decide (5000 < (a0.size : Int)) = false := decide_eq_false c10; have c10b1 : decide (5000 < a0.size) = false := decide_eq_false (by omega); clear c10; (first | rw [c10b0] | (simp only [i64_w, i32_w]; rw [c10b0]) | skip); have H' := As H; clear H; go_wp2; go_meet
    case rel => exact ⟨_, (decide ((l1.length : Int) > 1000)), (by first | rfl | (simp; done) | (simp [*]; done)), H', ⟨by first | omega | exact Nat.le_refl _⟩, ⟨hBq⟩⟩
  case rest =>
   clear HC9; (try clear c1); (try clear p2); (try clear c7); (try clear c8); (try clear c10); (try clear c10b0); (try clear c10b1); obtain ⟨kq, x24_8, rfl, HA, HJ8, HB⟩ := hcut
   cases kq with
   | zero => exact absurd HA.out (by simp [storagebarterlaw02_DigestSums.j0])
   | succ kj8 =>
    have H := HA.out; clear HA; simp only [storagebarterlaw02_DigestSums.j0] at H
    by_cases c11 : x24_8 = true
    ·subst c11
     rw [if_pos rfl] at H; obtain rfl := Option.some.inj H; go_wp2; go_ret; exact ⟨erq, hBq⟩
    ·replace c11 := Bool.eq_false_iff.mpr c11
     subst c11; rw [if_neg nft] at H; replace H := Option.bind_eq_some_iff.mp H; obtain ⟨t163, A120, H⟩ := H; (try dsimp only at H); have A12 := As A120; clear A120; obtain ⟨y164, hy164⟩ : ∃ y_ : List Int, y_ = (([a4, t163] : List Int)) := ⟨_, rfl⟩; (replace H : (storagebarterlaw02_DigestSums.l0 kj8 a0 l1 a2 a3 a5 y164 (y164.length : Int) 0) = some r := by first | (rw [hy164]; with_reducible exact H) | (have H2_ := (Option.bind_some _ _).symm.trans H; rw [hy164]; with_reducible exact H2_) | (have H2_ := (Option.bind_some _ _).symm.trans H; with_reducible exact H2_) | with_reducible exact H | (rw [hy164]; exact H) | exact H); have Ny164 := As hy164; clear hy164; have H' := As H; clear H
     go_wp2_with (first | ((with_reducible refine gate_callee (f := 9) rfl ?_); refine goesL_ (some 27) rfl rfl Try.func9 (by kernel_rfl) rfl #[.int .i64 a4, .int .i64 5000] rfl (by (try simp only [m1, m2, m3]); first | done | rfl | (simp only [m4, m5]; rfl)) ?_; (with_reducible refine (storagebartermake_Mod.calls a4 5000 t163 _ A12.out).mono ?_); rintro e w' ⟨rfl, ⟨nd, rfl⟩⟩; refine ⟨_, rfl, ?_⟩) | ((with_reducible refine gate_dst (N := 28) rfl ?_); (try (refine gate_guard (by rfl) ?_; dsimp only)); refine Kd.R_lit (Kd.int .i64) _ 3 ?hg (N := 28) ?hd (xs := ([a4, t163] : List Int)) (inner := [.int .i64 a4, .int .i64 t163]) (ok := fun _ => True) (okp := fun _ => True) ?hr ?hp (fun _ hk => hk) trivial (Below.refl _ _) (Nat.le_refl _) (by simp) ?_; (case hd => rfl); (case hg => rfl); (case hr => first | (go_simp; done) | (go_simp; rfl)); (case hp => exact (Reps.one (show Kd.M (Kd.int .i64) _ _ _ a4 [.int .i64 a4] from rfl) (Reps.one (show Kd.M (Kd.int .i64) _ _ _ t163 [.int .i64 t163] from rfl) (Reps.none _ _)))); intro v165 w13 ho14 hb hg_ hnew_; clear hg_ hnew_; (first | rw [← Ny164.out] at ho14 | (simp only [Int.reduceToNat] at ho14; rw [← Ny164.out] at ho14)); have HO166 := As (Kd.R_lower ho14 (below_size hBq)); replace HB := sBq hb; clear hb ho14; obtain ⟨Ao15, co15, eo15⟩ := Kd.R_slice HO166.out; subst eo15))
     go_loopg [30] kj8 (fun kq v30 w' => ∃ (x30_2 : Int), v30 = .int .i64 x30_2 ∧ Aside0 (storagebarterlaw02_DigestSums.l0 kq a0 l1 a2 a3 a5 y164 (y164.length : Int) x30_2 = some r) ∧ Aside0 (kq ≤ kj8) ∧ Aside0 (Kd.R (Kd.int .i64) 3 w' w.heap.size (fun _ => True) (.slice Ao15 y164.length co15) y164) ∧ Aside0 (Below w.heap.size w w'))
     case atStart => exact ⟨(0), (by first | rfl | (simp; done) | (simp [*]; done)), H', ⟨Nat.le_refl _⟩, ⟨by (with_reducible repeat (first | apply Kd.R_alloc | apply Kd.R_drewN | apply Kd.R_drew)); exact HO166.out⟩, ⟨hBq⟩⟩
     case round =>
      clear H'; (try clear c1); (try clear p2); (try clear c7); (try clear c8); (try clear c9); (try clear c10); (try clear c10b0); (try clear c10b1); (try clear c11); (try clear p2); obtain ⟨x30_2, rfl, HA, HK2, HO_28, HB⟩ := hrel
      cases gk with
      | zero => exact absurd HA.out (by simp [storagebarterlaw02_DigestSums.l0])
      | succ k2 =>
       have H := HA.out; clear HA; simp only [storagebarterlaw02_DigestSums.l0] at H
       by_cases c16 : x30_2 < (y164.length : Int)
       ·rw [if_pos c16] at H
        have c16b0 : decide (x30_2 < (y164.length : Int)) = true := decide_eq_true c16; clear c16
        by_cases c17 : 0 ≤ x30_2
        ·rw [if_pos c17] at H
         have c17b0 : decide (0 ≤ x30_2) = true := decide_eq_true c17; clear c17
         by_cases c18 : x30_2 < (y164.length : Int)
         ·rw [if_pos c18] at H
          have c18b0 : decide (x30_2 < (y164.length : Int)) = true := decide_eq_true c18; clear c18; replace H := Option.bind_eq_some_iff.mp H; obtain ⟨t168, A190, H⟩ := H; (try dsimp only at H); have A19 := As A190; clear A190; replace H := Option.bind_eq_some_iff.mp H; obtain ⟨t169, A200, H⟩ := H; (try dsimp only at H); have A20 := As A200; clear A200
          by_cases c21 : t168 = t169
          ·rw [if_pos c21] at H
           have c21b0 : (t168 == t169) = true := beq_iff_eq.mpr c21; have c21b1 : (t168 != t169) = false := bne_eq_false_iff_eq.mpr c21; clear c21; replace H := Option.bind_eq_some_iff.mp H; obtain ⟨t170, A220, H⟩ := H; (try dsimp only at H); have A22 := As A220; clear A220; replace H := Option.bind_eq_some_iff.mp H; obtain ⟨t171, A230, H⟩ := H; (try dsimp only at H); have A23 := As A230; clear A230
           by_cases c24 : t170 = t171
           ·rw [if_pos c24] at H
            have c24b0 : (t170 == t171) = true := beq_iff_eq.mpr c24; have c24b1 : (t170 != t171) = false := bne_eq_false_iff_eq.mpr c24; clear c24; have H' := As H; clear H; have p167 : 0 ≤ (x30_2 : Int) := of_decide_eq_true (by first | (with_reducible assumption) | assumption); have q167 : x30_2 < (y164.length : Int) := of_decide_eq_true (by first | (with_reducible assumption) | assumption); obtain ⟨ad167, e167, hx167_0⟩ := Kd.at_int (Kd.R_reads' HO_28.out).2.2 x30_2 p167 q167; cases e167; replace p167 := eq_true p167; replace q167 := eq_true q167
            go_wp2_with (first | ((with_reducible refine gate_callee (f := 13) rfl ?_); refine goesL_ (some 35) rfl rfl Try.func13 (by kernel_rfl) rfl #[.int .i64 (rd y164 x30_2)] rfl (by (try simp only [m1, m2, m3]); first | done | rfl | (simp only [m4, m5]; rfl)) ?_; (with_reducible refine (digest_Power.calls k2 (rd y164 x30_2) t168 _ A19.out).mono ?_); rintro e w' ⟨rfl, ⟨nd, rfl⟩⟩; refine ⟨_, rfl, ?_⟩) | ((with_reducible refine gate_callee (f := 14) rfl ?_); refine goesL_ (some 37) rfl rfl Try.func14 (by kernel_rfl) rfl #[.int .i64 (rd y164 x30_2)] rfl (by (try simp only [m1, m2, m3]); first | done | rfl | (simp only [m4, m5]; rfl)) ?_; (with_reducible refine (storagebarterref02_Power.calls k2 (rd y164 x30_2) t169 _ A20.out).mono ?_); rintro e w' ⟨rfl, ⟨nd, rfl⟩⟩; refine ⟨_, rfl, ?_⟩) | (go_at_call 12; (with_reducible refine (digest_Join.calls k2 a2 a3 (rd y164 x30_2) t170 _ A22.out).mono ?_); rintro e w' ⟨rfl, ⟨nd, rfl⟩⟩) | (go_at_call 15; (with_reducible refine (storagebarterref02_Join.calls k2 a2 a3 (rd y164 x30_2) t171 _ A23.out).mono ?_); rintro e w' ⟨rfl, ⟨nd, rfl⟩⟩)); go_roundg k2
            case measure => have := HJ8.out; have := HK2.out; omega
            case rel => exact ⟨(wrap64 (x30_2 + 1)), (by first | rfl | (simp; done) | (simp [*]; done)), H', ⟨by have := HJ8.out; have := HK2.out; omega⟩, ⟨by (with_reducible repeat (first | apply Kd.R_alloc | apply Kd.R_drewN | apply Kd.R_drew)); exact HO_28.out⟩, ⟨hBq⟩⟩
           ·rw [if_neg c24] at H
            exact absurd H (by simp)
          ·rw [if_neg c21] at H
           exact absurd H (by simp)
         ·rw [if_neg c18] at H
          exact absurd H (by simp)
        ·rw [if_neg c17] at H
         exact absurd H (by simp)
       ·rw [if_neg c16] at H
        have c16b0 : decide (x30_2 < (y164.length : Int)) = false := decide_eq_false c16; clear c16; replace H := Option.bind_eq_some_iff.mp H; obtain ⟨t172, A250, H⟩ := H; (try dsimp only at H); have A25 := As A250; clear A250; replace H := Option.bind_eq_some_iff.mp H; obtain ⟨t173, A260, H⟩ := H; (try dsimp only at H); have A26 := As A260; clear A260
        by_cases c27 : t172 = t173
        ·rw [if_pos c27] at H
         have c27b0 : (t172 == t173) = true := beq_iff_eq.mpr c27; have c27b1 : (t172 != t173) = false := bne_eq_false_iff_eq.mpr c27; clear c27; replace H := Option.bind_eq_some_iff.mp H; obtain ⟨t174, A280, H⟩ := H; (try dsimp only at H); have A28 := As A280; clear A280; replace H := Option.bind_eq_some_iff.mp H; obtain ⟨t175, A290, H⟩ := H; (try dsimp only at H); have A29 := As A290; clear A290
         by_cases c30 : t174 = t175
         ·rw [if_pos c30] at H
          have c30b0 : (t174 == t175) = true := beq_iff_eq.mpr c30; have c30b1 : (t174 != t175) = false := bne_eq_false_iff_eq.mpr c30; clear c30; replace H := Option.bind_eq_some_iff.mp H; obtain ⟨t176, A310, H⟩ := H; (try dsimp only at H); have A31 := As A310; clear A310; replace H := Option.bind_eq_some_iff.mp H; obtain ⟨t177, A320, H⟩ := H; (try dsimp only at H); have A32 := As A320; clear A320
          by_cases c33 : t176 = t177
          ·rw [if_pos c33] at H
           have c33b0 : (t176 == t177) = true := beq_iff_eq.mpr c33; have c33b1 : (t176 != t177) = false := bne_eq_false_iff_eq.mpr c33; clear c33; replace H := Option.bind_eq_some_iff.mp H; obtain ⟨t178, A340, H⟩ := H; (try dsimp only at H); have A34 := As A340; clear A340; replace H := Option.bind_eq_some_iff.mp H; obtain ⟨t179, A350, H⟩ := H; (try dsimp only at H); have A35 := As A350; clear A350; obtain rfl := Option.some.inj H
           go_wp2_with (first | ((with_reducible refine gate_callee (f := 10) rfl ?_); refine goesL_ (some 52) rfl rfl Try.func10 (by kernel_rfl) rfl #[.string a0] rfl (by (try simp only [m1, m2, m3]); first | done | rfl | (simp only [m4, m5]; rfl)) ?_; (with_reducible refine (digest_Sum.calls k2 a0 t172 _ A25.out).mono ?_); rintro e w' ⟨rfl, ⟨nd, rfl⟩⟩; refine ⟨_, rfl, ?_⟩) | ((with_reducible refine gate_callee (f := 16) rfl ?_); refine goesL_ (some 54) rfl rfl Try.func16 (by kernel_rfl) rfl #[.string a0] rfl (by (try simp only [m1, m2, m3]); first | done | rfl | (simp only [m4, m5]; rfl)) ?_; (with_reducible refine (storagebarterref02_Sum.calls k2 a0 t173 _ A26.out).mono ?_); rintro e w' ⟨rfl, ⟨nd, rfl⟩⟩; refine ⟨_, rfl, ?_⟩) | (go_at_call 17; (with_reducible refine (digest_Of.calls k2 _ _ l1 t174 _ ?side1 ?side2 A28.out).mono ?_); (case side1 => repeat (first | exact (Kd.C_below HR1.out hBq) | (with_reducible refine Kd.C_alloc ?_ _) | (with_reducible refine Kd.C_drewN ?_ _) | (with_reducible refine Kd.C_drew ?_))); (case side2 => exact HC1.out); rintro e w36 ⟨rfl, hb⟩; replace HO_28 := As (Kd.R_below (by (with_reducible repeat (first | apply Kd.R_alloc | apply Kd.R_drewN | apply Kd.R_drew)); exact HO_28.out) hb); replace HB := sBq hb; (try clear hb); (try clear hb2); (try clear hk); (try clear hi)) | (go_at_call 18; (with_reducible refine (storagebarterref02_Of.calls k2 _ _ l1 t175 _ ?side1 ?side2 A29.out).mono ?_); (case side1 => repeat (first | exact (Kd.C_below HR1.out HB.out) | (with_reducible refine Kd.C_alloc ?_ _) | (with_reducible refine Kd.C_drewN ?_ _) | (with_reducible refine Kd.C_drew ?_))); (case side2 => exact HC1.out); rintro e w37 ⟨rfl, hb⟩; replace HO_28 := As (Kd.R_below (by (with_reducible repeat (first | apply Kd.R_alloc | apply Kd.R_drewN | apply Kd.R_drew)); exact HO_28.out) hb); replace HB := sBq hb; (try clear hb); (try clear hb2); (try clear hk); (try clear hi)) | (go_at_call 11; (with_reducible refine (digest_At.calls k2 a0 a5 t176 _ A31.out).mono ?_); rintro e w' ⟨rfl, ⟨nd, rfl⟩⟩) | (go_at_call 19; (with_reducible refine (storagebarterref02_At.calls k2 a0 a5 t177 _ A32.out).mono ?_); rintro e w' ⟨rfl, ⟨nd, rfl⟩⟩) | (go_at_call 11; (with_reducible refine (digest_At.calls k2 a0 (wrap64 (a5 + 2147483647)) t178 _ A34.out).mono ?_); rintro e w' ⟨rfl, ⟨nd, rfl⟩⟩) | (go_at_call 19; (with_reducible refine (storagebarterref02_At.calls k2 a0 (wrap64 (a5 + 2147483647)) t179 _ A35.out).mono ?_); rintro e w' ⟨rfl, ⟨nd, rfl⟩⟩))
           go_ret; exact ⟨erq, hBq⟩
          ·rw [if_neg c33] at H
           exact absurd H (by simp)
         ·rw [if_neg c30] at H
          exact absurd H (by simp)
        ·rw [if_neg c27] at H
         exact absurd H (by simp)
 ·replace c8 := Bool.eq_false_iff.mpr c8
  subst c8; rw [if_neg nft] at H; exact absurd H (by simp)

/-- THE ONE PURE STATEMENT of storagebarterlaw02_DigestSums: yours. -/
def storagebarterlaw02_DigestSums.Pure : Prop := ∀ (a0 : ByteArray) (l1 : List Int) (a2 : Int) (a3 : Int) (a4 : Int) (a5 : Int), a0.size ≤ 140737488351232 → l1.length ≤ maxLen → l1.length * 8 ≤ 140737488351232 → (∀ x ∈ l1, (Lit.int .i64 x).wf = true) → (Lit.int .i64 a2).wf = true → (Lit.int .i64 a3).wf = true → (Lit.int .i64 a4).wf = true → (Lit.int .i64 a5).wf = true → ∃ k, storagebarterlaw02_DigestSums.f k a0 l1 a2 a3 a4 a5 = some true
theorem storagebarterlaw02_DigestSums.walk (P : storagebarterlaw02_DigestSums.Pure) (a0 : ByteArray) (a1 : Option Addr) (len1 cap1 : Nat) (z1 : List Int) (a2 : Int) (a3 : Int) (a4 : Int) (a5 : Int) (w : World) (w0 : a0.size ≤ 140737488351232) (w1 : (a1 = none ∧ len1 = 0 ∧ cap1 = 0 ∧ z1 = []) ∨ ∃ x, a1 = some x ∧ len1 ≤ cap1 ∧ cap1 ≤ maxLen ∧ z1.length = cap1 ∧ (∀ i, i < z1.length → w.cell? (x.add i) = some (.int .i64 (z1.getD i 0))) ∧ ∀ n ∈ z1, (Lit.int .i64 n).wf = true) (y1 : len1 * 8 ≤ 140737488351232) (w2 : (Lit.int .i64 a2).wf = true) (w3 : (Lit.int .i64 a3).wf = true) (w4 : (Lit.int .i64 a4).wf = true) (w5 : (Lit.int .i64 a5).wf = true) :
  Calls Try.prog 7 #[.string a0, .slice a1 len1 cap1, .int .i64 a2, .int .i64 a3, .int .i64 a4, .int .i64 a5] w fun e w' => e = .returned (.bool true) ∧ Below w.heap.size w w' := by
 obtain ⟨l1, rfl, hr1, hm1, hw1, hc1⟩ := ReadsInt.ofRowC w1; obtain ⟨k, h⟩ := P a0 l1 a2 a3 a4 a5 w0 hm1 y1 hw1 w2 w3 w4 w5; refine (storagebarterlaw02_DigestSums.calls k a0 _ _ l1 a2 a3 a4 a5 true w (Kd.C_of_reads (d := (0 : Int)) (h1 := fun _ => rfl) hr1) hc1 h).mono ?_; rintro e w' ⟨rfl, hd⟩; exact ⟨rfl, hd⟩

end Go.Proofs.Ytkndnbliohkhhaa.PA
