-- Written by a program of this claim's own (hookprint.py), after the pattern of the kit's print. Lean checks it.
import Derived.Test.YtfabnklcdagfjaaPAx0
import Derived.Test.YtfabnklcdagfjaaPAx8
import Derived.Test.YtfabnklcdagfjaaPAx9
import Derived.Test.YtfabnklcdagfjaaPAx10
namespace Go.Proofs.Ytfabnklcdagfjaa.PA
open Go.RowKit Go.Proofs.YtfabnklcdagfjaaW.PrintWords Go.Proofs.YtfabnklcdagfjaaW.PrintLast Go.Proofs.YtfabnklcdagfjaaW.PrintMore
attribute [local go_sem ↓] some_setCell
attribute [local go_sem] max2_int min2_int max_two min_two max_three min_three max_four min_four   -- for this text's walks alone
set_option linter.unusedVariables false
set_option linter.unusedSimpArgs false

/-! ### storagebarterlaw20_ChallengeWhole: function 5 -/
mutual
def storagebarterlaw20_ChallengeWhole.l0 : Nat → Int → List Int → List Int → Int → Int → List Int → Int → Option (Bool)
 | 0, _, _, _, _, _, _, _ => none
 | k + 1, x6, x7, x8, x28, x29, x248000, x248001 => if x29 < x28 then ((storagebartermake_Deck_Next.f x248000 x248001 256).bind fun bt248 => (if x7.length < 140737488355328 then (if x8.length < 140737488355328 then (storagebarterlaw20_ChallengeWhole.l0 k x6 (x7 ++ [(bt248.1) % 256]) (x8 ++ [(bt248.1) % 256]) x28 (wrap64 (x29 + 1)) x248000 bt248.2) else (none)) else (none))) else ((storagebartermake_Deck_Next.f x248000 x248001 4).bind fun bt256 => (storagebarterlaw20_ChallengeWhole.l1 k x6 x7 x8 bt256.1 x248000 bt256.2))
def storagebarterlaw20_ChallengeWhole.l1 : Nat → Int → List Int → List Int → Int → List Int → Int → Option (Bool)
 | 0, _, _, _, _, _, _ => none
 | k + 1, x6, x7, x8, x10, x248000, x248001 => if x10 > 0 then ((storagebartermake_Deck_Next.f x248000 x248001 x6).bind fun bt258 => ((storagebartermake_Deck_Next.f x248000 bt258.2 256).bind fun bt260 => (if 0 ≤ bt258.1 then (if bt258.1 < (x8.length : Int) then (storagebarterlaw20_ChallengeWhole.l1 k x6 x7 (x8.set (bt258.1 : Int).toNat ((bt260.1) % 256)) (wrap64 (x10 - 1)) x248000 bt260.2) else (none)) else (none)))) else (storagebarterlaw20_ChallengeWhole.l2 k x6 x7 x8 1 0 x6 0 x248000 x248001)
def storagebarterlaw20_ChallengeWhole.l2 : Nat → Int → List Int → List Int → Int → Int → Int → Int → List Int → Int → Option (Bool)
 | 0, _, _, _, _, _, _, _, _, _ => none
 | k + 1, x6, x7, x8, x11, x12, x57, x58, x248000, x248001 => if x58 < x57 then ((storagebartermake_Deck_Next.f x248000 x248001 1000000).bind fun bt263 => ((challenge_Answer.f k (strOfNums x7) (wrap64 (x11 + (wrap64 (1 + bt263.1))))).bind fun bt265 => ((challenge_Answer.f k (strOfNums x8) (wrap64 (x11 + (wrap64 (1 + bt263.1))))).bind fun bt267 => (if bt265.2 = 0 then (storagebarterlaw20_ChallengeWhole.j3 k x6 x7 x8 (wrap64 (x11 + (wrap64 (1 + bt263.1)))) x12 bt265.1 bt267.1 x57 x58 (bt267.2 != 0) x248000 bt263.2) else (storagebarterlaw20_ChallengeWhole.j3 k x6 x7 x8 (wrap64 (x11 + (wrap64 (1 + bt263.1)))) x12 bt265.1 bt267.1 x57 x58 true x248000 bt263.2))))) else (some ((x12 == x6) == ((strOfNums x7).toList == (strOfNums x8).toList)))
def storagebarterlaw20_ChallengeWhole.j3 : Nat → Int → List Int → List Int → Int → Int → Int → Int → Int → Int → Bool → List Int → Int → Option (Bool)
 | 0, _, _, _, _, _, _, _, _, _, _, _, _ => none
 | k + 1, x6, x7, x8, x11, x12, x13, x15, x57, x58, x84, x248000, x248001 => if x84 = true then (none) else (if x13 = x15 then (storagebarterlaw20_ChallengeWhole.l2 k x6 x7 x8 x11 (wrap64 (x12 + 1)) x57 (wrap64 (x58 + 1)) x248000 x248001) else (storagebarterlaw20_ChallengeWhole.l2 k x6 x7 x8 x11 x12 x57 (wrap64 (x58 + 1)) x248000 x248001))
end
def storagebarterlaw20_ChallengeWhole.f (k : Nat) (l0 : List Int) (a1 : Int) : Option (Bool) := (storagebarterlaw20_sane.f k).bind fun t243 => (if t243 = true then ((storagebartermake_Few.f l0).bind fun t244 => (if t244 = true then ((storagebartermake_New.f l0).bind fun bt245 => (storagebarterlaw20_ChallengeWhole.l0 k (wrap64 (1 + (wrap64 (Int.tmod a1 12)))) ([] : List Int) ([] : List Int) (wrap64 (1 + (wrap64 (Int.tmod a1 12)))) 0 bt245.1 bt245.2)) else (some true))) else (none))
theorem storagebarterlaw20_ChallengeWhole.mono_l : ∀ k, (∀ y0 y1 y2 y3 y4 y5 y6, LeO (storagebarterlaw20_ChallengeWhole.l0 k y0 y1 y2 y3 y4 y5 y6) (storagebarterlaw20_ChallengeWhole.l0 (k + 1) y0 y1 y2 y3 y4 y5 y6)) ∧ (∀ y0 y1 y2 y3 y4 y5, LeO (storagebarterlaw20_ChallengeWhole.l1 k y0 y1 y2 y3 y4 y5) (storagebarterlaw20_ChallengeWhole.l1 (k + 1) y0 y1 y2 y3 y4 y5)) ∧ (∀ y0 y1 y2 y3 y4 y5 y6 y7 y8, LeO (storagebarterlaw20_ChallengeWhole.l2 k y0 y1 y2 y3 y4 y5 y6 y7 y8) (storagebarterlaw20_ChallengeWhole.l2 (k + 1) y0 y1 y2 y3 y4 y5 y6 y7 y8)) ∧ (∀ y0 y1 y2 y3 y4 y5 y6 y7 y8 y9 y10 y11, LeO (storagebarterlaw20_ChallengeWhole.j3 k y0 y1 y2 y3 y4 y5 y6 y7 y8 y9 y10 y11) (storagebarterlaw20_ChallengeWhole.j3 (k + 1) y0 y1 y2 y3 y4 y5 y6 y7 y8 y9 y10 y11))
 | 0 => ⟨fun _ _ _ _ _ _ _ r h => by simp [storagebarterlaw20_ChallengeWhole.l0] at h, fun _ _ _ _ _ _ r h => by simp [storagebarterlaw20_ChallengeWhole.l1] at h, fun _ _ _ _ _ _ _ _ _ r h => by simp [storagebarterlaw20_ChallengeWhole.l2] at h, fun _ _ _ _ _ _ _ _ _ _ _ _ r h => by simp [storagebarterlaw20_ChallengeWhole.j3] at h⟩
 | k + 1 => by
  obtain ⟨ih0, ih1, ih2, ih3⟩ := storagebarterlaw20_ChallengeWhole.mono_l k
  refine ⟨?_, ?_, ?_, ?_⟩
  ·intro y0 y1 y2 y3 y4 y5 y6
   unfold storagebarterlaw20_ChallengeWhole.l0
   repeat' first
   | (with_reducible exact ih0 _ _ _ _ _ _ _)
   | (with_reducible exact ih1 _ _ _ _ _ _)
   | (with_reducible exact ih2 _ _ _ _ _ _ _ _ _)
   | (with_reducible exact ih3 _ _ _ _ _ _ _ _ _ _ _ _)
   | (with_reducible exact challenge_Answer.mono _ _ _)
   | (with_reducible exact storagebarterlaw20_sane.mono _)
   | (with_reducible exact LeO.refl _)
   | (with_reducible exact LeO.none _)
   | (with_reducible refine LeO.ite ?_ ?_)
   | (with_reducible refine LeO.bind ?_ (fun _ => ?_))
   | exact ih0 _ _ _ _ _ _ _
   | exact ih1 _ _ _ _ _ _
   | exact ih2 _ _ _ _ _ _ _ _ _
   | exact ih3 _ _ _ _ _ _ _ _ _ _ _ _
   | exact challenge_Answer.mono _ _ _
   | exact storagebarterlaw20_sane.mono _
   | exact LeO.none _
   | refine LeO.ite ?_ ?_
   | refine LeO.bind ?_ (fun _ => ?_)
  ·intro y0 y1 y2 y3 y4 y5
   unfold storagebarterlaw20_ChallengeWhole.l1
   repeat' first
   | (with_reducible exact ih0 _ _ _ _ _ _ _)
   | (with_reducible exact ih1 _ _ _ _ _ _)
   | (with_reducible exact ih2 _ _ _ _ _ _ _ _ _)
   | (with_reducible exact ih3 _ _ _ _ _ _ _ _ _ _ _ _)
   | (with_reducible exact challenge_Answer.mono _ _ _)
   | (with_reducible exact storagebarterlaw20_sane.mono _)
   | (with_reducible exact LeO.refl _)
   | (with_reducible exact LeO.none _)
   | (with_reducible refine LeO.ite ?_ ?_)
   | (with_reducible refine LeO.bind ?_ (fun _ => ?_))
   | exact ih0 _ _ _ _ _ _ _
   | exact ih1 _ _ _ _ _ _
   | exact ih2 _ _ _ _ _ _ _ _ _
   | exact ih3 _ _ _ _ _ _ _ _ _ _ _ _
   | exact challenge_Answer.mono _ _ _
   | exact storagebarterlaw20_sane.mono _
   | exact LeO.none _
   | refine LeO.ite ?_ ?_
   | refine LeO.bind ?_ (fun _ => ?_)
  ·intro y0 y1 y2 y3 y4 y5 y6 y7 y8
   unfold storagebarterlaw20_ChallengeWhole.l2
   repeat' first
   | (with_reducible exact ih0 _ _ _ _ _ _ _)
   | (with_reducible exact ih1 _ _ _ _ _ _)
   | (with_reducible exact ih2 _ _ _ _ _ _ _ _ _)
   | (with_reducible exact ih3 _ _ _ _ _ _ _ _ _ _ _ _)
   | (with_reducible exact challenge_Answer.mono _ _ _)
   | (with_reducible exact storagebarterlaw20_sane.mono _)
   | (with_reducible exact LeO.refl _)
   | (with_reducible exact LeO.none _)
   | (with_reducible refine LeO.ite ?_ ?_)
   | (with_reducible refine LeO.bind ?_ (fun _ => ?_))
   | exact ih0 _ _ _ _ _ _ _
   | exact ih1 _ _ _ _ _ _
   | exact ih2 _ _ _ _ _ _ _ _ _
   | exact ih3 _ _ _ _ _ _ _ _ _ _ _ _
   | exact challenge_Answer.mono _ _ _
   | exact storagebarterlaw20_sane.mono _
   | exact LeO.none _
   | refine LeO.ite ?_ ?_
   | refine LeO.bind ?_ (fun _ => ?_)
  ·intro y0 y1 y2 y3 y4 y5 y6 y7 y8 y9 y10 y11
   unfold storagebarterlaw20_ChallengeWhole.j3
   repeat' first
   | (with_reducible exact ih0 _ _ _ _ _ _ _)
   | (with_reducible exact ih1 _ _ _ _ _ _)
   | (with_reducible exact ih2 _ _ _ _ _ _ _ _ _)
   | (with_reducible exact ih3 _ _ _ _ _ _ _ _ _ _ _ _)
   | (with_reducible exact challenge_Answer.mono _ _ _)
   | (with_reducible exact storagebarterlaw20_sane.mono _)
   | (with_reducible exact LeO.refl _)
   | (with_reducible exact LeO.none _)
   | (with_reducible refine LeO.ite ?_ ?_)
   | (with_reducible refine LeO.bind ?_ (fun _ => ?_))
   | exact ih0 _ _ _ _ _ _ _
   | exact ih1 _ _ _ _ _ _
   | exact ih2 _ _ _ _ _ _ _ _ _
   | exact ih3 _ _ _ _ _ _ _ _ _ _ _ _
   | exact challenge_Answer.mono _ _ _
   | exact storagebarterlaw20_sane.mono _
   | exact LeO.none _
   | refine LeO.ite ?_ ?_
   | refine LeO.bind ?_ (fun _ => ?_)
theorem storagebarterlaw20_ChallengeWhole.mono : ∀ a0 a1 k, LeO (storagebarterlaw20_ChallengeWhole.f k a0 a1) (storagebarterlaw20_ChallengeWhole.f (k + 1) a0 a1) := by
 intro a0 a1 k
 obtain ⟨ih0, ih1, ih2, ih3⟩ := storagebarterlaw20_ChallengeWhole.mono_l k
 unfold storagebarterlaw20_ChallengeWhole.f
 repeat' first
   | (with_reducible exact ih0 _ _ _ _ _ _ _)
   | (with_reducible exact ih1 _ _ _ _ _ _)
   | (with_reducible exact ih2 _ _ _ _ _ _ _ _ _)
   | (with_reducible exact ih3 _ _ _ _ _ _ _ _ _ _ _ _)
   | (with_reducible exact challenge_Answer.mono _ _ _)
   | (with_reducible exact storagebarterlaw20_sane.mono _)
   | (with_reducible exact LeO.refl _)
   | (with_reducible exact LeO.none _)
   | (with_reducible refine LeO.ite ?_ ?_)
   | (with_reducible refine LeO.bind ?_ (fun _ => ?_))
   | exact ih0 _ _ _ _ _ _ _
   | exact ih1 _ _ _ _ _ _
   | exact ih2 _ _ _ _ _ _ _ _ _
   | exact ih3 _ _ _ _ _ _ _ _ _ _ _ _
   | exact challenge_Answer.mono _ _ _
   | exact storagebarterlaw20_sane.mono _
   | exact LeO.none _
   | refine LeO.ite ?_ ?_
   | refine LeO.bind ?_ (fun _ => ?_)
set_option maxHeartbeats 8000000 in
set_option maxRecDepth 100000 in
theorem storagebarterlaw20_ChallengeWhole.calls (k : Nat) (A0 : Option Addr) (c0 : Nat) (l0 : List Int) (a1 : Int) (r : Bool) (w : World) (hr0 : Kd.C (Kd.int .i64) w A0 l0.length l0) (hc0 : l0.length ≤ c0) (h : storagebarterlaw20_ChallengeWhole.f k l0 a1 = some r) :
  Calls Try.prog 5 #[.slice A0 l0.length c0, .int .u8 a1] w fun e w' => e = .returned (.bool r) ∧ Below w.heap.size w w' := by
 have HR0 := Aside0.mk hr0
 have HC0 := Aside0.mk hc0
 clear hr0 hc0
 have HB := Aside0.mk (Below.refl w.heap.size w)
 have H : ((storagebarterlaw20_sane.f k).bind fun t243 => (if t243 = true then ((storagebartermake_Few.f l0).bind fun t244 => (if t244 = true then ((storagebartermake_New.f l0).bind fun bt245 => (storagebarterlaw20_ChallengeWhole.l0 k (wrap64 (1 + (wrap64 (Int.tmod a1 12)))) ([] : List Int) ([] : List Int) (wrap64 (1 + (wrap64 (Int.tmod a1 12)))) 0 bt245.1 bt245.2)) else (some true))) else (none))) = some r := h
 clear h
 replace H := Option.bind_eq_some_iff.mp H
 obtain ⟨t243, A30, H⟩ := H
 replace H : (if t243 = true then ((storagebartermake_Few.f l0).bind fun t244 => (if t244 = true then ((storagebartermake_New.f l0).bind fun bt245 => (storagebarterlaw20_ChallengeWhole.l0 k (wrap64 (1 + (wrap64 (Int.tmod a1 12)))) ([] : List Int) ([] : List Int) (wrap64 (1 + (wrap64 (Int.tmod a1 12)))) 0 bt245.1 bt245.2)) else (some true))) else (none)) = some r := H
 have A3 := Aside0.mk A30
 clear A30
 by_cases c4 : t243 = true
 ·subst c4
  have H1 : ((storagebartermake_Few.f l0).bind fun t244 => (if t244 = true then ((storagebartermake_New.f l0).bind fun bt245 => (storagebarterlaw20_ChallengeWhole.l0 k (wrap64 (1 + (wrap64 (Int.tmod a1 12)))) ([] : List Int) ([] : List Int) (wrap64 (1 + (wrap64 (Int.tmod a1 12)))) 0 bt245.1 bt245.2)) else (some true))) = some r := by rw [if_pos rfl] at H; exact H
  clear H
  have H := H1
  clear H1
  replace H := Option.bind_eq_some_iff.mp H
  obtain ⟨t244, A50, H⟩ := H
  replace H : (if t244 = true then ((storagebartermake_New.f l0).bind fun bt245 => (storagebarterlaw20_ChallengeWhole.l0 k (wrap64 (1 + (wrap64 (Int.tmod a1 12)))) ([] : List Int) ([] : List Int) (wrap64 (1 + (wrap64 (Int.tmod a1 12)))) 0 bt245.1 bt245.2)) else (some true)) = some r := H
  have A5 := Aside0.mk A50
  clear A50
  by_cases c6 : t244 = true
  ·subst c6
   have H1 : ((storagebartermake_New.f l0).bind fun bt245 => (storagebarterlaw20_ChallengeWhole.l0 k (wrap64 (1 + (wrap64 (Int.tmod a1 12)))) ([] : List Int) ([] : List Int) (wrap64 (1 + (wrap64 (Int.tmod a1 12)))) 0 bt245.1 bt245.2)) = some r := by rw [if_pos rfl] at H; exact H
   clear H
   have H := H1
   clear H1
   replace H := Option.bind_eq_some_iff.mp H
   obtain ⟨⟨t245, t246⟩, A70, H⟩ := H
   replace H : (storagebarterlaw20_ChallengeWhole.l0 k (wrap64 (1 + (wrap64 (Int.tmod a1 12)))) ([] : List Int) ([] : List Int) (wrap64 (1 + (wrap64 (Int.tmod a1 12)))) 0 t245 t246) = some r := H
   have A7 := Aside0.mk A70
   clear A70
   have H' := Aside0.mk H
   clear H
   go_enter Try.func5, Try.ntmps5
   go_wp2_with (first | ((with_reducible refine gate_callee (f := 7) rfl ?_); refine goesL_ (some 17) rfl rfl Try.func7 (by kernel_rfl) rfl #[] rfl (by (try simp only [List.map_toArray, List.map_cons, List.map_nil]); first | done | rfl | (simp only [List.length_drop, List.length_take]; rfl)) ?_; (with_reducible refine (storagebarterlaw20_sane.calls k  true _ A3.out).mono ?_); rintro e w8 ⟨rfl, hb⟩; refine ⟨_, rfl, ?_⟩; have n0_ := Aside0.mk (below_step (by repeat (first | (with_reducible first | exact HB.out | apply below_alloc | apply pw_below_drewN | apply below_drew1) | exact HB.out)) hb); clear HB; have HB := n0_; clear n0_; (try clear hb); (try clear hb2); (try clear hk); (try clear hi)) | ((with_reducible refine gate_callee (f := 8) rfl ?_); refine goesL_ (some 20) rfl rfl Try.func8 (by kernel_rfl) rfl #[.slice A0 l0.length c0] rfl (by (try simp only [List.map_toArray, List.map_cons, List.map_nil]); first | done | rfl | (simp only [List.length_drop, List.length_take]; rfl)) ?_; (with_reducible refine (storagebartermake_Few.calls _ _ l0 true _ ?side1 ?side2 A5.out).mono ?_); (case side1 => repeat (first | exact (Kd.C_below HR0.out HB.out) | (with_reducible refine Kd.C_alloc ?_ _) | (with_reducible refine Kd.C_drewN ?_ _) | (with_reducible refine Kd.C_drew ?_))); (case side2 => exact HC0.out); rintro e w' ⟨rfl, ⟨nd, rfl⟩⟩; refine ⟨_, rfl, ?_⟩) | ((with_reducible refine gate_callee (f := 9) rfl ?_); refine goesL_ (some 23) rfl rfl Try.func9 (by kernel_rfl) rfl #[.slice A0 l0.length c0] rfl (by (try simp only [List.map_toArray, List.map_cons, List.map_nil]); first | done | rfl | (simp only [List.length_drop, List.length_take]; rfl)) ?_; (with_reducible refine (storagebartermake_New.calls _ _ l0 t245 t246 w _ ?side1 ?side2 ?side3 A7.out).mono ?_); (case side1 => repeat (first | (with_reducible first | exact HB.out | apply below_alloc | apply pw_below_drewN | apply below_drew1) | exact HB.out)); (case side2 => exact HR0.out); (case side3 => exact HC0.out); rintro e w9 ⟨g247, rfl, hi, hb, hb2⟩; refine ⟨_, rfl, ?_⟩; have n0_ := Aside0.mk (hb); have n1_ := Aside0.mk (hi); clear HB; have HB := n0_; have HI247 := n1_; clear n0_ n1_; (try clear hb); (try clear hb2); (try clear hk); (try clear hi)))
   go_loopg [7, 8, 29] k (fun kq v7 v8 v29 w' => ∃ (x7_1 : List Int) (x8_1 : List Int) (x29_1 : Int) (x248001_1 : Int), v29 = .int .i64 x29_1 ∧ Aside0 (storagebarterlaw20_ChallengeWhole.l0 kq (wrap64 (1 + (wrap64 (Int.tmod a1 12)))) x7_1 x8_1 (wrap64 (1 + (wrap64 (Int.tmod a1 12)))) x29_1 t245 x248001_1 = some r) ∧ Aside0 (kq ≤ k) ∧ Aside0 (Kd.R (Kd.int .u8) 5 w' w.heap.size (fun k_ => some k_ ≠ (v8 : Value).ownBlock) v7 x7_1) ∧ Aside0 (Kd.R (Kd.int .u8) 5 w' w.heap.size (fun k_ => some k_ ≠ (v7 : Value).ownBlock) v8 x8_1) ∧ Aside0 (IsS60 w w' g247 t245 x248001_1) ∧ Aside0 (Below w.heap.size w w'))
   case atStart => exact ⟨(([] : List Int)), (([] : List Int)), (0), (t246), (by first | rfl | (simp; done) | (simp [*]; done)), H', ⟨Nat.le_refl _⟩, ⟨by first | exact Kd.R_nil _ _ _ _ _ | exact Kd.N_nil _ _ _ _ _ | exact Kd.V_nil _ _ _ _ _ | exact Kd.Q_nil _ _ _ _ _ | exact Kd.S_nil _ _ _ _ _⟩, ⟨by first | exact Kd.R_nil _ _ _ _ _ | exact Kd.N_nil _ _ _ _ _ | exact Kd.V_nil _ _ _ _ _ | exact Kd.Q_nil _ _ _ _ _ | exact Kd.S_nil _ _ _ _ _⟩, ⟨by repeat (first | (with_reducible first | exact HI247.out | apply IsS60.alloc | apply IsS60.drewN | apply IsS60.drew | apply IsS60.set_1) | exact HI247.out)⟩, ⟨by repeat (first | (with_reducible first | exact HB.out | apply below_alloc | apply pw_below_drewN | apply below_drew1 | refine below_set ?_ (IsS60.ge HI247.out)) | exact HB.out)⟩⟩
   case round =>
    clear H'
    try clear p2
    try clear c4
    try clear c5
    try clear c6
    try clear p6
    try clear c7
    try clear c8
    try clear c9
    obtain ⟨x7_1, x8_1, x29_1, x248001_1, rfl, HA, HK1, HO_7, HO_8, HI247, HB⟩ := hrel
    cases gk with
    | zero => exact absurd HA.out (by simp [storagebarterlaw20_ChallengeWhole.l0])
    | succ k1 =>
     have H := HA.out
     clear HA
     simp only [storagebarterlaw20_ChallengeWhole.l0] at H
     by_cases c10 : x29_1 < (wrap64 (1 + (wrap64 (Int.tmod a1 12))))
     ·rw [if_pos c10] at H
      have c10b0 : decide (x29_1 < (wrap64 (1 + (wrap64 (Int.tmod a1 12))))) = true := decide_eq_true c10
      clear c10
      replace H := Option.bind_eq_some_iff.mp H
      obtain ⟨⟨t248, t249⟩, A110, H⟩ := H
      replace H : (if x7_1.length < 140737488355328 then (if x8_1.length < 140737488355328 then (storagebarterlaw20_ChallengeWhole.l0 k1 (wrap64 (1 + (wrap64 (Int.tmod a1 12)))) (x7_1 ++ [(t248) % 256]) (x8_1 ++ [(t248) % 256]) (wrap64 (1 + (wrap64 (Int.tmod a1 12)))) (wrap64 (x29_1 + 1)) t245 t249) else (none)) else (none)) = some r := H
      have A11 := Aside0.mk A110
      clear A110
      by_cases c12 : x7_1.length < 140737488355328
      ·rw [if_pos c12] at H
       have LMc12 := Aside0.mk c12
       clear c12
       obtain ⟨y250, hy250⟩ : ∃ y_ : List Int, y_ = (x7_1 ++ [(t248) % 256]) := ⟨_, rfl⟩
       replace H : (if x8_1.length < 140737488355328 then (storagebarterlaw20_ChallengeWhole.l0 k1 (wrap64 (1 + (wrap64 (Int.tmod a1 12)))) y250 (x8_1 ++ [(t248) % 256]) (wrap64 (1 + (wrap64 (Int.tmod a1 12)))) (wrap64 (x29_1 + 1)) t245 t249) else (none)) = some r := by first | (rw [hy250]; with_reducible exact H) | (have H2_ := (Option.bind_some _ _).symm.trans H; rw [hy250]; with_reducible exact H2_) | (have H2_ := (Option.bind_some _ _).symm.trans H; with_reducible exact H2_) | with_reducible exact H | (rw [hy250]; exact H) | exact H
       have Ny250 := Aside0.mk hy250
       clear hy250
       by_cases c13 : x8_1.length < 140737488355328
       ·rw [if_pos c13] at H
        have LMc13 := Aside0.mk c13
        clear c13
        obtain ⟨y253, hy253⟩ : ∃ y_ : List Int, y_ = (x8_1 ++ [(t248) % 256]) := ⟨_, rfl⟩
        replace H : (storagebarterlaw20_ChallengeWhole.l0 k1 (wrap64 (1 + (wrap64 (Int.tmod a1 12)))) y250 y253 (wrap64 (1 + (wrap64 (Int.tmod a1 12)))) (wrap64 (x29_1 + 1)) t245 t249) = some r := by first | (rw [hy253]; with_reducible exact H) | (have H2_ := (Option.bind_some _ _).symm.trans H; rw [hy253]; with_reducible exact H2_) | (have H2_ := (Option.bind_some _ _).symm.trans H; with_reducible exact H2_) | with_reducible exact H | (rw [hy253]; exact H) | exact H
        have Ny253 := Aside0.mk hy253
        clear hy253
        have H' := Aside0.mk H
        clear H
        go_wp2_with (first | ((with_reducible refine gate_callee (f := 11) rfl ?_); refine goesL_ (some 32) rfl rfl Try.func11 (by kernel_rfl) rfl #[.pointer (some ⟨g247, 0, none⟩), .int .i64 256] rfl (by (try simp only [List.map_toArray, List.map_cons, List.map_nil]); first | done | rfl | (simp only [List.length_drop, List.length_take]; rfl)) ?_; (with_reducible refine (storagebartermake_Deck_Next.calls g247 t245 x248001_1 256 t248 t249 w _ ?side1 ?side2 A11.out).mono ?_); (case side1 => repeat (first | (with_reducible first | exact HI247.out | apply IsS60.alloc | apply IsS60.drewN | apply IsS60.drew | apply IsS60.set_1) | exact HI247.out)); (case side2 => repeat (first | (with_reducible first | exact HB.out | apply below_alloc | apply pw_below_drewN | apply below_drew1 | refine below_set ?_ (IsS60.ge HI247.out)) | exact HB.out)); rintro e w14 ⟨rfl, hi, hb, hk⟩; refine ⟨_, rfl, ?_⟩; have n0_ := Aside0.mk (Kd.R_mono (Kd.R_keep (IsS60.apart (show IsS60 w _ g247 t245 x248001_1 from by repeat (first | (with_reducible first | exact HI247.out | apply IsS60.alloc | apply IsS60.drewN | apply IsS60.drew | apply IsS60.set_1) | exact HI247.out)) (by (with_reducible repeat (first | apply Kd.R_alloc | apply Kd.R_drewN | apply Kd.R_drew)); exact HO_7.out) (by decide)) hk (fun _ h => h.2)) (fun _ h => h.1)); have n1_ := Aside0.mk (Kd.R_mono (Kd.R_keep (IsS60.apart (show IsS60 w _ g247 t245 x248001_1 from by repeat (first | (with_reducible first | exact HI247.out | apply IsS60.alloc | apply IsS60.drewN | apply IsS60.drew | apply IsS60.set_1) | exact HI247.out)) (by (with_reducible repeat (first | apply Kd.R_alloc | apply Kd.R_drewN | apply Kd.R_drew)); exact HO_8.out) (by decide)) hk (fun _ h => h.2)) (fun _ h => h.1)); have n2_ := Aside0.mk (hb); have n3_ := Aside0.mk (hi); clear HO_7; clear HO_8; clear HB; clear HI247; have HO_7 := n0_; have HO_8 := n1_; have HB := n2_; have HI247 := n3_; clear n0_ n1_ n2_ n3_; (try clear hb); (try clear hb2); (try clear hk); (try clear hi)) | ((with_reducible refine gate_builtin (b := .append) (xs := #[.tmp 34, .tmp 36]) rfl ?_); at_builtin; refine Kd.R_append (Kd.int .u8) (w0 := w) w.heap.size rfl (.tmp 34) (.tmp 36) 37 5 (.int .u8 0) 1 rfl Try.underlying37 info5 rfl (by decide) (by omega) u7 x7_1 ((t248) % 256) [.int .u8 ((t248) % 256)] (fun k_ => some k_ ≠ (u8 : Value).ownBlock) (fun _ => False) rfl rfl ?aP (fun _ hk => hk.elim) ?aF ?aO ?aB ?aS ?aL ?_; (case aP => exact rfl); (case aB => exact (by repeat (first | (with_reducible first | exact HB.out | apply below_alloc | apply pw_below_drewN | apply below_drew1 | refine below_set ?_ (IsS60.ge HI247.out)) | exact HB.out))); (case aF => exact (fun k_ hk => Kd.fresh' (Kd.R_lt (by (with_reducible repeat (first | apply Kd.R_alloc | apply Kd.R_drewN | apply Kd.R_drew)); exact HO_8.out)) k_ hk)); (case aO => exact (by (with_reducible repeat (first | apply Kd.R_alloc | apply Kd.R_drewN | apply Kd.R_drew)); exact HO_7.out)); (case aS => exact (below_size (by repeat (first | (with_reducible first | exact HB.out | apply below_alloc | apply pw_below_drewN | apply below_drew1 | refine below_set ?_ (IsS60.ge HI247.out)) | exact HB.out)))); (case aL => have := LMc12.out; omega); intro v251 w15 ho hb hg hat; rw [← Ny250.out] at ho; have n0_ := Aside0.mk (Kd.R_after (ok := (fun _ => True)) (by (with_reducible repeat (first | apply Kd.R_alloc | apply Kd.R_drewN | apply Kd.R_drew)); exact Kd.R_mono HO_8.out (fun _ hk => ⟨trivial, hk⟩)) hg hat); have n1_ := Aside0.mk (IsS60.grown (by repeat (first | (with_reducible first | exact HI247.out | apply IsS60.alloc | apply IsS60.drewN | apply IsS60.drew | apply IsS60.set_1) | exact HI247.out)) hg (IsS60.own_ne HI247.out HO_7.out (by decide))); have n2_ := Aside0.mk (hb); have n3_ := Aside0.mk (ho); clear HO_8; clear HI247; clear HB; clear HO_7; have HO_8 := n0_; have HI247 := n1_; have HB := n2_; have HO252 := n3_; clear n0_ n1_ n2_ n3_; clear ho hb hg hat) | ((with_reducible refine gate_builtin (b := .append) (xs := #[.tmp 38, .tmp 40]) rfl ?_); at_builtin; refine Kd.R_append (Kd.int .u8) (w0 := w) w.heap.size rfl (.tmp 38) (.tmp 40) 37 5 (.int .u8 0) 1 rfl Try.underlying37 info5 rfl (by decide) (by omega) u8 x8_1 ((t248) % 256) [.int .u8 ((t248) % 256)] (fun k_ => some k_ ≠ (v251 : Value).ownBlock) (fun _ => False) rfl rfl ?aP (fun _ hk => hk.elim) ?aF ?aO ?aB ?aS ?aL ?_; (case aP => exact rfl); (case aB => exact (by repeat (first | (with_reducible first | exact HB.out | apply below_alloc | apply pw_below_drewN | apply below_drew1 | refine below_set ?_ (IsS60.ge HI247.out)) | exact HB.out))); (case aF => exact (fun k_ hk => Kd.fresh' (Kd.R_lt (by (with_reducible repeat (first | apply Kd.R_alloc | apply Kd.R_drewN | apply Kd.R_drew)); exact HO252.out)) k_ hk)); (case aO => exact (by (with_reducible repeat (first | apply Kd.R_alloc | apply Kd.R_drewN | apply Kd.R_drew)); exact Kd.R_mono HO_8.out (fun _ hk => hk.2))); (case aS => exact (below_size (by repeat (first | (with_reducible first | exact HB.out | apply below_alloc | apply pw_below_drewN | apply below_drew1 | refine below_set ?_ (IsS60.ge HI247.out)) | exact HB.out)))); (case aL => have := LMc13.out; omega); intro v254 w16 ho hb hg hat; rw [← Ny253.out] at ho; have n0_ := Aside0.mk (IsS60.grown (by repeat (first | (with_reducible first | exact HI247.out | apply IsS60.alloc | apply IsS60.drewN | apply IsS60.drew | apply IsS60.set_1) | exact HI247.out)) hg (IsS60.own_ne HI247.out HO_8.out (by decide))); have n1_ := Aside0.mk (Kd.R_after (ok := (fun _ => True)) (by (with_reducible repeat (first | apply Kd.R_alloc | apply Kd.R_drewN | apply Kd.R_drew)); exact Kd.R_mono HO252.out (fun _ hk => ⟨trivial, hk⟩)) hg hat); have n2_ := Aside0.mk (hb); have n3_ := Aside0.mk (ho); clear HI247; clear HO252; clear HB; clear HO_8; have HI247 := n0_; have HO252 := n1_; have HB := n2_; have HO255 := n3_; clear n0_ n1_ n2_ n3_; clear ho hb hg hat))
        go_roundg k1
        case measure => have := HK1.out; omega
        case rel => exact ⟨(y250), (y253), (wrap64 (x29_1 + 1)), (t249), (by first | rfl | (simp; done) | (simp [*]; done)), H', ⟨by have := HK1.out; omega⟩, ⟨by (with_reducible repeat (first | apply Kd.R_alloc | apply Kd.R_drewN | apply Kd.R_drew)); exact Kd.R_mono HO252.out (fun _ hk => hk.2)⟩, ⟨by (with_reducible repeat (first | apply Kd.R_alloc | apply Kd.R_drewN | apply Kd.R_drew)); exact HO255.out⟩, ⟨by repeat (first | (with_reducible first | exact HI247.out | apply IsS60.alloc | apply IsS60.drewN | apply IsS60.drew | apply IsS60.set_1) | exact HI247.out)⟩, ⟨by repeat (first | (with_reducible first | exact HB.out | apply below_alloc | apply pw_below_drewN | apply below_drew1 | refine below_set ?_ (IsS60.ge HI247.out)) | exact HB.out)⟩⟩
       ·rw [if_neg c13] at H
        exact absurd H (by simp)
      ·rw [if_neg c12] at H
       exact absurd H (by simp)
     ·rw [if_neg c10] at H
      have c10b0 : decide (x29_1 < (wrap64 (1 + (wrap64 (Int.tmod a1 12))))) = false := decide_eq_false c10
      clear c10
      replace H := Option.bind_eq_some_iff.mp H
      obtain ⟨⟨t256, t257⟩, A170, H⟩ := H
      replace H : (storagebarterlaw20_ChallengeWhole.l1 k1 (wrap64 (1 + (wrap64 (Int.tmod a1 12)))) x7_1 x8_1 t256 t245 t257) = some r := H
      have A17 := Aside0.mk A170
      clear A170
      have H' := Aside0.mk H
      clear H
      go_wp2_with (first | ((with_reducible refine gate_callee (f := 11) rfl ?_); refine goesL_ (some 44) rfl rfl Try.func11 (by kernel_rfl) rfl #[.pointer (some ⟨g247, 0, none⟩), .int .i64 4] rfl (by (try simp only [List.map_toArray, List.map_cons, List.map_nil]); first | done | rfl | (simp only [List.length_drop, List.length_take]; rfl)) ?_; (with_reducible refine (storagebartermake_Deck_Next.calls g247 t245 x248001_1 4 t256 t257 w _ ?side1 ?side2 A17.out).mono ?_); (case side1 => repeat (first | (with_reducible first | exact HI247.out | apply IsS60.alloc | apply IsS60.drewN | apply IsS60.drew | apply IsS60.set_1) | exact HI247.out)); (case side2 => repeat (first | (with_reducible first | exact HB.out | apply below_alloc | apply pw_below_drewN | apply below_drew1 | refine below_set ?_ (IsS60.ge HI247.out)) | exact HB.out)); rintro e w18 ⟨rfl, hi, hb, hk⟩; refine ⟨_, rfl, ?_⟩; have n0_ := Aside0.mk (Kd.R_mono (Kd.R_keep (IsS60.apart (show IsS60 w _ g247 t245 x248001_1 from by repeat (first | (with_reducible first | exact HI247.out | apply IsS60.alloc | apply IsS60.drewN | apply IsS60.drew | apply IsS60.set_1) | exact HI247.out)) (by (with_reducible repeat (first | apply Kd.R_alloc | apply Kd.R_drewN | apply Kd.R_drew)); exact HO_7.out) (by decide)) hk (fun _ h => h.2)) (fun _ h => h.1)); have n1_ := Aside0.mk (Kd.R_mono (Kd.R_keep (IsS60.apart (show IsS60 w _ g247 t245 x248001_1 from by repeat (first | (with_reducible first | exact HI247.out | apply IsS60.alloc | apply IsS60.drewN | apply IsS60.drew | apply IsS60.set_1) | exact HI247.out)) (by (with_reducible repeat (first | apply Kd.R_alloc | apply Kd.R_drewN | apply Kd.R_drew)); exact HO_8.out) (by decide)) hk (fun _ h => h.2)) (fun _ h => h.1)); have n2_ := Aside0.mk (hb); have n3_ := Aside0.mk (hi); clear HO_7; clear HO_8; clear HB; clear HI247; have HO_7 := n0_; have HO_8 := n1_; have HB := n2_; have HI247 := n3_; clear n0_ n1_ n2_ n3_; (try clear hb); (try clear hb2); (try clear hk); (try clear hi)))
      go_loopg [10] k1 (fun kq v10 w' => ∃ (x8_2 : List Int) (x10_2 : Int) (x248001_2 : Int), v10 = .int .i64 x10_2 ∧ Aside0 (storagebarterlaw20_ChallengeWhole.l1 kq (wrap64 (1 + (wrap64 (Int.tmod a1 12)))) x7_1 x8_2 x10_2 t245 x248001_2 = some r) ∧ Aside0 (kq ≤ k1) ∧ Aside0 (Kd.R (Kd.int .u8) 5 w' w.heap.size (fun k_ => some k_ ≠ (u8 : Value).ownBlock) u7 x7_1) ∧ Aside0 (Kd.R (Kd.int .u8) 5 w' w.heap.size (fun k_ => some k_ ≠ (u7 : Value).ownBlock) u8 x8_2) ∧ Aside0 (IsS60 w w' g247 t245 x248001_2) ∧ Aside0 (Below w.heap.size w w'))
      case atStart => exact ⟨(x8_1), (t256), (t257), (by first | rfl | (simp; done) | (simp [*]; done)), H', ⟨Nat.le_refl _⟩, ⟨by (with_reducible repeat (first | apply Kd.R_alloc | apply Kd.R_drewN | apply Kd.R_drew)); exact HO_7.out⟩, ⟨by (with_reducible repeat (first | apply Kd.R_alloc | apply Kd.R_drewN | apply Kd.R_drew)); exact HO_8.out⟩, ⟨by repeat (first | (with_reducible first | exact HI247.out | apply IsS60.alloc | apply IsS60.drewN | apply IsS60.drew | apply IsS60.set_1) | exact HI247.out)⟩, ⟨by repeat (first | (with_reducible first | exact HB.out | apply below_alloc | apply pw_below_drewN | apply below_drew1 | refine below_set ?_ (IsS60.ge HI247.out)) | exact HB.out)⟩⟩
      case round =>
       clear H'
       try clear c1
       try clear p2
       try clear c4
       try clear c5
       try clear c6
       try clear p6
       try clear c7
       try clear c8
       try clear c9
       try clear c10
       try clear c10b0
       try clear c11
       try clear c12
       try clear c13
       try clear p2
       try clear p6
       obtain ⟨x8_2, x10_2, x248001_2, rfl, HA, HK2, HO_7, HO_8, HI247, HB⟩ := hrel
       cases gk with
       | zero => exact absurd HA.out (by simp [storagebarterlaw20_ChallengeWhole.l1])
       | succ k2 =>
        have H := HA.out
        clear HA
        simp only [storagebarterlaw20_ChallengeWhole.l1] at H
        by_cases c19 : x10_2 > 0
        ·rw [if_pos c19] at H
         have c19b0 : decide (0 < x10_2) = true := decide_eq_true c19
         clear c19
         replace H := Option.bind_eq_some_iff.mp H
         obtain ⟨⟨t258, t259⟩, A200, H⟩ := H
         replace H : ((storagebartermake_Deck_Next.f t245 t259 256).bind fun bt260 => (if 0 ≤ t258 then (if t258 < (x8_2.length : Int) then (storagebarterlaw20_ChallengeWhole.l1 k2 (wrap64 (1 + (wrap64 (Int.tmod a1 12)))) x7_1 (x8_2.set (t258 : Int).toNat ((bt260.1) % 256)) (wrap64 (x10_2 - 1)) t245 bt260.2) else (none)) else (none))) = some r := H
         have A20 := Aside0.mk A200
         clear A200
         replace H := Option.bind_eq_some_iff.mp H
         obtain ⟨⟨t260, t261⟩, A210, H⟩ := H
         replace H : (if 0 ≤ t258 then (if t258 < (x8_2.length : Int) then (storagebarterlaw20_ChallengeWhole.l1 k2 (wrap64 (1 + (wrap64 (Int.tmod a1 12)))) x7_1 (x8_2.set (t258 : Int).toNat ((t260) % 256)) (wrap64 (x10_2 - 1)) t245 t261) else (none)) else (none)) = some r := H
         have A21 := Aside0.mk A210
         clear A210
         by_cases c22 : 0 ≤ t258
         ·rw [if_pos c22] at H
          have c22b0 : decide (0 ≤ t258) = true := decide_eq_true c22
          clear c22
          by_cases c23 : t258 < (x8_2.length : Int)
          ·rw [if_pos c23] at H
           have c23b0 : decide (t258 < (x8_2.length : Int)) = true := decide_eq_true c23
           clear c23
           obtain ⟨y262, hy262⟩ : ∃ y_ : List Int, y_ = (x8_2.set (t258 : Int).toNat ((t260) % 256)) := ⟨_, rfl⟩
           replace H : (storagebarterlaw20_ChallengeWhole.l1 k2 (wrap64 (1 + (wrap64 (Int.tmod a1 12)))) x7_1 y262 (wrap64 (x10_2 - 1)) t245 t261) = some r := by first | (rw [hy262]; with_reducible exact H) | (have H2_ := (Option.bind_some _ _).symm.trans H; rw [hy262]; with_reducible exact H2_) | (have H2_ := (Option.bind_some _ _).symm.trans H; with_reducible exact H2_) | with_reducible exact H | (rw [hy262]; exact H) | exact H
           have Ny262 := Aside0.mk hy262
           clear hy262
           have H' := Aside0.mk H
           clear H
           go_wp2_with (first | ((with_reducible refine gate_callee (f := 11) rfl ?_); refine goesL_ (some 52) rfl rfl Try.func11 (by kernel_rfl) rfl #[.pointer (some ⟨g247, 0, none⟩), .int .i64 (wrap64 (1 + (wrap64 (Int.tmod a1 12))))] rfl (by (try simp only [List.map_toArray, List.map_cons, List.map_nil]); first | done | rfl | (simp only [List.length_drop, List.length_take]; rfl)) ?_; (with_reducible refine (storagebartermake_Deck_Next.calls g247 t245 x248001_2 (wrap64 (1 + (wrap64 (Int.tmod a1 12)))) t258 t259 w _ ?side1 ?side2 A20.out).mono ?_); (case side1 => repeat (first | (with_reducible first | exact HI247.out | apply IsS60.alloc | apply IsS60.drewN | apply IsS60.drew | apply IsS60.set_1) | exact HI247.out)); (case side2 => repeat (first | (with_reducible first | exact HB.out | apply below_alloc | apply pw_below_drewN | apply below_drew1 | refine below_set ?_ (IsS60.ge HI247.out)) | exact HB.out)); rintro e w25 ⟨rfl, hi, hb, hk⟩; refine ⟨_, rfl, ?_⟩; have n0_ := Aside0.mk (Kd.R_mono (Kd.R_keep (IsS60.apart (show IsS60 w _ g247 t245 x248001_2 from by repeat (first | (with_reducible first | exact HI247.out | apply IsS60.alloc | apply IsS60.drewN | apply IsS60.drew | apply IsS60.set_1) | exact HI247.out)) (by (with_reducible repeat (first | apply Kd.R_alloc | apply Kd.R_drewN | apply Kd.R_drew)); exact HO_7.out) (by decide)) hk (fun _ h => h.2)) (fun _ h => h.1)); have n1_ := Aside0.mk (Kd.R_mono (Kd.R_keep (IsS60.apart (show IsS60 w _ g247 t245 x248001_2 from by repeat (first | (with_reducible first | exact HI247.out | apply IsS60.alloc | apply IsS60.drewN | apply IsS60.drew | apply IsS60.set_1) | exact HI247.out)) (by (with_reducible repeat (first | apply Kd.R_alloc | apply Kd.R_drewN | apply Kd.R_drew)); exact HO_8.out) (by decide)) hk (fun _ h => h.2)) (fun _ h => h.1)); have n2_ := Aside0.mk (hb); have n3_ := Aside0.mk (hi); clear HO_7; clear HO_8; clear HB; clear HI247; have HO_7 := n0_; have HO_8 := n1_; have HB := n2_; have HI247 := n3_; clear n0_ n1_ n2_ n3_; (try clear hb); (try clear hb2); (try clear hk); (try clear hi)) | ((with_reducible refine gate_callee (f := 11) rfl ?_); refine goesL_ (some 54) rfl rfl Try.func11 (by kernel_rfl) rfl #[.pointer (some ⟨g247, 0, none⟩), .int .i64 256] rfl (by (try simp only [List.map_toArray, List.map_cons, List.map_nil]); first | done | rfl | (simp only [List.length_drop, List.length_take]; rfl)) ?_; (with_reducible refine (storagebartermake_Deck_Next.calls g247 t245 t259 256 t260 t261 w _ ?side1 ?side2 A21.out).mono ?_); (case side1 => repeat (first | (with_reducible first | exact HI247.out | apply IsS60.alloc | apply IsS60.drewN | apply IsS60.drew | apply IsS60.set_1) | exact HI247.out)); (case side2 => repeat (first | (with_reducible first | exact HB.out | apply below_alloc | apply pw_below_drewN | apply below_drew1 | refine below_set ?_ (IsS60.ge HI247.out)) | exact HB.out)); rintro e w26 ⟨rfl, hi, hb, hk⟩; refine ⟨_, rfl, ?_⟩; have n0_ := Aside0.mk (Kd.R_mono (Kd.R_keep (IsS60.apart (show IsS60 w _ g247 t245 t259 from by repeat (first | (with_reducible first | exact HI247.out | apply IsS60.alloc | apply IsS60.drewN | apply IsS60.drew | apply IsS60.set_1) | exact HI247.out)) (by (with_reducible repeat (first | apply Kd.R_alloc | apply Kd.R_drewN | apply Kd.R_drew)); exact HO_7.out) (by decide)) hk (fun _ h => h.2)) (fun _ h => h.1)); have n1_ := Aside0.mk (Kd.R_mono (Kd.R_keep (IsS60.apart (show IsS60 w _ g247 t245 t259 from by repeat (first | (with_reducible first | exact HI247.out | apply IsS60.alloc | apply IsS60.drewN | apply IsS60.drew | apply IsS60.set_1) | exact HI247.out)) (by (with_reducible repeat (first | apply Kd.R_alloc | apply Kd.R_drewN | apply Kd.R_drew)); exact HO_8.out) (by decide)) hk (fun _ h => h.2)) (fun _ h => h.1)); have n2_ := Aside0.mk (hb); have n3_ := Aside0.mk (hi); clear HO_7; clear HO_8; clear HB; clear HI247; have HO_7 := n0_; have HO_8 := n1_; have HB := n2_; have HI247 := n3_; clear n0_ n1_ n2_ n3_; (try clear hb); (try clear hb2); (try clear hk); (try clear hi); have p24 : 0 ≤ (t258 : Int) := of_decide_eq_true (by first | (with_reducible assumption) | assumption); have q24 : (t258 : Int) < ((x8_2.length : Int) : Int) := of_decide_eq_true (by first | (with_reducible assumption) | assumption); obtain ⟨go24, co24, eo24, gb24, gl24, cl24, HG24⟩ := Kd.R_form HO_8.out (by omega); (first | cases eo24 | (injection eo24 with ea_ en_ ec_; (first | subst ea_ | (injection ea_ with ea_; subst ea_)); subst ec_; clear en_)); have GB24 := Aside0.mk gb24; have GG24 := Aside0.mk HG24; clear gb24 gl24 HG24; obtain ⟨hx24_0, hf24_0⟩ := Kd.R_celln 0 HO_8.out (t258 : Int) p24 q24; replace p24 := eq_true p24; replace q24 := eq_true q24; obtain ⟨hy27_, hz27_⟩ := Kd.R_celln 0 HO_8.out (t258 : Int) (of_decide_eq_true (by first | (with_reducible assumption) | assumption)) (of_decide_eq_true (by first | (with_reducible assumption) | assumption)); have HP27 := Kd.R_putg HO_8.out (t258 : Int) ((t260) % 256)) | ((with_reducible refine gate_store (t := 5) (p := 56) rfl ?_); refine store_event (t := 5) (p := 56) (v := ?vo_w28) (w1 := (w26.setCell ⟨go24, (t258 : Int).toNat, none⟩ (.int .u8 ((t260) % 256)))) ?hg ?ho ?hn ?hr ?_; (case ho => rfl); (case hg => rfl); (case hn => rfl); (case hr => first | (go_simp; done) | (go_simp; rfl)); intro w28 hw; have hg : w26.grownBy w28 (some go24) := (by rw [hw]; exact HP27.2); have hp_ : Kd.R (Kd.int .u8) 5 w28 w.heap.size (fun k_ => some k_ ≠ (u7 : Value).ownBlock) (.slice (some ⟨go24, 0, none⟩) x8_2.length co24) y262 := (by rw [hw, Ny262.out]; exact HP27.1); clear HP27; have n0_ := Aside0.mk (Kd.R_after (v := (.slice (some ⟨go24, 0, none⟩) x8_2.length co24)) (v1 := (.slice (some ⟨go24, 0, none⟩) x8_2.length co24)) (ok := (fun _ => True)) (by (with_reducible repeat (first | apply Kd.R_alloc | apply Kd.R_drewN | apply Kd.R_drew)); exact Kd.R_mono HO_7.out (fun _ hk => ⟨trivial, hk⟩)) hg (.inl rfl)); have n1_ := Aside0.mk (hp_); have n2_ := Aside0.mk (IsS60.grown (by repeat (first | (with_reducible first | exact HI247.out | apply IsS60.alloc | apply IsS60.drewN | apply IsS60.drew | apply IsS60.set_1) | exact HI247.out)) hg (IsS60.own_ne HI247.out HO_8.out (by decide))); have n3_ := Aside0.mk ((by rw [hw]; exact below_set (HB.out) GB24.out : Below w.heap.size w w28)); clear HO_7; clear HO_8; clear HI247; clear HB; have HO_7 := n0_; have HO_8 := n1_; have HI247 := n2_; have HB := n3_; clear n0_ n1_ n2_ n3_; clear hg hw hp_))
           go_roundg k2
           case measure => have := HK1.out; have := HK2.out; omega
           case rel => exact ⟨(y262), (wrap64 (x10_2 - 1)), (t261), (by first | rfl | (simp; done) | (simp [*]; done)), H', ⟨by have := HK1.out; have := HK2.out; omega⟩, ⟨by (with_reducible repeat (first | apply Kd.R_alloc | apply Kd.R_drewN | apply Kd.R_drew)); exact Kd.R_mono HO_7.out (fun _ hk => hk.2)⟩, ⟨by (with_reducible repeat (first | apply Kd.R_alloc | apply Kd.R_drewN | apply Kd.R_drew)); exact HO_8.out⟩, ⟨by repeat (first | (with_reducible first | exact HI247.out | apply IsS60.alloc | apply IsS60.drewN | apply IsS60.drew | apply IsS60.set_1) | exact HI247.out)⟩, ⟨by repeat (first | (with_reducible first | exact HB.out | apply below_alloc | apply pw_below_drewN | apply below_drew1 | refine below_set ?_ (IsS60.ge HI247.out)) | exact HB.out)⟩⟩
          ·rw [if_neg c23] at H
           exact absurd H (by simp)
         ·rw [if_neg c22] at H
          exact absurd H (by simp)
        ·rw [if_neg c19] at H
         have c19b0 : decide (0 < x10_2) = false := decide_eq_false c19
         clear c19
         have H' := Aside0.mk H
         clear H
         go_wp2
         go_loopg [11, 12, 58] k2 (fun kq v11 v12 v58 w' => ∃ (x11_3 : Int) (x12_3 : Int) (x58_3 : Int) (x248001_3 : Int), v11 = .int .i64 x11_3 ∧ v12 = .int .i64 x12_3 ∧ v58 = .int .i64 x58_3 ∧ Aside0 (storagebarterlaw20_ChallengeWhole.l2 kq (wrap64 (1 + (wrap64 (Int.tmod a1 12)))) x7_1 x8_2 x11_3 x12_3 (wrap64 (1 + (wrap64 (Int.tmod a1 12)))) x58_3 t245 x248001_3 = some r) ∧ Aside0 (kq ≤ k2) ∧ Aside0 (Kd.R (Kd.int .u8) 5 w' w.heap.size (fun k_ => some k_ ≠ (u8 : Value).ownBlock) u7 x7_1) ∧ Aside0 (Kd.R (Kd.int .u8) 5 w' w.heap.size (fun k_ => some k_ ≠ (u7 : Value).ownBlock) u8 x8_2) ∧ Aside0 (IsS60 w w' g247 t245 x248001_3) ∧ Aside0 (Below w.heap.size w w'))
         case atStart => exact ⟨(1), (0), (0), (x248001_2), (by first | rfl | (simp; done) | (simp [*]; done)), (by first | rfl | (simp; done) | (simp [*]; done)), (by first | rfl | (simp; done) | (simp [*]; done)), H', ⟨Nat.le_refl _⟩, ⟨by (with_reducible repeat (first | apply Kd.R_alloc | apply Kd.R_drewN | apply Kd.R_drew)); exact HO_7.out⟩, ⟨by (with_reducible repeat (first | apply Kd.R_alloc | apply Kd.R_drewN | apply Kd.R_drew)); exact HO_8.out⟩, ⟨by repeat (first | (with_reducible first | exact HI247.out | apply IsS60.alloc | apply IsS60.drewN | apply IsS60.drew | apply IsS60.set_1) | exact HI247.out)⟩, ⟨by repeat (first | (with_reducible first | exact HB.out | apply below_alloc | apply pw_below_drewN | apply below_drew1 | refine below_set ?_ (IsS60.ge HI247.out)) | exact HB.out)⟩⟩
         case round =>
          clear H'
          try clear c1
          try clear c2
          try clear p2
          try clear q2
          try clear hx2
          try clear hf2
          try clear c4
          try clear c5
          try clear c6
          try clear p6
          try clear c7
          try clear c8
          try clear c9
          try clear c10
          try clear c10b0
          try clear c11
          try clear c12
          try clear c13
          try clear c19
          try clear c19b0
          try clear c22
          try clear c22b0
          try clear c23
          try clear c23b0
          try clear p24
          try clear q24
          try clear hx24
          try clear hf24
          try clear hx24_0
          try clear p2
          try clear p24
          try clear p6
          try clear q24
          obtain ⟨x11_3, x12_3, x58_3, x248001_3, rfl, rfl, rfl, HA, HK3, HO_7, HO_8, HI247, HB⟩ := hrel
          cases gk with
          | zero => exact absurd HA.out (by simp [storagebarterlaw20_ChallengeWhole.l2])
          | succ k3 =>
           have H := HA.out
           clear HA
           simp only [storagebarterlaw20_ChallengeWhole.l2] at H
           by_cases c29 : x58_3 < (wrap64 (1 + (wrap64 (Int.tmod a1 12))))
           ·rw [if_pos c29] at H
            have c29b0 : decide (x58_3 < (wrap64 (1 + (wrap64 (Int.tmod a1 12))))) = true := decide_eq_true c29
            clear c29
            replace H := Option.bind_eq_some_iff.mp H
            obtain ⟨⟨t263, t264⟩, A300, H⟩ := H
            replace H : ((challenge_Answer.f k3 (strOfNums x7_1) (wrap64 (x11_3 + (wrap64 (1 + t263))))).bind fun bt265 => ((challenge_Answer.f k3 (strOfNums x8_2) (wrap64 (x11_3 + (wrap64 (1 + t263))))).bind fun bt267 => (if bt265.2 = 0 then (storagebarterlaw20_ChallengeWhole.j3 k3 (wrap64 (1 + (wrap64 (Int.tmod a1 12)))) x7_1 x8_2 (wrap64 (x11_3 + (wrap64 (1 + t263)))) x12_3 bt265.1 bt267.1 (wrap64 (1 + (wrap64 (Int.tmod a1 12)))) x58_3 (bt267.2 != 0) t245 t264) else (storagebarterlaw20_ChallengeWhole.j3 k3 (wrap64 (1 + (wrap64 (Int.tmod a1 12)))) x7_1 x8_2 (wrap64 (x11_3 + (wrap64 (1 + t263)))) x12_3 bt265.1 bt267.1 (wrap64 (1 + (wrap64 (Int.tmod a1 12)))) x58_3 true t245 t264)))) = some r := H
            have A30 := Aside0.mk A300
            clear A300
            replace H := Option.bind_eq_some_iff.mp H
            obtain ⟨⟨t265, t266⟩, A310, H⟩ := H
            replace H : ((challenge_Answer.f k3 (strOfNums x8_2) (wrap64 (x11_3 + (wrap64 (1 + t263))))).bind fun bt267 => (if t266 = 0 then (storagebarterlaw20_ChallengeWhole.j3 k3 (wrap64 (1 + (wrap64 (Int.tmod a1 12)))) x7_1 x8_2 (wrap64 (x11_3 + (wrap64 (1 + t263)))) x12_3 t265 bt267.1 (wrap64 (1 + (wrap64 (Int.tmod a1 12)))) x58_3 (bt267.2 != 0) t245 t264) else (storagebarterlaw20_ChallengeWhole.j3 k3 (wrap64 (1 + (wrap64 (Int.tmod a1 12)))) x7_1 x8_2 (wrap64 (x11_3 + (wrap64 (1 + t263)))) x12_3 t265 bt267.1 (wrap64 (1 + (wrap64 (Int.tmod a1 12)))) x58_3 true t245 t264))) = some r := H
            have A31 := Aside0.mk A310
            clear A310
            replace H := Option.bind_eq_some_iff.mp H
            obtain ⟨⟨t267, t268⟩, A320, H⟩ := H
            replace H : (if t266 = 0 then (storagebarterlaw20_ChallengeWhole.j3 k3 (wrap64 (1 + (wrap64 (Int.tmod a1 12)))) x7_1 x8_2 (wrap64 (x11_3 + (wrap64 (1 + t263)))) x12_3 t265 t267 (wrap64 (1 + (wrap64 (Int.tmod a1 12)))) x58_3 (t268 != 0) t245 t264) else (storagebarterlaw20_ChallengeWhole.j3 k3 (wrap64 (1 + (wrap64 (Int.tmod a1 12)))) x7_1 x8_2 (wrap64 (x11_3 + (wrap64 (1 + t263)))) x12_3 t265 t267 (wrap64 (1 + (wrap64 (Int.tmod a1 12)))) x58_3 true t245 t264)) = some r := H
            have A32 := Aside0.mk A320
            clear A320
            have HC33 := Aside0.mk H
            clear H
            go_upto_region 24 with (first | ((with_reducible refine gate_callee (f := 11) rfl ?_); refine goesL_ (some 62) rfl rfl Try.func11 (by kernel_rfl) rfl #[.pointer (some ⟨g247, 0, none⟩), .int .i64 1000000] rfl (by (try simp only [List.map_toArray, List.map_cons, List.map_nil]); first | done | rfl | (simp only [List.length_drop, List.length_take]; rfl)) ?_; (with_reducible refine (storagebartermake_Deck_Next.calls g247 t245 x248001_3 1000000 t263 t264 w _ ?side1 ?side2 A30.out).mono ?_); (case side1 => repeat (first | (with_reducible first | exact HI247.out | apply IsS60.alloc | apply IsS60.drewN | apply IsS60.drew | apply IsS60.set_1) | exact HI247.out)); (case side2 => repeat (first | (with_reducible first | exact HB.out | apply below_alloc | apply pw_below_drewN | apply below_drew1 | refine below_set ?_ (IsS60.ge HI247.out)) | exact HB.out)); rintro e w34 ⟨rfl, hi, hb, hk⟩; refine ⟨_, rfl, ?_⟩; have n0_ := Aside0.mk (Kd.R_mono (Kd.R_keep (IsS60.apart (show IsS60 w _ g247 t245 x248001_3 from by repeat (first | (with_reducible first | exact HI247.out | apply IsS60.alloc | apply IsS60.drewN | apply IsS60.drew | apply IsS60.set_1) | exact HI247.out)) (by (with_reducible repeat (first | apply Kd.R_alloc | apply Kd.R_drewN | apply Kd.R_drew)); exact HO_7.out) (by decide)) hk (fun _ h => h.2)) (fun _ h => h.1)); have n1_ := Aside0.mk (Kd.R_mono (Kd.R_keep (IsS60.apart (show IsS60 w _ g247 t245 x248001_3 from by repeat (first | (with_reducible first | exact HI247.out | apply IsS60.alloc | apply IsS60.drewN | apply IsS60.drew | apply IsS60.set_1) | exact HI247.out)) (by (with_reducible repeat (first | apply Kd.R_alloc | apply Kd.R_drewN | apply Kd.R_drew)); exact HO_8.out) (by decide)) hk (fun _ h => h.2)) (fun _ h => h.1)); have n2_ := Aside0.mk (hb); have n3_ := Aside0.mk (hi); clear HO_7; clear HO_8; clear HB; clear HI247; have HO_7 := n0_; have HO_8 := n1_; have HB := n2_; have HI247 := n3_; clear n0_ n1_ n2_ n3_; (try clear hb); (try clear hb2); (try clear hk); (try clear hi); have hcv35 := own_string (P := Try.prog) Try.underlying37 Try.underlying5 Try.underlying9 (Kd.own_of_R HO_7.out)) | ((with_reducible refine gate_callee (f := 15) rfl ?_); refine goesL_ (some 69) rfl rfl Try.func15 (by kernel_rfl) rfl #[.string (strOfNums x7_1), .int .i64 (wrap64 (x11_3 + (wrap64 (1 + t263))))] rfl (by (try simp only [List.map_toArray, List.map_cons, List.map_nil]); first | done | rfl | (simp only [List.length_drop, List.length_take]; rfl)) ?_; (with_reducible refine (challenge_Answer.calls k3 (strOfNums x7_1) (wrap64 (x11_3 + (wrap64 (1 + t263)))) t265 t266 _ A31.out).mono ?_); rintro e w' ⟨rfl, ⟨nd, rfl⟩⟩; refine ⟨_, rfl, ?_⟩; have hcv36 := own_string (P := Try.prog) Try.underlying37 Try.underlying5 Try.underlying9 (Kd.own_of_R (Kd.R_drewN HO_8.out nd))) | ((with_reducible refine gate_callee (f := 15) rfl ?_); refine goesL_ (some 76) rfl rfl Try.func15 (by kernel_rfl) rfl #[.string (strOfNums x8_2), .int .i64 (wrap64 (x11_3 + (wrap64 (1 + t263))))] rfl (by (try simp only [List.map_toArray, List.map_cons, List.map_nil]); first | done | rfl | (simp only [List.length_drop, List.length_take]; rfl)) ?_; (with_reducible refine (challenge_Answer.calls k3 (strOfNums x8_2) (wrap64 (x11_3 + (wrap64 (1 + t263)))) t267 t268 _ A32.out).mono ?_); rintro e w' ⟨rfl, ⟨nd, rfl⟩⟩; refine ⟨_, rfl, ?_⟩))
            (try simp only [Act.put, List.setIfInBounds_toArray, List.set_cons_zero, List.set_cons_succ])
            go_cut [84] (fun v84 wc => ∃ (kq : Nat) (x84_32 : Bool), v84 = .bool x84_32 ∧ Aside0 (storagebarterlaw20_ChallengeWhole.j3 kq (wrap64 (1 + (wrap64 (Int.tmod a1 12)))) x7_1 x8_2 (wrap64 (x11_3 + (wrap64 (1 + t263)))) x12_3 t265 t267 (wrap64 (1 + (wrap64 (Int.tmod a1 12)))) x58_3 x84_32 t245 t264 = some r) ∧ Aside0 (kq ≤ k3) ∧ Aside0 (Kd.R (Kd.int .u8) 5 wc w.heap.size (fun k_ => some k_ ≠ (u8 : Value).ownBlock) u7 x7_1) ∧ Aside0 (Kd.R (Kd.int .u8) 5 wc w.heap.size (fun k_ => some k_ ≠ (u7 : Value).ownBlock) u8 x8_2) ∧ Aside0 (IsS60 w wc g247 t245 t264) ∧ Aside0 (Below w.heap.size w wc))
            case first =>
             have H := HC33.out
             clear HC33
             by_cases c37 : t266 = 0
             ·rw [if_pos c37] at H
              have c37b0 : (t266 == 0) = true := beq_iff_eq.mpr c37
              have c37b1 : (t266 != 0) = false := bne_eq_false_iff_eq.mpr c37
              clear c37
              (first | rw [c37b0] | (simp only [i64_w, i32_w]; rw [c37b0]) | skip)
              have H' := Aside0.mk H
              clear H
              go_wp2
              go_meet
              case rel => exact ⟨_, ((t268 != 0)), (by first | rfl | (simp; done) | (simp [*]; done)), H', ⟨by have := HK1.out; have := HK2.out; have := HK3.out; first | omega | exact Nat.le_refl _⟩, ⟨by (with_reducible repeat (first | apply Kd.R_alloc | apply Kd.R_drewN | apply Kd.R_drew)); exact HO_7.out⟩, ⟨by (with_reducible repeat (first | apply Kd.R_alloc | apply Kd.R_drewN | apply Kd.R_drew)); exact HO_8.out⟩, ⟨by repeat (first | (with_reducible first | exact HI247.out | apply IsS60.alloc | apply IsS60.drewN | apply IsS60.drew | apply IsS60.set_1) | exact HI247.out)⟩, ⟨by repeat (first | (with_reducible first | exact HB.out | apply below_alloc | apply pw_below_drewN | apply below_drew1 | refine below_set ?_ (IsS60.ge HI247.out)) | exact HB.out)⟩⟩
             ·rw [if_neg c37] at H
              have c37b0 : (t266 == 0) = false := beq_eq_false_iff_ne.mpr c37
              have c37b1 : (t266 != 0) = true := bne_iff_ne.mpr c37
              (first | rw [c37b0] | (simp only [i64_w, i32_w]; rw [c37b0]) | skip)
              have H' := Aside0.mk H
              clear H
              go_wp2
              go_meet
              case rel => exact ⟨_, (true), (by first | rfl | (simp; done) | (simp [*]; done)), H', ⟨by have := HK1.out; have := HK2.out; have := HK3.out; first | omega | exact Nat.le_refl _⟩, ⟨by (with_reducible repeat (first | apply Kd.R_alloc | apply Kd.R_drewN | apply Kd.R_drew)); exact HO_7.out⟩, ⟨by (with_reducible repeat (first | apply Kd.R_alloc | apply Kd.R_drewN | apply Kd.R_drew)); exact HO_8.out⟩, ⟨by repeat (first | (with_reducible first | exact HI247.out | apply IsS60.alloc | apply IsS60.drewN | apply IsS60.drew | apply IsS60.set_1) | exact HI247.out)⟩, ⟨by repeat (first | (with_reducible first | exact HB.out | apply below_alloc | apply pw_below_drewN | apply below_drew1 | refine below_set ?_ (IsS60.ge HI247.out)) | exact HB.out)⟩⟩
            case rest =>
             clear HC33
             try clear c1
             try clear c2
             try clear p2
             try clear q2
             try clear hx2
             try clear hf2
             try clear c3
             try clear hcv3
             try clear c4
             try clear c5
             try clear c6
             try clear p6
             try clear c7
             try clear c8
             try clear c9
             try clear c10
             try clear c10b0
             try clear c11
             try clear c12
             try clear c13
             try clear c15
             try clear c19
             try clear c19b0
             try clear c22
             try clear c22b0
             try clear c23
             try clear c23b0
             try clear p24
             try clear q24
             try clear hx24
             try clear hf24
             try clear c29
             try clear c29b0
             try clear hcv35
             try clear hcv36
             try clear c37
             try clear c37b0
             try clear c37b1
             try clear hx24_0
             try clear p2
             try clear p24
             try clear p6
             try clear q2
             try clear q24
             obtain ⟨kq, x84_32, rfl, HA, HJ32, HO_7, HO_8, HI247, HB⟩ := hcut
             cases kq with
             | zero => exact absurd HA.out (by simp [storagebarterlaw20_ChallengeWhole.j3])
             | succ kj32 =>
              have H := HA.out
              clear HA
              simp only [storagebarterlaw20_ChallengeWhole.j3] at H
              by_cases c38 : x84_32 = true
              ·subst c38
               have H1 : (none) = some r := by rw [if_pos rfl] at H; exact H
               clear H
               have H := H1
               clear H1
               exact absurd H (by simp)
              ·replace c38 := Bool.eq_false_iff.mpr c38
               subst c38
               have H1 : (if t265 = t267 then (storagebarterlaw20_ChallengeWhole.l2 kj32 (wrap64 (1 + (wrap64 (Int.tmod a1 12)))) x7_1 x8_2 (wrap64 (x11_3 + (wrap64 (1 + t263)))) (wrap64 (x12_3 + 1)) (wrap64 (1 + (wrap64 (Int.tmod a1 12)))) (wrap64 (x58_3 + 1)) t245 t264) else (storagebarterlaw20_ChallengeWhole.l2 kj32 (wrap64 (1 + (wrap64 (Int.tmod a1 12)))) x7_1 x8_2 (wrap64 (x11_3 + (wrap64 (1 + t263)))) x12_3 (wrap64 (1 + (wrap64 (Int.tmod a1 12)))) (wrap64 (x58_3 + 1)) t245 t264)) = some r := by rw [if_neg (show ¬ (false = true) by decide)] at H; exact H
               clear H
               have H := H1
               clear H1
               by_cases c39 : t265 = t267
               ·rw [if_pos c39] at H
                have c39b0 : (t265 == t267) = true := beq_iff_eq.mpr c39
                have c39b1 : (t265 != t267) = false := bne_eq_false_iff_eq.mpr c39
                clear c39
                have H' := Aside0.mk H
                clear H
                go_wp2
                go_roundg kj32
                case measure => have := HK1.out; have := HK2.out; have := HK3.out; have := HJ32.out; omega
                case rel => exact ⟨((wrap64 (x11_3 + (wrap64 (1 + t263))))), (wrap64 (x12_3 + 1)), (wrap64 (x58_3 + 1)), (t264), (by first | rfl | (simp; done) | (simp [*]; done)), (by first | rfl | (simp; done) | (simp [*]; done)), (by first | rfl | (simp; done) | (simp [*]; done)), H', ⟨by have := HK1.out; have := HK2.out; have := HK3.out; have := HJ32.out; omega⟩, ⟨by (with_reducible repeat (first | apply Kd.R_alloc | apply Kd.R_drewN | apply Kd.R_drew)); exact HO_7.out⟩, ⟨by (with_reducible repeat (first | apply Kd.R_alloc | apply Kd.R_drewN | apply Kd.R_drew)); exact HO_8.out⟩, ⟨by repeat (first | (with_reducible first | exact HI247.out | apply IsS60.alloc | apply IsS60.drewN | apply IsS60.drew | apply IsS60.set_1) | exact HI247.out)⟩, ⟨by repeat (first | (with_reducible first | exact HB.out | apply below_alloc | apply pw_below_drewN | apply below_drew1 | refine below_set ?_ (IsS60.ge HI247.out)) | exact HB.out)⟩⟩
               ·rw [if_neg c39] at H
                have c39b0 : (t265 == t267) = false := beq_eq_false_iff_ne.mpr c39
                have c39b1 : (t265 != t267) = true := bne_iff_ne.mpr c39
                have H' := Aside0.mk H
                clear H
                go_wp2
                go_roundg kj32
                case measure => have := HK1.out; have := HK2.out; have := HK3.out; have := HJ32.out; omega
                case rel => exact ⟨((wrap64 (x11_3 + (wrap64 (1 + t263))))), (x12_3), (wrap64 (x58_3 + 1)), (t264), (by first | rfl | (simp; done) | (simp [*]; done)), (by first | rfl | (simp; done) | (simp [*]; done)), (by first | rfl | (simp; done) | (simp [*]; done)), H', ⟨by have := HK1.out; have := HK2.out; have := HK3.out; have := HJ32.out; omega⟩, ⟨by (with_reducible repeat (first | apply Kd.R_alloc | apply Kd.R_drewN | apply Kd.R_drew)); exact HO_7.out⟩, ⟨by (with_reducible repeat (first | apply Kd.R_alloc | apply Kd.R_drewN | apply Kd.R_drew)); exact HO_8.out⟩, ⟨by repeat (first | (with_reducible first | exact HI247.out | apply IsS60.alloc | apply IsS60.drewN | apply IsS60.drew | apply IsS60.set_1) | exact HI247.out)⟩, ⟨by repeat (first | (with_reducible first | exact HB.out | apply below_alloc | apply pw_below_drewN | apply below_drew1 | refine below_set ?_ (IsS60.ge HI247.out)) | exact HB.out)⟩⟩
           ·rw [if_neg c29] at H
            have c29b0 : decide (x58_3 < (wrap64 (1 + (wrap64 (Int.tmod a1 12))))) = false := decide_eq_false c29
            clear c29
            obtain rfl := Option.some.inj H
            have hcv40 := own_string (P := Try.prog) Try.underlying37 Try.underlying5 Try.underlying9 (Kd.own_of_R HO_7.out)
            have hcv41 := own_string (P := Try.prog) Try.underlying37 Try.underlying5 Try.underlying9 (Kd.own_of_R HO_8.out)
            go_wp2
            go_ret
            exact ⟨by first | rfl | (simp [errW_none, errW_some] <;> rfl) | (simp [*, errW_none, errW_some] <;> rfl), by repeat (first | (with_reducible first | exact HB.out | apply below_alloc | apply pw_below_drewN | apply below_drew1 | refine below_set ?_ (IsS60.ge HI247.out)) | exact HB.out)⟩
  ·replace c6 := Bool.eq_false_iff.mpr c6
   subst c6
   have H1 : (some true) = some r := by rw [if_neg (show ¬ (false = true) by decide)] at H; exact H
   clear H
   have H := H1
   clear H1
   obtain rfl := Option.some.inj H
   go_enter Try.func5, Try.ntmps5
   go_wp2_with (first | ((with_reducible refine gate_callee (f := 7) rfl ?_); refine goesL_ (some 17) rfl rfl Try.func7 (by kernel_rfl) rfl #[] rfl (by (try simp only [List.map_toArray, List.map_cons, List.map_nil]); first | done | rfl | (simp only [List.length_drop, List.length_take]; rfl)) ?_; (with_reducible refine (storagebarterlaw20_sane.calls k  true _ A3.out).mono ?_); rintro e w42 ⟨rfl, hb⟩; refine ⟨_, rfl, ?_⟩; have n0_ := Aside0.mk (below_step (by repeat (first | (with_reducible first | exact HB.out | apply below_alloc | apply pw_below_drewN | apply below_drew1) | exact HB.out)) hb); clear HB; have HB := n0_; clear n0_; (try clear hb); (try clear hb2); (try clear hk); (try clear hi)) | ((with_reducible refine gate_callee (f := 8) rfl ?_); refine goesL_ (some 20) rfl rfl Try.func8 (by kernel_rfl) rfl #[.slice A0 l0.length c0] rfl (by (try simp only [List.map_toArray, List.map_cons, List.map_nil]); first | done | rfl | (simp only [List.length_drop, List.length_take]; rfl)) ?_; (with_reducible refine (storagebartermake_Few.calls _ _ l0 false _ ?side1 ?side2 A5.out).mono ?_); (case side1 => repeat (first | exact (Kd.C_below HR0.out HB.out) | (with_reducible refine Kd.C_alloc ?_ _) | (with_reducible refine Kd.C_drewN ?_ _) | (with_reducible refine Kd.C_drew ?_))); (case side2 => exact HC0.out); rintro e w' ⟨rfl, ⟨nd, rfl⟩⟩; refine ⟨_, rfl, ?_⟩))
   go_ret
   exact ⟨by first | rfl | (simp [errW_none, errW_some] <;> rfl) | (simp [*, errW_none, errW_some] <;> rfl), by repeat (first | (with_reducible first | exact HB.out | apply below_alloc | apply pw_below_drewN | apply below_drew1) | exact HB.out)⟩
 ·replace c4 := Bool.eq_false_iff.mpr c4
  subst c4
  have H1 : (none) = some r := by rw [if_neg (show ¬ (false = true) by decide)] at H; exact H
  clear H
  have H := H1
  clear H1
  exact absurd H (by simp)

/-- THE ONE PURE STATEMENT of storagebarterlaw20_ChallengeWhole: yours. -/
def storagebarterlaw20_ChallengeWhole.Pure : Prop := ∀ (l0 : List Int) (a1 : Int), l0.length ≤ maxLen → l0.length * 8 ≤ 140737488351232 → (∀ x ∈ l0, (Lit.int .i64 x).wf = true) → (Lit.int .u8 a1).wf = true → ∃ k, storagebarterlaw20_ChallengeWhole.f k l0 a1 = some true
theorem storagebarterlaw20_ChallengeWhole.walk (P : storagebarterlaw20_ChallengeWhole.Pure) (a0 : Option Addr) (len0 cap0 : Nat) (z0 : List Int) (a1 : Int) (w : World) (w0 : (a0 = none ∧ len0 = 0 ∧ cap0 = 0 ∧ z0 = []) ∨ ∃ x, a0 = some x ∧ len0 ≤ cap0 ∧ cap0 ≤ maxLen ∧ z0.length = cap0 ∧ (∀ i, i < z0.length → w.cell? (x.add i) = some (.int .i64 (z0.getD i 0))) ∧ ∀ n ∈ z0, (Lit.int .i64 n).wf = true) (y0 : len0 * 8 ≤ 140737488351232) (w1 : (Lit.int .u8 a1).wf = true) :
  Calls Try.prog 5 #[.slice a0 len0 cap0, .int .u8 a1] w fun e w' => e = .returned (.bool true) ∧ Below w.heap.size w w' := by
 obtain ⟨l0, rfl, hr0, hm0, hw0, hc0⟩ := ReadsInt.ofRowC w0
 obtain ⟨k, h⟩ := P l0 a1 hm0 y0 hw0 w1
 refine (storagebarterlaw20_ChallengeWhole.calls k _ _ l0 a1 true w (Kd.C_of_reads (d := (0 : Int)) (h1 := fun _ => rfl) hr0) hc0 h).mono ?_
 rintro e w' ⟨rfl, hd⟩
 exact ⟨rfl, hd⟩

end Go.Proofs.Ytfabnklcdagfjaa.PA
