-- Written by a program of this claim's own (hookprint.py), after the pattern of the kit's print. Lean checks it.
import Derived.Test.YtkndnbliohkhhaaPAx0
import Derived.Test.YtkndnbliohkhhaaPAx1
import Derived.Test.YtkndnbliohkhhaaPAx3
import Derived.Test.YtkndnbliohkhhaaPAx4
namespace Go.Proofs.Ytkndnbliohkhhaa.PA
open Go.RowKit Go.Proofs.YtkndnbliohkhhaaW.PrintWords Go.Proofs.YtkndnbliohkhhaaW.PrintLast Go.Proofs.YtkndnbliohkhhaaW.PrintMore
attribute [local go_sem ↓] some_setCell
attribute [local go_sem] max2_int min2_int max_two min_two max_three min_three max_four min_four   -- for this text's walks alone
set_option linter.unusedVariables false
set_option linter.unusedSimpArgs false

def storagebarterlaw02_sane.f (k : Nat)  : Option (Bool) := (digest_Sum.f k (⟨#[]⟩ : ByteArray)).bind fun t102 => (if t102 = 1 then ((digest_Sum.f k (⟨#[97]⟩ : ByteArray)).bind fun t103 => (if t103 = 1000101 then ((digest_Power.f k 0).bind fun t104 => (if t104 = 1 then ((digest_At.f k (⟨#[97]⟩ : ByteArray) 5).bind fun t105 => (some (t105 == 98))) else (none))) else (none))) else (none))
set_option maxHeartbeats 8000000 in
set_option maxRecDepth 100000 in
theorem storagebarterlaw02_sane.calls (k : Nat)  (r : Bool) (w : World) (h : storagebarterlaw02_sane.f k  = some r) :
  Calls Try.prog 8 #[] w fun e w' => e = .returned (.bool r) ∧ Drawn0 w w' := by
 have H : ((digest_Sum.f k (⟨#[]⟩ : ByteArray)).bind fun t102 => (if t102 = 1 then ((digest_Sum.f k (⟨#[97]⟩ : ByteArray)).bind fun t103 => (if t103 = 1000101 then ((digest_Power.f k 0).bind fun t104 => (if t104 = 1 then ((digest_At.f k (⟨#[97]⟩ : ByteArray) 5).bind fun t105 => (some (t105 == 98))) else (none))) else (none))) else (none))) = some r := h; clear h; replace H := Option.bind_eq_some_iff.mp H; obtain ⟨t102, A10, H⟩ := H; (try dsimp only at H); have A1 := As A10; clear A10
 by_cases c2 : t102 = 1
 ·rw [if_pos c2] at H
  have c2b0 : (t102 == 1) = true := beq_iff_eq.mpr c2; have c2b1 : (t102 != 1) = false := bne_eq_false_iff_eq.mpr c2; clear c2; replace H := Option.bind_eq_some_iff.mp H; obtain ⟨t103, A30, H⟩ := H; (try dsimp only at H); have A3 := As A30; clear A30
  by_cases c4 : t103 = 1000101
  ·rw [if_pos c4] at H
   have c4b0 : (t103 == 1000101) = true := beq_iff_eq.mpr c4; have c4b1 : (t103 != 1000101) = false := bne_eq_false_iff_eq.mpr c4; clear c4; replace H := Option.bind_eq_some_iff.mp H; obtain ⟨t104, A50, H⟩ := H; (try dsimp only at H); have A5 := As A50; clear A50
   by_cases c6 : t104 = 1
   ·rw [if_pos c6] at H
    have c6b0 : (t104 == 1) = true := beq_iff_eq.mpr c6; have c6b1 : (t104 != 1) = false := bne_eq_false_iff_eq.mpr c6; clear c6; replace H := Option.bind_eq_some_iff.mp H; obtain ⟨t105, A70, H⟩ := H; (try dsimp only at H); have A7 := As A70; clear A70; obtain rfl := Option.some.inj H; go_enter Try.func8, Try.ntmps8; go_wp2_with (first | ((with_reducible refine gate_callee (f := 10) rfl ?_); refine goesL_ (some 1) rfl rfl Try.func10 (by kernel_rfl) rfl #[.string (⟨#[]⟩ : ByteArray)] rfl (by (try simp only [m1, m2, m3]); first | done | rfl | (simp only [m4, m5]; rfl)) ?_; (with_reducible refine (digest_Sum.calls k (⟨#[]⟩ : ByteArray) t102 _ A1.out).mono ?_); rintro e w' ⟨rfl, ⟨nd, rfl⟩⟩; refine ⟨_, rfl, ?_⟩) | (go_at_call 10; (with_reducible refine (digest_Sum.calls k (⟨#[97]⟩ : ByteArray) t103 _ A3.out).mono ?_); rintro e w' ⟨rfl, ⟨nd, rfl⟩⟩) | (go_at_call 13; (with_reducible refine (digest_Power.calls k 0 t104 _ A5.out).mono ?_); rintro e w' ⟨rfl, ⟨nd, rfl⟩⟩) | (go_at_call 11; (with_reducible refine (digest_At.calls k (⟨#[97]⟩ : ByteArray) 5 t105 _ A7.out).mono ?_); rintro e w' ⟨rfl, ⟨nd, rfl⟩⟩)); go_ret; exact ⟨by first | rfl | (simp; done) | (simp [*]; done), by repeat (first | exact Drawn0.refl _ | apply Drawn0.step)⟩
   ·rw [if_neg c6] at H
    exact absurd H (by simp)
  ·rw [if_neg c4] at H
   exact absurd H (by simp)
 ·rw [if_neg c2] at H
  exact absurd H (by simp)

end Go.Proofs.Ytkndnbliohkhhaa.PA
