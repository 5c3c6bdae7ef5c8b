-- Written by a program of this claim's own (hookprint.py), after the pattern of the kit's print. Lean checks it.
import Derived.Test.YtfabnklcdagfjaaPAx0
import Derived.Test.YtfabnklcdagfjaaPAx2
import Derived.Test.YtfabnklcdagfjaaPAx4
import Derived.Test.YtfabnklcdagfjaaPAx8
namespace Go.Proofs.Ytfabnklcdagfjaa.PA
open Go.RowKit Go.Proofs.YtfabnklcdagfjaaW.PrintWords Go.Proofs.YtfabnklcdagfjaaW.PrintLast Go.Proofs.YtfabnklcdagfjaaW.PrintMore
attribute [local go_sem ↓] some_setCell
attribute [local go_sem] max2_int min2_int max_two min_two max_three min_three max_four min_four   -- for this text's walks alone
set_option linter.unusedVariables false
set_option linter.unusedSimpArgs false

def challenge_Answer.f (k : Nat) (a0 : ByteArray) (a1 : Int) : Option (Int × Int) := (challenge_whole.f a0).bind fun t131 => (if t131 = true then ((challenge_proper.f a1).bind fun t132 => (if t132 = true then ((digest_At.f k a0 a1).bind fun t133 => (some (t133, 0))) else (some (0, 1)))) else (some (0, 2)))
theorem challenge_Answer.mono : ∀ a0 a1 k, LeO (challenge_Answer.f k a0 a1) (challenge_Answer.f (k + 1) a0 a1) := by
 intro a0 a1 k; unfold challenge_Answer.f
 repeat' first | (with_reducible first | exact LeO.refl _ | exact LeO.none _ | apply digest_At.mono | apply LeO.ite | refine LeO.bind ?_ (fun _ => ?_)) | apply digest_At.mono | exact LeO.none _ | apply LeO.ite | refine LeO.bind ?_ (fun _ => ?_)
set_option maxHeartbeats 8000000 in
set_option maxRecDepth 100000 in
theorem challenge_Answer.calls (k : Nat) (a0 : ByteArray) (a1 : Int) (r1 : Int) (r2 : Int) (w : World) (h : challenge_Answer.f k a0 a1 = some (r1, r2)) :
  Calls Try.prog 15 #[.string a0, .int .i64 a1] w fun e w' => e = .returned (.tuple #[.int .i64 r1, .int .i64 r2]) ∧ Drawn0 w w' := by
 have H : ((challenge_whole.f a0).bind fun t131 => (if t131 = true then ((challenge_proper.f a1).bind fun t132 => (if t132 = true then ((digest_At.f k a0 a1).bind fun t133 => (some (t133, 0))) else (some (0, 1)))) else (some (0, 2)))) = some (r1, r2) := h; clear h; replace H := Option.bind_eq_some_iff.mp H; obtain ⟨t131, A30, H⟩ := H; (try dsimp only at H); have A3 := As A30; clear A30
 by_cases c4 : t131 = true
 ·subst c4
  rw [if_pos rfl] at H; replace H := Option.bind_eq_some_iff.mp H; obtain ⟨t132, A50, H⟩ := H; (try dsimp only at H); have A5 := As A50; clear A50
  by_cases c6 : t132 = true
  ·subst c6
   rw [if_pos rfl] at H; replace H := Option.bind_eq_some_iff.mp H; obtain ⟨t133, A70, H⟩ := H; (try dsimp only at H); have A7 := As A70; clear A70; simp only [Option.some.injEq, Prod.mk.injEq] at H; obtain ⟨rfl, rfl⟩ := H; go_enter Try.func15, Try.ntmps15
   go_wp2_with (first | ((with_reducible refine gate_callee (f := 30) rfl ?_); refine goesL_ (some 7) rfl rfl Try.func30 (by kernel_rfl) rfl #[.string a0] rfl (by (try simp only [m1, m2, m3]); first | done | rfl | (simp only [m4, m5]; rfl)) ?_; (with_reducible refine (challenge_whole.calls a0 true _ A3.out).mono ?_); rintro e w' ⟨rfl, ⟨nd, rfl⟩⟩; refine ⟨_, rfl, ?_⟩) | ((with_reducible refine gate_callee (f := 32) rfl ?_); refine goesL_ (some 10) rfl rfl Try.func32 (by kernel_rfl) rfl #[.int .i64 a1] rfl (by (try simp only [m1, m2, m3]); first | done | rfl | (simp only [m4, m5]; rfl)) ?_; (with_reducible refine (challenge_proper.calls a1 true _ A5.out).mono ?_); rintro e w' ⟨rfl, ⟨nd, rfl⟩⟩; refine ⟨_, rfl, ?_⟩) | ((with_reducible refine gate_callee (f := 34) rfl ?_); refine goesL_ (some 14) rfl rfl Try.func34 (by kernel_rfl) rfl #[.string a0, .int .i64 a1] rfl (by (try simp only [m1, m2, m3]); first | done | rfl | (simp only [m4, m5]; rfl)) ?_; (with_reducible refine (digest_At.calls k a0 a1 t133 _ A7.out).mono ?_); rintro e w' ⟨rfl, ⟨nd, rfl⟩⟩; refine ⟨_, rfl, ?_⟩)); go_ret2; exact ⟨by first | rfl | (simp; done) | (simp [*]; done), by repeat (first | exact Drawn0.refl _ | apply Drawn0.step)⟩
  ·replace c6 := Bool.eq_false_iff.mpr c6
   subst c6; rw [if_neg nft] at H; simp only [Option.some.injEq, Prod.mk.injEq] at H; obtain ⟨rfl, rfl⟩ := H; go_enter Try.func15, Try.ntmps15; go_wp2_with (first | ((with_reducible refine gate_callee (f := 30) rfl ?_); refine goesL_ (some 7) rfl rfl Try.func30 (by kernel_rfl) rfl #[.string a0] rfl (by (try simp only [m1, m2, m3]); first | done | rfl | (simp only [m4, m5]; rfl)) ?_; (with_reducible refine (challenge_whole.calls a0 true _ A3.out).mono ?_); rintro e w' ⟨rfl, ⟨nd, rfl⟩⟩; refine ⟨_, rfl, ?_⟩) | ((with_reducible refine gate_callee (f := 32) rfl ?_); refine goesL_ (some 10) rfl rfl Try.func32 (by kernel_rfl) rfl #[.int .i64 a1] rfl (by (try simp only [m1, m2, m3]); first | done | rfl | (simp only [m4, m5]; rfl)) ?_; (with_reducible refine (challenge_proper.calls a1 false _ A5.out).mono ?_); rintro e w' ⟨rfl, ⟨nd, rfl⟩⟩; refine ⟨_, rfl, ?_⟩)); go_ret2; exact ⟨by first | rfl | (simp; done) | (simp [*]; done), by repeat (first | exact Drawn0.refl _ | apply Drawn0.step)⟩
 ·replace c4 := Bool.eq_false_iff.mpr c4
  subst c4; rw [if_neg nft] at H; simp only [Option.some.injEq, Prod.mk.injEq] at H; obtain ⟨rfl, rfl⟩ := H; go_enter Try.func15, Try.ntmps15; go_wp2_with (first | ((with_reducible refine gate_callee (f := 30) rfl ?_); refine goesL_ (some 7) rfl rfl Try.func30 (by kernel_rfl) rfl #[.string a0] rfl (by (try simp only [m1, m2, m3]); first | done | rfl | (simp only [m4, m5]; rfl)) ?_; (with_reducible refine (challenge_whole.calls a0 false _ A3.out).mono ?_); rintro e w' ⟨rfl, ⟨nd, rfl⟩⟩; refine ⟨_, rfl, ?_⟩)); go_ret2; exact ⟨by first | rfl | (simp; done) | (simp [*]; done), by repeat (first | exact Drawn0.refl _ | apply Drawn0.step)⟩

end Go.Proofs.Ytfabnklcdagfjaa.PA
