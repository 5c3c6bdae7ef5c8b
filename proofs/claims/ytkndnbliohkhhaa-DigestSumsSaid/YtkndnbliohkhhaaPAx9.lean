-- Written by a program of this claim's own (hookprint.py), after the pattern of the kit's print. Lean checks it.
import Derived.Test.YtkndnbliohkhhaaPAx0
import Derived.Test.YtkndnbliohkhhaaPAx2
import Derived.Test.YtkndnbliohkhhaaPAx4
namespace Go.Proofs.Ytkndnbliohkhhaa.PA
open Go.RowKit Go.Proofs.YtkndnbliohkhhaaW.PrintWords Go.Proofs.YtkndnbliohkhhaaW.PrintLast Go.Proofs.YtkndnbliohkhhaaW.PrintMore
attribute [local go_sem ↓] some_setCell
attribute [local go_sem] max2_int min2_int max_two min_two max_three min_three max_four min_four   -- for this text's walks alone
set_option linter.unusedVariables false
set_option linter.unusedSimpArgs false

def digest_Join.f (k : Nat) (a0 : Int) (a1 : Int) (a2 : Int) : Option (Int) := (digest_Power.f k a2).bind fun t116 => ((digest_mod.f a0).bind fun t117 => ((digest_mod.f a1).bind fun t118 => ((digest_mod.f (wrap64 ((wrap64 ((Int.tmod (wrap64 (t117 * t116)) 2147483647) + t118)) - t116))).bind fun t119 => (some t119))))
set_option maxHeartbeats 8000000 in
set_option maxRecDepth 100000 in
theorem digest_Join.calls (k : Nat) (a0 : Int) (a1 : Int) (a2 : Int) (r : Int) (w : World) (h : digest_Join.f k a0 a1 a2 = some r) :
  Calls Try.prog 12 #[.int .i64 a0, .int .i64 a1, .int .i64 a2] w fun e w' => e = .returned (.int .i64 r) ∧ Drawn0 w w' := by
 have H : ((digest_Power.f k a2).bind fun t116 => ((digest_mod.f a0).bind fun t117 => ((digest_mod.f a1).bind fun t118 => ((digest_mod.f (wrap64 ((wrap64 ((Int.tmod (wrap64 (t117 * t116)) 2147483647) + t118)) - t116))).bind fun t119 => (some t119))))) = some r := h; clear h; replace H := Option.bind_eq_some_iff.mp H; obtain ⟨t116, A40, H⟩ := H; (try dsimp only at H); have A4 := As A40; clear A40; replace H := Option.bind_eq_some_iff.mp H; obtain ⟨t117, A50, H⟩ := H; (try dsimp only at H); have A5 := As A50; clear A50; replace H := Option.bind_eq_some_iff.mp H; obtain ⟨t118, A60, H⟩ := H; (try dsimp only at H); have A6 := As A60; clear A60; replace H := Option.bind_eq_some_iff.mp H; obtain ⟨t119, A70, H⟩ := H; (try dsimp only at H); have A7 := As A70; clear A70; obtain rfl := Option.some.inj H; go_enter Try.func12, Try.ntmps12
 go_wp2_with (first | ((with_reducible refine gate_callee (f := 13) rfl ?_); refine goesL_ (some 9) rfl rfl Try.func13 (by kernel_rfl) rfl #[.int .i64 a2] rfl (by (try simp only [m1, m2, m3]); first | done | rfl | (simp only [m4, m5]; rfl)) ?_; (with_reducible refine (digest_Power.calls k a2 t116 _ A4.out).mono ?_); rintro e w' ⟨rfl, ⟨nd, rfl⟩⟩; refine ⟨_, rfl, ?_⟩) | ((with_reducible refine gate_callee (f := 20) rfl ?_); refine goesL_ (some 11) rfl rfl Try.func20 (by kernel_rfl) rfl #[.int .i64 a0] rfl (by (try simp only [m1, m2, m3]); first | done | rfl | (simp only [m4, m5]; rfl)) ?_; (with_reducible refine (digest_mod.calls a0 t117 _ A5.out).mono ?_); rintro e w' ⟨rfl, ⟨nd, rfl⟩⟩; refine ⟨_, rfl, ?_⟩) | ((with_reducible refine gate_callee (f := 20) rfl ?_); refine goesL_ (some 16) rfl rfl Try.func20 (by kernel_rfl) rfl #[.int .i64 a1] rfl (by (try simp only [m1, m2, m3]); first | done | rfl | (simp only [m4, m5]; rfl)) ?_; (with_reducible refine (digest_mod.calls a1 t118 _ A6.out).mono ?_); rintro e w' ⟨rfl, ⟨nd, rfl⟩⟩; refine ⟨_, rfl, ?_⟩) | ((with_reducible refine gate_callee (f := 20) rfl ?_); refine goesL_ (some 20) rfl rfl Try.func20 (by kernel_rfl) rfl #[.int .i64 (wrap64 ((wrap64 ((Int.tmod (wrap64 (t117 * t116)) 2147483647) + t118)) - t116))] rfl (by (try simp only [m1, m2, m3]); first | done | rfl | (simp only [m4, m5]; rfl)) ?_; (with_reducible refine (digest_mod.calls (wrap64 ((wrap64 ((Int.tmod (wrap64 (t117 * t116)) 2147483647) + t118)) - t116)) t119 _ A7.out).mono ?_); rintro e w' ⟨rfl, ⟨nd, rfl⟩⟩; refine ⟨_, rfl, ?_⟩))
 go_ret; exact ⟨by first | rfl | (simp; done) | (simp [*]; done), by repeat (first | exact Drawn0.refl _ | apply Drawn0.step)⟩

end Go.Proofs.Ytkndnbliohkhhaa.PA
