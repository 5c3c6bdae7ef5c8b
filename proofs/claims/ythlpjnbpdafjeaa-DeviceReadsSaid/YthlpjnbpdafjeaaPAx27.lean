-- Written by a program of this claim's own (hookprint.py), after the pattern of the kit's print. Lean checks it.
import Derived.Test.YthlpjnbpdafjeaaPAx0
namespace Go.Proofs.Ythlpjnbpdafjeaa.PA
open Go.RowKit Go.Proofs.YthlpjnbpdafjeaaW.PrintWords Go.Proofs.YthlpjnbpdafjeaaW.PrintLast Go.Proofs.YthlpjnbpdafjeaaW.PrintMore
attribute [local go_sem ↓] some_setCell
attribute [local go_sem] max2_int min2_int max_two min_two max_three min_three max_four min_four   -- for this text's walks alone
set_option linter.unusedVariables false
set_option linter.unusedSimpArgs false

def storagebartermake_Few.f (l0 : List Int) : Option (Bool) := some (decide ((l0.length : Int) ≤ 500))
set_option maxHeartbeats 8000000 in
set_option maxRecDepth 100000 in
theorem storagebartermake_Few.calls (A0 : Option Addr) (c0 : Nat) (l0 : List Int) (r : Bool) (w : World) (hr0 : Kd.C (Kd.int .i64) w A0 l0.length l0) (hc0 : l0.length ≤ c0) (h : storagebartermake_Few.f l0 = some r) :
  Calls Try.prog 12 #[.slice A0 l0.length c0] w fun e w' => e = .returned (.bool r) ∧ Drawn0 w w' := by
 have HR0 := As hr0; have HC0 := As hc0; clear hr0 hc0; have H : (some (decide ((l0.length : Int) ≤ 500))) = some r := h; clear h; obtain rfl := Option.some.inj H; go_enter Try.func12, Try.ntmps12; go_wp2; go_ret; exact ⟨by first | rfl | (simp; done) | (simp [*]; done), by repeat (first | exact Drawn0.refl _ | apply Drawn0.step)⟩

end Go.Proofs.Ythlpjnbpdafjeaa.PA
