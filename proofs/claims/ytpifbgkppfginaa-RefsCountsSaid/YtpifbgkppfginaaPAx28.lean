-- Written by a program of this claim's own (hookprint.py), after the pattern of the kit's print. Lean checks it.
import Derived.Test.YtpifbgkppfginaaPAx0
import Derived.Test.YtpifbgkppfginaaPAx21
namespace Go.Proofs.Ytpifbgkppfginaa.PA
open Go.RowKit Go.Proofs.YtpifbgkppfginaaW.PrintWords Go.Proofs.YtpifbgkppfginaaW.PrintLast Go.Proofs.YtpifbgkppfginaaW.PrintMore
attribute [local go_sem ↓] some_setCell
attribute [local go_sem] max2_int min2_int max_two min_two max_three min_three max_four min_four   -- for this text's walks alone
set_option linter.unusedVariables false
set_option linter.unusedSimpArgs false

/-! ### storagebartermake_New: function 15 -/
def storagebartermake_New.f (l0 : List Int) : Option (List Int × Int) := some (l0, 0)
set_option maxHeartbeats 8000000 in
set_option maxRecDepth 100000 in
theorem storagebartermake_New.calls (A0 : Option Addr) (c0 : Nat) (l0 : List Int) (r1 : List Int) (r2 : Int) (w0 w : World) (hB : Below w0.heap.size w0 w) (hr0 : Kd.C (Kd.int .i64) w0 A0 l0.length l0) (hc0 : l0.length ≤ c0) (h : storagebartermake_New.f l0 = some (r1, r2)) :
  Calls Try.prog 15 #[.slice A0 l0.length c0] w fun e w' => ∃ g_ : Nat, e = .returned (.pointer (some ⟨g_, 0, none⟩)) ∧ IsS57 w0 w' g_ r1 r2 ∧ Below w0.heap.size w0 w' ∧ Below w.heap.size w w' := by
 have hu57 := Try.underlying57; have HR0 := Aside0.mk hr0; have HC0 := Aside0.mk hc0; clear hr0 hc0; have HBW := Aside0.mk (Below.refl w.heap.size w); have HW0 := Aside0.mk hB.size; have HB := Aside0.mk hB; clear hB; have H : (some (l0, 0)) = some (r1, r2) := h; clear h; simp only [Option.some.injEq, Prod.mk.injEq] at H; obtain ⟨rfl, rfl⟩ := H; go_enter Try.func15, Try.ntmps15; go_wp2_with (first | ((with_reducible refine gate_dst (N := 5) rfl ?_); refine box_event ?hg (N := 5) ?hd (cs := #[.slice A0 l0.length c0, .int .i64 0]) (t := 57) ?hr ?_; (case hd => rfl); (case hg => rfl); (case hr => first | (go_simp; done) | (go_simp; rfl)); intro gb256 hg w2 hbox hb; have n0_ := Aside0.mk (below_step HBW.out hb); have n1_ := Aside0.mk (below_step (by repeat (first | (with_reducible first | exact HB.out | apply uA | apply uN | apply uD) | exact HB.out)) hb); have n2_ := Aside0.mk (hbox); have n3_ := Aside0.mk ((by rw [hg]; exact (below_size (by repeat (first | (with_reducible first | exact HBW.out | apply uA | apply uN | apply uD) | exact HBW.out))) : w.heap.size ≤ gb256)); have n4_ := Aside0.mk ((Nat.le_trans HW0.out (by rw [hg]; exact (below_size (by repeat (first | (with_reducible first | exact HBW.out | apply uA | apply uN | apply uD) | exact HBW.out))) : w.heap.size ≤ gb256) : w0.heap.size ≤ gb256)); clear HBW; clear HB; have HBW := n0_; have HB := n1_; have BK256 := n2_; have GW256 := n3_; have GE256 := n4_; clear n0_ n1_ n2_ n3_ n4_; clear hb hbox hg)); go_ret
 exact ⟨_, rfl, (show IsS57 w0 _ gb256 l0 0 from ⟨_, _, by (with_reducible repeat (first | apply bN | apply bD | apply bA)); exact BK256.out, GE256.out, HR0.out⟩), by repeat (first | (with_reducible first | exact HB.out | apply uA | apply uN | apply uD | refine uS ?_ GE256.out) | exact HB.out), by repeat (first | (with_reducible first | exact HBW.out | apply uA | apply uN | apply uD | refine uS ?_ GW256.out) | exact HBW.out)⟩

end Go.Proofs.Ytpifbgkppfginaa.PA
