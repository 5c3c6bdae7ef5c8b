-- Written by a program of this claim's own (hookprint.py), after the pattern of the kit's print. Lean checks it.
import Derived.Test.YthlpjnbpdafjeaaPAx0
namespace Go.Proofs.Ythlpjnbpdafjeaa.PA
open Go.RowKit Go.Proofs.YthlpjnbpdafjeaaW.PrintWords Go.Proofs.YthlpjnbpdafjeaaW.PrintLast Go.Proofs.YthlpjnbpdafjeaaW.PrintMore
attribute [local go_sem ↓] some_setCell
attribute [local go_sem] max2_int min2_int max_two min_two max_three min_three max_four min_four   -- for this text's walks alone
set_option linter.unusedVariables false
set_option linter.unusedSimpArgs false

def slices_Clone_string_string.f (l0 : List ByteArray) : Option (List ByteArray) := if l0.length < 8796093022208 then some l0 else none
set_option maxHeartbeats 8000000 in
set_option maxRecDepth 100000 in
theorem slices_Clone_string_string.calls (A0 : Option Addr) (c0 : Nat) (l0 : List ByteArray) (r : List ByteArray) (w : World) (hr0 : Kd.C Kd.string w A0 l0.length l0) (hc0 : l0.length ≤ c0) (h : slices_Clone_string_string.f l0 = some r) :
  Calls Try.prog 46 #[.slice A0 l0.length c0] w fun e w' => ∃ v0_ : Value, e = .returned (v0_) ∧ Kd.R Kd.string 9 w' w.heap.size (fun _ => True) v0_ r ∧ Below w.heap.size w w' := by
 have H := h; clear h; unfold slices_Clone_string_string.f at H
 by_cases hlim : l0.length < 8796093022208
 ·rw [if_pos hlim] at H
  obtain rfl := Option.some.inj H; have HB := As (Below.refl w.heap.size w); have HL := As hlim; have HR := As hr0; have heq := Lib.run_eql_slice_nil (P := Try.prog) (t := 23) (e := 9) (a := A0) (n := l0.length) (c := c0) (n' := 0) (c' := 0); (have heq' := fun W => heq W Try.underlying23); clear heq hlim hr0 hc0
  cases A0 with
  | none =>
   have hz : l0.length = 0 := by
    (rcases Nat.eq_zero_or_pos l0.length with h0 | h0)
    ·exact h0
    ·obtain ⟨ad, h, _⟩ := HR.out.2.2 h0
     cases h
   have hl : Aside0 (l0 = []) := ⟨List.eq_nil_of_length_eq_zero hz⟩; clear hz; have hn : (none : Option Addr).isNone = true := rfl; rw [hn] at heq'; go_enter Try.func46, Try.ntmps46; go_wp2; go_ret; rw [hl.out]
   exact ⟨_, rfl, Kd.R_nil _ _ _ _ _, HB.out⟩
  | some ad =>
   have hn : (some ad : Option Addr).isNone = false := rfl; rw [hn] at heq'; go_enter Try.func46, Try.ntmps46; have HE := As (Kd.R_empty Kd.string 9 w); have HA := As (below_alloc (Below.refl w.heap.size w) (.cells #[] 9)); go_wp2_with (at_builtin; refine Kd.R_append_rows Kd.string (w0 := w) w.heap.size rfl (.tmp 5) (.tmp 6) 23 9 (.string ⟨#[]⟩) 16 rfl Try.underlying23 info9 rfl (by decide) (by omega) (.slice (some ⟨w.heap.size, 0, none⟩) 0 0) [] l0 (some ad) l0.length c0 (fun _ => True) (fun _ => False) rfl rfl HE.out (Kd.C_below HR.out HA.out) (fun _ _ h => h) (fun _ h => h.elim) (fun _ _ => trivial) HA.out HA.out.size (by have := HL.out; simp; omega) ?_; intro v2 w2 h2a h2b h2c h2d; clear HE HA); go_ret; exact ⟨_, rfl, h2a, h2b⟩
 ·rw [if_neg hlim] at H
  exact absurd H (by simp)

end Go.Proofs.Ythlpjnbpdafjeaa.PA
