-- Written by a program of this claim's own (hookprint.py), after the pattern of the kit's print. Lean checks it.
import Derived.Test.YtejhjncobibgmaaPAx0
namespace Go.Proofs.Ytejhjncobibgmaa.PA
open Go.RowKit Go.Proofs.YtejhjncobibgmaaW.PrintWords Go.Proofs.YtejhjncobibgmaaW.PrintLast Go.Proofs.YtejhjncobibgmaaW.PrintMore
attribute [local go_sem ↓] some_setCell
attribute [local go_sem] max2_int min2_int max_two min_two max_three min_three max_four min_four   -- for this text's walks alone
set_option linter.unusedVariables false
set_option linter.unusedSimpArgs false

def api_Parcel_33.f (l0 : List (S27)) : Option (List (S27)) := if l0.length < 2932031007402 then some l0 else none
set_option maxHeartbeats 8000000 in
set_option maxRecDepth 100000 in
theorem api_Parcel_33.calls (A0 : Option Addr) (c0 : Nat) (l0 : List (S27)) (r : List (S27)) (w : World) (hr0 : Kd.C k27 w A0 l0.length l0) (hc0 : l0.length ≤ c0) (h : api_Parcel_33.f l0 = some r) :
  Calls Try.prog 33 #[.slice A0 l0.length c0] w fun e w' => ∃ v0_ : Value, e = .returned (v0_) ∧ Kd.R k27 27 w' w.heap.size (fun _ => True) v0_ r ∧ Below w.heap.size w w' := by
 have H := h; clear h; unfold api_Parcel_33.f at H
 by_cases hlim : l0.length < 2932031007402
 ·rw [if_pos hlim] at H
  obtain rfl := Option.some.inj H; have HB := Aside0.mk (Below.refl w.heap.size w); have HL := Aside0.mk hlim; have HR := Aside0.mk hr0; have heq := Lib.run_eql_slice_nil (P := Try.prog) (t := 23) (e := 27) (a := A0) (n := l0.length) (c := c0) (n' := 0) (c' := 0); (have heq' := fun W => heq W Try.underlying23); clear heq hlim hr0 hc0
  cases A0 with
  | none =>
   have hz : l0.length = 0 := by
    (rcases Nat.eq_zero_or_pos l0.length with h0 | h0)
    ·exact h0
    ·obtain ⟨ad, h, _⟩ := HR.out.2.2 h0
     cases h
   have hl : Aside0 (l0 = []) := ⟨List.eq_nil_of_length_eq_zero hz⟩; clear hz; have hn : (none : Option Addr).isNone = true := rfl; rw [hn] at heq'; go_enter Try.func33, Try.ntmps33; go_wp2; go_ret; rw [hl.out]
   exact ⟨_, rfl, Kd.R_nil _ _ _ _ _, HB.out⟩
  | some ad =>
   have hn : (some ad : Option Addr).isNone = false := rfl; rw [hn] at heq'; go_enter Try.func33, Try.ntmps33; have HE := Aside0.mk (Kd.R_empty k27 27 w); have HA := Aside0.mk (below_alloc (Below.refl w.heap.size w) (.cells #[] 27)); go_wp2_with (at_builtin; refine Kd.R_append_rows k27 (w0 := w) w.heap.size rfl (.tmp 5) (.tmp 6) 23 27 (.agg #[(.int .i64 0), (.int .i64 0), (.int .i64 0), (.int .i64 0), (.string ⟨#[]⟩)]) 48 rfl Try.underlying23 info27 rfl (by decide) (by omega) (.slice (some ⟨w.heap.size, 0, none⟩) 0 0) [] l0 (some ad) l0.length c0 (fun _ => True) (fun _ => False) rfl rfl HE.out (Kd.C_below HR.out HA.out) (fun _ _ h => h) (fun _ h => h.elim) (fun _ _ => trivial) HA.out HA.out.size (by have := HL.out; simp; omega) ?_; intro v2 w2 h2a h2b h2c h2d; clear HE HA); go_ret; exact ⟨_, rfl, h2a, h2b⟩
 ·rw [if_neg hlim] at H
  exact absurd H (by simp)

end Go.Proofs.Ytejhjncobibgmaa.PA
