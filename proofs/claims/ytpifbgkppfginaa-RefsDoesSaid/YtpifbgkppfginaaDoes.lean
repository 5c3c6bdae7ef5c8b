/- Shared rows of a law's parameters: they lay there when the law began; rows of other types than what is appended to. -/
import Derived.Test.YtpifbgkppfginaaMine
set_option linter.unusedVariables false
namespace Go.Proofs.YtpifbgkppfginaaW.PrintWords
open Go.RowKit
section
variable {α β : Type} {d : Kd α} {d2 : Kd β} {e e2 : Nat} {w w2 : World} {base base2 : Nat} {P ok ok2 ok' : Nat → Prop} {v : Value} {xs : List α} {ys : List β}
theorem Kd.V_fresh {g : Nat} (h : Kd.V d e w base P v xs) (hb : Below w.heap.size w w2) (h1 : ∀ k, P k → ok' k) (h2 : ∀ k, P k → k < g) : Kd.V d e w2 base (fun k => ok' k ∧ k ≠ g) v xs :=
 Kd.V_mono (Kd.V_below h hb) (fun k hk => ⟨h1 k hk, Nat.ne_of_lt (h2 k hk)⟩)
theorem Kd.R_cell_neR {a : Addr} {n c : Nat} (h : d.R e w base ok v xs) (h2 : d2.R e2 w base2 ok2 (.slice (some a) n c) ys) (hn : e ≠ e2) : some a.block ≠ v.ownBlock := by
 intro he
 obtain ⟨c1, hc1⟩ := Kd.R_typed h a.block he.symm
 obtain ⟨c2, hc2⟩ := Kd.R_typed h2 a.block (by simp [Value.ownBlock])
 rw [hc1] at hc2
 injection hc2 with hc2
 injection hc2 with _ hc2
 exact hn hc2
end
end Go.Proofs.YtpifbgkppfginaaW.PrintWords
