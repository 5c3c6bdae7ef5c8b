/- Which balances are even: the plain statement that is left of the law AccountEven. -/
import Derived.Test.YtcgpbmafkgbbdaaDoorPEx14
import Derived.Test.YtcgpbmafkgbbdaaDoorPEx15
import Derived.Test.YtcgpbmafkgbbdaaDoorPEx16
set_option linter.unusedVariables false
namespace Go.Proofs.YtcgpbmafkgbbdaaDoor.Pure
open Go.RowKit Go.Proofs.YtcgpbmafkgbbdaaDoor.PE Go.Proofs.YtcgpbmafkgbbdaaDoorW.PrintWords Go.Proofs.YtcgpbmafkgbbdaaDoorW.PrintLast
/-! YOURS: AccountEven -/
theorem w64 {n : Int} (h0 : -9223372036854775808 ≤ n) (h1 : n ≤ 9223372036854775807) : wrap64 n = n := by unfold wrap64; omega
theorem short_rng {a : Int} (h : (Lit.int .u16 a).wf = true) : 0 ≤ a ∧ a ≤ 65535 := by
  simp [Lit.wf, IntKind.min, IntKind.max, IntKind.bits, IntKind.signed] at h
  omega
theorem sane_yes : storagebarterlaw17_sane.f 5 = some true := by decide +kernel
theorem even_is (a b : Int) (ha : -100000 ≤ a ∧ a ≤ 100000) (hb : -100000 ≤ b ∧ b ≤ 100000) : account_Even.f a b = some (decide (0 ≤ a) && (decide (0 ≤ b) && (decide (a - b < 1024) && decide (b - a < 1024)))) := by
  unfold account_Even.f
  rw [w64 (n := a - b) (by omega) (by omega), w64 (n := b - a) (by omega) (by omega)]
  by_cases h0 : 0 ≤ a
  · by_cases h1 : 0 ≤ b
    · by_cases h2 : a - b < 1024
      · rw [if_pos h0, if_pos h1, if_pos h2, decide_eq_true h0, decide_eq_true h1, decide_eq_true h2, Bool.true_and, Bool.true_and, Bool.true_and]
      · rw [if_pos h0, if_pos h1, if_neg h2, decide_eq_true h0, decide_eq_true h1, decide_eq_false h2]; rfl
    · rw [if_pos h0, if_neg h1, decide_eq_true h0, decide_eq_false h1]; rfl
  · rw [if_neg h0, decide_eq_false h0]; rfl
theorem AccountEven : storagebarterlaw17_AccountEven.Pure := by
  intro a b ha hb
  have ra := short_rng ha
  have rb := short_rng hb
  refine ⟨5, ?_⟩
  unfold storagebarterlaw17_AccountEven.f
  rw [sane_yes, Option.bind_some, if_pos rfl, w64 (n := a) (by omega) (by omega), w64 (n := b) (by omega) (by omega), w64 (n := a - b) (by omega) (by omega), w64 (n := b - a) (by omega) (by omega), w64 (n := -1 - a) (by omega) (by omega),
    even_is a b (by omega) (by omega), even_is b a (by omega) (by omega), even_is (-1 - a) b (by omega) (by omega), decide_eq_true (show 0 ≤ a from ra.1), decide_eq_true (show 0 ≤ b from rb.1), decide_eq_false (show ¬ 0 ≤ -1 - a by omega)]
  by_cases h1 : a - b < 1024
  · by_cases h2 : b - a < 1024
    · simp [h1, h2]
    · simp [h1, h2]
  · by_cases h2 : b - a < 1024
    · simp [h1, h2]
    · simp [h1, h2]
end Go.Proofs.YtcgpbmafkgbbdaaDoor.Pure
