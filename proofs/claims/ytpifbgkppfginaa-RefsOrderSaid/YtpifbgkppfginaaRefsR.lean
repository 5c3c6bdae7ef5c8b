/- What the second form of refs returns for valid indexes; and equality of indexes. -/
import Derived.Test.YtpifbgkppfginaaRefs
import Derived.Test.YtpifbgkppfginaaPAx0
import Derived.Test.YtpifbgkppfginaaPAx6
import Derived.Test.YtpifbgkppfginaaPAx26
set_option linter.unusedVariables false
set_option linter.unusedSimpArgs false
namespace Go.Proofs.Ytpifbgkppfginaa.PA
open Go.RowKit Go.Proofs.YtpifbgkppfginaaW.PrintWords Go.Proofs.YtpifbgkppfginaaW.PrintLast Go.Proofs.Ytpifbgkppfginaa.Dig
theorem same_loop (l : List S33) (hl : l.length ≤ 1024) : ∀ (d i k : Nat), i + d = l.length → d < k → api_Row_34.l0 k l l (l.length : Int) (i : Int) = some true
 | 0, i, k, hi, hk => by
  obtain ⟨k, rfl⟩ : ∃ m, k = m + 1 := ⟨k - 1, by omega⟩
  rw [api_Row_34.l0]
  rw [if_neg (by omega)]
 | d + 1, i, k, hi, hk => by
  obtain ⟨k, rfl⟩ : ∃ m, k = m + 1 := ⟨k - 1, by omega⟩
  rw [api_Row_34.l0]
  rw [if_pos (by omega), if_pos (by omega), if_pos (by omega), if_pos (by omega), if_neg (by simp), rw64 (by omega) (by omega)]
  exact same_loop l hl d (i + 1) k (by omega) (by omega)
theorem same_some (l : List S33) (hl : l.length ≤ 1024) (k : Nat) (hk : 1024 < k) : refs_Same.f k l l = some true := by
 unfold refs_Same.f api_Row_34.f
 rw [if_pos rfl, show api_Row_34.l0 k l l (l.length : Int) 0 = some true from same_loop l hl l.length 0 k (by omega) (by omega)]
 rfl
end Go.Proofs.Ytpifbgkppfginaa.PA
