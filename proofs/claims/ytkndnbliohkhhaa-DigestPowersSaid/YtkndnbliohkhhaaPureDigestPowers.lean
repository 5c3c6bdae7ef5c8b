/- Powers multiply, and all results are numbers below the prime: the plain statement that is left of the law DigestPowers. -/
import Derived.Test.YtkndnbliohkhhaaEvDigestPowers
set_option linter.unusedVariables false
namespace Go.Proofs.Ytkndnbliohkhhaa.Pure
open Go.RowKit Go.Proofs.Ytkndnbliohkhhaa.PDigestPowers Go.Proofs.YtkndnbliohkhhaaW.PrintWords Go.Proofs.YtkndnbliohkhhaaW.PrintLast Go.Proofs.Ytkndnbliohkhhaa.Dig
theorem pow_next (m : Nat) : pw (m + 2147483646) = pw m := by
  rw [pw_add, fermat, Int.mul_one, em_id (pw_lo m) (pw_hi m)]
theorem DigestPowers : storagebarterlaw02_DigestPowers.Pure := by
  intro m n s a b x hm hn hs ha hb hx
  simp [Lit.wf, IntKind.min, IntKind.max, IntKind.signed, IntKind.bits] at hm hn ha hb hx
  refine ⟨s.size + 71, ?_⟩
  have hk : 64 ≤ s.size + 71 := by omega
  unfold storagebarterlaw02_DigestPowers.f
  have e1 : wrap64 m = m := w64_id (by omega) (by omega)
  have e2 : wrap64 n = n := w64_id (by omega) (by omega)
  have e3 : wrap64 (m + n) = m + n := w64_id (by omega) (by omega)
  rw [e1, e2, e3, sane_some _ hk, pow_some m (by omega) _ hk, pow_some n (by omega) _ hk, pow_some (m + n) (by omega) _ hk, sum_some s (by omega) _ (by omega), join_some a b n (by omega) _ hk, at_some s (by omega) x _ (by omega)]
  simp only [Option.bind_some, if_true]
  have key : ∀ (k : Nat), 64 ≤ k → ∀ (l : List Int) (i : Nat), (∀ y, y ∈ l → 0 ≤ y ∧ y < P) → i ≤ l.length → l.length < 100 →
      ∀ d, d = l.length - i → storagebarterlaw02_DigestPowers.l0 (k + d + 1) m (pw m.toNat) (pw n.toNat) (pw (m + n).toNat) l (l.length : Int) (i : Int) = some true := by
    intro k hk l i hl hi hl1 d
    induction d generalizing i with
    | zero =>
      intro hd
      simp only [storagebarterlaw02_DigestPowers.l0]
      have hp := mul_lt (pw_lo m.toNat) (pw_hi m.toNat) (pw_lo n.toNat) (pw_hi n.toNat)
      have e : (m + n).toNat = m.toNat + n.toNat := by omega
      rw [if_neg (by omega), w64_id (n := pw m.toNat * pw n.toNat) (by omega) (by omega), tmod_em hp.1, e, if_pos (pw_add _ _).symm]
      rw [e1, w64_id (n := m + 2147483647) (by omega) (by omega), w64_id (by omega) (by omega), pow_some _ (by omega) k (by omega)]
      have e' : (m + 2147483647 - 1).toNat = m.toNat + 2147483646 := by omega
      rw [e', pow_next]
      simp
    | succ d ih =>
      intro hd
      rw [← Nat.add_assoc k d 1]
      rw [storagebarterlaw02_DigestPowers.l0]
      have hin : l[i]'(by omega) ∈ l := List.getElem_mem _
      have hr : rd l (i : Int) = l[i]'(by omega) := by
        unfold rd
        rw [Int.toNat_natCast, List.getD_eq_getElem?_getD, List.getElem?_eq_getElem (by omega)]
        rfl
      have hb := hl _ hin
      have hP : P = 2147483647 := rfl
      rw [if_pos (by omega), if_pos (by omega), if_pos (by omega), hr, if_neg (by omega), if_neg (by omega), w64_id (by omega) (by omega)]
      exact ih (i + 1) (by omega) (by omega)
  have fin := key (s.size + 64) (by omega) [pw m.toNat, pw n.toNat, pw (m + n).toNat, dsum (bs s) 1, (a % P * pw n.toNat + b % P - pw n.toNat) % P, dat (bs s) x] 0 ?_ (by simp) (by simp) 6 rfl
  · exact fin
  · intro y hy
    simp only [List.mem_cons, List.not_mem_nil, or_false] at hy
    rcases hy with rfl | rfl | rfl | rfl | rfl | rfl
    · exact ⟨pw_lo _, pw_hi _⟩
    · exact ⟨pw_lo _, pw_hi _⟩
    · exact ⟨pw_lo _, pw_hi _⟩
    · exact ⟨dsum_lo _ _ (by decide), dsum_hi _ _ (by decide)⟩
    · exact ⟨em_lo _, em_hi _⟩
    · exact ⟨dat_lo _ _, dat_hi _ _⟩
end Go.Proofs.Ytkndnbliohkhhaa.Pure
