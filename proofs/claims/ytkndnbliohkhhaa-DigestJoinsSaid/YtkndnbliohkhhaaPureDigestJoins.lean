/- The digest of two texts, one behind the other, follows from their digests and the length of the second one: the plain statement that is left of the law DigestJoins. -/
import Derived.Test.YtkndnbliohkhhaaEvDigestJoins
set_option linter.unusedVariables false
namespace Go.Proofs.Ytkndnbliohkhhaa.Pure
open Go.RowKit Go.Proofs.Ytkndnbliohkhhaa.PDigestJoins Go.Proofs.YtkndnbliohkhhaaW.PrintWords Go.Proofs.YtkndnbliohkhhaaW.PrintLast Go.Proofs.Ytkndnbliohkhhaa.Dig
theorem DigestJoins : storagebarterlaw02_DigestJoins.Pure := by
  intro s t u hs ht hu
  have b1 : (s ++ t).size = s.size + t.size := ByteArray.size_append
  have b2 : (s ++ t ++ u).size = s.size + t.size + u.size := by rw [ByteArray.size_append, b1]
  obtain ⟨k, hk0⟩ : ∃ k, s.size + t.size + u.size + 64 ≤ k := ⟨_, Nat.le_refl _⟩
  refine ⟨k, ?_⟩
  unfold storagebarterlaw02_DigestJoins.f
  have hk : 64 ≤ k := by omega
  rw [sane_some _ hk, sum_some s (by omega) _ (by omega), sum_some t (by omega) _ (by omega), sum_some u (by omega) _ (by omega), sum_some (s ++ t) (by omega) _ (by omega), sum_some (s ++ t ++ u) (by omega) _ (by omega)]
  have l1 : ((t.size : Nat) : Int) = (bs t).length := rfl
  have l2 : ((u.size : Nat) : Int) = (bs u).length := rfl
  have j1 := join_two (bs s) (bs t) (t.size : Int) l1 (by omega) _ hk
  have j2 := join_two (bs s ++ bs t) (bs u) (u.size : Int) l2 (by omega) _ hk
  have j3 := join_two (bs t) (bs u) (u.size : Int) l2 (by omega) _ hk
  have j4 := join_two (bs s) (bs t ++ bs u) ((t.size : Int) + (u.size : Int)) (by rw [List.length_append]; omega) (by omega) _ hk
  have j5 := join_two (bs s) [] 0 rfl (by decide) _ hk
  simp only [Option.bind_some, if_true, bs_append]
  rw [if_pos (by omega), if_pos (by omega), j1]
  simp only [Option.bind_some]
  rw [if_pos (by trivial), j2]
  simp only [Option.bind_some]
  rw [if_pos (by trivial), j3]
  simp only [Option.bind_some]
  rw [w64_id (by omega) (by omega), j4]
  simp only [Option.bind_some]
  rw [if_pos (by rw [List.append_assoc])]
  have e1 : dsum [] 1 = 1 := rfl
  rw [e1] at j5
  rw [j5]
  simp
end Go.Proofs.Ytkndnbliohkhhaa.Pure
