/- A value depends on the point modulo the prime alone, and two texts, one behind the other, add up with the power of the point: the plain statement that is left of the law DigestPoints. -/
import Derived.Test.YtkndnbliohkhhaaEvDigestPoints
set_option linter.unusedVariables false
namespace Go.Proofs.Ytkndnbliohkhhaa.Pure
open Go.RowKit Go.Proofs.Ytkndnbliohkhhaa.PDigestPoints Go.Proofs.YtkndnbliohkhhaaW.PrintWords Go.Proofs.YtkndnbliohkhhaaW.PrintLast Go.Proofs.Ytkndnbliohkhhaa.Dig
theorem Mod_some (a : Int) : storagebartermake_Mod.f a 2147483647 = some (a % P) := by
  unfold storagebartermake_Mod.f
  rw [if_neg (by decide)]
  have h := Int.tmod_eq_emod (a := a) (b := 2147483647)
  have h1 : a % P = a % 2147483647 := rfl
  have h2 : a % 2147483647 < 2147483647 := Int.emod_lt_of_pos _ (by decide)
  have h3 : 0 ≤ a % 2147483647 := Int.emod_nonneg _ (by decide)
  have h4 : ((2147483647 : Int).natAbs : Int) = 2147483647 := rfl
  rw [h1]
  congr 1
  split at h
  · rw [w64_id (by omega) (by omega), tmod_em (by omega), h, ← h1]
    have := Cg.addP (a % P)
    show (a % P - 0 + P) % P = a % P
    rw [Int.sub_zero]
    exact this.trans (Cg.em a)
  · rw [h4] at h
    rw [w64_id (by omega) (by omega), tmod_em (by omega), h]
    have e : a % 2147483647 - 2147483647 + 2147483647 = a % P := by rw [← h1]; omega
    rw [e]
    exact Cg.em a
theorem points_end (s t : ByteArray) (x p : Int) (hs : s.size ≤ 140737488351232) (ht : t.size ≤ 140737488351232) (hp : p = (x % P) ^ s.size % P) (k : Nat) (hk : s.size + t.size < k) :
    storagebarterlaw02_DigestPoints.l0 (k + 1) s t x (x % P) p (s.size : Int) (s.size : Int) = some true := by
  have b1 : (s ++ t).size = s.size + t.size := ByteArray.size_append
  have y1 : x % P < 2147483647 := em_hi x
  have y0 := em_lo x
  have a0 := dat_lo (bs s) (x % P)
  have a1 : dat (bs s) (x % P) < 2147483647 := dat_hi (bs s) (x % P)
  have hpt := mul_lt (a := p) (b := dat (bs t) (x % P)) (by rw [hp]; exact em_lo _) (by rw [hp]; exact em_hi _) (dat_lo _ _) (dat_hi _ _)
  rw [storagebarterlaw02_DigestPoints.l0]
  rw [if_neg (by omega), if_pos (by omega), at_some (s ++ t) (by omega) (x % P) k (by omega), at_some s (by omega) (x % P) k (by omega), at_some t (by omega) (x % P) k (by omega), at_some s (by omega) x k (by omega)]
  simp only [Option.bind_some]
  rw [w64_id (n := p * dat (bs t) (x % P)) (by omega) (by omega), w64_id (n := dat (bs s) (x % P) + p * dat (bs t) (x % P)) (by omega) (by omega), tmod_em (by omega)]
  have key : dat (bs (s ++ t)) (x % P) = (dat (bs s) (x % P) + p * dat (bs t) (x % P)) % P := by
    rw [bs_append]
    refine Cg.eq ?_ (dat_lo _ _) (dat_hi _ _) (em_lo _) (em_hi _)
    refine (dat_append _ _ _).trans (Cg.trans ?_ (Cg.em _).symm)
    refine Cg.rfl.add (Cg.mul ?_ Cg.rfl)
    rw [hp]
    exact (Cg.em _).symm
  rw [if_pos key, w64_id (n := x % P - 2147483647) (by omega) (by omega), at_some s (by omega) (x % P - 2147483647) k (by omega)]
  simp only [Option.bind_some]
  have e1 : dat (bs s) (x % P - 2147483647) = dat (bs s) (x % P) := dat_point _ _ _ (Cg.subP _)
  have e2 : dat (bs s) x = dat (bs s) (x % P) := dat_point _ _ _ (Cg.em x).symm
  rw [if_pos e1.symm, e2]
  simp
theorem points_loop (s t : ByteArray) (x : Int) (hs : s.size ≤ 140737488351232) (ht : t.size ≤ 140737488351232) (k : Nat) (hk : s.size + t.size < k) : ∀ (d i : Nat) (p : Int), i + d = s.size → p = (x % P) ^ i % P →
    storagebarterlaw02_DigestPoints.l0 (k + d + 1) s t x (x % P) p (s.size : Int) (i : Int) = some true
  | 0, i, p, hi, hp => by
    obtain rfl : i = s.size := by omega
    exact points_end s t x p hs ht hp k hk
  | d + 1, i, p, hi, hp => by
    have hpy := mul_lt (a := p) (b := x % P) (by rw [hp]; exact em_lo _) (by rw [hp]; exact em_hi _) (em_lo _) (em_hi _)
    rw [← Nat.add_assoc k d 1, storagebarterlaw02_DigestPoints.l0]
    rw [if_pos (by omega), w64_id (n := p * (x % P)) (by omega) (by omega), tmod_em hpy.1, w64_id (n := (i : Int) + 1) (by omega) (by omega)]
    refine points_loop s t x hs ht k hk d (i + 1) _ (by omega) ?_
    rw [hp, Int.pow_succ]
    exact (Cg.em _).mul Cg.rfl
theorem DigestPoints : storagebarterlaw02_DigestPoints.Pure := by
  intro s t x hs ht hx
  obtain ⟨k, hk0⟩ : ∃ k, s.size + t.size + 64 ≤ k := ⟨_, Nat.le_refl _⟩
  refine ⟨k + s.size + 1, ?_⟩
  have hk : 64 ≤ k + s.size + 1 := by omega
  unfold storagebarterlaw02_DigestPoints.f
  rw [sane_some _ hk]
  simp only [Option.bind_some, if_true]
  by_cases h : (s.size : Int) > 3000
  · rw [if_pos h]
  · rw [if_neg h, Mod_some]
    simp only [Option.bind_some]
    exact points_loop s t x hs ht k (by omega) s.size 0 1 (by omega) (by simp [P])
end Go.Proofs.Ytkndnbliohkhhaa.Pure
