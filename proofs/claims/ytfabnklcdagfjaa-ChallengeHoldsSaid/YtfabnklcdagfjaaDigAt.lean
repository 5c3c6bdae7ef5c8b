/- What the printed digest functions return: sums, values and powers, as the plain functions say. -/
import Derived.Test.YtfabnklcdagfjaaPAx3
import Derived.Test.YtfabnklcdagfjaaPAx7
import Derived.Test.YtfabnklcdagfjaaPAx8
import Derived.Test.YtfabnklcdagfjaaDigPlain
set_option linter.unusedVariables false
namespace Go.Proofs.Ytfabnklcdagfjaa.PA
open Go.RowKit Go.Proofs.YtfabnklcdagfjaaW.PrintWords Go.Proofs.YtfabnklcdagfjaaW.PrintLast Go.Proofs.Ytfabnklcdagfjaa.Dig

theorem w64_id {n : Int} (h0 : -9223372036854775808 ≤ n) (h1 : n ≤ 9223372036854775807) : wrap64 n = n := by
  unfold wrap64
  omega
theorem tmod_em {n : Int} (h0 : 0 ≤ n) : Int.tmod n 2147483647 = n % P := Int.tmod_eq_emod_of_nonneg h0
theorem mul_lt {a b : Int} (a0 : 0 ≤ a) (a1 : a < P) (b0 : 0 ≤ b) (b1 : b < P) : 0 ≤ a * b ∧ a * b ≤ 4611686009837453316 := by
  refine ⟨Int.mul_nonneg a0 b0, ?_⟩
  have h := Int.mul_le_mul (a := a) (b := b) (c := 2147483646) (d := 2147483646) (by unfold P at a1; omega) (by unfold P at b1; omega) b0 (by decide)
  exact Int.le_trans h (by decide)
/-- The bytes of a text. -/
abbrev bs (s : ByteArray) : List UInt8 := s.data.toList
theorem bs_length (s : ByteArray) : (bs s).length = s.size := rfl
theorem bs_drop (s : ByteArray) (i : Nat) (h : i < s.size) : ∃ b : UInt8, bt s (i : Int) = (b.toNat : Int) ∧ (bs s)[i]'h = b ∧ (bs s).drop i = b :: (bs s).drop (i + 1) := by
  refine ⟨(bs s)[i]'h, ?_, rfl, List.drop_eq_getElem_cons h⟩
  unfold bt
  rw [dif_pos (by simpa using h)]
  rfl

theorem sum_loop (s : ByteArray) (hs : s.size ≤ 562949953405408) : ∀ (n i k : Nat) (d : Int), 0 ≤ d → d < P → i + n = s.size → n < k →
    digest_Sum.l0 k s d (s.size : Int) (i : Int) = some (dsum ((bs s).drop i) d)
  | 0, i, k, d, d0, d1, hi, hk => by
    obtain ⟨k, rfl⟩ : ∃ m, k = m + 1 := ⟨k - 1, by omega⟩
    simp only [digest_Sum.l0]
    rw [if_neg (by omega), List.drop_eq_nil_of_le (by rw [bs_length]; omega)]
    rfl
  | n + 1, i, k, d, d0, d1, hi, hk => by
    obtain ⟨k, rfl⟩ : ∃ m, k = m + 1 := ⟨k - 1, by omega⟩
    obtain ⟨b, hb, _, hd⟩ := bs_drop s i (by omega)
    have hb' := b.toNat_lt
    simp only [digest_Sum.l0]
    rw [if_pos (by omega), if_pos (by omega), if_pos (by omega), hb]
    have h1 : 0 ≤ d * 1000003 ∧ d * 1000003 ≤ 2147483646 * 1000003 := by unfold P at d1; omega
    rw [w64_id (n := d * 1000003) (by omega) (by omega), w64_id (n := (b.toNat : Int)) (by omega) (by omega), w64_id (n := d * 1000003 + (b.toNat : Int)) (by omega) (by omega),
      w64_id (n := d * 1000003 + (b.toNat : Int) + 1) (by omega) (by omega), tmod_em (by omega), w64_id (n := (i : Int) + 1) (by omega) (by omega)]
    have := sum_loop s hs n (i + 1) k _ (em_lo (d * 1000003 + (b.toNat : Int) + 1)) (em_hi _) (by omega) (by omega)
    rw [hd, dsum]
    exact this
theorem sum_some (s : ByteArray) (hs : s.size ≤ 562949953405408) (k : Nat) (hk : s.size < k) : digest_Sum.f k s = some (dsum (bs s) 1) := by
  have := sum_loop s hs s.size 0 k 1 (by decide) (by decide) (by omega) hk
  simpa [digest_Sum.f] using this

theorem mod_some (a : Int) : digest_mod.f a = some (a % P) := by
  unfold digest_mod.f
  have h := Int.tmod_eq_emod (a := a) (b := 2147483647)
  have h1 : a % P = a % 2147483647 := rfl
  have h2 : a % 2147483647 < 2147483647 := Int.emod_lt_of_pos _ (by decide)
  have h3 : 0 ≤ a % 2147483647 := Int.emod_nonneg _ (by decide)
  have h4 : ((2147483647 : Int).natAbs : Int) = 2147483647 := rfl
  rw [h1]
  split at h
  · rw [if_neg (by omega)]
    congr 1
    omega
  · rename_i hc
    have hd : a % 2147483647 ≠ 0 := fun e => hc (.inr (Int.dvd_of_emod_eq_zero e))
    rw [h4] at h
    rw [if_pos (by omega)]
    congr 1
    rw [h]
    unfold wrap64
    omega

theorem at_loop (s : ByteArray) (hs : s.size ≤ 562949953405408) (x : Int) (x0 : 0 ≤ x) (x1 : x < P) : ∀ (n k : Nat), n ≤ s.size → n < k →
    digest_At.l0 k s x (dat ((bs s).drop n) x) ((n : Int) - 1) = some (dat (bs s) x)
  | 0, k, hn, hk => by
    obtain ⟨k, rfl⟩ : ∃ m, k = m + 1 := ⟨k - 1, by omega⟩
    simp only [digest_At.l0]
    rw [if_neg (by omega)]
    rfl
  | n + 1, k, hn, hk => by
    obtain ⟨k, rfl⟩ : ∃ m, k = m + 1 := ⟨k - 1, by omega⟩
    obtain ⟨b, hb, _, hd⟩ := bs_drop s n (by omega)
    have hb' := b.toNat_lt
    have e : ((n + 1 : Nat) : Int) - 1 = (n : Int) := by omega
    have h1 := mul_lt (dat_lo ((bs s).drop (n + 1)) x) (dat_hi _ _) x0 x1
    rw [e]
    simp only [digest_At.l0]
    rw [if_pos (by omega), if_pos (by omega), if_pos (by omega), hb]
    have := at_loop s hs x x0 x1 n k (by omega) (by omega)
    rw [hd, dat] at this
    rw [w64_id (n := dat ((bs s).drop (n + 1)) x * x) (by omega) (by omega), w64_id (n := (b.toNat : Int)) (by omega) (by omega), w64_id (n := dat ((bs s).drop (n + 1)) x * x + (b.toNat : Int)) (by omega) (by omega),
      w64_id (n := dat ((bs s).drop (n + 1)) x * x + (b.toNat : Int) + 1) (by omega) (by omega), tmod_em (by omega), w64_id (n := (n : Int) - 1) (by omega) (by omega)]
    exact this
theorem at_some (s : ByteArray) (hs : s.size ≤ 562949953405408) (x : Int) (k : Nat) (hk : s.size < k) : digest_At.f k s x = some (dat (bs s) x) := by
  have h := at_loop s hs (x % P) (em_lo x) (em_hi x) s.size k (Nat.le_refl _) hk
  rw [List.drop_eq_nil_of_le (by rw [bs_length]; omega), dat_point (bs s) (x % P) x (Cg.em x)] at h
  simp only [digest_At.f, mod_some, Option.bind_some]
  rw [w64_id (by omega) (by omega)]
  exact h

end Go.Proofs.Ytfabnklcdagfjaa.PA
