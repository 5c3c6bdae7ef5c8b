/- What the printed digest functions return: sums, values and powers, as the plain functions say. -/
import Derived.Test.YtkndnbliohkhhaaPAx24
import Derived.Test.YtkndnbliohkhhaaDigPlain
set_option linter.unusedVariables false
namespace Go.Proofs.Ytkndnbliohkhhaa.PA
open Go.RowKit Go.Proofs.YtkndnbliohkhhaaW.PrintWords Go.Proofs.YtkndnbliohkhhaaW.PrintLast Go.Proofs.Ytkndnbliohkhhaa.Dig

theorem w64_id {n : Int} (h0 : -9223372036854775808 ≤ n) (h1 : n ≤ 9223372036854775807) : wrap64 n = n := by
  unfold wrap64
  omega
theorem tmod_em {n : Int} (h0 : 0 ≤ n) : Int.tmod n 2147483647 = n % P := Int.tmod_eq_emod_of_nonneg h0
theorem mul_lt {a b : Int} (a0 : 0 ≤ a) (a1 : a < P) (b0 : 0 ≤ b) (b1 : b < P) : 0 ≤ a * b ∧ a * b ≤ 4611686009837453316 := by
  refine ⟨Int.mul_nonneg a0 b0, ?_⟩
  have h := Int.mul_le_mul (a := a) (b := b) (c := 2147483646) (d := 2147483646) (by unfold P at a1; omega) (by unfold P at b1; omega) b0 (by decide)
  exact Int.le_trans h (by decide)
/-- The bytes of a text. -/
abbrev bs (s : ByteArray) : List UInt8 := s.data.toList
theorem bs_length (s : ByteArray) : (bs s).length = s.size := rfl
theorem bs_drop (s : ByteArray) (i : Nat) (h : i < s.size) : ∃ b : UInt8, bt s (i : Int) = (b.toNat : Int) ∧ (bs s)[i]'h = b ∧ (bs s).drop i = b :: (bs s).drop (i + 1) := by
  refine ⟨(bs s)[i]'h, ?_, rfl, List.drop_eq_getElem_cons h⟩
  unfold bt
  rw [dif_pos (by simpa using h)]
  rfl

theorem sum_loop (s : ByteArray) (hs : s.size ≤ 562949953405408) : ∀ (n i k : Nat) (d : Int), 0 ≤ d → d < P → i + n = s.size → n < k →
    digest_Sum.l0 k s d (s.size : Int) (i : Int) = some (dsum ((bs s).drop i) d)
  | 0, i, k, d, d0, d1, hi, hk => by
    obtain ⟨k, rfl⟩ : ∃ m, k = m + 1 := ⟨k - 1, by omega⟩
    simp only [digest_Sum.l0]
    rw [if_neg (by omega), List.drop_eq_nil_of_le (by rw [bs_length]; omega)]
    rfl
  | n + 1, i, k, d, d0, d1, hi, hk => by
    obtain ⟨k, rfl⟩ : ∃ m, k = m + 1 := ⟨k - 1, by omega⟩
    obtain ⟨b, hb, _, hd⟩ := bs_drop s i (by omega)
    have hb' := b.toNat_lt
    simp only [digest_Sum.l0]
    rw [if_pos (by omega), if_pos (by omega), if_pos (by omega), hb]
    have h1 : 0 ≤ d * 1000003 ∧ d * 1000003 ≤ 2147483646 * 1000003 := by unfold P at d1; omega
    rw [w64_id (n := d * 1000003) (by omega) (by omega), w64_id (n := (b.toNat : Int)) (by omega) (by omega), w64_id (n := d * 1000003 + (b.toNat : Int)) (by omega) (by omega),
      w64_id (n := d * 1000003 + (b.toNat : Int) + 1) (by omega) (by omega), tmod_em (by omega), w64_id (n := (i : Int) + 1) (by omega) (by omega)]
    have := sum_loop s hs n (i + 1) k _ (em_lo (d * 1000003 + (b.toNat : Int) + 1)) (em_hi _) (by omega) (by omega)
    rw [hd, dsum]
    exact this
theorem sum_some (s : ByteArray) (hs : s.size ≤ 562949953405408) (k : Nat) (hk : s.size < k) : digest_Sum.f k s = some (dsum (bs s) 1) := by
  have := sum_loop s hs s.size 0 k 1 (by decide) (by decide) (by omega) hk
  simpa [digest_Sum.f] using this

theorem mod_some (a : Int) : digest_mod.f a = some (a % P) := by
  unfold digest_mod.f
  have h := Int.tmod_eq_emod (a := a) (b := 2147483647)
  have h1 : a % P = a % 2147483647 := rfl
  have h2 : a % 2147483647 < 2147483647 := Int.emod_lt_of_pos _ (by decide)
  have h3 : 0 ≤ a % 2147483647 := Int.emod_nonneg _ (by decide)
  have h4 : ((2147483647 : Int).natAbs : Int) = 2147483647 := rfl
  rw [h1]
  split at h
  · rw [if_neg (by omega)]
    congr 1
    omega
  · rename_i hc
    have hd : a % 2147483647 ≠ 0 := fun e => hc (.inr (Int.dvd_of_emod_eq_zero e))
    rw [h4] at h
    rw [if_pos (by omega)]
    congr 1
    rw [h]
    unfold wrap64
    omega

theorem at_loop (s : ByteArray) (hs : s.size ≤ 562949953405408) (x : Int) (x0 : 0 ≤ x) (x1 : x < P) : ∀ (n k : Nat), n ≤ s.size → n < k →
    digest_At.l0 k s x (dat ((bs s).drop n) x) ((n : Int) - 1) = some (dat (bs s) x)
  | 0, k, hn, hk => by
    obtain ⟨k, rfl⟩ : ∃ m, k = m + 1 := ⟨k - 1, by omega⟩
    simp only [digest_At.l0]
    rw [if_neg (by omega)]
    rfl
  | n + 1, k, hn, hk => by
    obtain ⟨k, rfl⟩ : ∃ m, k = m + 1 := ⟨k - 1, by omega⟩
    obtain ⟨b, hb, _, hd⟩ := bs_drop s n (by omega)
    have hb' := b.toNat_lt
    have e : ((n + 1 : Nat) : Int) - 1 = (n : Int) := by omega
    have h1 := mul_lt (dat_lo ((bs s).drop (n + 1)) x) (dat_hi _ _) x0 x1
    rw [e]
    simp only [digest_At.l0]
    rw [if_pos (by omega), if_pos (by omega), if_pos (by omega), hb]
    have := at_loop s hs x x0 x1 n k (by omega) (by omega)
    rw [hd, dat] at this
    rw [w64_id (n := dat ((bs s).drop (n + 1)) x * x) (by omega) (by omega), w64_id (n := (b.toNat : Int)) (by omega) (by omega), w64_id (n := dat ((bs s).drop (n + 1)) x * x + (b.toNat : Int)) (by omega) (by omega),
      w64_id (n := dat ((bs s).drop (n + 1)) x * x + (b.toNat : Int) + 1) (by omega) (by omega), tmod_em (by omega), w64_id (n := (n : Int) - 1) (by omega) (by omega)]
    exact this
theorem at_some (s : ByteArray) (hs : s.size ≤ 562949953405408) (x : Int) (k : Nat) (hk : s.size < k) : digest_At.f k s x = some (dat (bs s) x) := by
  have h := at_loop s hs (x % P) (em_lo x) (em_hi x) s.size k (Nat.le_refl _) hk
  rw [List.drop_eq_nil_of_le (by rw [bs_length]; omega), dat_point (bs s) (x % P) x (Cg.em x)] at h
  simp only [digest_At.f, mod_some, Option.bind_some]
  rw [w64_id (by omega) (by omega)]
  exact h

theorem and1 (x : Int) (h0 : 0 ≤ x) (h1 : x ≤ 9223372036854775807) : Go.bits .and .i64 x 1 = x % 2 := by
  have := bits_mask .i64 63 (by decide) (fun n a b => by rw [IntKind.wrap_i64]; omega) 1 (by decide) x h0 (by omega)
  simpa using this
theorem pow_loop : ∀ (k : Nat) (x p q : Int), 0 ≤ x → x < 2 ^ k → x ≤ 9223372036854775807 → 0 ≤ p → p < P → 0 ≤ q → q < P →
    digest_Power.l0 (k + 1) x p q = some (p * q ^ x.toNat % P)
  | 0, x, p, q, x0, x1, x2, p0, p1, q0, q1 => by
    have : x = 0 := by
      have : (2 : Int) ^ 0 = 1 := rfl
      omega
    subst this
    simp only [digest_Power.l0]
    rw [if_neg (by omega)]
    simp [em_id p0 p1]
  | k + 1, x, p, q, x0, x1, x2, p0, p1, q0, q1 => by
    by_cases hx : x > 0
    · have hq := mul_lt q0 q1 q0 q1
      have hp := mul_lt p0 p1 q0 q1
      have hx1 : x / 2 < 2 ^ k := by
        have : (2 : Int) ^ (k + 1) = 2 ^ k * 2 := Int.pow_succ _ _
        omega
      have ih := fun (p' : Int) (a : 0 ≤ p') (b : p' < P) => pow_loop k (x / 2) p' (q * q % P) (by omega) hx1 (by omega) a b (em_lo _) (em_hi _)
      have hpow : ∀ p' : Int, Cg (p' * (q * q % P) ^ (x / 2).toNat) (p' * (q * q) ^ (x / 2).toNat) := fun p' => Cg.rfl.mul ((Cg.em _).pow _)
      have hqq : (q * q) ^ (x / 2).toNat = q ^ (2 * (x / 2).toNat) := by
        rw [Int.mul_pow, ← Int.pow_add]
        congr 1
        omega
      rw [digest_Power.l0]
      rw [if_pos hx, and1 x x0 x2, w64_id (n := q * q) (by omega) (by omega), w64_id (n := p * q) (by omega) (by omega), tmod_em hq.1, tmod_em hp.1]
      by_cases ho : x % 2 = 1
      · rw [if_pos ho, ih _ (em_lo _) (em_hi _)]
        congr 1
        have e : x.toNat = 2 * (x / 2).toNat + 1 := by omega
        refine (hpow _).trans ?_
        rw [hqq]
        refine ((Cg.em (p * q)).mul Cg.rfl).trans (Cg.of_eq ?_)
        rw [e, Int.pow_succ, Int.mul_assoc, Int.mul_comm q]
      · rw [if_neg ho, ih _ p0 p1]
        congr 1
        have e : x.toNat = 2 * (x / 2).toNat := by omega
        refine (hpow _).trans ?_
        rw [hqq, e]
        exact Cg.rfl
    · have : x = 0 := by omega
      subst this
      rw [digest_Power.l0]
      rw [if_neg (by omega)]
      simp [em_id p0 p1]
theorem pow_some (n : Int) (h : n ≤ 9223372036854775807) (k : Nat) (hk : 64 ≤ k) : digest_Power.f k n = some (pw n.toNat) := by
  unfold digest_Power.f
  obtain ⟨k, rfl⟩ : ∃ m, k = m + 1 := ⟨k - 1, by omega⟩
  by_cases h0 : 0 ≤ n
  · have : n < 2 ^ k := by
      refine Int.lt_of_lt_of_le (b := 2 ^ 63) (by omega) ?_
      exact_mod_cast Nat.pow_le_pow_right (by decide : 0 < 2) (by omega : 63 ≤ k)
    rw [pow_loop k n 1 1000003 h0 this h (by decide) (by decide) (by decide) (by decide), Int.one_mul]
    rfl
  · simp only [digest_Power.l0]
    rw [if_neg (by omega)]
    have : n.toNat = 0 := by omega
    rw [this, pw_zero]
theorem sane_some (k : Nat) (hk : 64 ≤ k) : storagebarterlaw02_sane.f k = some true := by
  unfold storagebarterlaw02_sane.f
  rw [sum_some _ (by decide) k (by show (0 : Nat) < k; omega), sum_some _ (by decide) k (by show (1 : Nat) < k; omega), pow_some 0 (by decide) k hk, at_some _ (by decide) 5 k (by show (1 : Nat) < k; omega)]
  simp only [Option.bind_some]
  rw [if_pos (by decide), if_pos (by decide), if_pos (by decide)]
  decide
theorem join_some (a b n : Int) (h : n ≤ 9223372036854775807) (k : Nat) (hk : 64 ≤ k) :
    digest_Join.f k a b n = some ((a % P * pw n.toNat + b % P - pw n.toNat) % P) := by
  have h1 := mul_lt (em_lo a) (em_hi a) (pw_lo n.toNat) (pw_hi n.toNat)
  have h2 := em_lo b
  have h3 : b % P < 2147483647 := em_hi b
  have h4 := pw_lo n.toNat
  have h5 : pw n.toNat < 2147483647 := pw_hi n.toNat
  have h6 := em_lo (a % P * pw n.toNat)
  have h7 : a % P * pw n.toNat % P < 2147483647 := em_hi (a % P * pw n.toNat)
  simp only [digest_Join.f, pow_some n h k hk, mod_some, Option.bind_some]
  rw [w64_id (n := a % P * pw n.toNat) (by omega) (by omega), tmod_em h1.1, w64_id (n := a % P * pw n.toNat % P + b % P) (by omega) (by omega), w64_id (by omega) (by omega)]
  exact congrArg some (((Cg.em _).add Cg.rfl).sub Cg.rfl)
end Go.Proofs.Ytkndnbliohkhhaa.PA
