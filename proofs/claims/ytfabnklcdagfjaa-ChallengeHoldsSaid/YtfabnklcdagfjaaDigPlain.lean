/- Plain arithmetic for the digests: the prime 2^31 - 1, powers modulo it, and the two polynomials of a text. No program in sight. -/
set_option linter.unusedVariables false
namespace Go.Proofs.Ytfabnklcdagfjaa.Dig

/-- The prime of the digests. -/
def P : Int := 2147483647
def noDiv (lo : Nat) : Nat → Bool
  | 0 => 2147483647 % lo != 0
  | n + 1 => noDiv lo n && noDiv (lo + 2 ^ n) n
theorem noDiv_at : ∀ (n lo d : Nat), noDiv lo n = true → lo ≤ d → d < lo + 2 ^ n → 2147483647 % d ≠ 0
  | 0, lo, d, h, h1, h2 => by
    have : d = lo := by have : 2 ^ 0 = 1 := rfl; omega
    subst this
    simpa [noDiv] using h
  | n + 1, lo, d, h, h1, h2 => by
    simp only [noDiv, Bool.and_eq_true] at h
    have e : 2 ^ (n + 1) = 2 ^ n + 2 ^ n := by rw [Nat.pow_succ]; omega
    by_cases hd : d < lo + 2 ^ n
    · exact noDiv_at n lo d h.1 h1 hd
    · exact noDiv_at n (lo + 2 ^ n) d h.2 (by omega) (by omega)
theorem noDiv_all : noDiv 2 16 = true := by decide +kernel
theorem only_div (g : Nat) (h : g ∣ 2147483647) : g = 1 ∨ g = 2147483647 := by
  obtain ⟨q, hq⟩ := h
  have small : ∀ d, d ∣ 2147483647 → d < 65538 → d ≤ 1 := by
    intro d hd h1
    by_cases h2 : 2 ≤ d
    · exact absurd (Nat.mod_eq_zero_of_dvd hd) (noDiv_at 16 2 d noDiv_all h2 (by omega))
    · omega
  by_cases hg : g < 65538
  · have := small g ⟨q, hq⟩ hg
    rcases Nat.lt_or_ge 0 g with h0 | h0
    · omega
    · have : g = 0 := by omega
      subst this
      omega
  · by_cases hq' : q < 65538
    · have := small q ⟨g, by rw [Nat.mul_comm]; exact hq⟩ hq'
      have h0 : q ≠ 0 := by intro e; subst e; omega
      have : q = 1 := by omega
      subst this
      omega
    · have : 65538 * 65538 ≤ g * q := Nat.mul_le_mul (by omega) (by omega)
      omega
theorem prime_nat (a b : Nat) (h : 2147483647 ∣ a * b) : 2147483647 ∣ a ∨ 2147483647 ∣ b := by
  rcases only_div (Nat.gcd 2147483647 a) (Nat.gcd_dvd_left _ _) with e | e
  · exact .inr (Nat.Coprime.dvd_of_dvd_mul_left e h)
  · left
    have := Nat.gcd_dvd_right 2147483647 a
    rwa [e] at this
theorem prime_int (a b : Int) (h : P ∣ a * b) : P ∣ a ∨ P ∣ b := by
  have h' : (2147483647 : Nat) ∣ a.natAbs * b.natAbs := by
    rw [← Int.natAbs_mul]
    exact Int.natAbs_dvd_natAbs.mpr h
  rcases prime_nat _ _ h' with e | e
  · exact .inl (Int.natAbs_dvd_natAbs.mp e)
  · exact .inr (Int.natAbs_dvd_natAbs.mp e)
theorem prime_pow (a : Int) : ∀ (n : Nat) (b : Int), P ∣ a ^ n * b → P ∣ a ∨ P ∣ b
  | 0, b, h => .inr (by simpa using h)
  | n + 1, b, h => by
    have e : a ^ (n + 1) * b = a * (a ^ n * b) := by rw [Int.pow_succ, Int.mul_comm (a ^ n) a, Int.mul_assoc]
    rw [e] at h
    rcases prime_int _ _ h with h | h
    · exact .inl h
    · exact prime_pow a n b h
theorem small_div (d : Int) (h : P ∣ d) (h1 : -P < d) (h2 : d < P) : d = 0 := by
  obtain ⟨q, rfl⟩ := h
  unfold P at *
  omega

theorem em_lo (a : Int) : 0 ≤ a % P := Int.emod_nonneg _ (by decide)
theorem em_hi (a : Int) : a % P < P := Int.emod_lt_of_pos _ (by decide)
theorem em_id {a : Int} (h0 : 0 ≤ a) (h1 : a < P) : a % P = a := Int.emod_eq_of_lt h0 h1
/-- Equal modulo the prime. -/
def Cg (a b : Int) : Prop := a % P = b % P
theorem Cg.rfl {a : Int} : Cg a a := Eq.refl _
theorem Cg.symm {a b : Int} (h : Cg a b) : Cg b a := Eq.symm h
theorem Cg.trans {a b c : Int} (h : Cg a b) (k : Cg b c) : Cg a c := Eq.trans h k
theorem Cg.em (a : Int) : Cg (a % P) a := Int.emod_emod_of_dvd a (Int.dvd_refl P)
theorem Cg.add {a b c d : Int} (h : Cg a b) (k : Cg c d) : Cg (a + c) (b + d) := by
  unfold Cg at *
  rw [Int.add_emod, h, k, ← Int.add_emod]
theorem Cg.mul {a b c d : Int} (h : Cg a b) (k : Cg c d) : Cg (a * c) (b * d) := by
  unfold Cg at *
  rw [Int.mul_emod, h, k, ← Int.mul_emod]
theorem Cg.eq {a b : Int} (h : Cg a b) (a0 : 0 ≤ a) (a1 : a < P) (b0 : 0 ≤ b) (b1 : b < P) : a = b := by
  unfold Cg at h
  rwa [em_id a0 a1, em_id b0 b1] at h
theorem Cg.dvd {a b : Int} : Cg a b ↔ P ∣ a - b := Int.emod_eq_emod_iff_emod_sub_eq_zero.trans (Int.dvd_iff_emod_eq_zero).symm
/-- The base to a power, modulo the prime. -/
def pw (n : Nat) : Int := (1000003 : Int) ^ n % P
/-- Powers by squaring, to check one number. -/
def sq : Nat → Int → Int
  | 0, x => x
  | n + 1, x => sq n (x * x % P)
def dsum : List UInt8 → Int → Int
  | [], d => d
  | b :: l, d => dsum l ((d * 1000003 + (b.toNat : Int) + 1) % P)
def dpl : List UInt8 → Int → Int
  | [], d => d
  | b :: l, d => dpl l (d * 1000003 + (b.toNat : Int) + 1)
theorem dsum_lo : ∀ (l : List UInt8) (d : Int), 0 ≤ d → 0 ≤ dsum l d
  | [], _, h => h
  | b :: l, d, _ => dsum_lo l _ (em_lo _)
theorem dsum_hi : ∀ (l : List UInt8) (d : Int), d < P → dsum l d < P
  | [], _, h => h
  | b :: l, d, _ => dsum_hi l _ (em_hi _)
theorem byte_cg {x y : UInt8} {k : Int} {n : Nat} (hk : ¬ P ∣ k) (h : P ∣ ((x.toNat : Int) - y.toNat) * k ^ n) : x = y := by
  rw [Int.mul_comm] at h
  rcases prime_pow k n _ h with h | h
  · exact absurd h hk
  · have hx := x.toNat_lt
    have hy := y.toNat_lt
    have := small_div _ h (by unfold P; omega) (by unfold P; omega)
    exact UInt8.toNat_inj.mp (by omega)
def dat : List UInt8 → Int → Int
  | [], _ => 0
  | b :: l, x => (dat l x * x + (b.toNat : Int) + 1) % P
def datp : List UInt8 → Int → Int
  | [], _ => 0
  | b :: l, x => datp l x * x + (b.toNat : Int) + 1
theorem dat_lo : ∀ (l : List UInt8) (x : Int), 0 ≤ dat l x
  | [], _ => by simp [dat]
  | b :: l, x => em_lo _
theorem dat_hi : ∀ (l : List UInt8) (x : Int), dat l x < P
  | [], _ => by simp [dat, P]
  | b :: l, x => em_hi _
theorem dat_cg : ∀ (l : List UInt8) (x y : Int), Cg x y → Cg (dat l x) (datp l y)
  | [], _, _, _ => Cg.rfl
  | b :: l, x, y, h => (Cg.em _).trans ((((dat_cg l x y h).mul h).add Cg.rfl).add Cg.rfl)
theorem datp_append : ∀ (l m : List UInt8) (x : Int), datp (l ++ m) x = datp l x + x ^ l.length * datp m x
  | [], m, x => by simp [datp]
  | b :: l, m, x => by
    rw [List.cons_append, datp, datp, datp_append l m x, List.length_cons, Int.pow_succ, Int.add_mul, Int.mul_assoc, Int.mul_comm (datp m x) x, Int.mul_assoc]
    omega
theorem datp_one (u v : List UInt8) (a b : UInt8) (x : Int) : datp (u ++ a :: v) x - datp (u ++ b :: v) x = ((a.toNat : Int) - b.toNat) * x ^ u.length := by
  rw [datp_append, datp_append, datp, datp]
  simp only [Int.mul_add, Int.sub_mul]
  rw [Int.mul_comm (x ^ u.length) (a.toNat : Int), Int.mul_comm (x ^ u.length) (b.toNat : Int)]
  omega
theorem dat_differs (u v : List UInt8) (a b : UInt8) (x : Int) (hx : ¬ P ∣ x) (h : dat (u ++ a :: v) x = dat (u ++ b :: v) x) : a = b := by
  have h1 := dat_cg (u ++ a :: v) x x Cg.rfl
  have h2 := dat_cg (u ++ b :: v) x x Cg.rfl
  rw [h] at h1
  have := Cg.dvd.mp (h1.symm.trans h2)
  rw [datp_one] at this
  exact byte_cg hx this
theorem dat_point (l : List UInt8) (x y : Int) (h : Cg x y) : dat l x = dat l y :=
  Cg.eq ((dat_cg l x y h).trans (dat_cg l y y Cg.rfl).symm) (dat_lo _ _) (dat_hi _ _) (dat_lo _ _) (dat_hi _ _)

end Go.Proofs.Ytfabnklcdagfjaa.Dig
