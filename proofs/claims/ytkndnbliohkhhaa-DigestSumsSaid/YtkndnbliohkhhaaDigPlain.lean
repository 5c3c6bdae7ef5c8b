/- Plain arithmetic for the digests: the prime 2^31 - 1, powers modulo it, and the two polynomials of a text. No program in sight. -/
set_option linter.unusedVariables false
namespace Go.Proofs.Ytkndnbliohkhhaa.Dig

/-- The prime of the digests. -/
def P : Int := 2147483647
def noDiv (lo : Nat) : Nat → Bool
  | 0 => 2147483647 % lo != 0
  | n + 1 => noDiv lo n && noDiv (lo + 2 ^ n) n
theorem em_lo (a : Int) : 0 ≤ a % P := Int.emod_nonneg _ (by decide)
theorem em_hi (a : Int) : a % P < P := Int.emod_lt_of_pos _ (by decide)
theorem em_id {a : Int} (h0 : 0 ≤ a) (h1 : a < P) : a % P = a := Int.emod_eq_of_lt h0 h1
/-- Equal modulo the prime. -/
def Cg (a b : Int) : Prop := a % P = b % P
theorem Cg.rfl {a : Int} : Cg a a := Eq.refl _
theorem Cg.of_eq {a b : Int} (h : a = b) : Cg a b := h ▸ Cg.rfl
theorem Cg.symm {a b : Int} (h : Cg a b) : Cg b a := Eq.symm h
theorem Cg.trans {a b c : Int} (h : Cg a b) (k : Cg b c) : Cg a c := Eq.trans h k
theorem Cg.em (a : Int) : Cg (a % P) a := Int.emod_emod_of_dvd a (Int.dvd_refl P)
theorem Cg.add {a b c d : Int} (h : Cg a b) (k : Cg c d) : Cg (a + c) (b + d) := by
  unfold Cg at *
  rw [Int.add_emod, h, k, ← Int.add_emod]
theorem Cg.mul {a b c d : Int} (h : Cg a b) (k : Cg c d) : Cg (a * c) (b * d) := by
  unfold Cg at *
  rw [Int.mul_emod, h, k, ← Int.mul_emod]
theorem Cg.sub {a b c d : Int} (h : Cg a b) (k : Cg c d) : Cg (a - c) (b - d) := by
  unfold Cg at *
  rw [Int.sub_emod, h, k, ← Int.sub_emod]
theorem Cg.pow {a b : Int} (h : Cg a b) : ∀ n : Nat, Cg (a ^ n) (b ^ n)
  | 0 => Cg.of_eq (by simp)
  | n + 1 => by rw [Int.pow_succ, Int.pow_succ]; exact (Cg.pow h n).mul h
theorem Cg.eq {a b : Int} (h : Cg a b) (a0 : 0 ≤ a) (a1 : a < P) (b0 : 0 ≤ b) (b1 : b < P) : a = b := by
  unfold Cg at h
  rwa [em_id a0 a1, em_id b0 b1] at h
/-- The base to a power, modulo the prime. -/
def pw (n : Nat) : Int := (1000003 : Int) ^ n % P
theorem pw_lo (n : Nat) : 0 ≤ pw n := em_lo _
theorem pw_hi (n : Nat) : pw n < P := em_hi _
theorem pw_zero : pw 0 = 1 := by decide
/-- Powers by squaring, to check one number. -/
def sq : Nat → Int → Int
  | 0, x => x
  | n + 1, x => sq n (x * x % P)
def dsum : List UInt8 → Int → Int
  | [], d => d
  | b :: l, d => dsum l ((d * 1000003 + (b.toNat : Int) + 1) % P)
def dpl : List UInt8 → Int → Int
  | [], d => d
  | b :: l, d => dpl l (d * 1000003 + (b.toNat : Int) + 1)
def dat : List UInt8 → Int → Int
  | [], _ => 0
  | b :: l, x => (dat l x * x + (b.toNat : Int) + 1) % P
def datp : List UInt8 → Int → Int
  | [], _ => 0
  | b :: l, x => datp l x * x + (b.toNat : Int) + 1
theorem dat_lo : ∀ (l : List UInt8) (x : Int), 0 ≤ dat l x
  | [], _ => by simp [dat]
  | b :: l, x => em_lo _
theorem dat_hi : ∀ (l : List UInt8) (x : Int), dat l x < P
  | [], _ => by simp [dat, P]
  | b :: l, x => em_hi _
theorem dat_cg : ∀ (l : List UInt8) (x y : Int), Cg x y → Cg (dat l x) (datp l y)
  | [], _, _, _ => Cg.rfl
  | b :: l, x, y, h => (Cg.em _).trans ((((dat_cg l x y h).mul h).add Cg.rfl).add Cg.rfl)
theorem dat_point (l : List UInt8) (x y : Int) (h : Cg x y) : dat l x = dat l y :=
  Cg.eq ((dat_cg l x y h).trans (dat_cg l y y Cg.rfl).symm) (dat_lo _ _) (dat_hi _ _) (dat_lo _ _) (dat_hi _ _)

end Go.Proofs.Ytkndnbliohkhhaa.Dig
