/- A polynomial of n coefficients with n roots that differ modulo the prime has no coefficient but multiples of it; two texts of equal length that agree at as many points as they have bytes are one. -/
import Derived.Test.YtfabnklcdagfjaaDigPlain
set_option linter.unusedVariables false
set_option linter.unusedSimpArgs false
namespace Go.Proofs.Ytfabnklcdagfjaa.Dig
def ev : List Int → Int → Int
  | [], _ => 0
  | a :: t, x => ev t x * x + a
theorem ev_cons (a : Int) (t : List Int) (x : Int) : ev (a :: t) x = ev t x * x + a := rfl
def quo (y : Int) : List Int → List Int
  | [] => []
  | [_] => []
  | _ :: b :: t => ev (b :: t) y :: quo y (b :: t)
theorem quo_len (y : Int) : ∀ c : List Int, (quo y c).length = c.length - 1
  | [] => rfl
  | [_] => rfl
  | _ :: b :: t => by rw [quo, List.length_cons, quo_len y (b :: t)]; simp
theorem quo_ev (y x : Int) : ∀ c : List Int, ev c x - ev c y = (x - y) * ev (quo y c) x
  | [] => by simp [ev, quo]
  | [a] => by simp [ev, quo]
  | a :: b :: t => by
    have ih := quo_ev y x (b :: t)
    rw [quo, ev_cons a (b :: t), ev_cons a (b :: t), ev_cons (ev (b :: t) y)]
    have e : ev (b :: t) x = ev (b :: t) y + (x - y) * ev (quo y (b :: t)) x := by omega
    rw [e]
    generalize ev (b :: t) y = u
    generalize ev (quo y (b :: t)) x = v
    simp only [Int.add_mul, Int.mul_add, Int.sub_mul, Int.mul_sub, Int.mul_assoc, Int.mul_comm v x, Int.mul_comm v y, Int.mul_comm u x, Int.mul_comm u y]
    rw [Int.mul_left_comm y x v]
    omega
theorem quo_dvd (y : Int) : ∀ c : List Int, P ∣ ev c y → (∀ z ∈ quo y c, P ∣ z) → ∀ z ∈ c, P ∣ z
  | [], _, _ => fun z hz => by cases hz
  | [a], h, _ => fun z hz => by
    rw [List.mem_singleton.mp hz]
    simpa [ev] using h
  | a :: b :: t, h, hq => fun z hz => by
    rw [quo] at hq
    have h1 := hq _ (List.mem_cons_self ..)
    have ih := quo_dvd y (b :: t) h1 (fun z hz => hq z (List.mem_cons_of_mem _ hz))
    rcases List.mem_cons.mp hz with rfl | hz
    · rw [ev] at h
      have := Int.dvd_sub h (show P ∣ ev (b :: t) y * y from Int.dvd_trans h1 (Int.dvd_mul_right _ _))
      rwa [show ev (b :: t) y * y + z - ev (b :: t) y * y = z by omega] at this
    · exact ih z hz
theorem roots : ∀ (xs c : List Int), c.length ≤ xs.length → xs.Pairwise (fun x y => ¬ P ∣ y - x) → (∀ x ∈ xs, P ∣ ev c x) → ∀ z ∈ c, P ∣ z
  | [], c, hl, _, _ => fun z hz => by
    have : c = [] := List.eq_nil_of_length_eq_zero (by simpa using hl)
    rw [this] at hz
    cases hz
  | y :: xs, c, hl, hp, hr => by
    refine quo_dvd y c (hr y (List.mem_cons_self ..)) (roots xs (quo y c) (by rw [quo_len]; simp at hl; omega) (List.pairwise_cons.mp hp).2 ?_)
    intro x hx
    have h1 := Int.dvd_sub (hr x (List.mem_cons_of_mem _ hx)) (hr y (List.mem_cons_self ..))
    rw [quo_ev] at h1
    rcases prime_int _ _ h1 with h | h
    · exact absurd h ((List.pairwise_cons.mp hp).1 x hx)
    · exact h
def difs : List UInt8 → List UInt8 → List Int
  | a :: l, b :: m => ((a.toNat : Int) - b.toNat) :: difs l m
  | _, _ => []
theorem difs_len : ∀ l m : List UInt8, (difs l m).length ≤ l.length
  | [], m => by simp [difs]
  | a :: l, [] => by simp [difs]
  | a :: l, b :: m => by simp [difs]; exact difs_len l m
theorem difs_ev (x : Int) : ∀ l m : List UInt8, l.length = m.length → datp l x - datp m x = ev (difs l m) x
  | [], [], _ => by simp [datp, difs, ev]
  | a :: l, b :: m, h => by
    have ih := difs_ev x l m (by simpa using h)
    rw [datp, datp, difs, ev, ← ih, Int.sub_mul]
    omega
theorem difs_zero : ∀ l m : List UInt8, l.length = m.length → (∀ z ∈ difs l m, P ∣ z) → l = m
  | [], [], _, _ => rfl
  | a :: l, b :: m, h, hz => by
    rw [difs] at hz
    have h1 := small_div _ (hz _ (List.mem_cons_self ..)) (by have := a.toNat_lt; have := b.toNat_lt; unfold P; omega) (by have := a.toNat_lt; have := b.toNat_lt; unfold P; omega)
    have e : a = b := UInt8.toNat_inj.mp (by omega)
    rw [e, difs_zero l m (by simpa using h) (fun z hz' => hz z (List.mem_cons_of_mem _ hz'))]
/-- Two texts of equal length that agree at as many points as they have bytes. -/
theorem same_text (l m : List UInt8) (xs : List Int) (h : l.length = m.length) (hx : l.length ≤ xs.length) (hp : xs.Pairwise (fun x y => x < y)) (hr : ∀ x ∈ xs, 0 ≤ x ∧ x < P) (ha : ∀ x ∈ xs, dat l x = dat m x) : l = m := by
  refine difs_zero l m h (roots xs (difs l m) (Nat.le_trans (difs_len l m) hx) ?_ ?_)
  · refine hp.imp_of_mem ?_
    intro x y hx hy h hd
    have a := hr x hx
    have b := hr y hy
    have := small_div _ hd (by omega) (by omega)
    omega
  · intro x hx
    rw [← difs_ev x l m h]
    exact Cg.dvd.mp ((dat_cg l x x Cg.rfl).symm.trans ((Cg.of_eq (ha x hx)).trans (dat_cg m x x Cg.rfl)))
end Go.Proofs.Ytfabnklcdagfjaa.Dig
