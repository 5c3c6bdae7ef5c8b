/- A binary search over ascending whole numbers; numbers with one more, and without one. -/
import Derived.Test.YthlpjnbpdafjeaaPAx9
import Derived.Test.YthlpjnbpdafjeaaPAx10
import Derived.Test.YthlpjnbpdafjeaaPAx11
import Derived.Test.YthlpjnbpdafjeaaPAx12
set_option linter.unusedVariables false
namespace Go.Proofs.Ythlpjnbpdafjeaa.PA
open Go.RowKit Go.Proofs.YthlpjnbpdafjeaaW.PrintWords Go.Proofs.YthlpjnbpdafjeaaW.PrintLast

theorem bw64 {n : Int} (h0 : -9223372036854775808 ≤ n) (h1 : n ≤ 9223372036854775807) : wrap64 n = n := by
  unfold wrap64
  omega
theorem bu64 {n : Int} (h0 : 0 ≤ n) (h1 : n ≤ 9223372036854775807) : IntKind.u64.wrap n = n := by
  simp only [IntKind.wrap, IntKind.bits, IntKind.signed]
  simp
  omega
theorem brd (l : List Int) (i : Nat) : rd l (i : Int) = l.getD i 0 := by unfold rd; rw [Int.toNat_natCast]
def Up (l : List Int) : Prop := ∀ i j, i < j → j < l.length → l.getD i 0 < l.getD j 0
theorem less_some (a b : Int) : cmp_Less_int.f a b = some (decide (a < b)) := by
  unfold cmp_Less_int.f cmp_isNaN_int.f
  simp
theorem bin_loop (l : List Int) (x : Int) (hl : l.length ≤ 1000000) (hu : Up l) : ∀ (d k lo hi : Nat), hi - lo ≤ d → d < k → lo ≤ hi → hi ≤ l.length → (∀ j, j < lo → l.getD j 0 < x) → (∀ j, hi ≤ j → j < l.length → x ≤ l.getD j 0) →
    ∃ p : Nat, slices_BinarySearch_int_int.l0 k l x (l.length : Int) (lo : Int) (hi : Int) = some ((p : Int), decide (p < l.length ∧ l.getD p 0 = x)) ∧ p ≤ l.length ∧ (∀ j, j < p → l.getD j 0 < x) ∧ (∀ j, p ≤ j → j < l.length → x ≤ l.getD j 0)
  | d, k, lo, hi, hd, hk, h1, h2, ha, hb => by
    obtain ⟨k, rfl⟩ : ∃ m, k = m + 1 := ⟨k - 1, by omega⟩
    rw [slices_BinarySearch_int_int.l0]
    by_cases c : lo < hi
    · cases d with
      | zero => omega
      | succ d =>
      have e1 : wrap64 ((lo : Int) + (hi : Int)) = (lo : Int) + (hi : Int) := bw64 (by omega) (by omega)
      have e2 : IntKind.u64.wrap ((lo : Int) + (hi : Int)) = (lo : Int) + (hi : Int) := bu64 (by omega) (by omega)
      have e3 : wrap64 (((lo : Int) + (hi : Int)) / 2) = (((lo + hi) / 2 : Nat) : Int) := by rw [bw64 (by omega) (by omega)]; omega
      rw [if_pos (by omega), e1, e2, e3, if_pos (by omega), if_pos (by omega), less_some, brd]
      simp only [Option.bind_some]
      by_cases c2 : l.getD ((lo + hi) / 2) 0 < x
      · rw [decide_eq_true c2, if_pos rfl, bw64 (n := (((lo + hi) / 2 : Nat) : Int) + 1) (by omega) (by omega)]
        have e4 : (((lo + hi) / 2 : Nat) : Int) + 1 = (((lo + hi) / 2 + 1 : Nat) : Int) := by omega
        rw [e4]
        refine bin_loop l x hl hu d k ((lo + hi) / 2 + 1) hi (by omega) (by omega) (by omega) h2 ?_ hb
        intro j hj
        rcases Nat.lt_or_ge j ((lo + hi) / 2) with h | h
        · exact Int.lt_trans (hu j _ h (by omega)) c2
        · obtain rfl : j = (lo + hi) / 2 := by omega
          exact c2
      · rw [decide_eq_false c2, if_neg (by decide)]
        refine bin_loop l x hl hu d k lo ((lo + hi) / 2) (by omega) (by omega) (by omega) (by omega) ha ?_
        intro j hj hj2
        rcases Nat.lt_or_ge ((lo + hi) / 2) j with h | h
        · have := hu _ j h hj2
          omega
        · obtain rfl : j = (lo + hi) / 2 := by omega
          omega
    · obtain rfl : lo = hi := by omega
      rw [if_neg (by omega)]
      refine ⟨lo, ?_, h2, ha, hb⟩
      by_cases c2 : lo < l.length
      · rw [if_pos (by omega), if_pos (by omega), if_pos (by omega), brd]
        by_cases c3 : l.getD lo 0 = x
        · rw [if_pos c3, decide_eq_true ⟨c2, c3⟩]
        · rw [if_neg c3, decide_eq_false (fun h => c3 h.2)]
          unfold slices_isNaN_int.f
          simp
      · rw [if_neg (by omega), decide_eq_false (fun h => c2 h.1)]
  termination_by d => d
theorem bin_some (l : List Int) (x : Int) (hl : l.length ≤ 1000000) (hu : Up l) (k : Nat) (hk : l.length < k) :
    ∃ p : Nat, slices_BinarySearch_int_int.f k l x = some ((p : Int), decide (p < l.length ∧ l.getD p 0 = x)) ∧ p ≤ l.length ∧ (∀ j, j < p → l.getD j 0 < x) ∧ (∀ j, p ≤ j → j < l.length → x ≤ l.getD j 0) := by
  unfold slices_BinarySearch_int_int.f
  exact bin_loop l x hl hu l.length k 0 l.length (by omega) hk (by omega) (by omega) (by intro j hj; omega) (by intro j hj hj2; omega)
theorem getD_mem {l : List Int} {j : Nat} (h : j < l.length) : l.getD j 0 ∈ l := by
  rw [List.getD_eq_getElem?_getD, List.getElem?_eq_getElem h]
  exact List.getElem_mem h
theorem mem_getD {l : List Int} {x : Int} (h : x ∈ l) : ∃ j, j < l.length ∧ l.getD j 0 = x := by
  obtain ⟨j, hj, rfl⟩ := List.mem_iff_getElem.mp h
  exact ⟨j, hj, by rw [List.getD_eq_getElem?_getD, List.getElem?_eq_getElem hj]; rfl⟩
theorem found {l : List Int} {x : Int} {p : Nat} (hu : Up l) (hp : p ≤ l.length) (h1 : ∀ j, j < p → l.getD j 0 < x) (h2 : ∀ j, p ≤ j → j < l.length → x ≤ l.getD j 0) : (p < l.length ∧ l.getD p 0 = x) ↔ x ∈ l := by
  constructor
  · rintro ⟨h, rfl⟩
    exact getD_mem h
  · intro h
    obtain ⟨j, hj, hx⟩ := mem_getD h
    have hpj : p ≤ j := by
      rcases Nat.lt_or_ge j p with c | c
      · have := h1 j c; omega
      · exact c
    rcases Nat.lt_or_ge p j with c | c
    · have a := hu p j c hj
      have b := h2 p (Nat.le_refl _) (by omega)
      omega
    · obtain rfl : p = j := by omega
      exact ⟨hj, hx⟩
/-- The numbers below x, x, and the numbers above it; the numbers but x. -/
def put1 (l : List Int) (x : Int) : List Int := l.filter (· < x) ++ x :: l.filter (x < ·)
def cut1 (l : List Int) (x : Int) : List Int := l.filter (· ≠ x)
theorem up_take {l : List Int} {x : Int} {p : Nat} (hp : p ≤ l.length) (h1 : ∀ j, j < p → l.getD j 0 < x) (h2 : ∀ j, p ≤ j → j < l.length → x ≤ l.getD j 0) : l.filter (· < x) = l.take p := by
  have e : l = l.take p ++ l.drop p := (List.take_append_drop p l).symm
  conv => lhs; rw [e]
  rw [List.filter_append]
  have a : (l.take p).filter (· < x) = l.take p := List.filter_eq_self.mpr fun y hy => by
    obtain ⟨j, hj, rfl⟩ := List.mem_iff_getElem.mp hy
    rw [List.length_take] at hj
    have := h1 j (by omega)
    rw [List.getD_eq_getElem?_getD, List.getElem?_eq_getElem (by omega)] at this
    simpa using this
  have b : (l.drop p).filter (· < x) = [] := List.filter_eq_nil_iff.mpr fun y hy => by
    obtain ⟨j, hj, rfl⟩ := List.mem_iff_getElem.mp hy
    rw [List.length_drop] at hj
    have := h2 (p + j) (by omega) (by omega)
    rw [List.getD_eq_getElem?_getD, List.getElem?_eq_getElem (by omega)] at this
    simp at this ⊢
    omega
  rw [a, b, List.append_nil]
theorem up_drop {l : List Int} {x : Int} {p : Nat} (hu : Up l) (hp : p ≤ l.length) (h1 : ∀ j, j < p → l.getD j 0 < x) (h2 : ∀ j, p ≤ j → j < l.length → x ≤ l.getD j 0) : l.filter (x < ·) = l.drop (if p < l.length ∧ l.getD p 0 = x then p + 1 else p) := by
  have key : ∀ q, q ≤ l.length → (∀ j, j < q → l.getD j 0 ≤ x) → (∀ j, q ≤ j → j < l.length → x < l.getD j 0) → l.filter (x < ·) = l.drop q := by
    intro q hq g1 g2
    have e : l = l.take q ++ l.drop q := (List.take_append_drop q l).symm
    conv => lhs; rw [e]
    rw [List.filter_append]
    have a : (l.take q).filter (x < ·) = [] := List.filter_eq_nil_iff.mpr fun y hy => by
      obtain ⟨j, hj, rfl⟩ := List.mem_iff_getElem.mp hy
      rw [List.length_take] at hj
      have := g1 j (by omega)
      rw [List.getD_eq_getElem?_getD, List.getElem?_eq_getElem (by omega)] at this
      simp at this ⊢
      omega
    have b : (l.drop q).filter (x < ·) = l.drop q := List.filter_eq_self.mpr fun y hy => by
      obtain ⟨j, hj, rfl⟩ := List.mem_iff_getElem.mp hy
      rw [List.length_drop] at hj
      have := g2 (q + j) (by omega) (by omega)
      rw [List.getD_eq_getElem?_getD, List.getElem?_eq_getElem (by omega)] at this
      simpa using this
    rw [a, b, List.nil_append]
  by_cases c : p < l.length ∧ l.getD p 0 = x
  · rw [if_pos c]
    refine key (p + 1) (by omega) ?_ ?_
    · intro j hj
      rcases Nat.lt_or_ge j p with h | h
      · have := h1 j h; omega
      · obtain rfl : j = p := by omega
        omega
    · intro j hj hj2
      have := hu p j (by omega) hj2
      omega
  · rw [if_neg c]
    refine key p hp (fun j hj => by have := h1 j hj; omega) ?_
    intro j hj hj2
    have a := h2 j hj hj2
    rcases Nat.lt_or_ge p j with h | h
    · have b := hu p j h hj2
      have := h2 p (Nat.le_refl _) (by omega)
      omega
    · obtain rfl : j = p := by omega
      rcases Int.lt_or_lt_of_ne (fun e => c ⟨hj2, e⟩) with h | h
      · omega
      · exact h
theorem cut_split {l : List Int} {x : Int} (hu : Up l) : cut1 l x = l.filter (· < x) ++ l.filter (x < ·) := by
  unfold cut1
  induction l with
  | nil => rfl
  | cons y l ih =>
    have hu' : Up l := fun i j hij hj => by have := hu (i + 1) (j + 1) (by omega) (by simpa using hj); simpa using this
    have hy : ∀ z ∈ l, y < z := fun z hz => by
      obtain ⟨j, hj, rfl⟩ := List.mem_iff_getElem.mp hz
      have := hu 0 (j + 1) (by omega) (by simpa using hj)
      simpa [List.getD_eq_getElem?_getD, List.getElem?_eq_getElem hj] using this
    have ih := ih hu'
    rcases Int.lt_trichotomy y x with h | h | h
    · rw [List.filter_cons_of_pos (by simp; omega), List.filter_cons_of_pos (by simpa using h), List.filter_cons_of_neg (by simp; omega), ih]
      rfl
    · subst h
      rw [List.filter_cons_of_neg (by simp), List.filter_cons_of_neg (by simp), List.filter_cons_of_neg (by simp), ih]
    · rw [List.filter_cons_of_pos (by simp; omega), List.filter_cons_of_neg (by simp; omega), List.filter_cons_of_pos (by simpa using h)]
      have a : l.filter (· < x) = [] := List.filter_eq_nil_iff.mpr fun z hz => by have := hy z hz; simp; omega
      rw [a] at ih ⊢
      rw [ih]
      rfl
end Go.Proofs.Ythlpjnbpdafjeaa.PA
