/- What the functions of the package flight return: the order of parcels, the place of a new one, and what is sent. -/
import Derived.Test.YtejhjncobibgmaaPAx0
import Derived.Test.YtejhjncobibgmaaPAx2
import Derived.Test.YtejhjncobibgmaaPAx3
import Derived.Test.YtejhjncobibgmaaPAx4
import Derived.Test.YtejhjncobibgmaaPAx5
import Derived.Test.YtejhjncobibgmaaPAx6
import Derived.Test.YtejhjncobibgmaaPAx7
import Derived.Test.YtejhjncobibgmaaPAx8
import Derived.Test.YtejhjncobibgmaaPAx9
import Derived.Test.YtejhjncobibgmaaPAx14
import Derived.Test.YtejhjncobibgmaaPAx15
set_option linter.unusedVariables false
set_option linter.unusedSimpArgs false
namespace Go.Proofs.Ytejhjncobibgmaa.PA
open Go.RowKit Go.Proofs.YtejhjncobibgmaaW.PrintWords Go.Proofs.YtejhjncobibgmaaW.PrintLast
theorem fw64 {n : Int} (h0 : -9223372036854775808 ≤ n) (h1 : n ≤ 9223372036854775807) : wrap64 n = n := by
  unfold wrap64
  omega
theorem fu64 {n : Int} (h0 : 0 ≤ n) (h1 : n ≤ 9223372036854775807) : IntKind.u64.wrap n = n := by
  simp only [IntKind.wrap, IntKind.bits, IntKind.signed]
  simp
  omega
theorem rd27 (l : List S27) (i : Nat) : rd_T27 l (i : Int) = l.getD i z27 := by unfold rd_T27; rw [Int.toNat_natCast]
theorem getD27 {l : List S27} {i : Nat} (h : i < l.length) : l.getD i z27 = l[i] := by rw [List.getD_eq_getElem?_getD, List.getElem?_eq_getElem h]; rfl
/-- A parcel comes before another one: by the tick, then by the number. -/
def Bf (a b : S27) : Prop := a.f2 < b.f2 ∨ a.f2 = b.f2 ∧ a.f3 < b.f3
instance (a b : S27) : Decidable (Bf a b) := by unfold Bf; infer_instance
theorem Bf.trans {a b c : S27} (h : Bf a b) (k : Bf b c) : Bf a c := by unfold Bf at *; omega
theorem compare_some (a b : Int) : cmp_Compare_int.f a b = some (if a < b then -1 else if a > b then 1 else 0) := by
  unfold cmp_Compare_int.f cmp_isNaN_int.f
  simp only [Option.bind_some, bne_self_eq_false, Bool.false_eq_true, if_false]
  split
  · rfl
  · split <;> rfl
theorem or_some (x y : Int) (k : Nat) : cmp_Or_int.f (k + 3) [x, y] = some (if x = 0 then y else x) := by
  unfold cmp_Or_int.f
  have e0 : rd [x, y] 0 = x := rfl
  have e1 : rd [x, y] 1 = y := rfl
  have w1 : wrap64 (0 + 1) = 1 := by rw [fw64 (by decide) (by decide)]; rfl
  have w2 : wrap64 (1 + 1) = 2 := by rw [fw64 (by decide) (by decide)]; rfl
  rw [cmp_Or_int.l0]
  rw [if_pos (by simp), if_pos (by decide), if_pos (by simp), e0]
  by_cases c : x = 0
  · rw [if_pos c, if_pos c, w1, cmp_Or_int.l0]
    rw [if_pos (by simp), if_pos (by decide), if_pos (by simp), e1]
    by_cases c2 : y = 0
    · rw [if_pos c2, w2, cmp_Or_int.l0]
      rw [if_neg (by simp), c2]
    · rw [if_neg c2]
  · rw [if_neg c, if_neg c]
theorem order_some (a b : S27) (k : Nat) (hk : 3 ≤ k) : flight_order.f k a.f0 a.f1 a.f2 a.f3 a.f4 b.f0 b.f1 b.f2 b.f3 b.f4 = some (if Bf a b then -1 else if Bf b a then 1 else 0) := by
  obtain ⟨k, rfl⟩ : ∃ m, k = m + 3 := ⟨k - 3, by omega⟩
  unfold flight_order.f
  rw [compare_some, compare_some]
  simp only [Option.bind_some]
  rw [or_some]
  simp only [Option.bind_some]
  congr 1
  rcases Int.lt_trichotomy a.f2 b.f2 with h | h | h
  · rw [if_pos h, if_neg (by decide), if_pos (show Bf a b from .inl h)]
  · rw [if_neg (show ¬ a.f2 < b.f2 by omega), if_neg (show ¬ a.f2 > b.f2 by omega), if_pos rfl]
    rcases Int.lt_trichotomy a.f3 b.f3 with h2 | h2 | h2
    · rw [if_pos h2, if_pos (show Bf a b from .inr ⟨h, h2⟩)]
    · rw [if_neg (show ¬ a.f3 < b.f3 by omega), if_neg (show ¬ a.f3 > b.f3 by omega), if_neg (show ¬ Bf a b by unfold Bf; omega), if_neg (show ¬ Bf b a by unfold Bf; omega)]
    · rw [if_neg (show ¬ a.f3 < b.f3 by omega), if_pos h2, if_neg (show ¬ Bf a b by unfold Bf; omega), if_pos (show Bf b a from .inr ⟨h.symm, h2⟩)]
  · rw [if_neg (show ¬ a.f2 < b.f2 by omega), if_pos h, if_neg (show ¬ (1 : Int) = 0 by decide), if_neg (show ¬ Bf a b by unfold Bf; omega), if_pos (show Bf b a from .inl h)]
/-- Parcels in their order. -/
def Asc (l : List S27) : Prop := l.Pairwise Bf
theorem Asc.lt {l : List S27} (h : Asc l) {i j : Nat} (hij : i < j) (hj : j < l.length) : Bf (l.getD i z27) (l.getD j z27) := by
  rw [getD27 (by omega), getD27 hj]
  exact List.pairwise_iff_getElem.mp h i j (by omega) hj hij
theorem bin_loop (l : List S27) (p : S27) (hl : l.length ≤ 1000000) (hu : Asc l) : ∀ (d k lo hi : Nat), hi - lo ≤ d → d + 4 < k → lo ≤ hi → hi ≤ l.length → (∀ j, j < lo → Bf (l.getD j z27) p) → (∀ j, hi ≤ j → j < l.length → ¬ Bf (l.getD j z27) p) →
    ∃ (i : Nat) (b : Bool), api_Parcel_27.l0 k l (l.length : Int) (lo : Int) (hi : Int) p.f0 p.f1 p.f2 p.f3 p.f4 = some ((i : Int), b) ∧ i ≤ l.length ∧ (∀ j, j < i → Bf (l.getD j z27) p) ∧ (∀ j, i ≤ j → j < l.length → ¬ Bf (l.getD j z27) p)
  | d, k, lo, hi, hd, hk, h1, h2, ha, hb => by
    obtain ⟨k, rfl⟩ : ∃ m, k = m + 1 := ⟨k - 1, by omega⟩
    rw [api_Parcel_27.l0]
    by_cases c : lo < hi
    · cases d with
      | zero => omega
      | succ d =>
      rw [if_pos (by omega), fw64 (n := (lo : Int) + (hi : Int)) (by omega) (by omega), fu64 (by omega) (by omega), show wrap64 (((lo : Int) + (hi : Int)) / 2) = (((lo + hi) / 2 : Nat) : Int) by rw [fw64 (by omega) (by omega)]; omega,
        if_pos (by omega), if_pos (by omega), rd27, order_some _ p k (by omega)]
      simp only [Option.bind_some]
      by_cases c2 : Bf (l.getD ((lo + hi) / 2) z27) p
      · rw [if_pos c2, if_pos (by decide), fw64 (n := (((lo + hi) / 2 : Nat) : Int) + 1) (by omega) (by omega), show (((lo + hi) / 2 : Nat) : Int) + 1 = (((lo + hi) / 2 + 1 : Nat) : Int) by omega]
        refine bin_loop l p hl hu d k ((lo + hi) / 2 + 1) hi (by omega) (by omega) (by omega) h2 ?_ hb
        intro j hj
        rcases Nat.lt_or_ge j ((lo + hi) / 2) with h | h
        · exact (hu.lt h (by omega)).trans c2
        · obtain rfl : j = (lo + hi) / 2 := by omega
          exact c2
      · rw [if_neg c2, if_neg (by split <;> decide)]
        refine bin_loop l p hl hu d k lo ((lo + hi) / 2) (by omega) (by omega) (by omega) (by omega) ha ?_
        intro j hj hj2
        rcases Nat.lt_or_ge ((lo + hi) / 2) j with h | h
        · exact fun h' => c2 ((hu.lt h hj2).trans h')
        · obtain rfl : j = (lo + hi) / 2 := by omega
          exact c2
    · obtain rfl : lo = hi := by omega
      rw [if_neg (by omega)]
      by_cases c2 : lo < l.length
      · rw [if_pos (by omega), if_pos (by omega), if_pos (by omega), rd27, order_some _ p k (by omega)]
        exact ⟨lo, _, rfl, h2, ha, hb⟩
      · rw [if_neg (by omega)]
        exact ⟨lo, _, rfl, h2, ha, hb⟩
  termination_by d => d
theorem bin_some (l : List S27) (p : S27) (hl : l.length ≤ 1000000) (hu : Asc l) (k : Nat) (hk : l.length + 5 < k) :
    ∃ (i : Nat) (b : Bool), api_Parcel_27.f k l p.f0 p.f1 p.f2 p.f3 p.f4 = some ((i : Int), b) ∧ i ≤ l.length ∧ (∀ j, j < i → Bf (l.getD j z27) p) ∧ (∀ j, i ≤ j → j < l.length → ¬ Bf (l.getD j z27) p) := by
  unfold api_Parcel_27.f
  exact bin_loop l p hl hu l.length k 0 l.length (by omega) (by omega) (by omega) (by omega) (by intro j hj; omega) (by intro j hj hj2; omega)
/-- A new parcel's place: behind those that come before it. -/
def put1 (l : List S27) (p : S27) : List S27 := l.filter (fun x => decide (Bf x p)) ++ p :: l.filter (fun x => decide (¬ Bf x p))
theorem put_is {l : List S27} {p : S27} {i : Nat} (hi : i ≤ l.length) (h1 : ∀ j, j < i → Bf (l.getD j z27) p) (h2 : ∀ j, i ≤ j → j < l.length → ¬ Bf (l.getD j z27) p) : l.take i ++ [p] ++ l.drop i = put1 l p := by
  have ht : ∀ x ∈ l.take i, Bf x p := by
    intro x hx
    obtain ⟨j, hj, rfl⟩ := List.mem_iff_getElem.mp hx
    rw [List.length_take] at hj
    have := h1 j (by omega)
    rw [getD27 (by omega)] at this
    rw [List.getElem_take]
    exact this
  have hd : ∀ x ∈ l.drop i, ¬ Bf x p := by
    intro x hx
    obtain ⟨j, hj, rfl⟩ := List.mem_iff_getElem.mp hx
    rw [List.length_drop] at hj
    have := h2 (i + j) (by omega) (by omega)
    rw [getD27 (by omega)] at this
    rw [List.getElem_drop]
    exact this
  have fs : ∀ A B : List S27, (∀ x ∈ A, Bf x p) → (∀ x ∈ B, ¬ Bf x p) → (A ++ B).filter (fun x => decide (Bf x p)) = A ∧ (A ++ B).filter (fun x => decide (¬ Bf x p)) = B := by
    intro A B hA hB
    constructor
    · rw [List.filter_append, List.filter_eq_self.mpr (fun x hx => decide_eq_true (hA x hx)), List.filter_eq_nil_iff.mpr (fun x hx => by simpa using hB x hx), List.append_nil]
    · rw [List.filter_append, List.filter_eq_nil_iff.mpr (fun x hx => by simpa using hA x hx), List.filter_eq_self.mpr (fun x hx => decide_eq_true (hB x hx)), List.nil_append]
  obtain ⟨f1, f2⟩ := fs _ _ ht hd
  rw [List.take_append_drop] at f1 f2
  unfold put1
  rw [f1, f2]
  simp
/-- What is sent. -/
theorem send_some (tick delay next : Int) (l : List S27) (hu : Asc l) (hl : l.length ≤ 1000000) (from_ to_ wait : Int) (s : ByteArray) (hf : 1 ≤ from_ ∧ from_ ≤ 16) (ht : 1 ≤ to_ ∧ to_ ≤ 16) (hw : 0 ≤ wait ∧ wait < delay) (hd : delay ≤ 1000) (htick : 0 ≤ tick ∧ tick ≤ 1048576) (hn : 0 ≤ next ∧ next ≤ 1000000) (hs : s.size ≤ 16384) (k : Nat) (hk : l.length + 10 < k) :
    flight_Send.f k tick delay next l from_ to_ wait s = some (if l.length ≥ 1024 then (tick, delay, next, l, 4) else (tick, delay, next + 1, put1 l ⟨from_, to_, tick + wait + 1, next, s⟩, 0)) := by
  obtain ⟨k, rfl⟩ : ∃ m, k = m + 2 := ⟨k - 2, by omega⟩
  have ep : ∀ n : Int, 1 ≤ n ∧ n ≤ 16 → flight_person.f n = some true := by
    intro n hn
    unfold flight_person.f
    rw [if_pos hn.1, decide_eq_true hn.2]
  unfold flight_Send.f flight_own.f api_Parcel_33.f
  rw [if_pos (by omega)]
  simp only [Option.bind_some]
  rw [ep from_ hf, ep to_ ht]
  simp only [Option.bind_some, if_true]
  rw [if_neg (by omega), decide_eq_false (by omega), flight_Send.j0]
  rw [if_neg (by decide)]
  by_cases c : l.length ≥ 1024
  · rw [if_pos (by omega), if_pos c, flight_Send.j1]
    rfl
  · rw [if_neg (by omega), if_neg c, decide_eq_false (by omega), flight_Send.j1]
    rw [if_neg (by decide), fw64 (n := tick + wait) (by omega) (by omega), fw64 (n := tick + wait + 1) (by omega) (by omega), fw64 (n := next + 1) (by omega) (by omega)]
    obtain ⟨i, b, e, h1, h2, h3⟩ := bin_some l ⟨from_, to_, tick + wait + 1, next, s⟩ (by omega) hu k (by omega)
    rw [e]
    simp only [Option.bind_some]
    unfold api_Parcel_29.f
    rw [if_pos ⟨by omega, by omega, by simp, by simp; omega⟩, Int.toNat_natCast, put_is h1 h2 h3]
    rfl
end Go.Proofs.Ytejhjncobibgmaa.PA
