/- What the functions of the package challenge return for challenges that were prepared, and some of which were asked. -/
import Derived.Test.YtfabnklcdagfjaaDeck
import Derived.Test.YtfabnklcdagfjaaDigAt
import Derived.Test.YtfabnklcdagfjaaPAx0
import Derived.Test.YtfabnklcdagfjaaPAx2
import Derived.Test.YtfabnklcdagfjaaPAx4
import Derived.Test.YtfabnklcdagfjaaPAx5
import Derived.Test.YtfabnklcdagfjaaPAx6
import Derived.Test.YtfabnklcdagfjaaPAx9
import Derived.Test.YtfabnklcdagfjaaPAx10
import Derived.Test.YtfabnklcdagfjaaPAx11
import Derived.Test.YtfabnklcdagfjaaPAx12
import Derived.Test.YtfabnklcdagfjaaPAx13
import Derived.Test.YtfabnklcdagfjaaPAx15
import Derived.Test.YtfabnklcdagfjaaPAx16
import Derived.Test.YtfabnklcdagfjaaPAx22
import Derived.Test.YtfabnklcdagfjaaPAx23
set_option linter.unusedVariables false
namespace Go.Proofs.Ytfabnklcdagfjaa.PA
open Go.RowKit Go.Proofs.YtfabnklcdagfjaaW.PrintWords Go.Proofs.YtfabnklcdagfjaaW.PrintLast Go.Proofs.Ytfabnklcdagfjaa.Dig

theorem rd52 (l : List S52) (i : Nat) (h : i < l.length) : rd_T52 l (i : Int) = l[i] := by
  unfold rd_T52
  rw [Int.toNat_natCast, List.getD_eq_getElem?_getD, List.getElem?_eq_getElem h]
  rfl
theorem used_loop (l : List S52) (hl : l.length ≤ 1000000) (i : Nat) (hi : i ≤ l.length) (h1 : ∀ j (h : j < l.length), j < i → (l[j]).f2 ≠ 0) (h2 : ∀ h : i < l.length, (l[i]).f2 = 0) (c0 c1 : Int) :
    ∀ (d j k : Nat), j + d = i → d < k → challenge_used.l0 k (l.length : Int) (j : Int) c0 c1 l = some (i : Int)
  | 0, j, k, hj, hk => by
    obtain ⟨k, rfl⟩ : ∃ m, k = m + 1 := ⟨k - 1, by omega⟩
    obtain rfl : j = i := by omega
    rw [challenge_used.l0]
    by_cases c : j < l.length
    · rw [if_pos (by omega), if_pos (by omega), if_pos (by omega), rd52 l j c, if_pos (h2 c)]
    · rw [if_neg (by omega)]
      congr 1
      omega
  | d + 1, j, k, hj, hk => by
    obtain ⟨k, rfl⟩ : ∃ m, k = m + 1 := ⟨k - 1, by omega⟩
    rw [challenge_used.l0]
    rw [if_pos (by omega), if_pos (by omega), if_pos (by omega), rd52 l j (by omega), if_neg (h1 j (by omega) (by omega)), w64 (by omega) (by omega)]
    exact used_loop l hl i hi h1 h2 c0 c1 d (j + 1) k (by omega) (by omega)
theorem used_some (l : List S52) (hl : l.length ≤ 1000000) (i : Nat) (hi : i ≤ l.length) (h1 : ∀ j (h : j < l.length), j < i → (l[j]).f2 ≠ 0) (h2 : ∀ h : i < l.length, (l[i]).f2 = 0) (c0 c1 : Int) (k : Nat) (hk : l.length < k) :
    challenge_used.f k c0 c1 l = some (i : Int) := used_loop l hl i hi h1 h2 c0 c1 i 0 k (by omega) (by omega)

/-- Challenges of a text with these nonces, the first i of which were used at the ticks of the list ts. -/
def st (s : List UInt8) (ns ts : List Int) (i : Nat) : List S52 := (List.range ns.length).map fun j => ⟨ns.getD j 0, dat s (ns.getD j 0), if j < i then ts.getD j 0 + 1 else 0⟩
theorem st_len (s : List UInt8) (ns ts : List Int) (i : Nat) : (st s ns ts i).length = ns.length := by simp [st]
theorem st_at (s : List UInt8) (ns ts : List Int) (i j : Nat) (h : j < (st s ns ts i).length) : (st s ns ts i)[j] = ⟨ns.getD j 0, dat s (ns.getD j 0), if j < i then ts.getD j 0 + 1 else 0⟩ := by simp [st]
/-- Nonces: they ascend, from 2 on. -/
structure Asc (ns : List Int) : Prop where
  len : ns.length ≤ 64
  lo : ∀ j, j < ns.length → 2 ≤ ns.getD j 0 ∧ ns.getD j 0 < 2147483647
  up : ∀ j j', j < j' → j' < ns.length → ns.getD j 0 < ns.getD j' 0
structure Ticks (ts : List Int) (i : Nat) : Prop where
  lo : ∀ j, j < i → 0 ≤ ts.getD j 0 ∧ ts.getD j 0 ≤ 1048576
  up : ∀ j j', j ≤ j' → j' < i → ts.getD j 0 ≤ ts.getD j' 0
theorem st_valid (s : List UInt8) (ns ts : List Int) (i : Nat) (c0 c1 : Int) (hn : Asc ns) (ht : Ticks ts i) (h0 : 0 ≤ c0 ∧ c0 < 2147483647) (h1 : 1 ≤ c1 ∧ c1 ≤ 65536) : challenge_valid.f c0 c1 (st s ns ts i) = some true := by
  unfold challenge_valid.f challenge_valid.okB
  have hl := hn.len
  rw [if_neg (by omega), if_neg (by omega), if_neg (by omega), if_neg (by omega), if_neg (by rw [st_len]; omega)]
  congr 1
  rw [List.all_eq_true]
  intro j hj
  have hjl : j < (st s ns ts i).length := List.mem_range.mp hj
  have hjn : j < ns.length := by rwa [st_len] at hjl
  have e := rd52 (st s ns ts i) j hjl
  rw [st_at] at e
  unfold challenge_valid.okAt
  rw [e]
  have hlo := hn.lo j hjn
  have hd0 := dat_lo s (ns.getD j 0)
  have hd1 : dat s (ns.getD j 0) < 2147483647 := dat_hi s (ns.getD j 0)
  have hu : 0 ≤ (if j < i then ts.getD j 0 + 1 else 0) ∧ (if j < i then ts.getD j 0 + 1 else 0) ≤ 1048577 := by
    split
    · have := ht.lo j (by omega); omega
    · omega
  have hmem : ns.getD j 0 ∉ ((st s ns ts i).take j).map (·.f0) := by
    intro h
    obtain ⟨x, hx, hxe⟩ := List.mem_map.mp h
    obtain ⟨q, hq, rfl⟩ := List.mem_iff_getElem.mp hx
    rw [List.length_take] at hq
    rw [List.getElem_take, st_at] at hxe
    have := hn.up q j (by omega) hjn
    simp only at hxe
    omega
  rw [if_neg (fun h => h hlo), if_neg hmem, if_neg (by show ¬ dat s (ns.getD j 0) < 0; omega), if_neg (by show ¬ 2147483647 ≤ dat s (ns.getD j 0); omega), if_neg (by show ¬ (if j < i then ts.getD j 0 + 1 else 0) < 0; omega), if_neg (by show ¬ 1048577 < (if j < i then ts.getD j 0 + 1 else 0); omega)]
  rw [if_neg]
  rintro ⟨hj0, hpos, hor⟩
  have hpos' : 0 < (if j < i then ts.getD j 0 + 1 else 0) := hpos
  have hji : j < i := by
    by_cases h : j < i
    · exact h
    · rw [if_neg h] at hpos'; omega
  have e2 := rd52 (st s ns ts i) (j - 1) (by omega)
  rw [st_at] at e2
  have ej : ((j : Int) - 1) = ((j - 1 : Nat) : Int) := by omega
  rw [ej, e2] at hor
  have hj1 : j - 1 < i := by omega
  simp only [if_pos hji, if_pos hj1] at hor
  have a := ht.lo (j - 1) (by omega)
  have b := ht.up (j - 1) j (by omega) hji
  omega
theorem st_used (s : List UInt8) (ns ts : List Int) (i : Nat) (c0 c1 : Int) (hn : Asc ns) (ht : Ticks ts i) (hi : i ≤ ns.length) (k : Nat) (hk : 64 < k) : challenge_used.f k c0 c1 (st s ns ts i) = some (i : Int) := by
  have hl := hn.len
  refine used_some _ (by rw [st_len]; omega) i (by rw [st_len]; omega) ?_ ?_ c0 c1 k (by rw [st_len]; omega)
  · intro j h hj
    rw [st_at]
    have := ht.lo j hj
    show (if j < i then ts.getD j 0 + 1 else 0) ≠ 0
    rw [if_pos hj]
    omega
  · intro h
    rw [st_at]
    show (if i < i then ts.getD i 0 + 1 else 0) = 0
    rw [if_neg (by omega)]
theorem st_left (s : List UInt8) (ns ts : List Int) (i : Nat) (c0 c1 : Int) (hn : Asc ns) (ht : Ticks ts i) (hi : i ≤ ns.length) (h0 : 0 ≤ c0 ∧ c0 < 2147483647) (h1 : 1 ≤ c1 ∧ c1 ≤ 65536) (k : Nat) (hk : 64 < k) :
    challenge_Left.f k c0 c1 (st s ns ts i) = some ((ns.length : Int) - i, 0) := by
  have hl := hn.len
  unfold challenge_Left.f
  rw [st_valid s ns ts i c0 c1 hn ht h0 h1]
  simp only [Option.bind_some, if_true]
  rw [st_used s ns ts i c0 c1 hn ht hi k hk, st_len]
  simp only [Option.bind_some]
  rw [w64 (by omega) (by omega)]
theorem st_set (s : List UInt8) (ns ts : List Int) (i : Nat) (tick : Int) (hi : i < ns.length) (ht : ts.length = i) :
    (st s ns ts i).set i ⟨ns.getD i 0, dat s (ns.getD i 0), tick + 1⟩ = st s ns (ts ++ [tick]) (i + 1) := by
  apply List.ext_getElem
  · simp [st]
  · intro j h1 h2
    rw [List.getElem_set, st_at, st_at]
    split
    · rename_i e
      subst e
      rw [if_pos (by omega)]
      have : (ts ++ [tick]).getD i 0 = tick := by
        rw [List.getD_eq_getElem?_getD, List.getElem?_append_right (by omega)]
        simp [ht]
      rw [this]
    · rename_i e
      by_cases hj : j < i
      · rw [if_pos hj, if_pos (by omega)]
        have : (ts ++ [tick]).getD j 0 = ts.getD j 0 := by
          rw [List.getD_eq_getElem?_getD, List.getElem?_append_left (by omega), ← List.getD_eq_getElem?_getD]
        rw [this]
      · rw [if_neg hj, if_neg (by omega)]
/-- The next nonce is asked. -/
theorem st_ask (s : List UInt8) (ns ts : List Int) (i : Nat) (c0 c1 tick : Int) (hn : Asc ns) (ht : Ticks ts i) (hti : ts.length = i) (hi : i < ns.length) (h0 : 0 ≤ c0 ∧ c0 < 2147483647) (h1 : 1 ≤ c1 ∧ c1 ≤ 65536)
    (hk0 : 0 ≤ tick ∧ tick ≤ 1048576) (hup : ∀ j, j < i → ts.getD j 0 ≤ tick) (k : Nat) (hk : 64 < k) :
    challenge_Ask.f k c0 c1 (st s ns ts i) tick = some (c0, c1, st s ns (ts ++ [tick]) (i + 1), ns.getD i 0, 0) := by
  have hl := hn.len
  unfold challenge_Ask.f
  rw [st_valid s ns ts i c0 c1 hn ht h0 h1]
  simp only [Option.bind_some, if_true]
  rw [st_used s ns ts i c0 c1 hn ht (by omega) k hk]
  simp only [Option.bind_some]
  rw [if_neg (by omega), if_neg (by omega)]
  have hlen : (st s ns ts i).length = ns.length := st_len _ _ _ _
  have fin : challenge_Ask.j0 k tick i false c0 c1 (st s ns ts i) = some (c0, c1, st s ns (ts ++ [tick]) (i + 1), ns.getD i 0, 0) := by
    obtain ⟨k, rfl⟩ : ∃ m, k = m + 1 := ⟨k - 1, by omega⟩
    rw [challenge_Ask.j0]
    rw [if_neg (by decide), if_neg (by rw [hlen]; omega)]
    have e1 : api_Prepared_37.f (st s ns ts i) = some (st s ns ts i) := by
      unfold api_Prepared_37.f
      rw [if_pos (by rw [hlen]; omega)]
    rw [e1]
    simp only [Option.bind_some]
    rw [if_pos (by omega), if_pos (by rw [hlen]; omega), rd52 _ i (by rw [hlen]; omega), st_at, w64 (by omega) (by omega), Int.toNat_natCast]
    have e2 := st_set s ns ts i tick hi hti
    rw [e2, rd52 _ i (by rw [st_len]; omega), st_at]
  by_cases c : (i : Int) > 0
  · rw [if_pos c, w64 (by omega) (by omega), if_pos (by omega), if_pos (by rw [hlen]; omega)]
    have ei : ((i : Int) - 1) = ((i - 1 : Nat) : Int) := by omega
    rw [ei, rd52 _ (i - 1) (by rw [hlen]; omega), st_at, w64 (by omega) (by omega)]
    have hx := hup (i - 1) (by omega)
    have : decide (tick + 1 < (if i - 1 < i then ts.getD (i - 1) 0 + 1 else 0)) = false := by
      rw [if_pos (by omega)]
      exact decide_eq_false (by omega)
    rw [show decide (tick + 1 < (⟨ns.getD (i - 1) 0, dat s (ns.getD (i - 1) 0), if i - 1 < i then ts.getD (i - 1) 0 + 1 else 0⟩ : S52).f2) = false from this]
    exact fin
  · rw [if_neg c]
    exact fin
theorem index_loop (l : List Int) (x : Int) (hl : l.length ≤ 1000000) (hx : ∀ j, j < l.length → l.getD j 0 ≠ x) : ∀ (d j k : Nat), j + d = l.length → d < k → slices_Index_int_int.l0 k l x (l.length : Int) (j : Int) = some (-1)
  | 0, j, k, hj, hk => by
    obtain ⟨k, rfl⟩ : ∃ m, k = m + 1 := ⟨k - 1, by omega⟩
    rw [slices_Index_int_int.l0]
    rw [if_neg (by omega)]
  | d + 1, j, k, hj, hk => by
    obtain ⟨k, rfl⟩ : ∃ m, k = m + 1 := ⟨k - 1, by omega⟩
    rw [slices_Index_int_int.l0]
    have e : rd l (j : Int) = l.getD j 0 := by unfold rd; rw [Int.toNat_natCast]
    rw [if_pos (by omega), if_pos (by omega), if_pos (by omega), e, if_neg (fun h => hx j (by omega) h.symm), w64 (by omega) (by omega)]
    exact index_loop l x hl hx d (j + 1) k (by omega) (by omega)
theorem contains_no (l : List Int) (x : Int) (hl : l.length ≤ 1000000) (hx : ∀ j, j < l.length → l.getD j 0 ≠ x) (k : Nat) (hk : l.length < k) : slices_Contains_int_int.f k l x = some false := by
  unfold slices_Contains_int_int.f slices_Index_int_int.f
  have h := index_loop l x hl hx l.length 0 k (by omega) (by omega)
  have e0 : ((0 : Nat) : Int) = 0 := rfl
  rw [e0] at h
  rw [h]
  rfl
theorem st_snoc (s : List UInt8) (ns : List Int) (i : Nat) (hi : i < ns.length) : st s (ns.take (i + 1)) [] 0 = st s (ns.take i) [] 0 ++ [⟨ns.getD i 0, dat s (ns.getD i 0), 0⟩] := by
  have l1 : (ns.take (i + 1)).length = i + 1 := by rw [List.length_take]; omega
  have l2 : (ns.take i).length = i := by rw [List.length_take]; omega
  have hg : ∀ n j, j < n → (ns.take n).getD j 0 = ns.getD j 0 := by
    intro n j hj
    rw [List.getD_eq_getElem?_getD, List.getD_eq_getElem?_getD, List.getElem?_take_of_lt hj]
  unfold st
  rw [l1, l2, List.range_succ, List.map_append]
  congr 1
  · refine List.map_congr_left fun j hj => ?_
    have := List.mem_range.mp hj
    rw [hg _ _ (by omega), hg _ _ this]
  · simp only [List.map_cons, List.map_nil, Nat.not_lt_zero, if_false]
    rw [hg _ _ (by omega)]
theorem prepare_loop (s : ByteArray) (hs : s.size ≤ 1024) (ns : List Int) (c1 : Int) (hn : Asc ns) : ∀ (d i k : Nat), i + d = ns.length → d + 1200 < k →
    challenge_Prepare.l0 k s ns (ns.length : Int) (i : Int) (dsum (bs s) 1) c1 (st (bs s) (ns.take i) [] 0) = some (dsum (bs s) 1, c1, st (bs s) ns [] 0, 0)
  | 0, i, k, hi, hk => by
    obtain ⟨k, rfl⟩ : ∃ m, k = m + 1 := ⟨k - 1, by omega⟩
    rw [challenge_Prepare.l0]
    rw [if_neg (by omega), List.take_of_length_le (by omega)]
  | d + 1, i, k, hi, hk => by
    obtain ⟨k, rfl⟩ : ∃ m, k = m + 1 := ⟨k - 1, by omega⟩
    have hl := hn.len
    have hlo := hn.lo i (by omega)
    have e : rd ns (i : Int) = ns.getD i 0 := by unfold rd; rw [Int.toNat_natCast]
    rw [challenge_Prepare.l0]
    have hp : challenge_proper.f (ns.getD i 0) = some true := by
      unfold challenge_proper.f
      rw [if_pos (by omega), decide_eq_true hlo.2]
    rw [if_pos (by omega), if_pos (by omega), if_pos (by omega), e, hp]
    simp only [Option.bind_some, if_true]
    have hc : slices_Contains_int_int.f k (ns.take i) (ns.getD i 0) = some false := by
      refine contains_no _ _ (by rw [List.length_take]; omega) ?_ k (by rw [List.length_take]; omega)
      intro j hj
      rw [List.length_take] at hj
      have e2 : (ns.take i).getD j 0 = ns.getD j 0 := by rw [List.getD_eq_getElem?_getD, List.getD_eq_getElem?_getD, List.getElem?_take_of_lt (by omega)]
      have := hn.up j i (by omega) (by omega)
      rw [e2]
      omega
    rw [if_pos (by omega), Int.toNat_natCast, hc]
    simp only [Option.bind_some]
    rw [if_neg (by decide), at_some s (by omega) _ k (by omega)]
    simp only [Option.bind_some]
    rw [if_pos (by rw [st_len, List.length_take]; omega), w64 (by omega) (by omega), ← st_snoc (bs s) ns i (by omega)]
    exact prepare_loop s hs ns c1 hn d (i + 1) k (by omega) (by omega)
theorem prepare_some (s : ByteArray) (hs1 : 1 ≤ s.size) (hs : s.size ≤ 1024) (ns : List Int) (c1 : Int) (hn : Asc ns) (h1 : 1 ≤ c1 ∧ c1 ≤ 65536) (k : Nat) (hk : 1300 < k) :
    challenge_Prepare.f k s ns c1 = some (dsum (bs s) 1, c1, st (bs s) ns [] 0, 0) := by
  have hl := hn.len
  have hw : challenge_whole.f s = some true := by
    unfold challenge_whole.f
    rw [if_pos (by omega), decide_eq_true (by omega)]
  unfold challenge_Prepare.f
  rw [hw]
  simp only [Option.bind_some, if_true]
  rw [if_neg (by omega), decide_eq_false (by omega)]
  obtain ⟨k, rfl⟩ : ∃ m, k = m + 1 := ⟨k - 1, by omega⟩
  rw [challenge_Prepare.j0]
  rw [if_neg (by decide), if_neg (by omega), sum_some s (by omega) k (by omega)]
  simp only [Option.bind_some]
  exact prepare_loop s hs ns c1 hn ns.length 0 k (by omega) (by omega)
theorem dsum_rng (l : List UInt8) : 0 ≤ dsum l 1 ∧ dsum l 1 < 2147483647 := ⟨dsum_lo l 1 (by decide), dsum_hi l 1 (by decide)⟩

theorem nonces_loop {L : List Int} : ∀ (d : Nat) (ns : List Int) (n p : Int) (k : Nat), DeckOk L p → ns.length + d ≤ 64 → d < k → 1 ≤ n → n ≤ 1 + 1000 * ns.length → (∀ j, j < ns.length → 2 ≤ ns.getD j 0 ∧ ns.getD j 0 ≤ n) → (∀ j j', j < j' → j' < ns.length → ns.getD j 0 < ns.getD j' 0) →
    ∃ ns' q, storagebartermake_Nonces.l0 k ns n (d : Int) L p = some (ns', q) ∧ DeckOk L q ∧ ns'.length = ns.length + d ∧ (∀ j, j < ns'.length → 2 ≤ ns'.getD j 0 ∧ ns'.getD j 0 ≤ 1 + 1000 * 64) ∧ (∀ j j', j < j' → j' < ns'.length → ns'.getD j 0 < ns'.getD j' 0)
  | 0, ns, n, p, k, hp, hd, hk, hn, hn2, h1, h2 => by
    obtain ⟨k, rfl⟩ : ∃ m, k = m + 1 := ⟨k - 1, by omega⟩
    rw [storagebartermake_Nonces.l0]
    rw [if_neg (by omega)]
    exact ⟨ns, p, rfl, hp, by omega, fun j hj => by have := h1 j hj; omega, h2⟩
  | d + 1, ns, n, p, k, hp, hd, hk, hn, hn2, h1, h2 => by
    obtain ⟨k, rfl⟩ : ∃ m, k = m + 1 := ⟨k - 1, by omega⟩
    obtain ⟨v, q, hv, v0, v1, hq, _, _⟩ := next_some hp 1000 (by decide) (by decide)
    rw [storagebartermake_Nonces.l0]
    rw [if_pos (by omega), hv]
    simp only [Option.bind_some]
    rw [if_pos (by omega), w64 (n := 1 + v) (by omega) (by omega), w64 (n := n + (1 + v)) (by omega) (by omega), w64 (by omega) (by omega)]
    have e : ((d + 1 : Nat) : Int) - 1 = (d : Int) := by omega
    rw [e]
    have g1 : ∀ j, j < ns.length → (ns ++ [n + (1 + v)]).getD j 0 = ns.getD j 0 := fun j hj => by rw [List.getD_eq_getElem?_getD, List.getElem?_append_left hj, ← List.getD_eq_getElem?_getD]
    have g2 : (ns ++ [n + (1 + v)]).getD ns.length 0 = n + (1 + v) := by rw [List.getD_eq_getElem?_getD, List.getElem?_append_right (Nat.le_refl _)]; simp
    have hlen : (ns ++ [n + (1 + v)]).length = ns.length + 1 := by simp
    have g3 : ∀ j, j < (ns ++ [n + (1 + v)]).length → 2 ≤ (ns ++ [n + (1 + v)]).getD j 0 ∧ (ns ++ [n + (1 + v)]).getD j 0 ≤ n + (1 + v) := by
      intro j hj
      rw [hlen] at hj
      by_cases c : j < ns.length
      · rw [g1 j c]
        have := h1 j c
        omega
      · obtain rfl : j = ns.length := by omega
        rw [g2]
        omega
    have g4 : ∀ j j', j < j' → j' < (ns ++ [n + (1 + v)]).length → (ns ++ [n + (1 + v)]).getD j 0 < (ns ++ [n + (1 + v)]).getD j' 0 := by
      intro j j' hjj hj
      rw [hlen] at hj
      by_cases c : j' < ns.length
      · rw [g1 j (by omega), g1 j' c]
        exact h2 j j' hjj c
      · obtain rfl : j' = ns.length := by omega
        rw [g2, g1 j hjj]
        have := h1 j hjj
        omega
    obtain ⟨ns', q', r1, r2, r3, r4, r5⟩ := nonces_loop d (ns ++ [n + (1 + v)]) (n + (1 + v)) q k hq (by rw [hlen]; omega) (by omega) (by omega) (by rw [hlen]; omega) g3 g4
    exact ⟨ns', q', r1, r2, by rw [r3, hlen]; omega, r4, r5⟩
theorem nonces_some {L : List Int} {p : Int} (h : DeckOk L p) (k : Nat) (hk : 64 < k) : ∃ ns q, storagebartermake_Nonces.f k L p = some (ns, q) ∧ Asc ns ∧ DeckOk L q ∧ ns.length ≤ 6 := by
  obtain ⟨v, q, hv, v0, v1, hq, _, _⟩ := next_some h 7 (by decide) (by decide)
  unfold storagebartermake_Nonces.f
  rw [hv]
  simp only [Option.bind_some]
  obtain ⟨d, rfl⟩ := Int.eq_ofNat_of_zero_le v0
  obtain ⟨ns, q', r1, r2, r3, r4, r5⟩ := nonces_loop (L := L) d [] 1 q k hq (by simp; omega) (by omega) (by decide) (by simp) (by intro j hj; simp at hj) (by intro j j' _ hj; simp at hj)
  have r3' : ns.length = d := by simpa using r3
  exact ⟨ns, q', r1, ⟨by omega, fun j hj => by have := r4 j hj; omega, r5⟩, r2, by omega⟩
theorem bytes_loop {L : List Int} : ∀ (d : Nat) (b : List Int) (p : Int) (k : Nat), DeckOk L p → b.length + d ≤ 1000000 → d < k → (∀ x ∈ b, 0 ≤ x ∧ x < 256) →
    ∃ b' q, storagebartermake_Bytes.l0 k b ((d : Int) - 1) L p = some (strOfNums b', q) ∧ DeckOk L q ∧ b'.length = b.length + d ∧ ∀ x ∈ b', 0 ≤ x ∧ x < 256
  | 0, b, p, k, hp, hd, hk, hb => by
    obtain ⟨k, rfl⟩ : ∃ m, k = m + 1 := ⟨k - 1, by omega⟩
    rw [storagebartermake_Bytes.l0]
    rw [if_neg (by omega)]
    exact ⟨b, p, rfl, hp, by omega, hb⟩
  | d + 1, b, p, k, hp, hd, hk, hb => by
    obtain ⟨k, rfl⟩ : ∃ m, k = m + 1 := ⟨k - 1, by omega⟩
    obtain ⟨v, q, hv, v0, v1, hq, _, _⟩ := next_some hp 256 (by decide) (by decide)
    rw [storagebartermake_Bytes.l0]
    rw [if_pos (by omega), hv]
    simp only [Option.bind_some]
    rw [if_pos (by omega), w64 (by omega) (by omega)]
    have e : ((d + 1 : Nat) : Int) - 1 - 1 = (d : Int) - 1 := by omega
    rw [e]
    obtain ⟨b', q', r1, r2, r3, r4⟩ := bytes_loop d (b ++ [v % 256]) q k hq (by simp; omega) (by omega) (by
      intro x hx
      rcases List.mem_append.mp hx with h | h
      · exact hb x h
      · rw [List.mem_singleton.mp h]; omega)
    exact ⟨b', q', r1, r2, by rw [r3]; simp; omega, r4⟩
theorem bytes_some {L : List Int} {p : Int} (h : DeckOk L p) (most : Nat) (hm : 1 ≤ most) (hm2 : most ≤ 1000) (k : Nat) (hk : 1001 < k) :
    ∃ b q, storagebartermake_Bytes.f k L p most = some (strOfNums b, q) ∧ DeckOk L q ∧ 1 ≤ b.length ∧ b.length ≤ most ∧ ∀ x ∈ b, 0 ≤ x ∧ x < 256 := by
  obtain ⟨v, q, hv, v0, v1, hq, _, _⟩ := next_some h most (by omega) (by omega)
  unfold storagebartermake_Bytes.f
  rw [hv]
  simp only [Option.bind_some]
  obtain ⟨d, rfl⟩ := Int.eq_ofNat_of_zero_le v0
  obtain ⟨b, q', r1, r2, r3, r4⟩ := bytes_loop (L := L) (d + 1) [] q k hq (by simp; omega) (by omega) (by intro x hx; cases hx)
  have e : ((d + 1 : Nat) : Int) - 1 = (d : Int) := by omega
  rw [e] at r1
  have r3' : b.length = d + 1 := by simpa using r3
  exact ⟨b, q', r1, r2, by omega, by omega, r4⟩
end Go.Proofs.Ytfabnklcdagfjaa.PA
