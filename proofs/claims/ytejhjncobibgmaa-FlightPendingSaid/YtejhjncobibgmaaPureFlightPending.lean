/- What is pending between all pairs is all that is in flight: the plain statement that is left of the law FlightPending. -/
import Derived.Test.YtejhjncobibgmaaFltP
import Derived.Test.YtejhjncobibgmaaPAx0
import Derived.Test.YtejhjncobibgmaaPAx19
import Derived.Test.YtejhjncobibgmaaPAx25
import Derived.Test.YtejhjncobibgmaaPAx26
import Derived.Test.YtejhjncobibgmaaPAx27
import Derived.Test.YtejhjncobibgmaaPAx28
import Derived.Test.YtejhjncobibgmaaPAx29
import Derived.Test.YtejhjncobibgmaaPAx33
set_option linter.unusedVariables false
namespace Go.Proofs.Ytejhjncobibgmaa.Pure
open Go.RowKit Go.Proofs.Ytejhjncobibgmaa.PA Go.Proofs.YtejhjncobibgmaaW.PrintWords Go.Proofs.YtejhjncobibgmaaW.PrintLast
theorem sane_some (k : Nat) (hk : 40 ≤ k) : storagebarterlaw27_sane.f k = some true := by
  have h40 : storagebarterlaw27_sane.f 40 = some true := by decide +kernel
  have key : ∀ d, storagebarterlaw27_sane.f (40 + d) = some true := by
    intro d
    induction d with
    | zero => exact h40
    | succ d ih => exact storagebarterlaw27_sane.mono _ _ ih
  have := key (k - 40)
  rwa [show 40 + (k - 40) = k by omega] at this
theorem rd_at (l : List S27) (i : Nat) (h : i < l.length) : rd_T27 l (i : Int) = l[i] := by rw [rd27, getD27 h]
theorem up (F : Nat → Option Bool) (h : ∀ k, LeO (F k) (F (k + 1))) {k : Nat} (hk : F k = some true) (m : Nat) (hm : k ≤ m) : F m = some true := by
  obtain ⟨d, rfl⟩ : ∃ d, m = k + d := ⟨m - k, by omega⟩
  induction d with
  | zero => exact hk
  | succ d ih => exact h (k + d) _ (ih (by omega))
/-- A flight between three peers, with numbers below n and at most c parcels. -/
structure Fl (l : List S27) (n : Int) (c : Nat) : Prop where
  asc : Asc l
  num : ∀ x ∈ l, x.f3 < n
  len : l.length ≤ c
  who : ∀ x ∈ l, 1 ≤ x.f0 ∧ x.f0 ≤ 3 ∧ 1 ≤ x.f1 ∧ x.f1 ≤ 3
/-- The reference's sending. -/
theorem rsend_loop (t delay next : Int) (l : List S27) (hu : Asc l) (hl : l.length ≤ 1000) (p : S27) (hp : p.f3 = next) (hnum : ∀ x ∈ l, x.f3 < next) (hn : 0 ≤ next ∧ next ≤ 1000) : ∀ (i k : Nat), i ≤ l.length → i < k → (∀ j, i ≤ j → j < l.length → p.f2 < (l.getD j z27).f2) →
    storagebarterref27_Send.l0 k (i : Int) t delay next l p.f0 p.f1 p.f2 p.f3 p.f4 = some (t, delay, next + 1, put2 l p, 0)
  | i, k, hi, hk, hj => by
    obtain ⟨k, rfl⟩ : ∃ m, k = m + 1 := ⟨k - 1, by omega⟩
    have fin : (∀ j, j < i → (l.getD j z27).f2 ≤ p.f2) → l.take i ++ [p] ++ l.drop i = put2 l p := by
      intro h
      rw [← put1_eq l p (by rw [hp]; exact hnum)]
      refine put_is hi (fun j hj' => ?_) (fun j hj1 hj2 => ?_)
      · have h1 := h j hj'
        have h2 := hnum (l.getD j z27) (by rw [getD27 (by omega)]; exact List.getElem_mem _)
        unfold Bf
        omega
      · have h1 := hj j hj1 hj2
        unfold Bf
        omega
    have e27 : (⟨p.f0, p.f1, p.f2, p.f3, p.f4⟩ : S27) = p := rfl
    rw [storagebarterref27_Send.l0]
    by_cases c : i = 0
    · subst c
      rw [if_neg (by omega), if_pos (by omega), if_pos (by omega)]
      simp only [Option.bind_some, Int.toNat_natCast, List.nil_append, e27]
      rw [if_pos (by rw [List.length_nil, List.length_take]; omega), if_pos (by rw [List.length_take, List.length_singleton]; omega), if_pos (by rw [List.length_append, List.length_take, List.length_drop, List.length_singleton]; omega), fin (by intro j hj; omega), fw64 (by omega) (by omega)]
    · have e1 : wrap64 ((i : Int) - 1) = ((i - 1 : Nat) : Int) := by rw [fw64 (by omega) (by omega)]; omega
      rw [if_pos (by omega), e1, if_pos (by omega), if_pos (by omega), rd27]
      by_cases c2 : (l.getD (i - 1) z27).f2 > p.f2
      · rw [if_pos c2]
        refine rsend_loop t delay next l hu hl p hp hnum hn (i - 1) k (by omega) (by omega) ?_
        intro j h1 h2
        rcases Nat.lt_or_ge j i with h | h
        · obtain rfl : j = i - 1 := by omega
          exact c2
        · exact hj j h h2
      · rw [if_neg c2, if_pos (by omega), if_pos (by omega)]
        simp only [Option.bind_some, Int.toNat_natCast, List.nil_append, e27]
        rw [if_pos (by rw [List.length_nil, List.length_take]; omega), if_pos (by rw [List.length_take, List.length_singleton]; omega), if_pos (by rw [List.length_append, List.length_take, List.length_drop, List.length_singleton]; omega), fin ?_, fw64 (by omega) (by omega)]
        intro j hj'
        rcases Nat.lt_or_ge j (i - 1) with h | h
        · have := hu.lt h (by omega)
          unfold Bf at this
          omega
        · obtain rfl : j = i - 1 := by omega
          omega
theorem rsend_some (t delay next : Int) (l : List S27) (hu : Asc l) (hl : l.length ≤ 1000) (hnum : ∀ x ∈ l, x.f3 < next) (hn : 0 ≤ next ∧ next ≤ 1000) (a b w : Int) (s : ByteArray) (ha : 1 ≤ a ∧ a ≤ 3) (hb : 1 ≤ b ∧ b ≤ 3) (hw : 0 ≤ w ∧ w ≤ 3) (hs : s.size ≤ 100) (ht : 0 ≤ t ∧ t ≤ 1000) (k : Nat) (hk : l.length + 5 < k) :
    storagebarterref27_Send.f k t delay next l a b w s = some (if w ≥ delay then (t, delay, next, l, 1) else (t, delay, next + 1, put2 l ⟨a, b, t + 1 + w, next, s⟩, 0)) := by
  obtain ⟨k, rfl⟩ : ∃ m, k = m + 2 := ⟨k - 2, by omega⟩
  unfold storagebarterref27_Send.f
  rw [if_neg (by omega), if_neg (by omega), if_neg (by omega), if_neg (by omega), if_neg (by omega), storagebarterref27_Send.j0]
  by_cases c : w ≥ delay
  · rw [if_pos (decide_eq_true c), if_pos c]
  · rw [if_neg (by simpa using c), if_neg c, if_neg (by omega), storagebarterref27_Send.j1]
    rw [if_neg (by simp; omega), fw64 (n := t + 1) (by omega) (by omega), fw64 (n := t + 1 + w) (by omega) (by omega)]
    exact rsend_loop t delay next l hu hl ⟨a, b, t + 1 + w, next, s⟩ rfl hnum hn l.length k (Nat.le_refl _) (by omega) (by intro j h1 h2; omega)
theorem rpass_loop (t delay next : Int) (l : List S27) (hl : l.length ≤ 1000) : ∀ (d i k : Nat) (A B : List S27), i + d = l.length → d < k → A.length ≤ i → B.length ≤ i →
    storagebarterref27_Pass.l0 k A B (i : Int) t delay next l = some (t, delay, next, B ++ beyond (l.drop i) t, A ++ upTo (l.drop i) t, 0)
  | 0, i, k, A, B, hi, hk, hA, hB => by
    obtain ⟨k, rfl⟩ : ∃ m, k = m + 1 := ⟨k - 1, by omega⟩
    rw [storagebarterref27_Pass.l0]
    rw [if_neg (by omega), List.drop_of_length_le (by omega)]
    simp [beyond, upTo]
  | d + 1, i, k, A, B, hi, hk, hA, hB => by
    obtain ⟨k, rfl⟩ : ∃ m, k = m + 1 := ⟨k - 1, by omega⟩
    have hil : i < l.length := by omega
    rw [storagebarterref27_Pass.l0]
    rw [if_pos (by omega), if_pos (by omega), rd_at l i hil, fw64 (by omega) (by omega), show (i : Int) + 1 = ((i + 1 : Nat) : Int) by omega, List.drop_eq_getElem_cons hil]
    have e27 : (⟨l[i].f0, l[i].f1, l[i].f2, l[i].f3, l[i].f4⟩ : S27) = l[i] := rfl
    by_cases c : l[i].f2 ≤ t
    · rw [if_pos c, if_pos (by omega), e27, rpass_loop t delay next l hl d (i + 1) k (A ++ [l[i]]) B (by omega) (by omega) (by rw [List.length_append, List.length_singleton]; omega) (by omega)]
      unfold beyond upTo
      rw [List.filter_cons_of_neg (by simp; omega), List.filter_cons_of_pos (by simpa using c)]
      simp
    · rw [if_neg c, if_pos (by omega), e27, rpass_loop t delay next l hl d (i + 1) k A (B ++ [l[i]]) (by omega) (by omega) (by omega) (by rw [List.length_append, List.length_singleton]; omega)]
      unfold beyond upTo
      rw [List.filter_cons_of_pos (by simp; omega), List.filter_cons_of_neg (by simpa using c)]
      simp
theorem rpass_some (t delay next : Int) (l : List S27) (hl : l.length ≤ 1000) (ht : 0 ≤ t ∧ t ≤ 1000) (k : Nat) (hk : l.length < k) : storagebarterref27_Pass.f k t delay next l = some (t + 1, delay, next, beyond l (t + 1), upTo l (t + 1), 0) := by
  unfold storagebarterref27_Pass.f
  rw [if_neg (by omega), fw64 (by omega) (by omega)]
  have := rpass_loop (t + 1) delay next l hl l.length 0 k [] [] (by omega) hk (by simp) (by simp)
  simpa using this
theorem shard_some (s : List Int) (hs : Bytes_ s) (at_ : Int) (h0 : 0 ≤ at_) (h1 : at_ ≤ s.length) : ∃ t a, storagebarterplay_Dice_Shard.f s at_ = some (t, a) ∧ t.size ≤ 100 ∧ 0 ≤ a ∧ a ≤ s.length := by
  obtain ⟨v, a, e, p, q, r, u⟩ := pick_some s hs at_ h0 h1 4 (by decide) (by decide)
  unfold storagebarterplay_Dice_Shard.f
  simp only [Option.bind_some]
  rw [e]
  simp only [Option.bind_some]
  rw [if_pos p, if_pos (by simpa using q)]
  refine ⟨_, _, rfl, ?_, r, u⟩
  have hv : v = 0 ∨ v = 1 ∨ v = 2 ∨ v = 3 := by omega
  rcases hv with rfl | rfl | rfl | rfl <;> decide
theorem Fl.put {l : List S27} {n : Int} {c : Nat} (h : Fl l n c) (x : S27) (hx : x.f3 = n) (hw : 1 ≤ x.f0 ∧ x.f0 ≤ 3 ∧ 1 ≤ x.f1 ∧ x.f1 ≤ 3) : Fl (put2 l x) (n + 1) (c + 1) := by
  refine ⟨put2_asc h.asc (fun y hy => by rw [hx]; exact h.num y hy), fun y hy => ?_, ?_, fun y hy => ?_⟩
  · rcases put2_mem.mp hy with rfl | hy
    · omega
    · have := h.num y hy
      omega
  · rw [put2_length l h.asc]
    have := h.len
    omega
  · rcases put2_mem.mp hy with rfl | hy
    · exact hw
    · exact h.who y hy
theorem Fl.cut {l : List S27} {n : Int} {c : Nat} (h : Fl l n c) (d : Int) : Fl (beyond l d) n c :=
  ⟨h.asc.filter _, fun x hx => h.num x (List.mem_filter.mp hx).1, Nat.le_trans (List.length_filter_le _ _) h.len, fun x hx => h.who x (List.mem_filter.mp hx).1⟩
theorem Fl.more {l : List S27} {n : Int} {c : Nat} (h : Fl l n c) : Fl l n (c + 1) := ⟨h.asc, h.num, Nat.le_succ_of_le h.len, h.who⟩
theorem flight_loop (s : List Int) (hs : Bytes_ s) : ∀ (m : Nat) (k : Nat) (at_ t delay next : Int) (l : List S27) (c : Nat), m + 200 ≤ k → c + m ≤ 20 → 0 ≤ at_ → at_ ≤ s.length → 0 ≤ t → t + m ≤ 20 → 0 ≤ next → next + m ≤ 20 → Fl l next c →
    ∃ t' d' n' l' a', storagebarterplay_Dice_Flight.l0 k (m : Int) s at_ t delay next l = some (t', d', n', l', a') ∧ ∃ n, Fl l' n 20
  | 0, k, at_, t, delay, next, l, c, hk, hc, h0, h1, h2, h3, h4, h5, h6 => by
    obtain ⟨k, rfl⟩ : ∃ m, k = m + 1 := ⟨k - 1, by omega⟩
    rw [storagebarterplay_Dice_Flight.l0]
    rw [if_neg (by omega)]
    exact ⟨_, _, _, _, _, rfl, next, h6.asc, h6.num, Nat.le_trans h6.len (by omega), h6.who⟩
  | m + 1, k, at_, t, delay, next, l, c, hk, hc, h0, h1, h2, h3, h4, h5, h6 => by
    obtain ⟨k, rfl⟩ : ∃ m, k = m + 1 := ⟨k - 1, by omega⟩
    obtain ⟨v1, a1, e1, p1, q1, r1, u1⟩ := pick_some s hs at_ h0 h1 3 (by decide) (by decide)
    obtain ⟨v2, a2, e2, p2, q2, r2, u2⟩ := pick_some s hs a1 r1 u1 3 (by decide) (by decide)
    obtain ⟨v3, a3, e3, p3, q3, r3, u3⟩ := pick_some s hs a2 r2 u2 3 (by decide) (by decide)
    obtain ⟨x, a4, e4, hx, r4, u4⟩ := shard_some s hs a3 r3 u3
    obtain ⟨v5, a5, e5, p5, q5, r5, u5⟩ := pick_some s hs a4 r4 u4 4 (by decide) (by decide)
    have hl := h6.len
    have em : wrap64 (((m + 1 : Nat) : Int) - 1) = (m : Int) := by rw [fw64 (by omega) (by omega)]; omega
    rw [storagebarterplay_Dice_Flight.l0]
    rw [if_pos (by omega), e1, Option.bind_some, e2, Option.bind_some, e3, Option.bind_some, e4, Option.bind_some, fw64 (n := 1 + v1) (by omega) (by omega), fw64 (n := 1 + v2) (by omega) (by omega),
      rsend_some t delay next l h6.asc (by omega) h6.num (by omega) (1 + v1) (1 + v2) v3 x (by omega) (by omega) (by omega) hx (by omega) k (by omega), Option.bind_some, e5, Option.bind_some, em]
    by_cases c1 : v3 ≥ delay
    · rw [if_pos c1]
      by_cases c2 : v5 = 0
      · rw [if_pos c2, rpass_some t delay next l (by omega) (by omega) k (by omega), Option.bind_some]
        exact flight_loop s hs m k a5 (t + 1) delay next _ c (by omega) (by omega) r5 u5 (by omega) (by omega) h4 (by omega) (h6.cut _)
      · rw [if_neg c2]
        exact flight_loop s hs m k a5 t delay next l c (by omega) (by omega) r5 u5 h2 (by omega) h4 (by omega) h6
    · rw [if_neg c1]
      have hput := h6.put (⟨1 + v1, 1 + v2, t + 1 + v3, next, x⟩ : S27) rfl ⟨by show 1 ≤ 1 + v1; omega, by show 1 + v1 ≤ 3; omega, by show 1 ≤ 1 + v2; omega, by show 1 + v2 ≤ 3; omega⟩
      by_cases c2 : v5 = 0
      · rw [if_pos c2, rpass_some t delay (next + 1) _ (by have := hput.len; show (put2 l _).length ≤ 1000; omega) (by omega) k (by have := hput.len; show (put2 l _).length < k; omega), Option.bind_some]
        exact flight_loop s hs m k a5 (t + 1) delay (next + 1) _ (c + 1) (by omega) (by omega) r5 u5 (by omega) (by omega) (by omega) (by omega) (hput.cut _)
      · rw [if_neg c2]
        exact flight_loop s hs m k a5 t delay (next + 1) _ (c + 1) (by omega) (by omega) r5 u5 h2 (by omega) (by omega) (by omega) hput
def of (l : List S27) (a b : Int) : List S27 := l.filter fun x => decide (x.f0 = a ∧ x.f1 = b)
theorem inner (T D X : Int) (L l : List S27) (hl : l.length ≤ 1000) (hu : Asc l) (a b n : Int) (hall : ∀ x ∈ l, x.f0 = a ∧ x.f1 = b) : ∀ (d i : Nat), i + d = l.length →
    (∃ k, storagebarterlaw27_FlightPending.l1 k n a (wrap64 (b + 1)) T D X L = some true) → ∃ k, storagebarterlaw27_FlightPending.l2 k n a b l l (l.length : Int) (i : Int) T D X L = some true
  | 0, i, hi, ⟨k, h⟩ => by
    refine ⟨k + 1, ?_⟩
    rw [storagebarterlaw27_FlightPending.l2]
    rw [if_neg (by omega)]
    exact h
  | d + 1, i, hi, h => by
    have hil : i < l.length := by omega
    obtain ⟨k, hk⟩ := inner T D X L l hl hu a b n hall d (i + 1) (by omega) h
    obtain ⟨h1, h2⟩ := hall l[i] (List.getElem_mem _)
    refine ⟨k + 1, ?_⟩
    rw [storagebarterlaw27_FlightPending.l2]
    rw [if_pos (by omega), if_pos (by omega), if_pos (by omega), rd_at l i hil, if_pos h1, if_pos h2, fw64 (n := (i : Int) + 1) (by omega) (by omega), show (i : Int) + 1 = ((i + 1 : Nat) : Int) by omega]
    by_cases c : i = 0
    · rw [if_neg (by omega)]
      exact hk
    · have e1 : wrap64 ((i : Int) - 1) = ((i - 1 : Nat) : Int) := by rw [fw64 (by omega) (by omega)]; omega
      have hb := List.pairwise_iff_getElem.mp hu (i - 1) i (by omega) hil (by omega)
      unfold Bf at hb
      rw [if_pos (by omega), e1, if_pos (by omega), if_pos (by omega), rd_at l (i - 1) (by omega), if_neg (by omega)]
      by_cases c2 : l[i - 1].f2 = l[i].f2
      · rw [if_pos c2, if_neg (by omega)]
        exact hk
      · rw [if_neg c2]
        exact hk
theorem pair (T D X : Int) (L : List S27) (hL : L.length ≤ 1000) (hu : Asc L) (a b : Int) (n : Int) (hn : 0 ≤ n ∧ n ≤ 100000) (hb : 1 ≤ b ∧ b ≤ 3)
    (h : ∃ k, storagebarterlaw27_FlightPending.l1 k (n + (of L a b).length) a (b + 1) T D X L = some true) : ∃ k, storagebarterlaw27_FlightPending.l1 k n a b T D X L = some true := by
  have hle : (of L a b).length ≤ L.length := List.length_filter_le _ _
  obtain ⟨k, hk⟩ := inner T D X L (of L a b) (by omega) (hu.filter _) a b (n + (of L a b).length) (fun x hx => of_decide_eq_true (List.mem_filter.mp hx).2) (of L a b).length 0 (by omega) (by rw [fw64 (by omega) (by omega)]; exact h)
  refine ⟨k + 1, ?_⟩
  rw [storagebarterlaw27_FlightPending.l1]
  rw [if_pos (by omega), pending_some _ _ _ _ (by omega), Option.bind_some, fw64 (n := n + _) (by show (-9223372036854775808 : Int) ≤ n + ((of L a b).length : Int); omega) (by show n + ((of L a b).length : Int) ≤ 9223372036854775807; omega)]
  exact hk
theorem row (T D X : Int) (L : List S27) (hL : L.length ≤ 1000) (hu : Asc L) (a : Int) (n : Int) (hn : 0 ≤ n ∧ n ≤ 50000) (ha : 1 ≤ a ∧ a ≤ 3)
    (h : ∃ k, storagebarterlaw27_FlightPending.l0 k (n + (of L a 1).length + (of L a 2).length + (of L a 3).length) (a + 1) T D X L = some true) : ∃ k, storagebarterlaw27_FlightPending.l0 k n a T D X L = some true := by
  have h1 : (of L a 1).length ≤ L.length := List.length_filter_le _ _
  have h2 : (of L a 2).length ≤ L.length := List.length_filter_le _ _
  have h3 : (of L a 3).length ≤ L.length := List.length_filter_le _ _
  have h4 : ∃ k, storagebarterlaw27_FlightPending.l1 k (n + (of L a 1).length + (of L a 2).length + (of L a 3).length) a (3 + 1) T D X L = some true := by
    obtain ⟨k, hk⟩ := h
    refine ⟨k + 1, ?_⟩
    rw [storagebarterlaw27_FlightPending.l1]
    rw [if_neg (by decide), fw64 (n := a + 1) (by omega) (by omega)]
    exact hk
  obtain ⟨k, hk⟩ := pair T D X L hL hu a 1 n (by omega) (by decide) (pair T D X L hL hu a 2 _ (by omega) (by decide) (pair T D X L hL hu a 3 _ (by omega) (by decide) h4))
  refine ⟨k + 1, ?_⟩
  rw [storagebarterlaw27_FlightPending.l0]
  rw [if_pos (by omega)]
  exact hk
theorem count_pairs (p q : S27 → Bool) (l : List S27) (h : ∀ x ∈ l, (p x = true) ≠ (q x = true)) : (l.filter p).length + (l.filter q).length = l.length := by
  induction l with
  | nil => rfl
  | cons x l ih =>
    have hx := h x (by simp)
    have := ih fun y hy => h y (by simp [hy])
    rw [List.filter_cons, List.filter_cons, List.length_cons]
    cases hp : p x <;> cases hq : q x <;> simp [hp, hq] at hx ⊢ <;> omega
theorem of_cons (x : S27) (l : List S27) (a b : Int) : (of (x :: l) a b).length = (of l a b).length + (if x.f0 = a ∧ x.f1 = b then 1 else 0) := by
  unfold of
  rw [List.filter_cons]
  by_cases h : x.f0 = a ∧ x.f1 = b
  · rw [if_pos (decide_eq_true h), if_pos h, List.length_cons]
  · rw [if_neg (by simpa using h), if_neg h, Nat.add_zero]
theorem of_sum (l : List S27) : ∀ (h : ∀ x ∈ l, 1 ≤ x.f0 ∧ x.f0 ≤ 3 ∧ 1 ≤ x.f1 ∧ x.f1 ≤ 3), (of l 1 1).length + (of l 1 2).length + (of l 1 3).length + ((of l 2 1).length + (of l 2 2).length + (of l 2 3).length) + ((of l 3 1).length + (of l 3 2).length + (of l 3 3).length) = l.length := by
  induction l with
  | nil => intro _; rfl
  | cons x l ih =>
    intro h
    obtain ⟨a1, a2, b1, b2⟩ := h x (by simp)
    have := ih fun y hy => h y (by simp [hy])
    have ha : x.f0 = 1 ∨ x.f0 = 2 ∨ x.f0 = 3 := by omega
    have hb : x.f1 = 1 ∨ x.f1 = 2 ∨ x.f1 = 3 := by omega
    simp only [of_cons, List.length_cons]
    rcases ha with ha | ha | ha <;> rcases hb with hb | hb | hb <;> simp [ha, hb] <;> omega
theorem FlightPending : storagebarterlaw27_FlightPending.Pure := by
  intro l0 _ _ hb
  obtain ⟨s, es, hs⟩ := new_some l0 hb
  obtain ⟨v1, a1, e1, p1, q1, r1, u1⟩ := pick_some s hs 0 (by decide) (by omega) 3 (by decide) (by decide)
  obtain ⟨m, a2, e2, p2, q2, r2, u2⟩ := pick_some s hs a1 r1 u1 10 (by decide) (by decide)
  obtain ⟨m, rfl⟩ := Int.eq_ofNat_of_zero_le p2
  have hfl : ∀ k, 300 ≤ k → ∃ t' d' n' l' a', storagebarterplay_Dice_Flight.f k s 0 = some (t', d', n', l', a') ∧ ∃ n, Fl l' n 20 := by
    intro k hk
    obtain ⟨t', d', n', l', a', e, h⟩ := flight_loop s hs m k a2 0 (1 + v1) 0 [] 0 (by omega) (by omega) r2 u2 (by omega) (by omega) (by omega) (by omega) ⟨List.Pairwise.nil, by simp, by simp, by simp⟩
    refine ⟨t', d', n', l', a', ?_, h⟩
    unfold storagebarterplay_Dice_Flight.f storagebarterref27_New.f
    rw [e1, Option.bind_some, fw64 (n := 1 + v1) (by omega) (by omega), if_neg (by omega), if_neg (by omega), Option.bind_some, e2, Option.bind_some]
    exact e
  obtain ⟨t', d', n', l', a', e, n, hF⟩ := hfl 300 (by omega)
  have hL : l'.length ≤ 1000 := Nat.le_trans hF.len (by decide)
  have hsum := of_sum l' hF.who
  have hlen := hF.len
  have hend : ∃ k, storagebarterlaw27_FlightPending.l0 k ((l'.length : Int)) (3 + 1) t' d' n' l' = some true := by
    refine ⟨1, ?_⟩
    rw [storagebarterlaw27_FlightPending.l0]
    rw [if_neg (by decide)]
    simp
  have go := row t' d' n' l' hL hF.asc 1 0 (by decide) (by decide) (row t' d' n' l' hL hF.asc 2 _ (by omega) (by decide) (row t' d' n' l' hL hF.asc 3 _ (by omega) (by decide) (by
    have : (0 + (of l' 1 1).length + (of l' 1 2).length + (of l' 1 3).length + (of l' 2 1).length + (of l' 2 2).length + (of l' 2 3).length + (of l' 3 1).length + (of l' 3 2).length + (of l' 3 3).length : Int) = (l'.length : Int) := by omega
    rw [this]
    exact hend)))
  obtain ⟨k, hk⟩ := go
  obtain ⟨K, hK1, hK2⟩ : ∃ K, k ≤ K ∧ 300 ≤ K := ⟨k + 300, by omega, by omega⟩
  have hk2 := up (fun k => storagebarterlaw27_FlightPending.l0 k 0 1 t' d' n' l') (fun k => (storagebarterlaw27_FlightPending.mono_l k).1 _ _ _ _ _ _) hk K hK1
  have eK : storagebarterplay_Dice_Flight.f K s 0 = some (t', d', n', l', a') := by
    obtain ⟨d, rfl⟩ : ∃ d, K = 300 + d := ⟨K - 300, by omega⟩
    clear hk2 hK1 hK2
    induction d with
    | zero => exact e
    | succ d ih => exact storagebarterplay_Dice_Flight.mono _ _ _ _ ih
  refine ⟨K, ?_⟩
  unfold storagebarterlaw27_FlightPending.f
  rw [sane_some _ (by omega), Option.bind_some, if_pos rfl, es, Option.bind_some, eK, Option.bind_some]
  exact hk2
end Go.Proofs.Ytejhjncobibgmaa.Pure
