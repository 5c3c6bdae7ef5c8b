/- The program's refs and their second form say the same of any index: the plain statement that is left of the law RefsDoes. -/
import Derived.Test.YtpifbgkppfginaaRefsR
import Derived.Test.YtpifbgkppfginaaText
import Derived.Test.YtpifbgkppfginaaPZx0
import Derived.Test.YtpifbgkppfginaaPZx3
import Derived.Test.YtpifbgkppfginaaPZx6
import Derived.Test.YtpifbgkppfginaaPZx36
set_option linter.unusedVariables false
namespace Go.Proofs.Ytpifbgkppfginaa.Pure
open Go.RowKit Go.Proofs.Ytpifbgkppfginaa.PZ Go.Proofs.YtpifbgkppfginaaW.PrintWords Go.Proofs.YtpifbgkppfginaaW.PrintLast Go.Proofs.Ytpifbgkppfginaa.Dig
structure Small (l : List S33) (n : Nat) : Prop where
 vx : Vx l
 len : l.length ≤ n
 cnt : ∀ r ∈ l, r.f1 ≤ n
theorem small_nil (n : Nat) : Small [] n := ⟨Vx.nil, by simp, by simp⟩
theorem Small.more {l : List S33} {n : Nat} (h : Small l n) (hn : n < 100) (s : ByteArray) (hs : s.size ≤ 16384) {A B : List S33} {o : Option S33} (ha : At l (dg s) A o B) : Small (added (dg s) s A B l.length o).1 (n + 1) := by
 have hlen := h.len
 cases o with
 | some r =>
  rw [added_there]
  have hr : r ∈ l := by cases ha with | there e => rw [e]; simp
  have hr0 : r.f0 = dg s := by cases ha with | there e hA hr => exact hr
  have h1 := h.cnt r hr
  have h2 := h.vx.rows r hr
  have h3 := h2.lo
  split
  ·rename_i c
   rw [if_neg (by omega)]
   refine ⟨At.vx_put h.vx ha ⟨h2.size, h2.dig, ?_, ?_⟩ hr0 (fun h => by cases h), ?_, ?_⟩
   ·show 1 ≤ r.f1 + 1; omega
   ·show r.f1 + 1 < 2147483647; omega
   ·cases ha with | there e => rw [e] at hlen; simp at hlen ⊢; omega
   ·intro x hx
    have old : ∀ y ∈ l, y.f1 ≤ ((n + 1 : Nat) : Int) := fun y hy => by have := h.cnt y hy; omega
    cases ha with | there e =>
     rw [e] at old
     rcases List.mem_append.mp hx with hx | hx
     ·exact old x (by simp [hx])
     ·rcases List.mem_cons.mp hx with rfl | hx
      ·show r.f1 + 1 ≤ _; omega
      ·exact old x (by simp [hx])
  ·exact small_nil _
 | none =>
  rw [added_free, if_neg (by omega)]
  refine ⟨At.vx_put h.vx ha ⟨hs, rfl, by show (1 : Int) ≤ 1; decide, by show (1 : Int) < 2147483647; decide⟩ rfl (fun _ => by omega), ?_, ?_⟩
  ·cases ha with | free e => rw [e] at hlen; simp at hlen ⊢; omega
  ·intro x hx
   have old : ∀ y ∈ l, y.f1 ≤ ((n + 1 : Nat) : Int) := fun y hy => by have := h.cnt y hy; omega
   cases ha with | free e =>
    rw [e] at old
    rcases List.mem_append.mp hx with hx | hx
    ·exact old x (by simp [hx])
    ·rcases List.mem_cons.mp hx with rfl | hx
     ·show (1 : Int) ≤ _; omega
     ·exact old x (by simp [hx])
theorem index_loop {L : List Int} : ∀ (d : Nat) (l : List S33) (n : Nat) (p : Int) (k : Nat), DeckOk L p → Small l n → n + d ≤ 50 → d + 30000 < k →
 ∃ l' q, make_Index.l0 k (d : Int) L p l = some (l', q) ∧ Small l' (n + d) ∧ DeckOk L q
 | 0, l, n, p, k, hp, hl, hn, hk => by
  obtain ⟨k, rfl⟩ : ∃ m, k = m + 1 := ⟨k - 1, by omega⟩
  rw [make_Index.l0]
  rw [if_neg (by omega)]
  exact ⟨l, p, rfl, hl, hp⟩
 | d + 1, l, n, p, k, hp, hl, hn, hk => by
  obtain ⟨k, rfl⟩ : ∃ m, k = m + 1 := ⟨k - 1, by omega⟩
  obtain ⟨s, q, e, hs, hq, _⟩ := text_some hp 4 (by decide) (by decide) k (by omega)
  obtain ⟨A, o, B, ha⟩ := at_some hl.vx.up (dg s)
  rw [make_Index.l0]
  rw [if_pos (by omega), e]
  simp only [Option.bind_some]
  rw [radd_some hl.vx s (by omega) ha k (by omega), show wrap64 (((d + 1 : Nat) : Int) - 1) = (d : Int) by rw [w64 (by omega) (by omega)]; omega]
  simp only [Option.bind_some]
  obtain ⟨l', q', e', h1, h2⟩ := index_loop d _ (n + 1) q k hq (hl.more (by omega) s (by omega) ha) (by omega) (by omega)
  exact ⟨l', q', e', by rw [show n + (d + 1) = n + 1 + d by omega]; exact h1, h2⟩
theorem index_some {L : List Int} {p : Int} (hp : DeckOk L p) (k : Nat) (hk : 30020 < k) : ∃ l q, make_Index.f k L p = some (l, q) ∧ Small l 9 ∧ DeckOk L q := by
 obtain ⟨v, q, e, hv0, hv1, hq, _⟩ := next_some hp 9 (by decide) (by decide)
 unfold make_Index.f
 rw [e]
 simp only [Option.bind_some]
 obtain ⟨m, rfl⟩ : ∃ m : Nat, v = m := ⟨v.toNat, by omega⟩
 obtain ⟨l', q', e', h1, h2⟩ := index_loop m [] 0 q k hq (small_nil 0) (by omega) (by omega)
 refine ⟨l', q', e', ⟨h1.vx, by have := h1.len; omega, fun r hr => by have := h1.cnt r hr; omega⟩, h2⟩
theorem check_any {l : List S33} (hl : l.length ≤ 1024) : ∀ (d i k : Nat), i + d = l.length → (∀ j (h : j < l.length), j < i → RowOk l[j]) → (∀ a b (ha : a < l.length) (hb : b < l.length), a < b → b < i → l[a].f0 < l[b].f0) → d + 16384 < k →
 (Vx l) ∨ (refs_valid.l0 k l (l.length : Int) (i : Int) l = some false ∧ ref09_Check.l0 k l (l.length : Int) (i : Int) l = some 2)
 | 0, i, k, hi, hv, hu, hk => by
  left
  refine ⟨hl, fun r hr => ?_, List.pairwise_iff_getElem.mpr fun a b ha hb hab => hu a b ha hb hab (by omega)⟩
  obtain ⟨j, hj, rfl⟩ := List.mem_iff_getElem.mp hr
  exact hv j hj (by omega)
 | d + 1, i, k, hi, hv, hu, hk => by
  obtain ⟨k, rfl⟩ : ∃ m, k = m + 1 := ⟨k - 1, by omega⟩
  have hil : i < l.length := by omega
  have e1 : rd_T33 l (i : Int) = l[i] := by rw [rd33, getD33]
  have e2 : wrap64 ((i : Int) + 1) = ((i + 1 : Nat) : Int) := by rw [rw64 (by omega) (by omega)]; omega
  by_cases good : RowOk l[i] ∧ (∀ a (ha : a < l.length), a + 1 = i → l[a].f0 < l[i].f0)
  ·have hu' : ∀ a b (ha : a < l.length) (hb : b < l.length), a < b → b < i + 1 → l[a].f0 < l[b].f0 := by
    intro a b ha hb hab hbi
    by_cases e : b = i
    ·subst e
     by_cases e' : a + 1 = b
     ·exact good.2 a ha e'
     ·have h1 := hu a (b - 1) ha (by omega) (by omega) (by omega)
      have h2 := good.2 (b - 1) (by omega) (by omega)
      omega
    ·exact hu a b ha hb hab (by omega)
   have hv' : ∀ j (h : j < l.length), j < i + 1 → RowOk l[j] := by
    intro j h hj
    by_cases e : j = i
    ·subst e; exact good.1
    ·exact hv j h (by omega)
   rcases check_any hl d (i + 1) k (by omega) hv' hu' (by omega) with h | ⟨h1, h2⟩
   ·exact .inl h
   ·right
    have s1 := good.1.size
    have s2 := good.1.lo
    have s3 := good.1.hi
    constructor
    ·rw [refs_valid.l0]
     rw [if_pos (by omega), if_pos (by omega), if_pos (by omega), e1, e2]
     by_cases c : (i : Int) > 0
     ·have e3 : wrap64 ((i : Int) - 1) = ((i - 1 : Nat) : Int) := by rw [rw64 (by omega) (by omega)]; omega
      have e4 : rd_T33 l ((i - 1 : Nat) : Int) = l[i - 1] := by rw [rd33, getD33]
      have lt := good.2 (i - 1) (by omega) (by omega)
      rw [if_pos c, e3, if_pos (by omega), if_pos (by omega), e4, if_neg (by omega), if_neg (by omega), sum_some _ (by omega) k (by omega)]
      simp only [Option.bind_some]
      rw [if_pos good.1.dig, if_neg (by omega), if_neg (by omega)]
      exact h1
     ·rw [if_neg c, if_neg (by omega), sum_some _ (by omega) k (by omega)]
      simp only [Option.bind_some]
      rw [if_pos good.1.dig, if_neg (by omega), if_neg (by omega)]
      exact h1
    ·rw [ref09_Check.l0]
     rw [if_pos (by omega), if_pos (by omega), if_pos (by omega), e1, e2, if_neg (by omega), rsum_some _ (by omega) k (by omega)]
     simp only [Option.bind_some]
     rw [if_pos good.1.dig]
     by_cases c : (i : Int) > 0
     ·have e3 : wrap64 ((i : Int) - 1) = ((i - 1 : Nat) : Int) := by rw [rw64 (by omega) (by omega)]; omega
      have e4 : rd_T33 l ((i - 1 : Nat) : Int) = l[i - 1] := by rw [rd33, getD33]
      have lt := good.2 (i - 1) (by omega) (by omega)
      rw [if_pos c, e3, if_pos (by omega), if_pos (by omega), e4, if_neg (by omega), if_neg (by omega), if_neg (by omega)]
      exact h2
     ·rw [if_neg c, if_neg (by omega), if_neg (by omega)]
      exact h2
  ·right
   by_cases s1 : ((l[i].f2.size : Int) > 16384)
   ·constructor
    ·rw [refs_valid.l0]
     rw [if_pos (by omega), if_pos (by omega), if_pos (by omega), e1, e2]
     by_cases c : (i : Int) > 0
     ·have e3 : wrap64 ((i : Int) - 1) = ((i - 1 : Nat) : Int) := by rw [rw64 (by omega) (by omega)]; omega
      rw [if_pos c, e3, if_pos (by omega), if_pos (by omega)]
      by_cases s3 : l[i].f0 ≤ (rd_T33 l ((i - 1 : Nat) : Int)).f0
      ·rw [if_pos s3]
      ·rw [if_neg s3, if_pos s1]
     ·rw [if_neg c, if_pos s1]
    ·rw [ref09_Check.l0]
     rw [if_pos (by omega), if_pos (by omega), if_pos (by omega), e1, e2, if_pos s1]
   ·have hs1 := sum_some l[i].f2 (by omega) k (by omega)
    have hs2 := rsum_some l[i].f2 (by omega) k (by omega)
    by_cases s2 : l[i].f0 = dg l[i].f2
    ·by_cases c : (i : Int) > 0
     ·have e3 : wrap64 ((i : Int) - 1) = ((i - 1 : Nat) : Int) := by rw [rw64 (by omega) (by omega)]; omega
      have e4 : rd_T33 l ((i - 1 : Nat) : Int) = l[i - 1] := by rw [rd33, getD33]
      constructor
      ·rw [refs_valid.l0]
       rw [if_pos (by omega), if_pos (by omega), if_pos (by omega), e1, e2, if_pos c, e3, if_pos (by omega), if_pos (by omega), e4]
       by_cases s3 : l[i].f0 ≤ l[i - 1].f0
       ·rw [if_pos s3]
       ·rw [if_neg s3, if_neg s1, hs1]
        simp only [Option.bind_some]
        rw [if_pos s2]
        by_cases s4 : l[i].f1 < 1
        ·rw [if_pos s4]
        ·rw [if_neg s4]
         by_cases s5 : l[i].f1 ≥ 2147483647
         ·rw [if_pos s5]
         ·exact absurd ⟨⟨by omega, s2, by omega, by omega⟩, fun a ha e => by subst e; simp at s3; simpa using s3⟩ good
      ·rw [ref09_Check.l0]
       rw [if_pos (by omega), if_pos (by omega), if_pos (by omega), e1, e2, if_neg s1, hs2]
       simp only [Option.bind_some]
       rw [if_pos s2, if_pos c, e3, if_pos (by omega), if_pos (by omega), e4]
       by_cases s3 : l[i].f0 ≤ l[i - 1].f0
       ·rw [if_pos s3]
       ·rw [if_neg s3]
        by_cases s4 : l[i].f1 < 1
        ·rw [if_pos s4]
        ·rw [if_neg s4]
         by_cases s5 : l[i].f1 ≥ 2147483647
         ·rw [if_pos s5]
         ·exact absurd ⟨⟨by omega, s2, by omega, by omega⟩, fun a ha e => by subst e; simp at s3; simpa using s3⟩ good
     ·constructor
      ·rw [refs_valid.l0]
       rw [if_pos (by omega), if_pos (by omega), if_pos (by omega), e1, e2, if_neg c, if_neg s1, hs1]
       simp only [Option.bind_some]
       rw [if_pos s2]
       by_cases s4 : l[i].f1 < 1
       ·rw [if_pos s4]
       ·rw [if_neg s4]
        by_cases s5 : l[i].f1 ≥ 2147483647
        ·rw [if_pos s5]
        ·exact absurd ⟨⟨by omega, s2, by omega, by omega⟩, fun a ha e => by omega⟩ good
      ·rw [ref09_Check.l0]
       rw [if_pos (by omega), if_pos (by omega), if_pos (by omega), e1, e2, if_neg s1, hs2]
       simp only [Option.bind_some]
       rw [if_pos s2, if_neg c]
       by_cases s4 : l[i].f1 < 1
       ·rw [if_pos s4]
       ·rw [if_neg s4]
        by_cases s5 : l[i].f1 ≥ 2147483647
        ·rw [if_pos s5]
        ·exact absurd ⟨⟨by omega, s2, by omega, by omega⟩, fun a ha e => by omega⟩ good
    ·constructor
     ·rw [refs_valid.l0]
      rw [if_pos (by omega), if_pos (by omega), if_pos (by omega), e1, e2]
      by_cases c : (i : Int) > 0
      ·have e3 : wrap64 ((i : Int) - 1) = ((i - 1 : Nat) : Int) := by rw [rw64 (by omega) (by omega)]; omega
       rw [if_pos c, e3, if_pos (by omega), if_pos (by omega)]
       by_cases s3 : l[i].f0 ≤ (rd_T33 l ((i - 1 : Nat) : Int)).f0
       ·rw [if_pos s3]
       ·rw [if_neg s3, if_neg s1, hs1]
        simp only [Option.bind_some]
        rw [if_neg s2]
      ·rw [if_neg c, if_neg s1, hs1]
       simp only [Option.bind_some]
       rw [if_neg s2]
     ·rw [ref09_Check.l0]
      rw [if_pos (by omega), if_pos (by omega), if_pos (by omega), e1, e2, if_neg s1, hs2]
      simp only [Option.bind_some]
      rw [if_neg s2]
theorem any_some (l : List S33) (k : Nat) (hk : 20000 < k) : Vx l ∨ (refs_valid.f k l = some false ∧ ref09_Check.f k l = some 2) := by
 by_cases c : (l.length : Int) > 1024
 ·right
  unfold refs_valid.f ref09_Check.f
  rw [if_pos c, if_pos c]
  exact ⟨rfl, rfl⟩
 ·unfold refs_valid.f ref09_Check.f
  rw [if_neg c, if_neg c]
  exact check_any (by omega) l.length 0 k (by omega) (fun j h hj => by omega) (fun a b ha hb hab hb0 => by omega) (by omega)
theorem total_same : ∀ (k : Nat) (a b : Int) (l : List S33) (n i : Int), refs_Total.l0 k a b l n i = ref09_Total.l0 k a b l n i
 | 0, _, _, _, _, _ => by rw [refs_Total.l0, ref09_Total.l0]
 | k + 1, a, b, l, n, i => by
  rw [refs_Total.l0, ref09_Total.l0]
  simp only [total_same k]
theorem total_is {l : List S33} (hl : l.length ≤ 1024) : ∀ (d i k : Nat) (a b : Int), i + d = l.length → d < k → ∃ v, refs_Total.l0 k a b l (l.length : Int) (i : Int) = some v
 | 0, i, k, a, b, hi, hk => by
  obtain ⟨k, rfl⟩ : ∃ m, k = m + 1 := ⟨k - 1, by omega⟩
  rw [refs_Total.l0, if_neg (by omega)]
  exact ⟨_, rfl⟩
 | d + 1, i, k, a, b, hi, hk => by
  obtain ⟨k, rfl⟩ : ∃ m, k = m + 1 := ⟨k - 1, by omega⟩
  rw [refs_Total.l0, if_pos (by omega), if_pos (by omega), if_pos (by omega), show wrap64 ((i : Int) + 1) = ((i + 1 : Nat) : Int) by rw [rw64 (by omega) (by omega)]; omega]
  exact total_is hl d (i + 1) k _ _ (by omega) (by omega)
theorem totals (l : List S33) (k : Nat) (hk : 20010 < k) : ∃ v, refs_Total.f k l = some v ∧ ref09_Total.f k l = some v := by
 rcases any_some l k (by omega) with h | ⟨h1, h2⟩
 ·obtain ⟨v, hv⟩ := total_is h.len l.length 0 k 0 0 (by omega) (by have := h.len; omega)
  refine ⟨v, ?_, ?_⟩
  ·unfold refs_Total.f
   rw [valid_some h k (by omega)]
   exact hv
  ·unfold ref09_Total.f
   rw [rcheck_some h k (by omega)]
   simp only [Option.bind_some, if_true]
   rw [← total_same]
   exact hv
 ·refine ⟨(0, 0, 2), ?_, ?_⟩
  ·unfold refs_Total.f
   rw [h1]; rfl
  ·unfold ref09_Total.f
   rw [h2]; rfl
theorem checks (l : List S33) (k : Nat) (hk : 20010 < k) : ∃ v, refs_Check.f k l = some v ∧ ref09_Check.f k l = some v := by
 rcases any_some l k (by omega) with h | ⟨h1, h2⟩
 ·exact ⟨0, check_some h k (by omega), rcheck_some h k (by omega)⟩
 ·refine ⟨2, ?_, h2⟩
  unfold refs_Check.f
  rw [h1]; rfl
theorem sames_loop (l m : List S33) (hl : l.length ≤ 2000) (hm : m.length = l.length) : ∀ (d i k : Nat), i + d = l.length → d < k →
 ∃ v, api_Row_34.l0 k l m (l.length : Int) (i : Int) = some v ∧ ref09_Same.l0 k (l.length : Int) (i : Int) l m = some v
 | 0, i, k, hi, hk => by
  obtain ⟨k, rfl⟩ : ∃ m, k = m + 1 := ⟨k - 1, by omega⟩
  rw [api_Row_34.l0, ref09_Same.l0, if_neg (by omega), if_neg (by omega)]
  exact ⟨_, rfl, rfl⟩
 | d + 1, i, k, hi, hk => by
  obtain ⟨k, rfl⟩ : ∃ m, k = m + 1 := ⟨k - 1, by omega⟩
  have ih := sames_loop l m hl hm d (i + 1) k (by omega) (by omega)
  have ew : wrap64 ((i : Int) + 1) = ((i + 1 : Nat) : Int) := by rw [rw64 (by omega) (by omega)]; omega
  have h1 : api_Row_34.l0 (k + 1) l m (l.length : Int) (i : Int) = if (!(rd_T33 l (i : Int)).f0 == (rd_T33 m (i : Int)).f0 || (!(rd_T33 l (i : Int)).f1 == (rd_T33 m (i : Int)).f1 || !(rd_T33 l (i : Int)).f2.toList == (rd_T33 m (i : Int)).f2.toList)) = true then some false else api_Row_34.l0 k l m (l.length : Int) ((i + 1 : Nat) : Int) := by
   rw [api_Row_34.l0, if_pos (by omega), if_pos (by omega), if_pos (by omega), if_pos (by omega), ew]
  have h2 : ref09_Same.l0 (k + 1) (l.length : Int) (i : Int) l m = if (!(rd_T33 l (i : Int)).f0 == (rd_T33 m (i : Int)).f0 || (!(rd_T33 l (i : Int)).f1 == (rd_T33 m (i : Int)).f1 || !(rd_T33 l (i : Int)).f2.toList == (rd_T33 m (i : Int)).f2.toList)) = true then some false else ref09_Same.l0 k (l.length : Int) ((i + 1 : Nat) : Int) l m := by
   rw [ref09_Same.l0, if_pos (by omega), if_pos (by omega), if_pos (by omega), if_pos (by omega), ew]
  rw [h1, h2]
  by_cases c : (!(rd_T33 l (i : Int)).f0 == (rd_T33 m (i : Int)).f0 || (!(rd_T33 l (i : Int)).f1 == (rd_T33 m (i : Int)).f1 || !(rd_T33 l (i : Int)).f2.toList == (rd_T33 m (i : Int)).f2.toList)) = true
  ·rw [if_pos c, if_pos c]
   exact ⟨_, rfl, rfl⟩
  ·rw [if_neg c, if_neg c]
   exact ih
theorem sames (l m : List S33) (hm : m.length ≤ 1024) (k : Nat) (hk : 2010 < k) : ∃ v, refs_Same.f k l m = some v ∧ ref09_Same.f k l m = some v := by
 unfold refs_Same.f api_Row_34.f ref09_Same.f
 by_cases c : (l.length : Int) = (m.length : Int)
 ·rw [if_pos c, if_pos c]
  obtain ⟨v, h1, h2⟩ := sames_loop l m (by omega) (by omega) l.length 0 k (by omega) (by omega)
  refine ⟨v, ?_, h2⟩
  rw [show api_Row_34.l0 k l m (l.length : Int) 0 = some v from h1]
  rfl
 ·rw [if_neg c, if_neg c]
  exact ⟨_, rfl, rfl⟩
theorem rsame_loop (l : List S33) (hl : l.length ≤ 2000) : ∀ (d i k : Nat), i + d = l.length → d < k → ref09_Same.l0 k (l.length : Int) (i : Int) l l = some true
 | 0, i, k, hi, hk => by
  obtain ⟨k, rfl⟩ : ∃ m, k = m + 1 := ⟨k - 1, by omega⟩
  rw [ref09_Same.l0, if_neg (by omega)]
 | d + 1, i, k, hi, hk => by
  obtain ⟨k, rfl⟩ : ∃ m, k = m + 1 := ⟨k - 1, by omega⟩
  rw [ref09_Same.l0, if_pos (by omega), if_pos (by omega), if_pos (by omega), if_pos (by omega), if_neg (by simp), show wrap64 ((i : Int) + 1) = ((i + 1 : Nat) : Int) by rw [rw64 (by omega) (by omega)]; omega]
  exact rsame_loop l hl d (i + 1) k (by omega) (by omega)
theorem rsame_some (l : List S33) (hl : l.length ≤ 2000) (k : Nat) (hk : 2010 < k) : ref09_Same.f k l l = some true := by
 unfold ref09_Same.f
 rw [if_pos rfl]
 exact rsame_loop l hl l.length 0 k (by omega) (by omega)
theorem erase_mid : ∀ (A B : List S33) (y : S33), (A ++ y :: B).eraseIdx A.length = A ++ B
 | [], B, y => rfl
 | a :: A, B, y => by
  show a :: (A ++ y :: B).eraseIdx A.length = a :: (A ++ B)
  rw [erase_mid A B y]
theorem rdrop_some {l : List S33} (h : Vx l) {d : Int} {A B : List S33} {o : Option S33} (ha : At l d A o B) (k : Nat) (hk : 20010 < k) : ref09_Drop.f k l d = some (dropped A B o) := by
 have hlen := h.len
 have hf := rfind_some hlen ha k (by omega)
 unfold ref09_Drop.f
 rw [rcheck_some h _ (by omega)]
 simp only [Option.bind_some, if_true]
 rw [hf]
 simp only [Option.bind_some]
 cases ha with
 | @there _ r e hA hr hB =>
  have hl : A.length < l.length := by rw [e]; simp
  have hg : rd_T33 l (A.length : Int) = r := by rw [rd33, e, getD_app, if_neg (by omega), Nat.sub_self]; rfl
  have ro := h.rows r (by rw [e]; simp)
  have r1 := ro.lo
  have r2 := ro.hi
  simp only [Option.isSome_some, if_true]
  rw [if_pos (by simp; omega)]
  simp only [List.nil_append]
  rw [if_pos (by omega), if_pos (by omega), hg, Int.toNat_natCast, rw64 (by omega) (by omega)]
  have hset : l.set A.length (⟨r.f0, r.f1 - 1, r.f2⟩ : S33) = A ++ ⟨r.f0, r.f1 - 1, r.f2⟩ :: B := by rw [e, set_mid]
  rw [hset]
  have hg2 : rd_T33 (A ++ (⟨r.f0, r.f1 - 1, r.f2⟩ : S33) :: B) (A.length : Int) = ⟨r.f0, r.f1 - 1, r.f2⟩ := by rw [rd33, getD_app, if_neg (by omega), Nat.sub_self]; rfl
  rw [hg2, dropped_there]
  by_cases c : r.f1 = 1
  ·have e1 : wrap64 ((A.length : Int) + 1) = ((A.length + 1 : Nat) : Int) := by rw [rw64 (by omega) (by omega)]; omega
   rw [if_pos c, if_neg (by show ¬ r.f1 - 1 > 0; omega), if_pos (by omega), e1, if_pos (by omega), if_pos (by omega), erase_mid]
  ·rw [if_neg c, if_pos (by show r.f1 - 1 > 0; omega)]
 | free e hA hB => rfl
theorem rget_some {l : List S33} (h : Vx l) {d : Int} {A B : List S33} {o : Option S33} (ha : At l d A o B) (k : Nat) (hk : 20010 < k) : ref09_Get.f k l d = some (got o) := by
 have hlen := h.len
 have hf := rfind_some hlen ha k (by omega)
 unfold ref09_Get.f
 rw [rcheck_some h _ (by omega)]
 simp only [Option.bind_some, if_true]
 rw [hf]
 simp only [Option.bind_some]
 cases ha with
 | @there _ r e hA hr hB =>
  have hl : A.length < l.length := by rw [e]; simp
  have hg : rd_T33 l (A.length : Int) = r := by rw [rd33, e, getD_app, if_neg (by omega), Nat.sub_self]; rfl
  simp only [Option.isSome_some, if_true]
  rw [if_pos (by omega), if_pos (by omega), hg]
  rfl
 | free e hA hB => rfl
theorem adds (l : List S33) (s : ByteArray) (hs : s.size ≤ 16384) (k : Nat) (hk : 20010 < k) : ∃ v, refs_Add.f k l s = some v ∧ ref09_Add.f k l s = some v ∧ v.1.length ≤ 2000 := by
 rcases any_some l k (by omega) with h | ⟨h1, h2⟩
 ·obtain ⟨A, o, B, ha⟩ := at_some h.up (dg s)
  refine ⟨_, add_some h s hs ha k hk, radd_some h s hs ha k hk, ?_⟩
  have hlen := h.len
  cases ha with
  | there e hA hr hB =>
   rw [added_there]
   rw [e] at hlen
   simp at hlen
   split
   ·split <;> simp <;> omega
   ·simp
  | free e hA hB =>
   rw [added_free]
   rw [e] at hlen
   simp at hlen
   split <;> simp <;> omega
 ·refine ⟨([], false, 2), ?_, ?_, by simp⟩
  ·unfold refs_Add.f
   rw [h1]; rfl
  ·unfold ref09_Add.f
   rw [h2]; rfl
theorem drops (l : List S33) (d : Int) (k : Nat) (hk : 20010 < k) : ∃ v, refs_Drop.f k l d = some v ∧ ref09_Drop.f k l d = some v ∧ v.1.length ≤ 2000 := by
 rcases any_some l k (by omega) with h | ⟨h1, h2⟩
 ·obtain ⟨A, o, B, ha⟩ := at_some h.up d
  refine ⟨_, drop_some h ha k hk, rdrop_some h ha k hk, ?_⟩
  have hlen := h.len
  cases ha with
  | there e hA hr hB =>
   rw [dropped_there]
   rw [e] at hlen
   simp at hlen
   split <;> simp <;> omega
  | free e hA hB => simp [dropped]
 ·refine ⟨([], false, 2), ?_, ?_, by simp⟩
  ·unfold refs_Drop.f
   rw [h1]; rfl
  ·unfold ref09_Drop.f
   rw [h2]; rfl
theorem gets (l : List S33) (d : Int) (k : Nat) (hk : 20010 < k) : ∃ v, refs_Get.f k l d = some v ∧ ref09_Get.f k l d = some v := by
 rcases any_some l k (by omega) with h | ⟨h1, h2⟩
 ·obtain ⟨A, o, B, ha⟩ := at_some h.up d
  exact ⟨_, get_some h ha k hk, rget_some h ha k hk⟩
 ·refine ⟨(⟨#[]⟩, 0, 2), ?_, ?_⟩
  ·unfold refs_Get.f
   rw [h1]; rfl
  ·unfold ref09_Get.f
   rw [h2]; rfl
theorem drops_loop (D : List Int) (T : List ByteArray) (Y : List S25) (n i : Int) (x y : List S33) (hD : D.length ≤ 10) (K : Nat) (hK : 30000 < K)
 (next : ∀ k, K ≤ k → law09_RefsDoes.l0 k D T Y n (wrap64 (i + 1)) x = some true) : ∀ (d j k : Nat), j + d = D.length → K + d < k →
 law09_RefsDoes.l2 k D T Y n i D (D.length : Int) (j : Int) x y = some true
 | 0, j, k, hj, hk => by
  obtain ⟨k, rfl⟩ : ∃ m, k = m + 1 := ⟨k - 1, by omega⟩
  rw [law09_RefsDoes.l2, if_neg (by omega)]
  exact next k (by omega)
 | d + 1, j, k, hj, hk => by
  obtain ⟨k, rfl⟩ : ∃ m, k = m + 1 := ⟨k - 1, by omega⟩
  obtain ⟨⟨v1, v2, v3⟩, a1, a2, a3⟩ := drops y (rd D (j : Int)) k (by omega)
  obtain ⟨⟨g1, g2, g3⟩, b1, b2⟩ := gets y (rd D (j : Int)) k (by omega)
  rw [law09_RefsDoes.l2, if_pos (by omega), if_pos (by omega), if_pos (by omega), a1]
  simp only [Option.bind_some]
  rw [a2]
  simp only [Option.bind_some]
  rw [b1]
  simp only [Option.bind_some]
  rw [b2]
  simp only [Option.bind_some, bne_self_eq_false, Bool.false_eq_true, if_false, if_true]
  rw [rsame_some v1 a3 k (by omega)]
  simp only [Option.bind_some, if_true]
  rw [show wrap64 ((j : Int) + 1) = ((j + 1 : Nat) : Int) by rw [rw64 (by omega) (by omega)]; omega]
  exact drops_loop D T Y n i x y hD K hK next d (j + 1) k (by omega) (by omega)
theorem adds_loop (D : List Int) (T : List ByteArray) (Y : List S25) (n i : Int) (x y : List S33) (hD : D.length ≤ 10) (hT : T.length ≤ 10) (hs : ∀ s ∈ T, s.size ≤ 16384) (K : Nat) (hK : 30000 < K)
 (next : ∀ k, K ≤ k → law09_RefsDoes.l0 k D T Y n (wrap64 (i + 1)) x = some true) : ∀ (d j k : Nat), j + d = T.length → K + d + 20 < k →
 law09_RefsDoes.l1 k D T Y n i T (T.length : Int) (j : Int) x y = some true
 | 0, j, k, hj, hk => by
  obtain ⟨k, rfl⟩ : ∃ m, k = m + 1 := ⟨k - 1, by omega⟩
  rw [law09_RefsDoes.l1, if_neg (by omega)]
  exact drops_loop D T Y n i x y hD K hK next D.length 0 k (by omega) (by omega)
 | d + 1, j, k, hj, hk => by
  obtain ⟨k, rfl⟩ : ∃ m, k = m + 1 := ⟨k - 1, by omega⟩
  have hjT : j < T.length := by omega
  have er : rdOf ByteArray.empty T (j : Int) = T[j] := by
   unfold rdOf
   rw [Int.toNat_natCast, List.getD_eq_getElem?_getD, List.getElem?_eq_getElem hjT]
   rfl
  obtain ⟨⟨v1, v2, v3⟩, a1, a2, a3⟩ := adds y T[j] (hs _ (List.getElem_mem hjT)) k (by omega)
  rw [law09_RefsDoes.l1, if_pos (by omega), if_pos (by omega), if_pos (by omega), er, a1]
  simp only [Option.bind_some]
  rw [a2]
  simp only [Option.bind_some, bne_self_eq_false, Bool.false_eq_true, if_false, if_true]
  rw [rsame_some v1 a3 k (by omega)]
  simp only [Option.bind_some, if_true]
  rw [show wrap64 ((j : Int) + 1) = ((j + 1 : Nat) : Int) by rw [rw64 (by omega) (by omega)]; omega]
  exact adds_loop D T Y n i x y hD hT hs K hK next d (j + 1) k (by omega) (by omega)
theorem each_loop (D : List Int) (T : List ByteArray) (Y : List S25) (x : List S33) (hD : D.length ≤ 10) (hT : T.length ≤ 10) (hs : ∀ s ∈ T, s.size ≤ 16384) (hY : Y.length ≤ 10) (hx : x.length ≤ 1024) : ∀ (d i k : Nat), i + d = Y.length → 30100 + d * 100 < k →
 law09_RefsDoes.l0 k D T Y (Y.length : Int) (i : Int) x = some true
 | 0, i, k, hi, hk => by
  obtain ⟨k, rfl⟩ : ∃ m, k = m + 1 := ⟨k - 1, by omega⟩
  rw [law09_RefsDoes.l0, if_neg (by omega)]
 | d + 1, i, k, hi, hk => by
  obtain ⟨k, rfl⟩ : ∃ m, k = m + 2 := ⟨k - 2, by omega⟩
  obtain ⟨y, hy⟩ : ∃ y, y = (rd_T25 Y (i : Int)).f0 := ⟨_, rfl⟩
  obtain ⟨⟨t1, t2, t3⟩, a1, a2⟩ := totals y (k + 1) (by omega)
  obtain ⟨c, b1, b2⟩ := checks y (k + 1) (by omega)
  obtain ⟨u, c1, c2⟩ := sames y x hx (k + 1) (by omega)
  have next : ∀ m, 30101 + d * 100 ≤ m → law09_RefsDoes.l0 m D T Y (Y.length : Int) (wrap64 ((i : Int) + 1)) x = some true := by
   intro m hm
   rw [show wrap64 ((i : Int) + 1) = ((i + 1 : Nat) : Int) by rw [rw64 (by omega) (by omega)]; omega]
   exact each_loop D T Y x hD hT hs hY hx d (i + 1) m (by omega) (by omega)
  rw [law09_RefsDoes.l0, if_pos (by omega), if_pos (by omega), if_pos (by omega), ← hy, a1]
  simp only [Option.bind_some]
  rw [a2]
  simp only [Option.bind_some]
  rw [b1]
  simp only [Option.bind_some]
  rw [b2]
  simp only [Option.bind_some, if_true]
  rw [c1]
  simp only [Option.bind_some]
  rw [c2]
  simp only [Option.bind_some, bne_self_eq_false]
  rw [law09_RefsDoes.j3, if_neg (by decide)]
  exact adds_loop D T Y (Y.length : Int) (i : Int) x y hD hT hs (30101 + d * 100) (by omega) next T.length 0 k (by omega) (by omega)
theorem tops (D : List Int) (T : List ByteArray) (z x b : List S33) (hD : D.length ≤ 10) (hT : T.length ≤ 10) (hs : ∀ s ∈ T, s.size ≤ 16384) (hx : x.length ≤ 1024) (k : Nat) (hk : 31000 < k) :
 law09_RefsDoes.j1 k D T z x b = some true := by
 obtain ⟨k, rfl⟩ : ∃ m, k = m + 1 := ⟨k - 1, by omega⟩
 rw [law09_RefsDoes.j1]
 simp only [Option.bind_some]
 exact each_loop D T [⟨z⟩, ⟨x⟩, ⟨b⟩] x hD hT hs (by simp) hx 3 0 k (by simp) (by omega)
theorem small_is (l : List S33) (hl : l.length ≤ 9223372036854775807) : ∀ (d i k : Nat) (n : Int), i + d = l.length → d < k → ∃ v, law09_small.l0 k n l (l.length : Int) (i : Int) = some v
 | 0, i, k, n, hi, hk => by
  obtain ⟨k, rfl⟩ : ∃ m, k = m + 1 := ⟨k - 1, by omega⟩
  rw [law09_small.l0, if_neg (by omega)]
  exact ⟨_, rfl⟩
 | d + 1, i, k, n, hi, hk => by
  obtain ⟨k, rfl⟩ : ∃ m, k = m + 1 := ⟨k - 1, by omega⟩
  rw [law09_small.l0, if_pos (by omega), if_pos (by omega), if_pos (by omega), show wrap64 ((i : Int) + 1) = ((i + 1 : Nat) : Int) by rw [rw64 (by omega) (by omega)]; omega]
  exact small_is l hl d (i + 1) k _ (by omega) (by omega)
def RefsDoesPure : Prop := ∀ (l0 : List Int) (l1 : List S33) (a2 : ByteArray) (a3 a4 : Int), l0.length ≤ maxLen → l0.length * 8 ≤ 140737488351232 → (∀ x ∈ l0, (Lit.int .i64 x).wf = true) → l1.length ≤ maxLen → a2.size ≤ 140737488351232 →
 ∃ k, law09_RefsDoes.f k l0 l1 a2 a3 a4 = some true
theorem RefsDoes : RefsDoesPure := by
 intro L z s d c h0 h1 h2 h3 h4
 have hz : z.length ≤ 9223372036854775807 := Nat.le_trans h3 (by decide)
 refine ⟨40001 + z.length, ?_⟩
 obtain ⟨k, hk⟩ : ∃ k, k = 40000 + z.length := ⟨_, rfl⟩
 rw [show 40001 + z.length = k + 1 by omega]
 have j0t : law09_RefsDoes.j0 (k + 1) L s d c true z = some true := by rw [law09_RefsDoes.j0]; rfl
 unfold law09_RefsDoes.f
 rw [sane_some _ (by omega), few_some]
 simp only [Option.bind_some, if_true]
 by_cases cf : (L.length : Int) ≤ 500
 ·rw [decide_eq_true cf, if_pos rfl]
  obtain ⟨v, hv⟩ := small_is z hz z.length 0 (k + 1) 0 (by omega) (by omega)
  have hv' : law09_small.f (k + 1) z = some v := hv
  rw [hv']
  simp only [Option.bind_some]
  cases v with
  | false => exact j0t
  | true =>
   rw [if_pos rfl]
   by_cases c2 : (s.size : Int) > 2000
   ·rw [decide_eq_true c2]
    exact j0t
   ·rw [decide_eq_false c2, law09_RefsDoes.j0, if_neg (by decide)]
    have en : make_New.f L = some (L, 0) := rfl
    rw [en]
    simp only [Option.bind_some]
    obtain ⟨x, q, ex, hx, hq⟩ := index_some (L := L) (p := 0) ⟨by decide, by omega, by omega⟩ k (by omega)
    have hxl := hx.len
    rw [ex]
    simp only [Option.bind_some]
    rw [if_pos (by simp; omega)]
    simp only [List.nil_append]
    rw [sum_some s (by omega) k (by omega)]
    simp only [Option.bind_some]
    obtain ⟨t, q2, et, ht, hq2, _⟩ := text_some hq 4 (by decide) (by decide) k (by omega)
    rw [et]
    simp only [Option.bind_some]
    by_cases c3 : (x.length : Int) > 0
    ·obtain ⟨m, q3, em, hm0, hm1, _⟩ := next_some hq2 (x.length : Int) (by omega) (by omega)
     obtain ⟨j, rfl⟩ : ∃ j : Nat, m = j := ⟨m.toNat, by omega⟩
     have hj : j < x.length := by omega
     have ro := hx.vx.rows _ (List.getElem_mem hj)
     rw [if_pos c3, em]
     simp only [Option.bind_some]
     rw [if_pos (by omega), if_pos (by omega)]
     rw [if_pos (by simp), if_pos (by simp)]
     refine tops _ _ z x _ (by simp) (by simp) ?_ (by omega) k (by omega)
     intro u hu
     have hrd : (rd_T33 (x.set j ⟨(rd_T33 x (j : Int)).f0, c, (rd_T33 x (j : Int)).f2⟩) (j : Int)).f2.size ≤ 16384 := by
      rw [rd33, getD33 (by rw [List.length_set]; exact hj), List.getElem_set, if_pos rfl]
      show (rd_T33 x (j : Int)).f2.size ≤ 16384
      rw [rd33, getD33 hj]
      exact ro.size
     simp only [List.mem_append, List.mem_cons, List.not_mem_nil, or_false, Int.toNat_natCast] at hu
     rcases hu with (rfl | rfl) | rfl
     ·omega
     ·omega
     ·exact hrd
    ·rw [if_neg c3]
     refine tops _ _ z x _ (by simp) (by simp) ?_ (by omega) k (by omega)
     intro u hu
     simp only [List.mem_cons, List.not_mem_nil, or_false] at hu
     rcases hu with rfl | rfl <;> omega
 ·rw [decide_eq_false cf, if_neg (by decide)]
  exact j0t
end Go.Proofs.Ytpifbgkppfginaa.Pure
