/- What the second form of refs returns for valid indexes; and equality of indexes. -/
import Derived.Test.YtpifbgkppfginaaRefs
import Derived.Test.YtpifbgkppfginaaPZx0
import Derived.Test.YtpifbgkppfginaaPZx6
set_option linter.unusedVariables false
set_option linter.unusedSimpArgs false
namespace Go.Proofs.Ytpifbgkppfginaa.PZ
open Go.RowKit Go.Proofs.YtpifbgkppfginaaW.PrintWords Go.Proofs.YtpifbgkppfginaaW.PrintLast Go.Proofs.Ytpifbgkppfginaa.Dig
theorem rsum_loop (s : ByteArray) (hs : s.size ≤ 562949953405408) : ∀ (n i k : Nat) (d : Int), 0 ≤ d → d < P → i + n = s.size → n < k →
 ref02_Sum.l0 k s d (i : Int) = some (dsum ((bs s).drop i) d)
 | 0, i, k, d, d0, d1, hi, hk => by
  obtain ⟨k, rfl⟩ : ∃ m, k = m + 1 := ⟨k - 1, by omega⟩
  simp only [ref02_Sum.l0]
  rw [if_neg (by omega), List.drop_eq_nil_of_le (by show s.size ≤ i; omega)]
  rfl
 | n + 1, i, k, d, d0, d1, hi, hk => by
  obtain ⟨k, rfl⟩ : ∃ m, k = m + 1 := ⟨k - 1, by omega⟩
  obtain ⟨b, hb, hd⟩ := bs_drop s i (by omega)
  simp only [ref02_Sum.l0]
  rw [if_pos (by omega), if_pos (by omega), hb, sum_step d0 d1, rw64 (n := (i : Int) + 1) (by omega) (by omega)]
  have := rsum_loop s hs n (i + 1) k _ (em_lo (d * 1000003 + (b.toNat : Int) + 1)) (em_hi _) (by omega) (by omega)
  rw [hd, dsum]
  exact this
theorem rsum_some (s : ByteArray) (hs : s.size ≤ 562949953405408) (k : Nat) (hk : s.size < k) : ref02_Sum.f k s = some (dg s) := by
 have := rsum_loop s hs s.size 0 k 1 (by decide) (by decide) (by omega) hk
 simpa [ref02_Sum.f, dg] using this
theorem check_loop {l : List S33} (h : Vx l) : ∀ (d i k : Nat), i + d = l.length → d + 16384 < k → ref09_Check.l0 k l (l.length : Int) (i : Int) l = some 0
 | 0, i, k, hi, hk => by
  obtain ⟨k, rfl⟩ : ∃ m, k = m + 1 := ⟨k - 1, by omega⟩
  rw [ref09_Check.l0]
  rw [if_neg (by omega)]
 | d + 1, i, k, hi, hk => by
  obtain ⟨k, rfl⟩ : ∃ m, k = m + 1 := ⟨k - 1, by omega⟩
  have hlen := h.len
  have hr := h.rows _ (List.getElem_mem (show i < l.length by omega))
  have ih := check_loop h d (i + 1) k (by omega) (by omega)
  have e1 : rd_T33 l (i : Int) = l[i]'(by omega) := by rw [rd33, getD33]
  have s1 := hr.size
  have s2 := hr.lo
  have s3 := hr.hi
  have e2 : wrap64 ((i : Int) + 1) = ((i + 1 : Nat) : Int) := by rw [rw64 (by omega) (by omega)]; omega
  rw [ref09_Check.l0]
  rw [if_pos (by omega), if_pos (by omega), if_pos (by omega), e1, e2, if_neg (by omega), rsum_some _ (by omega) k (by omega)]
  simp only [Option.bind_some]
  rw [if_pos hr.dig]
  by_cases c : (i : Int) > 0
  ·have e3 : wrap64 ((i : Int) - 1) = ((i - 1 : Nat) : Int) := by rw [rw64 (by omega) (by omega)]; omega
   have e4 : rd_T33 l ((i - 1 : Nat) : Int) = l[i - 1]'(by omega) := by rw [rd33, getD33]
   have lt := List.pairwise_iff_getElem.mp h.up (i - 1) i (by omega) (by omega) (by omega)
   rw [if_pos c, e3, if_pos (by omega), if_pos (by omega), e4, if_neg (by omega), if_neg (by omega), if_neg (by omega)]
   exact ih
  ·rw [if_neg c, if_neg (by omega), if_neg (by omega)]
   exact ih
theorem rcheck_some {l : List S33} (h : Vx l) (k : Nat) (hk : 20000 < k) : ref09_Check.f k l = some 0 := by
 have hlen := h.len
 unfold ref09_Check.f
 rw [if_neg (by omega)]
 exact check_loop h l.length 0 k (by omega) (by omega)
theorem rfind_loop {l : List S33} {d : Int} {A B : List S33} {o : Option S33} (hlen : l.length ≤ 1024) (h : At l d A o B) : ∀ (n i k : Nat), i + n = A.length → n < k → ref09_find.l0 k d l (l.length : Int) (i : Int) l = some ((A.length : Int), o.isSome)
 | 0, i, k, hi, hk => by
  obtain ⟨k, rfl⟩ : ∃ m, k = m + 1 := ⟨k - 1, by omega⟩
  obtain rfl : i = A.length := by omega
  rw [ref09_find.l0]
  cases h with
  | @there _ r e hA hr hB =>
   have hl : A.length < l.length := by rw [e]; simp
   have hg : rd_T33 l (A.length : Int) = r := by rw [rd33, e, getD_app, if_neg (by omega), Nat.sub_self]; rfl
   rw [if_pos (by omega), if_pos (by omega), if_pos (by omega), hg, if_pos (by omega), hr]
   simp
  | free e hA hB =>
   by_cases hl : A.length < l.length
   ·have hb : 0 < B.length := by rw [e, List.length_append] at hl; omega
    have hd := hB _ (getD_mem hb)
    have hg : rd_T33 l (A.length : Int) = B.getD 0 z33 := by rw [rd33, e, getD_app, if_neg (by omega), Nat.sub_self]
    have hne : ((B.getD 0 z33).f0 == d) = false := beq_eq_false_iff_ne.mpr (by omega)
    rw [if_pos (by omega), if_pos (by omega), if_pos (by omega), hg, if_pos (by omega), hne]
    rfl
   ·have : l.length = A.length := by
     have : l.length = A.length + B.length := by rw [e, List.length_append]
     omega
    rw [if_neg (by omega), this]
    rfl
 | n + 1, i, k, hi, hk => by
  obtain ⟨k, rfl⟩ : ∃ m, k = m + 1 := ⟨k - 1, by omega⟩
  have ha : i < A.length := by omega
  have hal : A.length ≤ l.length := by cases h with
   | there e => rw [e]; simp
   | free e => rw [e]; simp
  have hg : rd_T33 l (i : Int) = A.getD i z33 := by cases h with
   | there e => rw [rd33, e, getD_app, if_pos ha]
   | free e => rw [rd33, e, getD_app, if_pos ha]
  have hd : (A.getD i z33).f0 < d := by cases h with
   | there e hA => exact hA _ (getD_mem ha)
   | free e hA => exact hA _ (getD_mem ha)
  rw [ref09_find.l0]
  rw [if_pos (by omega), if_pos (by omega), if_pos (by omega), hg, if_neg (by omega), rw64 (by omega) (by omega)]
  exact rfind_loop hlen h n (i + 1) k (by omega) (by omega)
theorem rfind_some {l : List S33} {d : Int} {A B : List S33} {o : Option S33} (hlen : l.length ≤ 1024) (h : At l d A o B) (k : Nat) (hk : 1024 < k) : ref09_find.f k l d = some ((A.length : Int), o.isSome) := by
 have hal : A.length ≤ l.length := by cases h with
  | there e => rw [e]; simp
  | free e => rw [e]; simp
 exact rfind_loop hlen h A.length 0 k (by omega) (by omega)
theorem shift_is {A B : List S33} {z : S33} (y : S33) : (shiftUp (A ++ B ++ [z]) A.length).set A.length y = A ++ y :: B := by
 unfold shiftUp
 rw [List.append_assoc]
 have h1 : (A ++ (B ++ [z])).take (A.length + 1) = A ++ (B ++ [z]).take 1 := by rw [List.take_append, List.take_of_length_le (by omega)]; congr 2; omega
 rw [h1, List.drop_left, List.length_append, List.length_append]
 have h2 : (B ++ [z]).take (A.length + (B.length + [z].length) - (A.length + 1)) = B := by
  rw [show A.length + (B.length + [z].length) - (A.length + 1) = B.length by simp; omega, List.take_left]
 rw [h2, List.append_assoc, List.set_append_right _ _ (Nat.le_refl _), Nat.sub_self]
 cases B with
 | nil => rfl
 | cons b B => rfl
theorem radd_some {l : List S33} (h : Vx l) (s : ByteArray) (hs : s.size ≤ 16384) {A B : List S33} {o : Option S33} (ha : At l (dg s) A o B) (k : Nat) (hk : 20010 < k) :
 ref09_Add.f k l s = some (added (dg s) s A B l.length o) := by
 have hlen := h.len
 have hf := rfind_some hlen ha k (by omega)
 unfold ref09_Add.f
 rw [rcheck_some h _ (by omega)]
 simp only [Option.bind_some, if_true]
 rw [if_neg (by omega), rsum_some s (by omega) _ (by omega)]
 simp only [Option.bind_some]
 rw [hf]
 simp only [Option.bind_some]
 rw [if_pos (by simp; omega)]
 simp only [List.nil_append, Option.bind_some]
 cases ha with
 | @there _ r e hA hr hB =>
  have hl : A.length < l.length := by rw [e]; simp
  have hg : rd_T33 l (A.length : Int) = r := by rw [rd33, e, getD_app, if_neg (by omega), Nat.sub_self]; rfl
  have ro := h.rows r (by rw [e]; simp)
  have r1 := ro.lo
  have r2 := ro.hi
  simp only [Option.isSome_some, if_true]
  rw [if_pos (by omega), if_pos (by omega), hg]
  rw [added_there]
  by_cases c : r.f2 = s
  ·rw [if_pos (text_eq.mpr c), if_pos c]
   by_cases c2 : r.f1 = 2147483646
   ·rw [if_pos c2, if_pos c2]
   ·rw [if_neg c2, if_neg c2, Int.toNat_natCast, rw64 (by omega) (by omega), e, set_mid]
  ·rw [if_neg (fun hh => c (text_eq.mp hh)), if_neg c]
 | free e hA hB =>
  have hal : A.length ≤ l.length := by rw [e]; simp
  simp only [Option.isSome_none, Bool.false_eq_true, if_false]
  rw [added_free]
  by_cases c : l.length = 1024
  ·rw [if_pos c, if_pos (by omega)]
  ·rw [if_neg c, if_neg (by omega), if_pos (by omega)]
   have e1 : wrap64 ((A.length : Int) + 1) = ((A.length + 1 : Nat) : Int) := by rw [rw64 (by omega) (by omega)]; omega
   rw [e1, if_pos (by omega), if_pos (by simp; omega), if_pos (by omega), if_pos (by simp; omega)]
   have hsl : (shiftUp (l ++ [(⟨0, 0, (⟨#[]⟩ : ByteArray)⟩ : S33)]) A.length).length = l.length + 1 := by rw [shiftUp_length _ _ (by simp; omega)]; simp
   simp only [Option.bind_some, Int.toNat_natCast]
   rw [if_pos (by rw [hsl]; omega), e, shift_is]
end Go.Proofs.Ytpifbgkppfginaa.PZ
