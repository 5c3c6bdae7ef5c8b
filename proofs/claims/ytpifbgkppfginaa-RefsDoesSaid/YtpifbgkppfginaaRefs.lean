/- What the functions of the package refs return for valid indexes: rows in the order of their digests. -/
import Derived.Test.YtpifbgkppfginaaMine
import Derived.Test.YtpifbgkppfginaaPZx0
import Derived.Test.YtpifbgkppfginaaPZx3
import Derived.Test.YtpifbgkppfginaaPZx6
set_option linter.unusedVariables false
set_option linter.unusedSimpArgs false
namespace Go.Proofs.Ytpifbgkppfginaa.Dig
def P : Int := 2147483647
theorem em_lo (a : Int) : 0 ≤ a % P := Int.emod_nonneg _ (by decide)
theorem em_hi (a : Int) : a % P < P := Int.emod_lt_of_pos _ (by decide)
def dsum : List UInt8 → Int → Int
 | [], d => d
 | b :: l, d => dsum l ((d * 1000003 + (b.toNat : Int) + 1) % P)
theorem dsum_lo : ∀ (l : List UInt8) (d : Int), 0 ≤ d → 0 ≤ dsum l d
 | [], _, h => h
 | b :: l, d, _ => dsum_lo l _ (em_lo _)
end Go.Proofs.Ytpifbgkppfginaa.Dig
namespace Go.Proofs.Ytpifbgkppfginaa.PZ
open Go.RowKit Go.Proofs.YtpifbgkppfginaaW.PrintWords Go.Proofs.YtpifbgkppfginaaW.PrintLast Go.Proofs.Ytpifbgkppfginaa.Dig
theorem rw64 {n : Int} (h0 : -9223372036854775808 ≤ n) (h1 : n ≤ 9223372036854775807) : wrap64 n = n := by
 unfold wrap64
 omega
theorem rtmod {n : Int} (h0 : 0 ≤ n) : Int.tmod n 2147483647 = n % P := Int.tmod_eq_emod_of_nonneg h0
abbrev bs (s : ByteArray) : List UInt8 := s.data.toList
theorem text_eq {a b : ByteArray} : a.toList = b.toList ↔ a = b := by
 rw [ByteArray.toList_eq, ByteArray.toList_eq]
 constructor
 ·intro h
  cases a; cases b
  congr 1
  exact Array.toList_inj.mp h
 ·intro h
  rw [h]
theorem bs_drop (s : ByteArray) (i : Nat) (h : i < s.size) : ∃ b : UInt8, bt s (i : Int) = (b.toNat : Int) ∧ (bs s).drop i = b :: (bs s).drop (i + 1) := by
 refine ⟨(bs s)[i]'h, ?_, List.drop_eq_getElem_cons h⟩
 unfold bt
 rw [dif_pos (by simpa using h)]
 rfl
theorem sum_step {d : Int} (d0 : 0 ≤ d) (d1 : d < P) (b : UInt8) : Int.tmod (wrap64 ((wrap64 ((wrap64 (d * 1000003)) + (wrap64 (b.toNat : Int)))) + 1)) 2147483647 = (d * 1000003 + (b.toNat : Int) + 1) % P := by
 have hb' := b.toNat_lt
 have h1 : 0 ≤ d * 1000003 ∧ d * 1000003 ≤ 2147483646 * 1000003 := by unfold P at d1; omega
 rw [rw64 (n := d * 1000003) (by omega) (by omega), rw64 (n := (b.toNat : Int)) (by omega) (by omega), rw64 (n := d * 1000003 + (b.toNat : Int)) (by omega) (by omega),
  rw64 (n := d * 1000003 + (b.toNat : Int) + 1) (by omega) (by omega), rtmod (by omega)]
theorem sum_loop (s : ByteArray) (hs : s.size ≤ 562949953405408) : ∀ (n i k : Nat) (d : Int), 0 ≤ d → d < P → i + n = s.size → n < k →
 digest_Sum.l0 k s d (s.size : Int) (i : Int) = some (dsum ((bs s).drop i) d)
 | 0, i, k, d, d0, d1, hi, hk => by
  obtain ⟨k, rfl⟩ : ∃ m, k = m + 1 := ⟨k - 1, by omega⟩
  simp only [digest_Sum.l0]
  rw [if_neg (by omega), List.drop_eq_nil_of_le (by show s.size ≤ i; omega)]
  rfl
 | n + 1, i, k, d, d0, d1, hi, hk => by
  obtain ⟨k, rfl⟩ : ∃ m, k = m + 1 := ⟨k - 1, by omega⟩
  obtain ⟨b, hb, hd⟩ := bs_drop s i (by omega)
  simp only [digest_Sum.l0]
  rw [if_pos (by omega), if_pos (by omega), if_pos (by omega), hb, sum_step d0 d1, rw64 (n := (i : Int) + 1) (by omega) (by omega)]
  have := sum_loop s hs n (i + 1) k _ (em_lo (d * 1000003 + (b.toNat : Int) + 1)) (em_hi _) (by omega) (by omega)
  rw [hd, dsum]
  exact this
def dg (s : ByteArray) : Int := dsum (bs s) 1
theorem dg_lo (s : ByteArray) : 0 ≤ dg s := dsum_lo _ _ (by decide)
theorem sum_some (s : ByteArray) (hs : s.size ≤ 562949953405408) (k : Nat) (hk : s.size < k) : digest_Sum.f k s = some (dg s) := by
 have := sum_loop s hs s.size 0 k 1 (by decide) (by decide) (by omega) hk
 simpa [digest_Sum.f, dg] using this
structure RowOk (r : S33) : Prop where
 size : r.f2.size ≤ 16384
 dig : r.f0 = dg r.f2
 lo : 1 ≤ r.f1
 hi : r.f1 < 2147483647
structure Vx (l : List S33) : Prop where
 len : l.length ≤ 1024
 rows : ∀ r ∈ l, RowOk r
 up : l.Pairwise (fun a b => a.f0 < b.f0)
theorem Vx.nil : Vx [] := ⟨by simp, by simp, List.Pairwise.nil⟩
theorem rd33 (l : List S33) (i : Nat) : rd_T33 l (i : Int) = l.getD i z33 := by unfold rd_T33; rw [Int.toNat_natCast]
theorem getD33 {l : List S33} {i : Nat} (h : i < l.length) : l.getD i z33 = l[i] := by rw [List.getD_eq_getElem?_getD, List.getElem?_eq_getElem h]; rfl
theorem valid_loop {l : List S33} (h : Vx l) : ∀ (d i k : Nat), i + d = l.length → d + 16384 < k → refs_valid.l0 k l (l.length : Int) (i : Int) l = some true
 | 0, i, k, hi, hk => by
  obtain ⟨k, rfl⟩ : ∃ m, k = m + 1 := ⟨k - 1, by omega⟩
  rw [refs_valid.l0]
  rw [if_neg (by omega)]
 | d + 1, i, k, hi, hk => by
  obtain ⟨k, rfl⟩ : ∃ m, k = m + 1 := ⟨k - 1, by omega⟩
  have hlen := h.len
  have hr := h.rows _ (List.getElem_mem (show i < l.length by omega))
  have ih := valid_loop h d (i + 1) k (by omega) (by omega)
  have e1 : rd_T33 l (i : Int) = l[i]'(by omega) := by rw [rd33, getD33]
  have s1 := hr.size
  have s2 := hr.lo
  have s3 := hr.hi
  have e2 : wrap64 ((i : Int) + 1) = ((i + 1 : Nat) : Int) := by rw [rw64 (by omega) (by omega)]; omega
  rw [refs_valid.l0]
  rw [if_pos (by omega), if_pos (by omega), if_pos (by omega), e1, e2]
  by_cases c : (i : Int) > 0
  ·have e3 : wrap64 ((i : Int) - 1) = ((i - 1 : Nat) : Int) := by rw [rw64 (by omega) (by omega)]; omega
   have e4 : rd_T33 l ((i - 1 : Nat) : Int) = l[i - 1]'(by omega) := by rw [rd33, getD33]
   have lt := List.pairwise_iff_getElem.mp h.up (i - 1) i (by omega) (by omega) (by omega)
   rw [if_pos c, e3, if_pos (by omega), if_pos (by omega), e4, if_neg (by omega), if_neg (by omega), sum_some _ (by omega) k (by omega)]
   simp only [Option.bind_some]
   rw [if_pos hr.dig, if_neg (by omega), if_neg (by omega)]
   exact ih
  ·rw [if_neg c, if_neg (by omega), sum_some _ (by omega) k (by omega)]
   simp only [Option.bind_some]
   rw [if_pos hr.dig, if_neg (by omega), if_neg (by omega)]
   exact ih
theorem valid_some {l : List S33} (h : Vx l) (k : Nat) (hk : 20000 < k) : refs_valid.f k l = some true := by
 have hlen := h.len
 unfold refs_valid.f
 rw [if_neg (by omega)]
 exact valid_loop h l.length 0 k (by omega) (by omega)
theorem check_some {l : List S33} (h : Vx l) (k : Nat) (hk : 20000 < k) : refs_Check.f k l = some 0 := by
 unfold refs_Check.f
 rw [valid_some h k hk]
 rfl
inductive At (l : List S33) (d : Int) : List S33 → Option S33 → List S33 → Prop where
 | there {A B : List S33} {r : S33} (e : l = A ++ r :: B) (hA : ∀ x ∈ A, x.f0 < d) (hr : r.f0 = d) (hB : ∀ x ∈ B, d < x.f0) : At l d A (some r) B
 | free {A B : List S33} (e : l = A ++ B) (hA : ∀ x ∈ A, x.f0 < d) (hB : ∀ x ∈ B, d < x.f0) : At l d A none B
theorem at_some : ∀ {l : List S33} (h : l.Pairwise (fun a b => a.f0 < b.f0)) (d : Int), ∃ A o B, At l d A o B
 | [], _, d => ⟨[], none, [], .free rfl (by simp) (by simp)⟩
 | r :: l, h, d => by
  obtain ⟨h1, h2⟩ := List.pairwise_cons.mp h
  rcases Int.lt_trichotomy r.f0 d with c | c | c
  ·obtain ⟨A, o, B, hA⟩ := at_some h2 d
   cases hA with
   | there e hA hr hB => exact ⟨r :: A, _, B, .there (by rw [e]; rfl) (fun x hx => by rcases List.mem_cons.mp hx with rfl | hx; exact c; exact hA x hx) hr hB⟩
   | free e hA hB => exact ⟨r :: A, _, B, .free (by rw [e]; rfl) (fun x hx => by rcases List.mem_cons.mp hx with rfl | hx; exact c; exact hA x hx) hB⟩
  ·exact ⟨[], some r, l, .there rfl (by simp) c (fun x hx => by rw [← c]; exact h1 x hx)⟩
  ·exact ⟨[], none, r :: l, .free rfl (by simp) (fun x hx => by rcases List.mem_cons.mp hx with rfl | hx; exact c; exact Int.lt_trans c (h1 x hx))⟩
theorem getD_app {A B : List S33} {j : Nat} : (A ++ B).getD j z33 = if j < A.length then A.getD j z33 else B.getD (j - A.length) z33 := by
 simp only [List.getD_eq_getElem?_getD, List.getElem?_append]
 split <;> rfl
theorem getD_mem {l : List S33} {j : Nat} (h : j < l.length) : l.getD j z33 ∈ l := by rw [getD33 h]; exact List.getElem_mem h
theorem cnt_is {l A B : List S33} {d : Int} (e : l = A ++ B) (hA : ∀ x ∈ A, x.f0 < d) (hB : ∀ x ∈ B, d ≤ x.f0) : refs_find.cnt l d = A.length ∧ ∀ i, i < l.length → (decide (i < A.length) == !decide (d ≤ (rd_T33 l (i : Nat)).f0)) = true := by
 have key : ∀ i, i < l.length → (decide (i < A.length) = !decide (d ≤ (rd_T33 l (i : Nat)).f0)) := by
  intro i hi
  rw [rd33, e, getD_app]
  by_cases c : i < A.length
  ·rw [if_pos c, decide_eq_true c]
   have := hA _ (getD_mem c)
   rw [decide_eq_false (by omega)]
   rfl
  ·rw [if_neg c, decide_eq_false c]
   have := hB _ (getD_mem (l := B) (j := i - A.length) (by rw [e, List.length_append] at hi; omega))
   rw [decide_eq_true this]
   rfl
 refine ⟨?_, fun i hi => by rw [key i hi]; simp⟩
 unfold refs_find.cnt
 have hl : l.length = A.length + B.length := by rw [e, List.length_append]
 have h1 : (List.range l.length).countP (fun i => !decide (d ≤ (rd_T33 l (i : Nat)).f0)) = (List.range l.length).countP (fun i => decide (i < A.length)) :=
  List.countP_congr fun i hi => by rw [key i (List.mem_range.mp hi)]
 rw [h1, hl, List.range_add, List.countP_append]
 have h2 : (List.range A.length).countP (fun i => decide (i < A.length)) = A.length := by
  rw [List.countP_eq_length.mpr (fun i hi => by simpa using hi), List.length_range]
 have h3 : ((List.range B.length).map (A.length + ·)).countP (fun i => decide (i < A.length)) = 0 := by
  rw [List.countP_eq_zero]
  intro i hi
  obtain ⟨j, _, rfl⟩ := List.mem_map.mp hi
  simp
 omega
theorem find_some {l : List S33} {d : Int} {A B : List S33} {o : Option S33} (hlen : l.length ≤ 1024) (h : At l d A o B) : refs_find.f l d = some ((A.length : Int), o.isSome) := by
 cases h with
 | @there _ r e hA hr hB =>
  obtain ⟨h1, h2⟩ := cnt_is e hA (fun x hx => by rcases List.mem_cons.mp hx with rfl | hx; omega; exact Int.le_of_lt (hB x hx))
  unfold refs_find.f
  rw [h1, if_pos ⟨by omega, List.all_eq_true.mpr fun i hi => h2 i (List.mem_range.mp hi)⟩]
  have hl : A.length < l.length := by rw [e]; simp
  rw [decide_eq_true hl, rd33, e, getD_app, if_neg (by omega), Nat.sub_self]
  simp [hr]
 | free e hA hB =>
  obtain ⟨h1, h2⟩ := cnt_is e hA (fun x hx => Int.le_of_lt (hB x hx))
  unfold refs_find.f
  rw [h1, if_pos ⟨by omega, List.all_eq_true.mpr fun i hi => h2 i (List.mem_range.mp hi)⟩]
  by_cases hl : A.length < l.length
  ·have hb : 0 < B.length := by rw [e, List.length_append] at hl; omega
   have := hB _ (getD_mem hb)
   have hne : ((B.getD 0 z33).f0 == d) = false := beq_eq_false_iff_ne.mpr (by omega)
   rw [decide_eq_true hl, rd33, e, getD_app, if_neg (by omega), Nat.sub_self, hne]
   rfl
  ·rw [decide_eq_false hl]
   rfl
theorem set_mid {A B : List S33} {r y : S33} : (A ++ r :: B).set A.length y = A ++ y :: B := by
 rw [List.set_append_right _ _ (Nat.le_refl _), Nat.sub_self]
 rfl
def added (d : Int) (s : ByteArray) (A B : List S33) (n : Nat) : Option S33 → List S33 × Bool × Int
 | some r => if r.f2 = s then (if r.f1 = 2147483646 then ([], false, 4) else (A ++ ⟨r.f0, r.f1 + 1, r.f2⟩ :: B, false, 0)) else ([], false, 8)
 | none => if n = 1024 then ([], false, 4) else (A ++ ⟨d, 1, s⟩ :: B, true, 0)
theorem added_there (d : Int) (s : ByteArray) (A B : List S33) (n : Nat) (r : S33) : added d s A B n (some r) = if r.f2 = s then (if r.f1 = 2147483646 then ([], false, 4) else (A ++ ⟨r.f0, r.f1 + 1, r.f2⟩ :: B, false, 0)) else ([], false, 8) := rfl
theorem added_free (d : Int) (s : ByteArray) (A B : List S33) (n : Nat) : added d s A B n none = if n = 1024 then ([], false, 4) else (A ++ ⟨d, 1, s⟩ :: B, true, 0) := rfl
theorem add_some {l : List S33} (h : Vx l) (s : ByteArray) (hs : s.size ≤ 16384) {A B : List S33} {o : Option S33} (ha : At l (dg s) A o B) (k : Nat) (hk : 20010 < k) :
 refs_Add.f k l s = some (added (dg s) s A B l.length o) := by
 have hlen := h.len
 obtain ⟨k, rfl⟩ : ∃ m, k = m + 3 := ⟨k - 3, by omega⟩
 have hf := find_some hlen ha
 unfold refs_Add.f
 rw [valid_some h _ (by omega)]
 simp only [Option.bind_some, if_true]
 rw [if_neg (by omega), sum_some s (by omega) _ (by omega)]
 simp only [Option.bind_some]
 rw [hf]
 simp only [Option.bind_some]
 cases ha with
 | @there _ r e hA hr hB =>
  have hl : A.length < l.length := by rw [e]; simp
  have hg : rd_T33 l (A.length : Int) = r := by rw [rd33, e, getD_app, if_neg (by omega), Nat.sub_self]; rfl
  have ro := h.rows r (by rw [e]; simp)
  have r1 := ro.lo
  have r2 := ro.hi
  simp only [Option.isSome_some, if_true]
  rw [if_pos (by omega), if_pos (by omega), hg, refs_Add.j0]
  rw [added_there]
  by_cases c : r.f2 = s
  ·have c' : (r.f2.toList != s.toList) = false := by rw [c]; simp
   rw [c', if_pos c]
   simp only [Bool.false_eq_true, if_false, if_true]
   rw [if_pos (by omega), if_pos (by omega), hg, refs_Add.j1]
   by_cases c2 : r.f1 = 2147483646
   ·rw [if_pos c2, if_pos (by simpa using c2)]
   ·rw [if_neg c2, if_neg (by simpa using c2)]
    simp only [if_true]
    rw [refs_Add.j2]
    unfold api_Row_31.f
    rw [if_pos (by omega)]
    simp only [Option.bind_some, if_true]
    rw [if_pos (by omega), if_pos (by omega), hg, Int.toNat_natCast, rw64 (by omega) (by omega), e, set_mid]
    rfl
  ·have c' : (r.f2.toList != s.toList) = true := by simpa using fun hh => c (text_eq.mp hh)
   rw [c', if_neg c, if_pos rfl]
 | free e hA hB =>
  simp only [Option.isSome_none, Bool.false_eq_true, if_false]
  rw [refs_Add.j0]
  simp only [Bool.false_eq_true, if_false]
  rw [refs_Add.j1]
  simp only [Bool.false_eq_true, if_false]
  rw [added_free]
  by_cases c : l.length = 1024
  ·rw [if_pos c, if_pos (by omega)]
  ·rw [if_neg c, if_neg (by omega), refs_Add.j2]
   unfold api_Row_31.f
   rw [if_pos (by omega)]
   simp only [Option.bind_some, Bool.false_eq_true, if_false]
   unfold api_Row_32.f
   have hal : A.length ≤ l.length := by rw [e]; simp
   rw [if_pos ⟨by omega, by omega, by simp, by simp; omega⟩]
   simp only [Option.bind_some, Int.toNat_natCast]
   congr 2
   rw [e, List.take_left, List.drop_left]
   simp
theorem At.vx_put {l : List S33} (h : Vx l) {d : Int} {A B : List S33} {o : Option S33} (ha : At l d A o B) {y : S33} (hy : RowOk y) (hd : y.f0 = d) (hn : o = none → l.length ≠ 1024) : Vx (A ++ y :: B) := by
 have hup := h.up
 have hlen := h.len
 cases ha with
 | @there _ r e hA hr hB =>
  refine ⟨by rw [e] at hlen; simpa using hlen, ?_, ?_⟩
  ·intro x hx
   rcases List.mem_append.mp hx with hx | hx
   ·exact h.rows x (by rw [e]; simp [hx])
   ·rcases List.mem_cons.mp hx with rfl | hx
    ·exact hy
    ·exact h.rows x (by rw [e]; simp [hx])
  ·rw [e] at hup
   rw [List.pairwise_append, List.pairwise_cons] at hup ⊢
   refine ⟨hup.1, ⟨fun x hx => by rw [hd]; exact hB x hx, hup.2.1.2⟩, fun x hx z hz => ?_⟩
   rcases List.mem_cons.mp hz with rfl | hz
   ·rw [hd]; exact hA x hx
   ·exact hup.2.2 x hx z (by simp [hz])
 | free e hA hB =>
  have := hn rfl
  refine ⟨by rw [e, List.length_append] at hlen this; simp; omega, ?_, ?_⟩
  ·intro x hx
   rcases List.mem_append.mp hx with hx | hx
   ·exact h.rows x (by rw [e]; simp [hx])
   ·rcases List.mem_cons.mp hx with rfl | hx
    ·exact hy
    ·exact h.rows x (by rw [e]; simp [hx])
  ·rw [e] at hup
   rw [List.pairwise_append] at hup ⊢
   refine ⟨hup.1, List.pairwise_cons.mpr ⟨fun x hx => by rw [hd]; exact hB x hx, hup.2.1⟩, fun x hx z hz => ?_⟩
   rcases List.mem_cons.mp hz with rfl | hz
   ·rw [hd]; exact hA x hx
   ·exact hup.2.2 x hx z hz
theorem Vx.cut {A B : List S33} {r : S33} (h : Vx (A ++ r :: B)) : Vx (A ++ B) := by
 refine ⟨by have := h.len; simp at this ⊢; omega, fun x hx => h.rows x (by rcases List.mem_append.mp hx with hx | hx <;> simp [hx]), ?_⟩
 exact h.up.sublist (List.Sublist.append (List.Sublist.refl _) (List.sublist_cons_self _ _))
theorem At.back {l : List S33} {d : Int} {A B : List S33} {o : Option S33} (ha : At l d A o B) {y : S33} (hd : y.f0 = d) : At (A ++ y :: B) d A (some y) B := by
 cases ha with
 | there e hA hr hB => exact .there rfl hA hd hB
 | free e hA hB => exact .there rfl hA hd hB
def dropped (A B : List S33) : Option S33 → List S33 × Bool × Int
 | some r => if r.f1 = 1 then (A ++ B, true, 0) else (A ++ ⟨r.f0, r.f1 - 1, r.f2⟩ :: B, false, 0)
 | none => ([], false, 6)
theorem dropped_there (A B : List S33) (r : S33) : dropped A B (some r) = if r.f1 = 1 then (A ++ B, true, 0) else (A ++ ⟨r.f0, r.f1 - 1, r.f2⟩ :: B, false, 0) := rfl
theorem drop_some {l : List S33} (h : Vx l) {d : Int} {A B : List S33} {o : Option S33} (ha : At l d A o B) (k : Nat) (hk : 20010 < k) : refs_Drop.f k l d = some (dropped A B o) := by
 have hlen := h.len
 have hf := find_some hlen ha
 unfold refs_Drop.f
 rw [valid_some h _ (by omega)]
 simp only [Option.bind_some, if_true]
 rw [hf]
 simp only [Option.bind_some]
 cases ha with
 | @there _ r e hA hr hB =>
  have hl : A.length < l.length := by rw [e]; simp
  have hg : rd_T33 l (A.length : Int) = r := by rw [rd33, e, getD_app, if_neg (by omega), Nat.sub_self]; rfl
  have ro := h.rows r (by rw [e]; simp)
  have r1 := ro.lo
  have r2 := ro.hi
  simp only [Option.isSome_some, if_true]
  unfold api_Row_31.f
  rw [if_pos (by omega)]
  simp only [Option.bind_some]
  rw [if_pos (by omega), if_pos (by omega), hg, Int.toNat_natCast, rw64 (by omega) (by omega)]
  have hset : l.set A.length (⟨r.f0, r.f1 - 1, r.f2⟩ : S33) = A ++ ⟨r.f0, r.f1 - 1, r.f2⟩ :: B := by rw [e, set_mid]
  rw [hset]
  have hg2 : rd_T33 (A ++ (⟨r.f0, r.f1 - 1, r.f2⟩ : S33) :: B) (A.length : Int) = ⟨r.f0, r.f1 - 1, r.f2⟩ := by rw [rd33, getD_app, if_neg (by omega), Nat.sub_self]; rfl
  rw [hg2]
  rw [dropped_there]
  by_cases c : r.f1 = 1
  ·rw [if_pos c, if_pos (by show r.f1 - 1 = 0; omega)]
   unfold api_Row_33.f
   have e1 : wrap64 ((A.length : Int) + 1) = ((A.length + 1 : Nat) : Int) := by rw [rw64 (by omega) (by omega)]; omega
   rw [e1, if_pos ⟨by omega, by omega, by simp; omega⟩]
   simp only [Option.bind_some, Int.toNat_natCast]
   have h1 : (A ++ (⟨r.f0, r.f1 - 1, r.f2⟩ : S33) :: B).drop (A.length + 1) = B := by rw [List.drop_append]; simp
   rw [List.take_left, h1, c]
   rfl
  ·rw [if_neg c, if_neg (by show ¬ r.f1 - 1 = 0; omega)]
   congr 3
   have : ¬ r.f1 - 1 = 0 := by omega
   simpa using this
 | free e hA hB => rfl
def got : Option S33 → ByteArray × Int × Int
 | some r => (r.f2, r.f1, 0)
 | none => (⟨#[]⟩, 0, 6)
theorem get_some {l : List S33} (h : Vx l) {d : Int} {A B : List S33} {o : Option S33} (ha : At l d A o B) (k : Nat) (hk : 20010 < k) : refs_Get.f k l d = some (got o) := by
 have hlen := h.len
 have hf := find_some hlen ha
 unfold refs_Get.f
 rw [valid_some h _ (by omega)]
 simp only [Option.bind_some, if_true]
 rw [hf]
 simp only [Option.bind_some]
 cases ha with
 | @there _ r e hA hr hB =>
  have hl : A.length < l.length := by rw [e]; simp
  have hg : rd_T33 l (A.length : Int) = r := by rw [rd33, e, getD_app, if_neg (by omega), Nat.sub_self]; rfl
  simp only [Option.isSome_some, if_true]
  rw [if_pos (by omega), if_pos (by omega), hg]
  rfl
 | free e hA hB => rfl
theorem sane_some (k : Nat) (hk : 20010 < k) : law09_sane.f k = some true := by
 have h1 : dg (⟨#[120]⟩ : ByteArray) = dg (⟨#[120]⟩ : ByteArray) := rfl
 have v1 := dg_lo (⟨#[120]⟩ : ByteArray)
 have a1 : At [] (dg (⟨#[120]⟩ : ByteArray)) [] none [] := .free rfl (by simp) (by simp)
 have r1 : RowOk ⟨dg (⟨#[120]⟩ : ByteArray), 1, (⟨#[120]⟩ : ByteArray)⟩ := ⟨by decide, rfl, by decide, by decide⟩
 have r2 : RowOk ⟨dg (⟨#[120]⟩ : ByteArray), 2, (⟨#[120]⟩ : ByteArray)⟩ := ⟨by decide, rfl, by decide, by decide⟩
 have x1 := At.vx_put Vx.nil a1 r1 rfl (by simp)
 have a2 := a1.back (y := ⟨dg (⟨#[120]⟩ : ByteArray), 1, (⟨#[120]⟩ : ByteArray)⟩) rfl
 have x2 := At.vx_put x1 a2 r2 rfl (by simp)
 have a3 := a1.back (y := ⟨dg (⟨#[120]⟩ : ByteArray), 2, (⟨#[120]⟩ : ByteArray)⟩) rfl
 have s1 := sum_some (⟨#[120]⟩ : ByteArray) (by decide) k (by show 1 < k; omega)
 unfold law09_sane.f
 rw [add_some Vx.nil (⟨#[120]⟩ : ByteArray) (by decide) a1 k hk]
 simp only [Option.bind_some]
 have e1 : added (dg (⟨#[120]⟩ : ByteArray)) (⟨#[120]⟩ : ByteArray) [] [] ([] : List S33).length none = ([] ++ ⟨dg (⟨#[120]⟩ : ByteArray), 1, (⟨#[120]⟩ : ByteArray)⟩ :: [], true, 0) := rfl
 rw [e1]
 simp only [Option.bind_some]
 rw [add_some x1 (⟨#[120]⟩ : ByteArray) (by decide) a2 k hk]
 simp only [Option.bind_some]
 have e2 : added (dg (⟨#[120]⟩ : ByteArray)) (⟨#[120]⟩ : ByteArray) [] [] ([] ++ (⟨dg (⟨#[120]⟩ : ByteArray), 1, (⟨#[120]⟩ : ByteArray)⟩ : S33) :: []).length (some ⟨dg (⟨#[120]⟩ : ByteArray), 1, (⟨#[120]⟩ : ByteArray)⟩) = ([] ++ ⟨dg (⟨#[120]⟩ : ByteArray), 2, (⟨#[120]⟩ : ByteArray)⟩ :: [], false, 0) := by
  rw [added_there, if_pos rfl, if_neg (by decide)]
  rfl
 rw [e2]
 simp only [Option.bind_some]
 rw [s1]
 simp only [Option.bind_some]
 rw [drop_some x2 a3 k hk]
 have e3 : dropped [] [] (some (⟨dg (⟨#[120]⟩ : ByteArray), 2, (⟨#[120]⟩ : ByteArray)⟩ : S33)) = ([] ++ ⟨dg (⟨#[120]⟩ : ByteArray), 1, (⟨#[120]⟩ : ByteArray)⟩ :: [], false, 0) := by
  rw [dropped_there, if_neg (by decide)]
  rfl
 rw [e3]
 simp only [Option.bind_some]
 rw [get_some x1 a2 k hk]
 rfl
end Go.Proofs.Ytpifbgkppfginaa.PZ
