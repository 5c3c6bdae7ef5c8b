/- An index has just the texts that were added more often than dropped, with the difference as count: the plain statement that is left of the law RefsCounts. -/
import Derived.Test.YtpifbgkppfginaaRefs
import Derived.Test.YtpifbgkppfginaaText
import Derived.Test.YtpifbgkppfginaaPAx0
import Derived.Test.YtpifbgkppfginaaPAx28
import Derived.Test.YtpifbgkppfginaaPAx33
import Derived.Test.YtpifbgkppfginaaPAx34
import Derived.Test.YtpifbgkppfginaaPAx35
set_option linter.unusedVariables false
namespace Go.Proofs.Ytpifbgkppfginaa.Pure
open Go.RowKit Go.Proofs.Ytpifbgkppfginaa.PA Go.Proofs.YtpifbgkppfginaaW.PrintWords Go.Proofs.YtpifbgkppfginaaW.PrintLast Go.Proofs.Ytpifbgkppfginaa.Dig
/-- The rows that texts and their counts make. -/
def mkRows : List ByteArray → List Int → List S33
  | s :: T, c :: C => if 0 < c then ⟨dg s, c, s⟩ :: mkRows T C else mkRows T C
  | _, _ => []
theorem mkRows_one (s : ByteArray) (c : Int) (T : List ByteArray) (C : List Int) : mkRows (s :: T) (c :: C) = if 0 < c then ⟨dg s, c, s⟩ :: mkRows T C else mkRows T C := rfl
theorem mkRows_app : ∀ (T1 : List ByteArray) (C1 : List Int) (T2 : List ByteArray) (C2 : List Int), T1.length = C1.length → mkRows (T1 ++ T2) (C1 ++ C2) = mkRows T1 C1 ++ mkRows T2 C2
  | [], [], T2, C2, _ => rfl
  | s :: T1, c :: C1, T2, C2, h => by
    have ih := mkRows_app T1 C1 T2 C2 (by simpa using h)
    rw [List.cons_append, List.cons_append, mkRows_one, mkRows_one]
    split
    · rw [ih]; rfl
    · rw [ih]
  | [], c :: C1, T2, C2, h => by simp at h
  | s :: T1, [], T2, C2, h => by simp at h
theorem mkRows_mem : ∀ (T : List ByteArray) (C : List Int) (r : S33), r ∈ mkRows T C → r.f2 ∈ T ∧ r.f1 ∈ C ∧ r.f0 = dg r.f2
  | [], _, r, h => by simp [mkRows] at h
  | s :: T, [], r, h => by simp [mkRows] at h
  | s :: T, c :: C, r, h => by
    rw [mkRows_one] at h
    split at h
    · rcases List.mem_cons.mp h with rfl | h
      · exact ⟨by simp, by simp, rfl⟩
      · have := mkRows_mem T C r h
        exact ⟨by simp [this.1], by simp [this.2.1], this.2.2⟩
    · have := mkRows_mem T C r h
      exact ⟨by simp [this.1], by simp [this.2.1], this.2.2⟩
theorem mkRows_len : ∀ (T : List ByteArray) (C : List Int), (mkRows T C).length ≤ T.length
  | [], _ => by simp [mkRows]
  | s :: T, [] => by simp [mkRows]
  | s :: T, c :: C => by
    have := mkRows_len T C
    rw [mkRows_one]
    split <;> simp <;> omega
/-- What the texts seen so far, their counts and the index say of each other behind n rounds. -/
structure Inv (n : Nat) (T : List ByteArray) (C : List Int) (x : List S33) : Prop where
  len : T.length = C.length
  few : T.length ≤ n
  dif : T.Nodup
  size : ∀ s ∈ T, s.size ≤ 3
  lo : ∀ c ∈ C, 0 ≤ c
  hi : ∀ c ∈ C, c ≤ n
  vx : Vx x
  perm : x.Perm (mkRows T C)
theorem Inv.later {n : Nat} {T C x} (h : Inv n T C x) : Inv (n + 1) T C x := ⟨h.len, by have := h.few; omega, h.dif, h.size, h.lo, fun c hc => by have := h.hi c hc; omega, h.vx, h.perm⟩
theorem Inv.new {n : Nat} {T C x} (h : Inv n T C x) (s : ByteArray) (hs : s.size ≤ 3) (hn : s ∉ T) : Inv (n + 1) (T ++ [s]) (C ++ [0]) x := by
  refine ⟨by simp [h.len], by have := h.few; simp; omega, ?_, ?_, ?_, ?_, h.vx, ?_⟩
  · rw [List.nodup_append]
    exact ⟨h.dif, by simp, fun a ha b hb => by rcases List.mem_singleton.mp hb with rfl; rintro rfl; exact hn ha⟩
  · intro y hy
    rcases List.mem_append.mp hy with hy | hy
    · exact h.size y hy
    · rw [List.mem_singleton.mp hy]; exact hs
  · intro y hy
    rcases List.mem_append.mp hy with hy | hy
    · exact h.lo y hy
    · rw [List.mem_singleton.mp hy]; decide
  · intro y hy
    rcases List.mem_append.mp hy with hy | hy
    · have := h.hi y hy; omega
    · rw [List.mem_singleton.mp hy]; omega
  · rw [mkRows_app _ _ _ _ h.len]
    have : mkRows [s] [0] = [] := rfl
    rw [this, List.append_nil]
    exact h.perm
/-- The rows of the texts but one. -/
def others (T1 : List ByteArray) (C1 : List Int) (T2 : List ByteArray) (C2 : List Int) : List S33 := mkRows T1 C1 ++ mkRows T2 C2
theorem Inv.rows {n : Nat} {T1 T2 C1 C2 x s c} (h : Inv n (T1 ++ s :: T2) (C1 ++ c :: C2) x) (e : T1.length = C1.length) : x.Perm (if 0 < c then ⟨dg s, c, s⟩ :: others T1 C1 T2 C2 else others T1 C1 T2 C2) := by
  have hp := h.perm
  rw [mkRows_app _ _ _ _ e, mkRows_one] at hp
  split
  · rename_i c0
    rw [if_pos c0] at hp
    exact hp.trans List.perm_middle
  · rename_i c0
    rw [if_neg c0] at hp
    exact hp
theorem Inv.not_other {n : Nat} {T1 T2 C1 C2 x s c} (h : Inv n (T1 ++ s :: T2) (C1 ++ c :: C2) x) {r : S33} (hr : r ∈ others T1 C1 T2 C2) : r.f2 ≠ s := by
  have hd := h.dif
  rw [List.nodup_append] at hd
  obtain ⟨_, hd2, hd3⟩ := hd
  have hd4 := (List.nodup_cons.mp hd2).1
  rcases List.mem_append.mp hr with hr | hr
  · exact fun e => hd3 r.f2 (mkRows_mem _ _ _ hr).1 s (by simp) e
  · exact fun e => hd4 (e ▸ (mkRows_mem _ _ _ hr).1)
/-- The row of s, where it is counted. -/
theorem Inv.row {n : Nat} {T1 T2 C1 C2 x s c} (h : Inv n (T1 ++ s :: T2) (C1 ++ c :: C2) x) (e : T1.length = C1.length) (c0 : 0 < c) : (⟨dg s, c, s⟩ : S33) ∈ x := by
  have hp := h.rows e
  rw [if_pos c0] at hp
  exact hp.mem_iff.mpr (by simp)
theorem Inv.row_is {n : Nat} {T1 T2 C1 C2 x s c} (h : Inv n (T1 ++ s :: T2) (C1 ++ c :: C2) x) (e : T1.length = C1.length) {r : S33} (hr : r ∈ x) (hs : r.f2 = s) : 0 < c ∧ r = ⟨dg s, c, s⟩ := by
  have hp := h.rows e
  by_cases c0 : 0 < c
  · rw [if_pos c0] at hp
    rcases List.mem_cons.mp (hp.mem_iff.mp hr) with h1 | h1
    · exact ⟨c0, h1⟩
    · exact absurd hs (h.not_other h1)
  · rw [if_neg c0] at hp
    exact absurd hs (h.not_other (hp.mem_iff.mp hr))
theorem At.same {x : List S33} {d : Int} {A B : List S33} {o : Option S33} (h : At x d A o B) {r : S33} (hr : r ∈ x) (hd : r.f0 = d) : o = some r := by
  cases h with
  | @there _ y e hA hy hB =>
    rw [e] at hr
    rcases List.mem_append.mp hr with hr | hr
    · have := hA r hr; omega
    · rcases List.mem_cons.mp hr with rfl | hr
      · rfl
      · have := hB r hr; omega
  | free e hA hB =>
    rw [e] at hr
    rcases List.mem_append.mp hr with hr | hr
    · have := hA r hr; omega
    · have := hB r hr; omega
theorem At.mem {x : List S33} {d : Int} {A B : List S33} {r : S33} (h : At x d A (some r) B) : r ∈ x ∧ r.f0 = d ∧ x = A ++ r :: B := by
  cases h with
  | there e hA hr hB => exact ⟨by rw [e]; simp, hr, e⟩
theorem At.free' {x : List S33} {d : Int} {A B : List S33} (h : At x d A none B) : x = A ++ B := by
  cases h with
  | free e hA hB => exact e
/-- A count is changed. -/
theorem Inv.put {n : Nat} {T1 T2 C1 C2 x s c} (h : Inv n (T1 ++ s :: T2) (C1 ++ c :: C2) x) (e : T1.length = C1.length) (c' : Int) (h0 : 0 ≤ c') (h1 : c' ≤ (n : Int) + 1) {x' : List S33} (hv : Vx x') (hp : x'.Perm (if 0 < c' then ⟨dg s, c', s⟩ :: others T1 C1 T2 C2 else others T1 C1 T2 C2)) :
    Inv (n + 1) (T1 ++ s :: T2) (C1 ++ c' :: C2) x' := by
  have l := h.len
  refine ⟨by simpa using l, by have := h.few; omega, h.dif, h.size, ?_, ?_, hv, ?_⟩
  · intro y hy
    rcases List.mem_append.mp hy with hy | hy
    · exact h.lo y (by simp [hy])
    · rcases List.mem_cons.mp hy with rfl | hy
      · exact h0
      · exact h.lo y (by simp [hy])
  · intro y hy
    rcases List.mem_append.mp hy with hy | hy
    · have := h.hi y (by simp [hy]); omega
    · rcases List.mem_cons.mp hy with rfl | hy
      · omega
      · have := h.hi y (by simp [hy]); omega
  · rw [mkRows_app _ _ _ _ e, mkRows_one]
    by_cases c0 : 0 < c'
    · rw [if_pos c0] at hp ⊢
      exact hp.trans List.perm_middle.symm
    · rw [if_neg c0] at hp ⊢
      exact hp

/-! the sums -/
def sizes : List S33 → Int
  | [] => 0
  | r :: l => (r.f2.size : Int) + sizes l
def alls : List S33 → Int
  | [] => 0
  | r :: l => (r.f2.size : Int) * r.f1 + alls l
theorem sizes_perm {a b : List S33} (h : a.Perm b) : sizes a = sizes b := by
  induction h with
  | nil => rfl
  | cons x _ ih => simp only [sizes]; omega
  | swap x y l => simp only [sizes]; omega
  | trans _ _ h1 h2 => exact h1.trans h2
theorem alls_perm {a b : List S33} (h : a.Perm b) : alls a = alls b := by
  induction h with
  | nil => rfl
  | cons x _ ih => simp only [alls]; omega
  | swap x y l => simp only [alls]; omega
  | trans _ _ h1 h2 => exact h1.trans h2
theorem sizes_app : ∀ (a b : List S33), sizes (a ++ b) = sizes a + sizes b
  | [], b => by show sizes b = 0 + sizes b; omega
  | r :: a, b => by show _ + sizes (a ++ b) = _ + sizes a + _; rw [sizes_app a b]; omega
theorem alls_app : ∀ (a b : List S33), alls (a ++ b) = alls a + alls b
  | [], b => by show alls b = 0 + alls b; omega
  | r :: a, b => by show _ + alls (a ++ b) = _ + alls a + _; rw [alls_app a b]; omega
theorem sums_rng : ∀ (l : List S33), (∀ r ∈ l, RowOk r) → (0 ≤ sizes l ∧ sizes l ≤ 16384 * l.length) ∧ (0 ≤ alls l ∧ alls l ≤ 35184372088832 * l.length)
  | [], _ => by simp [sizes, alls]
  | r :: l, h => by
    have ih := sums_rng l (fun x hx => h x (by simp [hx]))
    have hr := h r (by simp)
    have s0 := hr.size
    have c0 := hr.lo
    have c1 := hr.hi
    have m0 : 0 ≤ (r.f2.size : Int) * r.f1 := Int.mul_nonneg (by omega) (by omega)
    have m1 : (r.f2.size : Int) * r.f1 ≤ 16384 * 2147483648 := Int.mul_le_mul (by omega) (by omega) (by omega) (by decide)
    simp only [sizes, alls, List.length_cons]
    omega
theorem total_loop {l : List S33} (h : ∀ r ∈ l, RowOk r) (hl : l.length ≤ 1024) : ∀ (d i k : Nat) (a b : Int), i + d = l.length → d < k → 0 ≤ a → a ≤ 16384 * i → 0 ≤ b → b ≤ 35184372088832 * i →
    refs_Total.l0 k a b l (l.length : Int) (i : Int) = some (a + sizes (l.drop i), b + alls (l.drop i), 0)
  | 0, i, k, a, b, hi, hk, a0, a1, b0, b1 => by
    obtain ⟨k, rfl⟩ : ∃ m, k = m + 1 := ⟨k - 1, by omega⟩
    rw [refs_Total.l0]
    rw [if_neg (by omega), List.drop_eq_nil_of_le (by omega)]
    simp [sizes, alls]
  | d + 1, i, k, a, b, hi, hk, a0, a1, b0, b1 => by
    obtain ⟨k, rfl⟩ : ∃ m, k = m + 1 := ⟨k - 1, by omega⟩
    have hm : l[i]'(by omega) ∈ l := List.getElem_mem _
    have hr := h _ hm
    have s0 := hr.size
    have c0 := hr.lo
    have c1 := hr.hi
    have e1 : rd_T33 l (i : Int) = l[i]'(by omega) := by rw [rd33, getD33]
    have ed : l.drop i = l[i]'(by omega) :: l.drop (i + 1) := List.drop_eq_getElem_cons (by omega)
    have m0 : 0 ≤ ((l[i]'(by omega)).f2.size : Int) * (l[i]'(by omega)).f1 := Int.mul_nonneg (by omega) (by omega)
    have m1 : ((l[i]'(by omega)).f2.size : Int) * (l[i]'(by omega)).f1 ≤ 16384 * 2147483648 := Int.mul_le_mul (by omega) (by omega) (by omega) (by decide)
    rw [refs_Total.l0]
    rw [if_pos (by omega), if_pos (by omega), if_pos (by omega), e1, ed]
    simp only [sizes, alls]
    generalize ((l[i]'(by omega)).f2.size : Int) * (l[i]'(by omega)).f1 = m at m0 m1 ⊢
    generalize (l[i]'(by omega)).f2.size = z at s0 ⊢
    rw [rw64 (n := m) (by omega) (by omega), rw64 (n := a + (z : Int)) (by omega) (by omega), rw64 (n := b + m) (by omega) (by omega), rw64 (n := (i : Int) + 1) (by omega) (by omega)]
    have := total_loop h hl d (i + 1) k (a + z) (b + m) (by omega) (by omega) (by omega) (by omega) (by omega) (by omega)
    rw [show (i : Int) + 1 = ((i + 1 : Nat) : Int) by omega, this]
    congr 2
    · omega
    · congr 1
      omega
theorem total_some {l : List S33} (h : Vx l) (k : Nat) (hk : 20010 < k) : refs_Total.f k l = some (sizes l, alls l, 0) := by
  unfold refs_Total.f
  rw [valid_some h k (by omega)]
  simp only [Option.bind_some, if_true]
  have := total_loop h.rows h.len l.length 0 k 0 0 (by omega) (by have := h.len; omega) (by decide) (by decide) (by decide) (by decide)
  rw [show ((0 : Nat) : Int) = 0 from rfl] at this
  rw [this, List.drop_zero]
  simp

theorem rdT (T : List ByteArray) (i : Nat) (h : i < T.length) : rdOf ByteArray.empty T (i : Int) = T[i] := by
  unfold rdOf
  rw [Int.toNat_natCast, List.getD_eq_getElem?_getD, List.getElem?_eq_getElem h]
  rfl
theorem rdC (C : List Int) (i : Nat) (h : i < C.length) : rd C (i : Int) = C[i] := by
  unfold rd
  rw [Int.toNat_natCast, List.getD_eq_getElem?_getD, List.getElem?_eq_getElem h]
  rfl
/-- The last look: each text that is counted is there, and all sums agree. -/
theorem last_loop {n : Nat} {T : List ByteArray} {C : List Int} {x : List S33} (h : Inv n T C x) (hn : n ≤ 60) : ∀ (d i k : Nat), i + d = T.length → d + 20020 < k →
    storagebarterlaw09_RefsCounts.l2 k C ((mkRows (T.take i) (C.take i)).length : Int) (sizes (mkRows (T.take i) (C.take i))) (alls (mkRows (T.take i) (C.take i))) T (T.length : Int) (i : Int) x = some true
  | 0, i, k, hi, hk => by
    obtain ⟨k, rfl⟩ : ∃ m, k = m + 1 := ⟨k - 1, by omega⟩
    have hl := h.len
    rw [List.take_of_length_le (by omega), List.take_of_length_le (by omega)]
    rw [storagebarterlaw09_RefsCounts.l2]
    rw [if_neg (by omega), total_some h.vx k (by omega)]
    simp only [Option.bind_some, if_true]
    rw [if_pos (by rw [h.perm.length_eq]), if_pos (sizes_perm h.perm), if_pos (alls_perm h.perm), check_some h.vx k (by omega)]
    rfl
  | d + 1, i, k, hi, hk => by
    obtain ⟨k, rfl⟩ : ∃ m, k = m + 1 := ⟨k - 1, by omega⟩
    have hl := h.len
    have hf := h.few
    have hiT : i < T.length := by omega
    have hiC : i < C.length := by omega
    have sz := h.size T[i] (List.getElem_mem _)
    have c0 := h.lo C[i] (List.getElem_mem _)
    have c1 := h.hi C[i] (List.getElem_mem _)
    have eT : T = T.take i ++ T[i] :: T.drop (i + 1) := by rw [← List.drop_eq_getElem_cons hiT, List.take_append_drop]
    have eC : C = C.take i ++ C[i] :: C.drop (i + 1) := by rw [← List.drop_eq_getElem_cons hiC, List.take_append_drop]
    have eT1 : T.take (i + 1) = T.take i ++ [T[i]] := List.take_succ_eq_append_getElem hiT
    have eC1 : C.take (i + 1) = C.take i ++ [C[i]] := List.take_succ_eq_append_getElem hiC
    have hlt : (T.take i).length = (C.take i).length := by rw [List.length_take, List.length_take, hl]
    have er : mkRows (T.take (i + 1)) (C.take (i + 1)) = mkRows (T.take i) (C.take i) ++ mkRows [T[i]] [C[i]] := by rw [eT1, eC1, mkRows_app _ _ _ _ hlt]
    have ih := last_loop h hn d (i + 1) k (by omega) (by omega)
    rw [er] at ih
    have h2 : Inv n (T.take i ++ T[i] :: T.drop (i + 1)) (C.take i ++ C[i] :: C.drop (i + 1)) x := by rw [← eT, ← eC]; exact h
    obtain ⟨A, o, B, ha⟩ := at_some h.vx.up (dg T[i])
    rw [storagebarterlaw09_RefsCounts.l2]
    rw [if_pos (by omega), if_pos (by omega), if_pos (by omega), rdT T i hiT, rdC C i hiC, sum_some _ (by omega) k (by omega)]
    simp only [Option.bind_some]
    rw [get_some h.vx ha k (by omega)]
    simp only [Option.bind_some]
    rw [if_pos (by omega)]
    rw [show wrap64 ((i : Int) + 1) = ((i + 1 : Nat) : Int) by rw [rw64 (by omega) (by omega)]; omega]
    by_cases c : C[i] > 0
    · have ho := At.same ha (h2.row hlt c) rfl
      subst ho
      have eg : got (some (⟨dg T[i], C[i], T[i]⟩ : S33)) = (T[i], C[i], 0) := rfl
      have e1 : mkRows [T[i]] [C[i]] = [(⟨dg T[i], C[i], T[i]⟩ : S33)] := by rw [mkRows_one, if_pos c]; rfl
      have vr := h.vx.rows
      have small : (∀ r ∈ mkRows (T.take i) (C.take i), RowOk r) := by
        intro r hr
        refine vr r (h.perm.mem_iff.mpr ?_)
        rw [eT, eC, mkRows_app _ _ _ _ hlt]
        exact List.mem_append_left _ hr
      have lr := mkRows_len (T.take i) (C.take i)
      rw [List.length_take] at lr
      have rg := sums_rng _ small
      rw [e1, sizes_app, alls_app, List.length_append] at ih
      simp only [sizes, alls, List.length_cons, List.length_nil] at ih
      rw [eg, if_pos c]
      simp only [if_true]
      generalize mkRows (T.take i) (C.take i) = M at ih lr rg ⊢
      have m0 : 0 ≤ C[i] * (T[i].size : Int) := Int.mul_nonneg (by omega) (by omega)
      have m1 : C[i] * (T[i].size : Int) ≤ 60 * 3 := Int.mul_le_mul (by omega) (by omega) (by omega) (by decide)
      rw [rw64 (n := C[i] * (T[i].size : Int)) (by omega) (by omega), rw64 (n := (M.length : Int) + 1) (by omega) (by omega), rw64 (n := sizes M + (T[i].size : Int)) (by omega) (by omega), rw64 (n := alls M + C[i] * (T[i].size : Int)) (by omega) (by omega)]
      rw [Int.add_zero, Int.add_zero, Int.mul_comm (T[i].size : Int)] at ih
      exact ih
    · have e1 : mkRows [T[i]] [C[i]] = [] := by rw [mkRows_one, if_neg c]; rfl
      rw [e1, List.append_nil] at ih
      rw [if_neg c]
      exact ih
/-- Places at which s does not stand are passed by. -/
theorem pass (T : List ByteArray) (C : List Int) (n : Int) (s : ByteArray) (x9 : Int) (L : List Int) (p : Int) (x : List S33) (hT : T.length ≤ 1000) : ∀ (d i k : Nat), i + d ≤ T.length → (∀ j (h : j < T.length), i ≤ j → j < i + d → T[j] ≠ s) →
    storagebarterlaw09_RefsCounts.l1 (k + d) T C n s x9 (T.length : Int) (i : Int) L p x = storagebarterlaw09_RefsCounts.l1 k T C n s x9 (T.length : Int) ((i + d : Nat) : Int) L p x
  | 0, i, k, hi, hn => rfl
  | d + 1, i, k, hi, hn => by
    have hne := hn i (by omega) (Nat.le_refl _) (by omega)
    rw [show k + (d + 1) = (k + d) + 1 by omega, storagebarterlaw09_RefsCounts.l1]
    rw [if_pos (by omega), if_pos (by omega), if_pos (by omega), rdT T i (by omega), if_neg (fun h => hne (text_eq.mp h)), rw64 (by omega) (by omega), show (i : Int) + 1 = ((i + 1 : Nat) : Int) by omega]
    have := pass T C n s x9 L p x hT d (i + 1) k (by omega) (fun j h h1 h2 => hn j h (by omega) (by omega))
    rw [this, show i + 1 + d = i + (d + 1) by omega]
theorem seek_none (T : List ByteArray) (C : List Int) (n : Int) (s : ByteArray) (L : List Int) (p : Int) (x : List S33) (hT : T.length ≤ 1000) (hC : C.length ≤ 1000) (hs : s ∉ T) (k : Nat) :
    storagebarterlaw09_RefsCounts.l1 (k + 1 + T.length) T C n s (-1) (T.length : Int) 0 L p x = storagebarterlaw09_RefsCounts.j3 k (T ++ [s]) (C ++ [0]) n s (T.length : Int) L p x := by
  have := pass T C n s (-1) L p x hT T.length 0 (k + 1) (by omega) (fun j h _ _ e => hs (e ▸ List.getElem_mem h))
  rw [show ((0 : Nat) : Int) = 0 from rfl] at this
  rw [this, storagebarterlaw09_RefsCounts.l1]
  rw [if_neg (by omega), if_pos (by decide), if_pos (by omega), if_pos (by omega)]
theorem seek_some (T1 T2 : List ByteArray) (C : List Int) (n : Int) (s : ByteArray) (L : List Int) (p : Int) (x : List S33) (hT : (T1 ++ s :: T2).length ≤ 1000) (h1 : s ∉ T1) (h2 : s ∉ T2) (k : Nat) :
    storagebarterlaw09_RefsCounts.l1 (k + 1 + (T1 ++ s :: T2).length) (T1 ++ s :: T2) C n s (-1) ((T1 ++ s :: T2).length : Int) 0 L p x = storagebarterlaw09_RefsCounts.j3 k (T1 ++ s :: T2) C n s (T1.length : Int) L p x := by
  have hl : (T1 ++ s :: T2).length = T1.length + (T2.length + 1) := by simp
  have a := pass (T1 ++ s :: T2) C n s (-1) L p x hT T1.length 0 (k + 1 + T2.length + 1) (by omega) (fun j h _ hj e => h1 (by
    rw [List.getElem_append_left (by omega)] at e
    exact e ▸ List.getElem_mem _))
  rw [show ((0 : Nat) : Int) = 0 from rfl, Nat.zero_add] at a
  have e1 : k + 1 + (T1 ++ s :: T2).length = k + 1 + T2.length + 1 + T1.length := by omega
  rw [e1, a, storagebarterlaw09_RefsCounts.l1]
  have hm : (T1 ++ s :: T2)[T1.length]'(by omega) = s := by rw [List.getElem_append_right (Nat.le_refl _)]; simp
  rw [if_pos (by omega), if_pos (by omega), if_pos (by omega), rdT _ _ (by omega), hm, if_pos rfl, rw64 (by omega) (by omega), show (T1.length : Int) + 1 = ((T1.length + 1 : Nat) : Int) by omega]
  have b := pass (T1 ++ s :: T2) C n s (T1.length : Int) L p x hT T2.length (T1.length + 1) (k + 1) (by omega) (fun j h hj _ e => h2 (by
    rw [List.getElem_append_right (by omega)] at e
    obtain ⟨m, hm⟩ : ∃ m, j - T1.length = m + 1 := ⟨j - T1.length - 1, by omega⟩
    simp only [hm, List.getElem_cons_succ] at e
    exact e ▸ List.getElem_mem _))
  rw [b, storagebarterlaw09_RefsCounts.l1]
  rw [if_neg (by omega), if_neg (by omega)]
theorem set_at (C1 C2 : List Int) (c c' : Int) : (C1 ++ c :: C2).set C1.length c' = C1 ++ c' :: C2 := by
  rw [List.set_append_right _ _ (Nat.le_refl _), Nat.sub_self]
  rfl
/-- One round: the text is added or dropped. -/
theorem round {n : Nat} (hn : n < 60) {T1 T2 : List ByteArray} {C1 C2 : List Int} {x : List S33} {s : ByteArray} {c : Int} {m : Nat} (hm : m ≤ n + 1) (h : Inv m (T1 ++ s :: T2) (C1 ++ c :: C2) x) (hmc : c ≤ n) (e : T1.length = C1.length) (hs : s.size ≤ 3) {L : List Int} {p : Int} (hp : DeckOk L p) (k : Nat) (hk : 20020 < k)
    (next : ∀ (C' : List Int) (x' : List S33) (q : Int), DeckOk L q → Inv (n + 1) (T1 ++ s :: T2) C' x' → storagebarterlaw09_RefsCounts.l0 k (T1 ++ s :: T2) C' ((n + 1 : Nat) : Int) L q x' = some true) :
    storagebarterlaw09_RefsCounts.j3 (k + 1) (T1 ++ s :: T2) (C1 ++ c :: C2) (n : Int) s (T1.length : Int) L p x = some true := by
  obtain ⟨v, q, ev, _, _, hq, _⟩ := next_some hp 3 (by decide) (by decide)
  obtain ⟨A, o, B, ha⟩ := at_some h.vx.up (dg s)
  have hl : (C1 ++ c :: C2).length = C1.length + (C2.length + 1) := by simp
  have hrd : rd (C1 ++ c :: C2) (T1.length : Int) = c := by rw [e, rdC _ _ (by omega), List.getElem_append_right (Nat.le_refl _)]; simp
  have hset : ∀ c' : Int, (C1 ++ c :: C2).set (T1.length : Int).toNat c' = C1 ++ c' :: C2 := fun c' => by rw [Int.toNat_natCast, e, set_at]
  have c0 := h.lo c (by simp)
  have hx : x.length ≤ 60 := by
    have := h.perm.length_eq
    have := mkRows_len (T1 ++ s :: T2) (C1 ++ c :: C2)
    have := h.few
    omega
  have hkeep : Inv (n + 1) (T1 ++ s :: T2) (C1 ++ c :: C2) x := ⟨h.len, by have := h.few; omega, h.dif, h.size, h.lo, fun y hy => by have := h.hi y hy; omega, h.vx, h.perm⟩
  have hput : ∀ (c' : Int) (x' : List S33), 0 ≤ c' → c' ≤ (n : Int) + 1 → Vx x' → x'.Perm (if 0 < c' then ⟨dg s, c', s⟩ :: others T1 C1 T2 C2 else others T1 C1 T2 C2) → Inv (n + 1) (T1 ++ s :: T2) (C1 ++ c' :: C2) x' := by
    intro c' x' h0 h1 hv hpm
    refine ⟨by simpa using h.len, by have := h.few; omega, h.dif, h.size, ?_, ?_, hv, ?_⟩
    · intro y hy
      rcases List.mem_append.mp hy with hy | hy
      · exact h.lo y (by simp [hy])
      · rcases List.mem_cons.mp hy with rfl | hy
        · exact h0
        · exact h.lo y (by simp [hy])
    · intro y hy
      rcases List.mem_append.mp hy with hy | hy
      · have := h.hi y (by simp [hy]); omega
      · rcases List.mem_cons.mp hy with rfl | hy
        · omega
        · have := h.hi y (by simp [hy]); omega
    · rw [mkRows_app _ _ _ _ e, mkRows_one]
      by_cases c0 : 0 < c'
      · rw [if_pos c0] at hpm ⊢
        exact hpm.trans List.perm_middle.symm
      · rw [if_neg c0] at hpm ⊢
        exact hpm
  have hrows := h.rows e
  rw [storagebarterlaw09_RefsCounts.j3]
  rw [ev]
  simp only [Option.bind_some]
  rw [show wrap64 ((n : Int) + 1) = ((n + 1 : Nat) : Int) by rw [rw64 (by omega) (by omega)]; omega, hrd]
  by_cases cv : v > 0
  · rw [if_pos cv, add_some h.vx s (by omega) ha k (by omega)]
    simp only [Option.bind_some]
    cases o with
    | some r =>
      obtain ⟨hr, hr0, ex⟩ := At.mem ha
      have ro := h.vx.rows r hr
      have r1 := ro.lo
      have r2 := ro.hi
      by_cases cr : r.f2 = s
      · obtain ⟨c1, er⟩ := h.row_is e hr cr
        have ec : r.f1 = c := by rw [er]
        have ea : added (dg s) s A B x.length (some r) = (A ++ (⟨dg s, c + 1, s⟩ : S33) :: B, false, 0) := by rw [added_there, if_pos cr, if_neg (by omega), er]
        rw [ea]
        simp only
        rw [if_neg (by decide), if_pos trivial, if_pos (by omega), if_pos (by omega)]
        have hb : (c == 0) = false := beq_eq_false_iff_ne.mpr (by omega)
        rw [hb, if_neg (by decide), rw64 (by omega) (by omega), hset]
        refine next _ _ q hq (hput (c + 1) _ (by omega) (by omega) (At.vx_put h.vx ha ⟨by show s.size ≤ 16384; omega, rfl, by show 1 ≤ c + 1; omega, by show c + 1 < 2147483647; omega⟩ rfl (fun h => by cases h)) ?_)
        rw [if_pos (by omega)]
        rw [if_pos c1, ex, er] at hrows
        have h3 := (List.perm_middle.symm.trans hrows).cons_inv
        exact List.perm_middle.trans (h3.cons _)
      · have ea : added (dg s) s A B x.length (some r) = ([], false, 8) := by rw [added_there, if_neg cr]
        rw [ea]
        simp only [if_true]
        exact next _ _ q hq hkeep
    | none =>
      have ex := At.free' ha
      have cz : c = 0 := by
        rcases Int.lt_or_eq_of_le c0 with c1 | c1
        · have := At.same ha (h.row e c1) rfl
          cases this
        · omega
      have ea : added (dg s) s A B x.length none = (A ++ (⟨dg s, 1, s⟩ : S33) :: B, true, 0) := by rw [added_free, if_neg (by omega)]
      rw [ea]
      simp only
      subst cz
      rw [if_neg (by decide), if_pos trivial, if_pos (by omega), if_pos (by omega), if_neg (by decide), rw64 (by omega) (by omega), hset]
      refine next _ _ q hq (hput (0 + 1) _ (by omega) (by omega) (At.vx_put h.vx ha ⟨by show s.size ≤ 16384; omega, rfl, by show (1 : Int) ≤ 1; decide, by show (1 : Int) < 2147483647; decide⟩ rfl (fun _ => by omega)) ?_)
      rw [if_pos (by decide)]
      rw [if_neg (by decide), ex] at hrows
      exact List.perm_middle.trans (hrows.cons _)
  · rw [if_neg cv, sum_some s (by omega) k (by omega)]
    simp only [Option.bind_some]
    rw [drop_some h.vx ha k (by omega)]
    simp only [Option.bind_some]
    rw [if_pos (by omega), if_pos (by omega)]
    by_cases cz : c = 0
    · rw [if_pos cz]
      by_cases c8 : (dropped A B o).2.2 = 0
      · rw [if_pos c8]
      · rw [if_neg c8]
        exact next _ _ q hq hkeep
    · have c1 : 0 < c := by omega
      have ho := At.same ha (h.row e c1) rfl
      subst ho
      obtain ⟨hr, hr0, ex⟩ := At.mem ha
      rw [if_neg cz]
      rw [if_pos c1, ex] at hrows
      have h3 := (List.perm_middle.symm.trans hrows).cons_inv
      by_cases c2 : c = 1
      · have ed : dropped A B (some (⟨dg s, c, s⟩ : S33)) = (A ++ B, true, 0) := by rw [dropped_there, if_pos (show (⟨dg s, c, s⟩ : S33).f1 = 1 from c2)]
        rw [ed]
        simp only
        have hb : (c == 1) = true := by rw [c2]; rfl
        rw [if_pos trivial, hb, if_neg (by decide), rw64 (by omega) (by omega), hset]
        refine next _ _ q hq (hput (c - 1) _ (by omega) (by omega) (by have hv := h.vx; rw [ex] at hv; exact hv.cut) ?_)
        rw [if_neg (by omega)]
        exact h3
      · have ed : dropped A B (some (⟨dg s, c, s⟩ : S33)) = (A ++ (⟨dg s, c - 1, s⟩ : S33) :: B, false, 0) := by rw [dropped_there, if_neg (show ¬ (⟨dg s, c, s⟩ : S33).f1 = 1 from c2)]
        rw [ed]
        simp only
        have hb : (c == 1) = false := beq_eq_false_iff_ne.mpr c2
        rw [if_pos trivial, hb, if_neg (by decide), rw64 (by omega) (by omega), hset]
        refine next _ _ q hq (hput (c - 1) _ (by omega) (by omega) (At.vx_put h.vx ha ⟨by show s.size ≤ 16384; omega, rfl, by show 1 ≤ c - 1; omega, by show c - 1 < 2147483647; omega⟩ rfl (fun h => by cases h)) ?_)
        rw [if_pos (by omega)]
        exact List.perm_middle.trans (h3.cons _)
theorem rounds {L : List Int} : ∀ (d n : Nat) (T : List ByteArray) (C : List Int) (p : Int) (x : List S33) (k : Nat), n + d = 60 → DeckOk L p → Inv n T C x → d * 100 + 30000 < k →
    storagebarterlaw09_RefsCounts.l0 k T C (n : Int) L p x = some true := by
  intro d
  induction d with
  | zero =>
    intro n T C p x k hn hp h hk
    obtain ⟨k, rfl⟩ : ∃ m, k = m + 2 := ⟨k - 2, by omega⟩
    rw [storagebarterlaw09_RefsCounts.l0]
    rw [if_neg (by omega), storagebarterlaw09_RefsCounts.j1]
    rw [if_neg (by decide)]
    exact last_loop h (by omega) T.length 0 k (by omega) (by have := h.few; omega)
  | succ d ih =>
    intro n T C p x k hn hp h hk
    have hf := h.few
    have hl := h.len
    obtain ⟨k, rfl⟩ : ∃ m, k = m + 1 + 1 + T.length + 1 + 1 := ⟨k - T.length - 4, by omega⟩
    have em : ∀ b : Bool, storagebartermake_Deck_More.f L p = some (decide (p < (L.length : Int)), p) := fun _ => rfl
    rw [storagebarterlaw09_RefsCounts.l0]
    rw [if_pos (by omega), em true]
    simp only [Option.bind_some]
    rw [storagebarterlaw09_RefsCounts.j1]
    by_cases cm : p < (L.length : Int)
    · obtain ⟨s, q, es, hs, hq, _⟩ := text_some hp 3 (by decide) (by decide) (k + 1 + 1 + T.length) (by omega)
      rw [decide_eq_true cm, if_pos rfl, es]
      simp only [Option.bind_some]
      by_cases ht : s ∈ T
      · obtain ⟨T1, T2, eT⟩ := List.append_of_mem ht
        obtain ⟨C1, c, C2, eC, e12⟩ : ∃ C1 c C2, C = C1 ++ c :: C2 ∧ T1.length = C1.length := by
          have hi : T1.length < C.length := by rw [← hl, eT]; simp
          exact ⟨C.take T1.length, C[T1.length], C.drop (T1.length + 1), by rw [← List.drop_eq_getElem_cons hi, List.take_append_drop], by rw [List.length_take]; omega⟩
        subst eT
        subst eC
        have hd := h.dif
        rw [List.nodup_append] at hd
        have s1 : s ∉ T1 := fun hh => hd.2.2 s hh s (by simp) rfl
        have s2 : s ∉ T2 := (List.nodup_cons.mp hd.2.1).1
        rw [seek_some T1 T2 _ _ s L q x (by omega) s1 s2 (k + 1)]
        exact round (by omega) (m := n) (by omega) h (h.hi c (by simp)) e12 (by omega) hq k (by omega) (fun C' x' q' hq' h' => ih (n + 1) _ C' q' x' k (by omega) hq' h' (by omega))
      · rw [seek_none T C _ s L q x (by omega) (by omega) ht (k + 1)]
        exact round (by omega) (m := n + 1) (by omega) (T2 := []) (C2 := []) (h.new s (by omega) ht) (by omega) hl (by omega) hq k (by omega) (fun C' x' q' hq' h' => ih (n + 1) _ C' q' x' k (by omega) hq' h' (by omega))
    · rw [decide_eq_false cm, if_neg (by decide)]
      exact last_loop h (by omega) T.length 0 _ (by omega) (by omega)
theorem RefsCounts : storagebarterlaw09_RefsCounts.Pure := by
  intro L h0 h1 h2
  refine ⟨50000, ?_⟩
  obtain ⟨k, hk⟩ : ∃ k, k = 50000 := ⟨_, rfl⟩
  rw [← hk]
  unfold storagebarterlaw09_RefsCounts.f
  rw [sane_some _ (by omega), few_some]
  simp only [Option.bind_some, if_true]
  by_cases cf : (L.length : Int) ≤ 500
  · rw [decide_eq_true cf, if_pos rfl]
    have en : storagebartermake_New.f L = some (L, 0) := rfl
    rw [en]
    simp only [Option.bind_some]
    exact rounds 60 0 [] [] 0 [] k (by omega) ⟨by decide, by omega, by omega⟩ ⟨rfl, by simp, by simp, by simp, by simp, by simp, Vx.nil, by exact List.Perm.refl _⟩ (by omega)
  · rw [decide_eq_false cf, if_neg (by decide)]
end Go.Proofs.Ytpifbgkppfginaa.Pure
