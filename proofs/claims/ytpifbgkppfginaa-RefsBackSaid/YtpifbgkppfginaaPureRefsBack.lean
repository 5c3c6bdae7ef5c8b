/- Dropping what was added leaves the index as it was: the plain statement that is left of the law RefsBack. -/
import Derived.Test.YtpifbgkppfginaaRefsR
import Derived.Test.YtpifbgkppfginaaText
import Derived.Test.YtpifbgkppfginaaPAx0
import Derived.Test.YtpifbgkppfginaaPAx27
import Derived.Test.YtpifbgkppfginaaPAx28
import Derived.Test.YtpifbgkppfginaaPAx31
set_option linter.unusedVariables false
namespace Go.Proofs.Ytpifbgkppfginaa.Pure
open Go.RowKit Go.Proofs.Ytpifbgkppfginaa.PA Go.Proofs.YtpifbgkppfginaaW.PrintWords Go.Proofs.YtpifbgkppfginaaW.PrintLast Go.Proofs.Ytpifbgkppfginaa.Dig
/-- An index of few rows, counted few times. -/
structure Small (l : List S33) (n : Nat) : Prop where
  vx : Vx l
  len : l.length ≤ n
  cnt : ∀ r ∈ l, r.f1 ≤ n
theorem small_nil (n : Nat) : Small [] n := ⟨Vx.nil, by simp, by simp⟩
theorem Small.more {l : List S33} {n : Nat} (h : Small l n) (hn : n < 100) (s : ByteArray) (hs : s.size ≤ 16384) {A B : List S33} {o : Option S33} (ha : At l (dg s) A o B) : Small (added (dg s) s A B l.length o).1 (n + 1) := by
  have hlen := h.len
  cases o with
  | some r =>
    rw [added_there]
    have hr : r ∈ l := by cases ha with | there e => rw [e]; simp
    have hr0 : r.f0 = dg s := by cases ha with | there e hA hr => exact hr
    have h1 := h.cnt r hr
    have h2 := h.vx.rows r hr
    have h3 := h2.lo
    split
    · rename_i c
      rw [if_neg (by omega)]
      refine ⟨At.vx_put h.vx ha ⟨h2.size, h2.dig, ?_, ?_⟩ hr0 (fun h => by cases h), ?_, ?_⟩
      · show 1 ≤ r.f1 + 1; omega
      · show r.f1 + 1 < 2147483647; omega
      · cases ha with | there e => rw [e] at hlen; simp at hlen ⊢; omega
      · intro x hx
        have old : ∀ y ∈ l, y.f1 ≤ ((n + 1 : Nat) : Int) := fun y hy => by have := h.cnt y hy; omega
        cases ha with | there e =>
          rw [e] at old
          rcases List.mem_append.mp hx with hx | hx
          · exact old x (by simp [hx])
          · rcases List.mem_cons.mp hx with rfl | hx
            · show r.f1 + 1 ≤ _; omega
            · exact old x (by simp [hx])
    · exact small_nil _
  | none =>
    rw [added_free, if_neg (by omega)]
    refine ⟨At.vx_put h.vx ha ⟨hs, rfl, by show (1 : Int) ≤ 1; decide, by show (1 : Int) < 2147483647; decide⟩ rfl (fun _ => by omega), ?_, ?_⟩
    · cases ha with | free e => rw [e] at hlen; simp at hlen ⊢; omega
    · intro x hx
      have old : ∀ y ∈ l, y.f1 ≤ ((n + 1 : Nat) : Int) := fun y hy => by have := h.cnt y hy; omega
      cases ha with | free e =>
        rw [e] at old
        rcases List.mem_append.mp hx with hx | hx
        · exact old x (by simp [hx])
        · rcases List.mem_cons.mp hx with rfl | hx
          · show (1 : Int) ≤ _; omega
          · exact old x (by simp [hx])
theorem index_loop {L : List Int} : ∀ (d : Nat) (l : List S33) (n : Nat) (p : Int) (k : Nat), DeckOk L p → Small l n → n + d ≤ 50 → d + 30000 < k →
    ∃ l' q, storagebartermake_Index.l0 k (d : Int) L p l = some (l', q) ∧ Small l' (n + d) ∧ DeckOk L q
  | 0, l, n, p, k, hp, hl, hn, hk => by
    obtain ⟨k, rfl⟩ : ∃ m, k = m + 1 := ⟨k - 1, by omega⟩
    rw [storagebartermake_Index.l0]
    rw [if_neg (by omega)]
    exact ⟨l, p, rfl, hl, hp⟩
  | d + 1, l, n, p, k, hp, hl, hn, hk => by
    obtain ⟨k, rfl⟩ : ∃ m, k = m + 1 := ⟨k - 1, by omega⟩
    obtain ⟨s, q, e, hs, hq, _⟩ := text_some hp 4 (by decide) (by decide) k (by omega)
    obtain ⟨A, o, B, ha⟩ := at_some hl.vx.up (dg s)
    rw [storagebartermake_Index.l0]
    rw [if_pos (by omega), e]
    simp only [Option.bind_some]
    rw [radd_some hl.vx s (by omega) ha k (by omega), show wrap64 (((d + 1 : Nat) : Int) - 1) = (d : Int) by rw [w64 (by omega) (by omega)]; omega]
    simp only [Option.bind_some]
    obtain ⟨l', q', e', h1, h2⟩ := index_loop d _ (n + 1) q k hq (hl.more (by omega) s (by omega) ha) (by omega) (by omega)
    exact ⟨l', q', e', by rw [show n + (d + 1) = n + 1 + d by omega]; exact h1, h2⟩
theorem index_some {L : List Int} {p : Int} (hp : DeckOk L p) (k : Nat) (hk : 30020 < k) : ∃ l q, storagebartermake_Index.f k L p = some (l, q) ∧ Small l 9 ∧ DeckOk L q := by
  obtain ⟨v, q, e, hv0, hv1, hq, _⟩ := next_some hp 9 (by decide) (by decide)
  unfold storagebartermake_Index.f
  rw [e]
  simp only [Option.bind_some]
  obtain ⟨m, rfl⟩ : ∃ m : Nat, v = m := ⟨v.toNat, by omega⟩
  obtain ⟨l', q', e', h1, h2⟩ := index_loop m [] 0 q k hq (small_nil 0) (by omega) (by omega)
  refine ⟨l', q', e', ⟨h1.vx, by have := h1.len; omega, fun r hr => by have := h1.cnt r hr; omega⟩, h2⟩
theorem RefsBack : storagebarterlaw09_RefsBack.Pure := by
  intro L s h0 h1 h2 h3
  refine ⟨40000, ?_⟩
  obtain ⟨k, hk⟩ : ∃ k, k = 39999 := ⟨_, rfl⟩
  rw [show 40000 = k + 1 by omega]
  unfold storagebarterlaw09_RefsBack.f
  rw [sane_some _ (by omega), few_some]
  simp only [Option.bind_some, if_true]
  have j0t : storagebarterlaw09_RefsBack.j0 (k + 1) L s true = some true := by rw [storagebarterlaw09_RefsBack.j0]; rfl
  by_cases cf : (L.length : Int) ≤ 500
  · rw [decide_eq_true cf, if_pos rfl]
    by_cases cs : (s.size : Int) > 2000
    · rw [decide_eq_true cs, j0t]
    · rw [decide_eq_false cs, storagebarterlaw09_RefsBack.j0]
      rw [if_neg (by decide)]
      have hd : DeckOk L 0 := ⟨by decide, by omega, by omega⟩
      obtain ⟨l, q, e, hl, hq⟩ := index_some hd k (by omega)
      obtain ⟨A, o, B, ha⟩ := at_some hl.vx.up (dg s)
      have hlen := hl.len
      have en : storagebartermake_New.f L = some (L, 0) := rfl
      rw [en]
      simp only [Option.bind_some]
      rw [e]
      simp only [Option.bind_some]
      rw [add_some hl.vx s (by omega) ha k (by omega)]
      simp only [Option.bind_some]
      rw [sum_some s (by omega) k (by omega)]
      simp only [Option.bind_some]
      cases o with
      | some r =>
        have hr : r ∈ l := by cases ha with | there e => rw [e]; simp
        have hr0 : r.f0 = dg s := by cases ha with | there e hA hr => exact hr
        have c1 := hl.cnt r hr
        have c2 := hl.vx.rows r hr
        have c3 := c2.lo
        by_cases c : r.f2 = s
        · have ea : added (dg s) s A B l.length (some r) = (A ++ (⟨r.f0, r.f1 + 1, r.f2⟩ : S33) :: B, false, 0) := by rw [added_there, if_pos c, if_neg (by omega)]
          rw [ea]
          simp only [if_true]
          have hv : Vx (A ++ (⟨r.f0, r.f1 + 1, r.f2⟩ : S33) :: B) := At.vx_put hl.vx ha ⟨c2.size, c2.dig, by show 1 ≤ r.f1 + 1; omega, by show r.f1 + 1 < 2147483647; omega⟩ hr0 (fun h => by cases h)
          have hb := ha.back (y := (⟨r.f0, r.f1 + 1, r.f2⟩ : S33)) hr0
          rw [drop_some hv hb k (by omega), dropped_there, if_neg (by show ¬ r.f1 + 1 = 1; omega)]
          simp only [Option.bind_some]
          rw [get_some hv hb k (by omega)]
          simp only [Option.bind_some]
          have el : A ++ (⟨r.f0, r.f1 + 1 - 1, r.f2⟩ : S33) :: B = l := by
            cases ha with | there e =>
              rw [e, show r.f1 + 1 - 1 = r.f1 by omega]
          rw [el]
          have eg : got (some (⟨r.f0, r.f1 + 1, r.f2⟩ : S33)) = (r.f2, r.f1 + 1, 0) := rfl
          rw [eg, same_some l hl.vx.len k (by omega)]
          have hne : ((r.f1 + 1 : Int) == 1) = false := beq_eq_false_iff_ne.mpr (by omega)
          simp only [if_true, Option.bind_some]
          rw [if_pos (by rfl), if_pos (text_eq.mpr c), hne]
          rfl
        · have ea : added (dg s) s A B l.length (some r) = ([], false, 8) := by rw [added_there, if_neg c]
          rw [ea]
          rfl
      | none =>
        have ea : added (dg s) s A B l.length none = (A ++ (⟨dg s, 1, s⟩ : S33) :: B, true, 0) := by rw [added_free, if_neg (by omega)]
        rw [ea]
        simp only [if_true]
        have hv : Vx (A ++ (⟨dg s, 1, s⟩ : S33) :: B) := At.vx_put hl.vx ha ⟨by show s.size ≤ 16384; omega, rfl, by show (1 : Int) ≤ 1; decide, by show (1 : Int) < 2147483647; decide⟩ rfl (fun _ => by omega)
        have hb := ha.back (y := (⟨dg s, 1, s⟩ : S33)) rfl
        rw [drop_some hv hb k (by omega), dropped_there, if_pos (show (⟨dg s, 1, s⟩ : S33).f1 = 1 from rfl)]
        simp only [Option.bind_some]
        rw [get_some hv hb k (by omega)]
        simp only [Option.bind_some]
        have el : A ++ B = l := by cases ha with | free e => rw [e]
        rw [el]
        have eg : got (some (⟨dg s, 1, s⟩ : S33)) = (s, 1, 0) := rfl
        rw [eg, same_some l hl.vx.len k (by omega)]
        simp only [if_true, Option.bind_some]
        rw [if_pos (by rfl)]
        rfl
  · rw [decide_eq_false cf, if_neg (by decide), j0t]
end Go.Proofs.Ytpifbgkppfginaa.Pure
