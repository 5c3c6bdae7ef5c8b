/- 'copy(dst, src)' onto a row of the call's own. -/
import Derived.Test.YtejhjncobibgmaaShift
set_option linter.unusedVariables false
set_option linter.unusedSimpArgs false
namespace Go.Proofs.YtejhjncobibgmaaW.PrintWords
open Go.RowKit
/-- The first elements, as many as both have, are the others'. -/
def copyOver {α : Type} (xs ys : List α) : List α := ys.take xs.length ++ xs.drop ys.length
theorem copyOver_length {α : Type} (xs ys : List α) : (copyOver xs ys).length = xs.length := by
  unfold copyOver
  rw [List.length_append, List.length_take, List.length_drop]
  omega
section
variable {P : Program} {W : World} {α : Type} {d : Kd α} {enc : α → List Value}
theorem Flat.copy_run (F : Flat d enc) (hK : ∀ {w : World} {x : α} {cs : List Value}, d.K w x cs → cs = enc x) (base : Nat) (t e : TypeId) (ht : P.underlying t = some (.slice e)) (hinfo : (P.info? e).map (·.size) = some d.sz)
    {n c m c2 : Nat} {A B : Option Addr} {xs ys : List α} {ok : Nat → Prop} (HO : d.R e W base ok (.slice A n c) xs) (hn : xs.length = n) (HS : d.C W B m ys) (ty : TypeId) :
    ∃ w1 r, (Builtin.copy_ #[t, t] ty #[.slice A n c, .slice B m c2]).run P W = .ok r w1 ∧ d.R e w1 base ok (.slice A n c) (copyOver xs ys) ∧ W.grownBy w1 (Value.slice A n c).ownBlock := by
  have hm : ys.length = m := HS.1
  have hp := F.pos
  have same : ∀ v, W.grownBy W v := fun v => ⟨rfl, rfl, rfl, Nat.le_refl _, fun _ _ _ => rfl⟩
  obtain ⟨i, hq, hi⟩ : ∃ i, P.info? e = some i ∧ i.size = d.sz := by
    cases h : P.info? e with
    | none => simp [h] at hinfo
    | some i => exact ⟨i, rfl, by simpa [h] using hinfo⟩
  have hl0 : ∀ a : Addr, (loadCells a 0).run P W = .ok #[] W := fun a => by
    have := run_loadCells_list (P := P) W a [] (fun j v h => by simp at h)
    simpa using this
  rcases Nat.eq_zero_or_pos (Nat.min m n) with h0 | h0
  · have e1 : copyOver xs ys = xs := by
      unfold copyOver
      rcases Nat.eq_zero_or_pos n with hz | hz
      · have : xs = [] := List.eq_nil_of_length_eq_zero (by omega)
        rw [this]
        simp
      · have : ys = [] := List.eq_nil_of_length_eq_zero (by simp only [Nat.min_def] at h0; split at h0 <;> omega)
        rw [this]
        simp
    rw [e1]
    refine ⟨W, goInt 0, ?_, HO, same _⟩
    cases A <;> cases B <;> simp [Builtin.copy_, run_underlying ht, Builtin.lenOf, Builtin.firstCells, sizeOf, typeInfo, hq, hi, h0, hl0, storeCells]
  · rcases F.block HO with ⟨h, hx⟩ | ⟨g, cap, cur, hv, hg, hok, hH, hnc, hcm, hl, htk⟩
    · injection h with _ h _
      subst h
      simp [Nat.min_def] at h0
    · injection hv with ha h2 h3
      subst ha; subst h2; subst h3
      have hmp : 0 < m := by simp only [Nat.min_def] at h0; split at h0 <;> omega
      obtain ⟨ad, rfl⟩ : ∃ ad, B = some ad := by
        cases B with
        | some ad => exact ⟨ad, rfl⟩
        | none =>
          cases ys with
          | nil => simp at hm; omega
          | cons y ys =>
            obtain ⟨ad, _, h, _⟩ := Kd.C_get HS y 0 (by decide) (by omega)
            cases h
      obtain ⟨q, hqe⟩ : ∃ q, q = Nat.min m xs.length := ⟨_, rfl⟩
      have hqm : q ≤ m := by rw [hqe]; exact Nat.min_le_left _ _
      have hqn : q ≤ xs.length := by rw [hqe]; exact Nat.min_le_right _ _
      obtain ⟨cs, hcs⟩ : ∃ cs, cs = flat enc (ys.take q) := ⟨_, rfl⟩
      have hcl : cs.length = q * d.sz := by rw [hcs, F.flat_len, List.length_take, hm, Nat.min_eq_left hqm]
      have hct : cs = (flat enc ys).take (q * d.sz) := by rw [hcs, F.flat_take]
      have hsrc : ∀ j v, cs[j]? = some v → W.cell? (ad.add j) = some v := fun j v hj => by
        refine F.cells hK HS j v ?_
        rw [hct] at hj
        rw [List.getElem?_take] at hj
        split at hj
        · exact hj
        · cases hj
      have hle : q * d.sz ≤ xs.length * d.sz := Nat.mul_le_mul_right _ hqn
      have hle2 : xs.length * d.sz ≤ c * d.sz := Nat.mul_le_mul_right _ hnc
      have hfit : 0 + cs.length ≤ cur.length := by rw [hcl, hl]; omega
      have hrun := run_copy_rows (P := P) hH t t ty e d.sz ht hinfo 0 xs.length c ad m c2 cs (by rw [hcl, hqe]) hsrc hfit (by rw [hcs]; exact F.one W _)
      refine ⟨_, _, hrun, ?_, setCells_grown hH _ _ hfit⟩
      refine F.own (copyOver_length xs ys) hg hok (setCells_heap hH _ _ hfit) hnc hcm (by rw [over_len _ _ _ hfit, hl]) ?_
      unfold over
      rw [List.take_zero, List.nil_append, List.take_append, List.take_of_length_le (by omega), Nat.zero_add, hcl]
      have e2 : (cur.drop (q * d.sz)).take (xs.length * d.sz - q * d.sz) = flat enc (xs.drop q) := by
        rw [← List.drop_take, htk, F.flat_drop]
      rw [e2, hcs, ← flat_append]
      congr 1
      unfold copyOver
      rcases Nat.le_total m xs.length with h | h
      · have : q = m := by rw [hqe]; exact Nat.min_eq_left h
        rw [this, List.take_of_length_le (by omega), List.take_of_length_le (by omega), hm]
      · have : q = xs.length := by rw [hqe]; exact Nat.min_eq_right h
        rw [this, List.drop_eq_nil_of_le (Nat.le_refl _), List.drop_eq_nil_of_le (by omega)]
theorem Flat.copy_list {ops : Array Oper} {rest : List Oper} {o : Oper} {a : Act} {Q : Exit → Act → World → Prop} (F : Flat d enc) (hK : ∀ {w : World} {x : α} {cs : List Value}, d.K w x cs → cs = enc x) {w0 : World} (base : Nat) (hgd : o.guard = none) (s x : Operand) (t e : TypeId) (ho : o.op = .call { callee := .builtin .copy, args := #[s, x], argTypes := #[t, t] })
    (ht : P.underlying t = some (.slice e)) (hinfo : (P.info? e).map (·.size) = some d.sz) {n c m c2 : Nat} {A B : Option Addr} {xs ys : List α} {ok : Nat → Prop}
    (hs : a.eval s = .slice A n c) (hx : a.eval x = .slice B m c2) (HO : d.R e W base ok (.slice A n c) xs) (hn : xs.length = n) (HS : d.C W B m ys) (HB : Below base w0 W) (hbase : base ≤ W.heap.size)
    (h : ∀ w1 r, d.R e w1 base ok (.slice A n c) (copyOver xs ys) → Below base w0 w1 → W.grownBy w1 (Value.slice A n c).ownBlock → wpList P ops Q rest (a.put o.dst r) w1) : wpList P ops Q (o :: rest) a W := by
  obtain ⟨w1, r, hr, h1, h2⟩ := F.copy_run (P := P) hK base t e ht hinfo (c2 := c2) HO hn HS o.type
  refine wpList_copy_is hgd s x t t ho _ _ hs hx hr ?_
  exact h w1 r h1 (HB.grown h2 hbase (fun k hk => Kd.R_base HO _ hk)) h2
end
end Go.Proofs.YtejhjncobibgmaaW.PrintWords
