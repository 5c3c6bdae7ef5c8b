/- What slices.DeleteFunc does to a list, step by step. No program in sight. -/
set_option linter.unusedVariables false
namespace Go.Proofs.Ytghepgcbciikmaa.Del
variable {α : Type} (p : α → Bool)
structure At (xs ys : List α) (i j : Nat) : Prop where
 le : i ≤ j
 hi : j ≤ xs.length
 len : ys.length = xs.length
 kept : ys.take i = (xs.take j).filter (fun x => !p x)
 rest : ys.drop j = xs.drop j
theorem At.read {xs ys : List α} {i j : Nat} (h : At p xs ys i j) (hj : j < xs.length) : ys[j]'(by rw [h.len]; exact hj) = xs[j] := by
 have h1 := List.drop_eq_getElem_cons (show j < ys.length by rw [h.len]; exact hj)
 have h2 := List.drop_eq_getElem_cons hj
 rw [h.rest, h2] at h1
 injection h1 with h1 _
 exact h1.symm
theorem At.skip {xs ys : List α} {i j : Nat} (h : At p xs ys i j) (hj : j < xs.length) (hp : p xs[j] = true) : At p xs ys i (j + 1) := by
 refine ⟨by have := h.le; omega, hj, h.len, ?_, ?_⟩
 ·rw [List.take_succ_eq_append_getElem hj, List.filter_append, h.kept]
  simp [hp]
 ·rw [← List.drop_drop, h.rest, List.drop_drop]
theorem At.keep {xs ys : List α} {i j : Nat} (h : At p xs ys i j) (hj : j < xs.length) (hp : p xs[j] = false) : At p xs (ys.set i xs[j]) (i + 1) (j + 1) := by
 have hle := h.le
 have hl := h.len
 refine ⟨by omega, hj, by rw [List.length_set]; exact h.len, ?_, ?_⟩
 ·rw [List.take_succ_eq_append_getElem hj, List.filter_append, ← h.kept]
  rw [List.take_succ_eq_append_getElem (show i < (ys.set i xs[j]).length by rw [List.length_set]; omega), List.getElem_set_self]
  rw [List.take_set_of_le (Nat.le_refl _)]
  simp [hp]
 ·rw [List.drop_set_of_lt (by omega), ← List.drop_drop, h.rest, List.drop_drop]
theorem At.start {xs : List α} {j : Nat} (hj : j ≤ xs.length) (h : ∀ x ∈ xs.take j, p x = false) : At p xs xs j j :=
 ⟨Nat.le_refl _, hj, rfl, (List.filter_eq_self.mpr (fun x hx => by rw [h x hx]; rfl)).symm, rfl⟩
theorem At.done {xs ys : List α} {i : Nat} (h : At p xs ys i xs.length) : ys.take i = xs.filter (fun x => !p x) := by
 rw [h.kept, List.take_of_length_le (Nat.le_refl _)]
end Go.Proofs.Ytghepgcbciikmaa.Del
