/- What a deck of numbers hands out: a choice below its bound; the deck's place stays in the list. -/
import Derived.Test.YtpifbgkppfginaaPZx0
set_option linter.unusedVariables false
set_option linter.unusedSimpArgs false
namespace Go.Proofs.Ytpifbgkppfginaa.PZ
open Go.RowKit Go.Proofs.YtpifbgkppfginaaW.PrintWords Go.Proofs.YtpifbgkppfginaaW.PrintLast
theorem w64 {n : Int} (h0 : -9223372036854775808 ≤ n) (h1 : n ≤ 9223372036854775807) : wrap64 n = n := by
 unfold wrap64
 omega
theorem Mod_some' (a n : Int) (hn : 1 ≤ n) (hn2 : n ≤ 4611686018427387904) : make_Mod.f a n = some (a % n) := by
 unfold make_Mod.f
 rw [if_neg (by omega)]
 have h2 : a % n < n := Int.emod_lt_of_pos _ (by omega)
 have h3 : 0 ≤ a % n := Int.emod_nonneg _ (by omega)
 have h4 : ((n.natAbs : Int)) = n := by omega
 have h := Int.tmod_eq_emod (a := a) (b := n)
 congr 1
 split at h
 ·have e : Int.tmod a n = a % n := by rw [h]; omega
  rw [e, w64 (by omega) (by omega), Int.tmod_eq_emod_of_nonneg (by omega), Int.add_emod_right, Int.emod_emod_of_dvd _ (Int.dvd_refl n)]
 ·rw [h4] at h
  rw [h, w64 (by omega) (by omega), Int.tmod_eq_emod_of_nonneg (by omega)]
  have e : a % n - n + n = a % n := by omega
  rw [e]
  exact Int.emod_emod_of_dvd _ (Int.dvd_refl n)
structure DeckOk (L : List Int) (at_ : Int) : Prop where
 lo : 0 ≤ at_
 hi : at_ ≤ L.length
 len : L.length ≤ 140737488355328
theorem next_some {L : List Int} {p : Int} (h : DeckOk L p) (n : Int) (hn : 1 ≤ n) (hn2 : n ≤ 4611686018427387904) :
 ∃ v q, make_Deck_Next.f L p n = some (v, q) ∧ 0 ≤ v ∧ v < n ∧ DeckOk L q ∧ p ≤ q ∧ q ≤ p + 1 := by
 have hl := h.lo
 have hh := h.hi
 have hlen := h.len
 unfold make_Deck_Next.f
 rw [if_neg (by omega)]
 by_cases c : p ≥ (L.length : Int)
 ·rw [if_pos c]
  exact ⟨0, p, rfl, by omega, by omega, h, by omega, by omega⟩
 ·rw [if_neg c, if_pos (by omega), if_pos (by omega), Mod_some' _ n hn hn2]
  refine ⟨_, _, rfl, Int.emod_nonneg _ (by omega), Int.emod_lt_of_pos _ (by omega), ?_, ?_, ?_⟩
  ·rw [w64 (by omega) (by omega)]
   exact ⟨by omega, by omega, hlen⟩
  ·rw [w64 (by omega) (by omega)]; omega
  ·rw [w64 (by omega) (by omega)]; omega
theorem few_some (L : List Int) : make_Few.f L = some (decide ((L.length : Int) ≤ 500)) := rfl
end Go.Proofs.Ytpifbgkppfginaa.PZ
