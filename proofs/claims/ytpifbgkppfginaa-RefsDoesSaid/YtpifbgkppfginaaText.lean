/- What mk.Text hands out: a text of at most so many bytes. -/
import Derived.Test.YtpifbgkppfginaaDeck
import Derived.Test.YtpifbgkppfginaaPZx6
set_option linter.unusedVariables false
namespace Go.Proofs.Ytpifbgkppfginaa.PZ
open Go.RowKit Go.Proofs.YtpifbgkppfginaaW.PrintWords Go.Proofs.YtpifbgkppfginaaW.PrintLast
theorem str_size (b : List Int) : (strOfNums b).size = b.length := by simp [strOfNums, ByteArray.size]
theorem text_loop {L : List Int} : ∀ (n : Nat) (b : List Int) (p : Int) (k : Nat), DeckOk L p → b.length + n ≤ 100000 → n < k →
 ∃ s q, make_Text.l0 k b (n : Int) L p = some (s, q) ∧ s.size = b.length + n ∧ DeckOk L q ∧ p ≤ q
 | 0, b, p, k, hp, hb, hk => by
  obtain ⟨k, rfl⟩ : ∃ m, k = m + 1 := ⟨k - 1, by omega⟩
  rw [make_Text.l0]
  rw [if_neg (by omega)]
  exact ⟨_, _, rfl, str_size b, hp, Int.le_refl _⟩
 | n + 1, b, p, k, hp, hb, hk => by
  obtain ⟨k, rfl⟩ : ∃ m, k = m + 1 := ⟨k - 1, by omega⟩
  obtain ⟨v, q, e, _, _, hq, hpq, _⟩ := next_some hp 5 (by decide) (by decide)
  rw [make_Text.l0]
  rw [if_pos (by omega), e]
  simp only [Option.bind_some]
  rw [if_pos (by omega), show wrap64 (((n + 1 : Nat) : Int) - 1) = (n : Int) by rw [w64 (by omega) (by omega)]; omega]
  obtain ⟨s, q2, e2, h1, h2, h3⟩ := text_loop n (b ++ [wrap64 (v * 51) % 256]) q k hq (by simp; omega) (by omega)
  exact ⟨s, q2, e2, by rw [h1]; simp; omega, h2, Int.le_trans hpq h3⟩
theorem text_some {L : List Int} {p : Int} (hp : DeckOk L p) (n : Int) (h0 : 0 ≤ n) (h1 : n ≤ 10000) (k : Nat) (hk : 10001 < k) :
 ∃ s q, make_Text.f k L p n = some (s, q) ∧ (s.size : Int) ≤ n ∧ DeckOk L q ∧ p ≤ q := by
 obtain ⟨v, q, e, hv0, hv1, hq, hpq, _⟩ := next_some hp (n + 1) (by omega) (by omega)
 unfold make_Text.f
 rw [w64 (by omega) (by omega), e]
 simp only [Option.bind_some]
 obtain ⟨m, rfl⟩ : ∃ m : Nat, v = m := ⟨v.toNat, by omega⟩
 obtain ⟨s, q2, e2, h2, h3, h4⟩ := text_loop m [] q k hq (by simp; omega) (by omega)
 exact ⟨s, q2, e2, by rw [h2]; simp; omega, h3, Int.le_trans hpq h4⟩
end Go.Proofs.Ytpifbgkppfginaa.PZ
