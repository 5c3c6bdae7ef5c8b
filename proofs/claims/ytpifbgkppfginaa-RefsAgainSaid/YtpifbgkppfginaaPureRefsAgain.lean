/- A text that is added again and again is kept once, with its count: the plain statement that is left of the law RefsAgain. -/
import Derived.Test.YtpifbgkppfginaaRefs
import Derived.Test.YtpifbgkppfginaaPAx0
import Derived.Test.YtpifbgkppfginaaPAx2
import Derived.Test.YtpifbgkppfginaaPAx3
import Derived.Test.YtpifbgkppfginaaPAx7
import Derived.Test.YtpifbgkppfginaaPAx9
import Derived.Test.YtpifbgkppfginaaPAx10
set_option linter.unusedVariables false
namespace Go.Proofs.Ytpifbgkppfginaa.Pure
open Go.RowKit Go.Proofs.Ytpifbgkppfginaa.PA Go.Proofs.YtpifbgkppfginaaW.PrintWords Go.Proofs.YtpifbgkppfginaaW.PrintLast Go.Proofs.Ytpifbgkppfginaa.Dig
theorem byte_rng {a : Int} (h : (Lit.int .u8 a).wf = true) : 0 ≤ a ∧ a ≤ 255 := by
  simp [Lit.wf, IntKind.min, IntKind.max, IntKind.bits, IntKind.signed] at h
  omega
/-- One row, its count n. -/
def one (s : ByteArray) (n : Int) : S33 := ⟨dg s, n, s⟩
theorem one_ok (s : ByteArray) (hs : s.size ≤ 16384) (n : Int) (h0 : 1 ≤ n) (h1 : n ≤ 100) : RowOk (one s n) := ⟨hs, rfl, h0, by show n < 2147483647; omega⟩
theorem at_nil (d : Int) : At [] d [] none [] := .free rfl (by simp) (by simp)
theorem at_one (s : ByteArray) (n : Int) : At [one s n] (dg s) [] (some (one s n)) [] := .there rfl (by simp) rfl (by simp)
theorem vx_one (s : ByteArray) (hs : s.size ≤ 16384) (n : Int) (h0 : 1 ≤ n) (h1 : n ≤ 100) : Vx [one s n] := At.vx_put Vx.nil (at_nil (dg s)) (one_ok s hs n h0 h1) rfl (by simp)
theorem add_again (s : ByteArray) (hs : s.size ≤ 16384) (n : Int) (h0 : 1 ≤ n) (h1 : n ≤ 99) (k : Nat) (hk : 20010 < k) : refs_Add.f k [one s n] s = some ([one s (n + 1)], false, 0) := by
  rw [add_some (vx_one s hs n h0 (by omega)) s hs (at_one s n) k hk, added_there, if_pos (show (one s n).f2 = s from rfl), if_neg (by show ¬ n = 2147483646; omega)]
  rfl
theorem bad_form (s : ByteArray) (hs : s.size ≤ 2000) (c : ¬ dg (s ++ (⟨#[120]⟩ : ByteArray)) = dg s) (k : Nat) (hk : 20010 < k) : refs_Check.f k [(⟨dg s, 1, s ++ (⟨#[120]⟩ : ByteArray)⟩ : S33)] = some 2 := by
  have b1 : (s ++ (⟨#[120]⟩ : ByteArray)).size = s.size + 1 := ByteArray.size_append
  obtain ⟨k, rfl⟩ : ∃ m, k = m + 1 := ⟨k - 1, by omega⟩
  unfold refs_Check.f refs_valid.f
  have e1 : rd_T33 [(⟨dg s, 1, s ++ (⟨#[120]⟩ : ByteArray)⟩ : S33)] 0 = ⟨dg s, 1, s ++ (⟨#[120]⟩ : ByteArray)⟩ := rfl
  rw [if_neg (by simp), refs_valid.l0]
  rw [if_pos (by simp), if_pos (by omega), if_pos (by simp), if_neg (by omega), e1]
  show (if ((s ++ (⟨#[120]⟩ : ByteArray)).size : Int) > 16384 then some false else (digest_Sum.f k (s ++ (⟨#[120]⟩ : ByteArray))).bind fun t105 => _).bind _ = _
  rw [if_neg (by omega), sum_some _ (by omega) k (by omega)]
  simp only [Option.bind_some]
  rw [if_neg (fun h => c h.symm)]
  rfl
theorem again_loop (s : ByteArray) (hs : s.size ≤ 2000) (x1 : Int) (m : Nat) (hm : m < 5) (hx : Int.tmod x1 5 = m) (k0 : Nat) (hk0 : 20020 < k0) : ∀ (d i : Nat), i + d = m →
    storagebarterlaw09_RefsAgain.l0 (k0 + d + 1) s x1 0 (m : Int) (i : Int) [one s (i + 1)] = some true
  | 0, i, hi => by
    obtain rfl : i = m := by omega
    rw [storagebarterlaw09_RefsAgain.l0]
    rw [if_neg (by omega), sum_some s (by omega) _ (by omega)]
    simp only [Option.bind_some]
    rw [get_some (vx_one s (by omega) (i + 1) (by omega) (by omega)) (at_one s _) _ (by omega)]
    have b1 : (s ++ (⟨#[120]⟩ : ByteArray)).size = s.size + 1 := ByteArray.size_append
    have e1 : got (some (one s ((i : Int) + 1))) = (s, (i : Int) + 1, 0) := rfl
    rw [e1]
    simp only [Option.bind_some]
    simp only [if_true]
    rw [if_pos (by omega), hx, rw64 (n := (i : Int)) (by omega) (by omega), rw64 (by omega) (by omega), if_pos (by omega), sum_some _ (by omega) _ (by omega)]
    simp only [Option.bind_some]
    by_cases c : dg (s ++ (⟨#[120]⟩ : ByteArray)) = dg s
    · rw [if_pos c]
    · rw [if_neg c, bad_form s hs c _ (by omega)]
      rfl
  | d + 1, i, hi => by
    rw [show k0 + (d + 1) + 1 = (k0 + d + 1) + 1 by omega, storagebarterlaw09_RefsAgain.l0]
    rw [if_pos (by omega), add_again s (by omega) _ (by omega) (by omega) _ (by omega)]
    simp only [Option.bind_some]
    rw [if_pos trivial, if_neg (by decide)]
    have e2 : ((i : Int) + 1) % 256 = ((i + 1 : Nat) : Int) := by omega
    rw [e2]
    have := again_loop s hs x1 m hm hx k0 hk0 d (i + 1) (by omega)
    rw [show ((i + 1 : Nat) : Int) + 1 = (i : Int) + 1 + 1 by omega] at this
    exact this
theorem RefsAgain : storagebarterlaw09_RefsAgain.Pure := by
  intro a0 a1 h0 h1
  have r1 := byte_rng h1
  refine ⟨20100, ?_⟩
  obtain ⟨k, hk⟩ : ∃ k, k = 20100 := ⟨_, rfl⟩
  rw [← hk]
  unfold storagebarterlaw09_RefsAgain.f
  rw [sane_some k (by omega)]
  simp only [Option.bind_some, if_true]
  by_cases c : (a0.size : Int) > 2000
  · rw [if_pos c]
  · rw [if_neg c, add_some Vx.nil a0 (by omega) (at_nil (dg a0)) k (by omega), added_free, if_neg (by simp)]
    simp only [Option.bind_some]
    have t0 : 0 ≤ Int.tmod a1 5 ∧ Int.tmod a1 5 < 5 := ⟨by rw [Int.tmod_eq_emod_of_nonneg r1.1]; omega, by rw [Int.tmod_eq_emod_of_nonneg r1.1]; omega⟩
    obtain ⟨m, hm⟩ : ∃ m : Nat, Int.tmod a1 5 = m := ⟨(Int.tmod a1 5).toNat, by omega⟩
    obtain ⟨k0, hk0⟩ : ∃ k0, k = k0 + m + 1 := ⟨k - m - 1, by omega⟩
    have := again_loop a0 (by omega) a1 m (by omega) hm k0 (by omega) m 0 (by omega)
    rw [← hk0] at this
    rw [hm]
    exact this
end Go.Proofs.Ytpifbgkppfginaa.Pure
