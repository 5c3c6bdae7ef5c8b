/- Each nonce is asked once, in the order in which they were prepared, and one that was not asked is not judged: the plain statement that is left of the law ChallengeOnce. -/
import Derived.Test.YtfabnklcdagfjaaChal
import Derived.Test.YtfabnklcdagfjaaPAx10
import Derived.Test.YtfabnklcdagfjaaPAx21
import Derived.Test.YtfabnklcdagfjaaPAx22
set_option linter.unusedVariables false
namespace Go.Proofs.Ytfabnklcdagfjaa.Pure
open Go.RowKit Go.Proofs.Ytfabnklcdagfjaa.PA Go.Proofs.YtfabnklcdagfjaaW.PrintWords Go.Proofs.YtfabnklcdagfjaaW.PrintLast Go.Proofs.Ytfabnklcdagfjaa.Dig
theorem sane_ev : Ev (fun k => storagebarterlaw20_sane.f k) true := Ev.of storagebarterlaw20_sane.mono (k := 20) (by decide +kernel)
theorem ints_loop (a b : List Int) (hl : a.length ≤ 1000000) (h : a = b) : ∀ (d j k : Nat), j + d = a.length → d < k → storagebarterlaw20_ints.l0 k a b (a.length : Int) (j : Int) = some true
  | 0, j, k, hj, hk => by
    obtain ⟨k, rfl⟩ : ∃ m, k = m + 1 := ⟨k - 1, by omega⟩
    rw [storagebarterlaw20_ints.l0]
    rw [if_neg (by omega)]
  | d + 1, j, k, hj, hk => by
    subst h
    obtain ⟨k, rfl⟩ : ∃ m, k = m + 1 := ⟨k - 1, by omega⟩
    rw [storagebarterlaw20_ints.l0]
    rw [if_pos (by omega), if_pos (by omega), if_pos (by omega), if_pos (by omega), if_pos rfl, w64 (by omega) (by omega)]
    exact ints_loop a a hl rfl d (j + 1) k (by omega) (by omega)
def tk (i : Nat) : List Int := (List.range i).map fun (j : Nat) => (j : Int)
theorem tk_len (i : Nat) : (tk i).length = i := by simp [tk]
theorem tk_at (i j : Nat) (h : j < i) : (tk i).getD j 0 = j := by
  unfold tk
  rw [List.getD_eq_getElem?_getD]
  simp [h]
theorem tk_ok (i : Nat) (h : i ≤ 64) : Ticks (tk i) i := ⟨fun j hj => by rw [tk_at i j hj]; omega, fun j j' hj hj' => by rw [tk_at i j (by omega), tk_at i j' hj']; omega⟩
theorem tk_snoc (i : Nat) : tk i ++ [(i : Int)] = tk (i + 1) := by simp [tk, List.range_succ]
theorem once_loop (s : List UInt8) (ns : List Int) (c0 : Int) (hn : Asc ns) (h0 : 0 ≤ c0 ∧ c0 < 2147483647) : ∀ (d i k : Nat), i + d = ns.length → d + 200 < k →
    storagebarterlaw20_ChallengeOnce.l0 k ns (ns.take i) (ns.length : Int) (i : Int) c0 1 (st s ns (tk i) i) = some true
  | 0, i, k, hi, hk => by
    obtain ⟨k, rfl⟩ : ∃ m, k = m + 1 := ⟨k - 1, by omega⟩
    have hl := hn.len
    rw [storagebarterlaw20_ChallengeOnce.l0]
    rw [if_neg (by omega), List.take_of_length_le (by omega)]
    unfold storagebarterlaw20_ints.f
    rw [if_pos rfl]
    have := ints_loop ns ns (by omega) rfl ns.length 0 k (by omega) (by omega)
    have e0 : ((0 : Nat) : Int) = 0 := rfl
    rw [e0] at this
    rw [this]
    rfl
  | d + 1, i, k, hi, hk => by
    obtain ⟨k, rfl⟩ : ∃ m, k = m + 1 := ⟨k - 1, by omega⟩
    have hl := hn.len
    have e : rd ns (i : Int) = ns.getD i 0 := by unfold rd; rw [Int.toNat_natCast]
    have ht := tk_ok i (by omega)
    rw [storagebarterlaw20_ChallengeOnce.l0]
    rw [if_pos (by omega), if_pos (by omega), if_pos (by omega), e]
    rw [st_judge_no s ns (tk i) i c0 1 _ 0 5 hn ht (by omega) h0 (by decide) (fun j hj => by have := hn.up j i hj (by omega); omega) k (by omega)]
    rw [st_ask s ns (tk i) i c0 1 i hn ht (tk_len i) (by omega) h0 (by decide) (by omega) (fun j hj => by rw [tk_at i j hj]; omega) k (by omega)]
    simp only [Option.bind_some]
    rw [tk_snoc, st_left s ns (tk (i + 1)) (i + 1) c0 1 hn (tk_ok _ (by omega)) (by omega) h0 (by decide) k (by omega)]
    simp only [Option.bind_some]
    rw [if_pos (by trivial), if_pos (by trivial), if_pos (by trivial), w64 (n := (ns.length : Int) - i) (by omega) (by omega), w64 (by omega) (by omega), if_pos (by omega), if_pos (by rw [List.length_take]; omega), w64 (by omega) (by omega)]
    have e2 : ns.take i ++ [ns.getD i 0] = ns.take (i + 1) := by
      rw [List.take_succ_eq_append_getElem (by omega), List.getD_eq_getElem?_getD, List.getElem?_eq_getElem (by omega)]
      rfl
    rw [e2]
    exact once_loop s ns c0 hn h0 d (i + 1) k (by omega) (by omega)
theorem ChallengeOnce : storagebarterlaw20_ChallengeOnce.Pure := by
  intro L hL hL8 hw
  obtain ⟨K, hK⟩ := sane_ev
  refine ⟨K + 2000, ?_⟩
  obtain ⟨k, hk, hk2⟩ : ∃ k, k = K + 2000 ∧ 2000 ≤ k := ⟨_, rfl, by omega⟩
  rw [← hk]
  have hs : storagebarterlaw20_sane.f k = some true := hK k (by omega)
  clear hK hk
  unfold storagebarterlaw20_ChallengeOnce.f
  rw [hs]
  simp only [Option.bind_some, if_true]
  rw [few_some]
  simp only [Option.bind_some]
  by_cases hf : (L.length : Int) ≤ 500
  · rw [decide_eq_true hf]
    simp only [if_true]
    have hd : DeckOk L 0 := ⟨by omega, by omega, by omega⟩
    have e1 : storagebartermake_New.f L = some (L, 0) := rfl
    rw [e1]
    simp only [Option.bind_some]
    obtain ⟨b, q, r1, r2, r3, r4, r5⟩ := bytes_some hd 9 (by decide) (by decide) k (by omega)
    have e9 : ((9 : Nat) : Int) = 9 := rfl
    rw [e9] at r1
    rw [r1]
    simp only [Option.bind_some]
    obtain ⟨ns, q', n1, n2, n3, n4⟩ := nonces_some r2 k (by omega)
    rw [n1]
    simp only [Option.bind_some]
    have hsz : (strOfNums b).size = b.length := by simp [strOfNums, ByteArray.size]
    rw [prepare_some (strOfNums b) (by omega) (by omega) ns 1 n2 (by decide) k (by omega)]
    simp only [Option.bind_some, if_true]
    have := once_loop (bs (strOfNums b)) ns (dsum (bs (strOfNums b)) 1) n2 (dsum_rng _) ns.length 0 k (by omega) (by omega)
    simpa [tk] using this
  · rw [decide_eq_false hf]
    rfl
end Go.Proofs.Ytfabnklcdagfjaa.Pure
