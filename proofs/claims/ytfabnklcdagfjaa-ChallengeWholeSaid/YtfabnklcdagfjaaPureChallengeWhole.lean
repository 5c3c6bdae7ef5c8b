/- Two shards of n bytes that answer alike at n nonces are one: the plain statement that is left of the law ChallengeWhole. -/
import Derived.Test.YtfabnklcdagfjaaDeck
import Derived.Test.YtfabnklcdagfjaaDigAt
import Derived.Test.YtfabnklcdagfjaaPoly
import Derived.Test.YtfabnklcdagfjaaPAx2
import Derived.Test.YtfabnklcdagfjaaPAx8
import Derived.Test.YtfabnklcdagfjaaPAx9
import Derived.Test.YtfabnklcdagfjaaPAx10
import Derived.Test.YtfabnklcdagfjaaPAx13
set_option linter.unusedVariables false
namespace Go.Proofs.Ytfabnklcdagfjaa.Pure
open Go.RowKit Go.Proofs.Ytfabnklcdagfjaa.PA Go.Proofs.YtfabnklcdagfjaaW.PrintWords Go.Proofs.YtfabnklcdagfjaaW.PrintLast Go.Proofs.Ytfabnklcdagfjaa.Dig
theorem whole_ev : Ev (fun k => storagebarterlaw20_sane.f k) true := Ev.of storagebarterlaw20_sane.mono (k := 20) (by decide +kernel)
theorem answer_some (s : ByteArray) (h1 : 1 ≤ s.size) (h2 : s.size ≤ 1024) (n : Int) (hn : 2 ≤ n ∧ n < 2147483647) (k : Nat) (hk : 1100 < k) : challenge_Answer.f k s n = some (dat (bs s) n, 0) := by
  unfold challenge_Answer.f
  have e1 : challenge_whole.f s = some true := by
    unfold challenge_whole.f
    rw [if_pos (by omega), decide_eq_true (by omega)]
  have e2 : challenge_proper.f n = some true := by
    unfold challenge_proper.f
    rw [if_pos (by omega), decide_eq_true hn.2]
  rw [e1, e2, at_some s (by omega) n k (by omega)]
  rfl
theorem str_size (b : List Int) : (strOfNums b).size = b.length := by simp [strOfNums, ByteArray.size]
theorem answers {L : List Int} (size : Nat) (a b : List Int) (h0 : 1 ≤ size) (h1 : size ≤ 12) (ha : a.length = size) (hb : b.length = size) : ∀ (d i k : Nat) (nonce alike p : Int) (xs : List Int), DeckOk L p → i + d = size → 2 * d + 1200 < k → xs.length = i → 1 ≤ nonce → nonce ≤ 1 + 1000000 * i →
    xs.Pairwise (fun x y => x < y) → (∀ x ∈ xs, 2 ≤ x ∧ x ≤ nonce) → 0 ≤ alike → alike ≤ i → (alike = i → ∀ x ∈ xs, dat (bs (strOfNums a)) x = dat (bs (strOfNums b)) x) → (bs (strOfNums a) = bs (strOfNums b) → alike = i) →
    storagebarterlaw20_ChallengeWhole.l2 k (size : Int) a b nonce alike (size : Int) (i : Int) L p = some true
  | 0, i, k, nonce, alike, p, xs, hp, hi, hk, hx, n0, n1, hu, hxs, a0, a1, hall, heq => by
    obtain ⟨k, rfl⟩ : ∃ m, k = m + 1 := ⟨k - 1, by omega⟩
    rw [storagebarterlaw20_ChallengeWhole.l2]
    rw [if_neg (by omega)]
    have key : (alike = (size : Int)) ↔ (strOfNums a).toList = (strOfNums b).toList := by
      rw [ByteArray.toList_eq, ByteArray.toList_eq]
      constructor
      · intro h
        refine same_text (bs (strOfNums a)) (bs (strOfNums b)) xs (by rw [bs_length, bs_length, str_size, str_size]; omega) (by rw [bs_length, str_size]; omega) hu (fun x hx' => by have := hxs x hx'; unfold P; omega) (hall (by omega))
      · intro h
        have := heq h
        omega
    congr 1
    by_cases h : (strOfNums a).toList = (strOfNums b).toList
    · rw [beq_iff_eq.mpr h, beq_iff_eq.mpr (key.mpr h)]
      rfl
    · rw [beq_eq_false_iff_ne.mpr h, beq_eq_false_iff_ne.mpr (fun g => h (key.mp g))]
      rfl
  | d + 1, i, k, nonce, alike, p, xs, hp, hi, hk, hx, n0, n1, hu, hxs, a0, a1, hall, heq => by
    obtain ⟨k, rfl⟩ : ∃ m, k = m + 2 := ⟨k - 2, by omega⟩
    obtain ⟨v, q, hv, v0, v1, hq, _, _⟩ := next_some hp 1000000 (by omega) (by omega)
    have e1 := Aside0.mk (show wrap64 (1 + v) = 1 + v from w64 (by omega) (by omega))
    have e2 := Aside0.mk (show wrap64 (nonce + (1 + v)) = nonce + (1 + v) from w64 (by omega) (by omega))
    have e3 := Aside0.mk (show wrap64 ((i : Int) + 1) = ((i + 1 : Nat) : Int) by rw [w64 (by omega) (by omega)]; omega)
    have e4 := Aside0.mk (show wrap64 (alike + 1) = alike + 1 from w64 (by omega) (by omega))
    have hu' : (xs ++ [nonce + (1 + v)]).Pairwise (fun x y => x < y) := List.pairwise_append.mpr ⟨hu, List.pairwise_singleton _ _, fun x hx y hy => by
      rw [List.mem_singleton.mp hy]
      have := hxs x hx
      omega⟩
    have hxs' : ∀ x ∈ xs ++ [nonce + (1 + v)], 2 ≤ x ∧ x ≤ nonce + (1 + v) := fun x hx => by
      rcases List.mem_append.mp hx with h | h
      · have := hxs x h
        omega
      · rw [List.mem_singleton.mp h]
        omega
    rw [storagebarterlaw20_ChallengeWhole.l2]
    rw [if_pos (by omega), hv]
    simp only [Option.bind_some]
    rw [e1.out, e2.out, answer_some _ (by rw [str_size]; omega) (by rw [str_size]; omega) _ (by omega) _ (by omega), answer_some _ (by rw [str_size]; omega) (by rw [str_size]; omega) _ (by omega) _ (by omega)]
    simp only [Option.bind_some, if_true]
    rw [storagebarterlaw20_ChallengeWhole.j3]
    rw [if_neg (by decide), e3.out, e4.out]
    by_cases c : dat (bs (strOfNums a)) (nonce + (1 + v)) = dat (bs (strOfNums b)) (nonce + (1 + v))
    · rw [if_pos c]
      refine answers size a b h0 h1 ha hb d (i + 1) k _ _ q (xs ++ [nonce + (1 + v)]) hq (by omega) (by omega) (by simp [hx]) (by omega) (by omega) hu' hxs' (by omega) (by omega) ?_ (fun h => by have := heq h; omega)
      intro h x hx
      rcases List.mem_append.mp hx with g | g
      · exact hall (by omega) x g
      · rw [List.mem_singleton.mp g]
        exact c
    · rw [if_neg c]
      refine answers size a b h0 h1 ha hb d (i + 1) k _ _ q (xs ++ [nonce + (1 + v)]) hq (by omega) (by omega) (by simp [hx]) (by omega) (by omega) hu' hxs' (by omega) (by omega) (fun h => by omega) (fun h => absurd (by rw [h]) c)
theorem changes {L : List Int} (size : Nat) (a : List Int) (h0 : 1 ≤ size) (h1 : size ≤ 12) (ha : a.length = size) : ∀ (d k : Nat) (b : List Int) (p : Int), DeckOk L p → b.length = size → d ≤ 10 → d + 1300 < k →
    storagebarterlaw20_ChallengeWhole.l1 k (size : Int) a b (d : Int) L p = some true
  | 0, k, b, p, hp, hb, hd, hk => by
    obtain ⟨k, rfl⟩ : ∃ m, k = m + 1 := ⟨k - 1, by omega⟩
    rw [storagebarterlaw20_ChallengeWhole.l1]
    rw [if_neg (by omega)]
    exact answers size a b h0 h1 ha hb size 0 k 1 0 p [] hp (by omega) (by omega) rfl (by decide) (by decide) List.Pairwise.nil (fun x hx => by cases hx) (by decide) (by decide) (fun _ x hx => by cases hx) (fun _ => rfl)
  | d + 1, k, b, p, hp, hb, hd, hk => by
    obtain ⟨k, rfl⟩ : ∃ m, k = m + 1 := ⟨k - 1, by omega⟩
    obtain ⟨v, q, hv, v0, v1, hq, _, _⟩ := next_some hp (size : Int) (by omega) (by omega)
    obtain ⟨u, q', hu, u0, u1, hq', _, _⟩ := next_some hq 256 (by decide) (by decide)
    have e3 : wrap64 (((d + 1 : Nat) : Int) - 1) = (d : Int) := by rw [w64 (by omega) (by omega)]; omega
    rw [storagebarterlaw20_ChallengeWhole.l1]
    rw [if_pos (by omega), hv]
    simp only [Option.bind_some]
    rw [hu]
    simp only [Option.bind_some]
    rw [if_pos (by omega), if_pos (by omega), e3]
    exact changes size a h0 h1 ha d k _ q' hq' (by rw [List.length_set, hb]) (by omega) (by omega)
theorem draws {L : List Int} (size : Nat) (h0 : 1 ≤ size) (h1 : size ≤ 12) : ∀ (d i k : Nat) (a : List Int) (p : Int), DeckOk L p → i + d = size → a.length = i → d + 1400 < k →
    storagebarterlaw20_ChallengeWhole.l0 k (size : Int) a a (size : Int) (i : Int) L p = some true
  | 0, i, k, a, p, hp, hi, ha, hk => by
    obtain ⟨k, rfl⟩ : ∃ m, k = m + 1 := ⟨k - 1, by omega⟩
    obtain ⟨v, q, hv, v0, v1, hq, _, _⟩ := next_some hp 4 (by decide) (by decide)
    obtain ⟨e, rfl⟩ := Int.eq_ofNat_of_zero_le v0
    rw [storagebarterlaw20_ChallengeWhole.l0]
    rw [if_neg (by omega), hv]
    simp only [Option.bind_some]
    exact changes size a h0 h1 (by omega) e k a q hq (by omega) (by omega) (by omega)
  | d + 1, i, k, a, p, hp, hi, ha, hk => by
    obtain ⟨k, rfl⟩ : ∃ m, k = m + 1 := ⟨k - 1, by omega⟩
    obtain ⟨v, q, hv, v0, v1, hq, _, _⟩ := next_some hp 256 (by decide) (by decide)
    have e3 : wrap64 ((i : Int) + 1) = ((i + 1 : Nat) : Int) := by rw [w64 (by omega) (by omega)]; omega
    rw [storagebarterlaw20_ChallengeWhole.l0]
    rw [if_pos (by omega), hv]
    simp only [Option.bind_some]
    rw [if_pos (by omega), if_pos (by omega), e3]
    exact draws size h0 h1 d (i + 1) k _ q hq (by omega) (by simp [ha]) (by omega)
theorem ChallengeWhole : storagebarterlaw20_ChallengeWhole.Pure := by
  intro L a1 hL hL8 hw ha1
  obtain ⟨K, hK⟩ := whole_ev
  refine ⟨K + 2000, ?_⟩
  obtain ⟨k, hk, hk2⟩ : ∃ k, k = K + 2000 ∧ 2000 ≤ k := ⟨_, rfl, by omega⟩
  rw [← hk]
  have hs : storagebarterlaw20_sane.f k = some true := hK k (by omega)
  clear hK hk
  have r1 : 0 ≤ a1 ∧ a1 ≤ 255 := by
    simp [Lit.wf, IntKind.min, IntKind.max, IntKind.bits, IntKind.signed] at ha1
    omega
  unfold storagebarterlaw20_ChallengeWhole.f
  rw [hs]
  simp only [Option.bind_some, if_true]
  rw [few_some]
  simp only [Option.bind_some]
  by_cases hf : (L.length : Int) ≤ 500
  · rw [decide_eq_true hf]
    simp only [if_true]
    have hd : DeckOk L 0 := ⟨by omega, by omega, by omega⟩
    have e1 : storagebartermake_New.f L = some (L, 0) := rfl
    rw [e1]
    simp only [Option.bind_some]
    have t1 : 0 ≤ Int.tmod a1 12 ∧ Int.tmod a1 12 < 12 := ⟨by rw [Int.tmod_eq_emod_of_nonneg r1.1]; omega, by rw [Int.tmod_eq_emod_of_nonneg r1.1]; omega⟩
    obtain ⟨s, hs⟩ : ∃ s : Nat, 1 + Int.tmod a1 12 = s := ⟨(1 + Int.tmod a1 12).toNat, by omega⟩
    have e2 : wrap64 (1 + wrap64 (Int.tmod a1 12)) = (s : Int) := by rw [w64 (n := Int.tmod a1 12) (by omega) (by omega), hs, w64 (by omega) (by omega)]
    rw [e2]
    exact draws s (by omega) (by omega) s 0 k [] 0 hd (by omega) rfl (by omega)
  · rw [decide_eq_false hf]
    rfl
end Go.Proofs.Ytfabnklcdagfjaa.Pure
