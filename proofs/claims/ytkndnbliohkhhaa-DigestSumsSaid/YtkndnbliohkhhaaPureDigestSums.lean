/- DigestSums in plain Lean: the program's and the reference's sums, powers, joins, values and lists of numbers as bytes are the same. -/
import Derived.Test.YtkndnbliohkhhaaPAx24
import Derived.Test.YtkndnbliohkhhaaDigEv
set_option linter.unusedVariables false
namespace Go.Proofs.Ytkndnbliohkhhaa.Pure
open Go.RowKit Go.Proofs.YtkndnbliohkhhaaW.PrintWords Go.Proofs.YtkndnbliohkhhaaW.PrintLast Go.Proofs.Ytkndnbliohkhhaa.Dig Go.Proofs.Ytkndnbliohkhhaa.PA

theorem rpower_l : ∀ (k : Nat) (x p q : Int), storagebarterref02_Power.l0 k x p q = digest_Power.l0 k x p q
  | 0, _, _, _ => rfl
  | k + 1, x, p, q => by
    simp only [storagebarterref02_Power.l0, digest_Power.l0, rpower_l k]
theorem rpower (k : Nat) (n : Int) : storagebarterref02_Power.f k n = digest_Power.f k n := rpower_l k n 1 1000003
theorem rsum_l (s : ByteArray) : ∀ (k : Nat) (d i : Int), storagebarterref02_Sum.l0 k s d i = digest_Sum.l0 k s d (s.size : Int) i
  | 0, _, _ => rfl
  | k + 1, d, i => by
    simp only [storagebarterref02_Sum.l0, digest_Sum.l0, rsum_l s k]
    by_cases h : i < (s.size : Int)
    · rw [if_pos h, if_pos h, if_pos h]
    · rw [if_neg h, if_neg h]
theorem rsum (k : Nat) (s : ByteArray) : storagebarterref02_Sum.f k s = digest_Sum.f k s := rsum_l s k 1 0
theorem rmod (a : Int) : storagebarterref02_mod.f a = digest_mod.f a := by
  rw [mod_some]
  unfold storagebarterref02_mod.f
  congr 1
  have h := Int.tmod_eq_emod (a := a) (b := 2147483647)
  have h1 : a % P = a % 2147483647 := rfl
  have h2 : a % 2147483647 < 2147483647 := Int.emod_lt_of_pos _ (by decide)
  have h3 : 0 ≤ a % 2147483647 := Int.emod_nonneg _ (by decide)
  have h4 : ((2147483647 : Int).natAbs : Int) = 2147483647 := rfl
  have hb : -2147483647 < Int.tmod a 2147483647 ∧ Int.tmod a 2147483647 < 2147483647 := by
    split at h <;> omega
  rw [w64_id (by omega) (by omega), tmod_em (by omega), h1]
  show (Int.tmod a 2147483647 + 2147483647) % 2147483647 = a % 2147483647
  rw [Int.add_emod_right]
  split at h
  · rw [h]
    omega
  · rw [h, h4]
    omega
theorem rjoin (k : Nat) (a b n : Int) : storagebarterref02_Join.f k a b n = digest_Join.f k a b n := by
  simp only [storagebarterref02_Join.f, digest_Join.f, rmod, rpower]
theorem rat_l (s : ByteArray) (x : Int) : ∀ (k : Nat) (d i : Int), storagebarterref02_At.l0 k s x d i = digest_At.l0 k s x d i
  | 0, _, _ => rfl
  | k + 1, d, i => by
    simp only [storagebarterref02_At.l0, digest_At.l0, rat_l s x k]
theorem rat (k : Nat) (s : ByteArray) (x : Int) : storagebarterref02_At.f k s x = digest_At.f k s x := by
  simp only [storagebarterref02_At.f, digest_At.f, rmod, rat_l]

/-! the bytes of numbers -/
theorem str_one (v : Nat) : strOfNums [(v : Int)] = ⟨#[UInt8.ofNat v]⟩ := by
  unfold strOfNums
  simp
theorem app_str (l m : List UInt8) : (⟨l.toArray⟩ : ByteArray) ++ ⟨m.toArray⟩ = ⟨(l ++ m).toArray⟩ := by
  apply ByteArray.ext
  simp [ByteArray.data_append]
theorem putint_l : ∀ (n k u : Nat) (l : List UInt8), u < 128 ^ n * 128 → n < k → l.length + 10 * n ≤ 9000000000000000000 →
    storagebarterref01_PutInt.l0 k ⟨l.toArray⟩ (u : Int) = some ⟨(l ++ Wire.grp u).toArray⟩
  | n, 0, u, l, hu, hk, hl => absurd hk (by omega)
  | n, k + 1, u, l, hu, hk, hl => by
    have hs : (⟨l.toArray⟩ : ByteArray).size = l.length := rfl
    by_cases c : 127 < u
    · obtain ⟨m, rfl⟩ : ∃ m, n = m + 1 := by
        cases n with
        | zero => simp at hu; omega
        | succ m => exact ⟨m, rfl⟩
      simp only [storagebarterref01_PutInt.l0]
      rw [if_pos (by omega), ← Wire.grp_byte u, UInt8.toNat_ofNat', Nat.mod_eq_of_lt (a := u % 128 + 128) (by omega), Option.bind_some, str_one]
      have hs1 : (⟨#[UInt8.ofNat (u % 128 + 128)]⟩ : ByteArray).size = 1 := rfl
      rw [if_pos (by omega)]
      have e : (u : Int) / 128 = ((u / 128 : Nat) : Int) := by omega
      rw [e, show (#[UInt8.ofNat (u % 128 + 128)] : Array UInt8) = [UInt8.ofNat (u % 128 + 128)].toArray from rfl, app_str, putint_l m k (u / 128) (l ++ [UInt8.ofNat (u % 128 + 128)]) (by rw [Nat.pow_succ] at hu; omega) (by omega) (by rw [List.length_append, List.length_singleton]; omega), Wire.grp_more c, List.append_assoc]
      rfl
    · simp only [storagebarterref01_PutInt.l0]
      rw [if_neg (by omega), show ((u : Int) % 256) = (u : Int) by omega, Option.bind_some, str_one]
      have hs1 : (⟨#[UInt8.ofNat u]⟩ : ByteArray).size = 1 := rfl
      rw [if_pos (by omega), show (#[UInt8.ofNat u] : Array UInt8) = [UInt8.ofNat u].toArray from rfl, app_str, Wire.grp_last c]
theorem putint (k : Nat) (hk : 9 < k) (x : Int) (l : List UInt8) (hl : l.length ≤ 8000000000000000000) : storagebarterref01_PutInt.f k ⟨l.toArray⟩ x = some ⟨(l ++ Wire.grp (Wire.zig x)).toArray⟩ := by
  unfold storagebarterref01_PutInt.f
  rw [show Go.bits .xor .u64 (IntKind.u64.wrap ((IntKind.u64.wrap x) * 2)) (IntKind.u64.wrap (x / 9223372036854775808)) = (Wire.zig x : Int) from (Wire.zig_cast x).symm]
  exact putint_l 9 k (Wire.zig x) l (Nat.lt_trans (Wire.zig_lt x) (by decide)) hk (by omega)
theorem putlist_l (l : List Int) (hl : l.length ≤ 1000000) : ∀ (n i k : Nat) (b : List UInt8), i + n = l.length → n + 9 < k → b.length ≤ 10 * i + 10 →
    storagebarterref01_PutList.l0 k ⟨b.toArray⟩ l (l.length : Int) (i : Int) = some ⟨(b ++ wire_PutList.bytes (l.drop i)).toArray⟩
  | 0, i, k, b, hi, hk, hb => by
    obtain ⟨k, rfl⟩ : ∃ m, k = m + 1 := ⟨k - 1, by omega⟩
    simp only [storagebarterref01_PutList.l0]
    rw [if_neg (by omega), List.drop_of_length_le (by omega)]
    unfold wire_PutList.bytes
    rw [List.flatMap_nil, List.append_nil]
  | n + 1, i, k, b, hi, hk, hb => by
    obtain ⟨k, rfl⟩ : ∃ m, k = m + 1 := ⟨k - 1, by omega⟩
    have hil : i < l.length := by omega
    have e : rd l (i : Int) = l[i] := by
      unfold rd
      rw [Int.toNat_natCast, List.getD_eq_getElem?_getD, List.getElem?_eq_getElem hil]
      rfl
    have hg := Wire.grp_zig l[i]
    simp only [storagebarterref01_PutList.l0]
    rw [if_pos (by omega), if_pos (by omega), if_pos (by omega), e, putint k (by omega) _ _ (by omega), Option.bind_some, w64_id (by omega) (by omega), show (i : Int) + 1 = ((i + 1 : Nat) : Int) by omega,
      putlist_l l hl n (i + 1) k _ (by omega) (by omega) (by rw [List.length_append]; omega), List.drop_eq_getElem_cons hil]
    unfold wire_PutList.bytes
    rw [List.flatMap_cons, List.append_assoc]
theorem of_same (l : List Int) (hl : l.length ≤ 1000000) (k : Nat) (hk : l.length + 9 < k) : storagebarterref02_Of.f k l = digest_Of.f k l := by
  unfold storagebarterref02_Of.f digest_Of.f storagebarterref01_PutList.f wire_PutList.f
  have hg := Wire.grp_zig (l.length : Int)
  have h1 := putint k (by omega) (l.length : Int) [] (by simp)
  rw [show (⟨#[]⟩ : ByteArray) = ⟨([] : List UInt8).toArray⟩ from rfl, h1, if_pos ⟨by decide, hl⟩, Option.bind_some, show (0 : Int) = ((0 : Nat) : Int) from rfl,
    putlist_l l hl l.length 0 k _ (by omega) (by omega) (by rw [List.nil_append]; omega), Option.bind_some, Option.bind_some, List.drop_zero]
  simp only [rsum]
theorem of_some (l : List Int) (hl : l.length ≤ 1000) (k : Nat) (hk : 20000 < k) : ∃ d, digest_Of.f k l = some d := by
  unfold digest_Of.f wire_PutList.f
  have hg := Wire.grp_zig (l.length : Int)
  have hb := wire_PutList.bytes_len l
  rw [if_pos ⟨by decide, by omega⟩, Option.bind_some, sum_some _ (by
    show (List.toArray _).size ≤ _
    rw [List.size_toArray, List.length_append, List.length_append]
    have : (⟨#[]⟩ : ByteArray).data.toList.length = 0 := rfl
    omega) k (by
    show (List.toArray _).size < _
    rw [List.size_toArray, List.length_append, List.length_append]
    have : (⟨#[]⟩ : ByteArray).data.toList.length = 0 := rfl
    omega)]
  exact ⟨_, rfl⟩
theorem sums_last (s : ByteArray) (hs : s.size ≤ 5000) (l : List Int) (hl : l.length ≤ 1000) (a b x : Int) (l28 : List Int) (h28 : ∀ y ∈ l28, y ≤ 9223372036854775807) : ∀ (n i k : Nat), i + n = l28.length → n + 30000 < k → l28.length ≤ 10 →
    storagebarterlaw02_DigestSums.l0 k s l a b x l28 (l28.length : Int) (i : Int) = some true
  | 0, i, k, hi, hk, hm => by
    obtain ⟨k, rfl⟩ : ∃ m, k = m + 1 := ⟨k - 1, by omega⟩
    obtain ⟨d, hd⟩ := of_some l hl k (by omega)
    simp only [storagebarterlaw02_DigestSums.l0]
    rw [if_neg (by omega)]
    simp only [rsum, of_same l (by omega) k (by omega), rat, hd, sum_some s (by omega) k (by omega), at_some s (by omega) _ k (by omega), Option.bind_some, if_true, beq_self_eq_true]
  | n + 1, i, k, hi, hk, hm => by
    obtain ⟨k, rfl⟩ : ∃ m, k = m + 1 := ⟨k - 1, by omega⟩
    have hil : i < l28.length := by omega
    have e : rd l28 (i : Int) = l28[i] := by
      unfold rd
      rw [Int.toNat_natCast, List.getD_eq_getElem?_getD, List.getElem?_eq_getElem hil]
      rfl
    have hy := h28 _ (List.getElem_mem hil)
    have ih := sums_last s hs l hl a b x l28 h28 n (i + 1) k (by omega) (by omega) hm
    simp only [storagebarterlaw02_DigestSums.l0]
    rw [if_pos (by omega), if_pos (by omega), if_pos (by omega), w64_id (n := (i : Int) + 1) (by omega) (by omega), show (i : Int) + 1 = ((i + 1 : Nat) : Int) by omega]
    simp only [rpower, rjoin, e, pow_some _ hy k (by omega), join_some _ _ _ hy k (by omega), Option.bind_some, if_true, ih]
theorem wf_hi {x : Int} (h : (Lit.int .i64 x).wf = true) : x ≤ 9223372036854775807 := by
  simp [Lit.wf, IntKind.min, IntKind.max, IntKind.bits, IntKind.signed] at h
  omega
theorem mod_hi (a n : Int) (h : storagebartermake_Mod.f a 5000 = some n) : n ≤ 9223372036854775807 := by
  unfold storagebartermake_Mod.f at h
  split at h
  all_goals (try (cases h))
  all_goals (try (simp only [Option.bind_eq_some_iff] at h))
  all_goals first
    | (have h1 := Option.some.inj h; have h2 := Int.tmod_lt_of_pos (wrap64 (Int.tmod a 5000 + 5000)) (show (0 : Int) < 5000 by decide); omega)
    | (have h2 := Int.tmod_lt_of_pos (wrap64 (Int.tmod a 5000 + 5000)) (show (0 : Int) < 5000 by decide); omega)
theorem j0_true (k : Nat) (hk : 0 < k) (s : ByteArray) (l : List Int) (a b n x : Int) : storagebarterlaw02_DigestSums.j0 k s l a b n x true = some true := by
  obtain ⟨k, rfl⟩ : ∃ m, k = m + 1 := ⟨k - 1, by omega⟩
  simp only [storagebarterlaw02_DigestSums.j0]
  rfl
theorem DigestSums : storagebarterlaw02_DigestSums.Pure := by
  intro s l a b n x hs hl1 hl2 hl3 ha hb hn hx
  refine ⟨40000, ?_⟩
  unfold storagebarterlaw02_DigestSums.f
  rw [sane_some 40000 (by omega), Option.bind_some, if_pos rfl]
  by_cases h1 : (s.size : Int) > 5000
  · rw [if_pos h1]
    exact j0_true 40000 (by omega) s l a b n x
  · rw [if_neg h1]
    by_cases h2 : (l.length : Int) > 1000
    · rw [decide_eq_true h2]
      exact j0_true 40000 (by omega) s l a b n x
    · rw [decide_eq_false h2]
      obtain ⟨m, hm⟩ : ∃ m, storagebartermake_Mod.f n 5000 = some m := ⟨_, rfl⟩
      show storagebarterlaw02_DigestSums.j0 (39999 + 1) s l a b n x false = some true
      simp only [storagebarterlaw02_DigestSums.j0]
      rw [if_neg (by decide), hm, Option.bind_some, Option.bind_some]
      exact sums_last s (by omega) l (by omega) a b x [n, m] (by
        intro y hy
        rcases List.mem_cons.1 hy with rfl | hy
        · exact wf_hi hn
        · rw [List.mem_singleton.1 hy]
          exact mod_hi _ _ hm) 2 0 39999 rfl (by omega) (by simp)
end Go.Proofs.Ytkndnbliohkhhaa.Pure
