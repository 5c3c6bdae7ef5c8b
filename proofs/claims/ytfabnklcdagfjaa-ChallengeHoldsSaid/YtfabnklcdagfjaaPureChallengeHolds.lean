/- Who has the shard answers every challenge right, in time; who has one in which a byte was changed answers none right: the plain statement that is left of the law ChallengeHolds. -/
import Derived.Test.YtfabnklcdagfjaaChal
import Derived.Test.YtfabnklcdagfjaaPAx0
import Derived.Test.YtfabnklcdagfjaaPAx2
import Derived.Test.YtfabnklcdagfjaaPAx4
import Derived.Test.YtfabnklcdagfjaaPAx13
import Derived.Test.YtfabnklcdagfjaaPAx14
import Derived.Test.YtfabnklcdagfjaaPAx15
import Derived.Test.YtfabnklcdagfjaaPAx17
import Derived.Test.YtfabnklcdagfjaaPAx19
import Derived.Test.YtfabnklcdagfjaaPAx24
set_option linter.unusedVariables false
namespace Go.Proofs.Ytfabnklcdagfjaa.Pure
open Go.RowKit Go.Proofs.Ytfabnklcdagfjaa.PA Go.Proofs.YtfabnklcdagfjaaW.PrintWords Go.Proofs.YtfabnklcdagfjaaW.PrintLast Go.Proofs.Ytfabnklcdagfjaa.Dig
theorem sane_ev : Ev (fun k => storagebarterlaw20_sane.f k) true := Ev.of storagebarterlaw20_sane.mono (k := 20) (by decide +kernel)
theorem judge_yes_loop (s : List UInt8) (ns ts : List Int) (i : Nat) (c0 c1 nonce ans tick t0 : Int) (hn : Asc ns) (hi : i < ns.length) (hnon : ns.getD i 0 = nonce) (ht : ts.getD i 0 = t0) (h0 : 0 ≤ t0) (h1 : t0 ≤ tick) (h2 : tick ≤ 1048576) (hc : 1 ≤ c1 ∧ c1 ≤ 65536) :
    ∀ (d j k : Nat), j + d = i → d < k → challenge_Judge.l0 k nonce ans tick ((i + 1 : Nat) : Int) (j : Int) c0 c1 (st s ns ts (i + 1)) = some (if ans = dat s nonce then decide (tick ≤ t0 + c1) else false, 0)
  | 0, j, k, hj, hk => by
    obtain ⟨k, rfl⟩ : ∃ m, k = m + 1 := ⟨k - 1, by omega⟩
    obtain rfl : j = i := by omega
    have hl := hn.len
    rw [challenge_Judge.l0]
    rw [if_pos (by omega), if_pos (by omega), if_pos (by rw [st_len]; omega), rd52 _ j (by rw [st_len]; omega), st_at, if_pos hnon]
    have e : wrap64 ((⟨ns.getD j 0, dat s (ns.getD j 0), if j < j + 1 then ts.getD j 0 + 1 else 0⟩ : S52).f2 - 1) = t0 := by
      show wrap64 ((if j < j + 1 then ts.getD j 0 + 1 else 0) - 1) = t0
      rw [if_pos (by omega), w64 (by omega) (by omega)]
      omega
    rw [e, if_neg (by omega), if_neg (by omega), w64 (n := t0 + c1) (by omega) (by omega)]
    show (if ans = dat s (ns.getD j 0) then _ else _) = _
    rw [hnon]
    split <;> rfl
  | d + 1, j, k, hj, hk => by
    obtain ⟨k, rfl⟩ : ∃ m, k = m + 1 := ⟨k - 1, by omega⟩
    have hl := hn.len
    have hne := hn.up j i (by omega) hi
    rw [challenge_Judge.l0]
    rw [if_pos (by omega), if_pos (by omega), if_pos (by rw [st_len]; omega), rd52 _ j (by rw [st_len]; omega), st_at, if_neg (by show ¬ ns.getD j 0 = nonce; omega), w64 (by omega) (by omega)]
    exact judge_yes_loop s ns ts i c0 c1 nonce ans tick t0 hn hi hnon ht h0 h1 h2 hc d (j + 1) k (by omega) (by omega)
theorem st_judge_yes (s : List UInt8) (ns ts : List Int) (i : Nat) (c0 c1 ans tick t0 : Int) (hn : Asc ns) (ht : Ticks ts (i + 1)) (hi : i < ns.length) (he : ts.getD i 0 = t0) (h0 : 0 ≤ c0 ∧ c0 < 2147483647) (hc : 1 ≤ c1 ∧ c1 ≤ 65536) (h1 : t0 ≤ tick) (h2 : tick ≤ 1048576) (k : Nat) (hk : 64 < k) :
    challenge_Judge.f k c0 c1 (st s ns ts (i + 1)) (ns.getD i 0) ans tick = some (if ans = dat s (ns.getD i 0) then decide (tick ≤ t0 + c1) else false, 0) := by
  have hl := hn.len
  have hlo := (ht.lo i (by omega)).1
  unfold challenge_Judge.f
  rw [st_valid s ns ts (i + 1) c0 c1 hn ht h0 hc]
  simp only [Option.bind_some, if_true]
  rw [st_used s ns ts (i + 1) c0 c1 hn ht (by omega) k hk]
  simp only [Option.bind_some]
  exact judge_yes_loop s ns ts i c0 c1 (ns.getD i 0) ans tick t0 hn hi rfl he (by omega) h1 h2 hc i 0 k (by omega) (by omega)
/-- No nonce is left. -/
theorem st_ask_end (s : List UInt8) (ns ts : List Int) (i : Nat) (c0 c1 tick : Int) (hn : Asc ns) (ht : Ticks ts i) (hi : i = ns.length) (h0 : 0 ≤ c0 ∧ c0 < 2147483647) (h1 : 1 ≤ c1 ∧ c1 ≤ 65536)
    (hk0 : 0 ≤ tick ∧ tick ≤ 1048576) (hup : ∀ j, j < i → ts.getD j 0 ≤ tick) (k : Nat) (hk : 64 < k) :
    challenge_Ask.f k c0 c1 (st s ns ts i) tick = some (0, 0, [], 0, 6) := by
  have hl := hn.len
  unfold challenge_Ask.f
  rw [st_valid s ns ts i c0 c1 hn ht h0 h1]
  simp only [Option.bind_some, if_true]
  rw [st_used s ns ts i c0 c1 hn ht (by omega) k hk]
  simp only [Option.bind_some]
  rw [if_neg (by omega), if_neg (by omega)]
  have hlen : (st s ns ts i).length = ns.length := st_len _ _ _ _
  have fin : challenge_Ask.j0 k tick i false c0 c1 (st s ns ts i) = some (0, 0, [], 0, 6) := by
    obtain ⟨k, rfl⟩ : ∃ m, k = m + 1 := ⟨k - 1, by omega⟩
    rw [challenge_Ask.j0]
    rw [if_neg (by decide), if_pos (by rw [hlen]; omega)]
  by_cases c : (i : Int) > 0
  · rw [if_pos c, w64 (by omega) (by omega), if_pos (by omega), if_pos (by rw [hlen]; omega)]
    have ei : ((i : Int) - 1) = ((i - 1 : Nat) : Int) := by omega
    rw [ei, rd52 _ (i - 1) (by rw [hlen]; omega), st_at, w64 (by omega) (by omega)]
    have hx := hup (i - 1) (by omega)
    have : decide (tick + 1 < (if i - 1 < i then ts.getD (i - 1) 0 + 1 else 0)) = false := by
      rw [if_pos (by omega)]
      exact decide_eq_false (by omega)
    rw [show decide (tick + 1 < (⟨ns.getD (i - 1) 0, dat s (ns.getD (i - 1) 0), if i - 1 < i then ts.getD (i - 1) 0 + 1 else 0⟩ : S52).f2) = false from this]
    exact fin
  · rw [if_neg c]
    exact fin
theorem answer_some (s : ByteArray) (h1 : 1 ≤ s.size) (h2 : s.size ≤ 1024) (n : Int) (n1 : 2 ≤ n) (n2 : n < 2147483647) (k : Nat) (hk : 1100 < k) : challenge_Answer.f k s n = some (dat (bs s) n, 0) := by
  have hw : challenge_whole.f s = some true := by
    unfold challenge_whole.f
    rw [if_pos (by omega), decide_eq_true (by omega)]
  have hp : challenge_proper.f n = some true := by
    unfold challenge_proper.f
    rw [if_pos (by omega), decide_eq_true n2]
  unfold challenge_Answer.f
  rw [hw, Option.bind_some, if_pos rfl, hp, Option.bind_some, if_pos rfl, at_some s (by omega) n k (by omega), Option.bind_some]
theorem ticks_snoc {ts : List Int} {i : Nat} {tick : Int} (hti : ts.length = i) (h : Ticks ts i) (h0 : 0 ≤ tick ∧ tick ≤ 1048576) (hup : ∀ j, j < i → ts.getD j 0 ≤ tick) : Ticks (ts ++ [tick]) (i + 1) ∧ (ts ++ [tick]).getD i 0 = tick ∧ ∀ j, j < i → (ts ++ [tick]).getD j 0 = ts.getD j 0 := by
  have g1 : ∀ j, j < i → (ts ++ [tick]).getD j 0 = ts.getD j 0 := fun j hj => by rw [List.getD_eq_getElem?_getD, List.getElem?_append_left (by omega), ← List.getD_eq_getElem?_getD]
  have g2 : (ts ++ [tick]).getD i 0 = tick := by rw [List.getD_eq_getElem?_getD, List.getElem?_append_right (by omega)]; simp [hti]
  refine ⟨⟨fun j hj => ?_, fun j j' hj hj' => ?_⟩, g2, g1⟩
  · by_cases c : j < i
    · rw [g1 j c]
      exact h.lo j c
    · obtain rfl : j = i := by omega
      rw [g2]
      exact h0
  · by_cases c : j' < i
    · rw [g1 j (by omega), g1 j' c]
      exact h.up j j' hj c
    · obtain rfl : j' = i := by omega
      rw [g2]
      by_cases c2 : j < j'
      · rw [g1 j c2]
        exact hup j c2
      · obtain rfl : j = j' := by omega
        rw [g2]
        exact Int.le_refl _
theorem holds_loop {L : List Int} (a3 : Int) (h3 : 0 ≤ a3 ∧ a3 ≤ 255) (s : ByteArray) (x14 : List Int) (hs1 : 1 ≤ s.size) (hs2 : s.size ≤ 1024) (ht1 : (strOfNums x14).size = s.size) (u v : List UInt8) (x y : UInt8) (hbs : bs s = u ++ x :: v) (hbt : bs (strOfNums x14) = u ++ y :: v) (same : Bool) (hsame : same = true ↔ x = y)
    (w : Int) (hw : 1 ≤ w ∧ w ≤ 9) (ns : List Int) (hn : Asc ns) (hns : ns.length ≤ 6) (c0 : Int) (hc0 : 0 ≤ c0 ∧ c0 < 2147483647) : ∀ (d i : Nat) (tick : Int) (ts : List Int) (q : Int) (k : Nat), i + d = ns.length → ts.length = i → Ticks ts i → (∀ j, j < i → ts.getD j 0 ≤ tick) → 0 ≤ tick → tick ≤ 5 * (i : Int) → DeckOk L q → d + 2000 < k →
    storagebarterlaw20_ChallengeHolds.l0 k a3 s w x14 same tick (ns.length : Int) (i : Int) L q c0 w (st (bs s) ns ts i) = some true
  | 0, i, tick, ts, q, k, hi, hti, ht, hup, t0, t1, hq, hk => by
    obtain ⟨k, rfl⟩ : ∃ m, k = m + 1 := ⟨k - 1, by omega⟩
    have hl := hn.len
    rw [storagebarterlaw20_ChallengeHolds.l0]
    rw [if_neg (by omega), st_ask_end (bs s) ns ts i c0 w tick hn ht (by omega) hc0 (by omega) (by omega) hup k (by omega), Option.bind_some, st_left (bs s) ns ts i c0 w hn ht (by omega) hc0 (by omega) k (by omega), Option.bind_some, if_pos rfl, if_pos rfl]
    congr 1
    rw [beq_iff_eq]
    show (ns.length : Int) - i = 0
    omega
  | d + 1, i, tick, ts, q, k, hi, hti, ht, hup, t0, t1, hq, hk => by
    obtain ⟨k, rfl⟩ : ∃ m, k = m + 1 := ⟨k - 1, by omega⟩
    have hl := hn.len
    have hin : i < ns.length := by omega
    have hlo := hn.lo i hin
    obtain ⟨hts, hte, htj⟩ := ticks_snoc hti ht ⟨t0, by omega⟩ hup
    have hP : ¬ P ∣ ns.getD i 0 := fun h => by
      have := small_div _ h (by unfold P; omega) (by unfold P; omega)
      omega
    have hcame : Aside0 (wrap64 (tick + wrap64 (Int.tmod a3 20)) = tick + a3 % 20) := ⟨by
      rw [Int.tmod_eq_emod_of_nonneg h3.1, w64 (n := a3 % 20) (by omega) (by omega), w64 (by omega) (by omega)]⟩
    have hto : Aside0 (wrap64 (tick + w) = tick + w) := ⟨w64 (by omega) (by omega)⟩
    obtain ⟨v5, q5, e5, hv5, hv5', hq5, _, _⟩ := next_some hq 5 (by decide) (by decide)
    have ih := holds_loop (L := L) a3 h3 s x14 hs1 hs2 ht1 u v x y hbs hbt same hsame w hw ns hn hns c0 hc0 d (i + 1) (tick + v5) (ts ++ [tick]) q5 k (by omega) (by rw [List.length_append, List.length_singleton]; omega) hts (fun j hj => by
      by_cases c : j < i
      · rw [htj j c]
        have := hup j c
        omega
      · obtain rfl : j = i := by omega
        rw [hte]
        omega) (by omega) (by omega) hq5 (by omega)
    have e1 : Aside0 (wrap64 ((i : Int) + 1) = ((i + 1 : Nat) : Int)) := ⟨by rw [w64 (by omega) (by omega)]; rfl⟩
    have e2 : Aside0 (wrap64 (tick + v5) = tick + v5) := ⟨w64 (by omega) (by omega)⟩
    rw [storagebarterlaw20_ChallengeHolds.l0]
    rw [if_pos (by omega), st_ask (bs s) ns ts i c0 w tick hn ht hti hin hc0 (by omega) (by omega) hup k (by omega), Option.bind_some, if_pos rfl]
    simp only
    rw [answer_some s hs1 hs2 _ hlo.1 hlo.2 k (by omega), Option.bind_some, answer_some (strOfNums x14) (by omega) (by omega) _ hlo.1 hlo.2 k (by omega), Option.bind_some, hcame.out, hto.out]
    simp only
    rw [st_judge_yes (bs s) ns (ts ++ [tick]) i c0 w _ _ tick hn hts hin hte hc0 (by omega) (by omega) (by omega) k (by omega), Option.bind_some, st_judge_yes (bs s) ns (ts ++ [tick]) i c0 w _ _ tick hn hts hin hte hc0 (by omega) (by omega) (by omega) k (by omega), Option.bind_some, if_pos rfl, if_pos rfl]
    simp only [if_true]
    rw [e5, e1.out, if_neg (by simp)]
    have hdiff : (dat (bs (strOfNums x14)) (ns.getD i 0) = dat (bs s) (ns.getD i 0)) ↔ x = y := by
      rw [hbs, hbt]
      constructor
      · intro h
        exact (dat_differs u v y x _ hP h).symm
      · intro h
        rw [h]
    by_cases c : tick + a3 % 20 ≤ tick + w
    · rw [decide_eq_true c, if_pos rfl]
      have hb : (if dat (bs (strOfNums x14)) (ns.getD i 0) = dat (bs s) (ns.getD i 0) then true else false) = same := by
        by_cases c2 : x = y
        · rw [if_pos (hdiff.mpr c2), hsame.mpr c2]
        · rw [if_neg (fun h => c2 (hdiff.mp h))]
          cases hse : same with
          | false => rfl
          | true => exact absurd (hsame.mp hse) c2
      rw [hb, if_neg (by simp), Option.bind_some]
      simp only
      rw [e2.out]
      exact ih
    · rw [decide_eq_false c, if_neg (by decide), ite_self, if_neg (by decide), Option.bind_some]
      simp only
      rw [e2.out]
      exact ih
theorem bs_nums (l : List Int) : bs (strOfNums l) = l.map fun n => UInt8.ofNat n.toNat := by
  unfold strOfNums bs
  simp
theorem bytes_map (s : ByteArray) : bytesI s = (bs s).map fun b => (b.toNat : Int) := rfl
theorem back_byte (l : List UInt8) : (l.map fun b => (b.toNat : Int)).map (fun n => UInt8.ofNat n.toNat) = l := by
  rw [List.map_map]
  have : ((fun n : Int => UInt8.ofNat n.toNat) ∘ fun b : UInt8 => (b.toNat : Int)) = id := by
    funext b
    simp
  rw [this, List.map_id]
theorem set_map (l : List UInt8) (k : Nat) (a : Int) : ((l.map fun b => (b.toNat : Int)).set k a).map (fun n => UInt8.ofNat n.toNat) = l.set k (UInt8.ofNat a.toNat) := by
  rw [List.map_set, back_byte]
theorem set_split (l : List UInt8) (k : Nat) (h : k < l.length) (y : UInt8) : l.set k y = l.take k ++ y :: l.drop (k + 1) := by
  rw [List.set_eq_take_append_cons_drop, if_pos h]
theorem self_split (l : List UInt8) (k : Nat) (h : k < l.length) : l = l.take k ++ l[k] :: l.drop (k + 1) := by
  rw [← List.drop_eq_getElem_cons h, List.take_append_drop]
theorem rng8 {a : Int} (h : (Lit.int .u8 a).wf = true) : 0 ≤ a ∧ a ≤ 255 := by
  simp [Lit.wf, IntKind.min, IntKind.max, IntKind.bits, IntKind.signed] at h
  omega
theorem rng16 {a : Int} (h : (Lit.int .u16 a).wf = true) : 0 ≤ a ∧ a ≤ 65535 := by
  simp [Lit.wf, IntKind.min, IntKind.max, IntKind.bits, IntKind.signed] at h
  omega
theorem ChallengeHolds : storagebarterlaw20_ChallengeHolds.Pure := by
  intro L a1 a2 a3 hL hL8 hw h1 h2 h3
  have r1 := rng16 h1
  have r2 := rng8 h2
  have r3 := rng8 h3
  obtain ⟨K, hK⟩ := sane_ev
  refine ⟨K + 4000, ?_⟩
  obtain ⟨k, hk, hk2⟩ : ∃ k, k = K + 4000 ∧ 4000 ≤ k := ⟨_, rfl, by omega⟩
  rw [← hk]
  have hs : storagebarterlaw20_sane.f k = some true := hK k (by omega)
  clear hK hk
  unfold storagebarterlaw20_ChallengeHolds.f
  rw [hs]
  simp only [Option.bind_some, if_true]
  rw [few_some]
  simp only [Option.bind_some]
  by_cases hf : (L.length : Int) ≤ 500
  · rw [decide_eq_true hf]
    simp only [if_true]
    have hd : DeckOk L 0 := ⟨by omega, by omega, by omega⟩
    have e1 : storagebartermake_New.f L = some (L, 0) := rfl
    rw [e1]
    simp only [Option.bind_some]
    obtain ⟨b, q, b1, b2, b3, b4, b5⟩ := bytes_some hd 60 (by decide) (by decide) k (by omega)
    have e9 : ((60 : Nat) : Int) = 60 := rfl
    rw [e9] at b1
    rw [b1]
    simp only [Option.bind_some]
    obtain ⟨v, q1, ev, hv, hv', hq1, _, _⟩ := next_some b2 9 (by decide) (by decide)
    rw [ev]
    simp only [Option.bind_some]
    obtain ⟨ns, q', n1, n2, n3, n4⟩ := nonces_some hq1 k (by omega)
    rw [n1]
    simp only [Option.bind_some]
    have hsz : (strOfNums b).size = b.length := by simp [strOfNums, ByteArray.size]
    obtain ⟨s, hse⟩ : ∃ s, s = strOfNums b := ⟨_, rfl⟩
    rw [← hse] at hsz ⊢
    have ew : wrap64 (1 + v) = 1 + v := w64 (by omega) (by omega)
    rw [ew, prepare_some s (by omega) (by omega) ns (1 + v) n2 (by omega) k (by omega)]
    simp only [Option.bind_some, if_true]
    have hbl : (bs s).length = s.size := bs_length s
    have hyl : (bytesI s).length = s.size := bytesI_length s
    have em : Int.tmod (wrap64 a1) ((bytesI s).length : Int) = a1 % (s.size : Int) := by rw [hyl, w64 (by omega) (by omega), Int.tmod_eq_emod_of_nonneg r1.1]
    have m0 : 0 ≤ a1 % (s.size : Int) := Int.emod_nonneg _ (by omega)
    have m1 : a1 % (s.size : Int) < s.size := Int.emod_lt_of_pos _ (by omega)
    rw [if_pos (by omega), if_neg (by omega), em, if_pos m0, if_pos (by omega)]
    obtain ⟨kk, hkk⟩ : ∃ kk : Nat, a1 % (s.size : Int) = kk := ⟨(a1 % (s.size : Int)).toNat, by omega⟩
    rw [hkk, Int.toNat_natCast]
    have hks : kk < (bs s).length := by omega
    have hbt : bs (strOfNums ((bytesI s).set kk a2)) = (bs s).set kk (UInt8.ofNat a2.toNat) := by rw [bs_nums, bytes_map, set_map]
    have hst : (strOfNums ((bytesI s).set kk a2)).size = s.size := by
      rw [← bs_length, hbt, List.length_set, hbl]
    have erd : rd (bytesI s) (kk : Int) = (((bs s)[kk]).toNat : Int) := by
      unfold rd
      rw [Int.toNat_natCast, bytes_map, List.getD_eq_getElem?_getD, List.getElem?_map, List.getElem?_eq_getElem hks]
      rfl
    have hsame : (rd (bytesI s) (kk : Int) == a2) = true ↔ (bs s)[kk] = UInt8.ofNat a2.toNat := by
      rw [beq_iff_eq, erd]
      constructor
      · intro h
        rw [← h]
        simp
      · intro h
        rw [h, UInt8.toNat_ofNat']
        omega
    have := holds_loop (L := L) a3 r3 s ((bytesI s).set kk a2) (by omega) (by omega) hst ((bs s).take kk) ((bs s).drop (kk + 1)) (bs s)[kk] (UInt8.ofNat a2.toNat) (self_split _ _ hks) (by rw [hbt, set_split _ _ hks]) _ hsame (1 + v) (by omega) ns n2 n4 (dsum (bs s) 1) (dsum_rng _) ns.length 0 0 [] q' k (by omega) rfl ⟨fun j hj => absurd hj (by omega), fun j j' _ hj => absurd hj (by omega)⟩ (fun j hj => absurd hj (by omega)) (by decide) (by decide) n3 (by omega)
    rw [st_len]
    exact this
  · rw [decide_eq_false hf]
    rfl
end Go.Proofs.Ytfabnklcdagfjaa.Pure
