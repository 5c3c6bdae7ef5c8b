/- What a deck's chains say of balances is true, and what the program says next is true; another number is not: the plain statement that is left of the law AccountSays. -/
import Derived.Test.YtcgpbmafkgbbdaaDoorKp
import Derived.Test.YtcgpbmafkgbbdaaDoorPSx0
import Derived.Test.YtcgpbmafkgbbdaaDoorPSx25
import Derived.Test.YtcgpbmafkgbbdaaDoorPSx41
import Derived.Test.YtcgpbmafkgbbdaaDoorPSx43
import Derived.Test.YtcgpbmafkgbbdaaDoorPSx13
import Derived.Test.YtcgpbmafkgbbdaaDoorPSx56
set_option linter.unusedVariables false
set_option linter.unusedSimpArgs false
namespace Go.Proofs.YtcgpbmafkgbbdaaDoor.Pure
open Go.RowKit Go.Proofs.YtcgpbmafkgbbdaaDoor.PS Go.Proofs.YtcgpbmafkgbbdaaDoorW.PrintWords Go.Proofs.YtcgpbmafkgbbdaaDoorW.PrintLast
theorem sane_says : law17_sane.f 5 = some true := by decide +kernel
theorem byte_rng {a : Int} (h : (Lit.int .u8 a).wf = true) : 0 ≤ a ∧ a ≤ 255 := by
 simp [Lit.wf, IntKind.min, IntKind.max, IntKind.bits, IntKind.signed] at h
 omega
def Bal (l : List S51) : Prop := ∀ (i : Nat) (h : i < l.length), l[i].f5 = 6 → l[i].f6 = zSum (stF (l.take i)) l[i].f4 64
theorem Bal.snoc {l : List S51} (h : Bal l) {x : S51} (hx : x.f5 = 6 → x.f6 = zSum (stF l) x.f4 64) : Bal (l ++ [x]) := by
 intro i hi
 rw [List.length_append, List.length_singleton] at hi
 by_cases e : i < l.length
 ·rw [List.take_append_of_le_length (by omega), List.getElem_append_left e]
  exact h i e
 ·have e : i = l.length := by omega
  subst e
  rw [List.take_left, List.getElem_concat_length rfl]
  exact hx
def BalAll (ls : List (List S51)) (t : Int) : Prop := ∀ (i : Nat) (h : i < ls.length), Bal ls[i]
theorem BalAll.set {p0 : Int} {ls : List (List S51)} {t : Int} (h : BalAll ls t) {i : Nat} (hi : i < ls.length) {x : S51} (hx : SayOk ls ls[i] p0 (toOf p0 i) t x) : BalAll (ls.set i (ls[i] ++ [x])) t := by
 intro j hj
 rw [List.length_set] at hj
 rw [List.getElem_set]
 split
 ·rename_i e
  subst e
  refine (h _ hi).snoc fun h6 => ?_
  rw [hx.nx.f4]
  exact hx.bal h6
 ·exact h j hj
theorem chains_bal {L : List Int} {q p0 p1 : Int} (hq : DeckOk L q) (hp0 : 1 ≤ p0) (hp1 : p0 ≤ 1000) :
 ∃ ls t q', Ev (fun k => make_Chains.f k L q p0 p1 ((1 : Nat) : Int) ((14 : Nat) : Int)) ((ls, t, q') : ChRes) ∧ CH p0 1 ls t ∧ BalAll ls t ∧ DeckOk L q' ∧ 0 ≤ t ∧ t ≤ 3 + 2 * ((14 : Nat) : Int) :=
 chains_ev hq (n := 1) (by decide) (by decide) hp0 hp1 BalAll (fun _ _ _ h _ => h) (fun _ _ _ _ hi _ h _ hx => h.set hi hx) (fun _ _ => fun i hi => by
  rw [List.getElem_replicate]
  exact fun j hj => absurd hj (by simp)) 14 (by decide)
theorem people2_loop {L : List Int} (n : Nat) (hn : n ≤ 1000) : ∀ (d i : Nat) (ps : List S49) (q s : Int), i + d = n → DeckOk L q → ps.length = i → (∀ (j : Nat) (h : j < ps.length), ps[j].f0 = (j : Int) + 1 ∧ 1 ≤ ps[j].f1 ∧ ps[j].f1 ≤ 50 * (j : Int) + 50) → 0 ≤ s → s ≤ 50 * (i : Int) →
 ∃ ps' q', Ev (fun k => make_People.l0 k (n : Int) ps s ((i : Int) + 1) L q) ((ps', q') : List S49 × Int) ∧ ps'.length = n ∧ (∀ (j : Nat) (h : j < ps'.length), ps'[j].f0 = (j : Int) + 1 ∧ 1 ≤ ps'[j].f1 ∧ ps'[j].f1 ≤ 50 * (j : Int) + 50) ∧ DeckOk L q'
 | 0, i, ps, q, s, hd, hq, hl, hp, s0, s1 => by
  refine ⟨ps, q, Ev.step (fun k => ?_) (Ev.now _), by omega, hp, hq⟩
  rw [make_People.l0, if_neg (by omega)]
 | d + 1, i, ps, q, s, hd, hq, hl, hp, s0, s1 => by
  obtain ⟨v, q1, e1, hv, hv', hq1, _, _⟩ := next_some hq 50 (by decide) (by decide)
  have ew : wrap64 (s + wrap64 (1 + v)) = s + 1 + v := by
   rw [w64 (n := 1 + v) (by omega) (by omega), w64 (by omega) (by omega)]
   omega
  obtain ⟨ps', q', h1, h2, h3, h4⟩ := people2_loop n hn d (i + 1) (ps ++ [⟨(i : Int) + 1, wrap64 (s + wrap64 (1 + v))⟩]) q1 (wrap64 (s + wrap64 (1 + v))) (by omega) hq1 (by rw [List.length_append, List.length_singleton]; omega) (fun j hj => by
   rw [List.length_append, List.length_singleton] at hj
   by_cases e : j < ps.length
   ·rw [List.getElem_append_left e]
    exact hp j e
   ·have e : j = ps.length := by omega
    subst e
    rw [List.getElem_concat_length rfl]
    refine ⟨?_, ?_, ?_⟩
    ·show (i : Int) + 1 = _
     omega
    ·show 1 ≤ wrap64 _
     omega
    ·show wrap64 _ ≤ _
     omega) (by omega) (by omega)
  refine ⟨ps', q', ?_, h2, h3, h4⟩
  refine Ev.succ ?_
  refine Ev.congr (fun k => by rw [make_People.l0, if_pos (by omega)]) ?_
  refine Ev.bind' (fun k => rfl) (deck_ev e1) ?_
  refine Ev.congr (fun k => ?_) h1
  rw [if_pos (by omega), w64 (n := (i : Int) + 1 + 1) (by omega) (by omega)]
  rfl
theorem people2_ev {L : List Int} {q : Int} (hq : DeckOk L q) (n : Nat) (hn : n ≤ 1000) : ∃ ps q', Ev (fun k => make_People.f k L q (n : Int)) ((ps, q') : List S49 × Int) ∧ ps.length = n ∧ (∀ (j : Nat) (h : j < ps.length), ps[j].f0 = (j : Int) + 1 ∧ 1 ≤ ps[j].f1 ∧ ps[j].f1 ≤ 50 * (j : Int) + 50) ∧ DeckOk L q' :=
 people2_loop n hn n 0 [] q 0 (by omega) hq rfl (fun j h => absurd h (by simp)) (by decide) (by decide)
theorem pair2_ev {L : List Int} {q : Int} (hq : DeckOk L q) {ps : List S49} (hpl : ps.length = 2) (hp : ∀ (j : Nat) (h : j < ps.length), ps[j].f0 = (j : Int) + 1) :
 ∃ a b m q', Ev (fun k => law17_pair.f k L q ps) ((a, b, m, q') : List S51 × List S51 × Int × Int) ∧ RC 1 2 a m ∧ RC 2 1 b m ∧ Bal a ∧ DeckOk L q' ∧ 0 ≤ m ∧ m ≤ 1000 := by
 have h0 : 0 < ps.length := by omega
 have h1 : 1 < ps.length := by omega
 have e0 : rd_T49 ps 0 = ps[0] := rdP (i := 0) h0
 have e1 : rd_T49 ps 1 = ps[1] := rdP (i := 1) h1
 have i0 : ps[0].f0 = 1 := hp 0 h0
 have i1 : ps[1].f0 = 2 := hp 1 h1
 obtain ⟨ls, t, q1, g1, g2, gb, g3, g4, g5⟩ := chains_bal (p1 := ps[0].f1) hq (p0 := 1) (by decide) (by decide)
 obtain ⟨ms, t', q2, k1, k2, kb, k3, k4, k5⟩ := chains_bal (p1 := ps[1].f1) g3 (p0 := 2) (by decide) (by decide)
 have hl : 0 < ls.length := by have := g2.len; omega
 have hm : 0 < ms.length := by have := k2.len; omega
 have hmx := mx_ge t t'
 refine ⟨ls[0], ms[0], mx t t', q2, ?_, (g2.rc 0 hl).later hmx.1, (k2.rc 0 hm).later hmx.2.1, gb 0 hl, k3, by omega, by omega⟩
 refine Ev.congr (fun k => by rw [law17_pair.f, if_pos (by omega), e0, i0, e1, i1]) ?_
 refine Ev.bind' (fun k => rfl) g1 ?_
 refine Ev.congr (fun k => by rw [if_pos (by omega)]) ?_
 refine Ev.bind' (fun k => rfl) k1 ?_
 refine Ev.congr (fun k => by rw [if_pos (by show (0 : Int) < (ls.length : Int); omega), if_pos (by show (0 : Int) < (ms.length : Int); omega), show rd_L5 (ls, t, q1).1 0 = ls[0] from rdLL (i := 0) hl, show rd_L5 (ms, t', q2).1 0 = ms[0] from rdLL (i := 0) hm]) (Ev.now _)
theorem in_yes {x lo hi : Int} (h0 : lo ≤ x) (h1 : x ≤ hi) : ref15_in.f x lo hi = some true := by
 rw [r15_in, decide_eq_true h0, decide_eq_true h1]
 rfl
theorem parts_six (f0 f1 f2 f3 f4 f6 f7 f8 f10 : Int) (h6 : 0 ≤ f6 ∧ f6 ≤ 2147483646) (h7 : 0 ≤ f7 ∧ f7 ≤ 2147483646) (h8 : 0 ≤ f8 ∧ f8 ≤ 256) : ref15_parts.f 4 f0 f1 f2 f3 f4 6 f6 f7 f8 0 f10 = some true := by
 have hj : ∀ (b1 b2 b3 : Bool), ref15_parts.j1 3 b1 b2 b3 f0 f1 f2 f3 f4 6 f6 f7 f8 0 f10 = some true := by
  intro b1 b2 b3
  have hk : ∀ b4 : Bool, ref15_parts.j2 2 b1 b2 b3 b4 f0 f1 f2 f3 f4 6 f6 f7 f8 0 f10 = some true := by
   intro b4
   rw [ref15_parts.j2, if_neg (by decide), if_neg (by decide), if_neg (by decide), ref15_parts.j3, if_neg (by decide), if_neg (by decide), if_pos rfl, in_yes h6.1 h6.2, Option.bind_some, if_pos rfl, in_yes h7.1 h7.2, Option.bind_some, if_pos rfl, in_yes h8.1 h8.2, Option.bind_some, if_pos rfl]
   rfl
  rw [ref15_parts.j1]
  split <;> exact hk _
 have h0 : ∀ (b1 b2 : Bool), ref15_parts.j0 4 b1 b2 f0 f1 f2 f3 f4 6 f6 f7 f8 0 f10 = some true := by
  intro b1 b2
  rw [ref15_parts.j0, r15_in, Option.bind_some]
  split <;> exact hj _ _ _
 unfold ref15_parts.f
 rw [r15_in, Option.bind_some, r15_in, Option.bind_some]
 split
 ·rw [r15_in, Option.bind_some]
  exact h0 _ _
 ·exact h0 _ _
theorem valid_six {x : S51} (h0 : 1 ≤ x.f0 ∧ x.f0 ≤ 2147483646) (h1 : 1 ≤ x.f1 ∧ x.f1 ≤ 2147483646) (hne : x.f0 ≠ x.f1) (h2 : 1 ≤ x.f2 ∧ x.f2 ≤ 256) (h3 : 0 ≤ x.f3 ∧ x.f3 ≤ 2147483646) (h23 : 1 < x.f2 ∨ x.f3 = 0) (h4 : 0 ≤ x.f4 ∧ x.f4 ≤ 1048576) (h5 : x.f5 = 6)
 (h6 : 0 ≤ x.f6 ∧ x.f6 ≤ 2147483646) (h7 : 0 ≤ x.f7 ∧ x.f7 ≤ 2147483646) (h8 : 0 ≤ x.f8 ∧ x.f8 ≤ 256) (h9 : x.f9 = 0) (h10 : 0 ≤ x.f10 ∧ x.f10 ≤ 2147483646) : validR x = true := by
 unfold validR ref15_Valid.f
 rw [h5, h9, parts_six _ _ _ _ _ _ _ _ _ h6 h7 h8, in_yes h0.1 h0.2, Option.bind_some, if_pos rfl, in_yes h1.1 h1.2, Option.bind_some, if_pos rfl, if_neg hne, in_yes h2.1 h2.2, Option.bind_some, if_pos rfl, in_yes h3.1 h3.2, Option.bind_some, if_pos rfl, in_yes h4.1 h4.2, in_yes h10.1 h10.2]
 simp only [Option.bind_some, if_true]
 split
 ·rfl
 ·rw [if_pos (by omega)]
  rfl
theorem pput (x : ByteArray) (a : Int) (hx : x.size ≤ 1000000) : ∃ r, wire_PutInt.f x a = some r ∧ r.size ≤ x.size + 10 := by
 have hg := Wire.grp_zig a
 refine ⟨_, by rw [wire_PutInt.f, if_pos (by omega)], ?_⟩
 show (List.toArray _).size ≤ _
 rw [List.size_toArray, List.length_append]
 have h2 : x.data.toList.length = x.size := Array.length_toList ..
 omega
theorem pbytes_loop (L : List Int) (hL : L.length ≤ 1000) : ∀ (d i : Nat) (x : ByteArray), i + d = L.length → x.size ≤ 10 * i → ∃ r, Ev (fun k => statement_Bytes.l0 k x L (L.length : Int) (i : Int)) r ∧ r.size ≤ 10 * L.length
 | 0, i, x, hd, hx => by
  refine ⟨x, Ev.step (fun k => ?_) (Ev.now _), by omega⟩
  rw [statement_Bytes.l0, if_neg (by omega)]
 | d + 1, i, x, hd, hx => by
  obtain ⟨y, hy, hs⟩ := pput x (rd L (i : Int)) (by omega)
  obtain ⟨r, hr, hz⟩ := pbytes_loop L hL d (i + 1) y (by omega) (by omega)
  refine ⟨r, Ev.step (fun k => ?_) hr, hz⟩
  rw [statement_Bytes.l0, if_pos (by omega), if_pos (by omega), if_pos (by omega), hy, Option.bind_some, w64 (by omega) (by omega)]
  rfl
theorem pbytes_ev (f0 f1 f2 f3 f4 f5 f6 f7 f8 f9 f10 : Int) : ∃ r, Ev (fun k => statement_Bytes.f k f0 f1 f2 f3 f4 f5 f6 f7 f8 f9 f10) r ∧ r.size ≤ 100 := by
 obtain ⟨r, hr, hs⟩ := pbytes_loop [f0, f1, f2, f3, f4, f5, f6, f7, f8, f9] (by simp) 10 0 ⟨#[]⟩ (by simp) (by simp [ByteArray.size])
 exact ⟨r, Ev.congr (fun k => rfl) hr, by simpa using hs⟩
theorem psum_loop (x : ByteArray) (hx : x.size ≤ 1000000) : ∀ (d i : Nat) (s : Int), i + d = x.size → 0 ≤ s → s < 2147483647 → ∃ r, Ev (fun k => digest_Sum.l0 k x s (x.size : Int) (i : Int)) r ∧ 0 ≤ r ∧ r < 2147483647
 | 0, i, s, hd, h0, h1 => by
  refine ⟨s, Ev.step (fun k => ?_) (Ev.now _), h0, h1⟩
  rw [digest_Sum.l0, if_neg (by omega)]
 | d + 1, i, s, hd, h0, h1 => by
  have hb : 0 ≤ bt x (i : Int) ∧ bt x (i : Int) ≤ 255 := by
   unfold bt
   split
   ·rename_i h
    have := (x[(i : Int).toNat]).toNat_lt
    omega
   ·exact ⟨by decide, by decide⟩
  have e1 : wrap64 (s * 1000003) = s * 1000003 := w64 (by omega) (by omega)
  have e2 : wrap64 (bt x (i : Int)) = bt x (i : Int) := w64 (by omega) (by omega)
  have e3 : wrap64 (s * 1000003 + bt x (i : Int)) = s * 1000003 + bt x (i : Int) := w64 (by omega) (by omega)
  have e4 : wrap64 (s * 1000003 + bt x (i : Int) + 1) = s * 1000003 + bt x (i : Int) + 1 := w64 (by omega) (by omega)
  obtain ⟨r, hr, hz⟩ := psum_loop x hx d (i + 1) (Int.tmod (s * 1000003 + bt x (i : Int) + 1) 2147483647) (by omega) (by rw [Int.tmod_eq_emod_of_nonneg (by omega)]; omega) (by rw [Int.tmod_eq_emod_of_nonneg (by omega)]; omega)
  refine ⟨r, Ev.step (fun k => ?_) hr, hz⟩
  rw [digest_Sum.l0, if_pos (by omega), if_pos (by omega), if_pos (by omega), e1, e2, e3, e4, w64 (by omega) (by omega)]
  rfl
theorem psum_ev (x : ByteArray) (hx : x.size ≤ 1000000) : ∃ r, Ev (fun k => digest_Sum.f k x) r ∧ 0 ≤ r ∧ r < 2147483647 := psum_loop x hx x.size 0 1 (by omega) (by decide) (by decide)
theorem psign_ev (a : Int) (h0 : 1 ≤ a) (h1 : a ≤ 2147483646) (x : ByteArray) (hx : x.size ≤ 100) : ∃ r : Int, Ev (fun k => mark_Sign.f k a x) (r, 0) ∧ 0 ≤ r ∧ r < 2147483647 := by
 obtain ⟨y, hy, hs⟩ := pput ⟨#[]⟩ a (show (0 : Nat) ≤ 1000000 from Nat.zero_le _)
 have hs' : y.size ≤ 10 := Nat.le_trans hs (by show 0 + 10 ≤ 10; omega)
 obtain ⟨r, hr, hz⟩ := psum_ev (y ++ x) (by rw [ByteArray.size_append]; omega)
 refine ⟨r, ?_, hz⟩
 refine Ev.congr (fun k => ?_) (Ev.bind hr (f := fun _ u => some (u, 0)) (Ev.now _))
 unfold mark_Sign.f mark_within.f
 rw [if_pos (by omega), Option.bind_some, decide_eq_true (by omega : a < 2147483647), if_pos rfl, if_neg (by omega), hy, Option.bind_some, if_pos (by omega)]
def mkS (p0 tt n pr t a b c m : Int) : S51 := ⟨p0, tt, n, pr, t, 6, a, b, c, 0, m⟩
theorem pnext_j2 {p0 p1 tt n pr t a b c : Int} (h1 : 1 ≤ p1) (h1' : p1 ≤ 2147483646) (hv : ∀ m : Int, 0 ≤ m → m ≤ 2147483646 → validR (mkS p0 tt n pr t a b c m) = true) :
 ∃ m : Int, 0 ≤ m ∧ m ≤ 2147483646 ∧ Ev (fun k => statement_Next.j2 k p0 p1 p0 tt n pr t 6 a b c 0 0) (TupE (mkS p0 tt n pr t a b c m) 0) := by
 obtain ⟨s, hs, hz⟩ := pbytes_ev p0 tt n pr t 6 a b c 0 0
 obtain ⟨m, hm, m0, m1⟩ := psign_ev p1 h1 h1' s hz
 have hb : validB (mkS p0 tt n pr t a b c 0) = true := valid_too (hv 0 (by decide) (by decide)) (by show (0 : Int) ≤ _; decide)
 refine ⟨m, m0, by omega, ?_⟩
 refine Ev.succ ?_
 refine Ev.congr (fun k => by rw [statement_Next.j2, show statement_Valid.f p0 tt n pr t 6 a b c 0 0 = some true from congrArg some hb, Option.bind_some, if_pos rfl]) ?_
 refine Ev.bind' (fun k => rfl) hs ?_
 refine Ev.bind' (fun k => rfl) hm ?_
 exact Ev.congr (fun k => by rw [if_pos rfl]; rfl) (Ev.now _)
theorem pnext_loop {l : List S51} {p0 p1 tt t t0 a b c : Int} (hr : RC p0 tt l t0) (ht : t0 ≤ t) (hl : l.length < 256) (h0 : 1 ≤ p0 ∧ p0 ≤ 2147483646) (h1 : 1 ≤ p1 ∧ p1 ≤ 2147483646) (h2 : 1 ≤ tt ∧ tt ≤ 2147483646) (hne : p0 ≠ tt) (h4 : 0 ≤ t ∧ t ≤ 1048576)
 (ha : 0 ≤ a ∧ a ≤ 2147483646) (hb : 0 ≤ b ∧ b ≤ 2147483646) (hc : 0 ≤ c ∧ c ≤ 256) : ∃ x : S51, NextOk l p0 tt t 6 a b c 0 x ∧ (∀ y : S51, y.f0 = x.f0 → y.f1 = x.f1 → y.f2 = x.f2 → y.f3 = x.f3 → y.f4 = x.f4 → y.f5 = x.f5 → (0 ≤ y.f6 ∧ y.f6 ≤ 2147483646) → y.f7 = x.f7 → y.f8 = x.f8 → y.f9 = x.f9 → (0 ≤ y.f10 ∧ y.f10 ≤ 2147483646) → NextOk l p0 tt t 6 y.f6 b c 0 y) ∧
  ∀ (m i : Nat), i + m = l.length → Ev (fun k => statement_Next.l0 k l tt t 6 a b c 0 l (l.length : Int) (i : Int) p0 p1) (TupE x 0) := by
 have hsame : ∀ y ∈ l, y.f0 = p0 ∧ y.f1 = tt := hr.par
 have hlast : ∀ h : 0 < l.length, l[l.length - 1].f4 ≤ t := fun h => Int.le_trans (hr.up _ (List.getElem_mem _)) ht
 have hgo : ∃ (pr m : Int), (0 ≤ pr ∧ pr ≤ 2147483646) ∧ (1 < (l.length : Int) + 1 ∨ pr = 0) ∧ (0 ≤ m ∧ m ≤ 2147483646) ∧ Ev (fun k => statement_Next.l0 k l tt t 6 a b c 0 l (l.length : Int) (l.length : Int) p0 p1) (TupE (mkS p0 tt ((l.length : Int) + 1) pr t a b c m) 0) := by
  have hv : ∀ pr : Int, 0 ≤ pr → pr ≤ 2147483646 → (1 < (l.length : Int) + 1 ∨ pr = 0) → ∀ m : Int, 0 ≤ m → m ≤ 2147483646 → validR (mkS p0 tt ((l.length : Int) + 1) pr t a b c m) = true := fun pr r0 r1 r2 m m0 m1 =>
   valid_six h0 h2 hne ⟨by show 1 ≤ (l.length : Int) + 1; omega, by show (l.length : Int) + 1 ≤ 256; omega⟩ ⟨r0, r1⟩ r2 h4 rfl ha hb hc rfl ⟨m0, m1⟩
  have ew : wrap64 ((l.length : Int) + 1) = (l.length : Int) + 1 := w64 (by omega) (by omega)
  by_cases c0 : (l.length : Int) > 0
  ·have e2 : wrap64 ((l.length : Int) - 1) = (l.length : Int) - 1 := w64 (by omega) (by omega)
   have el : rd_T51 l (wrap64 ((l.length : Int) - 1)) = l[l.length - 1] := last_is (by omega) (by omega)
   obtain ⟨s, hs, hz⟩ := pbytes_ev l[l.length - 1].f0 l[l.length - 1].f1 l[l.length - 1].f2 l[l.length - 1].f3 l[l.length - 1].f4 l[l.length - 1].f5 l[l.length - 1].f6 l[l.length - 1].f7 l[l.length - 1].f8 l[l.length - 1].f9 l[l.length - 1].f10
   obtain ⟨pr, hp, r0, r1⟩ := psum_ev s (by omega)
   obtain ⟨m, m0, m1, hm⟩ := pnext_j2 (p1 := p1) h1.1 h1.2 (hv pr r0 (by omega) (.inl (by omega)))
   refine ⟨pr, m, ⟨r0, by omega⟩, .inl (by omega), ⟨m0, m1⟩, ?_⟩
   refine Ev.succ ?_
   have hle := hlast (by omega)
   refine Ev.congr (fun k => by rw [statement_Next.l0, if_neg (by omega), if_pos c0, if_pos (by omega), if_pos (by omega), el, if_neg (by omega)]) ?_
   refine Ev.bind' (fun k => rfl) hs ?_
   refine Ev.bind' (fun k => rfl) hp ?_
   exact Ev.congr (fun k => by rw [ew]) hm
  ·obtain ⟨m, m0, m1, hm⟩ := pnext_j2 (p1 := p1) h1.1 h1.2 (hv 0 (by decide) (by decide) (.inr rfl))
   refine ⟨0, m, ⟨by decide, by decide⟩, .inr rfl, ⟨m0, m1⟩, ?_⟩
   refine Ev.succ ?_
   exact Ev.congr (fun k => by rw [statement_Next.l0, if_neg (by omega), if_neg c0, ew]) hm
 obtain ⟨pr, m, hpr, hfst, hm, hev⟩ := hgo
 have hok : ∀ y : S51, y.f0 = p0 → y.f1 = tt → y.f2 = (l.length : Int) + 1 → y.f3 = pr → y.f4 = t → y.f5 = 6 → (0 ≤ y.f6 ∧ y.f6 ≤ 2147483646) → y.f7 = b → y.f8 = c → y.f9 = 0 → (0 ≤ y.f10 ∧ y.f10 ≤ 2147483646) → NextOk l p0 tt t 6 y.f6 b c 0 y := by
  intro y e0 e1 e2 e3 e4 e5 e6 e7 e8 e9 e10
  refine ⟨valid_six (by omega) (by omega) (by rw [e0, e1]; exact hne) (by omega) (by omega) (by omega) (by omega) e5 e6 (by omega) (by omega) e9 e10, e0, e1, e2, e4, e5, rfl, e7, e8, e9, hl, hsame, hlast⟩
 refine ⟨mkS p0 tt ((l.length : Int) + 1) pr t a b c m, hok (mkS p0 tt ((l.length : Int) + 1) pr t a b c m) rfl rfl rfl rfl rfl rfl ha rfl rfl rfl hm, fun y e0 e1 e2 e3 e4 e5 e6 e7 e8 e9 e10 => hok y e0 e1 e2 e3 e4 e5 e6 e7 e8 e9 e10, ?_⟩
 intro d
 induction d with
 | zero =>
  intro i hi
  have e : i = l.length := by omega
  subst e
  exact hev
 | succ d ih =>
  intro i hi
  have hil : i < l.length := by omega
  have e : rd_T51 l (i : Int) = l[i] := (rd_is hil).symm
  have hs := hsame l[i] (List.getElem_mem hil)
  refine Ev.succ ?_
  refine Ev.congr (fun k => ?_) (ih (i + 1) (by omega))
  rw [statement_Next.l0, if_pos (by omega), if_pos (by omega), if_pos (by omega), e, if_pos hs.1, if_pos hs.2, w64 (by omega) (by omega)]
  rfl
theorem pnext_ev {l : List S51} {p0 p1 tt t a b c : Int} (h0 : 1 ≤ p0 ∧ p0 ≤ 2147483646) (h1 : 1 ≤ p1 ∧ p1 ≤ 2147483646) (x : S51) (e : Int) (h : if (l.length : Int) ≥ 256 then TupE x e = (0, 0, 0, 0, 0, 0, 0, 0, 0, 0, 0, 4) else Ev (fun k => statement_Next.l0 k l tt t 6 a b c 0 l (l.length : Int) ((0 : Nat) : Int) p0 p1) (TupE x e)) :
 Ev (fun k => statement_Next.f k l p0 p1 tt t 6 a b c 0) (TupE x e) := by
 refine Ev.congr (fun k => by rw [statement_Next.f, holds_is, Option.bind_some, holds_yes h0.1 h0.2, if_pos rfl, holds_is, Option.bind_some, holds_yes h1.1 h1.2]) ?_
 refine Ev.succ ?_
 by_cases c : (l.length : Int) ≥ 256
 ·rw [if_pos c] at h
  rw [h]
  exact Ev.congr (fun k => by rw [statement_Next.j0, if_neg (by decide), if_pos c]) (Ev.now _)
 ·rw [if_neg c] at h
  exact Ev.congr (fun k => by rw [statement_Next.j0, if_neg (by decide), if_neg c]; rfl) h
theorem true_upto {p0 tt t : Int} {l : List S51} (h : RC p0 tt l t) (n : Nat) (hn : n ≤ l.length) (hb : ∀ (i : Nat) (hi : i < l.length), i < n → l[i].f5 = 6 → l[i].f6 = zSum (stF (l.take i)) l[i].f4 64) (r : Int) (hr : Ev (fun k => account_True.l0 k l l (l.length : Int) (n : Int)) r) : ∀ (d i : Nat), i + d = n → Ev (fun k => account_True.l0 k l l (l.length : Int) (i : Int)) r
 | 0, i, hd => by
  have e : i = n := by omega
  subst e
  exact hr
 | d + 1, i, hd => by
  have hi : i < l.length := by omega
  have e : rd_T51 l (i : Int) = l[i] := (rd_is hi).symm
  have hlen := h.len
  have ok := valid_ok (h.val _ (List.getElem_mem hi))
  have ih := true_upto h n hn hb r hr d (i + 1) (by omega)
  have hk := pkept_ev (h.before hi) ok.f4.1 ok.f4.2
  have ew : wrap64 ((i : Int) + 1) = ((i + 1 : Nat) : Int) := by rw [w64 (by omega) (by omega)]; rfl
  refine Ev.succ ?_
  refine Ev.congr (fun k => by rw [account_True.l0, if_pos (by omega), if_pos (by omega), if_pos (by omega), e]) ?_
  by_cases c : l[i].f5 = 6
  ·refine Ev.congr (fun k => by rw [if_pos c, if_pos (by omega), Int.toNat_natCast]) ?_
   refine Ev.bind' (fun k => rfl) hk ?_
   exact Ev.congr (fun k => by rw [if_pos (hb i hi (by omega) c), ew]) ih
  ·exact Ev.congr (fun k => by rw [if_neg c, ew]) ih
theorem true_ev {p0 tt t : Int} {l : List S51} (h : RC p0 tt l t) (r : Int) (hr : Ev (fun k => account_True.l0 k l l (l.length : Int) ((0 : Nat) : Int)) r) : Ev (fun k => account_True.f k l) r := by
 have h9 : ∀ j : Nat, j < l.length → (rd_T51 l j).f9 ≤ 9223372036854775807 := fun j hj => by
  rw [← rd_is hj]
  exact h.big _ (List.getElem_mem hj)
 refine Ev.congr (fun k => ?_) hr
 unfold account_True.f lease_Right.f
 rw [right_all h9 h.right, Option.bind_some, if_pos rfl]
 rfl
theorem true_all {p0 tt t : Int} {l : List S51} (h : RC p0 tt l t) (hb : Bal l) : Ev (fun k => account_True.f k l) 0 := by
 refine true_ev h 0 (true_upto h l.length (Nat.le_refl _) (fun i hi _ => hb i hi) 0 ?_ l.length 0 (by omega))
 refine Ev.step (fun k => ?_) (Ev.now _)
 rw [account_True.l0, if_neg (by omega)]
theorem true_not {p0 tt t : Int} {l : List S51} {y : S51} (h : RC p0 tt (l ++ [y]) t) (hb : Bal l) (h5 : y.f5 = 6) (h6 : y.f6 ≠ zSum (stF l) y.f4 64) : Ev (fun k => account_True.f k (l ++ [y])) 18 := by
 have hl : (l ++ [y]).length = l.length + 1 := by rw [List.length_append, List.length_singleton]
 have hi : l.length < (l ++ [y]).length := by omega
 have e : rd_T51 (l ++ [y]) (l.length : Int) = y := by
  rw [← rd_is hi]
  exact List.getElem_concat_length rfl ..
 have ok := valid_ok (h.val y (by simp))
 have hk := pkept_ev (h.before hi)
 rw [List.getElem_concat_length rfl, List.take_left] at hk
 refine true_ev h 18 (true_upto h l.length (by omega) (fun i hi2 hin h5 => ?_) 18 ?_ l.length 0 (by omega))
 ·rw [List.getElem_append_left hin] at h5 ⊢
  rw [List.take_append_of_le_length (by omega)]
  exact hb i hin h5
 ·refine Ev.succ ?_
  refine Ev.congr (fun k => by rw [account_True.l0, if_pos (by omega), if_pos (by omega), if_pos (by omega), e, if_pos h5, if_pos (by omega), Int.toNat_natCast, List.take_left]) ?_
  refine Ev.bind' (fun k => rfl) (hk ok.f4.1 ok.f4.2) ?_
  exact Ev.congr (fun k => by rw [if_neg h6]) (Ev.now _)
theorem msign_ev (p0 p1 : Int) (x : S51) : ∃ r : Int, (0 ≤ r ∧ r ≤ 2147483646) ∧ Ev (fun k => make_Sign.f k x.f0 x.f1 x.f2 x.f3 x.f4 x.f5 x.f6 x.f7 x.f8 x.f9 x.f10 p0 p1) (x.f0, x.f1, x.f2, x.f3, x.f4, x.f5, x.f6, x.f7, x.f8, x.f9, r) := by
 obtain ⟨s, hs, hz⟩ := bytes_ev x.f0 x.f1 x.f2 x.f3 x.f4 x.f5 x.f6 x.f7 x.f8 x.f9 x.f10
 obtain ⟨r, hr, r0, r1⟩ := sign_ev p1 s hz
 refine ⟨r.1, ⟨r0, by omega⟩, ?_⟩
 have hm : Ev (fun k => make_mark.f k p0 p1 x.f0 x.f1 x.f2 x.f3 x.f4 x.f5 x.f6 x.f7 x.f8 x.f9 x.f10) r.1 := by
  refine Ev.bind' (fun k => rfl) hs ?_
  exact Ev.bind' (fun k => rfl) hr (Ev.now _)
 exact Ev.bind' (fun k => rfl) hm (Ev.now _)
theorem AccountSays : law17_AccountSays.Pure := by
 intro L n hL hL2 hw hn
 have rn := byte_rng hn
 have hs : Ev (fun k => law17_sane.f k) true := Ev.of (k := 5) law17_sane.mono sane_says
 refine Ev.rounds (g := fun k => law17_AccountSays.f k L n) (r := true) ?_
 refine Ev.bind' (fun k => rfl) hs ?_
 by_cases c : decide ((L.length : Int) ≤ 500) = true
 ·have hd : DeckOk L 0 := ⟨by decide, by omega, by have := of_decide_eq_true c; omega⟩
  obtain ⟨ps, q1, hp, hpl, hpi, hq1⟩ := people2_ev hd 2 (by decide)
  obtain ⟨a, b, m, q', hpr, hra, hrb, hbal, hq', m0, m1⟩ := pair2_ev hq1 hpl (fun j hj => (hpi j hj).1)
  have hps : 0 < ps.length := by omega
  have e0 : rd_T49 ps 0 = ps[0] := rdP (i := 0) hps
  obtain ⟨i0, s0, s1⟩ := hpi 0 hps
  have r1 := zSum_rng (t := m) hra.inv_all 64 (by decide)
  have r2 := zSum_rng (t := m) hrb.inv_all 64 (by decide)
  have hba := hra.len
  have hbl := hrb.len
  have hbt := between_ev hra hrb m0 (by omega : m ≤ 1048576)
  rw [rst_full hra.up, rst_full hrb.up] at hbt
  generalize hA : zSum (stF a) m 64 = A at hbt r1
  generalize hB : zSum (stF b) m 64 = B at hbt r2
  refine Ev.congr (fun k => by rw [if_pos rfl, few_some, Option.bind_some, if_pos c]) ?_
  refine Ev.bind' (g := fun _ => make_New.f L) (a := (L, 0)) (fun k => rfl) (Ev.now _) ?_
  refine Ev.bind' (fun k => rfl) hp ?_
  refine Ev.bind' (fun k => rfl) hpr ?_
  refine Ev.bind' (fun k => rfl) (true_all hra hbal) ?_
  refine Ev.congr (fun k => by rw [if_pos rfl, if_pos (by show (0 : Int) < (ps.length : Int); omega)]) ?_
  have hsay : ∀ (x : S51) (e : Int), Ev (fun k => statement_Next.f k a ps[0].f0 ps[0].f1 2 m 6 A B (b.length : Int) 0) (TupE x e) → Ev (fun k => account_Say.f k a b ps[0].f0 ps[0].f1 2 m) (TupE x e) := by
   intro x e hx
   refine Ev.bind' (fun k => rfl) hbt ?_
   refine Ev.congr (fun k => by rw [if_pos rfl]) ?_
   exact Ev.bind' (fun k => rfl) hx (Ev.now _)
  by_cases cl : (a.length : Int) ≥ 256
  ·have hx := hsay zE 4 (pnext_ev (by omega) (by omega) zE 4 (by rw [if_pos cl]; rfl))
   refine Ev.bind' (g := fun k => account_Say.f k a b (rd_T49 ps 0).f0 (rd_T49 ps 0).f1 2 m) (fun k => rfl) (by rw [e0]; exact hx) ?_
   refine Ev.congr (fun k => by rw [if_neg (by show ¬ ((4 : Int) = 0); decide)]) ?_
   exact Ev.congr (fun k => by rw [show ((a.length : Int) == 256) = true from beq_iff_eq.mpr (by omega)]) (Ev.now _)
  ·obtain ⟨x, hn1, hn2, hn3⟩ := pnext_loop (p0 := ps[0].f0) (p1 := ps[0].f1) (tt := 2) (t := m) (a := A) (b := B) (c := (b.length : Int)) (by rw [i0]; exact hra) (Int.le_refl _) (by omega) (by omega) (by omega) (by decide) (by omega) (by omega) (by omega) (by omega) (by omega)
   have hx := hsay x 0 (pnext_ev (by omega) (by omega) x 0 (by rw [if_neg cl]; exact hn3 a.length 0 (by omega)))
   have x5 := hn1.f5
   have x6 := hn1.f6
   have x4 := hn1.f4
   rw [i0] at hn1
   obtain ⟨y, hy⟩ : ∃ y : S51, y = ⟨x.f0, x.f1, x.f2, x.f3, x.f4, x.f5, wrap64 (wrap64 (x.f6 + 1) + wrap64 n), x.f7, x.f8, x.f9, x.f10⟩ := ⟨_, rfl⟩
   obtain ⟨r, hr, hsg⟩ := msign_ev ps[0].f0 ps[0].f1 y
   have ew : wrap64 (wrap64 (x.f6 + 1) + wrap64 n) = A + 1 + n := by
    rw [w64 (n := x.f6 + 1) (by omega) (by omega), w64 (n := n) (by omega) (by omega), w64 (by omega) (by omega), x6]
   obtain ⟨z, hz⟩ : ∃ z : S51, z = ⟨x.f0, x.f1, x.f2, x.f3, x.f4, x.f5, wrap64 (wrap64 (x.f6 + 1) + wrap64 n), x.f7, x.f8, x.f9, r⟩ := ⟨_, rfl⟩
   have z6 : z.f6 = A + 1 + n := by rw [hz]; exact ew
   have hnz := hn2 z (by rw [hz]) (by rw [hz]) (by rw [hz]) (by rw [hz]) (by rw [hz]) (by rw [hz]) (by omega) (by rw [hz]) (by rw [hz]) (by rw [hz]) (by rw [hz]; exact hr)
   rw [i0] at hnz
   have hrx := hra.snoc hn1 (fits_rest (by decide) hn1) (by rw [hn1.f9]; decide)
   have hrz := hra.snoc hnz (fits_rest (by decide) hnz) (by rw [hnz.f9]; decide)
   have hbx : Bal (a ++ [x]) := hbal.snoc fun _ => by rw [x6, x4, hA]
   have hTx := true_all hrx hbx
   have hTz := true_not hrz hbal (by rw [hz]; exact x5) (by rw [z6, show z.f4 = m by rw [hz]; exact x4, hA]; omega)
   refine Ev.bind' (g := fun k => account_Say.f k a b (rd_T49 ps 0).f0 (rd_T49 ps 0).f1 2 m) (fun k => rfl) (by rw [e0]; exact hx) ?_
   refine Ev.congr (fun k => by rw [if_pos rfl, if_pos (by show 0 + a.length < 1599289640401; omega), Option.bind_some, Option.bind_some, if_pos (by show (a.length + 1) < 1599289640401; omega), Option.bind_some]) ?_
   have hsg' : Ev (fun k => make_Sign.f k x.f0 x.f1 x.f2 x.f3 x.f4 x.f5 (wrap64 (wrap64 (x.f6 + 1) + wrap64 n)) x.f7 x.f8 x.f9 x.f10 ps[0].f0 ps[0].f1) (x.f0, x.f1, x.f2, x.f3, x.f4, x.f5, wrap64 (wrap64 (x.f6 + 1) + wrap64 n), x.f7, x.f8, x.f9, r) := by
    rw [hy] at hsg
    exact hsg
   refine Ev.bind' (g := fun k => make_Sign.f k x.f0 x.f1 x.f2 x.f3 x.f4 x.f5 (wrap64 (wrap64 (x.f6 + 1) + wrap64 n)) x.f7 x.f8 x.f9 x.f10 (rd_T49 ps 0).f0 (rd_T49 ps 0).f1) (fun k => rfl) (by rw [e0]; exact hsg') ?_
   refine Ev.congr (fun k => by rw [Option.bind_some, if_pos (by show (a.length + 1) < 1599289640401; omega)]) ?_
   refine Ev.bind' (fun k => rfl) hbt ?_
   refine Ev.congr (fun k => by rw [if_pos rfl, if_pos x5, if_pos x6, if_pos hn1.f7, if_pos hn1.f8]) ?_
   refine Ev.bind' (fun k => rfl) hTx ?_
   refine Ev.congr (fun k => by rw [if_pos rfl]) ?_
   rw [hz] at hTz
   refine Ev.bind' (fun k => rfl) hTz ?_
   exact Ev.now _
 ·exact Ev.congr (fun k => by rw [if_pos rfl, few_some, Option.bind_some, if_neg c]) (Ev.now _)
end Go.Proofs.YtcgpbmafkgbbdaaDoor.Pure
