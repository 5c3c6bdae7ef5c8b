/- The reference's next statement in plain Lean: it always answers; where it has no error its statement has the numbers that were given, is valid, and stands behind its chain. -/
import Derived.Test.YtcgpbmafkgbbdaaDoorLs
import Derived.Test.YtcgpbmafkgbbdaaDoorDeck
import Derived.Test.YtcgpbmafkgbbdaaDoorPSx0
import Derived.Test.YtcgpbmafkgbbdaaDoorPSx25
import Derived.Test.YtcgpbmafkgbbdaaDoorPSx43
set_option linter.unusedVariables false
set_option linter.unusedSimpArgs false
namespace Go.Proofs.YtcgpbmafkgbbdaaDoor.PS
open Go.RowKit Go.Proofs.YtcgpbmafkgbbdaaDoor.Pure Go.Proofs.YtcgpbmafkgbbdaaDoorW.PrintWords Go.Proofs.YtcgpbmafkgbbdaaDoorW.PrintLast Go.Proofs.YtcgpbmafkgbbdaaDoorW.PrintMore
theorem u64_lt (n : Int) : IntKind.u64.wrap n < 18446744073709551616 := by
 show n % 18446744073709551616 < _
 exact Int.emod_lt_of_pos _ (by decide)
theorem xor_lt (a b : Int) : Go.bits .xor .u64 a b < 18446744073709551616 := u64_lt _
theorem put_loop : ∀ (m : Nat) (x : ByteArray) (y : Int), y < 128 ^ (m + 1) → x.size + m + 1 ≤ 1000000 → ∃ r, Ev (fun k => ref01_PutInt.l0 k x y) r ∧ r.size ≤ x.size + m + 1
 | 0, x, y, hy, hx => by
  refine ⟨x ++ strOfNums [y % 256], Ev.step (fun k => ?_) (Ev.now _), ?_⟩
  ·rw [ref01_PutInt.l0, if_neg (by omega)]
   simp only [Option.bind_some]
   rw [if_pos (by rw [strOfNums_size]; simp; omega)]
  ·rw [ByteArray.size_append, strOfNums_size]
   simp
 | m + 1, x, y, hy, hx => by
  by_cases c : y > 127
  ·obtain ⟨r, hr, hs⟩ := put_loop m (x ++ strOfNums [Go.bits .or .u8 (y % 256) 128]) (y / 128) (by
    have : (128 : Int) ^ (m + 1 + 1) = 128 ^ (m + 1) * 128 := Int.pow_succ ..
    exact Int.ediv_lt_of_lt_mul (by decide) (by rw [← this]; exact hy)) (by rw [ByteArray.size_append, strOfNums_size]; simp; omega)
   rw [ByteArray.size_append, strOfNums_size] at hs
   refine ⟨r, Ev.step (fun k => ?_) hr, by simp at hs; omega⟩
   rw [ref01_PutInt.l0, if_pos c]
   simp only [Option.bind_some]
   rw [if_pos (by rw [strOfNums_size]; simp; omega)]
  ·refine ⟨x ++ strOfNums [y % 256], Ev.step (fun k => ?_) (Ev.now _), ?_⟩
   ·rw [ref01_PutInt.l0, if_neg c]
    simp only [Option.bind_some]
    rw [if_pos (by rw [strOfNums_size]; simp; omega)]
   ·rw [ByteArray.size_append, strOfNums_size]
    simp
theorem put_ev (x : ByteArray) (a : Int) (hx : x.size ≤ 999000) : ∃ r, Ev (fun k => ref01_PutInt.f k x a) r ∧ r.size ≤ x.size + 10 := by
 obtain ⟨r, hr, hs⟩ := put_loop 9 x (Go.bits .xor .u64 (IntKind.u64.wrap ((IntKind.u64.wrap a) * 2)) (IntKind.u64.wrap (a / 9223372036854775808))) (Int.lt_of_lt_of_le (xor_lt _ _) (by decide)) (by omega)
 exact ⟨r, hr, by omega⟩
theorem bytes_loop (L : List Int) (hL : L.length ≤ 1000) : ∀ (d i : Nat) (x : ByteArray), i + d = L.length → x.size ≤ 10 * i → ∃ r, Ev (fun k => ref15_Bytes.l0 k x L (L.length : Int) (i : Int)) r ∧ r.size ≤ 10 * L.length
 | 0, i, x, hd, hx => by
  refine ⟨x, Ev.step (fun k => ?_) (Ev.now _), by omega⟩
  rw [ref15_Bytes.l0, if_neg (by omega)]
 | d + 1, i, x, hd, hx => by
  obtain ⟨y, hy, hs⟩ := put_ev x (rd L (i : Int)) (by omega)
  obtain ⟨r, hr, hz⟩ := bytes_loop L hL d (i + 1) y (by omega) (by omega)
  refine ⟨r, Ev.step (fun k => ?_) (Ev.bind hy (f := fun k t => ref15_Bytes.l0 k t L (L.length : Int) (((i + 1 : Nat) : Int))) hr), hz⟩
  rw [ref15_Bytes.l0, if_pos (by omega), if_pos (by omega), if_pos (by omega), w64 (by omega) (by omega)]
  rfl
theorem bytes_ev (f0 f1 f2 f3 f4 f5 f6 f7 f8 f9 f10 : Int) : ∃ r, Ev (fun k => ref15_Bytes.f k f0 f1 f2 f3 f4 f5 f6 f7 f8 f9 f10) r ∧ r.size ≤ 100 := by
 obtain ⟨r, hr, hs⟩ := bytes_loop [f0, f1, f2, f3, f4, f5, f6, f7, f8, f9] (by simp) 10 0 ⟨#[]⟩ (by simp) (by simp [ByteArray.size])
 exact ⟨r, Ev.congr (fun k => rfl) hr, by simpa using hs⟩
theorem sum_loop (x : ByteArray) (hx : x.size ≤ 1000000) : ∀ (d i : Nat) (s : Int), i + d = x.size → 0 ≤ s → s < 2147483647 → ∃ r, Ev (fun k => ref02_Sum.l0 k x s (i : Int)) r ∧ 0 ≤ r ∧ r < 2147483647
 | 0, i, s, hd, h0, h1 => by
  refine ⟨s, Ev.step (fun k => ?_) (Ev.now _), h0, h1⟩
  rw [ref02_Sum.l0, if_neg (by omega)]
 | d + 1, i, s, hd, h0, h1 => by
  have hb : 0 ≤ bt x (i : Int) ∧ bt x (i : Int) ≤ 255 := by
   unfold bt
   split
   ·rename_i h
    have := (x[(i : Int).toNat]).toNat_lt
    omega
   ·exact ⟨by decide, by decide⟩
  have e1 : wrap64 (s * 1000003) = s * 1000003 := w64 (by omega) (by omega)
  have e2 : wrap64 (bt x (i : Int)) = bt x (i : Int) := w64 (by omega) (by omega)
  have e3 : wrap64 (s * 1000003 + bt x (i : Int)) = s * 1000003 + bt x (i : Int) := w64 (by omega) (by omega)
  have e4 : wrap64 (s * 1000003 + bt x (i : Int) + 1) = s * 1000003 + bt x (i : Int) + 1 := w64 (by omega) (by omega)
  obtain ⟨r, hr, hz⟩ := sum_loop x hx d (i + 1) (Int.tmod (s * 1000003 + bt x (i : Int) + 1) 2147483647) (by omega) (by rw [Int.tmod_eq_emod_of_nonneg (by omega)]; omega) (by rw [Int.tmod_eq_emod_of_nonneg (by omega)]; omega)
  refine ⟨r, Ev.step (fun k => ?_) hr, hz⟩
  rw [ref02_Sum.l0, if_pos (by omega), if_pos (by omega), e1, e2, e3, e4, w64 (by omega) (by omega)]
  rfl
theorem sum_ev (x : ByteArray) (hx : x.size ≤ 1000000) : ∃ r, Ev (fun k => ref02_Sum.f k x) r ∧ 0 ≤ r ∧ r < 2147483647 := sum_loop x hx x.size 0 1 (by omega) (by decide) (by decide)
theorem sign_ev (a : Int) (x : ByteArray) (hx : x.size ≤ 100) : ∃ r, Ev (fun k => ref14_Sign.f k a x) r ∧ 0 ≤ r.1 ∧ r.1 < 2147483647 := by
 by_cases c : ref14_number.f a = some true
 ·obtain ⟨y, hy, hs⟩ := put_ev ⟨#[]⟩ a (show (0 : Nat) ≤ 999000 from Nat.zero_le _)
  have hs' : y.size ≤ 10 := Nat.le_trans hs (by show 0 + 10 ≤ 10; omega)
  obtain ⟨r, hr, hz⟩ := sum_ev (y ++ x) (by rw [ByteArray.size_append]; omega)
  refine ⟨(r, 0), Ev.congr (fun k => ?_) (Ev.bind hy (f := fun k t => if t.size + x.size ≤ 9223372036854775807 then ((ref02_Sum.f k (t ++ x)).bind fun u => some (u, 0)) else none)
   (Ev.congr (fun k => by rw [if_pos (by omega)]) (Ev.bind hr (f := fun _ u => some (u, 0)) (Ev.now _)))), hz⟩
  unfold ref14_Sign.f
  rw [c, Option.bind_some, if_pos rfl, if_neg (by omega)]
 ·refine ⟨(0, 1), Ev.congr (fun k => ?_) (Ev.now _), by decide, by decide⟩
  have : ref14_number.f a = some false := by
   unfold ref14_number.f at c ⊢
   split at c
   ·rename_i h
    rw [if_pos h]
    simp only [Option.some.injEq, decide_eq_true_eq] at c
    rw [decide_eq_false c]
   ·rename_i h
    rw [if_neg h]
  unfold ref14_Sign.f
  rw [this, Option.bind_some, if_neg (by simp)]
structure NextOk (l : List S51) (p0 tt tick kind a b c d : Int) (x : S51) : Prop where
 v : validR x = true
 f0 : x.f0 = p0
 f1 : x.f1 = tt
 f2 : x.f2 = (l.length : Int) + 1
 f4 : x.f4 = tick
 f5 : x.f5 = kind
 f6 : x.f6 = a
 f7 : x.f7 = b
 f8 : x.f8 = c
 f9 : x.f9 = d
 len : l.length < 256
 same : ∀ y ∈ l, y.f0 = p0 ∧ y.f1 = tt
 last : ∀ h : 0 < l.length, l[l.length - 1].f4 ≤ tick
abbrev TupE (x : S51) (e : Int) : Int × Int × Int × Int × Int × Int × Int × Int × Int × Int × Int × Int := (x.f0, x.f1, x.f2, x.f3, x.f4, x.f5, x.f6, x.f7, x.f8, x.f9, x.f10, e)
def zE : S51 := ⟨0, 0, 0, 0, 0, 0, 0, 0, 0, 0, 0⟩
theorem validR_ev (f0 f1 f2 f3 f4 f5 f6 f7 f8 f9 f10 : Int) : Ev (fun k => ref15_Valid.f k f0 f1 f2 f3 f4 f5 f6 f7 f8 f9 f10) (validR ⟨f0, f1, f2, f3, f4, f5, f6, f7, f8, f9, f10⟩) :=
 Ev.of (fun k => ref15_Valid.mono _ _ _ _ _ _ _ _ _ _ _ k) (validR_is ⟨f0, f1, f2, f3, f4, f5, f6, f7, f8, f9, f10⟩)
def stepV (f0 f1 f2 f3 f4 f5 f6 f7 f8 f9 m : Int) (ok : Bool) : Option (Int × Int × Int × Int × Int × Int × Int × Int × Int × Int × Int × Int) := if ok = true then some (f0, f1, f2, f3, f4, f5, f6, f7, f8, f9, m, 0) else some (0, 0, 0, 0, 0, 0, 0, 0, 0, 0, 0, 2)
theorem next_j2 (q0 q1 f0 f1 f2 f3 f4 f5 f6 f7 f8 f9 : Int) : ∃ m : Int, 0 ≤ m ∧ m < 2147483647 ∧
 Ev (fun k => ref15_Next.j2 k q0 q1 f0 f1 f2 f3 f4 f5 f6 f7 f8 f9 0) (if validR ⟨f0, f1, f2, f3, f4, f5, f6, f7, f8, f9, m⟩ = true then TupE ⟨f0, f1, f2, f3, f4, f5, f6, f7, f8, f9, m⟩ 0 else TupE zE 2) := by
 obtain ⟨b, hb, hbs⟩ := bytes_ev f0 f1 f2 f3 f4 f5 f6 f7 f8 f9 0
 obtain ⟨s, hs, h0, h1⟩ := sign_ev q1 b hbs
 have hve := validR_ev f0 f1 f2 f3 f4 f5 f6 f7 f8 f9 s.1
 refine ⟨s.1, h0, h1, ?_⟩
 generalize validR ⟨f0, f1, f2, f3, f4, f5, f6, f7, f8, f9, s.1⟩ = ok at hve ⊢
 have hv : stepV f0 f1 f2 f3 f4 f5 f6 f7 f8 f9 s.1 ok = some (if ok = true then TupE ⟨f0, f1, f2, f3, f4, f5, f6, f7, f8, f9, s.1⟩ 0 else TupE zE 2) := by
  unfold stepV
  split <;> rfl
 generalize (if ok = true then TupE ⟨f0, f1, f2, f3, f4, f5, f6, f7, f8, f9, s.1⟩ 0 else TupE zE 2) = V at hv ⊢
 have h3 : Ev (fun k => (ref15_Valid.f k f0 f1 f2 f3 f4 f5 f6 f7 f8 f9 s.1).bind (stepV f0 f1 f2 f3 f4 f5 f6 f7 f8 f9 s.1)) V := Ev.bind hve (f := fun _ => stepV f0 f1 f2 f3 f4 f5 f6 f7 f8 f9 s.1) (Ev.congr (fun _ => hv) (Ev.now V))
 have h2 : Ev (fun k => (ref14_Sign.f k q1 b).bind fun bt => (ref15_Valid.f k f0 f1 f2 f3 f4 f5 f6 f7 f8 f9 bt.1).bind (stepV f0 f1 f2 f3 f4 f5 f6 f7 f8 f9 bt.1)) V := by
  obtain ⟨K1, hK1⟩ := hs
  obtain ⟨K3, hK3⟩ := h3
  refine ⟨max K1 K3, fun k hk => ?_⟩
  show (ref14_Sign.f k q1 b).bind _ = _
  rw [show ref14_Sign.f k q1 b = some s from hK1 k (by omega), Option.bind_some]
  exact hK3 k (by omega)
 obtain ⟨K1, hK1⟩ := hb
 obtain ⟨K2, hK2⟩ := h2
 refine ⟨max K1 K2 + 1, fun k hk => ?_⟩
 obtain ⟨k, rfl⟩ : ∃ j, k = j + 1 := ⟨k - 1, by omega⟩
 show ref15_Next.j2 (k + 1) q0 q1 f0 f1 f2 f3 f4 f5 f6 f7 f8 f9 0 = _
 rw [ref15_Next.j2, show ref15_Bytes.f k f0 f1 f2 f3 f4 f5 f6 f7 f8 f9 0 = some b from hK1 k (by omega), Option.bind_some]
 exact hK2 k (by omega)
theorem last_is {l : List S51} (h : 0 < l.length) (hl : l.length ≤ 1000000) : rd_T51 l (wrap64 ((l.length : Int) - 1)) = l[l.length - 1] := by
 rw [w64 (by omega) (by omega), show ((l.length : Int) - 1) = ((l.length - 1 : Nat) : Int) by omega, ← rd_is]
theorem next_loop {l : List S51} (hl : l.length < 256) (p0 p1 tt tick kind a b c d : Int) : ∀ (m i : Nat), i + m = l.length → (∀ (j : Nat) (h : j < l.length), j < i → l[j].f0 = p0 ∧ l[j].f1 = tt) →
 ∃ (x : S51) (e : Int), Ev (fun k => ref15_Next.l0 k l tt tick kind a b c d l (l.length : Int) (i : Int) p0 p1) (TupE x e) ∧ (e = 0 → NextOk l p0 tt tick kind a b c d x)
 | 0, i, hm, hs => by
  have hsame : ∀ y ∈ l, y.f0 = p0 ∧ y.f1 = tt := fun y hy => by
   obtain ⟨j, hj, rfl⟩ := List.getElem_of_mem hy
   exact hs j hj (by omega)
  by_cases h0 : 0 < l.length
  ·have hw : wrap64 ((l.length : Int) - 1) = ((l.length - 1 : Nat) : Int) := by rw [w64 (by omega) (by omega)]; omega
   have hla := last_is h0 (by omega)
   by_cases c1 : tick < l[l.length - 1].f4
   ·refine ⟨zE, 22, Ev.step (fun k => ?_) (Ev.now _), fun h => by cases h⟩
    rw [ref15_Next.l0, if_neg (by omega), if_pos (by omega), hla, hw, if_pos (by omega), if_pos (by omega), if_pos c1]
    rfl
   ·obtain ⟨by_, hb, hbs⟩ := bytes_ev l[l.length - 1].f0 l[l.length - 1].f1 l[l.length - 1].f2 l[l.length - 1].f3 l[l.length - 1].f4 l[l.length - 1].f5 l[l.length - 1].f6 l[l.length - 1].f7 l[l.length - 1].f8 l[l.length - 1].f9 l[l.length - 1].f10
    obtain ⟨s, hss, hs0, hs1⟩ := sum_ev by_ (by omega)
    obtain ⟨mk, hm0, hm1, hj⟩ := next_j2 p0 p1 p0 tt (wrap64 ((l.length : Int) + 1)) s tick kind a b c d
    have hall := Ev.bind hb (f := fun k t230 => (ref02_Sum.f k t230).bind fun t231 => (ref15_Next.j2 k p0 p1 p0 tt (wrap64 ((l.length : Int) + 1)) t231 tick kind a b c d 0)) (Ev.bind hss (f := fun k t231 => (ref15_Next.j2 k p0 p1 p0 tt (wrap64 ((l.length : Int) + 1)) t231 tick kind a b c d 0)) hj)
    have hgo : ∀ k, ref15_Next.l0 (k + 1) l tt tick kind a b c d l (l.length : Int) (i : Int) p0 p1 = ((ref15_Bytes.f k l[l.length - 1].f0 l[l.length - 1].f1 l[l.length - 1].f2 l[l.length - 1].f3 l[l.length - 1].f4 l[l.length - 1].f5 l[l.length - 1].f6 l[l.length - 1].f7 l[l.length - 1].f8 l[l.length - 1].f9 l[l.length - 1].f10).bind fun t230 => (ref02_Sum.f k t230).bind fun t231 => (ref15_Next.j2 k p0 p1 p0 tt (wrap64 ((l.length : Int) + 1)) t231 tick kind a b c d 0)) := fun k => by
     rw [ref15_Next.l0, if_neg (by omega), if_pos (by omega), hla, hw, if_pos (by omega), if_pos (by omega), if_neg c1]
    by_cases cv : validR ⟨p0, tt, wrap64 ((l.length : Int) + 1), s, tick, kind, a, b, c, d, mk⟩ = true
    ·rw [if_pos cv] at hall
     refine ⟨⟨p0, tt, wrap64 ((l.length : Int) + 1), s, tick, kind, a, b, c, d, mk⟩, 0, Ev.step hgo hall, fun _ => ⟨cv, rfl, rfl, w64 (by omega) (by omega), rfl, rfl, rfl, rfl, rfl, rfl, hl, hsame, fun _ => by omega⟩⟩
    ·rw [if_neg cv] at hall
     exact ⟨zE, 2, Ev.step hgo hall, fun h => by cases h⟩
  ·obtain ⟨mk, hm0, hm1, hj⟩ := next_j2 p0 p1 p0 tt (wrap64 ((l.length : Int) + 1)) 0 tick kind a b c d
   have hgo : ∀ k, ref15_Next.l0 (k + 1) l tt tick kind a b c d l (l.length : Int) (i : Int) p0 p1 = ref15_Next.j2 k p0 p1 p0 tt (wrap64 ((l.length : Int) + 1)) 0 tick kind a b c d 0 := fun k => by
    rw [ref15_Next.l0, if_neg (by omega), if_neg (by omega)]
   by_cases cv : validR ⟨p0, tt, wrap64 ((l.length : Int) + 1), 0, tick, kind, a, b, c, d, mk⟩ = true
   ·rw [if_pos cv] at hj
    refine ⟨⟨p0, tt, wrap64 ((l.length : Int) + 1), 0, tick, kind, a, b, c, d, mk⟩, 0, Ev.step hgo hj, fun _ => ⟨cv, rfl, rfl, w64 (by omega) (by omega), rfl, rfl, rfl, rfl, rfl, rfl, hl, hsame, fun h => absurd h h0⟩⟩
   ·rw [if_neg cv] at hj
    exact ⟨zE, 2, Ev.step hgo hj, fun h => by cases h⟩
 | m + 1, i, hm, hs => by
  have hi : i < l.length := by omega
  have hrd := rd_is hi
  by_cases c0 : l[i].f0 = p0
  ·by_cases c1 : l[i].f1 = tt
   ·obtain ⟨x, e, hx, hok⟩ := next_loop hl p0 p1 tt tick kind a b c d m (i + 1) (by omega) (fun j h hj => by
     by_cases e : j = i
     ·subst e; exact ⟨c0, c1⟩
     ·exact hs j h (by omega))
    refine ⟨x, e, Ev.step (fun k => ?_) hx, hok⟩
    rw [ref15_Next.l0, if_pos (by omega), if_pos (by omega), if_pos (by omega), ← hrd, if_pos c0, if_pos c1, w64 (by omega) (by omega)]
    rfl
   ·refine ⟨zE, 16, Ev.step (fun k => ?_) (Ev.now _), fun h => by cases h⟩
    rw [ref15_Next.l0, if_pos (by omega), if_pos (by omega), if_pos (by omega), ← hrd, if_pos c0, if_neg c1]
    rfl
  ·refine ⟨zE, 16, Ev.step (fun k => ?_) (Ev.now _), fun h => by cases h⟩
   rw [ref15_Next.l0, if_pos (by omega), if_pos (by omega), if_pos (by omega), ← hrd, if_neg c0]
   rfl
theorem next_ev (l : List S51) (p0 p1 tt tick kind a b c d : Int) : ∃ (x : S51) (e : Int), Ev (fun k => ref15_Next.f k l p0 p1 tt tick kind a b c d) (TupE x e) ∧ (e = 0 → NextOk l p0 tt tick kind a b c d x) := by
 have hj : ∀ bad : Bool, ∃ (x : S51) (e : Int), Ev (fun k => ref15_Next.j0 k l tt tick kind a b c d bad p0 p1) (TupE x e) ∧ (e = 0 → NextOk l p0 tt tick kind a b c d x) := fun bad => by
  by_cases cb : bad = true
  ·refine ⟨zE, 1, Ev.step (fun k => ?_) (Ev.now _), fun h => by cases h⟩
   rw [ref15_Next.j0, if_pos cb]
   rfl
  ·by_cases cl : (l.length : Int) ≥ 256
   ·refine ⟨zE, 4, Ev.step (fun k => ?_) (Ev.now _), fun h => by cases h⟩
    rw [ref15_Next.j0, if_neg cb, if_pos cl]
    rfl
   ·obtain ⟨x, e, hx, hok⟩ := next_loop (l := l) (by omega) p0 p1 tt tick kind a b c d l.length 0 (by omega) (fun j h hj => by omega)
    refine ⟨x, e, Ev.step (fun k => ?_) hx, hok⟩
    rw [ref15_Next.j0, if_neg cb, if_neg cl]
    rfl
 unfold ref15_Next.f
 simp only [r15_in, Option.bind_some]
 by_cases c1 : (decide (1 ≤ p0) && decide (p0 ≤ 2147483646)) = true
 ·simp only [c1, if_true]
  exact hj _
 ·simp only [c1, if_false]
  exact hj _
end Go.Proofs.YtcgpbmafkgbbdaaDoor.PS
