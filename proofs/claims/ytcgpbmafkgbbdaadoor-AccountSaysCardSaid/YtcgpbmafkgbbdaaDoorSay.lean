/- What a deck says next of a chain, and the chains that it makes: each is right; a grant's tick lies behind all that any chain says of its slot. -/
import Derived.Test.YtcgpbmafkgbbdaaDoorCh
import Derived.Test.YtcgpbmafkgbbdaaDoorPSx0
import Derived.Test.YtcgpbmafkgbbdaaDoorPSx25
import Derived.Test.YtcgpbmafkgbbdaaDoorPSx13
import Derived.Test.YtcgpbmafkgbbdaaDoorPSx41
import Derived.Test.YtcgpbmafkgbbdaaDoorPSx43
set_option linter.unusedVariables false
set_option linter.unusedSimpArgs false
namespace Go.Proofs.YtcgpbmafkgbbdaaDoor.PS
open Go.RowKit Go.Proofs.YtcgpbmafkgbbdaaDoor.Pure Go.Proofs.YtcgpbmafkgbbdaaDoorW.PrintWords Go.Proofs.YtcgpbmafkgbbdaaDoorW.PrintLast Go.Proofs.YtcgpbmafkgbbdaaDoorW.PrintMore
structure SayOk (ls : List (List S51)) (l : List S51) (p0 tt t : Int) (x : S51) : Prop where
 nx : NextOk l p0 tt t x.f5 x.f6 x.f7 x.f8 x.f9 x
 fits : ((stF l).sayS x).isSome = true
 free : x.f5 = 1 → untO x.f6 ls < t
 d9 : x.f9 ≤ 9223372036854775807
 bal : x.f5 = 6 → x.f6 = zSum (stF l) t 64
abbrev TupS (x : S51) (ok : Bool) (q : Int) : Int × Int × Int × Int × Int × Int × Int × Int × Int × Int × Int × Bool × Int := (x.f0, x.f1, x.f2, x.f3, x.f4, x.f5, x.f6, x.f7, x.f8, x.f9, x.f10, ok, q)
def SayEnd (L : List Int) (ls : List (List S51)) (l : List S51) (p0 tt t : Int) (g : Nat → Option (Int × Int × Int × Int × Int × Int × Int × Int × Int × Int × Int × Bool × Int)) : Prop :=
 ∃ (x : S51) (ok : Bool) (q : Int), Ev g (TupS x ok q) ∧ DeckOk L q ∧ (ok = true → SayOk ls l p0 tt t x)
theorem SayEnd.none {L : List Int} {ls : List (List S51)} {l : List S51} {p0 tt t q : Int} (hq : DeckOk L q) : SayEnd L ls l p0 tt t (fun _ => some (0, 0, 0, 0, 0, 0, 0, 0, 0, 0, 0, ((2 : Int) == 0), q)) :=
 ⟨zE, false, q, Ev.now _, hq, fun h => by cases h⟩
theorem NextOk.self {l : List S51} {p0 tt t kind a b c d : Int} {x : S51} (h : NextOk l p0 tt t kind a b c d x) : NextOk l p0 tt t x.f5 x.f6 x.f7 x.f8 x.f9 x :=
 ⟨h.v, h.f0, h.f1, h.f2, h.f4, rfl, rfl, rfl, rfl, rfl, h.len, h.same, h.last⟩
theorem SayEnd.next {L : List Int} {ls : List (List S51)} {l : List S51} {p0 p1 tt t q kind a b c d : Int} (hq : DeckOk L q) (h9 : d ≤ 9223372036854775807)
 (hf : ∀ x, NextOk l p0 tt t kind a b c d x → ((stF l).sayS x).isSome = true ∧ (kind = 1 → untO a ls < t) ∧ (kind = 6 → a = zSum (stF l) t 64)) :
 SayEnd L ls l p0 tt t (fun k => (ref15_Next.f k l p0 p1 tt t kind a b c d).bind fun bt => some (bt.1, bt.2.1, bt.2.2.1, bt.2.2.2.1, bt.2.2.2.2.1, bt.2.2.2.2.2.1, bt.2.2.2.2.2.2.1, bt.2.2.2.2.2.2.2.1, bt.2.2.2.2.2.2.2.2.1, bt.2.2.2.2.2.2.2.2.2.1, bt.2.2.2.2.2.2.2.2.2.2.1, (bt.2.2.2.2.2.2.2.2.2.2.2 == 0), q)) := by
 obtain ⟨x, e, hx, hok⟩ := next_ev l p0 p1 tt t kind a b c d
 refine ⟨x, e == 0, q, ?_, hq, fun h => ?_⟩
 ·obtain ⟨K, hK⟩ := hx
  refine ⟨K, fun k hk => ?_⟩
  show (ref15_Next.f k l p0 p1 tt t kind a b c d).bind _ = _
  rw [show ref15_Next.f k l p0 p1 tt t kind a b c d = some (TupE x e) from hK k hk, Option.bind_some]
 ·have hn := hok (beq_iff_eq.mp h)
  obtain ⟨h1, h2, h4⟩ := hf x hn
  exact ⟨hn.self, h1, fun h3 => by rw [hn.f6]; exact h2 (by rw [← hn.f5]; exact h3), by rw [hn.f9]; exact h9, fun h3 => by rw [hn.f6]; exact h4 (by rw [← hn.f5]; exact h3)⟩
theorem SayEnd.bind {α : Type} {L : List Int} {ls : List (List S51)} {l : List S51} {p0 tt t : Int} {g : Nat → Option α} {F : Nat → α → Option (Int × Int × Int × Int × Int × Int × Int × Int × Int × Int × Int × Bool × Int)} {a : α} (ha : Ev g a) (hb : SayEnd L ls l p0 tt t (fun k => F k a)) : SayEnd L ls l p0 tt t (fun k => (g k).bind (F k)) := by
 obtain ⟨x, ok, q, h1, h2, h3⟩ := hb
 exact ⟨x, ok, q, Ev.bind ha h1, h2, h3⟩
theorem SayEnd.congr {L : List Int} {ls : List (List S51)} {l : List S51} {p0 tt t : Int} {g f : Nat → Option (Int × Int × Int × Int × Int × Int × Int × Int × Int × Int × Int × Bool × Int)} (e : ∀ k, g k = f k) (h : SayEnd L ls l p0 tt t f) : SayEnd L ls l p0 tt t g := by
 obtain ⟨x, ok, q, h1, h2, h3⟩ := h
 exact ⟨x, ok, q, Ev.congr e h1, h2, h3⟩
theorem SayEnd.succ {L : List Int} {ls : List (List S51)} {l : List S51} {p0 tt t : Int} {g : Nat → Option (Int × Int × Int × Int × Int × Int × Int × Int × Int × Int × Int × Bool × Int)} (h : SayEnd L ls l p0 tt t (fun k => g (k + 1))) : SayEnd L ls l p0 tt t g := by
 obtain ⟨x, ok, q, h1, h2, h3⟩ := h
 exact ⟨x, ok, q, Ev.succ h1, h2, h3⟩
theorem deck_ev {L : List Int} {p v q : Int} {n : Int} (h : make_Deck_Next.f L p n = some (v, q)) : Ev (fun _ => make_Deck_Next.f L p n) (v, q) := Ev.congr (fun _ => h) (Ev.now _)
theorem fits_grant {p0 tt : Int} {l : List S51} {t n : Int} (h : RC p0 tt l t) {ls : List (List S51)} (hm : l ∈ ls) (hn : 0 ≤ n ∧ n < 64) (hu : untO n ls < t) {b c d : Int} {x : S51} (hx : NextOk l p0 tt t 1 n b c d x) (h0 : 0 ≤ t) : ((stF l).sayS x).isSome = true := by
 have hunt : (stF l).unt n.toNat = -1 ∨ ∃ y ∈ l, isTerm y = true ∧ y.f6 = n ∧ y.f9 = (stF l).unt n.toNat := by
  have : ∀ i, i ≤ l.length → (stF (l.take i)).unt n.toNat = -1 ∨ ∃ y ∈ l, isTerm y = true ∧ y.f6 = n ∧ y.f9 = (stF (l.take i)).unt n.toNat := by
   intro i
   induction i with
   | zero =>
    intro _
    rw [List.take_zero]
    rcases (SInv.zero 0).at_ n.toNat (by omega) with ⟨_, h2⟩ | ⟨_, h2, _⟩
    ·exact .inl h2
    ·left
     show St.zero.unt n.toNat = -1
     unfold St.unt St.zero stI unI
     rw [List.getD_eq_getElem?_getD, List.getElem?_append_left (by simp; omega), List.getElem?_replicate, if_pos (by omega)]
     rfl
   | succ i ih =>
    intro hi
    have hin := h.inv i (by omega)
    have hv := h.val _ (List.getElem_mem (show i < l.length from hi))
    obtain ⟨s', hs'⟩ := Option.isSome_iff_exists.mp (h.say i hi)
    rw [List.take_succ_eq_append_getElem hi, stF_snoc, hs', Option.getD_some]
    obtain ⟨hok, hsd, hj⟩ := said hin.ok (valid_ok hv) hs'
    have hkp := (valid_ok hv).kind
    by_cases e : n.toNat = l[i].f6.toNat
    ·rcases hsd with ⟨e1, h1, o, l1, u⟩ | ⟨e1, f, h1, o, l1, u⟩ | ⟨e1, f, o, l1, u⟩ | ⟨e1, f, h1, z, o, l1, u⟩ | ⟨e1, h1⟩
     ·refine .inr ⟨l[i], List.getElem_mem _, ?_, ?_, by rw [e, u]⟩
      ·unfold isTerm
       rw [hv, e1]
       rfl
      ·unfold KindP at hkp
       omega
     ·refine .inr ⟨l[i], List.getElem_mem _, ?_, ?_, by rw [e, u]⟩
      ·unfold isTerm
       rw [hv, e1]
       rfl
      ·unfold KindP at hkp
       omega
     ·rw [e, u, ← e]
      exact ih (by omega)
     ·rw [e, u, ← e]
      exact ih (by omega)
     ·rw [h1]
      exact ih (by omega)
    ·rw [(hj _ e).2.2]
     exact ih (by omega)
  have := this l.length (Nat.le_refl _)
  rwa [List.take_length] at this
 have hlt : (stF l).unt n.toNat < t := by
  rcases hunt with h1 | ⟨y, hy, h1, h2, h3⟩
  ·omega
  ·have := untO_mem n hm hy h1 h2
   omega
 unfold St.sayS
 rw [if_pos hx.f5, hx.f6, hx.f4, if_neg (by omega)]
 rfl
theorem fits_got {l : List S51} {p0 tt t n b c d : Int} {x : S51} (hf : (stF l).force n.toNat t = true) (hb : ((stF l).le n.toNat).h = b) (hc : ((stF l).le n.toNat).z = c) (hx : NextOk l p0 tt t 4 n b c d x) : ((stF l).sayS x).isSome = true := by
 unfold St.sayS
 rw [hx.f5, hx.f6, hx.f4, hx.f7, hx.f8, if_neg (by decide), if_neg (by decide), if_neg (by decide), if_pos rfl, if_pos hf, if_pos hb, if_pos hc]
 rfl
theorem fits_renew {l : List S51} {p0 tt t n b c d : Int} {x : S51} (hf : (stF l).force n.toNat t = true) (hd : (stF l).unt n.toNat < d) (hx : NextOk l p0 tt t 2 n b c d x) : ((stF l).sayS x).isSome = true := by
 unfold St.sayS
 rw [hx.f5, hx.f6, hx.f4, hx.f9, if_neg (by decide), if_pos rfl, if_pos hf, if_neg (by omega)]
 rfl
theorem fits_stop {l : List S51} {p0 tt t n b c d kind : Int} {x : S51} (hk : kind = 3 ∨ kind = 5) (hf : (stF l).force n.toNat t = true) (hx : NextOk l p0 tt t kind n b c d x) : ((stF l).sayS x).isSome = true := by
 unfold St.sayS
 rw [hx.f5, hx.f6, hx.f4, if_neg (by omega), if_neg (by omega), if_pos hk, if_pos hf]
 rfl
theorem fits_rest {l : List S51} {p0 tt t n b c d kind : Int} {x : S51} (hk : 6 ≤ kind) (hx : NextOk l p0 tt t kind n b c d x) : ((stF l).sayS x).isSome = true := by
 rw [sayS_rest (by rw [hx.f5]; omega)]
 rfl
theorem say_ev {L : List Int} {q : Int} (hq : DeckOk L q) {p0 p1 tt : Int} {l : List S51} {t : Int} (h : RC p0 tt l t) {ls : List (List S51)} (hm : l ∈ ls) (hl : ∀ m ∈ ls, m.length ≤ 100000) (hls : ls.length ≤ 100000) (h0 : 0 ≤ t) (h1 : t ≤ 1000000) :
 SayEnd L ls l p0 tt t (fun k => make_Say.f k L q l ls p0 p1 tt t) := by
 obtain ⟨v1, q1, e1, hv1, hv1', hq1, _, _⟩ := next_some hq 3 (by decide) (by decide)
 obtain ⟨y, ok, hy, hyes, hno⟩ := at_ev h h0 (by omega) v1 hv1 (by omega)
 obtain ⟨v2, q2, e2, hv2, hv2', hq2, _, _⟩ := next_some hq1 8 (by decide) (by decide)
 have hin := h.inv_all
 -- the choice
 have hj : ∀ b : Bool, (b = true ↔ v2 = 0 ∨ v2 = 1) → SayEnd L ls l p0 tt t (fun k => make_Say.j0 k l ls tt t v1 ok 2 v2 b L q2 p0 p1 y.f0 y.f1 y.f2 y.f3 y.f4 y.f5 y.f6 y.f7 0 0 0 0 0 0 0 0 0 0 0) := by
  intro b hb
  refine SayEnd.succ ?_
  by_cases c0 : b = true
  ·obtain ⟨n, fr, hfr, hfree⟩ := free_ev hl hls t
   refine SayEnd.congr (fun k => by rw [make_Say.j0, if_pos c0]) ?_
   refine SayEnd.bind hfr ?_
   by_cases c1 : fr = true
   ·obtain ⟨g0, g1, g2⟩ := hfree c1
    obtain ⟨v3, q3, e3, hv3, hv3', hq3, _, _⟩ := next_some hq2 100 (by decide) (by decide)
    obtain ⟨v4, q4, e4, hv4, hv4', hq4, _, _⟩ := next_some hq3 900 (by decide) (by decide)
    obtain ⟨v5, q5, e5, hv5, hv5', hq5, _, _⟩ := next_some hq4 9 (by decide) (by decide)
    refine SayEnd.congr (fun k => by rw [if_pos c1]) ?_
    refine SayEnd.bind (deck_ev e3) ?_
    refine SayEnd.bind (deck_ev e4) ?_
    refine SayEnd.bind (deck_ev e5) ?_
    refine SayEnd.next hq5 ?_ fun x hx => ⟨fits_grant h hm ⟨g0, by omega⟩ g2 hx h0, fun _ => g2, fun h => by cases h⟩
    show wrap64 (wrap64 (t + 1) + v5) ≤ _
    unfold wrap64
    omega
   ·exact SayEnd.congr (fun k => by rw [if_neg c1]) (SayEnd.none hq2)
  have hv2n : v2 ≠ 0 ∧ v2 ≠ 1 := by
   constructor <;> (intro e; exact c0 (hb.mpr (by omega)))
  by_cases c2 : v2 = 2
  ·by_cases cok : ok = true
   ·obtain ⟨hf, rfl⟩ := hyes cok
    refine SayEnd.congr (fun k => by rw [make_Say.j0, if_neg c0, if_pos c2, if_pos cok]) ?_
    exact SayEnd.next hq2 (by decide) fun x hx => ⟨fits_got hf rfl rfl hx, (fun h => by cases h), fun h => by cases h⟩
   ·exact SayEnd.congr (fun k => by rw [make_Say.j0, if_neg c0, if_pos c2, if_neg cok]) (SayEnd.none hq2)
  by_cases c3 : v2 = 3
  ·by_cases cok : ok = true
   ·obtain ⟨hf, rfl⟩ := hyes cok
    obtain ⟨v3, q3, e3, hv3, hv3', hq3, _, _⟩ := next_some hq2 6 (by decide) (by decide)
    have hfo := hin.force (k := v1.toNat) (by omega) hf
    refine SayEnd.congr (fun k => by rw [make_Say.j0, if_neg c0, if_neg c2, if_pos c3, if_pos cok]) ?_
    refine SayEnd.bind (deck_ev e3) ?_
    refine SayEnd.next hq3 (by show wrap64 _ ≤ _; unfold wrap64; omega) fun x hx => ?_
    -- a renewal that overflows is not valid
    have hkp := (valid_ok hx.v).kind
    have hk4 := (valid_ok hx.v).f4
    have hu : (stF l).unt v1.toNat < x.f9 := by
     have htop := hin.top v1.toNat (by omega)
     rw [hx.f9]
     show _ < wrap64 (wrap64 (mx ((stF l).le v1.toNat).un t + 1) + v3)
     have hmx := mx_ge ((stF l).le v1.toNat).un t
     have e := hfo.2.2.1
     have hb : mx ((stF l).le v1.toNat).un t ≤ 1048576 := by omega
     have hb2 := hfo.2.2.2.1
     generalize mx ((stF l).le v1.toNat).un t = m at hmx hb
     rw [w64 (n := m + 1) (by omega) (by omega), w64 (by omega) (by omega)]
     omega
    exact ⟨fits_renew hf (by rw [← hx.f9]; exact hu) hx, (fun h => by cases h), fun h => by cases h⟩
   ·exact SayEnd.congr (fun k => by rw [make_Say.j0, if_neg c0, if_neg c2, if_pos c3, if_neg cok]) (SayEnd.none hq2)
  by_cases c4 : v2 = 4
  ·by_cases cok : ok = true
   ·obtain ⟨hf, rfl⟩ := hyes cok
    obtain ⟨v3, q3, e3, hv3, hv3', hq3, _, _⟩ := next_some hq2 2 (by decide) (by decide)
    refine SayEnd.congr (fun k => by rw [make_Say.j0, if_neg c0, if_neg c2, if_neg c3, if_pos c4, if_pos cok]) ?_
    refine SayEnd.bind (deck_ev e3) ?_
    refine SayEnd.next hq3 (by decide) fun x hx => ?_
    have e : wrap64 (3 + wrap64 (2 * v3)) = 3 ∨ wrap64 (3 + wrap64 (2 * v3)) = 5 := by
     rw [w64 (n := 2 * v3) (by omega) (by omega), w64 (by omega) (by omega)]
     omega
    exact ⟨fits_stop e hf hx, (fun h => by have h : wrap64 (3 + wrap64 (2 * v3)) = 1 := h; omega), fun h => by have h : wrap64 (3 + wrap64 (2 * v3)) = 6 := h; omega⟩
   ·exact SayEnd.congr (fun k => by rw [make_Say.j0, if_neg c0, if_neg c2, if_neg c3, if_pos c4, if_neg cok]) (SayEnd.none hq2)
  by_cases c5 : v2 = 5
  ·obtain ⟨v3, q3, e3, hv3, hv3', hq3, _, _⟩ := next_some hq2 900 (by decide) (by decide)
   obtain ⟨v4, q4, e4, hv4, hv4', hq4, _, _⟩ := next_some hq3 9 (by decide) (by decide)
   refine SayEnd.congr (fun k => by rw [make_Say.j0, if_neg c0, if_neg c2, if_neg c3, if_neg c4, if_pos c5]) ?_
   refine SayEnd.bind (rkept_ev h h0 (by omega)) ?_
   refine SayEnd.congr (fun k => by rw [if_pos rfl]) ?_
   refine SayEnd.bind (deck_ev e3) ?_
   refine SayEnd.bind (deck_ev e4) ?_
   exact SayEnd.next hq4 (by decide) fun x hx => ⟨fits_rest (by decide) hx, (fun h => by cases h), fun _ => rfl⟩
  ·obtain ⟨v3, q3, e3, hv3, hv3', hq3, _, _⟩ := next_some hq2 100 (by decide) (by decide)
   obtain ⟨v4, q4, e4, hv4, hv4', hq4, _, _⟩ := next_some hq3 9 (by decide) (by decide)
   obtain ⟨v5, q5, e5, hv5, hv5', hq5, _, _⟩ := next_some hq4 40 (by decide) (by decide)
   refine SayEnd.congr (fun k => by rw [make_Say.j0, if_neg c0, if_neg c2, if_neg c3, if_neg c4, if_neg c5]) ?_
   refine SayEnd.bind (deck_ev e3) ?_
   refine SayEnd.bind (deck_ev e4) ?_
   refine SayEnd.bind (deck_ev e5) ?_
   refine SayEnd.next hq5 ?_ fun x hx => ⟨fits_rest (by decide) hx, (fun h => by cases h), fun h => by cases h⟩
   show wrap64 (wrap64 (3 * v5) + 1) ≤ _
   unfold wrap64
   omega
 refine SayEnd.congr (fun k => rfl) ?_
 refine SayEnd.bind (deck_ev e1) ?_
 refine SayEnd.bind hy ?_
 refine SayEnd.bind (deck_ev e2) ?_
 by_cases c : v2 = 0
 ·exact SayEnd.congr (fun k => by rw [if_pos c]) (hj (v2 == 0) (by rw [beq_iff_eq]; omega))
 ·exact SayEnd.congr (fun k => by rw [if_neg c]) (hj (v2 == 1) (by rw [beq_iff_eq]; omega))
def toOf (p0 : Int) (i : Nat) : Int := if (i : Int) + 1 ≥ p0 then (i : Int) + 2 else (i : Int) + 1
structure CH (p0 : Int) (n : Nat) (ls : List (List S51)) (t : Int) : Prop where
 len : ls.length = n
 rc : ∀ (i : Nat) (h : i < ls.length), RC p0 (toOf p0 i) ls[i] t
theorem CH.later {p0 : Int} {n : Nat} {ls : List (List S51)} {t t' : Int} (h : CH p0 n ls t) (ht : t ≤ t') : CH p0 n ls t' := ⟨h.len, fun i hi => (h.rc i hi).later ht⟩
theorem CH.set {p0 : Int} {n : Nat} {ls : List (List S51)} {t : Int} (h : CH p0 n ls t) {i : Nat} (hi : i < ls.length) {x : S51} (hx : SayOk ls ls[i] p0 (toOf p0 i) t x) : CH p0 n (ls.set i (ls[i] ++ [x])) t := by
 refine ⟨by rw [List.length_set]; exact h.len, fun j hj => ?_⟩
 rw [List.length_set] at hj
 rw [List.getElem_set]
 split
 ·rename_i e
  subst e
  exact (h.rc _ hi).snoc hx.nx hx.fits hx.d9
 ·exact h.rc j hj
theorem CH.short {p0 : Int} {n : Nat} {ls : List (List S51)} {t : Int} (h : CH p0 n ls t) : ∀ m ∈ ls, m.length ≤ 100000 := by
 intro m hm
 obtain ⟨i, hi, rfl⟩ := List.getElem_of_mem hm
 have := (h.rc i hi).len
 omega
theorem w_add {a b : Int} (ha : 0 ≤ a) (ha2 : a ≤ 2000000) (hb : 0 ≤ b) (hb2 : b ≤ 2000000) : wrap64 (a + b) = a + b := w64 (by omega) (by omega)
theorem w_succ (m : Nat) (hm : m ≤ 2000000) : wrap64 (((m + 1 : Nat) : Int) - 1) = (m : Int) := by rw [w64 (by omega) (by omega)]; omega
theorem w_two (i : Nat) (hm : i ≤ 2000000) : wrap64 ((i : Int) + 1 + 1) = (i : Int) + 2 := by rw [w64 (by omega) (by omega)]; omega
abbrev ChRes := List (List S51) × Int × Int
theorem chains_loop {L : List Int} {p0 p1 : Int} {n : Nat} (hn : 1 ≤ n) (hn2 : n ≤ 1000) (P : List (List S51) → Int → Prop) (hup : ∀ ls t t', P ls t → t ≤ t' → P ls t')
 (hst : ∀ ls t (i : Nat) (x : S51) (hi : i < ls.length), CH p0 n ls t → P ls t → 0 ≤ t → SayOk ls ls[i] p0 (toOf p0 i) t x → P (ls.set i (ls[i] ++ [x])) t) (hp0 : 1 ≤ p0) (hp1 : p0 ≤ 1000) :
 ∀ (m : Nat) (q t : Int) (ls : List (List S51)), DeckOk L q → CH p0 n ls t → P ls t → 0 ≤ t → t + 2 * m ≤ 1000000 →
 ∃ ls' t' q', Ev (fun k => make_Chains.l0 k (n : Int) ls t (m : Int) L q p0 p1) ((ls', t', q') : ChRes) ∧ CH p0 n ls' t' ∧ P ls' t' ∧ DeckOk L q' ∧ t ≤ t' ∧ t' ≤ t + 2 * m
 | 0, q, t, ls, hq, hc, hP, h0, hm => by
  refine ⟨ls, t, q, Ev.step (fun k => ?_) (Ev.now _), hc, hP, hq, by omega, by omega⟩
  rw [make_Chains.l0, if_neg (by omega)]
 | m + 1, q, t, ls, hq, hc, hP, h0, hm => by
  obtain ⟨v, q1, e1, hv, hv', hq1, _, _⟩ := next_some hq (n : Int) (by omega) (by omega)
  obtain ⟨i, rfl⟩ : ∃ i : Nat, v = i := ⟨v.toNat, by omega⟩
  have hi : i < ls.length := by have := hc.len; omega
  obtain ⟨x, ok, q2, hx, hq2, hok⟩ := say_ev (p1 := p1) hq1 (hc.rc i hi) (List.getElem_mem hi) hc.short (by have := hc.len; omega) h0 (by omega)
  obtain ⟨v3, q3, e3, hv3, hv3', hq3, _, _⟩ := next_some hq2 3 (by decide) (by decide)
  have hlen := (hc.rc i hi).len
  have hT : t ≤ 2000000 := by omega
  have hV3 : v3 ≤ 2000000 := by omega
  have hM : m ≤ 2000000 := by omega
  have hI : i ≤ 2000000 := by omega
  have hj : ∃ ls' t' q', Ev (fun k => make_Chains.j1 k (n : Int) ls t ((m + 1 : Nat) : Int) (i : Int) (toOf p0 i) L q1 p0 p1) ((ls', t', q') : ChRes) ∧ CH p0 n ls' t' ∧ P ls' t' ∧ DeckOk L q' ∧ t ≤ t' ∧ t' ≤ t + 2 * (m + 1 : Nat) := by
   by_cases c : ok = true
   ·have hsy := hok c
    obtain ⟨ls', t', q', h1, h2, h3, h4, h5, h6⟩ := chains_loop hn hn2 P hup hst hp0 hp1 m q3 (t + v3) (ls.set i (ls[i] ++ [x])) hq3 ((hc.set hi hsy).later (by omega)) (hup _ _ _ (hst ls t i x hi hc hP h0 hsy) (by omega)) (by omega) (by omega)
    refine ⟨ls', t', q', ?_, h2, h3, h4, by omega, by omega⟩
    refine Ev.succ ?_
    refine Ev.congr (fun k => by rw [make_Chains.j1, if_pos (by omega), if_pos (by omega), rdLL hi]) ?_
    refine Ev.bind' (fun k => rfl) hx ?_
    refine Ev.congr (fun k => by rw [if_pos c, if_pos (by omega)]) ?_
    refine Ev.bind' (fun k => rfl) (deck_ev e3) ?_
    refine Ev.congr (fun k => ?_) h1
    rw [w_add h0 hT hv3 hV3, w_succ m hM]
    rfl
   ·obtain ⟨ls', t', q', h1, h2, h3, h4, h5, h6⟩ := chains_loop hn hn2 P hup hst hp0 hp1 m q3 (t + v3) ls hq3 (hc.later (by omega)) (hup _ _ _ hP (by omega)) (by omega) (by omega)
    refine ⟨ls', t', q', ?_, h2, h3, h4, by omega, by omega⟩
    refine Ev.succ ?_
    refine Ev.congr (fun k => by rw [make_Chains.j1, if_pos (by omega), if_pos (by omega), rdLL hi]) ?_
    refine Ev.bind' (fun k => rfl) hx ?_
    refine Ev.congr (fun k => by rw [if_neg c]) ?_
    refine Ev.bind' (fun k => rfl) (deck_ev e3) ?_
    refine Ev.congr (fun k => ?_) h1
    rw [w_add h0 hT hv3 hV3, w_succ m hM]
  obtain ⟨ls', t', q', h1, hrest⟩ := hj
  refine ⟨ls', t', q', ?_, hrest⟩
  refine Ev.succ ?_
  refine Ev.congr (fun k => by rw [make_Chains.l0, if_pos (by omega)]) ?_
  refine Ev.bind' (fun k => rfl) (deck_ev e1) ?_
  have ew : wrap64 ((i : Int) + 1) = (i : Int) + 1 := w_add (by omega) (by omega) (by decide) (by decide)
  have ew2 := w_two i hI
  by_cases c : (i : Int) + 1 ≥ p0
  ·refine Ev.congr (fun k => by rw [ew, if_pos c, ew2]) ?_
   unfold toOf at h1
   rw [if_pos c] at h1
   exact h1
  ·refine Ev.congr (fun k => by rw [ew, if_neg c]) ?_
   unfold toOf at h1
   rw [if_neg c] at h1
   exact h1
theorem chains_ev {L : List Int} {q p0 p1 : Int} (hq : DeckOk L q) {n : Nat} (hn : 1 ≤ n) (hn2 : n ≤ 1000) (hp0 : 1 ≤ p0) (hp1 : p0 ≤ 1000) (P : List (List S51) → Int → Prop) (hup : ∀ ls t t', P ls t → t ≤ t' → P ls t')
 (hst : ∀ ls t (i : Nat) (x : S51) (hi : i < ls.length), CH p0 n ls t → P ls t → 0 ≤ t → SayOk ls ls[i] p0 (toOf p0 i) t x → P (ls.set i (ls[i] ++ [x])) t) (hP : ∀ t, 0 ≤ t → P (List.replicate n []) t) (steps : Nat) (hs : steps ≤ 1000) :
 ∃ ls t q', Ev (fun k => make_Chains.f k L q p0 p1 (n : Int) (steps : Int)) ((ls, t, q') : ChRes) ∧ CH p0 n ls t ∧ P ls t ∧ DeckOk L q' ∧ 0 ≤ t ∧ t ≤ 3 + 2 * steps := by
 obtain ⟨v1, q1, e1, hv1, hv1', hq1, _, _⟩ := next_some hq 4 (by decide) (by decide)
 obtain ⟨v2, q2, e2, hv2, hv2', hq2, _, _⟩ := next_some hq1 ((steps : Int) + 1) (by omega) (by omega)
 obtain ⟨m, rfl⟩ : ∃ m : Nat, v2 = m := ⟨v2.toNat, by omega⟩
 have hc0 : CH p0 n (List.replicate n []) v1 := ⟨List.length_replicate .., fun i hi => by rw [List.getElem_replicate]; exact RC.nil _ _ _⟩
 obtain ⟨ls, t, q', h1, h2, h3, h4, h5, h6⟩ := chains_loop (p1 := p1) hn hn2 P hup hst hp0 hp1 m q2 v1 (List.replicate n []) hq2 hc0 (hP _ hv1) hv1 (by omega)
 refine ⟨ls, t, q', ?_, h2, h3, h4, by omega, by omega⟩
 refine Ev.congr (fun k => by rw [make_Chains.f, if_pos (by omega), if_pos (by omega), w64 (n := (steps : Int) + 1) (by omega) (by omega)]) ?_
 refine Ev.bind' (fun k => rfl) (deck_ev e1) ?_
 refine Ev.bind' (fun k => rfl) (deck_ev e2) ?_
 exact h1
theorem rdP {l : List S49} {i : Nat} (hi : i < l.length) : rd_T49 l (i : Int) = l[i] := by
 unfold rd_T49
 rw [Int.toNat_natCast, List.getD_eq_getElem?_getD, List.getElem?_eq_getElem hi]
 rfl
end Go.Proofs.YtcgpbmafkgbbdaaDoor.PS
