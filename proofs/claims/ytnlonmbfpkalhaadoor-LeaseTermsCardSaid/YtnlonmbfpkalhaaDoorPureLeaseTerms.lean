/- A keeper never has two overlapping terms of one slot in different chains: the plain statement that is left of the law LeaseTerms. -/
import Derived.Test.YtnlonmbfpkalhaaDoorLw
import Derived.Test.YtnlonmbfpkalhaaDoorPMx0
import Derived.Test.YtnlonmbfpkalhaaDoorPMx29
import Derived.Test.YtnlonmbfpkalhaaDoorPMx5
set_option linter.unusedVariables false
set_option linter.unusedSimpArgs false
namespace Go.Proofs.YtnlonmbfpkalhaaDoor.Pure
open Go.RowKit Go.Proofs.YtnlonmbfpkalhaaDoor.PM Go.Proofs.YtnlonmbfpkalhaaDoorW.PrintWords Go.Proofs.YtnlonmbfpkalhaaDoorW.PrintLast
theorem sane_terms : Ev (fun k => law16_sane.f k) true := Ev.of (k := 12) law16_sane.mono (by decide +kernel)
theorem unt_from {p0 tt : Int} {l : List S39} {t : Int} (h : RC p0 tt l t) (n : Int) (hn : 0 ≤ n ∧ n < 64) : ∀ i, i ≤ l.length → (stF (l.take i)).unt n.toNat = -1 ∨ ∃ y ∈ l, isTerm y = true ∧ y.f6 = n ∧ y.f9 = (stF (l.take i)).unt n.toNat := by
 intro i
 induction i with
 | zero =>
  intro _
  left
  rw [List.take_zero]
  show St.zero.unt n.toNat = -1
  unfold St.unt St.zero stI unI
  rw [List.getD_eq_getElem?_getD, List.getElem?_append_left (by simp; omega), List.getElem?_replicate, if_pos (by omega)]
  rfl
 | succ i ih =>
  intro hi
  have hin := h.inv i (by omega)
  have hv := h.val _ (List.getElem_mem (show i < l.length from hi))
  obtain ⟨s', hs'⟩ := Option.isSome_iff_exists.mp (h.say i hi)
  rw [List.take_succ_eq_append_getElem hi, stF_snoc, hs', Option.getD_some]
  obtain ⟨hok, hsd, hj⟩ := said hin.ok (valid_ok hv) hs'
  have hkp := (valid_ok hv).kind
  by_cases e : n.toNat = l[i].f6.toNat
  ·rcases hsd with ⟨e1, h1, o, l1, u⟩ | ⟨e1, f, h1, o, l1, u⟩ | ⟨e1, f, o, l1, u⟩ | ⟨e1, f, h1, z, o, l1, u⟩ | ⟨e1, h1⟩
   ·refine .inr ⟨l[i], List.getElem_mem _, ?_, ?_, by rw [e, u]⟩
    ·unfold isTerm
     rw [hv, e1]
     rfl
    ·unfold KindP at hkp
     omega
   ·refine .inr ⟨l[i], List.getElem_mem _, ?_, ?_, by rw [e, u]⟩
    ·unfold isTerm
     rw [hv, e1]
     rfl
    ·unfold KindP at hkp
     omega
   ·rw [e, u, ← e]
    exact ih (by omega)
   ·rw [e, u, ← e]
    exact ih (by omega)
   ·rw [h1]
    exact ih (by omega)
  ·rw [(hj _ e).2.2]
   exact ih (by omega)
def Apart16 (ls : List (List S39)) : Prop := ∀ (i j : Nat) (hi : i < ls.length) (hj : j < ls.length), i ≠ j → ∀ a ∈ ls[i], ∀ b ∈ ls[j], isTerm a = true → isTerm b = true → a.f6 = b.f6 → a.f9 < b.f4 ∨ b.f9 < a.f4
theorem apart_key {p0 : Int} {n : Nat} {ls : List (List S39)} {t : Int} (hc : CH p0 n ls t) (hP : Apart16 ls) (h0 : 0 ≤ t) {i : Nat} (hi : i < ls.length) {x : S39} (hx : SayOk ls ls[i] p0 (toOf p0 i) t x) {j : Nat} (hj : j < ls.length) (hij : i ≠ j) {b : S39} (hb : b ∈ ls[j]) (tx : isTerm x = true) (tb : isTerm b = true) (e6 : x.f6 = b.f6) : b.f9 < x.f4 := by
 have hv := valid_ok hx.nx.v
 have hkp := hv.kind
 have h4 := hx.nx.f4
 have tx' := tx
 unfold isTerm at tx'
 rw [Bool.and_eq_true, Bool.or_eq_true, beq_iff_eq, beq_iff_eq] at tx'
 rcases tx'.2 with e1 | e2
 ·have hf := hx.free e1
  have := untO_mem x.f6 (List.getElem_mem hj) hb tb e6.symm
  omega
 ·obtain ⟨s', hs'⟩ := Option.isSome_iff_exists.mp hx.fits
  have hin := (hc.rc i hi).inv_all
  obtain ⟨hok, hsd, _⟩ := said hin.ok hv hs'
  have h6 : 0 ≤ x.f6 ∧ x.f6 < 64 := by
   unfold KindP at hkp
   omega
  have hf : (stF ls[i]).force x.f6.toNat x.f4 = true := by
   rcases hsd with ⟨e, _⟩ | ⟨e, f, _⟩ | ⟨e, f, _⟩ | ⟨e, f, _⟩ | ⟨e, _⟩
   ·omega
   ·exact f
   ·exact f
   ·exact f
   ·omega
  have hfo := hin.force (k := x.f6.toNat) (by omega) hf
  rcases unt_from (hc.rc i hi) x.f6 h6 ls[i].length (Nat.le_refl _) with h1 | ⟨y, hy, ty, y6, y9⟩
  ·rw [List.take_length] at h1
   omega
  ·rw [List.take_length] at y9
   have hyu := (hc.rc i hi).up _ hy
   have hbu := (hc.rc j hj).up _ hb
   rcases hP i j hi hj hij y hy b hb ty tb (by rw [y6, e6]) with h | h
   ·omega
   ·omega
theorem apart_step {p0 : Int} {n : Nat} {ls : List (List S39)} {t : Int} (hc : CH p0 n ls t) (hP : Apart16 ls) (h0 : 0 ≤ t) {i : Nat} (hi : i < ls.length) {x : S39} (hx : SayOk ls ls[i] p0 (toOf p0 i) t x) : Apart16 (ls.set i (ls[i] ++ [x])) := by
 intro u v hu hv huv a ha b hb ta tb e6
 have hu' : u < ls.length := by rw [List.length_set] at hu; exact hu
 have hv' : v < ls.length := by rw [List.length_set] at hv; exact hv
 rw [List.getElem_set] at ha hb
 by_cases e1 : i = u
 ·subst e1
  rw [if_pos rfl] at ha
  rw [if_neg huv] at hb
  rcases List.mem_append.mp ha with ha | ha
  ·exact hP i v hi hv' huv a ha b hb ta tb e6
  ·rw [List.mem_singleton] at ha
   subst ha
   exact .inr (apart_key hc hP h0 hi hx hv' huv hb ta tb e6)
 ·rw [if_neg e1] at ha
  by_cases e2 : i = v
  ·subst e2
   rw [if_pos rfl] at hb
   rcases List.mem_append.mp hb with hb | hb
   ·exact hP u i hu' hi huv a ha b hb ta tb e6
   ·rw [List.mem_singleton] at hb
    subst hb
    exact .inl (apart_key hc hP h0 hi hx hu' (Ne.symm huv) ha tb ta e6.symm)
  ·rw [if_neg e2] at hb
   exact hP u v hu' hv' huv a ha b hb ta tb e6
theorem term_of {p0 tt : Int} {l : List S39} {t : Int} (h : RC p0 tt l t) {y : S39} (hy : y ∈ l) (hp : pterm y = true) : isTerm y = true := by
 unfold pterm at hp
 unfold isTerm
 rw [Bool.and_eq_true] at hp
 rw [h.val y hy, hp.1]
 rfl
theorem overlap_no {a b : S39} (h : pterm a = true → pterm b = true → a.f9 < b.f4 ∨ b.f9 < a.f4) : lease_Overlap.f a.f0 a.f1 a.f2 a.f3 a.f4 a.f5 a.f6 a.f7 a.f8 a.f9 a.f10 b.f0 b.f1 b.f2 b.f3 b.f4 b.f5 b.f6 b.f7 b.f8 b.f9 b.f10 = some false := by
 unfold lease_Overlap.f
 rw [pterm_is a, Option.bind_some]
 by_cases c1 : pterm a = true
 ·rw [if_pos c1, pterm_is b, Option.bind_some]
  by_cases c2 : pterm b = true
  ·rw [if_pos c2]
   have := h c1 c2
   congr 1
   rw [decide_eq_false_iff_not]
   unfold mx mn
   split <;> split <;> omega
  ·rw [if_neg c2]
 ·rw [if_neg c1]
section
variable {ls : List (List S39)} {t : Int}
theorem terms_l3 (hlen : ∀ l ∈ ls, l.length ≤ 100000) {l m xs : List S39} {ys : List (List S39)} (i j q : Int) (hm : m.length ≤ 100000) {a : S39} (hno : ∀ b ∈ m, a.f6 = b.f6 → pterm a = true → pterm b = true → a.f9 < b.f4 ∨ b.f9 < a.f4)
 (hnext : Ev (fun k => law16_LeaseTerms.l2 k ls l m ls (ls.length : Int) i ys (ys.length : Int) j xs (xs.length : Int) (wrap64 (q + 1))) true) : ∀ (d s : Nat), s + d = m.length →
 Ev (fun k => law16_LeaseTerms.l3 k ls l m ls (ls.length : Int) i ys (ys.length : Int) j xs (xs.length : Int) q m (m.length : Int) (s : Int) a.f0 a.f1 a.f2 a.f3 a.f4 a.f5 a.f6 a.f7 a.f8 a.f9 a.f10) true
 | 0, s, hd => by
  refine Ev.step (fun k => ?_) hnext
  rw [law16_LeaseTerms.l3, if_neg (by omega)]
 | d + 1, s, hd => by
  have hs : s < m.length := by omega
  have hn := terms_l3 hlen i j q hm hno hnext d (s + 1) (by omega)
  have hw : wrap64 ((s : Int) + 1) = ((s + 1 : Nat) : Int) := by rw [lw64 (by omega) (by omega)]; omega
  refine Ev.step (fun k => ?_) hn
  rw [law16_LeaseTerms.l3, if_pos (by omega), if_pos (by omega), if_pos (by omega), ← rd_is hs, hw]
  by_cases c : a.f6 = m[s].f6
  ·rw [if_pos c, overlap_no (hno _ (List.getElem_mem hs) c), Option.bind_some, if_neg (by decide)]
  ·rw [if_neg c]
theorem terms_l2 (hlen : ∀ l ∈ ls, l.length ≤ 100000) {l m : List S39} {ys : List (List S39)} (i j : Int) (hl : l.length ≤ 100000) (hm : m.length ≤ 100000) (hno : ∀ a ∈ l, ∀ b ∈ m, a.f6 = b.f6 → pterm a = true → pterm b = true → a.f9 < b.f4 ∨ b.f9 < a.f4)
 (hnext : Ev (fun k => law16_LeaseTerms.l1 k ls l ls (ls.length : Int) i ys (ys.length : Int) (wrap64 (j + 1))) true) : ∀ (d q : Nat), q + d = l.length →
 Ev (fun k => law16_LeaseTerms.l2 k ls l m ls (ls.length : Int) i ys (ys.length : Int) j l (l.length : Int) (q : Int)) true
 | 0, q, hd => by
  refine Ev.step (fun k => ?_) hnext
  rw [law16_LeaseTerms.l2, if_neg (by omega)]
 | d + 1, q, hd => by
  have hq : q < l.length := by omega
  have hn := terms_l2 hlen i j hl hm hno hnext d (q + 1) (by omega)
  have hw : wrap64 ((q : Int) + 1) = ((q + 1 : Nat) : Int) := by rw [lw64 (by omega) (by omega)]; omega
  refine Ev.step (fun k => ?_) (terms_l3 hlen (l := l) (m := m) (xs := l) (ys := ys) (a := l[q]) i j (q : Int) hm (fun b hb => hno _ (List.getElem_mem hq) b hb) (by rw [hw]; exact hn) m.length 0 (by omega))
  rw [law16_LeaseTerms.l2, if_pos (by omega), if_pos (by omega), if_pos (by omega), ← rd_is hq]
  rfl
theorem terms_l1 (hlen : ∀ l ∈ ls, l.length ≤ 100000) {l : List S39} {ys : List (List S39)} (i : Int) (hl : l.length ≤ 100000) (hys : ys.length ≤ 100000) (hm : ∀ m ∈ ys, m.length ≤ 100000) (hno : ∀ m ∈ ys, ∀ a ∈ l, ∀ b ∈ m, a.f6 = b.f6 → pterm a = true → pterm b = true → a.f9 < b.f4 ∨ b.f9 < a.f4)
 (hnext : Ev (fun k => law16_LeaseTerms.l0 k ls ls (ls.length : Int) (wrap64 (i + 1))) true) : ∀ (d j : Nat), j + d = ys.length →
 Ev (fun k => law16_LeaseTerms.l1 k ls l ls (ls.length : Int) i ys (ys.length : Int) (j : Int)) true
 | 0, j, hd => by
  refine Ev.step (fun k => ?_) hnext
  rw [law16_LeaseTerms.l1, if_neg (by omega)]
 | d + 1, j, hd => by
  have hj : j < ys.length := by omega
  have hn := terms_l1 hlen i hl hys hm hno hnext d (j + 1) (by omega)
  have hw : wrap64 ((j : Int) + 1) = ((j + 1 : Nat) : Int) := by rw [lw64 (by omega) (by omega)]; omega
  refine Ev.step (fun k => ?_) (terms_l2 hlen (l := l) (m := ys[j]) (ys := ys) i (j : Int) hl (hm _ (List.getElem_mem hj)) (hno _ (List.getElem_mem hj)) (by rw [hw]; exact hn) l.length 0 (by omega))
  rw [law16_LeaseTerms.l1, if_pos (by omega), if_pos (by omega), if_pos (by omega), rdLL hj]
  rfl
theorem terms_l0 {p0 : Int} {n : Nat} (hc : CH p0 n ls t) (hP : Apart16 ls) (hls : ls.length ≤ 100000) : ∀ (d i : Nat), i + d = ls.length → Ev (fun k => law16_LeaseTerms.l0 k ls ls (ls.length : Int) (i : Int)) true
 | 0, i, hd => by
  refine Ev.step (fun k => ?_) (Ev.now _)
  rw [law16_LeaseTerms.l0, if_neg (by omega)]
 | d + 1, i, hd => by
  have hi : i < ls.length := by omega
  have hn := terms_l0 hc hP hls d (i + 1) (by omega)
  have hw : wrap64 ((i : Int) + 1) = ((i + 1 : Nat) : Int) := by rw [lw64 (by omega) (by omega)]; omega
  have hlen := hc.short
  have hin : ∀ m ∈ ls.take i, ∃ (j : Nat) (hj : j < ls.length), j < i ∧ m = ls[j] := by
   intro m hm
   obtain ⟨j, hj, rfl⟩ := List.getElem_of_mem hm
   have hj' := hj
   rw [List.length_take] at hj'
   exact ⟨j, by omega, by omega, List.getElem_take⟩
  refine Ev.step (fun k => ?_) (terms_l1 hlen (l := ls[i]) (ys := ls.take i) (i : Int) (hlen _ (List.getElem_mem hi)) (by rw [List.length_take]; omega) (fun m hm => ?_) (fun m hm a ha b hb e6 pa pb => ?_) (by rw [hw]; exact hn) (ls.take i).length 0 (by omega))
  ·rw [law16_LeaseTerms.l0, if_pos (by omega), if_pos (by omega), if_pos (by omega), rdLL hi, (hc.rc i hi).pright, Option.bind_some, if_pos rfl, if_pos (by omega), Option.bind_some, Int.toNat_natCast]
   rfl
  ·obtain ⟨j, hj, _, rfl⟩ := hin m hm
   exact hlen _ (List.getElem_mem hj)
  ·obtain ⟨j, hj, hji, rfl⟩ := hin m hm
   exact hP i j hi hj (by omega) a ha b hb (term_of (hc.rc i hi) ha pa) (term_of (hc.rc j hj) hb pb) e6
end
theorem LeaseTerms : law16_LeaseTerms.Pure := by
 intro L hL hL2 hw
 refine Ev.rounds (g := fun k => law16_LeaseTerms.f k L) (r := true) ?_
 refine Ev.bind' (fun k => rfl) sane_terms ?_
 by_cases c : decide ((L.length : Int) ≤ 500) = true
 ·have hd : DeckOk L 0 := ⟨by decide, by omega, by have := of_decide_eq_true c; omega⟩
  obtain ⟨ps, q1, hp, hpl, hpi, hq1⟩ := people_ev hd 1 (by decide)
  have hp0 : 0 < ps.length := by omega
  have hpe : ps[0].f0 = 1 := hpi 0 hp0
  obtain ⟨ls, t, q2, g1, g2, g3, g4, g5, g6⟩ := chains_ev (p1 := ps[0].f1) hq1 (n := 3) (by decide) (by decide) (p0 := 1) (by decide) (by decide) (fun ls _ => Apart16 ls) (fun _ _ _ h _ => h) (fun ls t i x hi hc hP h0 hx => apart_step hc hP h0 hi hx)
   (fun t h0 i j hi hj hij a ha => by rw [List.getElem_replicate] at ha; cases ha) 30 (by decide)
  refine Ev.congr (fun k => by rw [if_pos rfl, few_some, Option.bind_some, if_pos c]) ?_
  refine Ev.bind' (g := fun _ => make_New.f L) (a := (L, 0)) (fun k => rfl) (Ev.now _) ?_
  refine Ev.bind' (fun k => rfl) hp ?_
  refine Ev.congr (fun k => by rw [if_pos (by show (0 : Int) < (ps.length : Int); omega), show rd_T31 (ps, q1).1 0 = ps[0] from rdP (i := 0) hp0, hpe]) ?_
  refine Ev.bind' (fun k => rfl) g1 ?_
  exact terms_l0 g2 g3 (by have := g2.len; omega) ls.length 0 (by omega)
 ·exact Ev.congr (fun k => by rw [if_pos rfl, few_some, Option.bind_some, if_neg c]) (Ev.now _)
end Go.Proofs.YtnlonmbfpkalhaaDoor.Pure
