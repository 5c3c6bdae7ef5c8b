/- Words for the laws of leases, in plain Lean: a chain that grows by statements that fit, whose leases a slot has, the program's last ticks and free slots. -/
import Derived.Test.YtnlonmbfpkalhaaDoorSay
import Derived.Test.YtnlonmbfpkalhaaDoorPMx0
import Derived.Test.YtnlonmbfpkalhaaDoorPMx4
import Derived.Test.YtnlonmbfpkalhaaDoorPMx43
import Derived.Test.YtnlonmbfpkalhaaDoorPMx29
set_option linter.unusedVariables false
set_option linter.unusedSimpArgs false
namespace Go.Proofs.YtnlonmbfpkalhaaDoor.PM
open Go.RowKit Go.Proofs.YtnlonmbfpkalhaaDoor.Pure Go.Proofs.YtnlonmbfpkalhaaDoorW.PrintWords Go.Proofs.YtnlonmbfpkalhaaDoorW.PrintLast Go.Proofs.YtnlonmbfpkalhaaDoorW.PrintMore
theorem RC.cut {p0 tt : Int} {l : List S39} {t : Int} (h : RC p0 tt l t) (u : Int) : ∃ j, j ≤ l.length ∧ rstA l u = stF (l.take j) ∧ (∀ x ∈ l.take j, x.f4 ≤ u) ∧ (∀ (i : Nat) (hi : i < l.length), j ≤ i → u < l[i].f4) := by
 obtain ⟨j, hj, h1, h2⟩ : ∃ j, j ≤ l.length ∧ (∀ (i : Nat) (hi : i < l.length), i < j → l[i].f4 ≤ u) ∧ (∀ (i : Nat) (hi : i < l.length), j ≤ i → u < l[i].f4) := by
  have : ∀ n, n ≤ l.length → (∀ (i : Nat) (hi : i < l.length), i < n → l[i].f4 ≤ u) ∨ ∃ j, j < n ∧ (∀ (i : Nat) (hi : i < l.length), i < j → l[i].f4 ≤ u) ∧ ∃ hj : j < l.length, u < l[j].f4 := by
   intro n
   induction n with
   | zero => intro _; exact .inl (fun i _ hi => by omega)
   | succ n ih =>
    intro hn
    rcases ih (by omega) with h1 | ⟨j, hj, h1, h2⟩
    ·by_cases c : u < (l[n]'(by omega)).f4
     ·exact .inr ⟨n, by omega, h1, by omega, c⟩
     ·refine .inl (fun i hi hin => ?_)
      by_cases e : i = n
      ·subst e
       omega
      ·exact h1 i hi (by omega)
    ·exact .inr ⟨j, by omega, h1, h2⟩
  rcases this l.length (Nat.le_refl _) with h1 | ⟨j, hj, h1, hjl, h2⟩
  ·exact ⟨l.length, Nat.le_refl _, fun i hi _ => h1 i hi hi, fun i hi hji => absurd hi (by omega)⟩
  ·refine ⟨j, by omega, h1, fun i hi hji => ?_⟩
   by_cases e : j = i
   ·subst e
    exact h2
   ·have := List.pairwise_iff_getElem.mp h.asc j i hjl hi (by omega)
    omega
 have hup : ∀ x ∈ l.take j, x.f4 ≤ u := by
  intro x hx
  obtain ⟨i, hi, rfl⟩ := List.getElem_of_mem hx
  have hi' := hi
  rw [List.length_take] at hi'
  rw [List.getElem_take]
  exact h1 i (by omega) (by omega)
 refine ⟨j, hj, ?_, hup, h2⟩
 have := (late_rest (l := l) (t := u) j (fun i h3 h4 => by rw [← rd_is h4]; exact h2 i h4 h3) (l.length - j) (by omega)).2
 rw [show j + (l.length - j) = l.length by omega, List.take_length] at this
 rw [this, rst_full hup]
theorem RC.pleases_at {p0 tt : Int} {l : List S39} {t u : Int} (h : RC p0 tt l t) (h0 : 0 ≤ u) (h1 : u ≤ 1048576) : lease_Leases.f l u = some (rleases (rstA l u) u 64, 0) := by
 have hr := right_all (fun j hj => by rw [← rd_is hj]; exact h.big _ (List.getElem_mem hj)) h.right
 unfold lease_Leases.f
 rw [if_neg (by have := h.len; omega), if_neg (by rw [hr]; decide), if_neg (by omega), leases_same h.right]
theorem RC.add {p0 tt : Int} {l : List S39} {t : Int} (h : RC p0 tt l t) {x : S39} (hv : validR x = true) (hp : x.f0 = p0 ∧ x.f1 = tt) (hu : ∀ y ∈ l, y.f4 ≤ x.f4) (ht : x.f4 ≤ t) (hs : ((stF l).sayS x).isSome = true) (h9 : x.f9 ≤ 9223372036854775807) (hl : l.length < 256) : RC p0 tt (l ++ [x]) t := by
 refine ⟨?_, ?_, ?_, ?_, ?_, ?_, ?_⟩
 ·intro y hy
  rcases List.mem_append.mp hy with hy | hy
  ·exact h.val y hy
  ·rw [List.mem_singleton] at hy
   subst hy
   exact hv
 ·intro y hy
  rcases List.mem_append.mp hy with hy | hy
  ·exact h.par y hy
  ·rw [List.mem_singleton] at hy
   subst hy
   exact hp
 ·rw [List.pairwise_append]
  refine ⟨h.asc, by simp, fun y hy z hz => ?_⟩
  rw [List.mem_singleton] at hz
  subst hz
  exact hu y hy
 ·intro y hy
  rcases List.mem_append.mp hy with hy | hy
  ·exact h.up y hy
  ·rw [List.mem_singleton] at hy
   subst hy
   exact ht
 ·intro i hi
  rw [List.length_append, List.length_singleton] at hi
  by_cases e : i < l.length
  ·rw [List.take_append_of_le_length (by omega), List.getElem_append_left e]
   exact h.say i e
  ·have e : i = l.length := by omega
   subst e
   rw [List.take_left, List.getElem_concat_length rfl]
   exact hs
 ·intro y hy
  rcases List.mem_append.mp hy with hy | hy
  ·exact h.big y hy
  ·rw [List.mem_singleton] at hy
   subst hy
   exact h9
 ·rw [List.length_append, List.length_singleton]
  omega
theorem same_loop (l : List S41) (hl : l.length ≤ 100000) : ∀ (d i : Nat), i + d = l.length → Ev (fun k => ref16_Same.l0 k l l (l.length : Int) (i : Int)) true
 | 0, i, hd => by
  refine Ev.step (fun k => ?_) (Ev.now _)
  rw [ref16_Same.l0, if_neg (by omega)]
 | d + 1, i, hd => by
  refine Ev.step (fun k => ?_) (same_loop l hl d (i + 1) (by omega))
  rw [ref16_Same.l0, if_pos (by omega), if_pos (by omega), if_pos (by omega), if_pos (by omega), if_neg (by simp), w64 (by omega) (by omega)]
  rfl
theorem same_ev (l : List S41) (hl : l.length ≤ 100000) : Ev (fun k => ref16_Same.f k l l) true := by
 refine Ev.congr (fun k => ?_) (same_loop l hl l.length 0 (by omega))
 unfold ref16_Same.f
 rw [if_pos rfl]
 rfl
def pterm (y : S39) : Bool := (y.f5 == 1 || y.f5 == 2) && validB y
def puntI (slot : Int) (u : Int) (l : List S39) : Int := l.foldl (fun u y => if y.f6 = slot ∧ pterm y = true then mx u y.f9 else u) u
def puntO (slot : Int) (ls : List (List S39)) : Int := ls.foldl (puntI slot) (-1)
theorem puntI_snoc (slot u : Int) (l : List S39) (y : S39) : puntI slot u (l ++ [y]) = if y.f6 = slot ∧ pterm y = true then mx (puntI slot u l) y.f9 else puntI slot u l := by
 unfold puntI
 rw [List.foldl_append]
 rfl
theorem puntO_snoc (slot : Int) (ls : List (List S39)) (l : List S39) : puntO slot (ls ++ [l]) = puntI slot (puntO slot ls) l := by
 unfold puntO
 rw [List.foldl_append]
 rfl
theorem pterm_is (y : S39) : lease_terms.f y.f0 y.f1 y.f2 y.f3 y.f4 y.f5 y.f6 y.f7 y.f8 y.f9 y.f10 = some (pterm y) := by
 unfold lease_terms.f statement_Valid.f pterm
 by_cases c1 : y.f5 = 1
 ·rw [if_pos c1, Option.bind_some, show (y.f5 == 1) = true from beq_iff_eq.mpr c1]
  rfl
 ·rw [if_neg c1, show (y.f5 == 1) = false from beq_eq_false_iff_ne.mpr c1]
  by_cases c2 : y.f5 = 2
  ·rw [if_pos c2, Option.bind_some, show (y.f5 == 2) = true from beq_iff_eq.mpr c2]
   rfl
  ·rw [if_neg c2, show (y.f5 == 2) = false from beq_eq_false_iff_ne.mpr c2]
   rfl
theorem puntil_in {ls : List (List S39)} (slot : Int) (i : Nat) (hi : i < ls.length) (hl : ls[i].length ≤ 100000) (hls : ls.length ≤ 100000) (r : Int) (u : Int) (hr : Ev (fun k => lease_Until.l0 k slot (puntI slot u ls[i]) ls (ls.length : Int) ((i + 1 : Nat) : Int)) r) : ∀ (d j : Nat), j + d = ls[i].length →
 Ev (fun k => lease_Until.l1 k slot (puntI slot u (ls[i].take j)) ls (ls.length : Int) (i : Int) ls[i] (ls[i].length : Int) (j : Int)) r
 | 0, j, hd => by
  rw [List.take_of_length_le (by omega)]
  refine Ev.step (fun k => ?_) hr
  rw [lease_Until.l1, if_neg (by omega), w64 (by omega) (by omega)]
  rfl
 | d + 1, j, hd => by
  have hj : j < ls[i].length := by omega
  have hn := puntil_in slot i hi hl hls r u hr d (j + 1) (by omega)
  rw [List.take_succ_eq_append_getElem hj, puntI_snoc] at hn
  refine Ev.succ ?_
  refine Ev.congr (fun k => by rw [lease_Until.l1, if_pos (by omega), if_pos (by omega), if_pos (by omega), ← rd_is hj, pterm_is, Option.bind_some, w64 (by omega) (by omega), show (j : Int) + 1 = ((j + 1 : Nat) : Int) by omega]) ?_
  by_cases c2 : ls[i][j].f6 = slot
  ·by_cases c1 : pterm ls[i][j] = true
   ·rw [if_pos ⟨c2, c1⟩] at hn
    exact Ev.congr (fun k => by rw [if_pos c2, if_pos c1]) hn
   ·rw [if_neg (fun h => c1 h.2)] at hn
    exact Ev.congr (fun k => by rw [if_pos c2, if_neg c1]) hn
  ·rw [if_neg (fun h => c2 h.1)] at hn
   exact Ev.congr (fun k => by rw [if_neg c2]) hn
theorem puntil_out {ls : List (List S39)} (slot : Int) (hl : ∀ l ∈ ls, l.length ≤ 100000) (hls : ls.length ≤ 100000) : ∀ (d i : Nat), i + d = ls.length →
 Ev (fun k => lease_Until.l0 k slot (puntO slot (ls.take i)) ls (ls.length : Int) (i : Int)) (puntO slot ls)
 | 0, i, hd => by
  rw [List.take_of_length_le (by omega)]
  refine Ev.step (fun k => ?_) (Ev.now _)
  rw [lease_Until.l0, if_neg (by omega)]
 | d + 1, i, hd => by
  have hi : i < ls.length := by omega
  have hn := puntil_out slot hl hls d (i + 1) (by omega)
  rw [List.take_succ_eq_append_getElem hi, puntO_snoc] at hn
  have := puntil_in slot i hi (hl _ (List.getElem_mem hi)) hls _ (puntO slot (ls.take i)) hn ls[i].length 0 (by omega)
  refine Ev.step (fun k => ?_) this
  rw [lease_Until.l0, if_pos (by omega), if_pos (by omega), if_pos (by omega), rdLL hi]
  rfl
theorem puntil_ev {ls : List (List S39)} (slot : Int) (hl : ∀ l ∈ ls, l.length ≤ 100000) (hls : ls.length ≤ 100000) : Ev (fun k => lease_Until.f k ls slot) (puntO slot ls) := puntil_out slot hl hls ls.length 0 (by omega)
theorem pfree_loop {ls : List (List S39)} (hl : ∀ l ∈ ls, l.length ≤ 100000) (hls : ls.length ≤ 100000) (slots : Nat) (t : Int) (hs : slots ≤ 64) : ∀ (d i : Nat), i + d = slots → (∀ j : Nat, j < i → ¬ puntO (j : Int) ls < t) →
 ∃ (n : Nat) (ok : Bool), Ev (fun k => lease_Free.l0 k ls t (slots : Int) (i : Int)) ((n : Int), ok) ∧ (ok = true → n < slots ∧ puntO (n : Int) ls < t ∧ ∀ j : Nat, j < n → ¬ puntO (j : Int) ls < t) ∧ (ok = false → ∀ j : Nat, j < slots → ¬ puntO (j : Int) ls < t)
 | 0, i, hd, hb => by
  refine ⟨0, false, Ev.step (fun k => ?_) (Ev.now _), fun h => (by cases h), fun _ j hj => hb j (by omega)⟩
  rw [lease_Free.l0, if_neg (by omega)]
  rfl
 | d + 1, i, hd, hb => by
  by_cases c : puntO (i : Int) ls < t
  ·refine ⟨i, true, Ev.succ (Ev.congr (fun k => by rw [lease_Free.l0, if_pos (by omega)]) (Ev.bind' (fun k => rfl) (puntil_ev (i : Int) hl hls) (Ev.congr (fun k => by rw [if_pos c]) (Ev.now _)))), fun _ => ⟨by omega, c, hb⟩, fun h => (by cases h)⟩
  ·obtain ⟨n, ok, hn, h1, h2⟩ := pfree_loop hl hls slots t hs d (i + 1) (by omega) (fun j hj => by
    by_cases e : j = i
    ·subst e
     exact c
    ·exact hb j (by omega))
   exact ⟨n, ok, Ev.succ (Ev.congr (fun k => by rw [lease_Free.l0, if_pos (by omega), w64 (by omega) (by omega), show (i : Int) + 1 = ((i + 1 : Nat) : Int) by omega]) (Ev.bind' (fun k => rfl) (puntil_ev (i : Int) hl hls) (Ev.congr (fun k => by rw [if_neg c]) hn))), h1, h2⟩
theorem pfree_ev {ls : List (List S39)} (hl : ∀ l ∈ ls, l.length ≤ 100000) (hls : ls.length ≤ 100000) (slots : Nat) (hs : slots ≤ 64) (t : Int) :
 ∃ (n : Nat) (ok : Bool), Ev (fun k => lease_Free.f k ls (slots : Int) t) ((n : Int), ok) ∧ (ok = true → n < slots ∧ puntO (n : Int) ls < t ∧ ∀ j : Nat, j < n → ¬ puntO (j : Int) ls < t) ∧ (ok = false → ∀ j : Nat, j < slots → ¬ puntO (j : Int) ls < t) := by
 obtain ⟨n, ok, h, h1, h2⟩ := pfree_loop hl hls slots t hs slots 0 (by omega) (fun j hj => by omega)
 refine ⟨n, ok, Ev.congr (fun k => ?_) h, h1, h2⟩
 unfold lease_Free.f
 rw [if_neg (by omega), show mx 0 (slots : Int) = (slots : Int) by have := mx_ge 0 (slots : Int); omega]
 rfl
theorem RC.own {p0 tt : Int} {l : List S39} {t : Int} (h : RC p0 tt l t) : ∀ i, i ≤ l.length → ∀ k, k < 64 → (stF (l.take i)).opn k = true → ((stF (l.take i)).le k).o = tt ∧ ((stF (l.take i)).le k).k = p0
 | 0, _, k, hk, ho => by
  rw [List.take_zero] at ho
  rcases (SInv.zero 0).at_ k hk with ⟨h1, _⟩ | ⟨_, h2, h3, _⟩
  ·rw [show stF [] = St.zero from rfl, h1] at ho
   cases ho
  ·have : St.zero.unt k = -1 := by
    unfold St.unt St.zero stI unI
    rw [List.getD_eq_getElem?_getD, List.getElem?_append_left (by simpa using hk), List.getElem?_replicate, if_pos hk]
    rfl
   omega
 | i + 1, hi, k, hk, ho => by
  have ih := RC.own h i (by omega) k hk
  have hin := h.inv i (by omega)
  have hpar := h.par _ (List.getElem_mem (show i < l.length from hi))
  obtain ⟨s', hs'⟩ := Option.isSome_iff_exists.mp (h.say i hi)
  have es : stF (l.take (i + 1)) = s' := by
   rw [List.take_succ_eq_append_getElem hi, stF_snoc, hs']
   rfl
  rw [es] at ho ⊢
  obtain ⟨hok, hsd, hj⟩ := said hin.ok (valid_ok (h.val _ (List.getElem_mem hi))) hs'
  by_cases e : k = l[i].f6.toNat
  ·subst e
   rcases hsd with ⟨e1, h1, o, l1, u⟩ | ⟨e1, f, h1, o, l1, u⟩ | ⟨e1, f, o, l1, u⟩ | ⟨e1, f, h1, z, o, l1, u⟩ | ⟨e1, h1⟩
   ·rw [l1]
    exact ⟨hpar.2, hpar.1⟩
   ·rw [l1]
    exact ih (by rw [← o]; exact ho)
   ·rw [o] at ho
    cases ho
   ·rw [l1]
    exact ih (by rw [← o]; exact ho)
   ·rw [h1] at ho ⊢
    exact ih ho
  ·obtain ⟨o, l1, u⟩ := hj k e
   rw [o] at ho
   rw [l1]
   exact ih ho
end Go.Proofs.YtnlonmbfpkalhaaDoor.PM
