/- Words for the laws of leases, in plain Lean: a chain that grows by statements that fit, whose leases a slot has, the program's last ticks and free slots. -/
import Derived.Test.YtnlonmbfpkalhaaDoorSay
import Derived.Test.YtnlonmbfpkalhaaDoorPMx0
import Derived.Test.YtnlonmbfpkalhaaDoorPMx4
import Derived.Test.YtnlonmbfpkalhaaDoorPMx5
import Derived.Test.YtnlonmbfpkalhaaDoorPMx29
set_option linter.unusedVariables false
set_option linter.unusedSimpArgs false
namespace Go.Proofs.YtnlonmbfpkalhaaDoor.PM
open Go.RowKit Go.Proofs.YtnlonmbfpkalhaaDoor.Pure Go.Proofs.YtnlonmbfpkalhaaDoorW.PrintWords Go.Proofs.YtnlonmbfpkalhaaDoorW.PrintLast Go.Proofs.YtnlonmbfpkalhaaDoorW.PrintMore
theorem RC.cut {p0 tt : Int} {l : List S39} {t : Int} (h : RC p0 tt l t) (u : Int) : ∃ j, j ≤ l.length ∧ rstA l u = stF (l.take j) ∧ (∀ x ∈ l.take j, x.f4 ≤ u) ∧ (∀ (i : Nat) (hi : i < l.length), j ≤ i → u < l[i].f4) := by
 obtain ⟨j, hj, h1, h2⟩ : ∃ j, j ≤ l.length ∧ (∀ (i : Nat) (hi : i < l.length), i < j → l[i].f4 ≤ u) ∧ (∀ (i : Nat) (hi : i < l.length), j ≤ i → u < l[i].f4) := by
  have : ∀ n, n ≤ l.length → (∀ (i : Nat) (hi : i < l.length), i < n → l[i].f4 ≤ u) ∨ ∃ j, j < n ∧ (∀ (i : Nat) (hi : i < l.length), i < j → l[i].f4 ≤ u) ∧ ∃ hj : j < l.length, u < l[j].f4 := by
   intro n
   induction n with
   | zero => intro _; exact .inl (fun i _ hi => by omega)
   | succ n ih =>
    intro hn
    rcases ih (by omega) with h1 | ⟨j, hj, h1, h2⟩
    ·by_cases c : u < (l[n]'(by omega)).f4
     ·exact .inr ⟨n, by omega, h1, by omega, c⟩
     ·refine .inl (fun i hi hin => ?_)
      by_cases e : i = n
      ·subst e
       omega
      ·exact h1 i hi (by omega)
    ·exact .inr ⟨j, by omega, h1, h2⟩
  rcases this l.length (Nat.le_refl _) with h1 | ⟨j, hj, h1, hjl, h2⟩
  ·exact ⟨l.length, Nat.le_refl _, fun i hi _ => h1 i hi hi, fun i hi hji => absurd hi (by omega)⟩
  ·refine ⟨j, by omega, h1, fun i hi hji => ?_⟩
   by_cases e : j = i
   ·subst e
    exact h2
   ·have := List.pairwise_iff_getElem.mp h.asc j i hjl hi (by omega)
    omega
 have hup : ∀ x ∈ l.take j, x.f4 ≤ u := by
  intro x hx
  obtain ⟨i, hi, rfl⟩ := List.getElem_of_mem hx
  have hi' := hi
  rw [List.length_take] at hi'
  rw [List.getElem_take]
  exact h1 i (by omega) (by omega)
 refine ⟨j, hj, ?_, hup, h2⟩
 have := (late_rest (l := l) (t := u) j (fun i h3 h4 => by rw [← rd_is h4]; exact h2 i h4 h3) (l.length - j) (by omega)).2
 rw [show j + (l.length - j) = l.length by omega, List.take_length] at this
 rw [this, rst_full hup]
theorem RC.pright {p0 tt : Int} {l : List S39} {t : Int} (h : RC p0 tt l t) : lease_Right.f l = some 0 := by
 have hr := right_all (fun j hj => by rw [← rd_is hj]; exact h.big _ (List.getElem_mem hj)) h.right
 unfold lease_Right.f
 rw [hr]
theorem RC.add {p0 tt : Int} {l : List S39} {t : Int} (h : RC p0 tt l t) {x : S39} (hv : validR x = true) (hp : x.f0 = p0 ∧ x.f1 = tt) (hu : ∀ y ∈ l, y.f4 ≤ x.f4) (ht : x.f4 ≤ t) (hs : ((stF l).sayS x).isSome = true) (h9 : x.f9 ≤ 9223372036854775807) (hl : l.length < 256) : RC p0 tt (l ++ [x]) t := by
 refine ⟨?_, ?_, ?_, ?_, ?_, ?_, ?_⟩
 ·intro y hy
  rcases List.mem_append.mp hy with hy | hy
  ·exact h.val y hy
  ·rw [List.mem_singleton] at hy
   subst hy
   exact hv
 ·intro y hy
  rcases List.mem_append.mp hy with hy | hy
  ·exact h.par y hy
  ·rw [List.mem_singleton] at hy
   subst hy
   exact hp
 ·rw [List.pairwise_append]
  refine ⟨h.asc, by simp, fun y hy z hz => ?_⟩
  rw [List.mem_singleton] at hz
  subst hz
  exact hu y hy
 ·intro y hy
  rcases List.mem_append.mp hy with hy | hy
  ·exact h.up y hy
  ·rw [List.mem_singleton] at hy
   subst hy
   exact ht
 ·intro i hi
  rw [List.length_append, List.length_singleton] at hi
  by_cases e : i < l.length
  ·rw [List.take_append_of_le_length (by omega), List.getElem_append_left e]
   exact h.say i e
  ·have e : i = l.length := by omega
   subst e
   rw [List.take_left, List.getElem_concat_length rfl]
   exact hs
 ·intro y hy
  rcases List.mem_append.mp hy with hy | hy
  ·exact h.big y hy
  ·rw [List.mem_singleton] at hy
   subst hy
   exact h9
 ·rw [List.length_append, List.length_singleton]
  omega
def pterm (y : S39) : Bool := (y.f5 == 1 || y.f5 == 2) && validB y
def puntI (slot : Int) (u : Int) (l : List S39) : Int := l.foldl (fun u y => if y.f6 = slot ∧ pterm y = true then mx u y.f9 else u) u
def puntO (slot : Int) (ls : List (List S39)) : Int := ls.foldl (puntI slot) (-1)
theorem pterm_is (y : S39) : lease_terms.f y.f0 y.f1 y.f2 y.f3 y.f4 y.f5 y.f6 y.f7 y.f8 y.f9 y.f10 = some (pterm y) := by
 unfold lease_terms.f statement_Valid.f pterm
 by_cases c1 : y.f5 = 1
 ·rw [if_pos c1, Option.bind_some, show (y.f5 == 1) = true from beq_iff_eq.mpr c1]
  rfl
 ·rw [if_neg c1, show (y.f5 == 1) = false from beq_eq_false_iff_ne.mpr c1]
  by_cases c2 : y.f5 = 2
  ·rw [if_pos c2, Option.bind_some, show (y.f5 == 2) = true from beq_iff_eq.mpr c2]
   rfl
  ·rw [if_neg c2, show (y.f5 == 2) = false from beq_eq_false_iff_ne.mpr c2]
   rfl
theorem RC.own {p0 tt : Int} {l : List S39} {t : Int} (h : RC p0 tt l t) : ∀ i, i ≤ l.length → ∀ k, k < 64 → (stF (l.take i)).opn k = true → ((stF (l.take i)).le k).o = tt ∧ ((stF (l.take i)).le k).k = p0
 | 0, _, k, hk, ho => by
  rw [List.take_zero] at ho
  rcases (SInv.zero 0).at_ k hk with ⟨h1, _⟩ | ⟨_, h2, h3, _⟩
  ·rw [show stF [] = St.zero from rfl, h1] at ho
   cases ho
  ·have : St.zero.unt k = -1 := by
    unfold St.unt St.zero stI unI
    rw [List.getD_eq_getElem?_getD, List.getElem?_append_left (by simpa using hk), List.getElem?_replicate, if_pos hk]
    rfl
   omega
 | i + 1, hi, k, hk, ho => by
  have ih := RC.own h i (by omega) k hk
  have hin := h.inv i (by omega)
  have hpar := h.par _ (List.getElem_mem (show i < l.length from hi))
  obtain ⟨s', hs'⟩ := Option.isSome_iff_exists.mp (h.say i hi)
  have es : stF (l.take (i + 1)) = s' := by
   rw [List.take_succ_eq_append_getElem hi, stF_snoc, hs']
   rfl
  rw [es] at ho ⊢
  obtain ⟨hok, hsd, hj⟩ := said hin.ok (valid_ok (h.val _ (List.getElem_mem hi))) hs'
  by_cases e : k = l[i].f6.toNat
  ·subst e
   rcases hsd with ⟨e1, h1, o, l1, u⟩ | ⟨e1, f, h1, o, l1, u⟩ | ⟨e1, f, o, l1, u⟩ | ⟨e1, f, h1, z, o, l1, u⟩ | ⟨e1, h1⟩
   ·rw [l1]
    exact ⟨hpar.2, hpar.1⟩
   ·rw [l1]
    exact ih (by rw [← o]; exact ho)
   ·rw [o] at ho
    cases ho
   ·rw [l1]
    exact ih (by rw [← o]; exact ho)
   ·rw [h1] at ho ⊢
    exact ih ho
  ·obtain ⟨o, l1, u⟩ := hj k e
   rw [o] at ho
   rw [l1]
   exact ih ho
end Go.Proofs.YtnlonmbfpkalhaaDoor.PM
