/- What a statement changes of what is kept, in plain Lean; the program's sum is the reference's. -/
import Derived.Test.YtcgpbmafkgbbdaaDoorSay
import Derived.Test.YtcgpbmafkgbbdaaDoorPSx0
import Derived.Test.YtcgpbmafkgbbdaaDoorPSx25
import Derived.Test.YtcgpbmafkgbbdaaDoorPSx13
import Derived.Test.YtcgpbmafkgbbdaaDoorPSx43
set_option linter.unusedVariables false
set_option linter.unusedSimpArgs false
namespace Go.Proofs.YtcgpbmafkgbbdaaDoor.PS
open Go.RowKit Go.Proofs.YtcgpbmafkgbbdaaDoor.Pure Go.Proofs.YtcgpbmafkgbbdaaDoorW.PrintWords Go.Proofs.YtcgpbmafkgbbdaaDoorW.PrintLast Go.Proofs.YtcgpbmafkgbbdaaDoorW.PrintMore
theorem RC.upto {p0 tt : Int} {l : List S51} {t : Int} (h : RC p0 tt l t) {i : Nat} (hi : i < l.length) : RC p0 tt (l.take (i + 1)) l[i].f4 := by
 have g := h.take (i + 1)
 refine ⟨g.val, g.par, g.asc, fun x hx => ?_, g.say, g.big, g.len⟩
 obtain ⟨j, hj, rfl⟩ := List.getElem_of_mem hx
 have hj' := hj
 rw [List.length_take] at hj'
 rw [List.getElem_take]
 by_cases e : j = i
 ·subst e
  exact Int.le_refl _
 ·exact List.pairwise_iff_getElem.mp h.asc j i (by omega) hi (by omega)
theorem RC.before {p0 tt : Int} {l : List S51} {t : Int} (h : RC p0 tt l t) {i : Nat} (hi : i < l.length) : RC p0 tt (l.take i) l[i].f4 := by
 have := (h.upto hi).take i
 rwa [List.take_take, Nat.min_eq_left (by omega)] at this
theorem RC.pleases {p0 tt : Int} {l : List S51} {t : Int} (h : RC p0 tt l t) (h0 : 0 ≤ t) (h1 : t ≤ 1048576) : lease_Leases.f l t = some (rleases (stF l) t 64, 0) := by
 have hr := right_all (fun j hj => by rw [← rd_is hj]; exact h.big _ (List.getElem_mem hj)) h.right
 unfold lease_Leases.f
 rw [if_neg (by have := h.len; omega), if_neg (by rw [hr]; decide), if_neg (by omega), leases_same h.right, rst_full h.up]
theorem RC.pleases_at {p0 tt : Int} {l : List S51} {t u : Int} (h : RC p0 tt l t) (h0 : 0 ≤ u) (h1 : u ≤ 1048576) : lease_Leases.f l u = some (rleases (rstA l u) u 64, 0) := by
 have hr := right_all (fun j hj => by rw [← rd_is hj]; exact h.big _ (List.getElem_mem hj)) h.right
 unfold lease_Leases.f
 rw [if_neg (by have := h.len; omega), if_neg (by rw [hr]; decide), if_neg (by omega), leases_same h.right]
theorem pkept_loop {LL : List S41} (hl : LL.length ≤ 64) (hz : ∀ y ∈ LL, 0 ≤ y.f4 ∧ y.f4 ≤ 1024) (e0 : Int) : ∀ (d i : Nat), i + d = LL.length → 0 ≤ sumZ (LL.take i) → sumZ (LL.take i) ≤ 1024 * i →
 Ev (fun k => account_Kept.l0 k e0 (sumZ (LL.take i)) LL (LL.length : Int) (i : Int)) (sumZ LL, e0)
 | 0, i, hd, _, _ => by
  rw [List.take_of_length_le (by omega)]
  refine Ev.step (fun k => ?_) (Ev.now _)
  rw [account_Kept.l0, if_neg (by omega)]
 | d + 1, i, hd, h0, h1 => by
  have hi : i < LL.length := by omega
  have hy := hz _ (List.getElem_mem hi)
  have e : sumZ (LL.take (i + 1)) = sumZ (LL.take i) + LL[i].f4 := by
   rw [List.take_succ_eq_append_getElem hi, sumZ_append]
   congr 1
   show (0 : Int) + _ = _
   omega
  have hn := pkept_loop hl hz e0 d (i + 1) (by omega) (by omega) (by omega)
  rw [e] at hn
  refine Ev.step (fun k => ?_) hn
  rw [account_Kept.l0, if_pos (by omega), if_pos (by omega), if_pos (by omega), rdL hi, w64 (by omega) (by omega), w64 (by omega) (by omega)]
  rfl
theorem pkept_ev {p0 tt : Int} {l : List S51} {t : Int} (h : RC p0 tt l t) (h0 : 0 ≤ t) (h1 : t ≤ 1048576) : Ev (fun k => account_Kept.f k l t) (zSum (stF l) t 64, 0) := by
 have hlen := rleases_len (stF l) t 64
 have := pkept_loop (LL := rleases (stF l) t 64) hlen (z_rleases h.inv_all) 0 (rleases (stF l) t 64).length 0 (by omega) (by rw [List.take_zero]; decide) (by rw [List.take_zero]; decide)
 rw [sumZ_rleases] at this
 refine Ev.congr (fun k => ?_) this
 unfold account_Kept.f
 rw [h.pleases h0 h1]
 rfl
theorem RC.cut {p0 tt : Int} {l : List S51} {t : Int} (h : RC p0 tt l t) (u : Int) : ∃ j, j ≤ l.length ∧ rstA l u = stF (l.take j) ∧ (∀ x ∈ l.take j, x.f4 ≤ u) ∧ (∀ (i : Nat) (hi : i < l.length), j ≤ i → u < l[i].f4) := by
 obtain ⟨j, hj, h1, h2⟩ : ∃ j, j ≤ l.length ∧ (∀ (i : Nat) (hi : i < l.length), i < j → l[i].f4 ≤ u) ∧ (∀ (i : Nat) (hi : i < l.length), j ≤ i → u < l[i].f4) := by
  have : ∀ n, n ≤ l.length → (∀ (i : Nat) (hi : i < l.length), i < n → l[i].f4 ≤ u) ∨ ∃ j, j < n ∧ (∀ (i : Nat) (hi : i < l.length), i < j → l[i].f4 ≤ u) ∧ ∃ hj : j < l.length, u < l[j].f4 := by
   intro n
   induction n with
   | zero => intro _; exact .inl (fun i _ hi => by omega)
   | succ n ih =>
    intro hn
    rcases ih (by omega) with h1 | ⟨j, hj, h1, h2⟩
    ·by_cases c : u < (l[n]'(by omega)).f4
     ·exact .inr ⟨n, by omega, h1, by omega, c⟩
     ·refine .inl (fun i hi hin => ?_)
      by_cases e : i = n
      ·subst e
       omega
      ·exact h1 i hi (by omega)
    ·exact .inr ⟨j, by omega, h1, h2⟩
  rcases this l.length (Nat.le_refl _) with h1 | ⟨j, hj, h1, hjl, h2⟩
  ·exact ⟨l.length, Nat.le_refl _, fun i hi _ => h1 i hi hi, fun i hi hji => absurd hi (by omega)⟩
  ·refine ⟨j, by omega, h1, fun i hi hji => ?_⟩
   by_cases e : j = i
   ·subst e
    exact h2
   ·have := List.pairwise_iff_getElem.mp h.asc j i hjl hi (by omega)
    omega
 have hup : ∀ x ∈ l.take j, x.f4 ≤ u := by
  intro x hx
  obtain ⟨i, hi, rfl⟩ := List.getElem_of_mem hx
  have hi' := hi
  rw [List.length_take] at hi'
  rw [List.getElem_take]
  exact h1 i (by omega) (by omega)
 refine ⟨j, hj, ?_, hup, h2⟩
 have := (late_rest (l := l) (t := u) j (fun i h3 h4 => by rw [← rd_is h4]; exact h2 i h4 h3) (l.length - j) (by omega)).2
 rw [show j + (l.length - j) = l.length by omega, List.take_length] at this
 rw [this, rst_full hup]
theorem RC.inv_at {p0 tt : Int} {l : List S51} {t : Int} (h : RC p0 tt l t) (u : Int) : SInv (rstA l u) t := by
 obtain ⟨j, hj, h1, _⟩ := h.cut u
 rw [h1]
 exact h.inv j hj
theorem pkept_at {p0 tt : Int} {l : List S51} {t : Int} (h : RC p0 tt l t) {u : Int} (h0 : 0 ≤ u) (h1 : u ≤ 1048576) : Ev (fun k => account_Kept.f k l u) (zSum (rstA l u) u 64, 0) := by
 have hlen := rleases_len (rstA l u) u 64
 have := pkept_loop (LL := rleases (rstA l u) u 64) hlen (z_rleases (h.inv_at u)) 0 (rleases (rstA l u) u 64).length 0 (by omega) (by rw [List.take_zero]; decide) (by rw [List.take_zero]; decide)
 rw [sumZ_rleases] at this
 refine Ev.congr (fun k => ?_) this
 unfold account_Kept.f
 rw [h.pleases_at h0 h1]
 rfl
theorem between_ev {p0 tt : Int} {l m : List S51} {t t' : Int} (hl : RC p0 tt l t) (hm : RC tt p0 m t') {u : Int} (h0 : 0 ≤ u) (h1 : u ≤ 1048576) : Ev (fun k => account_Between.f k l m u) (zSum (rstA l u) u 64, zSum (rstA m u) u 64, 0) := by
 refine Ev.bind' (fun k => rfl) (pkept_at hl h0 h1) ?_
 refine Ev.congr (fun k => by rw [if_pos rfl]) ?_
 refine Ev.bind' (fun k => rfl) (pkept_at hm h0 h1) ?_
 refine Ev.congr (fun k => by rw [if_pos rfl]) ?_
 by_cases c1 : 0 < l.length
 ·by_cases c2 : 0 < m.length
  ·have e1 : rd_T51 l 0 = l[0] := (rd_is c1).symm
   have e2 : rd_T51 m 0 = m[0] := (rd_is c2).symm
   have p1 := hl.par _ (List.getElem_mem c1)
   have p2 := hm.par _ (List.getElem_mem c2)
   refine Ev.congr (fun k => ?_) (Ev.now _)
   rw [if_pos (by omega), if_pos (by omega), if_pos (by omega), if_pos (by omega), e1, e2, if_pos (by rw [p1.1, p2.2]), if_pos (by rw [p1.2, p2.1])]
  ·exact Ev.congr (fun k => by rw [if_pos (by omega), if_neg (by omega)]) (Ev.now _)
 ·exact Ev.congr (fun k => by rw [if_neg (by omega)]) (Ev.now _)
end Go.Proofs.YtcgpbmafkgbbdaaDoor.PS
