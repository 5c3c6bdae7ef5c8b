/- What a statement changes of what is kept, in plain Lean; the program's sum is the reference's. -/
import Derived.Test.YtcgpbmafkgbbdaaDoorSay
import Derived.Test.YtcgpbmafkgbbdaaDoorPMx0
import Derived.Test.YtcgpbmafkgbbdaaDoorPMx11
import Derived.Test.YtcgpbmafkgbbdaaDoorPMx27
set_option linter.unusedVariables false
set_option linter.unusedSimpArgs false
namespace Go.Proofs.YtcgpbmafkgbbdaaDoor.PM
open Go.RowKit Go.Proofs.YtcgpbmafkgbbdaaDoor.Pure Go.Proofs.YtcgpbmafkgbbdaaDoorW.PrintWords Go.Proofs.YtcgpbmafkgbbdaaDoorW.PrintLast Go.Proofs.YtcgpbmafkgbbdaaDoorW.PrintMore
theorem RC.upto {p0 tt : Int} {l : List S51} {t : Int} (h : RC p0 tt l t) {i : Nat} (hi : i < l.length) : RC p0 tt (l.take (i + 1)) l[i].f4 := by
  have g := h.take (i + 1)
  refine ⟨g.val, g.par, g.asc, fun x hx => ?_, g.say, g.big, g.len⟩
  obtain ⟨j, hj, rfl⟩ := List.getElem_of_mem hx
  have hj' := hj
  rw [List.length_take] at hj'
  rw [List.getElem_take]
  by_cases e : j = i
  · subst e
    exact Int.le_refl _
  · exact List.pairwise_iff_getElem.mp h.asc j i (by omega) hi (by omega)
theorem RC.before {p0 tt : Int} {l : List S51} {t : Int} (h : RC p0 tt l t) {i : Nat} (hi : i < l.length) : RC p0 tt (l.take i) l[i].f4 := by
  have := (h.upto hi).take i
  rwa [List.take_take, Nat.min_eq_left (by omega)] at this
theorem RC.pleases {p0 tt : Int} {l : List S51} {t : Int} (h : RC p0 tt l t) (h0 : 0 ≤ t) (h1 : t ≤ 1048576) : lease_Leases.f l t = some (rleases (stF l) t 64, 0) := by
  have hr := right_all (fun j hj => by rw [← rd_is hj]; exact h.big _ (List.getElem_mem hj)) h.right
  unfold lease_Leases.f
  rw [if_neg (by have := h.len; omega), if_neg (by rw [hr]; decide), if_neg (by omega), leases_same h.right, rst_full h.up]
theorem kept_step {s s' : St} {x : S51} (h : SInv s x.f4) (hx : OkP x) (hs : s.sayS x = some s') :
    zSum s' x.f4 64 = if x.f5 = 1 then zSum s x.f4 64 + x.f8 else if x.f5 = 3 ∨ x.f5 = 5 then zSum s x.f4 64 - (s.le x.f6.toNat).z else zSum s x.f4 64 := by
  obtain ⟨hok, hsd, hj⟩ := said h.ok hx hs
  have hkp := hx.kind
  by_cases hk : 1 ≤ x.f5 ∧ x.f5 ≤ 5
  · have hk6 := slot_of hx hk.1 hk.2
    have hp := zSum_put (s := s) (s' := s') (t := x.f4) (k := x.f6.toNat) (fun j e => by
      obtain ⟨o, l, u⟩ := hj j e
      unfold zAt St.force
      rw [o, l]) 64
    rw [if_pos hk6] at hp
    rw [hp]
    unfold zAt
    rcases hsd with ⟨e, h1, o, l, u⟩ | ⟨e, f, h1, o, l, u⟩ | ⟨e, f, o, l, u⟩ | ⟨e, f, h1, z, o, l, u⟩ | ⟨e, h1⟩
    · rw [if_pos (c := x.f5 = 1) e, if_neg, if_pos]
      · rw [l]
        show _ - 0 + x.f8 = _
        omega
      · rw [force_is, o, l]
        refine ⟨rfl, ?_⟩
        show x.f4 ≤ x.f9
        unfold KindP at hkp
        omega
      · intro hf
        have := h.force hk6 hf
        omega
    · rw [if_neg (show ¬ x.f5 = 1 by omega), if_neg (show ¬ (x.f5 = 3 ∨ x.f5 = 5) by omega), if_pos f, if_pos]
      · rw [l]
        show _ - _ + (s.le x.f6.toNat).z = _
        omega
      · have := h.force hk6 f
        rw [force_is, o, l]
        refine ⟨this.1, ?_⟩
        show x.f4 ≤ x.f9
        omega
    · rw [if_neg (show ¬ x.f5 = 1 by omega), if_pos (c := x.f5 = 3 ∨ x.f5 = 5) e, if_pos f, if_neg]
      · omega
      · rw [force_is, o]
        intro hc
        cases hc.1
    · rw [if_neg (show ¬ x.f5 = 1 by omega), if_neg (show ¬ (x.f5 = 3 ∨ x.f5 = 5) by omega), if_pos f, if_pos]
      · rw [l]
        show _ - _ + (s.le x.f6.toNat).z = _
        omega
      · rw [force_is, o, l]
        exact (force_is _ _ _).mp f
    · exact absurd hk e
  · rw [if_neg (by omega), if_neg (by omega)]
    rw [sayS_rest hk] at hs
    injection hs with hs
    rw [← hs]
theorem pkept_loop {LL : List S41} (hl : LL.length ≤ 64) (hz : ∀ y ∈ LL, 0 ≤ y.f4 ∧ y.f4 ≤ 1024) (e0 : Int) : ∀ (d i : Nat), i + d = LL.length → 0 ≤ sumZ (LL.take i) → sumZ (LL.take i) ≤ 1024 * i →
    Ev (fun k => account_Kept.l0 k e0 (sumZ (LL.take i)) LL (LL.length : Int) (i : Int)) (sumZ LL, e0)
  | 0, i, hd, _, _ => by
    rw [List.take_of_length_le (by omega)]
    refine Ev.step (fun k => ?_) (Ev.now _)
    rw [account_Kept.l0, if_neg (by omega)]
  | d + 1, i, hd, h0, h1 => by
    have hi : i < LL.length := by omega
    have hy := hz _ (List.getElem_mem hi)
    have e : sumZ (LL.take (i + 1)) = sumZ (LL.take i) + LL[i].f4 := by
      rw [List.take_succ_eq_append_getElem hi, sumZ_append]
      congr 1
      show (0 : Int) + _ = _
      omega
    have hn := pkept_loop hl hz e0 d (i + 1) (by omega) (by omega) (by omega)
    rw [e] at hn
    refine Ev.step (fun k => ?_) hn
    rw [account_Kept.l0, if_pos (by omega), if_pos (by omega), if_pos (by omega), rdL hi, w64 (by omega) (by omega), w64 (by omega) (by omega)]
    rfl
theorem pkept_ev {p0 tt : Int} {l : List S51} {t : Int} (h : RC p0 tt l t) (h0 : 0 ≤ t) (h1 : t ≤ 1048576) : Ev (fun k => account_Kept.f k l t) (zSum (stF l) t 64, 0) := by
  have hlen := rleases_len (stF l) t 64
  have := pkept_loop (LL := rleases (stF l) t 64) hlen (z_rleases h.inv_all) 0 (rleases (stF l) t 64).length 0 (by omega) (by rw [List.take_zero]; decide) (by rw [List.take_zero]; decide)
  rw [sumZ_rleases] at this
  refine Ev.congr (fun k => ?_) this
  unfold account_Kept.f
  rw [h.pleases h0 h1]
  rfl
theorem RC.cut {p0 tt : Int} {l : List S51} {t : Int} (h : RC p0 tt l t) (u : Int) : ∃ j, j ≤ l.length ∧ rstA l u = stF (l.take j) ∧ (∀ x ∈ l.take j, x.f4 ≤ u) ∧ (∀ (i : Nat) (hi : i < l.length), j ≤ i → u < l[i].f4) := by
  obtain ⟨j, hj, h1, h2⟩ : ∃ j, j ≤ l.length ∧ (∀ (i : Nat) (hi : i < l.length), i < j → l[i].f4 ≤ u) ∧ (∀ (i : Nat) (hi : i < l.length), j ≤ i → u < l[i].f4) := by
    have : ∀ n, n ≤ l.length → (∀ (i : Nat) (hi : i < l.length), i < n → l[i].f4 ≤ u) ∨ ∃ j, j < n ∧ (∀ (i : Nat) (hi : i < l.length), i < j → l[i].f4 ≤ u) ∧ ∃ hj : j < l.length, u < l[j].f4 := by
      intro n
      induction n with
      | zero => intro _; exact .inl (fun i _ hi => by omega)
      | succ n ih =>
        intro hn
        rcases ih (by omega) with h1 | ⟨j, hj, h1, h2⟩
        · by_cases c : u < (l[n]'(by omega)).f4
          · exact .inr ⟨n, by omega, h1, by omega, c⟩
          · refine .inl (fun i hi hin => ?_)
            by_cases e : i = n
            · subst e
              omega
            · exact h1 i hi (by omega)
        · exact .inr ⟨j, by omega, h1, h2⟩
    rcases this l.length (Nat.le_refl _) with h1 | ⟨j, hj, h1, hjl, h2⟩
    · exact ⟨l.length, Nat.le_refl _, fun i hi _ => h1 i hi hi, fun i hi hji => absurd hi (by omega)⟩
    · refine ⟨j, by omega, h1, fun i hi hji => ?_⟩
      by_cases e : j = i
      · subst e
        exact h2
      · have := List.pairwise_iff_getElem.mp h.asc j i hjl hi (by omega)
        omega
  have hup : ∀ x ∈ l.take j, x.f4 ≤ u := by
    intro x hx
    obtain ⟨i, hi, rfl⟩ := List.getElem_of_mem hx
    have hi' := hi
    rw [List.length_take] at hi'
    rw [List.getElem_take]
    exact h1 i (by omega) (by omega)
  refine ⟨j, hj, ?_, hup, h2⟩
  have := (late_rest (l := l) (t := u) j (fun i h3 h4 => by rw [← rd_is h4]; exact h2 i h4 h3) (l.length - j) (by omega)).2
  rw [show j + (l.length - j) = l.length by omega, List.take_length] at this
  rw [this, rst_full hup]
end Go.Proofs.YtcgpbmafkgbbdaaDoor.PM
