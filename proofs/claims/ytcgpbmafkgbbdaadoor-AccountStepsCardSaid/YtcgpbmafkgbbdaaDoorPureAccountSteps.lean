/- A grant adds its size, an end or a loss takes that of its lease away, all other statements change nothing: the plain statement that is left of the law AccountSteps. -/
import Derived.Test.YtcgpbmafkgbbdaaDoorKp
import Derived.Test.YtcgpbmafkgbbdaaDoorPMx0
import Derived.Test.YtcgpbmafkgbbdaaDoorPMx11
set_option linter.unusedVariables false
set_option linter.unusedSimpArgs false
namespace Go.Proofs.YtcgpbmafkgbbdaaDoor.Pure
open Go.RowKit Go.Proofs.YtcgpbmafkgbbdaaDoor.PM Go.Proofs.YtcgpbmafkgbbdaaDoorW.PrintWords Go.Proofs.YtcgpbmafkgbbdaaDoorW.PrintLast
theorem sane_steps : law17_sane.f 5 = some true := by decide +kernel
theorem steps_loop {l : List S51} {t : Int} (h : RC 1 2 l t) (ht : t ≤ 1000000) : ∀ (d i : Nat), i + d = l.length → Ev (fun k => law17_AccountSteps.l0 k l l (l.length : Int) (i : Int)) true
  | 0, i, hd => by
    refine Ev.step (fun k => ?_) (Ev.now _)
    rw [law17_AccountSteps.l0, if_neg (by omega)]
  | d + 1, i, hd => by
    have hi : i < l.length := by omega
    have hlen := h.len
    have hn := steps_loop h ht d (i + 1) (by omega)
    have hv := valid_ok (h.val _ (List.getElem_mem hi))
    have hup := h.up _ (List.getElem_mem hi)
    have h4 := hv.f4
    have hb := h.before hi
    have ha := h.upto hi
    have k1 := pkept_ev hb h4.1 (by omega)
    have k2 := pkept_ev ha h4.1 (by omega)
    have hin := hb.inv_all
    obtain ⟨s', hs'⟩ := Option.isSome_iff_exists.mp (h.say i hi)
    have es : stF (l.take (i + 1)) = s' := by
      rw [List.take_succ_eq_append_getElem hi, stF_snoc, hs']
      rfl
    rw [es] at k2
    have hst := kept_step hin hv hs'
    have r1 := zSum_rng (t := l[i].f4) hin 64 (by decide)
    have hkp := hv.kind
    have ei : (i : Int).toNat = i := Int.toNat_natCast i
    have ew : wrap64 ((i : Int) + 1) = ((i + 1 : Nat) : Int) := by rw [lw64 (by omega) (by omega)]; omega
    have ei2 : ((i + 1 : Nat) : Int).toNat = i + 1 := Int.toNat_natCast _
    refine Ev.succ ?_
    refine Ev.congr (fun k => by rw [law17_AccountSteps.l0, if_pos (by omega), if_pos (by omega), if_pos (by omega), if_pos (by omega), ei, ← rd_is hi]) ?_
    refine Ev.bind' (fun k => rfl) k1 ?_
    refine Ev.congr (fun k => by rw [ew, if_pos (by omega), if_pos (by omega), ei2]) ?_
    refine Ev.bind' (fun k => rfl) k2 ?_
    refine Ev.congr (fun k => by rw [if_pos rfl]) ?_
    refine Ev.succ ?_
    by_cases c1 : l[i].f5 = 1
    · rw [if_pos c1] at hst
      refine Ev.congr (fun k => ?_) hn
      rw [law17_AccountSteps.j1, if_neg (by show ¬ ((0 : Int) != 0) = true; decide), if_pos c1, if_pos, ew]
      show zSum s' l[i].f4 64 = wrap64 (zSum (stF (l.take i)) l[i].f4 64 + l[i].f8)
      unfold KindP at hkp
      rw [hst, lw64 (by omega) (by omega)]
    · rw [if_neg c1] at hst
      have hj : ∀ b : Bool, (b = true ↔ l[i].f5 = 3 ∨ l[i].f5 = 5) → Ev (fun k => law17_AccountSteps.j2 k l (i : Int) (zSum s' l[i].f4 64) (zSum (stF (l.take i)) l[i].f4 64) l (l.length : Int) (i : Int) b l[i].f0 l[i].f1 l[i].f2 l[i].f3 l[i].f4 l[i].f5 l[i].f6 l[i].f7 l[i].f8 l[i].f9 l[i].f10) true := by
        intro b hb2
        refine Ev.succ ?_
        by_cases c : b = true
        · have hk := hb2.mp c
          rw [if_pos hk] at hst
          have hsl : 0 ≤ l[i].f6 ∧ l[i].f6 < 64 := by
            unfold KindP at hkp
            omega
          obtain ⟨y, ok, hy, hyes, hno⟩ := at_ev hb h4.1 (by omega) l[i].f6 hsl.1 hsl.2
          refine Ev.congr (fun k => by rw [law17_AccountSteps.j2, if_pos c, if_pos (by omega), if_pos (by omega), ei]) ?_
          refine Ev.bind' (fun k => rfl) hy ?_
          have hf : (stF (l.take i)).force l[i].f6.toNat l[i].f4 = true := by
            obtain ⟨_, hsd, _⟩ := said hin.ok hv hs'
            rcases hsd with ⟨e, h1, o, l, u⟩ | ⟨e, f, h1, o, l, u⟩ | ⟨e, f, o, l, u⟩ | ⟨e, f, h1, z, o, l, u⟩ | ⟨e, h1⟩
            · omega
            · exact f
            · exact f
            · exact f
            · omega
          cases ok with
          | false =>
            have := (hno rfl).2
            rw [hf] at this
            cases this
          | true =>
            have ey := (hyes rfl).2
            have e4 : y.f4 = ((stF (l.take i)).le l[i].f6.toNat).z := by rw [ey]; rfl
            have hz := hin.force (k := l[i].f6.toNat) (by omega) hf
            refine Ev.congr (fun k => ?_) hn
            rw [if_pos, ew]
            show zSum s' l[i].f4 64 = wrap64 (zSum (stF (l.take i)) l[i].f4 64 - y.f4)
            rw [hst, e4, lw64 (by omega) (by omega)]
        · rw [if_neg (fun h => c (hb2.mpr h))] at hst
          refine Ev.congr (fun k => ?_) hn
          rw [law17_AccountSteps.j2, if_neg c, if_pos hst, ew]
      by_cases c3 : l[i].f5 = 3
      · refine Ev.congr (fun k => by rw [law17_AccountSteps.j1, if_neg (by show ¬ ((0 : Int) != 0) = true; decide), if_neg c1, if_pos c3]) (hj (l[i].f5 == 3) (by rw [beq_iff_eq]; omega))
      · refine Ev.congr (fun k => by rw [law17_AccountSteps.j1, if_neg (by show ¬ ((0 : Int) != 0) = true; decide), if_neg c1, if_neg c3]) (hj (l[i].f5 == 5) (by rw [beq_iff_eq]; omega))
theorem AccountSteps : law17_AccountSteps.Pure := by
  intro L hL hL2 hw
  have hs : Ev (fun k => law17_sane.f k) true := Ev.of (k := 5) law17_sane.mono sane_steps
  by_cases c : decide ((L.length : Int) ≤ 500) = true
  · have hd : DeckOk L 0 := ⟨by decide, by omega, by have := of_decide_eq_true c; omega⟩
    obtain ⟨ps, q1, hp, hpl, hpi, hq1⟩ := people_ev hd 1 (by decide)
    have hp0 : 0 < ps.length := by omega
    have hpe : ps[0].f0 = 1 := hpi 0 hp0
    obtain ⟨l, t, q2, hl, hrc, hq2, ht0, ht1⟩ := chain_ev (p1 := ps[0].f1) hq1
    have hloop := steps_loop hrc (by omega) l.length 0 (by omega)
    refine Ev.rounds (g := fun k => law17_AccountSteps.f k L) (r := true) ?_
    refine Ev.bind' (fun k => rfl) hs ?_
    refine Ev.congr (fun k => by rw [if_pos rfl, few_some, Option.bind_some, if_pos c]) ?_
    refine Ev.bind' (g := fun _ => make_New.f L) (a := (L, 0)) (fun k => rfl) (Ev.now _) ?_
    refine Ev.bind' (fun k => rfl) hp ?_
    refine Ev.congr (fun k => by rw [if_pos (by show (0 : Int) < (ps.length : Int); omega), show rd_T49 (ps, q1).1 0 = ps[0] from rdP (i := 0) hp0, hpe]) ?_
    exact Ev.bind' (fun k => rfl) hl hloop
  · refine Ev.rounds (g := fun k => law17_AccountSteps.f k L) (r := true) ?_
    refine Ev.bind' (fun k => rfl) hs ?_
    exact Ev.congr (fun k => by rw [if_pos rfl, few_some, Option.bind_some, if_neg c]) (Ev.now _)
end Go.Proofs.YtcgpbmafkgbbdaaDoor.Pure
