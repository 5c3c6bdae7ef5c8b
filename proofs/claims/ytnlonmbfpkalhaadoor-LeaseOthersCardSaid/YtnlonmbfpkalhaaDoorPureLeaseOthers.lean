/- Balances and promises change nothing of leases: the plain statement that is left of the law LeaseOthers. -/
import Derived.Test.YtnlonmbfpkalhaaDoorLw
import Derived.Test.YtnlonmbfpkalhaaDoorPMx0
import Derived.Test.YtnlonmbfpkalhaaDoorPMx43
import Derived.Test.YtnlonmbfpkalhaaDoorPMx29
set_option linter.unusedVariables false
set_option linter.unusedSimpArgs false
namespace Go.Proofs.YtnlonmbfpkalhaaDoor.Pure
open Go.RowKit Go.Proofs.YtnlonmbfpkalhaaDoor.PM Go.Proofs.YtnlonmbfpkalhaaDoorW.PrintWords Go.Proofs.YtnlonmbfpkalhaaDoorW.PrintLast
theorem sane_others : Ev (fun k => law16_sane.f k) true := Ev.of (k := 12) law16_sane.mono (by decide +kernel)
theorem byte_rng {a : Int} (h : (Lit.int .u8 a).wf = true) : 0 ≤ a ∧ a ≤ 255 := by
 simp [Lit.wf, IntKind.min, IntKind.max, IntKind.bits, IntKind.signed] at h
 omega
structure Kin (l m : List S39) (t : Int) (i : Nat) : Prop where
 rc : RC 1 2 m t
 st : stF m = stF (l.take i)
 ra : ∀ u, rstA m u = rstA (l.take i) u
 up : ∀ y ∈ m, ∀ (j : Nat) (hj : j < l.length), i ≤ j → y.f4 ≤ l[j].f4
 len : m.length ≤ i
theorem rstA_snoc (l : List S39) (x : S39) (u : Int) : rstA (l ++ [x]) u = rstep u (rstA l u) x := by
 unfold rstA
 rw [List.foldl_append]
 rfl
theorem others_loop {l : List S39} {t u : Int} (h : RC 1 2 l t) (hu : wrap64 u = u) (h0 : 0 ≤ u) (h1 : u ≤ 1048576) : ∀ (d i : Nat) (m : List S39), i + d = l.length → Kin l m t i → Ev (fun k => law16_LeaseOthers.l0 k u l m l (l.length : Int) (i : Int)) true
 | 0, i, m, hd, hk => by
  have e : l.take i = l := List.take_of_length_le (by omega)
  have p1 := h.pleases_at h0 h1
  have p2 := hk.rc.pleases_at h0 h1
  rw [hk.ra u, e] at p2
  have hlen := rleases_len (rstA l u) u 64
  refine Ev.succ ?_
  refine Ev.congr (fun k => by rw [law16_LeaseOthers.l0, if_neg (by omega), hu, p1, Option.bind_some, p2, Option.bind_some, if_pos rfl, if_pos rfl, hk.rc.pright, Option.bind_some, if_pos rfl]) ?_
  exact Ev.bind' (fun k => rfl) (same_ev (rleases (rstA l u) u 64) (by omega)) (Ev.now _)
 | d + 1, i, m, hd, hk => by
  have hi : i < l.length := by omega
  have hv := h.val _ (List.getElem_mem hi)
  have hlen := h.len
  have hml := hk.len
  have hstep := List.take_succ_eq_append_getElem hi
  by_cases c : l[i].f5 ≤ 5
  ·have hk' : Kin l (m ++ [l[i]]) t (i + 1) := by
    refine ⟨hk.rc.add hv (h.par _ (List.getElem_mem hi)) (fun y hy => hk.up y hy i hi (Nat.le_refl _)) (h.up _ (List.getElem_mem hi)) (by rw [hk.st]; exact h.say i hi) (h.big _ (List.getElem_mem hi)) (by omega), ?_, fun u => ?_, fun y hy j hj hij => ?_, ?_⟩
    ·rw [hstep, stF_snoc, stF_snoc, hk.st]
    ·rw [hstep, rstA_snoc, rstA_snoc, hk.ra]
    ·rcases List.mem_append.mp hy with hy | hy
     ·exact hk.up y hy j hj (by omega)
     ·rw [List.mem_singleton] at hy
      subst hy
      exact List.pairwise_iff_getElem.mp h.asc i j hi hj (by omega)
    ·rw [List.length_append, List.length_singleton]
     omega
   refine Ev.step (fun k => ?_) (others_loop h hu h0 h1 d (i + 1) _ (by omega) hk')
   rw [law16_LeaseOthers.l0, if_pos (by omega), if_pos (by omega), if_pos (by omega), ← rd_is hi, if_pos c, if_pos (by omega), lw64 (by omega) (by omega)]
   rfl
  ·have hno : ¬ (1 ≤ l[i].f5 ∧ l[i].f5 ≤ 5) := fun e => c e.2
   have hk' : Kin l m t (i + 1) := by
    refine ⟨hk.rc, ?_, fun u => ?_, fun y hy j hj hij => hk.up y hy j hj (by omega), by omega⟩
    ·rw [hstep, stF_snoc, sayS_rest hno, hk.st]
     rfl
    ·rw [hstep, rstA_snoc, hk.ra]
     unfold rstep
     rw [sayS_rest hno]
     split <;> rfl
   refine Ev.step (fun k => ?_) (others_loop h hu h0 h1 d (i + 1) _ (by omega) hk')
   rw [law16_LeaseOthers.l0, if_pos (by omega), if_pos (by omega), if_pos (by omega), ← rd_is hi, if_neg c, lw64 (by omega) (by omega)]
   rfl
theorem LeaseOthers : law16_LeaseOthers.Pure := by
 intro L n hL hL2 hw hn
 have rn := byte_rng hn
 refine Ev.rounds (g := fun k => law16_LeaseOthers.f k L n) (r := true) ?_
 refine Ev.bind' (fun k => rfl) sane_others ?_
 by_cases c : decide ((L.length : Int) ≤ 500) = true
 ·have hd : DeckOk L 0 := ⟨by decide, by omega, by have := of_decide_eq_true c; omega⟩
  obtain ⟨ps, q1, hp, hpl, hpi, hq1⟩ := people_ev hd 1 (by decide)
  have hp0 : 0 < ps.length := by omega
  have hpe : ps[0].f0 = 1 := hpi 0 hp0
  obtain ⟨l, t, q2, hl, hrc, hq2, ht0, ht1⟩ := chain_ev (p1 := ps[0].f1) hq1
  refine Ev.congr (fun k => by rw [if_pos rfl, few_some, Option.bind_some, if_pos c]) ?_
  refine Ev.bind' (g := fun _ => make_New.f L) (a := (L, 0)) (fun k => rfl) (Ev.now _) ?_
  refine Ev.bind' (fun k => rfl) hp ?_
  refine Ev.congr (fun k => by rw [if_pos (by show (0 : Int) < (ps.length : Int); omega), show rd_T31 (ps, q1).1 0 = ps[0] from rdP (i := 0) hp0, hpe]) ?_
  refine Ev.bind' (fun k => rfl) hl ?_
  exact others_loop hrc (lw64 (by omega) (by omega)) rn.1 (by omega) l.length 0 [] (by omega) ⟨RC.nil _ _ _, by rw [List.take_zero], fun u => by rw [List.take_zero], by simp, by simp⟩
 ·exact Ev.congr (fun k => by rw [if_pos rfl, few_some, Option.bind_some, if_neg c]) (Ev.now _)
end Go.Proofs.YtnlonmbfpkalhaaDoor.Pure
