/- When a lease is in force: the plain statement that is left of the law LeaseForce. -/
import Derived.Test.YtnlonmbfpkalhaaDoorLw
import Derived.Test.YtnlonmbfpkalhaaDoorPMx0
import Derived.Test.YtnlonmbfpkalhaaDoorPMx5
import Derived.Test.YtnlonmbfpkalhaaDoorPMx29
set_option linter.unusedVariables false
set_option linter.unusedSimpArgs false
namespace Go.Proofs.YtnlonmbfpkalhaaDoor.Pure
open Go.RowKit Go.Proofs.YtnlonmbfpkalhaaDoor.PM Go.Proofs.YtnlonmbfpkalhaaDoorW.PrintWords Go.Proofs.YtnlonmbfpkalhaaDoorW.PrintLast
theorem sane_force : Ev (fun k => law16_sane.f k) true := Ev.of (k := 12) law16_sane.mono (by decide +kernel)
theorem byte_force {a : Int} (h : (Lit.int .u8 a).wf = true) : 0 ≤ a ∧ a ≤ 255 := by
 simp [Lit.wf, IntKind.min, IntKind.max, IntKind.bits, IntKind.signed] at h
 omega
structure Kept16 (s : St) (k : Nat) (inn : Bool) (till : Int) (rec : Bool) (g : S39) : Prop where
 o : inn = s.opn k
 u : inn = true → till = (s.le k).un ∧ rec = (s.le k).rc ∧ g.f7 = (s.le k).h ∧ g.f8 = (s.le k).z ∧ g.f4 = (s.le k).fr
def cntL (LL : List S41) (k : Nat) : Nat := (LL.filter (fun y => y.f2 == (k : Int))).length
theorem cntL_snoc (LL : List S41) (y : S41) (k : Nat) : cntL (LL ++ [y]) k = cntL LL k + if y.f2 = (k : Int) then 1 else 0 := by
 unfold cntL
 rw [List.filter_append, List.length_append]
 congr 1
 by_cases c : y.f2 = (k : Int)
 ·rw [if_pos c, List.filter_cons_of_pos (by simpa using c)]
  rfl
 ·rw [if_neg c, List.filter_cons_of_neg (by simpa using c)]
  rfl
theorem cntL_leases {s : St} {t u : Int} (h : SInv s t) (k : Nat) : ∀ n, n ≤ 64 → cntL (rleases s u n) k = if k < n ∧ s.force k u = true then 1 else 0
 | 0, _ => by rw [if_neg (by omega)]; rfl
 | n + 1, hn => by
  rw [rleases_succ]
  have ih := cntL_leases (u := u) h k n (by omega)
  unfold rforce
  by_cases hf : s.force n u = true
  ·have hs := (h.force (by omega) hf).2.2.2.2.1
   rw [if_pos hf, cntL_snoc, ih]
   have e2 : (leaseR (s.le n)).f2 = (n : Int) := hs
   rw [e2]
   by_cases e : k = n
   ·subst e
    rw [if_neg (by omega), if_pos rfl, if_pos ⟨by omega, hf⟩]
   ·rw [if_neg (show ¬ ((n : Int) = (k : Int)) by omega)]
    by_cases c : k < n ∧ s.force k u = true
    ·rw [if_pos c, if_pos ⟨by omega, c.2⟩]
    ·rw [if_neg c, if_neg (fun e2 => c ⟨by omega, e2.2⟩)]
  ·rw [if_neg hf, List.append_nil, ih]
   by_cases e : k = n
   ·subst e
    rw [if_neg (by omega), if_neg (fun e2 => hf e2.2)]
   ·by_cases c : k < n ∧ s.force k u = true
    ·rw [if_pos c, if_pos ⟨by omega, c.2⟩]
    ·rw [if_neg c, if_neg (fun e2 => c ⟨by omega, e2.2⟩)]
theorem force_l2 {l : List S39} {t u : Int} (h : RC 1 2 l t) {k : Nat} (hk : k < 5) {inn : Bool} {till : Int} {rec : Bool} {g : S39} (hK : Kept16 (rstA l u) k inn till rec g)
 (hnext : Ev (fun q => law16_LeaseForce.l0 q l u (rleases (rstA l u) u 64) ((k + 1 : Nat) : Int)) true) : ∀ (d i : Nat), i + d = (rleases (rstA l u) u 64).length →
 Ev (fun q => law16_LeaseForce.l2 q l u (rleases (rstA l u) u 64) (k : Int) inn till rec ((cntL ((rleases (rstA l u) u 64).take i) k : Nat) : Int) (rleases (rstA l u) u 64) ((rleases (rstA l u) u 64).length : Int) (i : Int) g.f0 g.f1 g.f2 g.f3 g.f4 g.f5 g.f6 g.f7 g.f8 g.f9 g.f10) true
 | 0, i, hd => by
  have hin := h.inv_at u
  rw [List.take_of_length_le (by omega), cntL_leases hin k 64 (Nat.le_refl _)]
  have hw : wrap64 ((k : Int) + 1) = ((k + 1 : Nat) : Int) := by rw [lw64 (by omega) (by omega)]; omega
  refine Ev.step (fun q => ?_) hnext
  rw [law16_LeaseForce.l2, if_neg (by omega), hw]
  by_cases c : inn = true
  ·obtain ⟨h1, _⟩ := hK.u c
   have ho : (rstA l u).opn k = true := by rw [← hK.o]; exact c
   rw [if_pos c]
   by_cases c2 : till ≥ u
   ·have hf : (rstA l u).force k u = true := (force_is _ _ _).mpr ⟨ho, by omega⟩
    rw [if_pos c2, if_pos (show k < 64 ∧ (rstA l u).force k u = true from ⟨by omega, hf⟩), if_pos (by decide)]
   ·have hf : ¬ ((rstA l u).force k u = true) := fun e => by have := ((force_is _ _ _).mp e).2; omega
    rw [if_neg c2, if_neg (show ¬ (k < 64 ∧ (rstA l u).force k u = true) from fun e => hf e.2), if_pos (by decide)]
  ·have hf : ¬ ((rstA l u).force k u = true) := fun e => by
    have := ((force_is _ _ _).mp e).1
    rw [← hK.o] at this
    exact c this
   rw [if_neg c, if_neg (show ¬ (k < 64 ∧ (rstA l u).force k u = true) from fun e => hf e.2), if_pos (by decide)]
 | d + 1, i, hd => by
  have hin := h.inv_at u
  have hlen := rleases_len (rstA l u) u 64
  have hi : i < (rleases (rstA l u) u 64).length := by omega
  have hn := force_l2 h hk hK hnext d (i + 1) (by omega)
  rw [List.take_succ_eq_append_getElem hi, cntL_snoc] at hn
  have hc : cntL ((rleases (rstA l u) u 64).take i) k ≤ 64 := by
   unfold cntL
   have := List.length_filter_le (fun y : S41 => y.f2 == (k : Int)) ((rleases (rstA l u) u 64).take i)
   rw [List.length_take] at this
   omega
  have hw : wrap64 ((i : Int) + 1) = ((i + 1 : Nat) : Int) := by rw [lw64 (by omega) (by omega)]; omega
  generalize cntL ((rleases (rstA l u) u 64).take i) k = c0 at hn hc ⊢
  obtain ⟨y, hy⟩ : ∃ y, (rleases (rstA l u) u 64)[i] = y := ⟨_, rfl⟩
  have hm : y ∈ rleases (rstA l u) u 64 := hy ▸ List.getElem_mem hi
  rw [hy] at hn
  by_cases e : y.f2 = (k : Int)
  ·rw [if_pos e] at hn
   obtain ⟨j, hj, hf, hyj⟩ := mem_rleases.mp hm
   have hs := (hin.force hj hf).2.2.2.2.1
   have ej : j = k := by
    have e2 : y.f2 = (j : Int) := by rw [hyj]; exact hs
    omega
   subst ej
   obtain ⟨cu, hcu, ecu, _⟩ := h.cut u
   have ho := ((force_is _ _ _).mp hf).1
   have hown := h.own cu hcu j (by omega) (by rw [← ecu]; exact ho)
   rw [← ecu] at hown
   obtain ⟨g1, g2, g3, g4, g5⟩ := hK.u (by rw [hK.o]; exact ho)
   refine Ev.step (fun q => ?_) hn
   have w1 : wrap64 ((c0 : Int) + 1) = ((c0 + 1 : Nat) : Int) := by rw [lw64 (by omega) (by omega)]; omega
   rw [law16_LeaseForce.l2, if_pos (by omega), if_pos (by omega), if_pos (by omega), rdL hi, hy, if_pos e, hw, w1]
   rw [hyj]
   show (if ((rstA l u).le j).o = 2 then _ else _) = _
   rw [if_pos hown.1]
   show (if ((rstA l u).le j).k = 1 then _ else _) = _
   rw [if_pos hown.2]
   show (if ((rstA l u).le j).h = g.f7 then _ else _) = _
   rw [if_pos g3.symm]
   show (if ((rstA l u).le j).z = g.f8 then _ else _) = _
   rw [if_pos g4.symm]
   show (if ((rstA l u).le j).fr = g.f4 then _ else _) = _
   rw [if_pos g5.symm]
   show (if ((rstA l u).le j).un = till then _ else _) = _
   rw [if_pos g1.symm]
   show (if (((rstA l u).le j).rc != rec) = true then _ else _) = _
   rw [if_neg (by rw [g2]; simp)]
  ·rw [if_neg e, Nat.add_zero] at hn
   refine Ev.step (fun q => ?_) hn
   rw [law16_LeaseForce.l2, if_pos (by omega), if_pos (by omega), if_pos (by omega), rdL hi, hy, if_neg e, hw]
theorem rstA_one {l : List S39} {u : Int} {i : Nat} (hi : i < l.length) : rstA (l.take (i + 1)) u = rstep u (rstA (l.take i) u) l[i] := rstA_succ hi rfl
theorem force_l1 {l : List S39} {t u : Int} (h : RC 1 2 l t) {k : Nat} (hk : k < 5)
 (hnext : Ev (fun q => law16_LeaseForce.l0 q l u (rleases (rstA l u) u 64) ((k + 1 : Nat) : Int)) true) : ∀ (d i : Nat) (inn : Bool) (till : Int) (rec : Bool) (g : S39), i + d = l.length → Kept16 (rstA (l.take i) u) k inn till rec g →
 Ev (fun q => law16_LeaseForce.l1 q l u (rleases (rstA l u) u 64) (k : Int) inn till rec l (l.length : Int) (i : Int) g.f0 g.f1 g.f2 g.f3 g.f4 g.f5 g.f6 g.f7 g.f8 g.f9 g.f10) true
 | 0, i, inn, till, rec, g, hd, hK => by
  rw [List.take_of_length_le (by omega)] at hK
  refine Ev.step (fun q => ?_) (force_l2 h hk hK hnext (rleases (rstA l u) u 64).length 0 (by omega))
  rw [law16_LeaseForce.l1, if_neg (by omega)]
  rfl
 | d + 1, i, inn, till, rec, g, hd, hK => by
  have hi : i < l.length := by omega
  have hlen := h.len
  have hv := valid_ok (h.val _ (List.getElem_mem hi))
  have hkp := hv.kind
  have hw : wrap64 ((i : Int) + 1) = ((i + 1 : Nat) : Int) := by rw [lw64 (by omega) (by omega)]; omega
  have hstep := rstA_one (u := u) hi
  have IH := fun inn' till' rec' g' (hK' : Kept16 (rstA (l.take (i + 1)) u) k inn' till' rec' g') => force_l1 h hk hnext d (i + 1) inn' till' rec' g' (by omega) hK'
  refine Ev.succ ?_
  refine Ev.congr (fun q => by rw [law16_LeaseForce.l1, if_pos (by omega), if_pos (by omega), if_pos (by omega), ← rd_is hi]) ?_
  by_cases c4 : l[i].f4 > u
  ·have e : rstA (l.take (i + 1)) u = rstA (l.take i) u := by
    rw [hstep]
    unfold rstep
    rw [if_neg (by omega)]
   refine Ev.congr (fun q => by rw [if_pos c4]) (Ev.step (fun q => ?_) (IH inn till rec g (by rw [e]; exact hK)))
   rw [law16_LeaseForce.j2, if_pos rfl, hw]
  ·have hle : ∀ y ∈ l.take i, y.f4 ≤ u := by
    intro y hy
    obtain ⟨j, hj, rfl⟩ := List.getElem_of_mem hy
    have hj' := hj
    rw [List.length_take] at hj'
    rw [List.getElem_take]
    have := List.pairwise_iff_getElem.mp h.asc j i (by omega) hi (by omega)
    omega
   have es : rstA (l.take i) u = stF (l.take i) := rst_full hle
   obtain ⟨s', hs'⟩ := Option.isSome_iff_exists.mp (h.say i hi)
   have es' : rstA (l.take (i + 1)) u = s' := by
    rw [hstep]
    unfold rstep
    rw [if_pos (by omega), es, hs']
    rfl
   rw [es] at hK
   rw [es'] at IH
   have hin := h.inv i (by omega)
   obtain ⟨hok, hsd, hj⟩ := said hin.ok hv hs'
   refine Ev.congr (fun q => by rw [if_neg c4]) ?_
   by_cases c6 : l[i].f6 = (k : Int)
   ·have e6 : l[i].f6.toNat = k := by omega
    rw [e6] at hsd hj
    have hne : (l[i].f6 != (k : Int)) = false := bne_eq_false_iff_eq.mpr c6
    rw [hne]
    refine Ev.succ ?_
    refine Ev.congr (fun q => by rw [law16_LeaseForce.j2, if_neg (by decide), hw]) ?_
    rcases hsd with ⟨e1, h1, o, l1, u1⟩ | ⟨e1, f, h1, o, l1, u1⟩ | ⟨e1, f, o, l1, u1⟩ | ⟨e1, f, h1, z, o, l1, u1⟩ | ⟨e1, h1⟩
    ·refine Ev.congr (fun q => by rw [if_pos e1]) (IH true l[i].f9 false l[i] ⟨o.symm, fun _ => ?_⟩)
     rw [l1]
     exact ⟨rfl, rfl, rfl, rfl, rfl⟩
    ·refine Ev.congr (fun q => by rw [if_neg (show ¬ l[i].f5 = 1 by omega), if_pos e1]) (IH inn l[i].f9 rec g ⟨by rw [o]; exact hK.o, fun hb => ?_⟩)
     obtain ⟨g1, g2, g3, g4, g5⟩ := hK.u hb
     rw [l1]
     exact ⟨rfl, g2, g3, g4, g5⟩
    ·have hkeep : Kept16 s' k false till rec g := ⟨o.symm, fun hb => by cases hb⟩
     have hj3 : ∀ b : Bool, b = true → Ev (fun q => law16_LeaseForce.j3 q l u (rleases (rstA l u) u 64) (k : Int) inn till rec l (l.length : Int) (i : Int) l[i].f5 b g.f0 g.f1 g.f2 g.f3 g.f4 g.f5 g.f6 g.f7 g.f8 g.f9 g.f10) true := fun b hb => by
      refine Ev.step (fun q => ?_) (IH false till rec g hkeep)
      rw [law16_LeaseForce.j3, if_pos hb, hw]
     by_cases c3 : l[i].f5 = 3
     ·exact Ev.congr (fun q => by rw [if_neg (show ¬ l[i].f5 = 1 by omega), if_neg (show ¬ l[i].f5 = 2 by omega), if_pos c3]) (hj3 (l[i].f5 == 3) (beq_iff_eq.mpr c3))
     ·exact Ev.congr (fun q => by rw [if_neg (show ¬ l[i].f5 = 1 by omega), if_neg (show ¬ l[i].f5 = 2 by omega), if_neg c3]) (hj3 (l[i].f5 == 5) (beq_iff_eq.mpr (by omega)))
    ·refine Ev.congr (fun q => by rw [if_neg (show ¬ l[i].f5 = 1 by omega), if_neg (show ¬ l[i].f5 = 2 by omega), if_neg (show ¬ l[i].f5 = 3 by omega)]) (Ev.step (fun q => ?_) (IH inn till true g ⟨by rw [o]; exact hK.o, fun hb => ?_⟩))
     ·rw [law16_LeaseForce.j3, if_neg (by rw [beq_iff_eq]; omega), if_pos e1, hw]
     ·obtain ⟨g1, g2, g3, g4, g5⟩ := hK.u hb
      rw [l1]
      exact ⟨g1, rfl, g3, g4, g5⟩
    ·unfold KindP at hkp
     refine Ev.congr (fun q => by rw [if_neg (show ¬ l[i].f5 = 1 by omega), if_neg (show ¬ l[i].f5 = 2 by omega), if_neg (show ¬ l[i].f5 = 3 by omega)]) (Ev.step (fun q => ?_) (IH inn till rec g (by rw [h1]; exact hK)))
     rw [law16_LeaseForce.j3, if_neg (by rw [beq_iff_eq]; omega), if_neg (by omega), hw]
   ·have h60 : 0 ≤ l[i].f6 := by
     unfold KindP at hkp
     omega
    obtain ⟨o, l1, u1⟩ := hj k (by omega)
    have hne : (l[i].f6 != (k : Int)) = true := bne_iff_ne.mpr c6
    rw [hne]
    refine Ev.step (fun q => ?_) (IH inn till rec g ⟨by rw [o]; exact hK.o, fun hb => by rw [l1]; exact hK.u hb⟩)
    rw [law16_LeaseForce.j2, if_pos rfl, hw]
theorem force_l0 {l : List S39} {t u : Int} (h : RC 1 2 l t) : ∀ (d k : Nat), k + d = 5 → Ev (fun q => law16_LeaseForce.l0 q l u (rleases (rstA l u) u 64) (k : Int)) true
 | 0, k, hd => by
  refine Ev.step (fun q => ?_) (Ev.now _)
  rw [law16_LeaseForce.l0, if_neg (by omega)]
 | d + 1, k, hd => by
  have hn := force_l0 (u := u) h d (k + 1) (by omega)
  have h0 : Kept16 (rstA (l.take 0) u) k false 0 false zE := by
   refine ⟨?_, fun hb => by cases hb⟩
   rw [List.take_zero]
   rcases (SInv.zero 0).at_ k (by omega) with ⟨h1, _⟩ | ⟨_, h2, _⟩
   ·exact h1.symm
   ·have := (SInv.zero 0).top k (by omega)
    have : St.zero.unt k = -1 := by
     unfold St.unt St.zero stI unI
     rw [List.getD_eq_getElem?_getD, List.getElem?_append_left (by simp; omega), List.getElem?_replicate, if_pos (by omega)]
     rfl
    omega
  refine Ev.step (fun q => ?_) (force_l1 h (by omega) hn l.length 0 false 0 false zE (by omega) h0)
  rw [law16_LeaseForce.l0, if_pos (by omega)]
  rfl
theorem LeaseForce : law16_LeaseForce.Pure := by
 intro L n hL hL2 hw hn
 have rn := byte_force hn
 have ht : wrap64 (Int.tmod n 60) = n % 60 := by rw [Int.tmod_eq_emod_of_nonneg rn.1, lw64 (by omega) (by omega)]
 have ht0 : 0 ≤ n % 60 := by omega
 have ht1 : n % 60 ≤ 1048576 := by omega
 refine Ev.rounds (g := fun k => law16_LeaseForce.f k L n) (r := true) ?_
 refine Ev.bind' (fun k => rfl) sane_force ?_
 by_cases c : decide ((L.length : Int) ≤ 500) = true
 ·have hd : DeckOk L 0 := ⟨by decide, by omega, by have := of_decide_eq_true c; omega⟩
  obtain ⟨ps, q1, hp, hpl, hpi, hq1⟩ := people_ev hd 1 (by decide)
  have hp0 : 0 < ps.length := by omega
  have hpe : ps[0].f0 = 1 := hpi 0 hp0
  obtain ⟨l, t, q2, hl, hrc, hq2, h0, h1⟩ := chain_ev (p1 := ps[0].f1) hq1
  generalize n % 60 = u at ht ht0 ht1
  refine Ev.congr (fun k => by rw [if_pos rfl, few_some, Option.bind_some, if_pos c]) ?_
  refine Ev.bind' (g := fun _ => make_New.f L) (a := (L, 0)) (fun k => rfl) (Ev.now _) ?_
  refine Ev.bind' (fun k => rfl) hp ?_
  refine Ev.congr (fun k => by rw [if_pos (by show (0 : Int) < (ps.length : Int); omega), show rd_T31 (ps, q1).1 0 = ps[0] from rdP (i := 0) hp0, hpe]) ?_
  refine Ev.bind' (fun k => rfl) hl ?_
  refine Ev.congr (fun k => by rw [ht, hrc.pleases_at ht0 ht1, Option.bind_some, if_pos rfl]) ?_
  exact force_l0 hrc 5 0 (by omega)
 ·exact Ev.congr (fun k => by rw [if_pos rfl, few_some, Option.bind_some, if_neg c]) (Ev.now _)
end Go.Proofs.YtnlonmbfpkalhaaDoor.Pure
