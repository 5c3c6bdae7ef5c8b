/- What a chain says later changes nothing of what was in force before, and the free slot is the least one whose terms are over: the plain statement that is left of the law LeaseLater. -/
import Derived.Test.YtnlonmbfpkalhaaDoorLw
import Derived.Test.YtnlonmbfpkalhaaDoorPMx0
import Derived.Test.YtnlonmbfpkalhaaDoorPMx43
import Derived.Test.YtnlonmbfpkalhaaDoorPMx29
set_option linter.unusedVariables false
set_option linter.unusedSimpArgs false
namespace Go.Proofs.YtnlonmbfpkalhaaDoor.Pure
open Go.RowKit Go.Proofs.YtnlonmbfpkalhaaDoor.PM Go.Proofs.YtnlonmbfpkalhaaDoorW.PrintWords Go.Proofs.YtnlonmbfpkalhaaDoorW.PrintLast
theorem sane_later : Ev (fun k => law16_sane.f k) true := Ev.of (k := 12) law16_sane.mono (by decide +kernel)
theorem byte_later {a : Int} (h : (Lit.int .u8 a).wf = true) : 0 ≤ a ∧ a ≤ 255 := by
 simp [Lit.wf, IntKind.min, IntKind.max, IntKind.bits, IntKind.signed] at h
 omega
theorem later_loop {l : List S39} (hl : l.length ≤ 100000) {x2 now : Int} {s : Nat} (hx : wrap64 (Int.tmod x2 6) = (s : Int)) (hs : s ≤ 5) {n : Nat} {ok : Bool} (hyes : ok = true → n < s ∧ puntO (n : Int) [l] < now ∧ ∀ j : Nat, j < n → ¬ puntO (j : Int) [l] < now) (hno : ok = false → ∀ j : Nat, j < s → ¬ puntO (j : Int) [l] < now) : ∀ (d i : Nat), i + d = s →
 Ev (fun k => law16_LeaseLater.l0 k x2 l now (n : Int) ok (i : Int)) true
 | 0, i, hd => by
  refine Ev.step (fun k => ?_) (Ev.now _)
  rw [law16_LeaseLater.l0, hx, if_neg (by omega)]
  by_cases c : ok = true
  ·rw [if_pos c, decide_eq_true (by have := (hyes c).1; omega)]
  ·rw [if_neg c]
 | d + 1, i, hd => by
  have hn := later_loop hl hx hs hyes hno d (i + 1) (by omega)
  have hw : wrap64 ((i : Int) + 1) = ((i + 1 : Nat) : Int) := by rw [lw64 (by omega) (by omega)]; omega
  refine Ev.succ ?_
  refine Ev.congr (fun k => by rw [law16_LeaseLater.l0, hx, if_pos (by omega)]) ?_
  refine Ev.bind' (fun k => rfl) (puntil_ev (ls := [l]) (i : Int) (by simpa using hl) (by simp)) ?_
  by_cases c : ok = true
  ·obtain ⟨h1, h2, h3⟩ := hyes c
   refine Ev.congr (fun k => by rw [if_pos c]) ?_
   by_cases cb : ((decide (puntO (i : Int) [l] < now)) != ((i : Int) == (n : Int))) = true
   ·refine Ev.congr (fun k => by rw [if_pos cb]) ?_
    have hne : (i : Int) ≠ (n : Int) := by
     intro e
     have e2 : i = n := by omega
     subst e2
     rw [decide_eq_true h2] at cb
     simp at cb
    by_cases co : puntO (i : Int) [l] < now
    ·have hge : ¬ ((i : Int) < (n : Int)) := fun e => h3 i (by omega) co
     refine Ev.congr (fun k => by rw [if_pos co, if_neg hge, if_neg hne, hw]) hn
    ·refine Ev.congr (fun k => by rw [if_neg co, if_neg hne, hw]) hn
   ·exact Ev.congr (fun k => by rw [if_neg cb, hw]) hn
  ·have hf : ok = false := Bool.eq_false_iff.mpr c
   have hb := hno hf i (by omega)
   refine Ev.congr (fun k => by rw [if_neg c, if_neg (by rw [decide_eq_false hb]; decide), hw]) hn
theorem later_j0 {l : List S39} {now t0 : Int} (h : RC 1 2 l t0) {x2 : Int} {s : Nat} (hx : wrap64 (Int.tmod x2 6) = (s : Int)) (hs : s ≤ 5) {c : Nat} (hc : c ≤ l.length) {u : Int} (hu : u ≤ 1048576) (hcut : ∀ (j : Nat) (hj : j < l.length), c ≤ j → u < l[j].f4) : Ev (fun k => law16_LeaseLater.j0 k x2 l now (c : Int) u) true := by
 have hl := h.len
 refine Ev.succ ?_
 by_cases c0 : u < 0
 ·exact Ev.congr (fun k => by rw [law16_LeaseLater.j0, if_pos c0]) (Ev.now _)
 ·have p1 := h.pleases_at (u := u) (by omega) hu
  have p2 := (h.take c).pleases_at (u := u) (by omega) hu
  have e : rstA l u = rstA (l.take c) u := by
   have := (late_rest (l := l) (t := u) c (fun i h3 h4 => by rw [← rd_is h4]; exact hcut i h4 h3) (l.length - c) (by omega)).2
   rwa [show c + (l.length - c) = l.length by omega, List.take_length] at this
  rw [← e] at p2
  have hlen := rleases_len (rstA l u) u 64
  have ec : (c : Int).toNat = c := Int.toNat_natCast c
  refine Ev.congr (fun k => by rw [law16_LeaseLater.j0, if_neg c0, p1, Option.bind_some, if_pos (by omega), if_pos (by omega), ec, p2, Option.bind_some, if_pos rfl, if_pos rfl]) ?_
  refine Ev.bind' (fun k => rfl) (same_ev (rleases (rstA l u) u 64) (by omega)) ?_
  refine Ev.succ ?_
  obtain ⟨n, ok, hf, hyes, hno⟩ := pfree_ev (ls := [l]) (by simp; omega) (by simp) s (by omega) now
  refine Ev.congr (fun k => by rw [law16_LeaseLater.j1, if_neg (by decide), hx]) ?_
  refine Ev.bind' (fun k => rfl) hf ?_
  exact later_loop (by omega) hx hs hyes hno s 0 (by omega)
theorem later_x {b : Int} (h0 : 0 ≤ b) : wrap64 (Int.tmod b 6) = (((b % 6).toNat : Nat) : Int) := by
 rw [Int.tmod_eq_emod_of_nonneg h0, lw64 (by omega) (by omega)]
 omega
theorem later_cut {a : Int} (h0 : 0 ≤ a) {n : Nat} : ∃ i : Nat, i ≤ n ∧ Int.tmod a ((n : Int) + 1) = (i : Int) := by
 refine ⟨(a % ((n : Int) + 1)).toNat, ?_, ?_⟩
 ·have := Int.emod_lt_of_pos a (show (0 : Int) < (n : Int) + 1 by omega)
  have := Int.emod_nonneg a (show ((n : Int) + 1) ≠ 0 by omega)
  omega
 ·rw [Int.tmod_eq_emod_of_nonneg h0]
  have := Int.emod_nonneg a (show ((n : Int) + 1) ≠ 0 by omega)
  omega
theorem later_tick {y : Int} (h0 : 0 ≤ y) (h1 : y ≤ 1048576) : wrap64 (y - 1) = y - 1 := lw64 (by omega) (by omega)
theorem later_n {n : Nat} (h : n ≤ 256) : wrap64 ((n : Int) + 1) = (n : Int) + 1 := lw64 (by omega) (by omega)
theorem later_a {a : Int} (h : 0 ≤ a ∧ a ≤ 255) : wrap64 a = a := lw64 (by omega) (by omega)
theorem LeaseLater : law16_LeaseLater.Pure := by
 intro L a b hL hL2 hw ha hb
 have ra := byte_later ha
 have rb := byte_later hb
 have HX := Aside0.mk (later_x rb.1)
 have hxs : (b % 6).toNat ≤ 5 := by omega
 refine Ev.rounds (g := fun k => law16_LeaseLater.f k L a b) (r := true) ?_
 refine Ev.bind' (fun k => rfl) sane_later ?_
 by_cases c : decide ((L.length : Int) ≤ 500) = true
 ·have hd : DeckOk L 0 := ⟨by decide, by omega, by have := of_decide_eq_true c; omega⟩
  obtain ⟨ps, q1, hp, hpl, hpi, hq1⟩ := people_ev hd 1 (by decide)
  have hp0 : 0 < ps.length := by omega
  have hpe : ps[0].f0 = 1 := hpi 0 hp0
  obtain ⟨l, t, q2, hl, hrc, hq2, ht0, ht1⟩ := chain_ev (p1 := ps[0].f1) hq1
  have hlen := hrc.len
  refine Ev.congr (fun k => by rw [if_pos rfl, few_some, Option.bind_some, if_pos c]) ?_
  refine Ev.bind' (g := fun _ => make_New.f L) (a := (L, 0)) (fun k => rfl) (Ev.now _) ?_
  refine Ev.bind' (fun k => rfl) hp ?_
  refine Ev.congr (fun k => by rw [if_pos (by show (0 : Int) < (ps.length : Int); omega), show rd_T31 (ps, q1).1 0 = ps[0] from rdP (i := 0) hp0, hpe]) ?_
  refine Ev.bind' (fun k => rfl) hl ?_
  obtain ⟨i, h4, e3⟩ := later_cut (n := l.length) ra.1
  have h5 : ¬ ((l.length : Int) + 1 = 0) := by omega
  have E3 := Aside0.mk e3
  clear e3
  refine Ev.congr (fun k => by rw [later_n hlen, if_neg h5, later_a ra, E3.out]) ?_
  by_cases ci : i < l.length
  ·have hv := (valid_ok (hrc.val _ (List.getElem_mem ci))).f4
   refine Ev.congr (fun k => by rw [if_pos (by show (i : Int) < (l.length : Int); omega), if_pos (by omega), ← rd_is ci, later_tick hv.1 hv.2]) ?_
   refine later_j0 hrc HX.out hxs (by omega) (by omega) (fun j hj hij => ?_)
   by_cases e : i = j
   ·subst e
    omega
   ·have := List.pairwise_iff_getElem.mp hrc.asc i j ci hj (by omega)
    omega
  ·refine Ev.congr (fun k => by rw [if_neg (by show ¬ (i : Int) < (l.length : Int); omega)]) ?_
   exact later_j0 hrc HX.out hxs (by omega) (by show t ≤ 1048576; omega) (fun j hj hij => by omega)
 ·exact Ev.congr (fun k => by rw [if_pos rfl, few_some, Option.bind_some, if_neg c]) (Ev.now _)
end Go.Proofs.YtnlonmbfpkalhaaDoor.Pure
