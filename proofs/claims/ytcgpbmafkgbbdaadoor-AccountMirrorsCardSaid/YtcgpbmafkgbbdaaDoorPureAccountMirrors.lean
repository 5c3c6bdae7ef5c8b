/- A balance is the same from both sides, and what is kept is the sum of the leases in force: the plain statement that is left of the law AccountMirrors. -/
import Derived.Test.YtcgpbmafkgbbdaaDoorKp
import Derived.Test.YtcgpbmafkgbbdaaDoorPMx0
import Derived.Test.YtcgpbmafkgbbdaaDoorPMx27
import Derived.Test.YtcgpbmafkgbbdaaDoorPMx11
set_option linter.unusedVariables false
set_option linter.unusedSimpArgs false
namespace Go.Proofs.YtcgpbmafkgbbdaaDoor.Pure
open Go.RowKit Go.Proofs.YtcgpbmafkgbbdaaDoor.PM Go.Proofs.YtcgpbmafkgbbdaaDoorW.PrintWords Go.Proofs.YtcgpbmafkgbbdaaDoorW.PrintLast
theorem sane_mirrors : law17_sane.f 5 = some true := by decide +kernel
theorem byte_rng {a : Int} (h : (Lit.int .u8 a).wf = true) : 0 ≤ a ∧ a ≤ 255 := by
  simp [Lit.wf, IntKind.min, IntKind.max, IntKind.bits, IntKind.signed] at h
  omega
theorem even_rng (a b : Int) (ha : 0 ≤ a ∧ a ≤ 100000) (hb : 0 ≤ b ∧ b ≤ 100000) : account_Even.f a b = some (decide (a - b < 1024) && decide (b - a < 1024)) := by
  unfold account_Even.f
  rw [lw64 (n := a - b) (by omega) (by omega), lw64 (n := b - a) (by omega) (by omega), if_pos ha.1, if_pos hb.1]
  by_cases h2 : a - b < 1024
  · rw [if_pos h2, decide_eq_true h2, Bool.true_and]
  · rw [if_neg h2, decide_eq_false h2, Bool.false_and]
theorem mirrors_loop {LL : List S41} (hl : LL.length ≤ 64) (hz : ∀ y ∈ LL, 0 ≤ y.f4 ∧ y.f4 ≤ 1024) (x y : Int) (hx : x = sumZ LL) (hxr : 0 ≤ x ∧ x ≤ 100000) (hyr : 0 ≤ y ∧ y ≤ 100000) : ∀ (d i : Nat), i + d = LL.length → 0 ≤ sumZ (LL.take i) → sumZ (LL.take i) ≤ 1024 * i →
    Ev (fun k => law17_AccountMirrors.l0 k 0 0 0 (sumZ (LL.take i)) LL (LL.length : Int) (i : Int) x y y x) true
  | 0, i, hd, _, _ => by
    rw [List.take_of_length_le (by omega)]
    refine Ev.step (fun k => ?_) (Ev.now _)
    rw [law17_AccountMirrors.l0, if_neg (by omega), if_pos rfl, if_pos rfl, if_pos rfl, if_pos rfl, if_pos rfl, if_pos hx, even_rng x y hxr hyr, even_rng y x hyr hxr]
    simp only [Option.bind_some]
    rw [Bool.and_comm]
    simp
  | d + 1, i, hd, h0, h1 => by
    have hi : i < LL.length := by omega
    have hy := hz _ (List.getElem_mem hi)
    have e : sumZ (LL.take (i + 1)) = sumZ (LL.take i) + LL[i].f4 := by
      rw [List.take_succ_eq_append_getElem hi, sumZ_append]
      congr 1
      show (0 : Int) + _ = _
      omega
    have hn := mirrors_loop hl hz x y hx hxr hyr d (i + 1) (by omega) (by omega) (by omega)
    rw [e] at hn
    refine Ev.step (fun k => ?_) hn
    rw [law17_AccountMirrors.l0, if_pos (by omega), if_pos (by omega), if_pos (by omega), rdL hi, lw64 (by omega) (by omega), lw64 (by omega) (by omega)]
    rfl
theorem pair_ev {L : List Int} {q : Int} (hq : DeckOk L q) {ps : List S49} (hpl : ps.length = 2) (hp : ∀ (j : Nat) (h : j < ps.length), ps[j].f0 = (j : Int) + 1) :
    ∃ a b m q' t t', Ev (fun k => law17_pair.f k L q ps) ((a, b, m, q') : List S51 × List S51 × Int × Int) ∧ RC 1 2 a t ∧ RC 2 1 b t' ∧ DeckOk L q' ∧ 0 ≤ t ∧ 0 ≤ t' := by
  have h0 : 0 < ps.length := by omega
  have h1 : 1 < ps.length := by omega
  have e0 : rd_T49 ps 0 = ps[0] := rdP (i := 0) h0
  have e1 : rd_T49 ps 1 = ps[1] := rdP (i := 1) h1
  have i0 : ps[0].f0 = 1 := hp 0 h0
  have i1 : ps[1].f0 = 2 := hp 1 h1
  obtain ⟨ls, t, q1, g1, g2, _, g3, g4, _⟩ := chains_ev (p1 := ps[0].f1) hq (n := 1) (by decide) (by decide) (p0 := 1) (by decide) (by decide) (fun _ _ => True) (fun _ _ _ _ _ => trivial) (fun _ _ _ _ _ _ _ _ _ => trivial) (fun _ _ => trivial) 14 (by decide)
  obtain ⟨ms, t', q2, k1, k2, _, k3, k4, _⟩ := chains_ev (p1 := ps[1].f1) g3 (n := 1) (by decide) (by decide) (p0 := 2) (by decide) (by decide) (fun _ _ => True) (fun _ _ _ _ _ => trivial) (fun _ _ _ _ _ _ _ _ _ => trivial) (fun _ _ => trivial) 14 (by decide)
  have hl : 0 < ls.length := by have := g2.len; omega
  have hm : 0 < ms.length := by have := k2.len; omega
  refine ⟨ls[0], ms[0], mx t t', q2, t, t', ?_, g2.rc 0 hl, k2.rc 0 hm, k3, g4, k4⟩
  refine Ev.congr (fun k => by rw [law17_pair.f, if_pos (by omega), e0, i0, e1, i1]) ?_
  refine Ev.bind' (fun k => rfl) g1 ?_
  refine Ev.congr (fun k => by rw [if_pos (by omega)]) ?_
  refine Ev.bind' (fun k => rfl) k1 ?_
  refine Ev.congr (fun k => by rw [if_pos (by show (0 : Int) < (ls.length : Int); omega), if_pos (by show (0 : Int) < (ms.length : Int); omega), show rd_L5 (ls, t, q1).1 0 = ls[0] from rdLL (i := 0) hl, show rd_L5 (ms, t', q2).1 0 = ms[0] from rdLL (i := 0) hm]) (Ev.now _)
theorem AccountMirrors : law17_AccountMirrors.Pure := by
  intro L n hL hL2 hw hn
  have rn := byte_rng hn
  have ht : wrap64 (Int.tmod n 60) = n % 60 := by rw [Int.tmod_eq_emod_of_nonneg rn.1, lw64 (by omega) (by omega)]
  have ht0 : 0 ≤ n % 60 := by omega
  have ht1 : n % 60 ≤ 1048576 := by omega
  have hs : Ev (fun k => law17_sane.f k) true := Ev.of (k := 5) law17_sane.mono sane_mirrors
  refine Ev.rounds (g := fun k => law17_AccountMirrors.f k L n) (r := true) ?_
  refine Ev.bind' (fun k => rfl) hs ?_
  by_cases c : decide ((L.length : Int) ≤ 500) = true
  · have hd : DeckOk L 0 := ⟨by decide, by omega, by have := of_decide_eq_true c; omega⟩
    obtain ⟨ps, q1, hp, hpl, hpi, hq1⟩ := people_ev hd 2 (by decide)
    obtain ⟨a, b, m, q', t, t', hpr, hra, hrb, hq', h0, h0'⟩ := pair_ev hq1 hpl hpi
    generalize n % 60 = u at ht ht0 ht1
    refine Ev.congr (fun k => by rw [if_pos rfl, few_some, Option.bind_some, if_pos c]) ?_
    refine Ev.bind' (g := fun _ => make_New.f L) (a := (L, 0)) (fun k => rfl) (Ev.now _) ?_
    refine Ev.bind' (fun k => rfl) hp ?_
    refine Ev.bind' (fun k => rfl) hpr ?_
    refine Ev.congr (fun k => by rw [ht]) ?_
    refine Ev.bind' (fun k => rfl) (between_ev hra hrb ht0 ht1) ?_
    refine Ev.bind' (fun k => rfl) (between_ev hrb hra ht0 ht1) ?_
    have hla := hra.rleases_at ht0 ht1
    refine Ev.congr (fun k => by rw [hla, Option.bind_some]) ?_
    have r1 := zSum_rng (t := u) (hra.inv_at u) 64 (by decide)
    have r2 := zSum_rng (t := u) (hrb.inv_at u) 64 (by decide)
    have hlen := rleases_len (rstA a u) u 64
    exact mirrors_loop (LL := rleases (rstA a u) u 64) hlen (z_rleases (hra.inv_at u)) (zSum (rstA a u) u 64) (zSum (rstA b u) u 64) (sumZ_rleases _ _ _).symm (by omega) (by omega) (rleases (rstA a u) u 64).length 0 (by omega) (by rw [List.take_zero]; decide) (by rw [List.take_zero]; decide)
  · exact Ev.congr (fun k => by rw [if_pos rfl, few_some, Option.bind_some, if_neg c]) (Ev.now _)
end Go.Proofs.YtcgpbmafkgbbdaaDoor.Pure
