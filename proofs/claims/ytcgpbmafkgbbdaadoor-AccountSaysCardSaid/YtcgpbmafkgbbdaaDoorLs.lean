/- Leases in plain Lean: what the program's and the reference's forms say of one chain. -/
import Derived.Test.YtcgpbmafkgbbdaaDoorPSx0
import Derived.Test.YtcgpbmafkgbbdaaDoorPSx25
import Derived.Test.YtcgpbmafkgbbdaaDoorPSx43
set_option linter.unusedVariables false
set_option linter.unusedSimpArgs false
namespace Go.Proofs.YtcgpbmafkgbbdaaDoor.Pure
open Go.RowKit Go.Proofs.YtcgpbmafkgbbdaaDoor.PS Go.Proofs.YtcgpbmafkgbbdaaDoorW.PrintWords Go.Proofs.YtcgpbmafkgbbdaaDoorW.PrintLast
theorem lw64 {n : Int} (h0 : -9223372036854775808 ≤ n) (h1 : n ≤ 9223372036854775807) : wrap64 n = n := by unfold wrap64; omega
def KindP (x : S51) : Prop :=
 (x.f5 = 1 ∧ (0 ≤ x.f6 ∧ x.f6 ≤ 63) ∧ (0 ≤ x.f7 ∧ x.f7 ≤ 2147483646) ∧ (1 ≤ x.f8 ∧ x.f8 ≤ 1024) ∧ x.f4 + 1 ≤ x.f9 ∧ x.f9 ≤ x.f4 + 65536 ∧ x.f9 ≤ 1048576) ∨
 (x.f5 = 2 ∧ (0 ≤ x.f6 ∧ x.f6 ≤ 63) ∧ x.f7 = 0 ∧ x.f8 = 0 ∧ x.f4 + 1 ≤ x.f9 ∧ x.f9 ≤ x.f4 + 65536 ∧ x.f9 ≤ 1048576) ∨
 ((x.f5 = 3 ∨ x.f5 = 5) ∧ (0 ≤ x.f6 ∧ x.f6 ≤ 63) ∧ x.f7 = 0 ∧ x.f8 = 0 ∧ x.f9 = 0) ∨
 (x.f5 = 4 ∧ (0 ≤ x.f6 ∧ x.f6 ≤ 63) ∧ (0 ≤ x.f7 ∧ x.f7 ≤ 2147483646) ∧ (1 ≤ x.f8 ∧ x.f8 ≤ 1024) ∧ x.f9 = 0) ∨
 (x.f5 = 6 ∧ (0 ≤ x.f6 ∧ x.f6 ≤ 2147483646) ∧ (0 ≤ x.f7 ∧ x.f7 ≤ 2147483646) ∧ (0 ≤ x.f8 ∧ x.f8 ≤ 256) ∧ x.f9 = 0) ∨
 (x.f5 = 7 ∧ (0 ≤ x.f6 ∧ x.f6 ≤ 2147483646) ∧ (0 ≤ x.f7 ∧ x.f7 ≤ 2147483646) ∧ (1 ≤ x.f8 ∧ x.f8 ≤ 1024) ∧ 1 ≤ x.f9 ∧ Int.tmod x.f9 3 = 1 ∧ wrap64 (Int.tdiv x.f9 3) < 4294967294) ∨
 (x.f5 = 8 ∧ (0 ≤ x.f6 ∧ x.f6 ≤ 2147483646) ∧ (0 ≤ x.f7 ∧ x.f7 ≤ 4294967293) ∧ x.f8 = 0 ∧ x.f9 = 0)
structure OkP (x : S51) : Prop where
 f0 : 1 ≤ x.f0 ∧ x.f0 ≤ 2147483646
 f1 : 1 ≤ x.f1 ∧ x.f1 ≤ 2147483646
 ne : x.f0 ≠ x.f1
 f2 : 1 ≤ x.f2 ∧ x.f2 ≤ 256
 f3 : 0 ≤ x.f3 ∧ x.f3 ≤ 2147483646
 fst : 1 < x.f2 ∨ x.f3 = 0
 f4 : 0 ≤ x.f4 ∧ x.f4 ≤ 1048576
 f10 : 0 ≤ x.f10 ∧ x.f10 ≤ 2147483646
 kind : KindP x
theorem if_some_true {c : Prop} [Decidable c] {a : Option Bool} (h : (if c then a else some false) = some true) : c ∧ a = some true := by
 by_cases hc : c
 ·rw [if_pos hc] at h
  exact ⟨hc, h⟩
 ·rw [if_neg hc] at h
  cases h
theorem parts_kind (x : S51) (h4 : 0 ≤ x.f4 ∧ x.f4 ≤ 1048576) (h : ref15_parts.f 4 x.f0 x.f1 x.f2 x.f3 x.f4 x.f5 x.f6 x.f7 x.f8 x.f9 x.f10 = some true) : KindP x := by
 simp only [ref15_parts.f, ref15_parts.j0, ref15_parts.j1, ref15_parts.j2, ref15_parts.j3, ref15_lock.f, r15_in, Option.bind_some, lw64 (n := x.f4 + 1) (by omega) (by omega), lw64 (n := x.f4 + 65536) (by omega) (by omega)] at h
 unfold KindP
 by_cases e1 : x.f5 = 1
 ·left
  refine ⟨e1, ?_⟩
  simp [e1] at h
  repeat (replace h := if_some_true h; obtain ⟨_, h⟩ := h)
  simp only [Option.some.injEq, decide_eq_true_eq, beq_iff_eq] at h
  omega
 by_cases e2 : x.f5 = 2
 ·right; left
  refine ⟨e2, ?_⟩
  simp [e2] at h
  repeat (replace h := if_some_true h; obtain ⟨_, h⟩ := h)
  simp only [Option.some.injEq, decide_eq_true_eq, beq_iff_eq] at h
  omega
 by_cases e3 : x.f5 = 3
 ·right; right; left
  refine ⟨.inl e3, ?_⟩
  simp [e3] at h
  repeat (replace h := if_some_true h; obtain ⟨_, h⟩ := h)
  simp only [Option.some.injEq, decide_eq_true_eq, beq_iff_eq] at h
  omega
 by_cases e5 : x.f5 = 5
 ·right; right; left
  refine ⟨.inr e5, ?_⟩
  simp [e5] at h
  repeat (replace h := if_some_true h; obtain ⟨_, h⟩ := h)
  simp only [Option.some.injEq, decide_eq_true_eq, beq_iff_eq] at h
  omega
 by_cases e4 : x.f5 = 4
 ·right; right; right; left
  refine ⟨e4, ?_⟩
  simp [e4] at h
  repeat (replace h := if_some_true h; obtain ⟨_, h⟩ := h)
  simp only [Option.some.injEq, decide_eq_true_eq, beq_iff_eq] at h
  omega
 by_cases e6 : x.f5 = 6
 ·right; right; right; right; left
  refine ⟨e6, ?_⟩
  simp [e6] at h
  repeat (replace h := if_some_true h; obtain ⟨_, h⟩ := h)
  simp only [Option.some.injEq, decide_eq_true_eq, beq_iff_eq] at h
  omega
 by_cases e7 : x.f5 = 7
 ·right; right; right; right; right; left
  refine ⟨e7, ?_⟩
  simp [e7] at h
  repeat (replace h := if_some_true h; obtain ⟨_, h⟩ := h)
  simp only [Option.some.injEq, decide_eq_true_eq, beq_iff_eq] at h
  exact ⟨by omega, by omega, by omega, by omega, by assumption, h⟩
 by_cases e8 : x.f5 = 8
 ·iterate 6 right
  refine ⟨e8, ?_⟩
  simp [e8] at h
  repeat (replace h := if_some_true h; obtain ⟨_, h⟩ := h)
  simp only [Option.some.injEq, decide_eq_true_eq, beq_iff_eq] at h
  omega
 simp [e1, e2, e3, e4, e5, e6, e7, e8] at h
theorem valid_ok {x : S51} (h : validR x = true) : OkP x := by
 have h0 := validR_is x
 rw [h] at h0
 clear h
 obtain ⟨p, hp⟩ := r15_parts 0 x.f0 x.f1 x.f2 x.f3 x.f4 x.f5 x.f6 x.f7 x.f8 x.f9 x.f10
 rw [Nat.zero_add] at hp
 by_cases c : x.f2 > 1
 ·simp [ref15_Valid.f, r15_in, hp, c] at h0
  obtain ⟨r0, h0⟩ := if_some_true h0
  obtain ⟨r1, h0⟩ := if_some_true h0
  by_cases hc : x.f0 = x.f1
  ·rw [if_pos hc] at h0
   cases h0
  rw [if_neg hc] at h0
  repeat (replace h0 := if_some_true h0; obtain ⟨_, h0⟩ := h0)
  (try simp only [Option.some.injEq] at h0)
  subst h0
  exact ⟨by assumption, by assumption, by assumption, by omega, by assumption, .inl (by omega), by assumption, by assumption, parts_kind x (by assumption) hp⟩
 ·simp [ref15_Valid.f, r15_in, hp, c] at h0
  obtain ⟨r0, h0⟩ := if_some_true h0
  obtain ⟨r1, h0⟩ := if_some_true h0
  by_cases hc : x.f0 = x.f1
  ·rw [if_pos hc] at h0
   cases h0
  rw [if_neg hc] at h0
  repeat (replace h0 := if_some_true h0; obtain ⟨_, h0⟩ := h0)
  (try simp only [Option.some.injEq] at h0)
  subst h0
  exact ⟨by assumption, by assumption, by assumption, by omega, by assumption, .inr (by assumption), by assumption, by assumption, parts_kind x (by assumption) hp⟩
theorem form_1 {k : Int} (h : k = 1) : formOf k = ⟨0, 63, 0, 2147483646, 1, 1024, 1, 65536, true, false⟩ := by subst h; rfl
theorem form_2 {k : Int} (h : k = 2) : formOf k = ⟨0, 63, 0, 0, 0, 0, 1, 65536, true, false⟩ := by subst h; rfl
theorem form_3 {k : Int} (h : k = 3 ∨ k = 5) : formOf k = ⟨0, 63, 0, 0, 0, 0, 0, 0, false, false⟩ := by rcases h with rfl | rfl <;> rfl
theorem form_4 {k : Int} (h : k = 4) : formOf k = ⟨0, 63, 0, 2147483646, 1, 1024, 0, 0, false, false⟩ := by subst h; rfl
theorem form_6 {k : Int} (h : k = 6) : formOf k = ⟨0, 2147483646, 0, 2147483646, 0, 256, 0, 0, false, false⟩ := by subst h; rfl
theorem form_7 {k : Int} (h : k = 7) : formOf k = ⟨0, 2147483646, 0, 2147483646, 1, 1024, 0, 4294967293, false, true⟩ := by subst h; rfl
theorem form_8 {k : Int} (h : k = 8) : formOf k = ⟨0, 2147483646, 0, 4294967293, 0, 0, 0, 0, false, false⟩ := by subst h; rfl
theorem holds_yes {a b n : Int} (h0 : a ≤ n) (h1 : n ≤ b) : holdsB a b n = true := by
 unfold holdsB
 rw [decide_eq_true h0, decide_eq_true h1]
 rfl
theorem valid_too {x : S51} (h : validR x = true) (h9 : x.f9 ≤ 9223372036854775807) : validB x = true := by
 have o := valid_ok h
 obtain ⟨⟨a0, a1⟩, ⟨b0, b1⟩, ne, ⟨c0, c1⟩, ⟨d0, d1⟩, fs, ⟨t0, t1⟩, ⟨m0, m1⟩, kd⟩ := o
 have hfit : fitsB x = true := by
  unfold fitsB
  rcases kd with ⟨e, ⟨s0, s1⟩, ⟨n0, n1⟩, ⟨z0, z1⟩, u0, u1, u2⟩ | ⟨e, ⟨s0, s1⟩, n0, z0, u0, u1, u2⟩ | ⟨e, ⟨s0, s1⟩, n0, z0, u0⟩ | ⟨e, ⟨s0, s1⟩, ⟨n0, n1⟩, ⟨z0, z1⟩, u0⟩ | ⟨e, ⟨s0, s1⟩, ⟨n0, n1⟩, ⟨z0, z1⟩, u0⟩ | ⟨e, ⟨s0, s1⟩, ⟨n0, n1⟩, ⟨z0, z1⟩, u0, u1, u2⟩ | ⟨e, ⟨s0, s1⟩, ⟨n0, n1⟩, z0, u0⟩
  ·rw [if_neg (by omega), form_1 e, if_pos rfl, if_neg (by omega), lw64 (by omega) (by omega)]
   simp only [Fm.allB]
   rw [holds_yes (by omega) (by omega), holds_yes (by omega) (by omega), holds_yes (by omega) (by omega), holds_yes (by omega) (by omega)]
   rfl
  ·rw [if_neg (by omega), form_2 e, if_pos rfl, if_neg (by omega), lw64 (by omega) (by omega)]
   simp only [Fm.allB]
   rw [holds_yes (by omega) (by omega), holds_yes (by omega) (by omega), holds_yes (by omega) (by omega), holds_yes (by omega) (by omega)]
   rfl
  ·rw [if_neg (by omega), form_3 e, if_neg (by decide), if_neg (by decide)]
   simp only [Fm.allB]
   rw [holds_yes (by omega) (by omega), holds_yes (by omega) (by omega), holds_yes (by omega) (by omega), holds_yes (by omega) (by omega)]
   rfl
  ·rw [if_neg (by omega), form_4 e, if_neg (by decide), if_neg (by decide)]
   simp only [Fm.allB]
   rw [holds_yes (by omega) (by omega), holds_yes (by omega) (by omega), holds_yes (by omega) (by omega), holds_yes (by omega) (by omega)]
   rfl
  ·rw [if_neg (by omega), form_6 e, if_neg (by decide), if_neg (by decide)]
   simp only [Fm.allB]
   rw [holds_yes (by omega) (by omega), holds_yes (by omega) (by omega), holds_yes (by omega) (by omega), holds_yes (by omega) (by omega)]
   rfl
  ·have hq : 0 ≤ Int.tdiv x.f9 3 ∧ Int.tdiv x.f9 3 ≤ x.f9 := by
    rw [Int.tdiv_eq_ediv_of_nonneg (by omega)]
    omega
   rw [lw64 (by omega) (by omega)] at u2
   rw [if_neg (by omega), form_7 e, if_neg (by decide), if_pos rfl, if_neg (by rw [u1]; omega), lw64 (by omega) (by omega)]
   simp only [Fm.allB]
   rw [holds_yes (by omega) (by omega), holds_yes (by omega) (by omega), holds_yes (by omega) (by omega), holds_yes (by omega) (by omega)]
   rfl
  ·rw [if_neg (by omega), form_8 e, if_neg (by decide), if_neg (by decide)]
   simp only [Fm.allB]
   rw [holds_yes (by omega) (by omega), holds_yes (by omega) (by omega), holds_yes (by omega) (by omega), holds_yes (by omega) (by omega)]
   rfl
 unfold validB
 rw [holds_yes a0 a1, holds_yes b0 b1, bne_iff_ne.mpr ne, decide_eq_true c0, decide_eq_true c1, holds_yes d0 d1, decide_eq_true t0, decide_eq_true t1, holds_yes m0 m1, hfit]
 have hfs : (decide (1 < x.f2) || (x.f3 == 0)) = true := by
  rcases fs with h | h
  ·rw [decide_eq_true h]; rfl
  ·rw [h]; simp
 rw [hfs]
 rfl
theorem getD_set {α : Type} (l : List α) (k j : Nat) (v d : α) (hk : k < l.length) : (l.set k v).getD j d = if j = k then v else l.getD j d := by
 rw [List.getD_eq_getElem?_getD, List.getElem?_set, List.getD_eq_getElem?_getD]
 by_cases e : j = k
 ·subst e
  rw [if_pos rfl, if_pos hk, if_pos rfl]
  rfl
 ·rw [if_neg (fun h => e h.symm), if_neg e]
theorem le_setL {s : St} (h : s.ok) {k : Nat} (hk : k < 64) (l : Le) (j : Nat) : (s.setL k l).le j = if j = k then l else s.le j := getD_set _ _ _ _ _ (by rw [h.l]; exact hk)
theorem opn_setO {s : St} (h : s.ok) {k : Nat} (hk : k < 64) (b : Bool) (j : Nat) : (s.setO k b).opn j = if j = k then b else s.opn j := getD_set _ _ _ _ _ (by rw [h.o]; exact hk)
theorem unt_setU {s : St} (h : s.ok) {k : Nat} (hk : k < 64) (u : Int) (j : Nat) : (s.setU k u).unt j = if j = k then u else s.unt j := getD_set _ _ _ _ _ (by rw [h.u]; exact hk)
def Rel (sl : Sl) (op : Bool) (le : Le) (un : Int) : Prop := (sl = zSl ∧ op = false ∧ un = -1) ∨ (sl.g = true ∧ op = !sl.e ∧ le = sl.l ∧ un = sl.top ∧ sl.l.un = sl.top ∧ 0 ≤ sl.top)
theorem Rel.inB {sl : Sl} {op : Bool} {le : Le} {un t : Int} (h : Rel sl op le un) : sl.inB t = (op && decide (t ≤ le.un)) := by
 rcases h with ⟨rfl, rfl, rfl⟩ | ⟨hg, rfl, rfl, rfl, hu, h0⟩
 ·rfl
 ·unfold Sl.inB
  rw [hg, Bool.true_and]
theorem Rel.grant {sl : Sl} {op : Bool} {le : Le} {un : Int} {x : S51} (h : Rel sl op le un) (hx : OkP x) (e : x.f5 = 1) :
 sl.fitsB x = decide (un < x.f4) ∧ (un < x.f4 → Rel (sl.takeS x) true ⟨x.f1, x.f0, x.f6, x.f7, x.f8, x.f4, x.f9, false⟩ x.f9) := by
 have hk : x.f4 + 1 ≤ x.f9 := by
  rcases hx.kind with h | h | h | h | h | h | h <;> omega
 have h4 := hx.f4
 rcases h with ⟨rfl, rfl, rfl⟩ | ⟨hg, rfl, rfl, rfl, hu, h0⟩
 ·refine ⟨?_, fun _ => .inr ?_⟩
  ·unfold Sl.fitsB
   rw [if_pos e, decide_eq_true (show (-1 : Int) < x.f4 by omega)]
   rfl
  ·unfold Sl.takeS
   rw [if_pos e]
   have hm : mxI (zSl).top x.f9 = x.f9 := if_pos (show (0 : Int) < x.f9 by omega)
   exact ⟨rfl, rfl, rfl, hm.symm, hm.symm, by show 0 ≤ mxI zSl.top x.f9; rw [hm]; omega⟩
 ·refine ⟨?_, fun hl => .inr ?_⟩
  ·unfold Sl.fitsB
   rw [if_pos e, hg]
   rfl
  ·unfold Sl.takeS
   rw [if_pos e]
   have hm : mxI sl.top x.f9 = x.f9 := if_pos (by omega)
   exact ⟨rfl, rfl, rfl, hm.symm, hm.symm, by show 0 ≤ mxI sl.top x.f9; rw [hm]; omega⟩
theorem Rel.renew {sl : Sl} {op : Bool} {le : Le} {un : Int} {x : S51} (h : Rel sl op le un) (e : x.f5 = 2) :
 sl.fitsB x = ((op && decide (x.f4 ≤ le.un)) && decide (un < x.f9)) ∧ ((op && decide (x.f4 ≤ le.un)) = true → un < x.f9 → Rel (sl.takeS x) op (le.till x.f9) x.f9) := by
 have hin := h.inB (t := x.f4)
 have e1 : ¬ x.f5 = 1 := by omega
 rcases h with ⟨rfl, rfl, rfl⟩ | ⟨hg, rfl, rfl, rfl, hu, h0⟩
 ·refine ⟨?_, fun hf => by cases hf⟩
  unfold Sl.fitsB
  rw [if_neg e1, if_pos e, hin]
  rfl
 ·refine ⟨?_, fun _ hl => .inr ?_⟩
  ·unfold Sl.fitsB
   rw [if_neg e1, if_pos e, hin]
  ·unfold Sl.takeS
   rw [if_neg e1, if_pos e]
   have hm : mxI sl.top x.f9 = x.f9 := if_pos hl
   have hm2 : mxI sl.l.un x.f9 = x.f9 := by rw [hu]; exact hm
   refine ⟨hg, rfl, ?_, hm.symm, ?_, by show 0 ≤ mxI sl.top x.f9; rw [hm]; omega⟩
   ·show Le.till sl.l x.f9 = _
    unfold Le.till
    rw [hm2]
   ·show mxI sl.l.un x.f9 = mxI sl.top x.f9
    rw [hm, hm2]
theorem Rel.stop {sl : Sl} {op : Bool} {le : Le} {un : Int} {x : S51} (h : Rel sl op le un) (hx : OkP x) (e : x.f5 = 3 ∨ x.f5 = 5) :
 sl.fitsB x = (op && decide (x.f4 ≤ le.un)) ∧ ((op && decide (x.f4 ≤ le.un)) = true → Rel (sl.takeS x) false le un) := by
 have hin := h.inB (t := x.f4)
 have e1 : ¬ x.f5 = 1 := by omega
 have e2 : ¬ x.f5 = 2 := by omega
 have h9 : x.f9 = 0 := by rcases hx.kind with h | h | h | h | h | h | h <;> omega
 rcases h with ⟨rfl, rfl, rfl⟩ | ⟨hg, rfl, rfl, rfl, hu, h0⟩
 ·refine ⟨?_, fun hf => by cases hf⟩
  unfold Sl.fitsB
  rw [if_neg e1, if_neg e2, if_pos e, hin]
 ·refine ⟨?_, fun _ => .inr ?_⟩
  ·unfold Sl.fitsB
   rw [if_neg e1, if_neg e2, if_pos e, hin]
  ·unfold Sl.takeS
   rw [if_neg e1, if_neg e2, if_pos e]
   have hm : mxI sl.top x.f9 = sl.top := if_neg (by omega)
   exact ⟨hg, rfl, rfl, hm.symm, by show sl.l.un = mxI sl.top x.f9; rw [hm, hu], by show 0 ≤ mxI sl.top x.f9; rw [hm]; exact h0⟩
theorem Rel.receipt {sl : Sl} {op : Bool} {le : Le} {un : Int} {x : S51} (h : Rel sl op le un) (hx : OkP x) (e : x.f5 = 4) :
 sl.fitsB x = ((op && decide (x.f4 ≤ le.un)) && (decide (le.h = x.f7) && decide (le.z = x.f8))) ∧ ((op && decide (x.f4 ≤ le.un)) = true → Rel (sl.takeS x) op le.got un) := by
 have hin := h.inB (t := x.f4)
 have e1 : ¬ x.f5 = 1 := by omega
 have e2 : ¬ x.f5 = 2 := by omega
 have e3 : ¬ (x.f5 = 3 ∨ x.f5 = 5) := by omega
 have h9 : x.f9 = 0 := by rcases hx.kind with h | h | h | h | h | h | h <;> omega
 rcases h with ⟨rfl, rfl, rfl⟩ | ⟨hg, rfl, rfl, rfl, hu, h0⟩
 ·refine ⟨?_, fun hf => by cases hf⟩
  unfold Sl.fitsB
  rw [if_neg e1, if_neg e2, if_neg e3, hin]
  rfl
 ·refine ⟨?_, fun _ => .inr ?_⟩
  ·unfold Sl.fitsB
   rw [if_neg e1, if_neg e2, if_neg e3, hin]
   rfl
  ·unfold Sl.takeS
   rw [if_neg e1, if_neg e2, if_neg e3]
   have hm : mxI sl.top x.f9 = sl.top := if_neg (by omega)
   exact ⟨hg, rfl, rfl, hm.symm, by show sl.l.un = mxI sl.top x.f9; rw [hm, hu], by show 0 ≤ mxI sl.top x.f9; rw [hm]; exact h0⟩
def RelAll (ss : List Sl) (s : St) : Prop := ss.length = 64 ∧ s.ok ∧ ∀ k, k < 64 → Rel (ss.getD k zSl) (s.opn k) (s.le k) (s.unt k)
theorem RelAll.put {ss : List Sl} {s s' : St} {k : Nat} {sl' : Sl} (h : RelAll ss s) (hk : k < 64) (hok : s'.ok) (hj : ∀ j, j ≠ k → s'.opn j = s.opn j ∧ s'.le j = s.le j ∧ s'.unt j = s.unt j) (hR : Rel sl' (s'.opn k) (s'.le k) (s'.unt k)) : RelAll (ss.set k sl') s' := by
 obtain ⟨h1, h2, h3⟩ := h
 refine ⟨by rw [List.length_set]; exact h1, hok, fun j hj64 => ?_⟩
 rw [getD_set _ _ _ _ _ (by rw [h1]; exact hk)]
 by_cases e : j = k
 ·rw [if_pos e, e]
  exact hR
 ·rw [if_neg e, (hj j e).1, (hj j e).2.1, (hj j e).2.2]
  exact h3 j hj64
theorem slot_of {x : S51} (hx : OkP x) (h1 : 1 ≤ x.f5) (h5 : x.f5 ≤ 5) : x.f6.toNat < 64 := by
 rcases hx.kind with h | h | h | h | h | h | h <;> omega
theorem RelAll.step {ss : List Sl} {s : St} {x : S51} (h : RelAll ss s) (hx : OkP x) (h1 : 1 ≤ x.f5) (h5 : x.f5 ≤ 5) :
 (s.sayS x = none ∧ (rdS ss x.f6).fitsB x = false) ∨ ∃ s', s.sayS x = some s' ∧ (rdS ss x.f6).fitsB x = true ∧ RelAll (ss.set x.f6.toNat ((rdS ss x.f6).takeS x)) s' := by
 have hk := slot_of hx h1 h5
 have hok := h.2.1
 have R : Rel (rdS ss x.f6) (s.opn x.f6.toNat) (s.le x.f6.toNat) (s.unt x.f6.toNat) := h.2.2 _ hk
 have hin : s.force x.f6.toNat x.f4 = (s.opn x.f6.toNat && decide (x.f4 ≤ (s.le x.f6.toNat).un)) := rfl
 unfold St.sayS
 by_cases e1 : x.f5 = 1
 ·obtain ⟨g1, g2⟩ := R.grant hx e1
  rw [if_pos e1]
  by_cases c : x.f4 ≤ s.unt x.f6.toNat
  ·exact .inl ⟨if_pos c, by rw [g1, decide_eq_false (by omega)]⟩
  ·refine .inr ⟨_, if_neg c, by rw [g1, decide_eq_true (by omega)], h.put hk (((hok.setL _ _).setO _ _).setU _ _) (fun j hj => ⟨?_, ?_, ?_⟩) ?_⟩
   ·exact (opn_setO (hok.setL _ _) hk _ j).trans (if_neg hj)
   ·exact (le_setL hok hk _ j).trans (if_neg hj)
   ·exact (unt_setU ((hok.setL _ _).setO _ _) hk _ j).trans (if_neg hj)
   ·have a1 : ((s.setL x.f6.toNat ⟨x.f1, x.f0, x.f6, x.f7, x.f8, x.f4, x.f9, false⟩).setO x.f6.toNat true).opn x.f6.toNat = true := (opn_setO (hok.setL _ _) hk _ _).trans (if_pos rfl)
    have a2 : (s.setL x.f6.toNat ⟨x.f1, x.f0, x.f6, x.f7, x.f8, x.f4, x.f9, false⟩).le x.f6.toNat = ⟨x.f1, x.f0, x.f6, x.f7, x.f8, x.f4, x.f9, false⟩ := (le_setL hok hk _ _).trans (if_pos rfl)
    have a3 : (((s.setL x.f6.toNat ⟨x.f1, x.f0, x.f6, x.f7, x.f8, x.f4, x.f9, false⟩).setO x.f6.toNat true).setU x.f6.toNat x.f9).unt x.f6.toNat = x.f9 := (unt_setU ((hok.setL _ _).setO _ _) hk _ _).trans (if_pos rfl)
    show Rel _ (((s.setL x.f6.toNat ⟨x.f1, x.f0, x.f6, x.f7, x.f8, x.f4, x.f9, false⟩).setO x.f6.toNat true).opn x.f6.toNat) ((s.setL x.f6.toNat ⟨x.f1, x.f0, x.f6, x.f7, x.f8, x.f4, x.f9, false⟩).le x.f6.toNat) _
    rw [a1, a2, a3]
    exact g2 (by omega)
 rw [if_neg e1]
 by_cases e2 : x.f5 = 2
 ·obtain ⟨g1, g2⟩ := R.renew e2
  rw [if_pos e2]
  cases hf : s.force x.f6.toNat x.f4 with
  | false => exact .inl ⟨if_neg (by decide), by rw [g1, ← hin, hf]; rfl⟩
  | true =>
   rw [if_pos rfl]
   by_cases c : x.f9 ≤ s.unt x.f6.toNat
   ·exact .inl ⟨if_pos c, by rw [g1, decide_eq_false (show ¬ s.unt x.f6.toNat < x.f9 by omega), Bool.and_false]⟩
   ·refine .inr ⟨_, if_neg c, by rw [g1, ← hin, hf, decide_eq_true (show s.unt x.f6.toNat < x.f9 by omega)]; rfl, h.put hk ((hok.setL _ _).setU _ _) (fun j hj => ⟨rfl, (le_setL hok hk _ j).trans (if_neg hj), (unt_setU (hok.setL _ _) hk _ j).trans (if_neg hj)⟩) ?_⟩
    have a2 := (le_setL hok hk ((s.le x.f6.toNat).till x.f9) x.f6.toNat).trans (if_pos rfl)
    have a3 := (unt_setU (hok.setL x.f6.toNat ((s.le x.f6.toNat).till x.f9)) hk x.f9 x.f6.toNat).trans (if_pos rfl)
    show Rel _ (s.opn x.f6.toNat) ((s.setL x.f6.toNat ((s.le x.f6.toNat).till x.f9)).le x.f6.toNat) _
    rw [a2, a3]
    exact g2 (by rw [← hin]; exact hf) (by omega)
 rw [if_neg e2]
 by_cases e3 : x.f5 = 3 ∨ x.f5 = 5
 ·obtain ⟨g1, g2⟩ := R.stop hx e3
  rw [if_pos e3]
  cases hf : s.force x.f6.toNat x.f4 with
  | false => exact .inl ⟨if_neg (by decide), by rw [g1, ← hin, hf]⟩
  | true =>
   refine .inr ⟨_, if_pos rfl, by rw [g1, ← hin, hf], h.put hk (hok.setO _ _) (fun j hj => ⟨(opn_setO hok hk _ j).trans (if_neg hj), rfl, rfl⟩) ?_⟩
   have a1 := (opn_setO hok hk false x.f6.toNat).trans (if_pos rfl)
   show Rel _ ((s.setO x.f6.toNat false).opn x.f6.toNat) (s.le x.f6.toNat) (s.unt x.f6.toNat)
   rw [a1]
   exact g2 (by rw [← hin]; exact hf)
 rw [if_neg e3]
 have e4 : x.f5 = 4 := by omega
 obtain ⟨g1, g2⟩ := R.receipt hx e4
 rw [if_pos e4]
 cases hf : s.force x.f6.toNat x.f4 with
 | false => exact .inl ⟨if_neg (by decide), by rw [g1, ← hin, hf]; rfl⟩
 | true =>
  rw [if_pos rfl]
  by_cases c3 : (s.le x.f6.toNat).h = x.f7
  ·rw [if_pos c3]
   by_cases c4 : (s.le x.f6.toNat).z = x.f8
   ·refine .inr ⟨_, if_pos c4, by rw [g1, ← hin, hf, decide_eq_true c3, decide_eq_true c4]; rfl, h.put hk (hok.setL _ _) (fun j hj => ⟨rfl, (le_setL hok hk _ j).trans (if_neg hj), rfl⟩) ?_⟩
    have a2 := (le_setL hok hk (s.le x.f6.toNat).got x.f6.toNat).trans (if_pos rfl)
    show Rel _ (s.opn x.f6.toNat) ((s.setL x.f6.toNat (s.le x.f6.toNat).got).le x.f6.toNat) (s.unt x.f6.toNat)
    rw [a2]
    exact g2 (by rw [← hin]; exact hf)
   ·exact .inl ⟨if_neg c4, by rw [g1, decide_eq_false c4, Bool.and_false, Bool.and_false]⟩
  ·exact .inl ⟨if_neg c3, by rw [g1, decide_eq_false c3, Bool.false_and, Bool.and_false]⟩
theorem sayS_rest {s : St} {x : S51} (h : ¬ (1 ≤ x.f5 ∧ x.f5 ≤ 5)) : s.sayS x = some s := by
 unfold St.sayS
 rw [if_neg (by omega), if_neg (by omega), if_neg (by omega), if_neg (by omega)]
theorem slotB_yes {x : S51} (h1 : 1 ≤ x.f5) (h5 : x.f5 ≤ 5) : slotB x = true := by
 unfold slotB
 rw [decide_eq_true h1, decide_eq_true h5]
 rfl
theorem slotB_no {x : S51} (h : ¬ (1 ≤ x.f5 ∧ x.f5 ≤ 5)) : slotB x = false := by
 unfold slotB
 by_cases h1 : 1 ≤ x.f5
 ·rw [decide_eq_false (show ¬ x.f5 ≤ 5 by omega), Bool.and_false]
 ·rw [decide_eq_false h1, Bool.false_and]
theorem right_too {l : List S51} (h9 : ∀ j : Nat, j < l.length → (rd_T51 l j).f9 ≤ 9223372036854775807) : ∀ (d i : Nat) (ss : List Sl) (s : St), i + d ≤ l.length → RelAll ss s → rrI l d i s = 0 → rightI l d i ss = 0
 | 0, i, ss, s, _, _, _ => rfl
 | d + 1, i, ss, s, hl, hR, h => by
  rw [rrI] at h
  rw [rightI]
  by_cases hv : validR (rd_T51 l i) = false
  ·rw [if_pos hv] at h
   cases h
  rw [if_neg hv] at h
  have hv1 : validR (rd_T51 l i) = true := by simpa using hv
  have hv2 := valid_too hv1 (h9 i (by omega))
  rw [if_neg (by rw [hv2]; decide)]
  by_cases hp : ((rd_T51 l i).f0 != (rd_T51 l 0).f0 || (rd_T51 l i).f1 != (rd_T51 l 0).f1) = true
  ·rw [if_pos hp] at h
   cases h
  rw [if_neg hp] at h ⊢
  by_cases ht : (decide (0 < i) && decide ((rd_T51 l i).f4 < (rd_T51 l ((i : Int) - 1)).f4)) = true
  ·rw [if_pos ht] at h
   cases h
  rw [if_neg ht] at h ⊢
  by_cases hs : 1 ≤ (rd_T51 l i).f5 ∧ (rd_T51 l i).f5 ≤ 5
  ·rcases hR.step (valid_ok hv1) hs.1 hs.2 with ⟨g1, g2⟩ | ⟨s', g1, g2, g3⟩
   ·rw [g1] at h
    cases h
   ·rw [g1] at h
    rw [slotB_yes hs.1 hs.2, if_neg (by decide), g2, if_neg (by decide)]
    exact right_too h9 d (i + 1) _ s' (by omega) g3 h
  ·rw [sayS_rest hs] at h
   rw [slotB_no hs, if_pos rfl]
   exact right_too h9 d (i + 1) ss s (by omega) hR h
theorem rel_zero : RelAll (List.replicate 64 zSl) St.zero := by
 refine ⟨List.length_replicate .., St.zero_ok, fun k hk => .inl ⟨?_, ?_, ?_⟩⟩
 ·rw [List.getD_eq_getElem?_getD, List.getElem?_replicate, if_pos hk]
  rfl
 ·unfold St.opn St.zero stI
  rw [List.getD_eq_getElem?_getD, List.getElem?_replicate, if_pos hk]
  rfl
 ·unfold St.unt St.zero stI unI
  rw [List.getD_eq_getElem?_getD, List.getElem?_append_left (by simpa using hk), List.getElem?_replicate, if_pos hk]
  rfl
theorem right_all {l : List S51} (h9 : ∀ j : Nat, j < l.length → (rd_T51 l j).f9 ≤ 9223372036854775807) (h : rrI l l.length 0 St.zero = 0) : rightI l l.length 0 (List.replicate 64 zSl) = 0 :=
 right_too h9 l.length 0 _ _ (by omega) rel_zero h
def RelF (f : Nat → Sl) (s : St) : Prop := s.ok ∧ ∀ k, k < 64 → Rel (f k) (s.opn k) (s.le k) (s.unt k)
theorem range_getD (f : Nat → Sl) (k : Nat) (hk : k < 64) : ((List.range 64).map f).getD k zSl = f k := by
 rw [List.getD_eq_getElem?_getD, List.getElem?_map, List.getElem?_range hk]
 rfl
theorem RelF.all {f : Nat → Sl} {s : St} (h : RelF f s) : RelAll ((List.range 64).map f) s :=
 ⟨by simp, h.1, fun k hk => by rw [range_getD f k hk]; exact h.2 k hk⟩
theorem RelF.step {f : Nat → Sl} {s s' : St} {x : S51} (h : RelF f s) (hx : OkP x) (h1 : 1 ≤ x.f5) (h5 : x.f5 ≤ 5) (hs : s.sayS x = some s') : RelF (fun j => if j = x.f6.toNat then (f j).takeS x else f j) s' := by
 have hk := slot_of hx h1 h5
 rcases h.all.step hx h1 h5 with ⟨g1, _⟩ | ⟨s2, g1, _, g3⟩
 ·rw [hs] at g1
  cases g1
 ·rw [hs] at g1
  injection g1 with g1
  subst g1
  refine ⟨g3.2.1, fun j hj => ?_⟩
  have := g3.2.2 j hj
  rw [getD_set _ _ _ _ _ (by simp; omega)] at this
  show Rel (if j = x.f6.toNat then (f j).takeS x else f j) _ _ _
  by_cases e : j = x.f6.toNat
  ·rw [if_pos e] at this ⊢
   have e2 : rdS ((List.range 64).map f) x.f6 = f j := by
    unfold rdS
    rw [e]
    exact range_getD f _ hk
   rw [e2] at this
   exact this
  ·rw [if_neg e, range_getD f j hj] at this
   rw [if_neg e]
   exact this
def slF (l : List S51) (t : Int) (k : Nat) : Sl := lastS (bucket l t k)
theorem slF_no {l : List S51} {t : Int} {i : Nat} {x : S51} (hi : i < l.length) (hx : l[i] = x) (hw : wantB t x = false) : slF (l.take (i + 1)) t = slF (l.take i) t := by
 funext k
 unfold slF
 rw [bucket_no hi hx hw]
theorem slF_yes {l : List S51} {t : Int} {i : Nat} {x : S51} (hi : i < l.length) (hx : l[i] = x) (hw : wantB t x = true) : slF (l.take (i + 1)) t = fun j => if j = x.f6.toNat then (slF (l.take i) t j).takeS x else slF (l.take i) t j := by
 funext k
 unfold slF
 rw [bucket_yes hi hx hw]
 by_cases e : k = x.f6.toNat
 ·rw [if_pos e, if_pos e, e]
  unfold lastS
  rw [List.foldl_append]
  rfl
 ·rw [if_neg e, if_neg e]
theorem rd_is {l : List S51} {i : Nat} (hi : i < l.length) : l[i] = rd_T51 l i := by
 unfold rd_T51
 rw [Int.toNat_natCast, List.getD_eq_getElem?_getD, List.getElem?_eq_getElem hi]
 rfl
theorem rr_ticks {l : List S51} : ∀ (d i : Nat) (s : St), rrI l d i s = 0 → ∀ j : Nat, i ≤ j → j < i + d → 0 < j → (rd_T51 l ((j : Int) - 1)).f4 ≤ (rd_T51 l j).f4
 | 0, i, s, _, j, h1, h2, _ => by omega
 | d + 1, i, s, h, j, h1, h2, h3 => by
  rw [rrI] at h
  split at h
  ·cases h
  ·split at h
   ·cases h
   ·split at h
    ·cases h
    ·rename_i ht
     by_cases e : j = i
     ·subst e
      rw [decide_eq_true h3, Bool.true_and, decide_eq_true_eq] at ht
      omega
     ·split at h
      ·cases h
      ·exact rr_ticks d (i + 1) _ h j (by omega) (by omega) h3
theorem late_rest {l : List S51} {t : Int} (i : Nat) (hl : ∀ j, i ≤ j → j < l.length → t < (rd_T51 l j).f4) : ∀ m, i + m ≤ l.length → slF (l.take (i + m)) t = slF (l.take i) t ∧ rstA (l.take (i + m)) t = rstA (l.take i) t
 | 0, _ => ⟨rfl, rfl⟩
 | m + 1, h => by
  obtain ⟨a, b⟩ := late_rest i hl m (by omega)
  have hi : i + m < l.length := by omega
  have ht := hl (i + m) (by omega) hi
  have hw : wantB t (rd_T51 l ((i + m : Nat) : Int)) = false := by
   unfold wantB
   rw [decide_eq_false (show ¬ (rd_T51 l ((i + m : Nat) : Int)).f4 ≤ t by omega), Bool.and_false]
  refine ⟨?_, ?_⟩
  ·rw [show i + (m + 1) = (i + m) + 1 by omega, slF_no hi (rd_is hi) hw]
   exact a
  ·rw [show i + (m + 1) = (i + m) + 1 by omega, rstA_succ hi (rd_is hi)]
   unfold rstep
   rw [if_neg (show ¬ (rd_T51 l ((i + m : Nat) : Int)).f4 ≤ t by omega)]
   exact b
theorem ticks_up {l : List S51} {i : Nat} (h : ∀ j : Nat, i < j → j < l.length → (rd_T51 l ((j : Int) - 1)).f4 ≤ (rd_T51 l j).f4) : ∀ m, i + m < l.length → (rd_T51 l i).f4 ≤ (rd_T51 l ((i + m : Nat) : Int)).f4
 | 0, _ => Int.le_refl _
 | m + 1, hm => by
  have a := ticks_up h m (by omega)
  have b := h (i + m + 1) (by omega) (by omega)
  rw [show (((i + m + 1 : Nat) : Int) - 1) = ((i + m : Nat) : Int) by omega] at b
  exact Int.le_trans a b
theorem leases_rel {l : List S51} {t : Int} : ∀ (d i : Nat) (s : St), i + d = l.length → rrI l d i s = 0 → s = rstA (l.take i) t → RelF (slF (l.take i) t) s → RelF (slF l t) (rstA l t)
 | 0, i, s, hd, h, hs, hR => by
  have e : l.take i = l := by rw [show i = l.length by omega, List.take_length]
  rw [e] at hs hR
  rw [← hs]
  exact hR
 | d + 1, i, s, hd, h, hs, hR => by
  have hi : i < l.length := by omega
  have hv := rr_ok (d + 1) i s h i (Nat.le_refl _) (by omega)
  have htk := rr_ticks (d + 1) i s h
  by_cases hlt : (rd_T51 l i).f4 ≤ t
  ·rw [rrI] at h
   split at h
   ·cases h
   split at h
   ·cases h
   split at h
   ·cases h
   split at h
   ·cases h
   rename_i s' hsay
   refine leases_rel d (i + 1) s' (by omega) h ?_ ?_
   ·rw [rstA_succ hi (rd_is hi), ← hs]
    unfold rstep
    rw [if_pos hlt, hsay]
    rfl
   ·by_cases hsl : 1 ≤ (rd_T51 l i).f5 ∧ (rd_T51 l i).f5 ≤ 5
    ·rw [slF_yes hi (rd_is hi) (by unfold wantB; rw [slotB_yes hsl.1 hsl.2, decide_eq_true hlt]; rfl)]
     exact hR.step (valid_ok hv) hsl.1 hsl.2 hsay
    ·rw [sayS_rest hsl] at hsay
     injection hsay with hsay
     rw [slF_no hi (rd_is hi) (by unfold wantB; rw [slotB_no hsl]; rfl), ← hsay]
     exact hR
  ·have hlate : ∀ j, i ≤ j → j < l.length → t < (rd_T51 l j).f4 := by
    intro j h1 h2
    have := ticks_up (l := l) (i := i) (fun q hq1 hq2 => htk q (by omega) (by omega) (by omega)) (j - i) (by omega)
    rw [show i + (j - i) = j by omega] at this
    omega
   obtain ⟨a, b⟩ := late_rest i hlate (l.length - i) (by omega)
   rw [show i + (l.length - i) = l.length by omega, List.take_length] at a b
   rw [a, b, ← hs]
   exact hR
theorem leases_rel_all {l : List S51} {t : Int} (h : rrI l l.length 0 St.zero = 0) : RelF (slF l t) (rstA l t) :=
 leases_rel l.length 0 St.zero (by omega) h rfl ⟨St.zero_ok, fun k hk => by
  have := rel_zero.2.2 k hk
  have e : slF (l.take 0) t k = zSl := rfl
  rw [e]
  have e2 : (List.replicate 64 zSl).getD k zSl = zSl := by
   rw [List.getD_eq_getElem?_getD, List.getElem?_replicate, if_pos hk]
   rfl
  rw [e2] at this
  exact this⟩
theorem flatMap_eq {α β : Type} (f g : α → List β) : ∀ l : List α, (∀ a ∈ l, f a = g a) → l.flatMap f = l.flatMap g
 | [], _ => rfl
 | a :: l, h => by rw [List.flatMap_cons, List.flatMap_cons, h a (by simp), flatMap_eq f g l (fun b hb => h b (by simp [hb]))]
theorem leases_same {l : List S51} {t : Int} (h : rrI l l.length 0 St.zero = 0) : leasesL l t 64 = rleases (rstA l t) t 64 := by
 have hR := leases_rel_all (t := t) h
 unfold leasesL rleases
 refine flatMap_eq _ _ _ fun k hk => ?_
 have hk64 : k < 64 := List.mem_range.mp hk
 have r := hR.2 k hk64
 have e1 : (lastS (bucket l t k)).inB t = (rstA l t).force k t := r.inB
 unfold inForce rforce
 rw [e1]
 cases hf : (rstA l t).force k t with
 | false => rfl
 | true =>
  rcases r with ⟨_, ho, _⟩ | ⟨_, _, hle, _⟩
  ·unfold St.force at hf
   rw [ho] at hf
   cases hf
  ·have hle2 : (lastS (bucket l t k)).l = (rstA l t).le k := hle.symm
   rw [hle2]
   rfl
end Go.Proofs.YtcgpbmafkgbbdaaDoor.Pure
