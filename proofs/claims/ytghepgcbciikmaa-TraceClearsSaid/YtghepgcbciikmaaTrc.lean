/- Traces between three peers and a fourth: what is made of a deck is a right trace; what is missing, and what a record counts. -/
import Derived.Test.YtghepgcbciikmaaPAx0
import Derived.Test.YtghepgcbciikmaaPAx2
import Derived.Test.YtghepgcbciikmaaPAx3
import Derived.Test.YtghepgcbciikmaaPAx5
import Derived.Test.YtghepgcbciikmaaPAx13
import Derived.Test.YtghepgcbciikmaaPAx17
import Derived.Test.YtghepgcbciikmaaPAx18
import Derived.Test.YtghepgcbciikmaaPAx20
import Derived.Test.YtghepgcbciikmaaPAx28
import Derived.Test.YtghepgcbciikmaaPAx29
import Derived.Test.YtghepgcbciikmaaPAx30
import Derived.Test.YtghepgcbciikmaaPAx31
import Derived.Test.YtghepgcbciikmaaPAx32
import Derived.Test.YtghepgcbciikmaaPAx33
import Derived.Test.YtghepgcbciikmaaPAx34
import Derived.Test.YtghepgcbciikmaaPAx35
import Derived.Test.YtghepgcbciikmaaPAx36
import Derived.Test.YtghepgcbciikmaaDeck
set_option linter.unusedVariables false
namespace Go.Proofs.Ytghepgcbciikmaa.PA
open Go.RowKit Go.Proofs.YtghepgcbciikmaaW.PrintWords Go.Proofs.YtghepgcbciikmaaW.PrintLast

theorem rdlt {l : List S35} {i : Nat} (h : i < l.length) : rd_T35 l (i : Int) = l[i] := by
  unfold rd_T35
  rw [Int.toNat_natCast, List.getD_eq_getElem?_getD, List.getElem?_eq_getElem h]
  rfl
theorem nx {i : Nat} (h : i ≤ 4611686018427387904) : wrap64 ((i : Int) + 1) = ((i + 1 : Nat) : Int) := by
  rw [w64 (by omega) (by omega)]
  omega
/-- A row that a deck makes. -/
structure Rw (x : S35) : Prop where
  r0 : 1 ≤ x.f0 ∧ x.f0 ≤ 3
  r1 : x.f1 = 4
  r2 : 1 ≤ x.f2 ∧ x.f2 ≤ 2
  r3 : 0 ≤ x.f3 ∧ x.f3 ≤ 3
  r4 : 0 ≤ x.f4 ∧ x.f4 ≤ 11
  r5 : 0 ≤ x.f5 ∧ x.f5 ≤ 16
def Asc35 (l : List S35) : Prop := l.Pairwise (fun a b => a.f4 ≤ b.f4)
def Apart35 (l : List S35) : Prop := l.Pairwise (fun a b => trace_valid.key a ≠ trace_valid.key b)
structure Tr (l : List S35) : Prop where
  row : ∀ x ∈ l, Rw x
  asc : Asc35 l
  one : Apart35 l
  len : l.length ≤ 100
theorem Tr.sub {l m : List S35} (h : Tr l) (s : m.Sublist l) : Tr m :=
  ⟨fun x hx => h.row x (s.subset hx), h.asc.sublist s, h.one.sublist s, Nat.le_trans s.length_le h.len⟩
theorem Tr.nil : Tr [] := ⟨by simp, List.Pairwise.nil, List.Pairwise.nil, by simp⟩
theorem in_is (a b c : Int) : storagebarterref19_in.f a b c = some (decide (b ≤ a ∧ a ≤ c)) := by
  unfold storagebarterref19_in.f
  by_cases h : a ≥ b
  · rw [if_pos h]
    congr 1
    by_cases h2 : a ≤ c
    · rw [decide_eq_true h2, decide_eq_true ⟨h, h2⟩]
    · rw [decide_eq_false h2, decide_eq_false (fun e => h2 e.2)]
  · rw [if_neg h, decide_eq_false (fun e => h e.1)]
theorem rvalid {x : S35} (h : Rw x) : storagebarterref19_valid.f x.f0 x.f1 x.f2 x.f3 x.f4 x.f5 = some true := by
  obtain ⟨r0, r1, r2, r3, r4, r5⟩ := h
  unfold storagebarterref19_valid.f
  simp only [in_is, Option.bind_some]
  rw [if_pos (decide_eq_true (by omega)), if_pos (decide_eq_true (by omega)), if_neg (by omega), if_pos (decide_eq_true (by omega)), if_pos (decide_eq_true (by omega)), if_pos (decide_eq_true (by omega)), decide_eq_true (by omega)]
theorem person_is {n : Int} (h : 1 ≤ n ∧ n < 2147483647) : trace_person.f n = some true := by
  unfold trace_person.f
  rw [if_pos h.1, decide_eq_true h.2]
theorem tproper {x : S35} (h : Rw x) : trace_proper.f x.f0 x.f1 x.f2 x.f3 x.f4 x.f5 = some true := by
  obtain ⟨r0, r1, r2, r3, r4, r5⟩ := h
  unfold trace_proper.f
  rw [person_is (by omega), person_is (by omega)]
  simp only [Option.bind_some, if_true]
  rw [if_neg (by omega), if_pos (by omega), if_pos (by omega), if_pos (by omega), if_pos (by omega), if_pos (by omega), if_pos (by omega), if_pos (by omega), decide_eq_true (by omega)]
theorem one_is (x0 x1 x2 x3 x4 x5 y0 y1 y2 y3 y4 y5 : Int) : storagebarterref19_one.f x0 x1 x2 x3 x4 x5 y0 y1 y2 y3 y4 y5 = some (decide ((x0, x1, x2, x3) = (y0, y1, y2, y3))) := by
  unfold storagebarterref19_one.f
  by_cases h0 : x0 = y0
  · by_cases h1 : x1 = y1
    · by_cases h2 : x2 = y2
      · by_cases h3 : x3 = y3
        · simp [h0, h1, h2, h3]
        · simp [h0, h1, h2, h3]
      · simp [h0, h1, h2]
    · simp [h0, h1]
  · simp [h0]
theorem key_is (x : S35) : trace_valid.key x = (x.f0, x.f1, x.f2, x.f3) := rfl
theorem Tr.at_ {l : List S35} (h : Tr l) {i : Nat} (hi : i < l.length) : Rw l[i] := h.row _ (List.getElem_mem hi)
theorem Tr.lt {l : List S35} (h : Tr l) {i j : Nat} (hij : i < j) (hj : j < l.length) : l[i].f4 ≤ l[j].f4 := List.pairwise_iff_getElem.mp h.asc i j (by omega) hj hij
theorem Tr.ne {l : List S35} (h : Tr l) {i j : Nat} (hij : i < j) (hj : j < l.length) : trace_valid.key l[i] ≠ trace_valid.key l[j] := List.pairwise_iff_getElem.mp h.one i j (by omega) hj hij
/-- The program's check. -/
theorem okB_tr {l : List S35} (h : Tr l) : trace_valid.okB l = true := by
  have hl := h.len
  unfold trace_valid.okB
  rw [if_neg (by omega), List.all_eq_true]
  intro i hi
  have hi := List.mem_range.mp hi
  unfold trace_valid.okAt
  rw [rdlt hi, tproper (h.at_ hi), if_neg (by simp), if_neg, if_neg]
  · rintro ⟨h1, h2⟩
    have e : (i : Int) - 1 = ((i - 1 : Nat) : Int) := by omega
    rw [e, rdlt (by omega)] at h2
    have := h.lt (show i - 1 < i by omega) hi
    omega
  · intro hm
    obtain ⟨y, hy, e⟩ := List.mem_map.mp hm
    obtain ⟨j, hj, rfl⟩ := List.mem_iff_getElem.mp hy
    rw [List.length_take] at hj
    rw [List.getElem_take] at e
    exact h.ne (show j < i by omega) hi e
theorem valid_tr {l : List S35} (h : Tr l) : trace_valid.f l = some true := by
  unfold trace_valid.f
  rw [okB_tr h]
/-- The reference's check. -/
theorem check_in {l : List S35} (h : Tr l) {i : Nat} (hi : i < l.length) (r : Int) (hr : Ev (fun k => storagebarterref19_Check.l0 k l (l.length : Int) ((i + 1 : Nat) : Int) l) r) : ∀ (d j : Nat), j + d = i →
    Ev (fun k => storagebarterref19_Check.l1 k l (l.length : Int) (i : Int) (l.take i) (i : Int) (j : Int) l l[i].f0 l[i].f1 l[i].f2 l[i].f3 l[i].f4 l[i].f5) r
  | 0, j, hj => by
    have hl := h.len
    refine Ev.step (fun k => ?_) hr
    rw [storagebarterref19_Check.l1, if_neg (by omega), nx (by omega)]
  | d + 1, j, hj => by
    have hl := h.len
    have hji : j < i := by omega
    refine Ev.step (fun k => ?_) (check_in h hi r hr d (j + 1) (by omega))
    have hjt : j < (l.take i).length := by rw [List.length_take]; omega
    rw [storagebarterref19_Check.l1, if_pos (by omega), if_pos (by omega), if_pos (by omega), rdlt hjt, one_is, nx (by omega)]
    simp only [Option.bind_some]
    rw [if_neg]
    intro e
    have e := of_decide_eq_true e
    rw [List.getElem_take] at e
    exact h.ne hji hi e.symm
theorem check_out {l : List S35} (h : Tr l) : ∀ (d i : Nat), i + d = l.length → Ev (fun k => storagebarterref19_Check.l0 k l (l.length : Int) (i : Int) l) 0
  | 0, i, hi => by
    refine Ev.step (fun k => ?_) (Ev.now _)
    rw [storagebarterref19_Check.l0, if_neg (by omega)]
  | d + 1, i, hi => by
    have hl := h.len
    have hil : i < l.length := by omega
    have h1 := check_in h hil 0 (check_out h d (i + 1) (by omega)) i 0 (by omega)
    have h2 : Ev (fun k => storagebarterref19_Check.j1 k (i : Int) l (l.length : Int) (i : Int) false l l[i].f0 l[i].f1 l[i].f2 l[i].f3 l[i].f4 l[i].f5) 0 := by
      refine Ev.step (fun k => ?_) h1
      have e : ((l.take i).length : Int) = (i : Int) := by rw [List.length_take]; omega
      rw [storagebarterref19_Check.j1, if_neg (by simp), if_pos (by omega), if_pos (by omega), Option.bind_some, Int.toNat_natCast, e]
      rfl
    refine Ev.step (fun k => ?_) h2
    rw [storagebarterref19_Check.l0, if_pos (by omega), if_pos (by omega), if_pos (by omega), rdlt hil, rvalid (h.at_ hil)]
    simp only [Option.bind_some, if_true]
    by_cases c : (i : Int) > 0
    · have e : wrap64 ((i : Int) - 1) = ((i - 1 : Nat) : Int) := by rw [w64 (by omega) (by omega)]; omega
      rw [if_pos c, e, if_pos (by omega), if_pos (by omega), rdlt (by omega), decide_eq_false]
      have := h.lt (show i - 1 < i by omega) hil
      omega
    · rw [if_neg c]
theorem check_tr {l : List S35} (h : Tr l) : Ev (fun k => storagebarterref19_Check.f k l) 0 := by
  refine Ev.congr (fun k => ?_) (check_out h l.length 0 (by omega))
  have hl := h.len
  unfold storagebarterref19_Check.f
  rw [if_neg (by omega)]
  rfl
/-- The reference's place of a message. -/
theorem find_tr {l : List S35} (hl : l.length ≤ 100) (e0 e1 e2 e3 e4 e5 : Int) : ∀ (d i : Nat), i + d = l.length → ∃ v, Ev (fun k => storagebarterref19_find.l0 k l (l.length : Int) (i : Int) e0 e1 e2 e3 e4 e5) v ∧ ((v = -1 ∧ ∀ x ∈ l.drop i, trace_valid.key x ≠ (e0, e1, e2, e3)) ∨ ∃ j : Nat, v = j ∧ j < l.length)
  | 0, i, hi => by
    refine ⟨-1, Ev.step (fun k => ?_) (Ev.now _), .inl ⟨rfl, ?_⟩⟩
    · rw [storagebarterref19_find.l0, if_neg (by omega)]
    · rw [List.drop_eq_nil_of_le (by omega)]
      simp
  | d + 1, i, hi => by
    have hil : i < l.length := by omega
    by_cases c : trace_valid.key l[i] = (e0, e1, e2, e3)
    · refine ⟨i, Ev.step (fun k => ?_) (Ev.now _), .inr ⟨i, rfl, hil⟩⟩
      rw [storagebarterref19_find.l0, if_pos (by omega), if_pos (by omega), if_pos (by omega), rdlt hil, one_is]
      simp only [Option.bind_some]
      rw [← key_is, if_pos (decide_eq_true c)]
    · obtain ⟨v, hv, hc⟩ := find_tr hl e0 e1 e2 e3 e4 e5 d (i + 1) (by omega)
      refine ⟨v, Ev.step (fun k => ?_) hv, ?_⟩
      · rw [storagebarterref19_find.l0, if_pos (by omega), if_pos (by omega), if_pos (by omega), rdlt hil, one_is, nx (by omega)]
        simp only [Option.bind_some]
        rw [← key_is, if_neg (fun e => c (of_decide_eq_true e))]
      · rcases hc with ⟨h1, h2⟩ | h1
        · refine .inl ⟨h1, fun x hx => ?_⟩
          rw [List.drop_eq_getElem_cons hil] at hx
          rcases List.mem_cons.mp hx with rfl | hx
          · exact c
          · exact h2 x hx
        · exact .inr h1
theorem ins_tr {l : List S35} (h : Tr l) (hl : l.length ≤ 99) (e : S35) (he : Rw e) (hk : ∀ x ∈ l, trace_valid.key x ≠ trace_valid.key e) (i : Nat) (hi : i ≤ l.length) (h1 : ∀ j (hj : j < l.length), j < i → l[j].f4 ≤ e.f4) (h2 : ∀ (hj : i < l.length), e.f4 < l[i].f4) : Tr (l.take i ++ [e] ++ l.drop i) := by
  have hmem : ∀ x, x ∈ l.take i ++ [e] ++ l.drop i → x = e ∨ x ∈ l := by
    intro x hx
    rcases List.mem_append.mp hx with hx | hx
    · rcases List.mem_append.mp hx with hx | hx
      · exact .inr (List.mem_of_mem_take hx)
      · exact .inl (List.mem_singleton.mp hx)
    · exact .inr (List.mem_of_mem_drop hx)
  have ht : ∀ x ∈ l.take i, x.f4 ≤ e.f4 := by
    intro x hx
    obtain ⟨j, hj, rfl⟩ := List.mem_iff_getElem.mp hx
    rw [List.length_take] at hj
    rw [List.getElem_take]
    exact h1 j (by omega) (by omega)
  have hd : ∀ x ∈ l.drop i, e.f4 < x.f4 := by
    intro x hx
    obtain ⟨j, hj, rfl⟩ := List.mem_iff_getElem.mp hx
    rw [List.length_drop] at hj
    rw [List.getElem_drop]
    rcases Nat.eq_zero_or_pos j with rfl | hp
    · exact h2 (by omega)
    · have := h2 (by omega)
      have := h.lt (show i < i + j by omega) (by omega)
      omega
  refine ⟨fun x hx => ?_, ?_, ?_, ?_⟩
  · rcases hmem x hx with rfl | hx
    · exact he
    · exact h.row x hx
  · unfold Asc35
    rw [List.append_assoc, List.pairwise_append]
    refine ⟨h.asc.sublist (List.take_sublist _ _), ?_, ?_⟩
    · rw [List.singleton_append, List.pairwise_cons]
      exact ⟨fun x hx => by have := hd x hx; omega, h.asc.sublist (List.drop_sublist _ _)⟩
    · intro a ha b hb
      have := ht a ha
      rw [List.singleton_append] at hb
      rcases List.mem_cons.mp hb with rfl | hb
      · exact this
      · have := hd b hb
        omega
  · unfold Apart35
    rw [List.append_assoc, List.pairwise_append]
    refine ⟨h.one.sublist (List.take_sublist _ _), ?_, ?_⟩
    · rw [List.singleton_append, List.pairwise_cons]
      exact ⟨fun x hx => (hk x (List.mem_of_mem_drop hx)).symm, h.one.sublist (List.drop_sublist _ _)⟩
    · intro a ha b hb
      rw [List.singleton_append] at hb
      rcases List.mem_cons.mp hb with rfl | hb
      · exact hk a (List.mem_of_mem_take ha)
      · have h3 := h.one
        unfold Apart35 at h3
        rw [← List.take_append_drop i l, List.pairwise_append] at h3
        exact h3.2.2 a ha b hb
  · rw [List.length_append, List.length_append, List.length_take, List.length_drop, List.length_singleton]
    omega
theorem expect_loop {l : List S35} (h : Tr l) (hl : l.length ≤ 99) (e : S35) (he : Rw e) (hk : ∀ x ∈ l, trace_valid.key x ≠ trace_valid.key e) : ∀ (d i : Nat), i + d = l.length → (∀ j (hj : j < l.length), j < i → l[j].f4 ≤ e.f4) →
    ∃ m, Ev (fun k => storagebarterref19_Expect.l0 k (i : Int) l e.f0 e.f1 e.f2 e.f3 e.f4 e.f5) (m, 0) ∧ Tr m ∧ m.length = l.length + 1
  | 0, i, hi, hb => by
    have e27 : (⟨e.f0, e.f1, e.f2, e.f3, e.f4, e.f5⟩ : S35) = e := rfl
    refine ⟨_, Ev.step (fun k => ?_) (Ev.now _), ins_tr h hl e he hk i (by omega) hb (by omega), by rw [List.length_append, List.length_append, List.length_take, List.length_drop, List.length_singleton]; omega⟩
    rw [storagebarterref19_Expect.l0, if_neg (by omega), if_pos (by omega), if_pos (by omega)]
    simp only [Option.bind_some, Int.toNat_natCast, List.nil_append, e27]
    rw [if_pos (by rw [List.length_nil, List.length_take]; omega), if_pos (by rw [List.length_take, List.length_singleton]; omega), if_pos (by rw [List.length_append, List.length_take, List.length_drop, List.length_singleton]; omega)]
  | d + 1, i, hi, hb => by
    have e27 : (⟨e.f0, e.f1, e.f2, e.f3, e.f4, e.f5⟩ : S35) = e := rfl
    have hil : i < l.length := by omega
    by_cases c : l[i].f4 ≤ e.f4
    · obtain ⟨m, hm, ht⟩ := expect_loop h hl e he hk d (i + 1) (by omega) (fun j hj h1 => by
        rcases Nat.lt_or_ge j i with h2 | h2
        · exact hb j hj h2
        · obtain rfl : j = i := by omega
          exact c)
      refine ⟨m, Ev.step (fun k => ?_) hm, ht⟩
      rw [storagebarterref19_Expect.l0, if_pos (by omega), if_pos (by omega), rdlt hil, if_pos c, nx (by omega)]
    · refine ⟨_, Ev.step (fun k => ?_) (Ev.now _), ins_tr h hl e he hk i (by omega) hb (fun _ => by omega), by rw [List.length_append, List.length_append, List.length_take, List.length_drop, List.length_singleton]; omega⟩
      rw [storagebarterref19_Expect.l0, if_pos (by omega), if_pos (by omega), rdlt hil, if_neg c, if_pos (by omega)]
      simp only [Option.bind_some, Int.toNat_natCast, List.nil_append, e27]
      rw [if_pos (by rw [List.length_nil, List.length_take]; omega), if_pos (by rw [List.length_take, List.length_singleton]; omega), if_pos (by rw [List.length_append, List.length_take, List.length_drop, List.length_singleton]; omega)]
theorem expect_tr {l : List S35} (h : Tr l) (hl : l.length ≤ 99) (e : S35) (he : Rw e) (h5 : e.f5 = 0) : ∃ r, Ev (fun k => storagebarterref19_Expect.f k l e.f0 e.f1 e.f2 e.f3 e.f4 0) r ∧ (r.2 ≠ 0 ∨ r.2 = 0 ∧ Tr r.1 ∧ r.1.length = l.length + 1) := by
  obtain ⟨v, hv, hc⟩ := find_tr (show l.length ≤ 100 by omega) e.f0 e.f1 e.f2 e.f3 e.f4 0 l.length 0 (by omega)
  have hv' : Ev (fun k => storagebarterref19_find.f k l e.f0 e.f1 e.f2 e.f3 e.f4 0) v := hv
  have hva := rvalid he
  rw [h5] at hva
  have start : ∀ r, Ev (fun k => storagebarterref19_Expect.j0 k false l e.f0 e.f1 e.f2 e.f3 e.f4 0) r → Ev (fun k => storagebarterref19_Expect.f k l e.f0 e.f1 e.f2 e.f3 e.f4 0) r := by
    intro r hr
    refine Ev.bind (check_tr h) (Ev.congr (fun k => ?_) hr)
    rw [if_pos rfl, hva, Option.bind_some, if_pos rfl]
    rfl
  rcases hc with ⟨rfl, h2⟩ | ⟨j, rfl, hj⟩
  · obtain ⟨m, hm, ht⟩ := expect_loop h hl e he (fun x hx => h2 x (by simpa using hx)) l.length 0 (by omega) (by intro j hj h; omega)
    rw [h5] at hm
    refine ⟨(m, 0), start _ (Ev.step (fun k => ?_) (Ev.bind hv' (f := fun n t => if t ≥ 0 then (some (([] : List (S35)), 7)) else (if (l.length : Int) = 256 then (some (([] : List (S35)), 4)) else (storagebarterref19_Expect.l0 n 0 l e.f0 e.f1 e.f2 e.f3 e.f4 0))) (Ev.congr (fun k => ?_) hm))), .inr ⟨rfl, ht⟩⟩
    · rw [storagebarterref19_Expect.j0, if_neg (by simp)]
    · show (if (-1 : Int) ≥ 0 then _ else _) = _
      rw [if_neg (by decide), if_neg (by omega)]
      rfl
  · refine ⟨([], 7), start _ (Ev.step (fun k => ?_) (Ev.bind hv' (f := fun n t => if t ≥ 0 then (some (([] : List (S35)), 7)) else (if (l.length : Int) = 256 then (some (([] : List (S35)), 4)) else (storagebarterref19_Expect.l0 n 0 l e.f0 e.f1 e.f2 e.f3 e.f4 0))) (Ev.congr (fun k => ?_) (Ev.now _)))), .inl (by decide)⟩
    · rw [storagebarterref19_Expect.j0, if_neg (by simp)]
    · show (if ((j : Nat) : Int) ≥ 0 then _ else _) = _
      rw [if_pos (by omega)]
theorem set_tr {l : List S35} (h : Tr l) {i : Nat} (hi : i < l.length) (c : Int) (hc : 0 ≤ c ∧ c ≤ 16) : Tr (l.set i ⟨l[i].f0, l[i].f1, l[i].f2, l[i].f3, l[i].f4, c⟩) := by
  obtain ⟨x, hx⟩ : ∃ x : S35, x = ⟨l[i].f0, l[i].f1, l[i].f2, l[i].f3, l[i].f4, c⟩ := ⟨_, rfl⟩
  rw [← hx]
  have hri := h.at_ hi
  have hat : ∀ j (hj : j < (l.set i x).length), ∃ hj' : j < l.length, (l.set i x)[j].f4 = l[j].f4 ∧ trace_valid.key (l.set i x)[j] = trace_valid.key l[j] := by
    intro j hj
    rw [List.length_set] at hj
    refine ⟨hj, ?_⟩
    by_cases e : i = j
    · subst e
      rw [List.getElem_set_self, hx]
      exact ⟨rfl, rfl⟩
    · rw [List.getElem_set_ne e]
      exact ⟨rfl, rfl⟩
  refine ⟨fun y hy => ?_, ?_, ?_, by rw [List.length_set]; exact h.len⟩
  · rcases List.mem_or_eq_of_mem_set hy with hy | rfl
    · exact h.row y hy
    · rw [hx]
      exact ⟨hri.r0, hri.r1, hri.r2, hri.r3, hri.r4, hc⟩
  · refine List.pairwise_iff_getElem.mpr (fun a b ha hb hab => ?_)
    obtain ⟨ha', e1, _⟩ := hat a ha
    obtain ⟨hb', e2, _⟩ := hat b hb
    rw [e1, e2]
    exact h.lt hab hb'
  · refine List.pairwise_iff_getElem.mpr (fun a b ha hb hab => ?_)
    obtain ⟨ha', _, e1⟩ := hat a ha
    obtain ⟨hb', _, e2⟩ := hat b hb
    rw [e1, e2]
    exact h.ne hab hb'
def cameF (l : List S35) (t v : Int) : Option (List S35 × Int) := (if v < 0 then (some (([] : List (S35)), 6)) else (if 0 ≤ v then (if v < (l.length : Int) then (if ((rd_T35 l v).f5) > 0 then (some (([] : List (S35)), 7)) else (if ([] : List (S35)).length + l.length < 2932031007402 then ((some (([] : List (S35)) ++ l : List (S35))).bind fun y => (if v < (y.length : Int) then (some ((y.set (v : Int).toNat (⟨(rd_T35 y v).f0, (rd_T35 y v).f1, (rd_T35 y v).f2, (rd_T35 y v).f3, (rd_T35 y v).f4, wrap64 (t + 1)⟩ : S35)), 0)) else (none))) else (none))) else (none)) else (none)))
theorem came_tr {l : List S35} (h : Tr l) (a b c d t : Int) (ht : 0 ≤ t ∧ t ≤ 15) : ∃ r, Ev (fun k => storagebarterref19_Came.f k l a b c d t) r ∧ (r.2 ≠ 0 ∨ r.2 = 0 ∧ Tr r.1 ∧ r.1.length = l.length) := by
  have hl := h.len
  obtain ⟨v, hv, hc⟩ := find_tr hl a b c d 0 0 l.length 0 (by omega)
  have hv' : Ev (fun k => storagebarterref19_find.f k l a b c d 0 0) v := hv
  have start : ∀ r, cameF l t v = some r → Ev (fun k => storagebarterref19_Came.f k l a b c d t) r := by
    intro r hF
    refine Ev.bind (check_tr h) (Ev.congr (fun k => ?_) (Ev.bind hv' (f := fun _ => cameF l t) (Ev.congr (fun _ => hF) (Ev.now r))))
    rw [if_pos rfl, in_is, Option.bind_some, if_pos (decide_eq_true (by omega))]
    rfl
  unfold cameF at start
  rcases hc with ⟨rfl, h2⟩ | ⟨j, rfl, hj⟩
  · exact ⟨([], 6), start _ (by rw [if_pos (by decide)]), .inl (by decide)⟩
  · by_cases c5 : l[j].f5 > 0
    · exact ⟨([], 7), start _ (by rw [if_neg (by omega), if_pos (by omega), if_pos (by omega), rdlt hj, if_pos c5]), .inl (by decide)⟩
    · refine ⟨(l.set j ⟨l[j].f0, l[j].f1, l[j].f2, l[j].f3, l[j].f4, t + 1⟩, 0), start _ ?_, .inr ⟨rfl, set_tr h hj _ (by omega), by rw [List.length_set]⟩⟩
      rw [if_neg (by omega), if_pos (by omega), if_pos (by omega), rdlt hj, if_neg c5, if_pos (by rw [List.length_nil]; omega), Option.bind_some, List.nil_append, if_pos (by omega), rdlt hj, Int.toNat_natCast, w64 (by omega) (by omega)]
/-- What a deck makes. -/
theorem trace_loop {L : List Int} : ∀ (d : Nat) (p : Int) (l : List S35), DeckOk L p → Tr l → l.length + d ≤ 90 → ∃ m q, Ev (fun k => storagebartermake_Trace.l0 k (d : Int) L p l) (m, q) ∧ Tr m
  | 0, p, l, hp, h, hl => by
    refine ⟨l, p, Ev.step (fun k => ?_) (Ev.now _), h⟩
    rw [storagebartermake_Trace.l0, if_neg (by omega)]
  | d + 1, p, l, hp, h, hl => by
    obtain ⟨v1, q1, e1, g1, g1', hp1, _, _⟩ := next_some hp 3 (by decide) (by decide)
    obtain ⟨v2, q2, e2, g2, g2', hp2, _, _⟩ := next_some hp1 2 (by decide) (by decide)
    obtain ⟨v3, q3, e3, g3, g3', hp3, _, _⟩ := next_some hp2 4 (by decide) (by decide)
    obtain ⟨v4, q4, e4, g4, g4', hp4, _, _⟩ := next_some hp3 12 (by decide) (by decide)
    obtain ⟨v5, q5, e5, g5, g5', hp5, _, _⟩ := next_some hp4 3 (by decide) (by decide)
    have hw1 : wrap64 (1 + v1) = 1 + v1 := w64 (by omega) (by omega)
    have hw2 : wrap64 (1 + v2) = 1 + v2 := w64 (by omega) (by omega)
    have hd : wrap64 (((d + 1 : Nat) : Int) - 1) = (d : Int) := by rw [w64 (by omega) (by omega)]; omega
    have second : ∀ l', Tr l' → l'.length ≤ l.length + 1 → ∃ m q, Ev (fun k => storagebartermake_Trace.j1 k ((d + 1 : Nat) : Int) L q4 l' (1 + v1) 4 (1 + v2) v3 v4 0) (m, q) ∧ Tr m := by
      intro l' h' hl'
      by_cases c : v5 = 0
      · obtain ⟨v6, q6, e6, g6, g6', hp6, _, _⟩ := next_some hp5 16 (by decide) (by decide)
        obtain ⟨r, hr, hc⟩ := came_tr h' (1 + v1) 4 (1 + v2) v3 v6 (by omega)
        by_cases c2 : r.2 = 0
        · obtain ⟨_, h3, h4⟩ : r.2 = 0 ∧ Tr r.1 ∧ r.1.length = l'.length := by rcases hc with hc | hc; exact absurd c2 hc; exact hc
          obtain ⟨m, q, hm, ht⟩ := trace_loop d q6 r.1 hp6 h3 (by omega)
          refine ⟨m, q, Ev.step (fun k => ?_) (Ev.bind hr (f := fun n bt => if bt.2 = 0 then storagebartermake_Trace.l0 n (d : Int) L q6 bt.1 else storagebartermake_Trace.l0 n (d : Int) L q6 l') (Ev.congr (fun k => ?_) hm)), ht⟩
          · rw [storagebartermake_Trace.j1, e5, Option.bind_some, if_pos c, e6, Option.bind_some, hd]
          · rw [if_pos c2]
        · obtain ⟨m, q, hm, ht⟩ := trace_loop d q6 l' hp6 h' (by omega)
          refine ⟨m, q, Ev.step (fun k => ?_) (Ev.bind hr (f := fun n bt => if bt.2 = 0 then storagebartermake_Trace.l0 n (d : Int) L q6 bt.1 else storagebartermake_Trace.l0 n (d : Int) L q6 l') (Ev.congr (fun k => ?_) hm)), ht⟩
          · rw [storagebartermake_Trace.j1, e5, Option.bind_some, if_pos c, e6, Option.bind_some, hd]
          · rw [if_neg c2]
      · obtain ⟨m, q, hm, ht⟩ := trace_loop d q5 l' hp5 h' (by omega)
        refine ⟨m, q, Ev.step (fun k => ?_) hm, ht⟩
        rw [storagebartermake_Trace.j1, e5, Option.bind_some, if_neg c, hd]
    have he : Rw ⟨1 + v1, 4, 1 + v2, v3, v4, 0⟩ := ⟨by show 1 ≤ 1 + v1 ∧ 1 + v1 ≤ 3; omega, rfl, by show 1 ≤ 1 + v2 ∧ 1 + v2 ≤ 2; omega, by show 0 ≤ v3 ∧ v3 ≤ 3; omega, by show 0 ≤ v4 ∧ v4 ≤ 11; omega, ⟨by show (0 : Int) ≤ 0; decide, by show (0 : Int) ≤ 16; decide⟩⟩
    obtain ⟨r, hr, hc⟩ := expect_tr h (by omega) ⟨1 + v1, 4, 1 + v2, v3, v4, 0⟩ he rfl
    by_cases c2 : r.2 = 0
    · obtain ⟨_, h3, h4⟩ : r.2 = 0 ∧ Tr r.1 ∧ r.1.length = l.length + 1 := by rcases hc with hc | hc; exact absurd c2 hc; exact hc
      obtain ⟨m, q, hm, ht⟩ := second r.1 h3 (by omega)
      refine ⟨m, q, Ev.step (fun k => ?_) (Ev.bind hr (f := fun n bt => if bt.2 = 0 then storagebartermake_Trace.j1 n ((d + 1 : Nat) : Int) L q4 bt.1 (1 + v1) 4 (1 + v2) v3 v4 0 else storagebartermake_Trace.j1 n ((d + 1 : Nat) : Int) L q4 l (1 + v1) 4 (1 + v2) v3 v4 0) (Ev.congr (fun k => ?_) hm)), ht⟩
      · rw [storagebartermake_Trace.l0, if_pos (by omega), e1, Option.bind_some, e2, Option.bind_some, e3, Option.bind_some, e4, Option.bind_some, hw1, hw2]
      · rw [if_pos c2]
    · obtain ⟨m, q, hm, ht⟩ := second l h (by omega)
      refine ⟨m, q, Ev.step (fun k => ?_) (Ev.bind hr (f := fun n bt => if bt.2 = 0 then storagebartermake_Trace.j1 n ((d + 1 : Nat) : Int) L q4 bt.1 (1 + v1) 4 (1 + v2) v3 v4 0 else storagebartermake_Trace.j1 n ((d + 1 : Nat) : Int) L q4 l (1 + v1) 4 (1 + v2) v3 v4 0) (Ev.congr (fun k => ?_) hm)), ht⟩
      · rw [storagebartermake_Trace.l0, if_pos (by omega), e1, Option.bind_some, e2, Option.bind_some, e3, Option.bind_some, e4, Option.bind_some, hw1, hw2]
      · rw [if_neg c2]
theorem trace_tr {L : List Int} (hL : L.length ≤ 500) : ∃ m q, Ev (fun k => storagebartermake_Trace.f k L 0) (m, q) ∧ Tr m := by
  obtain ⟨v, q0, e, g, g', hp, _, _⟩ := next_some (L := L) (p := 0) ⟨by decide, by omega, by omega⟩ 12 (by decide) (by decide)
  obtain ⟨n, rfl⟩ := Int.eq_ofNat_of_zero_le g
  obtain ⟨m, q, hm, ht⟩ := trace_loop n q0 [] hp Tr.nil (by rw [List.length_nil]; omega)
  refine ⟨m, q, Ev.congr (fun k => ?_) hm, ht⟩
  unfold storagebartermake_Trace.f
  rw [e, Option.bind_some]
/-- Has it come by a tick? -/
def byB (x : S35) (t : Int) : Bool := decide (0 < x.f5) && decide (x.f5 - 1 ≤ t)
theorem by_is {x : S35} (h : Rw x) (t : Int) : trace_by.f x.f0 x.f1 x.f2 x.f3 x.f4 x.f5 t = some (byB x t) := by
  have := h.r5
  unfold trace_by.f byB
  by_cases c : x.f5 > 0
  · rw [if_pos c, w64 (by omega) (by omega), decide_eq_true (show 0 < x.f5 from c), Bool.true_and]
  · rw [if_neg c, decide_eq_false (show ¬ 0 < x.f5 from c), Bool.false_and]
/-- What is missing at a tick. -/
def missB (t : Int) (x : S35) : Bool := decide (x.f4 < t) && !byB x t
theorem miss_is {x : S35} (h : Rw x) (t : Int) : (!trace_Missing.out t x) = missB t x := by
  unfold trace_Missing.out missB
  rw [by_is h, Option.getD_some, Bool.not_or]
  congr 1
  by_cases c : t ≤ x.f4
  · rw [decide_eq_true c, decide_eq_false (by omega)]
    rfl
  · rw [decide_eq_false c, decide_eq_true (by omega)]
    rfl
theorem missing_tr {l : List S35} (h : Tr l) (t : Int) : trace_Missing.f l t = some (l.filter (missB t), 0) := by
  have hl := h.len
  unfold trace_Missing.f
  rw [valid_tr h, Option.bind_some, if_pos rfl]
  unfold api_Expectation_33.f
  rw [if_pos (by omega), Option.bind_some]
  congr 2
  exact List.filter_congr (fun x hx => miss_is (h.row x hx) t)
/-- What stays when a trace is cleared. -/
def keepB (t : Int) (x : S35) : Bool := decide (t ≤ x.f4) || decide (x.f5 = 0)
theorem keep_is {x : S35} (h : Rw x) (t : Int) : (!trace_Clear.out t x) = keepB t x := by
  have := h.r5
  unfold trace_Clear.out keepB
  rw [Bool.not_and]
  congr 1
  · by_cases c : t ≤ x.f4
    · rw [decide_eq_true c, decide_eq_false (by omega)]
      rfl
    · rw [decide_eq_false c, decide_eq_true (by omega)]
      rfl
  · by_cases c : x.f5 = 0
    · rw [decide_eq_true c, decide_eq_false (by omega)]
      rfl
    · rw [decide_eq_false c, decide_eq_true (by omega)]
      rfl
theorem clear_tr {l : List S35} (h : Tr l) (t : Int) : trace_Clear.f l t = some (l.filter (keepB t), 0) := by
  have hl := h.len
  unfold trace_Clear.f
  rw [valid_tr h, Option.bind_some, if_pos rfl]
  unfold api_Expectation_33.f
  rw [if_pos (by omega), Option.bind_some]
  congr 2
  exact List.filter_congr (fun x hx => keep_is (h.row x hx) t)
theorem tsane : Ev (fun k => storagebarterlaw19_sane.f k) true := Ev.of (k := 40) storagebarterlaw19_sane.mono (by decide +kernel)
theorem tick_rng {a : Int} (h : (Lit.int .u8 a).wf = true) : ∃ t : Int, wrap64 (Int.tmod a 20) = t ∧ 0 ≤ t ∧ t < 20 := by
  have h2 : 0 ≤ a ∧ a ≤ 255 := by
    simp [Lit.wf, IntKind.min, IntKind.max, IntKind.bits, IntKind.signed] at h
    omega
  rw [Int.tmod_eq_emod_of_nonneg h2.1]
  have h3 : 0 ≤ a % 20 := Int.emod_nonneg _ (by decide)
  have h4 : a % 20 < 20 := Int.emod_lt_of_pos _ (by decide)
  exact ⟨_, w64 (by omega) (by omega), h3, h4⟩
end Go.Proofs.Ytghepgcbciikmaa.PA
