/- A peer's record counts each of its rows that was due once, what is missing is the last number of it, and who is always in time is never missing: the plain statement that is left of the law TraceCounts. -/
import Derived.Test.YtghepgcbciikmaaTrc
import Derived.Test.YtghepgcbciikmaaPAx0
import Derived.Test.YtghepgcbciikmaaPAx18
import Derived.Test.YtghepgcbciikmaaPAx19
import Derived.Test.YtghepgcbciikmaaPAx22
import Derived.Test.YtghepgcbciikmaaPAx37
import Derived.Test.YtghepgcbciikmaaPAx38
set_option linter.unusedVariables false
namespace Go.Proofs.Ytghepgcbciikmaa.Pure
open Go.RowKit Go.Proofs.Ytghepgcbciikmaa.PA Go.Proofs.YtghepgcbciikmaaW.PrintWords Go.Proofs.YtghepgcbciikmaaW.PrintLast
/-- The rows of a peer that were due: in time, late, missing. -/
def eaB (p t : Int) (x : S35) : Bool := decide (x.f0 = p) && decide (x.f4 < t) && byB x x.f4
def laB (p t : Int) (x : S35) : Bool := decide (x.f0 = p) && decide (x.f4 < t) && !byB x x.f4 && byB x t
def miB (p t : Int) (x : S35) : Bool := decide (x.f0 = p) && decide (x.f4 < t) && !byB x x.f4 && !byB x t
def duB (p t : Int) (x : S35) : Bool := decide (x.f0 = p) && decide (x.f4 < t)
theorem counts (p t : Int) (l : List S35) : l.countP (eaB p t) + l.countP (laB p t) + l.countP (miB p t) = l.countP (duB p t) := by
  induction l with
  | nil => rfl
  | cons x l ih =>
    simp only [List.countP_cons]
    have : (if eaB p t x = true then 1 else 0) + (if laB p t x = true then 1 else 0) + (if miB p t x = true then 1 else 0) = (if duB p t x = true then 1 else 0 : Nat) := by
      unfold eaB laB miB duB
      cases decide (x.f0 = p) <;> cases decide (x.f4 < t) <;> cases byB x x.f4 <;> cases byB x t <;> rfl
    omega
theorem mi_miss (p t : Int) (x : S35) : miB p t x = (decide (x.f0 = p) && missB t x) := by
  unfold miB missB byB
  by_cases h0 : x.f0 = p
  · by_cases h4 : x.f4 < t
    · by_cases h5 : 0 < x.f5
      · by_cases h6 : x.f5 - 1 ≤ t
        · simp [h0, h4, h5, h6]
        · have h7 : ¬ x.f5 - 1 ≤ x.f4 := by omega
          simp [h0, h4, h5, h6, h7]
      · simp [h0, h4, h5]
    · simp [h4]
  · simp [h0]
theorem cw {a : Nat} (h : a ≤ 200) : wrap64 ((a : Int) + 1) = ((a + 1 : Nat) : Int) := nx (by omega)
theorem record_loop {l : List S35} (h : Tr l) (p t : Int) : ∀ (d i a b c : Nat), i + d = l.length → a ≤ i → b ≤ i → c ≤ i →
    Ev (fun k => trace_Record.l0 k p t (a : Int) (b : Int) (c : Int) l (l.length : Int) (i : Int)) (((a + (l.drop i).countP (eaB p t) : Nat) : Int), ((b + (l.drop i).countP (laB p t) : Nat) : Int), ((c + (l.drop i).countP (miB p t) : Nat) : Int), 0)
  | 0, i, a, b, c, hi, ha, hb, hc => by
    refine Ev.step (fun k => ?_) (Ev.now _)
    rw [trace_Record.l0, if_neg (by omega), List.drop_eq_nil_of_le (by omega)]
    rfl
  | d + 1, i, a, b, c, hi, ha, hb, hc => by
    have hl := h.len
    have hil : i < l.length := by omega
    have hby := by_is (h.at_ hil)
    have e1 := List.drop_eq_getElem_cons hil
    have step : ∀ (a' b' c' : Nat), a' ≤ i + 1 → b' ≤ i + 1 → c' ≤ i + 1 → a' = a + (if eaB p t l[i] = true then 1 else 0) → b' = b + (if laB p t l[i] = true then 1 else 0) → c' = c + (if miB p t l[i] = true then 1 else 0) → Ev (fun k => trace_Record.l0 k p t (a' : Int) (b' : Int) (c' : Int) l (l.length : Int) ((i + 1 : Nat) : Int)) (((a + (l.drop i).countP (eaB p t) : Nat) : Int), ((b + (l.drop i).countP (laB p t) : Nat) : Int), ((c + (l.drop i).countP (miB p t) : Nat) : Int), 0) := by
      intro a' b' c' ha' hb' hc' ea eb ec
      have := record_loop h p t d (i + 1) a' b' c' (by omega) ha' hb' hc'
      rw [e1]
      simp only [List.countP_cons]
      rw [show a + (List.countP (eaB p t) (l.drop (i + 1)) + if eaB p t l[i] = true then 1 else 0) = a' + List.countP (eaB p t) (l.drop (i + 1)) by omega, show b + (List.countP (laB p t) (l.drop (i + 1)) + if laB p t l[i] = true then 1 else 0) = b' + List.countP (laB p t) (l.drop (i + 1)) by omega, show c + (List.countP (miB p t) (l.drop (i + 1)) + if miB p t l[i] = true then 1 else 0) = c' + List.countP (miB p t) (l.drop (i + 1)) by omega]
      exact this
    have skip : duB p t l[i] = false → Ev (fun k => trace_Record.j1 k p t (a : Int) (b : Int) (c : Int) l (l.length : Int) (i : Int) true l[i].f0 l[i].f1 l[i].f2 l[i].f3 l[i].f4 l[i].f5) (((a + (l.drop i).countP (eaB p t) : Nat) : Int), ((b + (l.drop i).countP (laB p t) : Nat) : Int), ((c + (l.drop i).countP (miB p t) : Nat) : Int), 0) := by
      intro hd
      have z1 : eaB p t l[i] = false := by unfold duB at hd; unfold eaB; rw [hd]; rfl
      have z2 : laB p t l[i] = false := by unfold duB at hd; unfold laB; rw [hd]; rfl
      have z3 : miB p t l[i] = false := by unfold duB at hd; unfold miB; rw [hd]; rfl
      refine Ev.step (fun k => ?_) (step a b c (by omega) (by omega) (by omega) (by rw [z1]; rfl) (by rw [z2]; rfl) (by rw [z3]; rfl))
      rw [trace_Record.j1, if_pos rfl, nx (by omega)]
    by_cases c0 : l[i].f0 = p
    · by_cases c4 : l[i].f4 < t
      · have hd : duB p t l[i] = true := by unfold duB; rw [decide_eq_true c0, decide_eq_true c4]; rfl
        have h2 : Ev (fun k => trace_Record.j1 k p t (a : Int) (b : Int) (c : Int) l (l.length : Int) (i : Int) false l[i].f0 l[i].f1 l[i].f2 l[i].f3 l[i].f4 l[i].f5) (((a + (l.drop i).countP (eaB p t) : Nat) : Int), ((b + (l.drop i).countP (laB p t) : Nat) : Int), ((c + (l.drop i).countP (miB p t) : Nat) : Int), 0) := by
          cases b1 : byB l[i] l[i].f4 with
          | true =>
            refine Ev.step (fun k => ?_) (step (a + 1) b c (by omega) (by omega) (by omega) ?_ ?_ ?_)
            · rw [trace_Record.j1, if_neg (by simp), hby, b1, Option.bind_some, if_pos rfl, nx (by omega), nx (by omega)]
            · unfold eaB; unfold duB at hd; rw [hd, b1]; rfl
            · unfold laB; unfold duB at hd; rw [hd, b1]; rfl
            · unfold miB; unfold duB at hd; rw [hd, b1]; rfl
          | false =>
            cases b2 : byB l[i] t with
            | true =>
              refine Ev.step (fun k => ?_) (step a (b + 1) c (by omega) (by omega) (by omega) ?_ ?_ ?_)
              · rw [trace_Record.j1, if_neg (by simp), hby, b1, Option.bind_some, if_neg (by simp), hby, b2, Option.bind_some, if_pos rfl, nx (by omega), nx (by omega)]
              · unfold eaB; unfold duB at hd; rw [hd, b1]; rfl
              · unfold laB; unfold duB at hd; rw [hd, b1, b2]; rfl
              · unfold miB; unfold duB at hd; rw [hd, b1, b2]; rfl
            | false =>
              refine Ev.step (fun k => ?_) (step a b (c + 1) (by omega) (by omega) (by omega) ?_ ?_ ?_)
              · rw [trace_Record.j1, if_neg (by simp), hby, b1, Option.bind_some, if_neg (by simp), hby, b2, Option.bind_some, if_neg (by simp), nx (by omega), nx (by omega)]
              · unfold eaB; unfold duB at hd; rw [hd, b1]; rfl
              · unfold laB; unfold duB at hd; rw [hd, b1, b2]; rfl
              · unfold miB; unfold duB at hd; rw [hd, b1, b2]; rfl
        refine Ev.step (fun k => ?_) h2
        rw [trace_Record.l0, if_pos (by omega), if_pos (by omega), if_pos (by omega), rdlt hil, if_pos c0, decide_eq_false (by omega)]
      · refine Ev.step (fun k => ?_) (skip (by unfold duB; rw [decide_eq_false c4, Bool.and_false]))
        rw [trace_Record.l0, if_pos (by omega), if_pos (by omega), if_pos (by omega), rdlt hil, if_pos c0, decide_eq_true (by omega)]
    · refine Ev.step (fun k => ?_) (skip (by unfold duB; rw [decide_eq_false c0]; rfl))
      rw [trace_Record.l0, if_pos (by omega), if_pos (by omega), if_pos (by omega), rdlt hil, if_neg c0]
theorem record_tr {l : List S35} (h : Tr l) (p t : Int) : Ev (fun k => trace_Record.f k l p t) (((l.countP (eaB p t) : Nat) : Int), ((l.countP (laB p t) : Nat) : Int), ((l.countP (miB p t) : Nat) : Int), 0) := by
  have := record_loop h p t l.length 0 0 0 0 (by omega) (by omega) (by omega) (by omega)
  simp only [Nat.zero_add, List.drop_zero] at this
  refine Ev.congr (fun k => ?_) this
  unfold trace_Record.f
  rw [valid_tr h, Option.bind_some, if_pos rfl]
  rfl
/-- Are all rows of a peer that were due in time? -/
def punB (p t : Int) (l : List S35) : Bool := l.all (fun x => !duB p t x || byB x x.f4)
theorem loop2 {l : List S35} (h : Tr l) (t p A B C D : Int) (P : Bool) (m : List S35) (hm : m.length ≤ 100) (hA : 0 ≤ A ∧ A ≤ 100) (hB : 0 ≤ B ∧ B ≤ 100) (hC : 0 ≤ C ∧ C ≤ 100) (hD : A + B + C = D) (hP : P = true → B + C = 0)
    (r : Bool) (hr : Ev (fun k => storagebarterlaw19_TraceCounts.l0 k t m (wrap64 (p + 1)) l) r) : ∀ (d i c : Nat), i + d = m.length → c ≤ i → C = ((c + (m.drop i).countP (fun x => decide (x.f0 = p)) : Nat) : Int) →
    Ev (fun k => storagebarterlaw19_TraceCounts.l2 k t m p A B C 0 D (c : Int) P m (m.length : Int) (i : Int) l) r
  | 0, i, c, hi, hc, hq => by
    rw [List.drop_eq_nil_of_le (by omega)] at hq
    refine Ev.step (fun k => ?_) hr
    rw [storagebarterlaw19_TraceCounts.l2, if_neg (by omega), if_pos rfl, w64 (n := A + B) (by omega) (by omega), w64 (n := A + B + C) (by omega) (by omega), if_pos hD, if_pos (by simpa using hq)]
    by_cases c1 : P = true
    · have := hP c1
      rw [if_pos c1, w64 (n := B + C) (by omega) (by omega), if_neg (by omega)]
    · rw [if_neg c1]
  | d + 1, i, c, hi, hc, hq => by
    have hil : i < m.length := by omega
    rw [List.drop_eq_getElem_cons hil, List.countP_cons] at hq
    by_cases c0 : m[i].f0 = p
    · rw [if_pos (decide_eq_true c0)] at hq
      refine Ev.step (fun k => ?_) (loop2 h t p A B C D P m hm hA hB hC hD hP r hr d (i + 1) (c + 1) (by omega) (by omega) (by rw [hq]; omega))
      rw [storagebarterlaw19_TraceCounts.l2, if_pos (by omega), if_pos (by omega), if_pos (by omega), rdlt hil, if_pos c0, nx (by omega), nx (by omega)]
    · rw [if_neg (by simp [c0])] at hq
      refine Ev.step (fun k => ?_) (loop2 h t p A B C D P m hm hA hB hC hD hP r hr d (i + 1) c (by omega) (by omega) (by rw [hq]; omega))
      rw [storagebarterlaw19_TraceCounts.l2, if_pos (by omega), if_pos (by omega), if_pos (by omega), rdlt hil, if_neg c0, nx (by omega)]
theorem loop1 {l : List S35} (h : Tr l) (t p A B C : Int) (m : List S35) (r : Bool) (D : Int) (P : Bool) (hr : Ev (fun k => storagebarterlaw19_TraceCounts.l2 k t m p A B C 0 D 0 P m (m.length : Int) 0 l) r) : ∀ (d i c : Nat) (Q : Bool), i + d = l.length → c ≤ i → D = ((c + (l.drop i).countP (duB p t) : Nat) : Int) → P = (Q && punB p t (l.drop i)) →
    Ev (fun k => storagebarterlaw19_TraceCounts.l1 k t m p A B C 0 (c : Int) 0 Q l (l.length : Int) (i : Int) l) r
  | 0, i, c, Q, hi, hc, hq, hp => by
    rw [List.drop_eq_nil_of_le (by omega)] at hq hp
    have e1 : D = (c : Int) := by simpa using hq
    have e2 : P = Q := by simpa [punB] using hp
    refine Ev.step (fun k => ?_) hr
    rw [storagebarterlaw19_TraceCounts.l1, if_neg (by omega), e1, e2]
  | d + 1, i, c, Q, hi, hc, hq, hp => by
    have hl := h.len
    have hil : i < l.length := by omega
    have h5 := (h.at_ hil).r5
    rw [List.drop_eq_getElem_cons hil, List.countP_cons] at hq
    have hp2 : P = (Q && ((!duB p t l[i] || byB l[i] l[i].f4) && punB p t (l.drop (i + 1)))) := by
      rw [hp, List.drop_eq_getElem_cons hil]
      rfl
    have skip : duB p t l[i] = false → Ev (fun k => storagebarterlaw19_TraceCounts.l1 k t m p A B C 0 (c : Int) 0 Q l (l.length : Int) ((i + 1 : Nat) : Int) l) r := by
      intro hd
      rw [if_neg (by rw [hd]; simp)] at hq
      rw [hd] at hp2
      exact loop1 h t p A B C m r D P hr d (i + 1) c Q (by omega) (by omega) (by rw [hq]; omega) (by simpa using hp2)
    have take : duB p t l[i] = true → ∀ Q', Q' = (Q && byB l[i] l[i].f4) → Ev (fun k => storagebarterlaw19_TraceCounts.l1 k t m p A B C 0 ((c + 1 : Nat) : Int) 0 Q' l (l.length : Int) ((i + 1 : Nat) : Int) l) r := by
      intro hd Q' hQ
      rw [if_pos hd] at hq
      rw [hd] at hp2
      refine loop1 h t p A B C m r D P hr d (i + 1) (c + 1) Q' (by omega) (by omega) (by rw [hq]; omega) ?_
      rw [hp2, hQ, Bool.and_assoc]
      rfl
    by_cases c0 : l[i].f0 = p
    · by_cases c4 : l[i].f4 < t
      · have hd : duB p t l[i] = true := by unfold duB; rw [decide_eq_true c0, decide_eq_true c4]; rfl
        cases hQ : Q with
        | true =>
          by_cases c5 : l[i].f5 > 0
          · refine Ev.step (fun k => ?_) (take hd (decide (l[i].f5 - 1 ≤ l[i].f4)) (by rw [hQ]; unfold byB; rw [decide_eq_true (show 0 < l[i].f5 from c5)]; rfl))
            rw [storagebarterlaw19_TraceCounts.l1, if_pos (by omega), if_pos (by omega), if_pos (by omega), rdlt hil, if_pos c0, if_pos c4, if_pos rfl, if_pos c5, nx (by omega), nx (by omega), w64 (by omega) (by omega)]
          · refine Ev.step (fun k => ?_) (take hd false (by rw [hQ]; unfold byB; rw [decide_eq_false (show ¬ 0 < l[i].f5 from c5)]; rfl))
            rw [storagebarterlaw19_TraceCounts.l1, if_pos (by omega), if_pos (by omega), if_pos (by omega), rdlt hil, if_pos c0, if_pos c4, if_pos rfl, if_neg c5, nx (by omega), nx (by omega)]
        | false =>
          refine Ev.step (fun k => ?_) (take hd false (by rw [hQ]; rfl))
          rw [storagebarterlaw19_TraceCounts.l1, if_pos (by omega), if_pos (by omega), if_pos (by omega), rdlt hil, if_pos c0, if_pos c4, if_neg (by simp), nx (by omega), nx (by omega)]
      · refine Ev.step (fun k => ?_) (skip (by unfold duB; rw [decide_eq_false c4, Bool.and_false]))
        rw [storagebarterlaw19_TraceCounts.l1, if_pos (by omega), if_pos (by omega), if_pos (by omega), rdlt hil, if_pos c0, if_neg c4, nx (by omega)]
    · refine Ev.step (fun k => ?_) (skip (by unfold duB; rw [decide_eq_false c0]; rfl))
      rw [storagebarterlaw19_TraceCounts.l1, if_pos (by omega), if_pos (by omega), if_pos (by omega), rdlt hil, if_neg c0, nx (by omega)]
theorem pun_none {p t : Int} {l : List S35} (h : punB p t l = true) : l.countP (laB p t) = 0 ∧ l.countP (miB p t) = 0 := by
  unfold punB at h
  rw [List.all_eq_true] at h
  constructor
  · rw [List.countP_eq_zero]
    intro x hx e
    have := h x hx
    unfold laB at e
    unfold duB at this
    simp only [Bool.and_eq_true, Bool.not_eq_true', Bool.or_eq_true] at e this
    rcases this with h1 | h1
    · rw [Bool.and_eq_false_iff] at h1
      rcases h1 with h1 | h1
      · rw [e.1.1.1] at h1; cases h1
      · rw [e.1.1.2] at h1; cases h1
    · rw [e.1.2] at h1; cases h1
  · rw [List.countP_eq_zero]
    intro x hx e
    have := h x hx
    unfold miB at e
    unfold duB at this
    simp only [Bool.and_eq_true, Bool.not_eq_true', Bool.or_eq_true] at e this
    rcases this with h1 | h1
    · rw [Bool.and_eq_false_iff] at h1
      rcases h1 with h1 | h1
      · rw [e.1.1.1] at h1; cases h1
      · rw [e.1.1.2] at h1; cases h1
    · rw [e.1.2] at h1; cases h1
theorem mi_count (p t : Int) (l : List S35) : l.countP (miB p t) = (l.filter (missB t)).countP (fun x => decide (x.f0 = p)) := by
  rw [List.countP_filter]
  exact List.countP_congr (fun x _ => by rw [mi_miss])
theorem peers {l : List S35} (h : Tr l) (t : Int) (ht : 0 ≤ t ∧ t < 20) : ∀ (d : Nat) (p : Int), p + d = 5 → 1 ≤ p → Ev (fun k => storagebarterlaw19_TraceCounts.l0 k t (l.filter (missB t)) p l) true
  | 0, p, hp, h1 => by
    have hl := h.len
    have hs : (l.filter (keepB t)).Sublist l := List.filter_sublist
    have hy := h.sub hs
    refine Ev.step (fun k => ?_) (Ev.now _)
    rw [storagebarterlaw19_TraceCounts.l0, if_neg (by omega), clear_tr h]
    simp only [Option.bind_some]
    rw [missing_tr hy]
    simp only [Option.bind_some]
    rw [missing_tr h]
    simp only [Option.bind_some, if_true]
    have hle : (((l.filter (keepB t)).filter (missB (wrap64 (t + 100)))).length : Int) ≤ ((l.filter (missB (wrap64 (t + 100)))).length : Int) := by
      have := (hs.filter (missB (wrap64 (t + 100)))).length_le
      omega
    rw [if_pos hle]
    unfold trace_Check.f
    rw [valid_tr hy]
    rfl
  | d + 1, p, hp, h1 => by
    have hl := h.len
    have e5 : p + 1 = p + 1 := rfl
    have ih := peers h t ht d (p + 1) (by omega) (by omega)
    rw [← w64 (n := p + 1) (by omega) (by omega)] at ih
    have cA : l.countP (eaB p t) ≤ l.length := List.countP_le_length
    have cB : l.countP (laB p t) ≤ l.length := List.countP_le_length
    have cC : l.countP (miB p t) ≤ l.length := List.countP_le_length
    have hm : (l.filter (missB t)).length ≤ l.length := List.length_filter_le _ _
    have hcnt := counts p t l
    have h2 := loop2 h t p (l.countP (eaB p t) : Nat) (l.countP (laB p t) : Nat) (l.countP (miB p t) : Nat) (l.countP (duB p t) : Nat) (punB p t l) (l.filter (missB t)) (by omega) (by omega) (by omega) (by omega) (by omega)
      (fun e => by have := pun_none e; omega) true ih (l.filter (missB t)).length 0 0 (by omega) (by omega) (by rw [mi_count, List.drop_zero, Nat.zero_add])
    have h3 := loop1 h t p (l.countP (eaB p t) : Nat) (l.countP (laB p t) : Nat) (l.countP (miB p t) : Nat) (l.filter (missB t)) true (l.countP (duB p t) : Nat) (punB p t l) h2 l.length 0 0 true (by omega) (by omega) (by rw [List.drop_zero, Nat.zero_add]) (by rw [List.drop_zero, Bool.true_and])
    refine Ev.step (fun k => ?_) (Ev.bind (record_tr h p t) (f := fun n bt => storagebarterlaw19_TraceCounts.l1 n t (l.filter (missB t)) p bt.1 bt.2.1 bt.2.2.1 bt.2.2.2 0 0 true l (l.length : Int) 0 l) h3)
    rw [storagebarterlaw19_TraceCounts.l0, if_pos (by omega)]
theorem TraceCounts : storagebarterlaw19_TraceCounts.Pure := by
  intro L a _ _ hw ha
  obtain ⟨t, ht, ht0, ht1⟩ := tick_rng ha
  by_cases c : (L.length : Int) ≤ 500
  · obtain ⟨l, q, hx, h⟩ := trace_tr (L := L) (by omega)
    have h1 := peers h t ⟨ht0, ht1⟩ 4 1 (by omega) (by omega)
    refine Ev.rounds (Ev.bind tsane (Ev.congr (fun k => ?_) (Ev.bind hx (f := fun k bt350 => (trace_Missing.f bt350.1 t).bind fun bt355 => (if bt355.2 = 0 then (storagebarterlaw19_TraceCounts.l0 k t bt355.1 1 bt350.1) else (none))) (Ev.congr (fun k => ?_) h1))))
    · rw [if_pos rfl, few_some, Option.bind_some, if_pos (decide_eq_true c)]
      unfold storagebartermake_New.f
      rw [Option.bind_some, ht]
    · simp only [missing_tr h, Option.bind_some, if_true]
  · refine Ev.rounds (Ev.bind tsane (Ev.congr (fun k => ?_) (Ev.now true)))
    rw [if_pos rfl, few_some, Option.bind_some, if_neg (by simpa using c)]
end Go.Proofs.Ytghepgcbciikmaa.Pure
