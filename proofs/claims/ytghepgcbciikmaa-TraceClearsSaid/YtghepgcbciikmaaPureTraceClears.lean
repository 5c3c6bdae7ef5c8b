/- What has not come stays in the trace when it is cleared, and what was not due yet stays, too: the plain statement that is left of the law TraceClears. -/
import Derived.Test.YtghepgcbciikmaaTrc
import Derived.Test.YtghepgcbciikmaaPAx0
import Derived.Test.YtghepgcbciikmaaPAx18
import Derived.Test.YtghepgcbciikmaaPAx22
import Derived.Test.YtghepgcbciikmaaPAx25
import Derived.Test.YtghepgcbciikmaaPAx26
import Derived.Test.YtghepgcbciikmaaPAx36
import Derived.Test.YtghepgcbciikmaaPAx39
import Derived.Test.YtghepgcbciikmaaPAx40
set_option linter.unusedVariables false
namespace Go.Proofs.Ytghepgcbciikmaa.Pure
open Go.RowKit Go.Proofs.Ytghepgcbciikmaa.PA Go.Proofs.YtghepgcbciikmaaW.PrintWords Go.Proofs.YtghepgcbciikmaaW.PrintLast
theorem same_rows (l : List S35) (hl : l.length ≤ 100) : ∀ (d i : Nat), i + d = l.length → Ev (fun k => storagebarterref19_SameRows.l0 k l l (l.length : Int) (i : Int)) true
  | 0, i, hi => by
    refine Ev.step (fun k => ?_) (Ev.now _)
    rw [storagebarterref19_SameRows.l0, if_neg (by omega)]
  | d + 1, i, hi => by
    refine Ev.step (fun k => ?_) (same_rows l hl d (i + 1) (by omega))
    rw [storagebarterref19_SameRows.l0, if_pos (by omega), if_pos (by omega), if_pos (by omega), if_pos (by omega), if_neg (by simp), nx (by omega)]
theorem equal_rows (l : List S35) (hl : l.length ≤ 100) : ∀ (d i : Nat), i + d = l.length → Ev (fun k => api_Expectation_34.l0 k l l (l.length : Int) (i : Int)) true
  | 0, i, hi => by
    refine Ev.step (fun k => ?_) (Ev.now _)
    rw [api_Expectation_34.l0, if_neg (by omega)]
  | d + 1, i, hi => by
    refine Ev.step (fun k => ?_) (equal_rows l hl d (i + 1) (by omega))
    rw [api_Expectation_34.l0, if_pos (by omega), if_pos (by omega), if_pos (by omega), if_pos (by omega), if_neg (by simp), nx (by omega)]
theorem keep_again {l : List S35} (t : Int) : (l.filter (keepB t)).filter (keepB t) = l.filter (keepB t) := by
  rw [List.filter_filter]
  exact List.filter_congr (fun x _ => by rw [Bool.and_self])
theorem miss_kept {l : List S35} (h : Tr l) (t : Int) : (l.filter (keepB t)).filter (missB 1000) = l.filter (missB 1000) := by
  rw [List.filter_filter]
  refine List.filter_congr (fun x hx => ?_)
  have h5 := (h.row x hx).r5
  unfold missB keepB byB
  by_cases c : x.f5 = 0
  · simp [c]
  · have h6 : 0 < x.f5 := by omega
    have h7 : x.f5 - 1 ≤ 1000 := by omega
    simp [h6, h7]
theorem loop {l : List S35} (h : Tr l) (t : Int) : ∀ (d i n : Nat), i + d = l.length → n ≤ i → (l.filter (keepB t)).drop n = (l.drop i).filter (keepB t) → n ≤ (l.filter (keepB t)).length →
    Ev (fun k => storagebarterlaw19_TraceClears.l0 k t (n : Int) l (l.length : Int) (i : Int) (l.filter (keepB t))) true
  | 0, i, n, hi, hn, he, hn2 => by
    have hl := h.len
    have hs : (l.filter (keepB t)).Sublist l := List.filter_sublist
    have hy := h.sub hs
    have hyl := hy.len
    rw [List.drop_eq_nil_of_le (show l.length ≤ i by omega), List.filter_nil] at he
    have hlen : n = (l.filter (keepB t)).length := by
      have := congrArg List.length he
      rw [List.length_drop, List.length_nil] at this
      omega
    have h1 := equal_rows (l.filter (keepB t)) hyl (l.filter (keepB t)).length 0 (by omega)
    refine Ev.step (fun k => ?_) (Ev.congr (g := fun k => (trace_Same.f k (l.filter (keepB t)) (l.filter (keepB t))).bind fun t => some t) (fun k => ?_) h1)
    · rw [storagebarterlaw19_TraceClears.l0, if_neg (by omega), clear_tr hy, keep_again]
      simp only [Option.bind_some, if_true]
      rw [if_pos (by omega)]
    · unfold trace_Same.f api_Expectation_34.f
      rw [if_pos rfl]
      cases api_Expectation_34.l0 k (l.filter (keepB t)) (l.filter (keepB t)) ((l.filter (keepB t)).length : Int) 0 <;> rfl
  | d + 1, i, n, hi, hn, he, hn2 => by
    have hl := h.len
    have hil : i < l.length := by omega
    have hyl := (h.sub (List.filter_sublist (p := keepB t))).len
    rw [List.drop_eq_getElem_cons hil, List.filter_cons] at he
    have h5 := (h.at_ hil).r5
    have second : ∀ b, b = keepB t l[i] → Ev (fun k => storagebarterlaw19_TraceClears.j2 k t (n : Int) l (l.length : Int) (i : Int) b (l.filter (keepB t)) l[i].f0 l[i].f1 l[i].f2 l[i].f3 l[i].f4 l[i].f5) true := by
      intro b hb
      cases hk : keepB t l[i] with
      | true =>
        rw [hk, if_pos rfl] at he
        have hlt : n < (l.filter (keepB t)).length := by
          have := congrArg List.length he
          rw [List.length_drop, List.length_cons] at this
          omega
        rw [List.drop_eq_getElem_cons hlt] at he
        injection he with he1 he2
        refine Ev.step (fun k => ?_) (loop h t d (i + 1) (n + 1) (by omega) (by omega) he2 (by omega))
        rw [storagebarterlaw19_TraceClears.j2, hb, hk, if_pos rfl, if_neg (by omega), if_pos (by omega), if_pos (by omega), rdlt hlt, he1, if_neg (by simp), nx (by omega), nx (by omega)]
      | false =>
        rw [hk, if_neg (by simp)] at he
        refine Ev.step (fun k => ?_) (loop h t d (i + 1) n (by omega) (by omega) he hn2)
        rw [storagebarterlaw19_TraceClears.j2, hb, hk, if_neg (by simp), nx (by omega)]
    by_cases c : l[i].f4 ≥ t
    · refine Ev.step (fun k => ?_) (second true (by unfold keepB; rw [decide_eq_true (show t ≤ l[i].f4 from c)]; rfl))
      rw [storagebarterlaw19_TraceClears.l0, if_pos (by omega), if_pos (by omega), if_pos (by omega), rdlt hil, if_pos c]
    · refine Ev.step (fun k => ?_) (second (l[i].f5 == 0) (by unfold keepB; rw [decide_eq_false (show ¬ t ≤ l[i].f4 from c)]; rfl))
      rw [storagebarterlaw19_TraceClears.l0, if_pos (by omega), if_pos (by omega), if_pos (by omega), rdlt hil, if_neg c]
theorem TraceClears : storagebarterlaw19_TraceClears.Pure := by
  intro L a _ _ hw ha
  obtain ⟨t, ht, ht0, ht1⟩ := tick_rng ha
  by_cases c : (L.length : Int) ≤ 500
  · obtain ⟨l, q, hx, h⟩ := trace_tr (L := L) (by omega)
    have hl := h.len
    have hs : (l.filter (keepB t)).Sublist l := List.filter_sublist
    have hy := h.sub hs
    have hml : (l.filter (missB 1000)).length ≤ 100 := Nat.le_trans (List.length_filter_le _ _) hl
    have h1 := loop h t l.length 0 0 (by omega) (by omega) (by simp) (by omega)
    have h2 : Ev (fun k => storagebarterlaw19_TraceClears.j0 k t false l (l.filter (keepB t))) true := by
      refine Ev.step (fun k => ?_) h1
      rw [storagebarterlaw19_TraceClears.j0, if_neg (by simp)]
      rfl
    have h3 := same_rows (l.filter (missB 1000)) hml (l.filter (missB 1000)).length 0 (by omega)
    have h4 : Ev (fun k => storagebarterref19_SameRows.f k (l.filter (missB 1000)) (l.filter (missB 1000))) true := by
      refine Ev.congr (fun k => ?_) h3
      unfold storagebarterref19_SameRows.f
      rw [if_pos rfl]
      rfl
    refine Ev.rounds (Ev.bind tsane (Ev.congr (fun k => ?_) (Ev.bind hx (f := fun k bt388 => ((trace_Clear.f bt388.1 t).bind fun bt393 => ((trace_Missing.f bt388.1 1000).bind fun bt398 => ((trace_Missing.f bt393.1 1000).bind fun bt402 => (if bt393.2 = 0 then (if bt398.2 = 0 then (if bt402.2 = 0 then ((storagebarterref19_SameRows.f k bt398.1 bt402.1).bind fun t406 => (storagebarterlaw19_TraceClears.j0 k t (!t406) bt388.1 bt393.1)) else (storagebarterlaw19_TraceClears.j0 k t true bt388.1 bt393.1)) else (storagebarterlaw19_TraceClears.j0 k t true bt388.1 bt393.1)) else (storagebarterlaw19_TraceClears.j0 k t true bt388.1 bt393.1)))))) (Ev.congr (f := fun k => (storagebarterref19_SameRows.f k (l.filter (missB 1000)) (l.filter (missB 1000))).bind fun t406 => storagebarterlaw19_TraceClears.j0 k t (!t406) l (l.filter (keepB t))) (fun k => ?_) (Ev.bind h4 h2)))))
    · rw [if_pos rfl, few_some, Option.bind_some, if_pos (decide_eq_true c)]
      unfold storagebartermake_New.f
      rw [Option.bind_some, ht]
    · simp only [missing_tr h, missing_tr hy, clear_tr h, Option.bind_some, if_true, miss_kept h]
  · refine Ev.rounds (Ev.bind tsane (Ev.congr (fun k => ?_) (Ev.now true)))
    rw [if_pos rfl, few_some, Option.bind_some, if_neg (by simpa using c)]
end Go.Proofs.Ytghepgcbciikmaa.Pure
