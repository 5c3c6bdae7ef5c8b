/- Flights stay valid, and every parcel is delivered once, when it is due, to whom it was sent, and in the order of sending: the plain statement that is left of the law FlightOnce. -/
import Derived.Test.YtejhjncobibgmaaFltP
import Derived.Test.YtejhjncobibgmaaPAx0
import Derived.Test.YtejhjncobibgmaaPAx15
import Derived.Test.YtejhjncobibgmaaPAx16
import Derived.Test.YtejhjncobibgmaaPAx18
import Derived.Test.YtejhjncobibgmaaPAx19
import Derived.Test.YtejhjncobibgmaaPAx23
import Derived.Test.YtejhjncobibgmaaPAx24
set_option linter.unusedVariables false
namespace Go.Proofs.Ytejhjncobibgmaa.Pure
open Go.RowKit Go.Proofs.Ytejhjncobibgmaa.PA Go.Proofs.YtejhjncobibgmaaW.PrintWords Go.Proofs.YtejhjncobibgmaaW.PrintLast
theorem fsane : Ev (fun k => storagebarterlaw27_sane.f k) true := Ev.of (k := 40) storagebarterlaw27_sane.mono (by decide +kernel)
theorem rd27lt {l : List S27} {i : Nat} (h : i < l.length) : rd_T27 l (i : Int) = l[i] := by rw [rd27, getD27 h]
theorem nxt {i : Nat} (h : i ≤ 4611686018427387904) : wrap64 ((i : Int) + 1) = ((i + 1 : Nat) : Int) := by
  rw [fw64 (by omega) (by omega)]
  omega
/-- A flight behind a tick: when each parcel is due stands in the list, at its number. -/
structure Fo (due : List Int) (T D : Int) (L : List S27) : Prop where
  asc : Asc L
  dist : L.Pairwise (fun a b => a.f3 ≠ b.f3)
  row : ∀ x ∈ L, 0 ≤ x.f3 ∧ x.f3 < due.length ∧ due.getD x.f3.toNat 0 = x.f2 ∧ T < x.f2 ∧ x.f2 ≤ T + D ∧ x.f2 ≤ 23 ∧ x.f4 = ⟨#[116]⟩ ∧ 1 ≤ x.f0 ∧ x.f0 ≤ 3 ∧ 1 ≤ x.f1 ∧ x.f1 ≤ 3
  len : L.length ≤ due.length
theorem asc_get {l : List S27} (h : Asc l) {i j : Nat} (hij : i < j) (hj : j < l.length) : Bf (l[i]'(by omega)) l[j] := List.pairwise_iff_getElem.mp h i j (by omega) hj hij
theorem Fo.ne {due : List Int} {T D : Int} {L : List S27} (h : Fo due T D L) {i j : Nat} (hij : i < j) (hj : j < L.length) : (L[i]'(by omega)).f3 ≠ L[j].f3 := List.pairwise_iff_getElem.mp h.dist i j (by omega) hj hij
theorem valid_fo {due : List Int} {T D : Int} {L : List S27} (h : Fo due T D L) (hD : 1 ≤ D ∧ D ≤ 4) (hT : 0 ≤ T ∧ T ≤ 100) (hX : due.length ≤ 100) : flight_Valid.f T D due.length L = some true := by
  have hl := h.len
  unfold flight_Valid.f flight_Valid.okB
  rw [if_neg (by omega), if_neg (by omega), if_neg (by omega), if_neg (by omega), if_neg (by omega), if_neg (by omega)]
  congr 1
  rw [List.all_eq_true]
  intro i hi
  have hi := List.mem_range.mp hi
  obtain ⟨r0, r1, r2, r3, r4, r5, r6, r7, r8, r9, r10⟩ := h.row _ (List.getElem_mem hi)
  unfold flight_Valid.okAt
  rw [rd27lt hi, if_neg, if_neg (by omega), if_neg (by omega), if_neg (by omega), if_neg (by omega), if_neg, if_neg (by omega), if_neg (by omega), if_neg]
  · rw [r6]
    decide
  · intro hm
    obtain ⟨y, hy, e⟩ := List.mem_map.mp hm
    obtain ⟨j, hj, rfl⟩ := List.mem_iff_getElem.mp hy
    rw [List.length_take] at hj
    rw [List.getElem_take] at e
    exact h.ne (show j < i by omega) hi e
  · rintro ⟨h1, h2⟩
    have e : (i : Int) - 1 = ((i - 1 : Nat) : Int) := by omega
    rw [e, rd27lt (by omega)] at h2
    have := asc_get h.asc (show i - 1 < i by omega) hi
    unfold Bf at this
    unfold flight_Valid.Bf at h2
    exact h2 this
theorem upTo_in {l : List S27} {d : Int} {x : S27} : x ∈ upTo l d ↔ x ∈ l ∧ x.f2 ≤ d := by
  unfold upTo
  rw [List.mem_filter, decide_eq_true_eq]
theorem beyond_in {l : List S27} {d : Int} {x : S27} : x ∈ beyond l d ↔ x ∈ l ∧ d < x.f2 := by
  unfold beyond
  rw [List.mem_filter, decide_eq_true_eq]
/-- The parcels that are due, one after the other. -/
theorem given (T D : Int) (s : List Int) (at_ : Int) (U B : List S27) (X sent n : Nat) (hX : X ≤ 100) (hU : ∀ x ∈ U, 0 ≤ x.f3 ∧ x.f3 < X ∧ x.f2 = T ∧ x.f4 = ⟨#[116]⟩) (hasc : U.Pairwise (fun a b => a.f3 < b.f3)) (hUB : ∀ x ∈ U, ∀ y ∈ B, x.f3 ≠ y.f3) (hB : ∀ y ∈ B, 0 ≤ y.f3) (hul : U.length ≤ 100) (hn : n ≤ 100)
    (came : Nat) (hc : came + U.length ≤ 200) (hr : ∀ due' : List Int, due'.length = X → (∀ x ∈ B, due'.getD x.f3.toNat 0 = x.f2) → Ev (fun k => storagebarterlaw27_FlightOnce.l0 k due' (sent : Int) ((came + U.length : Nat) : Int) ((n + 1 : Nat) : Int) s at_ T D (X : Int) B) true) :
    ∀ (d i : Nat) (due : List Int), i + d = U.length → due.length = X → (∀ x ∈ U.drop i, due.getD x.f3.toNat 0 = T) → (∀ x ∈ B, due.getD x.f3.toNat 0 = x.f2) →
      Ev (fun k => storagebarterlaw27_FlightOnce.l2 k due (sent : Int) ((came + i : Nat) : Int) (n : Int) U U (U.length : Int) (i : Int) s at_ T D (X : Int) B) true
  | 0, i, due, hi, hlen, h1, h2 => by
    have e : came + i = came + U.length := by omega
    refine Ev.step (fun k => ?_) (hr due hlen h2)
    rw [storagebarterlaw27_FlightOnce.l2, if_neg (by omega), nxt (by omega), e]
  | d + 1, i, due, hi, hlen, h1, h2 => by
    have hil : i < U.length := by omega
    obtain ⟨r0, r1, r2, r3⟩ := hU _ (List.getElem_mem hil)
    have hd : due.getD U[i].f3.toNat 0 = T := h1 _ (by rw [List.drop_eq_getElem_cons hil]; exact List.mem_cons_self)
    have hset : ∀ q : Int, 0 ≤ q → q ≠ U[i].f3 → (due.set U[i].f3.toNat (-1)).getD q.toNat 0 = due.getD q.toNat 0 := by
      intro q hq hne
      rw [List.getD_eq_getElem?_getD, List.getD_eq_getElem?_getD, List.getElem?_set_ne (by omega)]
    have ih := given T D s at_ U B X sent n hX hU hasc hUB hB hul hn came hc hr d (i + 1) (due.set U[i].f3.toNat (-1)) (by omega) (by rw [List.length_set]; exact hlen)
      (fun x hx => by
        obtain ⟨j, hj, rfl⟩ := List.mem_iff_getElem.mp hx
        rw [List.length_drop] at hj
        rw [List.getElem_drop]
        have hlt := List.pairwise_iff_getElem.mp hasc i (i + 1 + j) hil (by omega) (by omega)
        have h0 := (hU _ (List.getElem_mem (show i + 1 + j < U.length by omega))).1
        rw [hset _ h0 (by omega)]
        exact h1 _ (by rw [List.mem_iff_getElem]; exact ⟨1 + j, by rw [List.length_drop]; omega, by rw [List.getElem_drop]; congr 1; omega⟩))
      (fun x hx => by
        rw [hset _ (hB x hx) (fun e => hUB _ (List.getElem_mem hil) x hx e.symm)]
        exact h2 x hx)
    have e4 : (U[i].f4).toList = ([116] : List UInt8) := by rw [r3]; decide +kernel
    have e1 : wrap64 (((came + i : Nat) : Int) + 1) = ((came + (i + 1) : Nat) : Int) := by rw [fw64 (by omega) (by omega)]; omega
    have hrd : rd due U[i].f3 = T := hd
    refine Ev.step (fun k => ?_) ih
    rw [storagebarterlaw27_FlightOnce.l2, if_pos (by omega), if_pos (by omega), if_pos (by omega), rd27lt hil, if_neg (by omega), if_neg (by omega), if_pos (by omega), if_pos (by omega), hrd, if_pos rfl, if_pos r2, if_pos e4, e1, nxt (i := i) (by omega)]
    by_cases c : (i : Int) > 0
    · have e2 : wrap64 ((i : Int) - 1) = ((i - 1 : Nat) : Int) := by rw [fw64 (by omega) (by omega)]; omega
      have hlt := List.pairwise_iff_getElem.mp hasc (i - 1) i (by omega) hil (by omega)
      rw [if_pos c, e2, if_pos (by omega), if_pos (by omega), rd27lt (show i - 1 < U.length by omega), if_neg (by omega)]
    · rw [if_neg c]
/-- What is left when the parcels that are due are gone. -/
theorem Fo.later {due due' : List Int} {T D : Int} {L : List S27} (h : Fo due T D L) (hl : due'.length = due.length) (hd : ∀ x ∈ beyond L (T + 1), due'.getD x.f3.toNat 0 = x.f2) : Fo due' (T + 1) D (beyond L (T + 1)) := by
  refine ⟨h.asc.filter _, List.Pairwise.filter _ h.dist, fun x hx => ?_, by rw [hl]; exact Nat.le_trans (List.length_filter_le _ _) h.len⟩
  obtain ⟨h1, h2⟩ := beyond_in.mp hx
  obtain ⟨r0, r1, r2, r3, r4, r5, r6⟩ := h.row x h1
  exact ⟨r0, by rw [hl]; exact r1, hd x hx, h2, by omega, r5, r6⟩
/-- A parcel that is sent. -/
theorem Fo.put {due : List Int} {T D : Int} {L : List S27} (h : Fo due T D L) (x : S27) (hx : x.f3 = due.length) (h2 : T < x.f2 ∧ x.f2 ≤ T + D ∧ x.f2 ≤ 23) (h4 : x.f4 = ⟨#[116]⟩) (hw : 1 ≤ x.f0 ∧ x.f0 ≤ 3 ∧ 1 ≤ x.f1 ∧ x.f1 ≤ 3) : Fo (due ++ [x.f2]) T D (put2 L x) := by
  have hnum : ∀ y ∈ L, y.f3 < x.f3 := fun y hy => by have := (h.row y hy).2.1; omega
  refine ⟨put2_asc h.asc hnum, ?_, fun y hy => ?_, by rw [put2_length _ h.asc, List.length_append, List.length_singleton]; have := h.len; omega⟩
  · unfold put2 upTo beyond
    rw [List.pairwise_append]
    refine ⟨List.Pairwise.filter _ h.dist, ?_, ?_⟩
    · rw [List.pairwise_cons]
      exact ⟨fun y hy => by have := hnum y (List.mem_filter.mp hy).1; omega, List.Pairwise.filter _ h.dist⟩
    · intro a ha b hb
      obtain ⟨ha1, ha2⟩ := List.mem_filter.mp ha
      rcases List.mem_cons.mp hb with rfl | hb
      · have := hnum a ha1
        omega
      · obtain ⟨hb1, hb2⟩ := List.mem_filter.mp hb
        simp at ha2 hb2
        intro e
        have hab : a = b := by
          obtain ⟨i, hi, rfl⟩ := List.mem_iff_getElem.mp ha1
          obtain ⟨j, hj, rfl⟩ := List.mem_iff_getElem.mp hb1
          rcases Nat.lt_trichotomy i j with hij | hij | hij
          · exact absurd e (h.ne hij hj)
          · subst hij; rfl
          · exact absurd e.symm (h.ne hij hi)
        subst hab
        omega
  · rcases put2_mem.mp hy with rfl | hy
    · refine ⟨by omega, by rw [List.length_append, List.length_singleton]; omega, ?_, h2.1, h2.2.1, h2.2.2, h4, hw⟩
      rw [hx, Int.toNat_natCast, List.getD_eq_getElem?_getD, List.getElem?_append_right (Nat.le_refl _), Nat.sub_self]
      rfl
    · obtain ⟨r0, r1, r2, r3⟩ := h.row y hy
      refine ⟨r0, by rw [List.length_append, List.length_singleton]; omega, ?_, r3⟩
      rw [List.getD_eq_getElem?_getD, List.getElem?_append_left (by omega), ← List.getD_eq_getElem?_getD]
      exact r2
set_option maxHeartbeats 4000000 in
/-- A tick, behind what was sent. -/
theorem tick {due : List Int} {n : Nat} {D : Int} {L : List S27} (h : Fo due n D L) (hD : 1 ≤ D ∧ D ≤ 4) (hn : n < 30) (hX : due.length ≤ 100) (s : List Int) (at_ : Int) (kk : Int)
    (ih : ∀ due' L', Fo due' ((n + 1 : Nat) : Int) D L' → due'.length = due.length → Ev (fun k => storagebarterlaw27_FlightOnce.l0 k due' (due.length : Int) ((due.length - L'.length : Nat) : Int) ((n + 1 : Nat) : Int) s at_ ((n + 1 : Nat) : Int) D (due.length : Int) L') true) :
    Ev (fun k => storagebarterlaw27_FlightOnce.j2 k due (due.length : Int) ((due.length - L.length : Nat) : Int) (n : Int) kk false s at_ (n : Int) D (due.length : Int) L) true := by
  have hl := h.len
  have ecut := congrArg List.length (asc_cut L h.asc ((n : Int) + 1))
  rw [List.length_append] at ecut
  have hTn : ((n + 1 : Nat) : Int) = (n : Int) + 1 := by omega
  have hB := h.later (due' := due) rfl (fun x hx => (h.row x (beyond_in.mp hx).1).2.2.1)
  have hU : ∀ x ∈ upTo L ((n : Int) + 1), 0 ≤ x.f3 ∧ x.f3 < due.length ∧ x.f2 = (n : Int) + 1 ∧ x.f4 = ⟨#[116]⟩ := by
    intro x hx
    obtain ⟨h1, h2⟩ := upTo_in.mp hx
    obtain ⟨r0, r1, r2, r3, r4, r5, r6, _⟩ := h.row x h1
    exact ⟨r0, r1, by omega, r6⟩
  have hasc : (upTo L ((n : Int) + 1)).Pairwise (fun a b => a.f3 < b.f3) := by
    refine List.pairwise_iff_getElem.mpr (fun i j hi hj hij => ?_)
    have h1 := asc_get (h.asc.filter (fun x => decide (x.f2 ≤ (n : Int) + 1))) hij hj
    have h2 := (hU _ (List.getElem_mem hi)).2.2.1
    have h3 := (hU _ (List.getElem_mem hj)).2.2.1
    unfold Bf at h1
    unfold upTo at h2 h3 ⊢
    omega
  have hUB : ∀ x ∈ upTo L ((n : Int) + 1), ∀ y ∈ beyond L ((n : Int) + 1), x.f3 ≠ y.f3 := by
    intro x hx y hy e
    obtain ⟨h1, h2⟩ := upTo_in.mp hx
    obtain ⟨h3, h4⟩ := beyond_in.mp hy
    obtain ⟨i, hi, rfl⟩ := List.mem_iff_getElem.mp h1
    obtain ⟨j, hj, rfl⟩ := List.mem_iff_getElem.mp h3
    rcases Nat.lt_trichotomy i j with hij | hij | hij
    · exact h.ne hij hj e
    · subst hij; omega
    · exact h.ne hij hi e.symm
  have hg := given ((n + 1 : Nat) : Int) D s at_ (upTo L ((n : Int) + 1)) (beyond L ((n : Int) + 1)) due.length due.length n hX (by rw [hTn]; exact hU) hasc hUB (fun y hy => (h.row y (beyond_in.mp hy).1).1) (by omega) (by omega) (due.length - L.length) (by omega)
    (fun due' hl' hd' => by
      have := ih due' (beyond L ((n : Int) + 1)) (by rw [hTn]; exact h.later hl' hd') hl'
      rw [show due.length - L.length + (upTo L ((n : Int) + 1)).length = due.length - (beyond L ((n : Int) + 1)).length by omega]
      exact this)
    (upTo L ((n : Int) + 1)).length 0 due (by omega) rfl (fun x hx => by rw [List.drop_zero] at hx; rw [(h.row x (upTo_in.mp hx).1).2.2.1, (hU x hx).2.2.1, hTn]) (fun x hx => (h.row x (beyond_in.mp hx).1).2.2.1)
  have hp : Ev (fun k => flight_Pass.f k (n : Int) D (due.length : Int) L) ((n : Int) + 1, D, (due.length : Int), beyond L ((n : Int) + 1), upTo L ((n : Int) + 1), 0) := ⟨L.length + 1, fun k hk => pass_some (n : Int) D due.length L h.asc (by omega) ⟨by omega, by omega⟩ k (by omega)⟩
  have hv := valid_fo hB hD ⟨by omega, by omega⟩ hX
  refine Ev.step (fun k => ?_) (Ev.bind hp (f := fun k bt262 => (if bt262.2.2.2.2.2 = 0 then ((flight_Valid.f bt262.1 bt262.2.1 bt262.2.2.1 bt262.2.2.2.1).bind fun t273 => (storagebarterlaw27_FlightOnce.j3 k due (due.length : Int) ((due.length - L.length : Nat) : Int) (n : Int) bt262.2.2.2.2.1 (!t273) s at_ bt262.1 bt262.2.1 bt262.2.2.1 bt262.2.2.2.1)) else (storagebarterlaw27_FlightOnce.j3 k due (due.length : Int) ((due.length - L.length : Nat) : Int) (n : Int) bt262.2.2.2.2.1 true s at_ bt262.1 bt262.2.1 bt262.2.2.1 bt262.2.2.2.1))) ?_)
  · rw [storagebarterlaw27_FlightOnce.j2, if_neg (by simp)]
  · refine Ev.congr (f := fun k => storagebarterlaw27_FlightOnce.j3 k due (due.length : Int) ((due.length - L.length : Nat) : Int) (n : Int) (upTo L ((n : Int) + 1)) false s at_ ((n : Int) + 1) D (due.length : Int) (beyond L ((n : Int) + 1))) (fun k => ?_) (Ev.step (fun k => ?_) hg)
    · simp only [if_true]
      rw [hv]
      rfl
    · rw [storagebarterlaw27_FlightOnce.j3, if_neg (by simp), hTn]
      rfl
theorem wA {n w : Int} (h : 0 ≤ n ∧ n ≤ 100 ∧ 0 ≤ w ∧ w ≤ 100) : wrap64 (wrap64 (n + 1) + w) = n + w + 1 := by
  rw [fw64 (n := n + 1) (by omega) (by omega), fw64 (by omega) (by omega)]
  omega
theorem wB {m : Nat} (h : m ≤ 1000) : wrap64 ((m : Int) + 1) = (m : Int) + 1 := fw64 (by omega) (by omega)
theorem wC {v : Nat} (h : v ≤ 1000) : wrap64 (((v + 1 : Nat) : Int) - 1) = (v : Int) := by
  rw [fw64 (by omega) (by omega)]
  omega
theorem wD {b : Int} (h : 0 ≤ b ∧ b ≤ 100) : wrap64 (1 + b) = 1 + b := fw64 (by omega) (by omega)
set_option maxHeartbeats 4000000 in
/-- What is sent in a round, and the tick. -/
theorem sends {D : Int} (hD : 1 ≤ D ∧ D ≤ 4) {n : Nat} (hn : n < 30) (s : List Int) (hs : Bytes_ s)
    (ih : ∀ (due' : List Int) L' (at' : Int), 0 ≤ at' → at' ≤ s.length → Fo due' ((n + 1 : Nat) : Int) D L' → due'.length ≤ 2 * (n + 1) → Ev (fun k => storagebarterlaw27_FlightOnce.l0 k due' (due'.length : Int) ((due'.length - L'.length : Nat) : Int) ((n + 1 : Nat) : Int) s at' ((n + 1 : Nat) : Int) D (due'.length : Int) L') true) :
    ∀ (v : Nat) (due : List Int) (L : List S27) (at_ : Int), 0 ≤ at_ → at_ ≤ s.length → Fo due n D L → due.length + v ≤ 2 * (n + 1) → v ≤ 2 →
      Ev (fun k => storagebarterlaw27_FlightOnce.l1 k due (due.length : Int) ((due.length - L.length : Nat) : Int) (n : Int) (v : Int) s at_ (n : Int) D (due.length : Int) L) true
  | 0, due, L, at_, h0, h1, h, hv, hv2 => by
    refine Ev.step (fun k => ?_) (tick h hD hn (by omega) s at_ ((0 : Nat) : Int) (fun due' L' h' hl' => by have := ih due' L' at_ h0 h1 h' (by omega); rw [hl'] at this; exact this))
    rw [storagebarterlaw27_FlightOnce.l1, if_neg (by omega)]
  | v + 1, due, L, at_, h0, h1, h, hv, hv2 => by
    have hl := h.len
    by_cases c : n < 20
    · obtain ⟨w, a1, e1, w0, w1, p1, q1⟩ := pick_some s hs at_ h0 h1 D (by omega) (by omega)
      obtain ⟨b, a2, e2, b0, b1, p2, q2⟩ := pick_some s hs a1 p1 q1 3 (by decide) (by decide)
      obtain ⟨f, a3, e3, f0, f1, p3, q3⟩ := pick_some s hs a2 p2 q2 3 (by decide) (by decide)
      have hsnd : Ev (fun k => flight_Send.f k (n : Int) D (due.length : Int) L (1 + b) (1 + f) w (⟨#[116]⟩ : ByteArray)) ((n : Int), D, (due.length : Int) + 1, put2 L ⟨1 + b, 1 + f, (n : Int) + w + 1, due.length, ⟨#[116]⟩⟩, 0) :=
        ⟨L.length + 20, fun k hk => send2_some (n : Int) D due.length L h.asc (by omega) (fun x hx => (h.row x hx).2.1) (1 + b) (1 + f) w ⟨#[116]⟩ ⟨by omega, by omega⟩ ⟨by omega, by omega⟩ ⟨by omega, by omega⟩ (by omega) ⟨by omega, by omega⟩ ⟨by omega, by omega⟩ (by decide) k (by omega)⟩
      have hput := h.put ⟨1 + b, 1 + f, (n : Int) + w + 1, due.length, ⟨#[116]⟩⟩ rfl ⟨by show (n : Int) < n + w + 1; omega, by show (n : Int) + w + 1 ≤ n + D; omega, by show (n : Int) + w + 1 ≤ 23; omega⟩ rfl ⟨by show 1 ≤ 1 + b; omega, by show 1 + b ≤ 3; omega, by show 1 ≤ 1 + f; omega, by show 1 + f ≤ 3; omega⟩
      have hpl := put2_length L h.asc ⟨1 + b, 1 + f, (n : Int) + w + 1, due.length, ⟨#[116]⟩⟩
      have hdl : (due ++ [(n : Int) + w + 1]).length = due.length + 1 := by rw [List.length_append, List.length_singleton]
      have hrec := sends hD hn s hs ih v (due ++ [(n : Int) + w + 1]) (put2 L ⟨1 + b, 1 + f, (n : Int) + w + 1, due.length, ⟨#[116]⟩⟩) a3 p3 q3 hput (by omega) (by omega)
      rw [hdl, hpl, show due.length + 1 - (L.length + 1) = due.length - L.length by omega] at hrec
      have e7 : ((due.length + 1 : Nat) : Int) = (due.length : Int) + 1 := by omega
      rw [e7] at hrec
      refine Ev.step (f := fun k => storagebarterlaw27_FlightOnce.j2 k due (due.length : Int) ((due.length - L.length : Nat) : Int) (n : Int) ((v + 1 : Nat) : Int) true s at_ (n : Int) D (due.length : Int) L) (fun k => ?_) (Ev.step (f := fun k => (flight_Send.f k (n : Int) D (due.length : Int) L (1 + b) (1 + f) w (⟨#[116]⟩ : ByteArray)).bind fun bt251 => (if bt251.2.2.2.2 = 0 then (if bt251.2.2.1 = (wrap64 ((due.length : Int) + 1)) then (if due.length < 17592186044416 then (storagebarterlaw27_FlightOnce.l1 k (due ++ [(n : Int) + w + 1]) (wrap64 ((due.length : Int) + 1)) ((due.length - L.length : Nat) : Int) (n : Int) (v : Int) s a3 bt251.1 bt251.2.1 bt251.2.2.1 bt251.2.2.2.1) else (none)) else (none)) else (none))) (fun k => ?_) (Ev.bind hsnd (Ev.congr (fun k => ?_) hrec)))
      · rw [storagebarterlaw27_FlightOnce.l1, if_pos (by omega), decide_eq_true (by omega)]
      · rw [storagebarterlaw27_FlightOnce.j2, if_pos rfl, e1, Option.bind_some, e2, Option.bind_some, e3, Option.bind_some, wD ⟨b0, by omega⟩, wD ⟨f0, by omega⟩, wA ⟨by omega, by omega, w0, by omega⟩, wC (by omega)]
      · simp only [if_true]
        rw [wB (by omega), if_pos rfl, if_pos (by omega)]
    · refine Ev.step (fun k => ?_) (tick h hD hn (by omega) s at_ ((v + 1 : Nat) : Int) (fun due' L' h' hl' => by have := ih due' L' at_ h0 h1 h' (by omega); rw [hl'] at this; exact this))
      rw [storagebarterlaw27_FlightOnce.l1, if_pos (by omega), decide_eq_false (by omega)]
theorem rounds {D : Int} (hD : 1 ≤ D ∧ D ≤ 4) (s : List Int) (hs : Bytes_ s) : ∀ (d n : Nat) (due : List Int) (L : List S27) (at_ : Int), n + d = 30 → 0 ≤ at_ → at_ ≤ s.length → Fo due n D L → due.length ≤ 2 * n →
    Ev (fun k => storagebarterlaw27_FlightOnce.l0 k due (due.length : Int) ((due.length - L.length : Nat) : Int) (n : Int) s at_ (n : Int) D (due.length : Int) L) true
  | 0, n, due, L, at_, hn, h0, h1, h, hx => by
    have hL : L = [] := by
      rcases L with _ | ⟨x, L⟩
      · rfl
      · have := h.row x List.mem_cons_self
        omega
    subst hL
    refine Ev.step (fun k => ?_) (Ev.now _)
    rw [storagebarterlaw27_FlightOnce.l0, if_neg (by omega), if_pos (by rw [List.length_nil]; omega)]
    rfl
  | d + 1, n, due, L, at_, hn, h0, h1, h, hx => by
    obtain ⟨v, a1, e1, v0, v1, p1, q1⟩ := pick_some s hs at_ h0 h1 3 (by decide) (by decide)
    obtain ⟨m, rfl⟩ := Int.eq_ofNat_of_zero_le v0
    have := sends hD (n := n) (by omega) s hs (fun due' L' at' h0' h1' h' hx' => rounds hD s hs d (n + 1) due' L' at' (by omega) h0' h1' h' hx') m due L a1 p1 q1 h (by omega) (by omega)
    refine Ev.step (fun k => ?_) this
    rw [storagebarterlaw27_FlightOnce.l0, if_pos (by omega), e1, Option.bind_some]
theorem FlightOnce : storagebarterlaw27_FlightOnce.Pure := by
  intro l _ _ hw
  obtain ⟨s, es, hs⟩ := new_some l hw
  obtain ⟨v, a, e, v0, v1, p, q⟩ := pick_some s hs 0 (by omega) (by omega) 4 (by decide) (by decide)
  have hv : wrap64 (1 + v) = 1 + v := fw64 (by omega) (by omega)
  have hr := rounds (D := 1 + v) ⟨by omega, by omega⟩ s hs 30 0 [] [] a (by omega) p q ⟨List.Pairwise.nil, List.Pairwise.nil, by simp, by simp⟩ (by simp)
  refine Ev.rounds (Ev.bind fsane (Ev.congr (fun k => ?_) hr))
  rw [if_pos rfl, es, Option.bind_some, e, Option.bind_some, hv]
  unfold flight_New.f
  rw [if_neg (by omega), if_neg (by omega)]
  rfl
end Go.Proofs.Ytejhjncobibgmaa.Pure
