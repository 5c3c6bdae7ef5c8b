/- What is read from a block is what was written to it last; a torn or bad block is not read: the plain statement that is left of the law DeviceReads. -/
import Derived.Test.YthlpjnbpdafjeaaDev
import Derived.Test.YthlpjnbpdafjeaaText
import Derived.Test.YthlpjnbpdafjeaaPAx22
import Derived.Test.YthlpjnbpdafjeaaPAx25
import Derived.Test.YthlpjnbpdafjeaaPAx28
import Derived.Test.YthlpjnbpdafjeaaPAx31
import Derived.Test.YthlpjnbpdafjeaaPAx32
import Derived.Test.YthlpjnbpdafjeaaPAx33
import Derived.Test.YthlpjnbpdafjeaaPAx34
set_option linter.unusedVariables false
set_option linter.unusedSimpArgs false
namespace Go.Proofs.Ythlpjnbpdafjeaa.Pure
open Go.RowKit Go.Proofs.Ythlpjnbpdafjeaa.PA Go.Proofs.YthlpjnbpdafjeaaW.PrintWords Go.Proofs.YthlpjnbpdafjeaaW.PrintLast
theorem sane_reads (k : Nat) (hk : 1300 < k) : storagebarterlaw10_sane.f k = some true := by
  have h40 : storagebarterlaw10_sane.f 40 = some true := by decide +kernel
  have key : ∀ d, storagebarterlaw10_sane.f (40 + d) = some true := by
    intro d
    induction d with
    | zero => exact h40
    | succ d ih => exact storagebarterlaw10_sane.mono _ _ ih
  have := key (k - 40)
  rwa [show 40 + (k - 40) = k by omega] at this
theorem e_list : (⟨#[]⟩ : ByteArray).toList = ([] : List UInt8) := by decide +kernel
theorem up_pair {l : List Int} : Up l ↔ l.Pairwise (· < ·) := by
  rw [List.pairwise_iff_getElem]
  constructor
  · intro h i j hi hj hij
    have := h i j hij hj
    rwa [List.getD_eq_getElem?_getD, List.getD_eq_getElem?_getD, List.getElem?_eq_getElem hi, List.getElem?_eq_getElem hj] at this
  · intro h i j hij hj
    have := h i j (by omega) hj hij
    rw [List.getD_eq_getElem?_getD, List.getD_eq_getElem?_getD, List.getElem?_eq_getElem (by omega : i < l.length), List.getElem?_eq_getElem hj]
    exact this
theorem mem_put1 {l : List Int} {x y : Int} : y ∈ put1 l x ↔ y = x ∨ y ∈ l := by
  unfold put1
  simp only [List.mem_append, List.mem_cons, List.mem_filter, decide_eq_true_eq]
  constructor
  · rintro (⟨h, _⟩ | h | ⟨h, _⟩)
    · exact .inr h
    · exact .inl h
    · exact .inr h
  · rintro (h | h)
    · exact .inr (.inl h)
    · rcases Int.lt_trichotomy y x with c | c | c
      · exact .inl ⟨h, c⟩
      · exact .inr (.inl c)
      · exact .inr (.inr ⟨h, c⟩)
theorem up_put1 {l : List Int} (h : Up l) (x : Int) : Up (put1 l x) := by
  rw [up_pair] at h ⊢
  unfold put1
  rw [List.pairwise_append, List.pairwise_cons]
  refine ⟨h.filter _, ⟨fun y hy => ?_, h.filter _⟩, fun y hy z hz => ?_⟩
  · exact of_decide_eq_true (List.mem_filter.mp hy).2
  · have h1 : y < x := of_decide_eq_true (List.mem_filter.mp hy).2
    rcases List.mem_cons.mp hz with rfl | hz
    · exact h1
    · have h2 : x < z := of_decide_eq_true (List.mem_filter.mp hz).2
      omega
theorem mem_cut1 {l : List Int} {x y : Int} : y ∈ cut1 l x ↔ y ∈ l ∧ y ≠ x := by
  unfold cut1
  simp [List.mem_filter]
theorem up_cut1 {l : List Int} (h : Up l) (x : Int) : Up (cut1 l x) := by
  rw [up_pair] at h ⊢
  exact h.filter _
theorem getD_set_at {l : List ByteArray} {i j : Nat} {v : ByteArray} (hi : i < l.length) : (l.set i v).getD j ByteArray.empty = if i = j then v else l.getD j ByteArray.empty := by
  rw [List.getD_eq_getElem?_getD, List.getElem?_set]
  by_cases c : i = j
  · rw [if_pos c, if_pos c, if_pos (by omega)]
    rfl
  · rw [if_neg c, if_neg c, List.getD_eq_getElem?_getD]
theorem getD_set_int {l : List Int} {i j : Nat} {v : Int} (hi : i < l.length) : (l.set i v).getD j 0 = if i = j then v else l.getD j 0 := by
  rw [List.getD_eq_getElem?_getD, List.getElem?_set]
  by_cases c : i = j
  · rw [if_pos c, if_pos c, if_pos (by omega)]
    rfl
  · rw [if_neg c, if_neg c, List.getD_eq_getElem?_getD]
/-- A block gets empty, or has been: its numbers stay marked; one more may be. -/
theorem marked_empty {bl : List ByteArray} {l : List Int} (h : Marked bl l) {i : Nat} (hi : i < bl.length) : Marked (bl.set i ⟨#[]⟩) l := by
  refine ⟨h.up, fun x hx => by rw [List.length_set]; exact h.lo x hx, fun x hx => ?_⟩
  rw [getD_set_at hi]
  split
  · exact e_list
  · exact h.em x hx
theorem marked_put {bl : List ByteArray} {l : List Int} (h : Marked bl l) {i : Nat} (hi : i < bl.length) : Marked (bl.set i ⟨#[]⟩) (put1 l i) := by
  have h' := marked_empty h hi
  refine ⟨up_put1 h.up _, fun x hx => ?_, fun x hx => ?_⟩
  · rcases mem_put1.mp hx with rfl | hx
    · rw [List.length_set]
      omega
    · exact h'.lo x hx
  · rcases mem_put1.mp hx with rfl | hx
    · rw [getD_set_at hi, Int.toNat_natCast, if_pos rfl]
      exact e_list
    · exact h'.em x hx
theorem marked_write {bl : List ByteArray} {l : List Int} (h : Marked bl l) {i : Nat} (hi : i < bl.length) (s : ByteArray) (hn : (i : Int) ∉ l) : Marked (bl.set i s) l := by
  refine ⟨h.up, fun x hx => by rw [List.length_set]; exact h.lo x hx, fun x hx => ?_⟩
  have := h.lo x hx
  have hne : ¬ i = x.toNat := fun e => hn (by rw [show ((i : Nat) : Int) = x by omega]; exact hx)
  rw [getD_set_at hi, if_neg hne]
  exact h.em x hx
theorem marked_cut {bl : List ByteArray} {l : List Int} (h : Marked bl l) (x : Int) : Marked bl (cut1 l x) :=
  ⟨up_cut1 h.up x, fun y hy => h.lo y (mem_cut1.mp hy).1, fun y hy => h.em y (mem_cut1.mp hy).1⟩
theorem sizes_set {bl : List ByteArray} {i : Nat} {s : ByteArray} {m : Int} (h : ∀ x ∈ bl, (x.size : Int) ≤ m) (hs : (s.size : Int) ≤ m) : ∀ x ∈ bl.set i s, (x.size : Int) ≤ m := by
  intro x hx
  rcases List.mem_or_eq_of_mem_set hx with h1 | rfl
  · exact h x h1
  · exact hs
theorem fail_some {size : Int} {bl : List ByteArray} {torn bad : List Int} {fuse : Int} (down : Bool) (h : DvOk size bl torn bad fuse) (n : Nat) (hn : n < bl.length) (k : Nat) (hk : 1400 < k) :
    device_Fail.f k size bl torn bad fuse down (n : Int) = some (size, bl.set n ⟨#[]⟩, cut1 torn n, put1 bad n, fuse, down, 0) := by
  obtain ⟨k, rfl⟩ : ∃ m, k = m + 1 := ⟨k - 1, by omega⟩
  unfold device_Fail.f
  rw [valid_some down h (k + 1) (by omega), Option.bind_some, if_pos rfl, if_neg (by omega), decide_eq_false (by omega), device_Fail.j0, if_neg (by decide), twin_some size bl torn bad fuse down h, Option.bind_some]
  simp only
  rw [if_pos (by omega), if_pos (by omega)]
  simp only [with_some h.b1 h.bm n k (by omega), without_some h.b1 h.tm n k (by omega), Option.bind_some, Int.toNat_natCast]
theorem write_bad {size : Int} {bl : List ByteArray} {torn bad : List Int} {fuse : Int} (h : DvOk size bl torn bad fuse) (n : Nat) (hn : n < bl.length) (s : ByteArray) (hs : (s.size : Int) ≤ size) (hbad : (n : Int) ∈ bad) (k : Nat) (hk : 1300 < k) :
    device_Write.f k size bl torn bad fuse false (n : Int) s = some (0, [], [], [], 0, false, 12) := by
  unfold device_Write.f
  rw [ready_ok h n hn k hk]
  simp only [Option.bind_some, if_true]
  rw [if_neg (by omega), has_some h.b1 h.bm n k hk, decide_eq_true hbad]
  rfl
/-- What the law's own rows say of the device. -/
structure Inv (n : Nat) (last : List ByteArray) (state : List Int) (bl : List ByteArray) (torn bad : List Int) : Prop where
  n1 : 1 ≤ n ∧ n ≤ 6
  ll : last.length = n
  sl : state.length = n
  bb : bl.length = n
  ok : DvOk 16 bl torn bad 0
  bd : ∀ j, j < n → ((j : Int) ∈ bad ↔ state.getD j 0 = 12)
  tn : ∀ j, j < n → ((j : Int) ∈ torn ↔ state.getD j 0 = 13)
  st : ∀ j, j < n → state.getD j 0 = 0 ∨ state.getD j 0 = 12 ∨ state.getD j 0 = 13
  rd : ∀ j, j < n → state.getD j 0 = 0 → bl.getD j ByteArray.empty = last.getD j ByteArray.empty
theorem Inv.fuse {n : Nat} {last : List ByteArray} {state : List Int} {bl : List ByteArray} {torn bad : List Int} (h : Inv n last state bl torn bad) (f : Int) (hf : 0 ≤ f ∧ f ≤ 1048576) : DvOk 16 bl torn bad f :=
  ⟨h.ok.s0, h.ok.s1, h.ok.b0, h.ok.b1, h.ok.bs, hf.1, hf.2, h.ok.tm, h.ok.bm⟩
theorem Inv.fail {n : Nat} {last : List ByteArray} {state : List Int} {bl : List ByteArray} {torn bad : List Int} (h : Inv n last state bl torn bad) {i : Nat} (hi : i < n) : Inv n last (state.set i 12) (bl.set i ⟨#[]⟩) (cut1 torn i) (put1 bad i) := by
  have hib : i < bl.length := by rw [h.bb]; exact hi
  have his : i < state.length := by rw [h.sl]; exact hi
  refine ⟨h.n1, h.ll, by rw [List.length_set]; exact h.sl, by rw [List.length_set]; exact h.bb, ⟨h.ok.s0, h.ok.s1, by rw [List.length_set]; exact h.ok.b0, by rw [List.length_set]; exact h.ok.b1, sizes_set h.ok.bs (by decide), h.ok.f0, h.ok.f1, marked_cut (marked_empty h.ok.tm hib) _, marked_put h.ok.bm hib⟩, ?_, ?_, ?_, ?_⟩
  · intro j hj
    rw [mem_put1, getD_set_int his]
    by_cases c : i = j
    · rw [if_pos c]
      exact ⟨fun _ => rfl, fun _ => .inl (by omega)⟩
    · rw [if_neg c, ← h.bd j hj]
      exact ⟨fun e => e.resolve_left (by omega), .inr⟩
  · intro j hj
    rw [mem_cut1, getD_set_int his]
    by_cases c : i = j
    · rw [if_pos c]
      exact ⟨fun e => absurd (by omega) e.2, fun e => by cases e⟩
    · rw [if_neg c, ← h.tn j hj]
      exact ⟨fun e => e.1, fun e => ⟨e, by omega⟩⟩
  · intro j hj
    rw [getD_set_int his]
    split
    · exact .inr (.inl rfl)
    · exact h.st j hj
  · intro j hj
    rw [getD_set_int his, getD_set_at hib]
    by_cases c : i = j
    · rw [if_pos c]
      intro e
      cases e
    · rw [if_neg c, if_neg c]
      exact h.rd j hj
theorem Inv.tear {n : Nat} {last : List ByteArray} {state : List Int} {bl : List ByteArray} {torn bad : List Int} (h : Inv n last state bl torn bad) {i : Nat} (hi : i < n) (hb : (i : Int) ∉ bad) : Inv n last (state.set i 13) (bl.set i ⟨#[]⟩) (put1 torn i) bad := by
  have hib : i < bl.length := by rw [h.bb]; exact hi
  have his : i < state.length := by rw [h.sl]; exact hi
  refine ⟨h.n1, h.ll, by rw [List.length_set]; exact h.sl, by rw [List.length_set]; exact h.bb, ⟨h.ok.s0, h.ok.s1, by rw [List.length_set]; exact h.ok.b0, by rw [List.length_set]; exact h.ok.b1, sizes_set h.ok.bs (by decide), h.ok.f0, h.ok.f1, marked_put h.ok.tm hib, marked_empty h.ok.bm hib⟩, ?_, ?_, ?_, ?_⟩
  · intro j hj
    rw [getD_set_int his]
    by_cases c : i = j
    · rw [if_pos c]
      subst c
      exact ⟨fun e => absurd e hb, fun e => by cases e⟩
    · rw [if_neg c]
      exact h.bd j hj
  · intro j hj
    rw [mem_put1, getD_set_int his]
    by_cases c : i = j
    · rw [if_pos c]
      exact ⟨fun _ => rfl, fun _ => .inl (by omega)⟩
    · rw [if_neg c, ← h.tn j hj]
      exact ⟨fun e => e.resolve_left (by omega), .inr⟩
  · intro j hj
    rw [getD_set_int his]
    split
    · exact .inr (.inr rfl)
    · exact h.st j hj
  · intro j hj
    rw [getD_set_int his, getD_set_at hib]
    by_cases c : i = j
    · rw [if_pos c]
      intro e
      cases e
    · rw [if_neg c, if_neg c]
      exact h.rd j hj
theorem Inv.write {n : Nat} {last : List ByteArray} {state : List Int} {bl : List ByteArray} {torn bad : List Int} (h : Inv n last state bl torn bad) {i : Nat} (hi : i < n) (hb : (i : Int) ∉ bad) (s : ByteArray) (hs : (s.size : Int) ≤ 16) : Inv n (last.set i s) (state.set i 0) (bl.set i s) (cut1 torn i) bad := by
  have hib : i < bl.length := by rw [h.bb]; exact hi
  have his : i < state.length := by rw [h.sl]; exact hi
  have hil : i < last.length := by rw [h.ll]; exact hi
  refine ⟨h.n1, by rw [List.length_set]; exact h.ll, by rw [List.length_set]; exact h.sl, by rw [List.length_set]; exact h.bb, ⟨h.ok.s0, h.ok.s1, by rw [List.length_set]; exact h.ok.b0, by rw [List.length_set]; exact h.ok.b1, sizes_set h.ok.bs hs, h.ok.f0, h.ok.f1, marked_write (marked_cut h.ok.tm _) hib s (fun e => (mem_cut1.mp e).2 rfl), marked_write h.ok.bm hib s hb⟩, ?_, ?_, ?_, ?_⟩
  · intro j hj
    rw [getD_set_int his]
    by_cases c : i = j
    · rw [if_pos c]
      subst c
      exact ⟨fun e => absurd e hb, fun e => by cases e⟩
    · rw [if_neg c]
      exact h.bd j hj
  · intro j hj
    rw [mem_cut1, getD_set_int his]
    by_cases c : i = j
    · rw [if_pos c]
      exact ⟨fun e => absurd (by omega) e.2, fun e => by cases e⟩
    · rw [if_neg c, ← h.tn j hj]
      exact ⟨fun e => e.1, fun e => ⟨e, by omega⟩⟩
  · intro j hj
    rw [getD_set_int his]
    split
    · exact .inl rfl
    · exact h.st j hj
  · intro j hj
    rw [getD_set_int his, getD_set_at hib, getD_set_at hil]
    by_cases c : i = j
    · rw [if_pos c, if_pos c, if_pos c]
      exact fun _ => rfl
    · rw [if_neg c, if_neg c, if_neg c]
      exact h.rd j hj
theorem rdI (l : List Int) (i : Nat) : rd l (i : Int) = l.getD i 0 := by unfold rd; rw [Int.toNat_natCast]
/-- All blocks are read. -/
theorem read_all {L : List Int} {n : Nat} {last : List ByteArray} {state : List Int} {bl : List ByteArray} {torn bad : List Int} (h : Inv n last state bl torn bad) (x9 q : Int) (K : Nat) (hK : 1400 < K)
    (hc : ∀ k, K < k → storagebarterlaw10_DeviceReads.l0 k (n : Int) last state (wrap64 (x9 + 1)) L q 16 bl torn bad 0 false = some true) : ∀ (d j k : Nat), j + d = n → K + d + 1 < k →
    storagebarterlaw10_DeviceReads.l1 k (n : Int) last state x9 (last.length : Int) (j : Int) L q 16 bl torn bad 0 false = some true
  | 0, j, k, hj, hk => by
    obtain ⟨k, rfl⟩ : ∃ m, k = m + 1 := ⟨k - 1, by omega⟩
    have := h.ll
    rw [storagebarterlaw10_DeviceReads.l1, if_neg (by omega)]
    exact hc k (by omega)
  | d + 1, j, k, hj, hk => by
    obtain ⟨k, rfl⟩ : ∃ m, k = m + 1 := ⟨k - 1, by omega⟩
    have h1 := h.ll
    have h2 := h.sl
    have h3 := h.bb
    have h4 := h.n1
    have hjn : j < n := by omega
    have ih := read_all h x9 q K hK hc d (j + 1) k (by omega) (by omega)
    have ew : wrap64 ((j : Int) + 1) = ((j + 1 : Nat) : Int) := by rw [w64 (by omega) (by omega)]; rfl
    rw [storagebarterlaw10_DeviceReads.l1, if_pos (by omega), read_some h.ok j (by omega) k (by omega), Option.bind_some, if_pos (by omega), if_pos (by omega), rdI, ew, brds]
    rcases h.st j hjn with c | c | c
    · have hb : (j : Int) ∉ bad := fun e => by have := (h.bd j hjn).mp e; omega
      have ht : (j : Int) ∉ torn := fun e => by have := (h.tn j hjn).mp e; omega
      rw [if_neg hb, if_neg ht, c, h.rd j hjn c]
      simp only [if_true]
      rw [if_pos (by omega)]
      exact ih
    · have hb : (j : Int) ∈ bad := (h.bd j hjn).mpr c
      rw [if_pos hb, c, if_pos rfl, if_neg (by decide)]
      exact ih
    · have hb : (j : Int) ∉ bad := fun e => by have := (h.bd j hjn).mp e; omega
      have ht : (j : Int) ∈ torn := (h.tn j hjn).mpr c
      rw [if_neg hb, if_pos ht, c, if_pos rfl, if_neg (by decide)]
      exact ih
theorem torn_size : ((⟨#[116, 111, 114, 110]⟩ : ByteArray).size : Int) ≤ 16 := by decide
theorem reads_loop {L : List Int} {n : Nat} : ∀ (m x9 : Nat) (q : Int) (last : List ByteArray) (state : List Int) (bl : List ByteArray) (torn bad : List Int) (k : Nat), x9 + m = 60 → Inv n last state bl torn bad → DeckOk L q → m * 20 + 12000 < k →
    storagebarterlaw10_DeviceReads.l0 k (n : Int) last state (x9 : Int) L q 16 bl torn bad 0 false = some true
  | 0, x9, q, last, state, bl, torn, bad, k, hx, h, hq, hk => by
    obtain ⟨k, rfl⟩ : ∃ m, k = m + 2 := ⟨k - 2, by omega⟩
    rw [storagebarterlaw10_DeviceReads.l0, if_neg (by omega), storagebarterlaw10_DeviceReads.j1, if_neg (by decide)]
  | m + 1, x9, q, last, state, bl, torn, bad, k, hx, h, hq, hk => by
    obtain ⟨k, rfl⟩ : ∃ m, k = m + 3 := ⟨k - 3, by omega⟩
    have h1 := h.ll
    have h2 := h.sl
    have h3 := h.bb
    have h4 := h.n1
    have em : storagebartermake_Deck_More.f L q = some (decide (q < (L.length : Int)), q) := rfl
    have ew : wrap64 ((x9 : Int) + 1) = ((x9 + 1 : Nat) : Int) := by rw [w64 (by omega) (by omega)]; rfl
    rw [storagebarterlaw10_DeviceReads.l0, if_pos (by omega), em, Option.bind_some, storagebarterlaw10_DeviceReads.j1]
    simp only
    by_cases c0 : q < (L.length : Int)
    · obtain ⟨v, q1, e1, hv, hv', hq1, _, _⟩ := next_some hq (n : Int) (by omega) (by omega)
      obtain ⟨i, rfl⟩ : ∃ i : Nat, v = i := ⟨v.toNat, by omega⟩
      obtain ⟨v2, q2, e2, hv2, hv2', hq2, _, _⟩ := next_some hq1 8 (by decide) (by decide)
      have hin : i < n := by omega
      -- what follows where the device has been changed
      have go : ∀ (last' : List ByteArray) (state' : List Int) (bl' : List ByteArray) (torn' bad' : List Int) (q' : Int), Inv n last' state' bl' torn' bad' → DeckOk L q' →
          storagebarterlaw10_DeviceReads.j2 (k + 1) (n : Int) last' state' (x9 : Int) L q' 16 bl' torn' bad' 0 false = some true := by
        intro last' state' bl' torn' bad' q' h' hq'
        rw [storagebarterlaw10_DeviceReads.j2]
        exact read_all h' (x9 : Int) q' (m * 20 + 12000) (by omega) (fun k' hk' => by
          rw [ew]
          exact reads_loop m (x9 + 1) q' last' state' bl' torn' bad' k' (by omega) h' hq' hk') n 0 k (by omega) (by omega)
      have again : ∀ (q' : Int), DeckOk L q' → storagebarterlaw10_DeviceReads.l0 (k + 1) (n : Int) last state (wrap64 ((x9 : Int) + 1)) L q' 16 bl torn bad 0 false = some true := by
        intro q' hq'
        rw [ew]
        exact reads_loop m (x9 + 1) q' last state bl torn bad (k + 1) (by omega) h hq' (by omega)
      rw [decide_eq_true c0, if_pos rfl, e1, Option.bind_some]
      simp only
      rw [e2, Option.bind_some]
      simp only
      by_cases c1 : v2 = 0
      · rw [if_pos c1, fail_some false h.ok i (by omega) (k + 1) (by omega), Option.bind_some]
        simp only [if_true, Int.toNat_natCast]
        rw [if_pos (by omega), if_pos (by omega)]
        exact go _ _ _ _ _ _ (h.fail hin) hq2
      · rw [if_neg c1]
        by_cases c2 : v2 = 1
        · rw [if_pos c2, arm_some false h.ok 1 (by decide) (k + 1) (by omega), Option.bind_some]
          simp only
          have hf := h.fuse 1 (by decide)
          by_cases c3 : state.getD i 0 = 12
          · rw [write_bad hf i (by omega) _ torn_size ((h.bd i hin).mpr c3) (k + 1) (by omega), Option.bind_some]
            simp only [if_true]
            rw [if_pos (by omega), if_pos (by omega), rdI, if_pos c3, arm_some false hf 0 (by decide) (k + 1) (by omega), Option.bind_some]
            simp only
            exact again _ hq2
          · have hb : (i : Int) ∉ bad := fun e => c3 ((h.bd i hin).mp e)
            have ht := h.tear hin hb
            rw [write_some hf i (by omega) _ torn_size hb (k + 1) (by omega), if_pos rfl, Option.bind_some]
            simp only [if_true]
            rw [if_pos (by omega), if_pos (by omega), rdI, if_neg c3, start_some true ht.ok (k + 1) (by omega), Option.bind_some]
            simp only [if_true, Int.toNat_natCast]
            rw [if_neg (by decide)]
            exact go _ _ _ _ _ _ ht hq2
        · rw [if_neg c2]
          obtain ⟨s, q3, e3, hs3, hq3⟩ : ∃ s q3, storagebartermake_Text.f (k + 1) L q2 16 = some (s, q3) ∧ (s.size : Int) ≤ 16 ∧ DeckOk L q3 := by
            obtain ⟨s, q3, r1, r2, r3, r4⟩ := text_some hq2 16 (by decide) (by decide) (k + 1) (by omega)
            exact ⟨s, q3, r1, by omega, by assumption⟩
          rw [e3, Option.bind_some]
          simp only
          by_cases c3 : state.getD i 0 = 12
          · rw [write_bad h.ok i (by omega) s hs3 ((h.bd i hin).mpr c3) (k + 1) (by omega), Option.bind_some]
            simp only [if_true]
            rw [if_pos (by omega), if_pos (by omega), rdI, if_pos c3]
            exact again _ hq3
          · have hb : (i : Int) ∉ bad := fun e => c3 ((h.bd i hin).mp e)
            rw [write_some h.ok i (by omega) s hs3 hb (k + 1) (by omega), if_neg (by decide), Option.bind_some]
            simp only [if_true, Int.toNat_natCast]
            rw [if_pos (by omega), if_pos (by omega), rdI, if_neg c3, if_pos (by omega)]
            exact go _ _ _ _ _ _ (h.write hin hb s hs3) hq3
    · rw [decide_eq_false c0, if_neg (by decide)]
theorem DeviceReads : storagebarterlaw10_DeviceReads.Pure := by
  intro L hL hL8 hw
  refine ⟨20000, ?_⟩
  unfold storagebarterlaw10_DeviceReads.f
  rw [sane_reads 20000 (by omega), Option.bind_some, if_pos rfl, few_some, Option.bind_some]
  by_cases hf : (L.length : Int) ≤ 500
  · rw [decide_eq_true hf, if_pos rfl]
    have hd : DeckOk L 0 := ⟨by omega, by omega, by omega⟩
    rw [show storagebartermake_New.f L = some (L, 0) from rfl, Option.bind_some]
    obtain ⟨v, q1, e1, hv, hv', hq1, _, _⟩ := next_some hd 6 (by decide) (by decide)
    obtain ⟨m, rfl⟩ : ∃ m : Nat, v = m := ⟨v.toNat, by omega⟩
    simp only
    rw [e1, Option.bind_some]
    simp only
    have ew : wrap64 (1 + (m : Int)) = ((m + 1 : Nat) : Int) := by rw [w64 (by omega) (by omega)]; omega
    rw [ew, new_some 16 ((m + 1 : Nat) : Int) (by decide) (by omega), Option.bind_some]
    simp only [if_true, Int.toNat_natCast]
    rw [if_pos (by omega), if_pos (by omega), if_pos (by omega)]
    have hg : ∀ j, j < m + 1 → (List.replicate (m + 1) (0 : Int)).getD j 0 = 0 := fun j hj => by
      rw [List.getD_eq_getElem?_getD, List.getElem?_replicate, if_pos hj]
      rfl
    exact reads_loop 60 0 q1 _ _ _ [] [] 20000 rfl ⟨⟨by omega, by omega⟩, List.length_replicate .., List.length_replicate .., List.length_replicate .., new_ok 16 (m + 1) (by decide) (by omega) 0 (by decide), fun j hj => by rw [hg j hj]; simp, fun j hj => by rw [hg j hj]; simp, fun j hj => .inl (hg j hj), fun j hj _ => rfl⟩ hq1 (by omega)
  · rw [decide_eq_false hf]
    rfl
end Go.Proofs.Ythlpjnbpdafjeaa.Pure
