/- In whatever order messages come the trace is the same: the plain statement that is left of the law TraceOrder. -/
import Derived.Test.YtghepgcbciikmaaDeck
import Derived.Test.YtghepgcbciikmaaPAx0
import Derived.Test.YtghepgcbciikmaaPAx7
import Derived.Test.YtghepgcbciikmaaPAx14
set_option linter.unusedVariables false
namespace Go.Proofs.Ytghepgcbciikmaa.Pure
open Go.RowKit Go.Proofs.Ytghepgcbciikmaa.PA Go.Proofs.YtghepgcbciikmaaW.PrintWords Go.Proofs.YtghepgcbciikmaaW.PrintLast
theorem rdlt {l : List S35} {i : Nat} (h : i < l.length) : rd_T35 l (i : Int) = l[i] := by
 unfold rd_T35
 rw [Int.toNat_natCast, List.getD_eq_getElem?_getD, List.getElem?_eq_getElem h]
 rfl
theorem nx {i : Nat} (h : i ≤ 4611686018427387904) : wrap64 ((i : Int) + 1) = ((i + 1 : Nat) : Int) := by
 rw [w64 (by omega) (by omega)]
 omega
structure Ro (x : S35) : Prop where
 r0 : 1 ≤ x.f0 ∧ x.f0 ≤ 3
 r1 : x.f1 = 5
 r2 : x.f2 = 1
 r3 : 0 ≤ x.f3 ∧ x.f3 ≤ 7
 r4 : 0 ≤ x.f4 ∧ x.f4 ≤ 8
 r5 : 0 ≤ x.f5 ∧ x.f5 ≤ 16
structure To (l : List S35) : Prop where
 row : ∀ x ∈ l, Ro x
 asc : (l.map (·.f4)).Pairwise (· ≤ ·)
 one : (l.map (·.f3)).Pairwise (· ≠ ·)
 len : l.length ≤ 8
theorem To.lt {l : List S35} (h : To l) {i j : Nat} (hij : i < j) (hj : j < l.length) : l[i].f4 ≤ l[j].f4 := by
 have := List.pairwise_iff_getElem.mp h.asc i j (by rw [List.length_map]; omega) (by rw [List.length_map]; omega) hij
 simpa using this
theorem To.ne {l : List S35} (h : To l) {i j : Nat} (hij : i < j) (hj : j < l.length) : l[i].f3 ≠ l[j].f3 := by
 have := List.pairwise_iff_getElem.mp h.one i j (by rw [List.length_map]; omega) (by rw [List.length_map]; omega) hij
 simpa using this
theorem To.ne' {l : List S35} (h : To l) {i j : Nat} (hi : i < l.length) (hj : j < l.length) (e : i ≠ j) : l[i].f3 ≠ l[j].f3 := by
 rcases Nat.lt_or_gt_of_ne e with c | c
 ·exact h.ne c hj
 ·exact (h.ne c hi).symm
theorem person_is {n : Int} (h : 1 ≤ n ∧ n < 2147483647) : trace_person.f n = some true := by
 unfold trace_person.f
 rw [if_pos h.1, decide_eq_true h.2]
theorem tproper {x : S35} (h : Ro x) : trace_proper.f x.f0 x.f1 x.f2 x.f3 x.f4 x.f5 = some true := by
 obtain ⟨r0, r1, r2, r3, r4, r5⟩ := h
 unfold trace_proper.f
 rw [person_is (by omega), person_is (by omega)]
 simp only [Option.bind_some, if_true]
 rw [if_neg (by omega), if_pos (by omega), if_pos (by omega), if_pos (by omega), if_pos (by omega), if_pos (by omega), if_pos (by omega), if_pos (by omega), decide_eq_true (by omega)]
theorem key_is (x : S35) : trace_valid.key x = (x.f0, x.f1, x.f2, x.f3) := rfl
theorem valid_to {l : List S35} (h : To l) : trace_valid.f l = some true := by
 have hb : trace_valid.okB l = true := by
  have hl := h.len
  unfold trace_valid.okB
  rw [if_neg (by omega), List.all_eq_true]
  intro i hi
  have hi := List.mem_range.mp hi
  unfold trace_valid.okAt
  rw [rdlt hi, tproper (h.row _ (List.getElem_mem hi)), if_neg (by simp), if_neg, if_neg]
  ·rintro ⟨h1, h2⟩
   have e : (i : Int) - 1 = ((i - 1 : Nat) : Int) := by omega
   rw [e, rdlt (by omega)] at h2
   have := h.lt (show i - 1 < i by omega) hi
   omega
  ·intro hm
   obtain ⟨y, hy, e⟩ := List.mem_map.mp hm
   obtain ⟨j, hj, rfl⟩ := List.mem_iff_getElem.mp hy
   rw [List.length_take] at hj
   rw [List.getElem_take, key_is] at e
   injection e with _ e
   injection e with _ e
   injection e with _ e
   exact h.ne (show j < i by omega) hi e
 unfold trace_valid.f
 rw [hb]
theorem idx_none {α : Type} (p : α → Bool) : ∀ (l : List α) (i : Nat), (∀ x ∈ l, p x = false) → trace_find.idx p l i = -1
 | [], _, _ => rfl
 | x :: l, i, h => by
  rw [trace_find.idx, if_neg (by rw [h x (by simp)]; decide)]
  exact idx_none p l (i + 1) (fun y hy => h y (by simp [hy]))
theorem idx_at {α : Type} (p : α → Bool) : ∀ (l : List α) (i j : Nat) (hj : j < l.length), p l[j] = true → (∀ q (hq : q < l.length), q < j → p l[q] = false) → trace_find.idx p l i = ((i + j : Nat) : Int)
 | x :: l, i, 0, hj, h1, h2 => by
  rw [trace_find.idx, if_pos (by simpa using h1)]
  rfl
 | x :: l, i, j + 1, hj, h1, h2 => by
  rw [trace_find.idx, if_neg (by have := h2 0 (by simp) (by omega); simp at this; simp [this])]
  rw [idx_at p l (i + 1) j (by simpa using hj) (by simpa using h1) (fun q hq hlt => by have := h2 (q + 1) (by simp; omega) (by omega); simpa using this)]
  congr 1
  omega
theorem find_at {l : List S35} (h : To l) {i : Nat} (hi : i < l.length) {r : S35} (e0 : l[i].f0 = r.f0) (e1 : l[i].f1 = r.f1) (e2 : l[i].f2 = r.f2) (e3 : l[i].f3 = r.f3) : trace_find.f l r.f0 r.f1 r.f2 r.f3 = some (i : Int) := by
 unfold trace_find.f
 rw [idx_at _ l 0 i hi (by simp [e0, e1, e2, e3]) (fun q hq hlt => ?_), Nat.zero_add]
 have := h.ne hlt hi
 rw [e3] at this
 simp [this]
theorem came_some {l : List S35} (h : To l) {i : Nat} (hi : i < l.length) {r : S35} (e : l[i] = r) (h5 : r.f5 = 0) (t : Int) (ht : 0 ≤ t ∧ t ≤ 15) (k : Nat) (hk : 1 < k) :
 trace_Came.f k l r.f0 r.f1 r.f2 r.f3 t = some (l.set i ⟨r.f0, r.f1, r.f2, r.f3, r.f4, t + 1⟩, 0) := by
 obtain ⟨k, rfl⟩ : ∃ m, k = m + 1 := ⟨k - 1, by omega⟩
 have hl := h.len
 unfold trace_Came.f
 rw [valid_to h]
 simp only [Option.bind_some, if_true]
 rw [if_neg (by omega), decide_eq_false (by omega), trace_Came.j0, if_neg (by decide), find_at h hi (r := r) (by rw [e]) (by rw [e]) (by rw [e]) (by rw [e])]
 simp only [Option.bind_some]
 rw [if_neg (by omega), if_pos (by omega), if_pos (by omega), rdlt hi, e, if_neg (by omega)]
 unfold api_Expectation_33.f
 rw [if_pos (by omega)]
 simp only [Option.bind_some]
 rw [if_pos (by omega), rdlt hi, e, w64 (by omega) (by omega), Int.toNat_natCast]
theorem came_twice {l : List S35} (h : To l) {i : Nat} (hi : i < l.length) {r : S35} (e0 : l[i].f0 = r.f0) (e1 : l[i].f1 = r.f1) (e2 : l[i].f2 = r.f2) (e3 : l[i].f3 = r.f3) (h5 : 0 < l[i].f5) (t : Int) (ht : 0 ≤ t ∧ t ≤ 15) (k : Nat) (hk : 1 < k) :
 trace_Came.f k l r.f0 r.f1 r.f2 r.f3 t = some ([], 7) := by
 obtain ⟨k, rfl⟩ : ∃ m, k = m + 1 := ⟨k - 1, by omega⟩
 unfold trace_Came.f
 rw [valid_to h]
 simp only [Option.bind_some, if_true]
 rw [if_neg (by omega), decide_eq_false (by omega), trace_Came.j0, if_neg (by decide), find_at h hi e0 e1 e2 e3]
 simp only [Option.bind_some]
 rw [if_neg (by omega), if_pos (by omega), if_pos (by omega), rdlt hi, if_pos (by omega)]
def cm (j : Nat) (r : S35) : S35 := ⟨r.f0, r.f1, r.f2, r.f3, r.f4, r.f4 + ((j % 3 : Nat) : Int) + 1⟩
structure Qs (S : Nat → Prop) (l a : List S35) : Prop where
 len : a.length = l.length
 yes : ∀ j (h1 : j < a.length) (h2 : j < l.length), S j → a[j] = cm j l[j]
 no : ∀ j (h1 : j < a.length) (h2 : j < l.length), ¬ S j → a[j] = l[j]
theorem Qs.to {S : Nat → Prop} {l a : List S35} (q : Qs S l a) (h : To l) : To a := by
 have hlen := q.len
 have key : ∀ (f : S35 → Int), (∀ j r, f (cm j r) = f r) → a.map f = l.map f := by
  intro f hf
  refine List.ext_getElem (by rw [List.length_map, List.length_map, hlen]) fun j h1 h2 => ?_
  rw [List.length_map] at h1 h2
  rw [List.getElem_map, List.getElem_map]
  by_cases c : S j
  ·rw [q.yes j h1 h2 c, hf]
  ·rw [q.no j h1 h2 c]
 refine ⟨fun x hx => ?_, by rw [key (·.f4) (fun _ _ => rfl)]; exact h.asc, by rw [key (·.f3) (fun _ _ => rfl)]; exact h.one, by rw [hlen]; exact h.len⟩
 obtain ⟨j, hj, rfl⟩ := List.mem_iff_getElem.mp hx
 have hj2 : j < l.length := by omega
 have ho := h.row _ (List.getElem_mem hj2)
 by_cases c : S j
 ·rw [q.yes j hj hj2 c]
  have h4 := ho.r4
  have hm : j % 3 < 3 := Nat.mod_lt _ (by decide)
  exact ⟨ho.r0, ho.r1, ho.r2, ho.r3, ho.r4, by show 0 ≤ l[j].f4 + ((j % 3 : Nat) : Int) + 1 ∧ l[j].f4 + ((j % 3 : Nat) : Int) + 1 ≤ 16; omega⟩
 ·rw [q.no j hj hj2 c]
  exact ho
theorem Qs.start (l : List S35) : Qs (fun _ => False) l l := ⟨rfl, fun _ _ _ h => h.elim, fun _ _ _ _ => rfl⟩
theorem Qs.put {S S' : Nat → Prop} {l a : List S35} (q : Qs S l a) {i : Nat} (hi : i < l.length) (hS : ∀ j, S' j ↔ (S j ∨ j = i) ∨ l.length ≤ j) : Qs S' l (a.set i (cm i l[i])) := by
 refine ⟨by rw [List.length_set]; exact q.len, fun j h1 h2 hs => ?_, fun j h1 h2 hs => ?_⟩
 ·rw [List.length_set] at h1
  rw [List.getElem_set]
  by_cases e : i = j
  ·subst e
   rw [if_pos rfl]
  ·rw [if_neg e]
   rcases (hS j).mp hs with (h | h) | h
   ·exact q.yes j h1 h2 h
   ·exact absurd h.symm e
   ·omega
 ·rw [List.length_set] at h1
  rw [List.getElem_set, if_neg (fun e => hs ((hS j).mpr (.inl (.inr e.symm))))]
  exact q.no j h1 h2 (fun h => hs ((hS j).mpr (.inl (.inl h))))
theorem Qs.same {S S' : Nat → Prop} {l a b : List S35} (q : Qs S l a) (q' : Qs S' l b) (h : ∀ j, j < l.length → S j) (h' : ∀ j, j < l.length → S' j) : a = b := by
 refine List.ext_getElem (by rw [q.len, q'.len]) fun j h1 h2 => ?_
 have hj : j < l.length := by rw [← q.len]; exact h1
 rw [q.yes j h1 hj (h j hj), q'.yes j h2 hj (h' j hj)]
theorem Qs.conv {S S' : Nat → Prop} {l a : List S35} (q : Qs S l a) (h : ∀ j, j < l.length → (S j ↔ S' j)) : Qs S' l a :=
 ⟨q.len, fun j h1 h2 hs => q.yes j h1 h2 ((h j h2).mpr hs), fun j h1 h2 hs => q.no j h1 h2 (fun hh => hs ((h j h2).mp hh))⟩
theorem same_rows (l : List S35) (hl : l.length ≤ 8) : ∀ (d i k : Nat), i + d = l.length → d < k → api_Expectation_34.l0 k l l (l.length : Int) (i : Int) = some true
 | 0, i, k, hi, hk => by
  obtain ⟨k, rfl⟩ : ∃ m, k = m + 1 := ⟨k - 1, by omega⟩
  rw [api_Expectation_34.l0, if_neg (by omega)]
 | d + 1, i, k, hi, hk => by
  obtain ⟨k, rfl⟩ : ∃ m, k = m + 1 := ⟨k - 1, by omega⟩
  rw [api_Expectation_34.l0, if_pos (by omega), if_pos (by omega), if_pos (by omega), if_pos (by omega), if_neg (by simp), nx (by omega)]
  exact same_rows l hl d (i + 1) k (by omega) (by omega)
theorem same_some (l : List S35) (hl : l.length ≤ 8) (k : Nat) (hk : 10 < k) : trace_Same.f k l l = some true := by
 unfold trace_Same.f api_Expectation_34.f
 rw [if_pos rfl, show api_Expectation_34.l0 k l l (l.length : Int) 0 = some true from same_rows l hl l.length 0 k (by omega) (by omega)]
 rfl
theorem tm3 (j : Nat) : Int.tmod (j : Int) 3 = ((j % 3 : Nat) : Int) := rfl
theorem rdR {R : List Int} {i : Nat} (h : i < R.length) : rd R (i : Int) = R[i] := by
 unfold rd
 rw [Int.toNat_natCast, List.getD_eq_getElem?_getD, List.getElem?_eq_getElem h]
 rfl
theorem erase_nodup : ∀ (R : List Int) (i : Nat) (h : i < R.length), R.Nodup → ∀ x, x ∈ R.eraseIdx i ↔ (x ∈ R ∧ x ≠ R[i])
 | a :: R, 0, h, hn, x => by
  obtain ⟨h1, h2⟩ := List.nodup_cons.mp hn
  show x ∈ R ↔ (x ∈ a :: R ∧ x ≠ a)
  constructor
  ·intro hx
   exact ⟨by simp [hx], fun e => h1 (e ▸ hx)⟩
  ·rintro ⟨hx, hne⟩
   rcases List.mem_cons.mp hx with e | e
   ·exact absurd e hne
   ·exact e
 | a :: R, i + 1, h, hn, x => by
  obtain ⟨h1, h2⟩ := List.nodup_cons.mp hn
  have hi : i < R.length := by simpa using h
  have ih := erase_nodup R i hi h2 x
  show x ∈ a :: R.eraseIdx i ↔ (x ∈ a :: R ∧ x ≠ R[i])
  rw [List.mem_cons, List.mem_cons, ih]
  constructor
  ·rintro (e | e)
   ·exact ⟨.inl e, fun e2 => h1 (by rw [← e, e2]; exact List.getElem_mem hi)⟩
   ·exact ⟨.inr e.1, e.2⟩
  ·rintro ⟨e | e, hne⟩
   ·exact .inl e
   ·exact .inr ⟨e, hne⟩
theorem last_loop {L : List Int} {l a : List S35} (h : To l) (h0 : ∀ r ∈ l, r.f5 = 0) (qa : Qs (fun _ => True) l a) : ∀ (n : Nat) (R : List Int) (b : List S35) (p : Int) (k : Nat), R.length = n → n ≤ 8 → R.Nodup → (∀ x ∈ R, 0 ≤ x ∧ x < (l.length : Int)) → Qs (fun j => (j : Int) ∉ R) l b → DeckOk L p → n + 20 < k →
 law19_TraceOrder.l3 k l R L p a b = some true
 | 0, R, b, p, k, hn, h8, hd, hr, q, hp, hk => by
  obtain ⟨k, rfl⟩ : ∃ m, k = m + 1 := ⟨k - 1, by omega⟩
  have eR := List.eq_nil_of_length_eq_zero hn
  subst eR
  have e : b = a := q.same qa (fun j _ => by simp) (fun _ _ => trivial)
  subst e
  rw [law19_TraceOrder.l3, if_neg (by simp), same_some b (qa.to h).len k (by omega)]
  rfl
 | n + 1, R, b, p, k, hn, h8, hd, hr, q, hp, hk => by
  obtain ⟨k, rfl⟩ : ∃ m, k = m + 1 := ⟨k - 1, by omega⟩
  have hl := h.len
  obtain ⟨v, p', ev, hv0, hv1, hp', _⟩ := next_some hp (R.length : Int) (by omega) (by omega)
  obtain ⟨m, rfl⟩ : ∃ m : Nat, v = m := ⟨v.toNat, by omega⟩
  have hm : m < R.length := by omega
  have hmem : R[m] ∈ R := List.getElem_mem hm
  obtain ⟨hj0, hj1⟩ := hr _ hmem
  obtain ⟨j, hj⟩ : ∃ j : Nat, R[m] = (j : Int) := ⟨R[m].toNat, by omega⟩
  have hjl : j < l.length := by omega
  have hjb : j < b.length := by rw [q.len]; exact hjl
  have hb : b[j] = l[j] := q.no j hjb hjl (fun hh => hh (by rw [← hj]; exact hmem))
  have ho := h.row _ (List.getElem_mem hjl)
  have h4 := ho.r4
  have hm3 : j % 3 < 3 := Nat.mod_lt _ (by decide)
  have q' : Qs (fun i => (i : Int) ∉ R.eraseIdx m) l (b.set j (cm j l[j])) := by
   refine (Qs.put (S' := fun i => ((i : Int) ∉ R ∨ i = j) ∨ l.length ≤ i) q hjl (fun i => Iff.rfl)).conv fun i hi => ?_
   rw [erase_nodup R m hm hd, hj]
   constructor
   ·rintro ((c | c) | c)
    ·exact fun hh => c hh.1
    ·exact fun hh => hh.2 (by rw [c])
    ·omega
   ·intro hh
    by_cases c : i = j
    ·exact .inl (.inr c)
    ·exact .inl (.inl (fun hx => hh ⟨hx, fun e => c (by omega)⟩))
  have hto' := q'.to h
  have hjs : j < (b.set j (cm j l[j])).length := by rw [List.length_set]; exact hjb
  have es : (b.set j (cm j l[j]))[j] = cm j l[j] := by rw [List.getElem_set, if_pos rfl]
  rw [law19_TraceOrder.l3, if_pos (by omega), ev]
  simp only [Option.bind_some]
  rw [if_pos (by omega), if_pos (by omega), rdR hm, hj, if_pos (by omega), if_pos (by omega), rdlt hjl, tm3, w64 (by omega) (by omega),
   came_some (q.to h) hjb hb (h0 _ (List.getElem_mem hjl)) _ (by omega) k (by omega)]
  simp only [Option.bind_some]
  have et : (b.set j ⟨l[j].f0, l[j].f1, l[j].f2, l[j].f3, l[j].f4, l[j].f4 + ((j % 3 : Nat) : Int) + 1⟩ : List S35) = b.set j (cm j l[j]) := rfl
  rw [et, came_twice hto' hjs (r := l[j]) (by rw [es]; rfl) (by rw [es]; rfl) (by rw [es]; rfl) (by rw [es]; rfl) (by rw [es]; show 0 < l[j].f4 + ((j % 3 : Nat) : Int) + 1; omega) 3 (by omega) k (by omega)]
  simp only [Option.bind_some, if_true]
  rw [if_pos (by omega), nx (by omega), if_pos (by omega), if_pos (by omega), if_pos (by omega), Int.toNat_natCast]
  exact last_loop h h0 qa n (R.eraseIdx m) _ p' k (by rw [List.length_eraseIdx_of_lt hm]; omega) (by omega) (hd.sublist (List.eraseIdx_sublist _ _)) (fun x hx => hr x (List.mem_of_mem_eraseIdx hx)) q' hp' (by omega)
theorem nums_loop {L : List Int} {l a : List S35} (h : To l) (h0 : ∀ r ∈ l, r.f5 = 0) (qa : Qs (fun _ => True) l a) : ∀ (d i : Nat) (p : Int) (k : Nat), i + d = l.length → DeckOk L p → d + 40 < k →
 law19_TraceOrder.l2 k l ((List.range i).map (fun (x : Nat) => (x : Int))) (l.length : Int) (i : Int) L p a l = some true
 | 0, i, p, k, hi, hp, hk => by
  obtain ⟨k, rfl⟩ : ∃ m, k = m + 1 := ⟨k - 1, by omega⟩
  have hl := h.len
  rw [law19_TraceOrder.l2, if_neg (by omega)]
  refine last_loop h h0 qa i _ l p k (by simp) (by omega) ?_ ?_ ?_ hp (by omega)
  ·refine List.pairwise_map.mpr (List.Pairwise.imp (fun {x y} hxy => ?_) List.nodup_range)
   omega
  ·intro x hx
   obtain ⟨y, hy, rfl⟩ := List.mem_map.mp hx
   have := List.mem_range.mp hy
   omega
  ·refine (Qs.start l).conv fun j hj => ⟨fun h => h.elim, fun hh => hh (List.mem_map.mpr ⟨j, List.mem_range.mpr (by omega), rfl⟩)⟩
 | d + 1, i, p, k, hi, hp, hk => by
  obtain ⟨k, rfl⟩ : ∃ m, k = m + 1 := ⟨k - 1, by omega⟩
  have hl := h.len
  rw [law19_TraceOrder.l2, if_pos (by omega), if_pos (by simp; omega), nx (by omega)]
  have e : (List.range i).map (fun (x : Nat) => (x : Int)) ++ [(i : Int)] = (List.range (i + 1)).map (fun (x : Nat) => (x : Int)) := by rw [List.range_succ, List.map_append]; rfl
  rw [e]
  exact nums_loop h h0 qa d (i + 1) p k (by omega) hp (by omega)
theorem came_loop {L : List Int} {l : List S35} (h : To l) (h0 : ∀ r ∈ l, r.f5 = 0) : ∀ (d i : Nat) (a : List S35) (p : Int) (k : Nat), i + d = l.length → Qs (fun j => j < i) l a → DeckOk L p → d + 80 < k →
 law19_TraceOrder.l1 k l l (l.length : Int) (i : Int) L p a l = some true
 | 0, i, a, p, k, hi, q, hp, hk => by
  obtain ⟨k, rfl⟩ : ∃ m, k = m + 1 := ⟨k - 1, by omega⟩
  have hl := h.len
  rw [law19_TraceOrder.l1, if_neg (by omega)]
  exact nums_loop h h0 (q.conv fun j hj => ⟨fun _ => trivial, fun _ => by omega⟩) l.length 0 p k (by omega) hp (by omega)
 | d + 1, i, a, p, k, hi, q, hp, hk => by
  obtain ⟨k, rfl⟩ : ∃ m, k = m + 1 := ⟨k - 1, by omega⟩
  have hl := h.len
  have hil : i < l.length := by omega
  have hia : i < a.length := by rw [q.len]; exact hil
  have ha : a[i] = l[i] := q.no i hia hil (by omega)
  have h4 := (h.row _ (List.getElem_mem hil)).r4
  have hm3 : i % 3 < 3 := Nat.mod_lt _ (by decide)
  rw [law19_TraceOrder.l1, if_pos (by omega), if_pos (by omega), if_pos (by omega), rdlt hil, tm3, w64 (by omega) (by omega),
   came_some (q.to h) hia ha (h0 _ (List.getElem_mem hil)) _ (by omega) k (by omega)]
  simp only [Option.bind_some, if_true]
  rw [nx (by omega)]
  refine came_loop h h0 d (i + 1) _ p k (by omega) ?_ hp (by omega)
  refine (Qs.put (S' := fun j => (j < i ∨ j = i) ∨ l.length ≤ j) q hil (fun j => Iff.rfl)).conv fun j hj => ?_
  constructor
  ·rintro ((c | c) | c) <;> omega
  ·intro c
   by_cases e : j = i
   ·exact .inl (.inr e)
   ·exact .inl (.inl (by omega))
theorem put_loop {x : List S35} (h : To x) (e : S35) : ∀ (i k : Nat), i ≤ x.length → (∀ r ∈ x.drop i, e.f4 < r.f4) → i < k →
 ∃ j, j ≤ x.length ∧ trace_Expect.l0 k (i : Int) x e.f0 e.f1 e.f2 e.f3 e.f4 e.f5 = some (x.take j ++ [e] ++ x.drop j, 0) ∧ (∀ r ∈ x.take j, r.f4 ≤ e.f4) ∧ (∀ r ∈ x.drop j, e.f4 < r.f4)
 | 0, k, hi, hd, hk => by
  obtain ⟨k, rfl⟩ : ∃ m, k = m + 1 := ⟨k - 1, by omega⟩
  have hl := h.len
  refine ⟨0, hi, ?_, by simp, hd⟩
  rw [trace_Expect.l0, if_neg (by decide)]
  unfold api_Expectation_33.f api_Expectation_32.f
  rw [if_pos (by omega)]
  simp only [Option.bind_some]
  rw [if_pos ⟨by decide, by omega, by simp, by simp; omega⟩]
  rfl
 | i + 1, k, hi, hd, hk => by
  obtain ⟨k, rfl⟩ : ∃ m, k = m + 1 := ⟨k - 1, by omega⟩
  have hl := h.len
  have hil : i < x.length := by omega
  have ew : wrap64 (((i + 1 : Nat) : Int) - 1) = (i : Int) := by rw [w64 (by omega) (by omega)]; omega
  by_cases c : x[i].f4 > e.f4
  ·obtain ⟨j, h1, h2, h3⟩ := put_loop h e i k (by omega) (by
    rw [List.drop_eq_getElem_cons hil]
    intro r hr
    rcases List.mem_cons.mp hr with rfl | hr
    ·exact c
    ·exact hd r hr) (by omega)
   refine ⟨j, h1, ?_, h3⟩
   rw [trace_Expect.l0, if_pos (by omega), ew, if_pos (by omega), if_pos (by omega), rdlt hil, if_pos c]
   exact h2
  ·refine ⟨i + 1, hi, ?_, ?_, hd⟩
   ·rw [trace_Expect.l0, if_pos (by omega), ew, if_pos (by omega), if_pos (by omega), rdlt hil, if_neg c]
    unfold api_Expectation_33.f api_Expectation_32.f
    rw [if_pos (by omega)]
    simp only [Option.bind_some]
    rw [if_pos ⟨by omega, by omega, by simp, by simp; omega⟩]
    rfl
   ·intro r hr
    obtain ⟨q, hq, rfl⟩ := List.mem_iff_getElem.mp hr
    rw [List.length_take] at hq
    rw [List.getElem_take]
    rcases Nat.lt_or_ge q i with c2 | c2
    ·have := h.lt c2 hil; omega
    ·have : q = i := by omega
     subst this
     omega
theorem expect_some {x : List S35} (h : To x) (h7 : x.length ≤ 7) (e : S35) (he : Ro e) (h5 : e.f5 = 0) (hn : ∀ r ∈ x, r.f3 < e.f3) (k : Nat) (hk : 20 < k) :
 ∃ y, trace_Expect.f k x e.f0 e.f1 e.f2 e.f3 e.f4 0 = some (y, 0) ∧ To y ∧ y.length = x.length + 1 ∧ ∀ r ∈ y, r = e ∨ r ∈ x := by
 obtain ⟨k, rfl⟩ : ∃ m, k = m + 1 := ⟨k - 1, by omega⟩
 obtain ⟨j, hj, hrun, hlo, hhi⟩ := put_loop h e x.length k (Nat.le_refl _) (by simp) (by omega)
 have hx : x.take j ++ x.drop j = x := List.take_append_drop _ _
 have hmem : ∀ r, r ∈ x.take j ++ [e] ++ x.drop j → r = e ∨ r ∈ x := by
  intro r hr
  rcases List.mem_append.mp hr with hr | hr
  ·rcases List.mem_append.mp hr with hr | hr
   ·exact .inr (List.mem_of_mem_take hr)
   ·exact .inl (List.mem_singleton.mp hr)
  ·exact .inr (List.mem_of_mem_drop hr)
 refine ⟨x.take j ++ [e] ++ x.drop j, ?_, ⟨?_, ?_, ?_, ?_⟩, ?_, hmem⟩
 ·have hp := tproper he
  rw [h5] at hp hrun
  unfold trace_Expect.f
  rw [valid_to h]
  simp only [Option.bind_some, if_true]
  rw [hp]
  simp only [Option.bind_some, if_true]
  rw [trace_Expect.j0, if_neg (by decide)]
  unfold trace_of.f trace_find.f
  simp only [Option.bind_some]
  rw [idx_none _ x 0 (fun r hr => by have := hn r hr; have hne : (r.f3 == e.f3) = false := beq_eq_false_iff_ne.mpr (by omega); simp [hne]), if_neg (by decide), if_neg (by omega)]
  exact hrun
 ·intro r hr
  rcases hmem r hr with rfl | hr
  ·exact he
  ·exact h.row r hr
 ·have ha := h.asc
  rw [← hx, List.map_append, List.pairwise_append] at ha
  obtain ⟨a1, a2, a3⟩ := ha
  rw [List.map_append, List.map_append, List.append_assoc, List.pairwise_append]
  refine ⟨a1, ?_, ?_⟩
  ·refine List.pairwise_cons.mpr ⟨fun v hv => ?_, a2⟩
   obtain ⟨r, hr, rfl⟩ := List.mem_map.mp hv
   exact Int.le_of_lt (hhi r hr)
  ·intro u hu v hv
   rcases List.mem_cons.mp hv with rfl | hv
   ·obtain ⟨r, hr, rfl⟩ := List.mem_map.mp hu
    exact hlo r hr
   ·exact a3 u hu v hv
 ·have ha := h.one
  rw [← hx, List.map_append, List.pairwise_append] at ha
  obtain ⟨a1, a2, a3⟩ := ha
  rw [List.map_append, List.map_append, List.append_assoc, List.pairwise_append]
  refine ⟨a1, ?_, ?_⟩
  ·refine List.pairwise_cons.mpr ⟨fun v hv => ?_, a2⟩
   obtain ⟨r, hr, rfl⟩ := List.mem_map.mp hv
   exact Int.ne_of_gt (hn r (List.mem_of_mem_drop hr))
  ·intro u hu v hv
   rcases List.mem_cons.mp hv with rfl | hv
   ·obtain ⟨r, hr, rfl⟩ := List.mem_map.mp hu
    exact Int.ne_of_lt (hn r (List.mem_of_mem_take hr))
   ·exact a3 u hu v hv
 ·have := congrArg List.length hx
  rw [List.length_append] at this
  rw [List.length_append, List.length_append, List.length_singleton]
  omega
 ·have := congrArg List.length hx
  rw [List.length_append] at this
  rw [List.length_append, List.length_append, List.length_singleton]
  omega
theorem expect_loop {L : List Int} : ∀ (d n : Nat) (x : List S35) (p : Int) (k : Nat), n + d = 8 → To x → x.length = n → (∀ r ∈ x, r.f3 < (n : Int) ∧ r.f5 = 0) → DeckOk L p → d + 120 < k →
 law19_TraceOrder.l0 k (n : Int) L p x = some true
 | 0, n, x, p, k, hn, h, hl, hr, hp, hk => by
  obtain ⟨k, rfl⟩ : ∃ m, k = m + 1 := ⟨k - 1, by omega⟩
  rw [law19_TraceOrder.l0, if_neg (by omega), if_pos (by simp; omega)]
  simp only [Option.bind_some, List.nil_append]
  exact came_loop h (fun r hh => (hr r hh).2) x.length 0 x p k (by omega) ((Qs.start x).conv fun j _ => ⟨fun h => h.elim, fun h => by omega⟩) hp (by omega)
 | d + 1, n, x, p, k, hn, h, hl, hr, hp, hk => by
  obtain ⟨k, rfl⟩ : ∃ m, k = m + 1 := ⟨k - 1, by omega⟩
  obtain ⟨v, q, ev, hv0, hv1, hq, _⟩ := next_some hp 9 (by decide) (by decide)
  have hm3 : n % 3 < 3 := Nat.mod_lt _ (by decide)
  have ew : wrap64 (1 + Int.tmod (n : Int) 3) = 1 + ((n % 3 : Nat) : Int) := by rw [tm3, w64 (by omega) (by omega)]
  obtain ⟨y, ey, hy, hyl, hym⟩ := expect_some h (by omega) ⟨1 + ((n % 3 : Nat) : Int), 5, 1, (n : Int), v, 0⟩ ⟨by show 1 ≤ 1 + ((n % 3 : Nat) : Int) ∧ 1 + ((n % 3 : Nat) : Int) ≤ 3; omega, rfl, rfl, by show 0 ≤ (n : Int) ∧ (n : Int) ≤ 7; omega, by show 0 ≤ v ∧ v ≤ 8; omega, by show (0 : Int) ≤ 0 ∧ (0 : Int) ≤ 16; decide⟩ rfl (fun r hh => (hr r hh).1) k (by omega)
  rw [law19_TraceOrder.l0, if_pos (by omega), ev]
  simp only [Option.bind_some]
  rw [ew]
  have ey' : trace_Expect.f k x (1 + ((n % 3 : Nat) : Int)) 5 1 (n : Int) v 0 = some (y, 0) := ey
  rw [ey']
  simp only [Option.bind_some, if_true]
  rw [nx (by omega)]
  refine expect_loop d (n + 1) y q k (by omega) hy (by omega) ?_ hq (by omega)
  intro r hh
  rcases hym r hh with rfl | hh
  ·exact ⟨by show (n : Int) < ((n + 1 : Nat) : Int); omega, rfl⟩
  ·have := hr r hh
   exact ⟨by omega, this.2⟩
theorem TraceOrder : law19_TraceOrder.Pure := by
 intro L h0 h1 h2
 refine ⟨200, ?_⟩
 have hs : law19_sane.f 200 = some true := by decide +kernel
 unfold law19_TraceOrder.f
 rw [hs, few_some]
 simp only [Option.bind_some, if_true]
 by_cases cf : (L.length : Int) ≤ 500
 ·rw [decide_eq_true cf, if_pos rfl]
  have en : make_New.f L = some (L, 0) := rfl
  rw [en]
  simp only [Option.bind_some]
  exact expect_loop 8 0 [] 0 200 (by omega) ⟨by simp, by simp, by simp, by simp⟩ rfl (by simp) ⟨by decide, by omega, by omega⟩ (by omega)
 ·rw [decide_eq_false cf, if_neg (by decide)]
end Go.Proofs.Ytghepgcbciikmaa.Pure
