/- Texts that are added in any order make the same index: the plain statement that is left of the law RefsOrder. -/
import Derived.Test.YtpifbgkppfginaaRefs
import Derived.Test.YtpifbgkppfginaaRefsR
import Derived.Test.YtpifbgkppfginaaText
import Derived.Test.YtpifbgkppfginaaPAx0
import Derived.Test.YtpifbgkppfginaaPAx6
import Derived.Test.YtpifbgkppfginaaPAx26
set_option linter.unusedVariables false
namespace Go.Proofs.Ytpifbgkppfginaa.Pure
open Go.RowKit Go.Proofs.Ytpifbgkppfginaa.PA Go.Proofs.YtpifbgkppfginaaW.PrintWords Go.Proofs.YtpifbgkppfginaaW.PrintLast Go.Proofs.Ytpifbgkppfginaa.Dig
open Classical in
noncomputable def cnt (s : ByteArray) : List ByteArray → Int
 | [] => 0
 | a :: l => (if a = s then 1 else 0) + cnt s l
theorem cnt_eq (s : ByteArray) (l : List ByteArray) : cnt s (s :: l) = 1 + cnt s l := by rw [cnt, if_pos rfl]
theorem cnt_ne {s a : ByteArray} (h : a ≠ s) (l : List ByteArray) : cnt s (a :: l) = cnt s l := by rw [cnt, if_neg h]; omega
theorem cnt_rng (s : ByteArray) : ∀ l : List ByteArray, 0 ≤ cnt s l ∧ cnt s l ≤ l.length
 | [] => by simp [cnt]
 | a :: l => by
  have ih := cnt_rng s l
  rw [cnt, List.length_cons]
  split <;> omega
theorem cnt_none {s : ByteArray} : ∀ {l : List ByteArray}, s ∉ l → cnt s l = 0
 | [], _ => rfl
 | a :: l, h => by
  rw [cnt_ne (fun e => h (by simp [e])), cnt_none (fun e => h (by simp [e]))]
theorem cnt_perm (s : ByteArray) {a b : List ByteArray} (h : a.Perm b) : cnt s a = cnt s b := by
 induction h with
 | nil => rfl
 | cons x _ ih => rw [cnt, cnt, ih]
 | swap x y l => rw [cnt, cnt, cnt, cnt]; omega
 | trans _ _ h1 h2 => exact h1.trans h2
structure Idx (T : List ByteArray) (x : List S33) : Prop where
 vx : Vx x
 len : x.length ≤ T.length
 num : ∀ r ∈ x, r.f1 = cnt r.f2 T
 all : ∀ s ∈ T, ∃ r ∈ x, r.f2 = s
theorem Idx.nil : Idx [] [] := ⟨Vx.nil, by simp, by simp, by simp⟩
theorem Idx.perm {T T' : List ByteArray} {x : List S33} (h : Idx T x) (p : T.Perm T') : Idx T' x :=
 ⟨h.vx, by rw [← p.length_eq]; exact h.len, fun r hr => by rw [h.num r hr, cnt_perm _ p], fun s hs => h.all s (p.mem_iff.mpr hs)⟩
theorem At.same {x : List S33} {d : Int} {A B : List S33} {o : Option S33} (h : At x d A o B) {r : S33} (hr : r ∈ x) (hd : r.f0 = d) : o = some r := by
 cases h with
 | @there _ y e hA hy hB =>
  rw [e] at hr
  rcases List.mem_append.mp hr with hr | hr
  ·have := hA r hr; omega
  ·rcases List.mem_cons.mp hr with rfl | hr
   ·rfl
   ·have := hB r hr; omega
 | free e hA hB =>
  rw [e] at hr
  rcases List.mem_append.mp hr with hr | hr
  ·have := hA r hr; omega
  ·have := hB r hr; omega
theorem At.mem {x : List S33} {d : Int} {A B : List S33} {r : S33} (h : At x d A (some r) B) : r ∈ x ∧ r.f0 = d ∧ x = A ++ r :: B := by
 cases h with
 | there e hA hr hB => exact ⟨by rw [e]; simp, hr, e⟩
theorem At.free' {x : List S33} {d : Int} {A B : List S33} (h : At x d A none B) : x = A ++ B := by
 cases h with
 | free e hA hB => exact e
theorem At.ne {x : List S33} {d : Int} {A B : List S33} {o : Option S33} (h : At x d A o B) {r : S33} (hr : r ∈ A ∨ r ∈ B) : r.f0 ≠ d := by
 cases h with
 | there e hA _ hB => rcases hr with hr | hr; (have := hA r hr; omega); (have := hB r hr; omega)
 | free e hA hB => rcases hr with hr | hr; (have := hA r hr; omega); (have := hB r hr; omega)
theorem Idx.add {T : List ByteArray} {x : List S33} (h : Idx T x) (hT : T.length < 1000) {s : ByteArray} (hs : s.size ≤ 16384) {A B : List S33} {o : Option S33} (ha : At x (dg s) A o B) :
 (∃ r, r ∈ x ∧ r.f2 ≠ s ∧ r.f0 = dg s ∧ added (dg s) s A B x.length o = ([], false, 8)) ∨ (∃ x' b, added (dg s) s A B x.length o = (x', b, 0) ∧ Idx (s :: T) x') := by
 have hl := h.len
 cases o with
 | some r =>
  obtain ⟨hr, hr0, ex⟩ := At.mem ha
  by_cases c : r.f2 = s
  ·right
   have hn := h.num r hr
   have hc := cnt_rng r.f2 T
   have ro := h.vx.rows r hr
   have r1 := ro.lo
   refine ⟨A ++ ⟨r.f0, r.f1 + 1, r.f2⟩ :: B, false, by rw [added_there, if_pos c, if_neg (by omega)], At.vx_put h.vx ha (y := ⟨r.f0, r.f1 + 1, r.f2⟩) ⟨by show r.f2.size ≤ 16384; rw [c]; exact hs, by show r.f0 = dg r.f2; rw [hr0, c], by show 1 ≤ r.f1 + 1; omega, by show r.f1 + 1 < 2147483647; omega⟩ hr0 (fun h => by cases h), ?_, ?_, ?_⟩
   ·rw [ex] at hl; simp at hl ⊢; omega
   ·intro y hy
    have key : (y ∈ A ∨ y ∈ B) → y.f1 = cnt y.f2 (s :: T) := by
     intro hm
     have hy' : y ∈ x := by rw [ex]; rcases hm with hm | hm <;> simp [hm]
     have hne := At.ne ha hm
     rw [cnt_ne (fun e => hne (by rw [(h.vx.rows y hy').dig, ← e]))]
     exact h.num y hy'
    rcases List.mem_append.mp hy with hm | hm
    ·exact key (.inl hm)
    ·rcases List.mem_cons.mp hm with rfl | hm
     ·show r.f1 + 1 = cnt r.f2 (s :: T)
      rw [hn, c, cnt_eq]; omega
     ·exact key (.inr hm)
   ·intro t ht
    by_cases e : t = s
    ·exact ⟨⟨r.f0, r.f1 + 1, r.f2⟩, by simp, by rw [e]; exact c⟩
    ·obtain ⟨y, hy, ey⟩ := h.all t (by rcases List.mem_cons.mp ht with h1 | h1; exact absurd h1 e; exact h1)
     rw [ex] at hy
     rcases List.mem_append.mp hy with hm | hm
     ·exact ⟨y, by simp [hm], ey⟩
     ·rcases List.mem_cons.mp hm with rfl | hm
      ·exact absurd (ey.symm.trans c) e
      ·exact ⟨y, by simp [hm], ey⟩
  ·left
   exact ⟨r, hr, c, hr0, by rw [added_there, if_neg c]⟩
 | none =>
  right
  have ex := At.free' ha
  have hn : s ∉ T := by
   intro hm
   obtain ⟨y, hy, ey⟩ := h.all s hm
   have := At.same ha hy (by rw [(h.vx.rows y hy).dig, ey])
   cases this
  refine ⟨A ++ ⟨dg s, 1, s⟩ :: B, true, by rw [added_free, if_neg (by omega)], At.vx_put h.vx ha (y := ⟨dg s, 1, s⟩) ⟨hs, rfl, by show (1 : Int) ≤ 1; decide, by show (1 : Int) < 2147483647; decide⟩ rfl (fun _ => by omega), ?_, ?_, ?_⟩
  ·rw [ex] at hl; simp at hl ⊢; omega
  ·intro y hy
   have key : (y ∈ A ∨ y ∈ B) → y.f1 = cnt y.f2 (s :: T) := by
    intro hm
    have hy' : y ∈ x := by rw [ex]; rcases hm with hm | hm <;> simp [hm]
    have hne := At.ne ha hm
    rw [cnt_ne (fun e => hne (by rw [(h.vx.rows y hy').dig, ← e]))]
    exact h.num y hy'
   rcases List.mem_append.mp hy with hm | hm
   ·exact key (.inl hm)
   ·rcases List.mem_cons.mp hm with rfl | hm
    ·show (1 : Int) = cnt s (s :: T)
     rw [cnt_eq, cnt_none hn]; rfl
    ·exact key (.inr hm)
  ·intro t ht
   by_cases e : t = s
   ·exact ⟨⟨dg s, 1, s⟩, by simp, e.symm⟩
   ·obtain ⟨y, hy, ey⟩ := h.all t (by rcases List.mem_cons.mp ht with h1 | h1; exact absurd h1 e; exact h1)
    rw [ex] at hy
    rcases List.mem_append.mp hy with hm | hm
    ·exact ⟨y, by simp [hm], ey⟩
    ·exact ⟨y, by simp [hm], ey⟩
theorem Idx.mem {T : List ByteArray} {x : List S33} (h : Idx T x) {r : S33} (hr : r ∈ x) : r.f2 ∈ T := by
 have h1 := (h.vx.rows r hr).lo
 have h2 := h.num r hr
 exact Classical.byContradiction fun hn => by rw [cnt_none hn] at h2; omega
theorem row_eq : ∀ {a b : S33}, a.f0 = b.f0 → a.f1 = b.f1 → a.f2 = b.f2 → a = b
 | ⟨_, _, _⟩, ⟨_, _, _⟩, rfl, rfl, rfl => rfl
theorem row_one {x : List S33} (h : x.Pairwise (fun a b => a.f0 < b.f0)) {a b : S33} (ha : a ∈ x) (hb : b ∈ x) (e : a.f0 = b.f0) : a = b := by
 obtain ⟨A, o, B, hat⟩ := at_some h a.f0
 have h1 := At.same hat ha rfl
 have h2 := At.same hat hb e.symm
 rw [h1] at h2
 cases h2
 rfl
theorem Idx.inj {T : List ByteArray} {x : List S33} (h : Idx T x) {a b : ByteArray} (ha : a ∈ T) (hb : b ∈ T) (e : dg a = dg b) : a = b := by
 obtain ⟨r, hr, er⟩ := h.all a ha
 obtain ⟨q, hq, eq⟩ := h.all b hb
 have := row_one h.vx.up hr hq (by rw [(h.vx.rows r hr).dig, (h.vx.rows q hq).dig, er, eq, e])
 rw [← er, ← eq, this]
theorem sorted_eq : ∀ (x y : List S33), x.Pairwise (fun a b => a.f0 < b.f0) → y.Pairwise (fun a b => a.f0 < b.f0) → (∀ r, r ∈ x ↔ r ∈ y) → x = y
 | [], [], _, _, _ => rfl
 | [], b :: y, _, _, h => absurd ((h b).mpr (by simp)) (by simp)
 | a :: x, [], _, _, h => absurd ((h a).mp (by simp)) (by simp)
 | a :: x, b :: y, hx, hy, h => by
  obtain ⟨x1, x2⟩ := List.pairwise_cons.mp hx
  obtain ⟨y1, y2⟩ := List.pairwise_cons.mp hy
  have e : a = b := by
   rcases List.mem_cons.mp ((h a).mp (by simp)) with e | m1
   ·exact e
   ·rcases List.mem_cons.mp ((h b).mpr (by simp)) with e | m2
    ·exact e.symm
    ·have := y1 a m1; have := x1 b m2; omega
  subst e
  congr 1
  refine sorted_eq x y x2 y2 fun r => ⟨fun hr => ?_, fun hr => ?_⟩
  ·rcases List.mem_cons.mp ((h r).mp (by simp [hr])) with e | m
   ·have := x1 r hr; rw [e] at this; omega
   ·exact m
  ·rcases List.mem_cons.mp ((h r).mpr (by simp [hr])) with e | m
   ·have := y1 r hr; rw [e] at this; omega
   ·exact m
theorem Idx.sub {T : List ByteArray} {x y : List S33} (h : Idx T x) (g : Idx T y) {r : S33} (hr : r ∈ x) : r ∈ y := by
 obtain ⟨q, hq, eq⟩ := g.all r.f2 (h.mem hr)
 have : r = q := row_eq (by rw [(h.vx.rows r hr).dig, (g.vx.rows q hq).dig, eq]) (by rw [h.num r hr, g.num q hq, eq]) eq.symm
 rw [this]; exact hq
theorem Idx.one {T : List ByteArray} {x y : List S33} (h : Idx T x) (g : Idx T y) : x = y :=
 sorted_eq x y h.vx.up g.vx.up fun r => ⟨fun hr => h.sub g hr, fun hr => g.sub h hr⟩
theorem rdT (T : List ByteArray) (i : Nat) (h : i < T.length) : rdOf ByteArray.empty T (i : Int) = T[i] := by
 unfold rdOf
 rw [Int.toNat_natCast, List.getD_eq_getElem?_getD, List.getElem?_eq_getElem h]
 rfl
theorem erase_perm : ∀ (l : List ByteArray) (i : Nat) (h : i < l.length), (l[i] :: l.eraseIdx i).Perm l
 | a :: l, 0, _ => List.Perm.refl _
 | a :: l, i + 1, h => by
  have ih := erase_perm l i (by simpa using h)
  exact (List.Perm.swap a _ _).trans (ih.cons a)
theorem last_loop {L : List Int} {T : List ByteArray} {x : List S33} (hx : Idx T x) (hT : T.length < 100) (hs : ∀ s ∈ T, s.size ≤ 16384) : ∀ (n : Nat) (R U : List ByteArray) (y : List S33) (p : Int) (k : Nat), R.length = n → (U ++ R).Perm T → Idx U y → DeckOk L p → n + 30000 < k →
 law09_RefsOrder.l2 k R L p x y = some true
 | 0, R, U, y, p, k, hn, hU, hy, hp, hk => by
  obtain ⟨k, rfl⟩ : ∃ m, k = m + 1 := ⟨k - 1, by omega⟩
  have eR := List.eq_nil_of_length_eq_zero hn
  subst eR
  rw [List.append_nil] at hU
  have e := hx.one (hy.perm hU)
  subst e
  rw [law09_RefsOrder.l2]
  rw [if_neg (by simp), same_some x hx.vx.len k (by omega)]
  rfl
 | n + 1, R, U, y, p, k, hn, hU, hy, hp, hk => by
  obtain ⟨k, rfl⟩ : ∃ m, k = m + 1 := ⟨k - 1, by omega⟩
  have hUl := hU.length_eq
  rw [List.length_append] at hUl
  obtain ⟨v, q, ev, hv0, hv1, hq, _⟩ := next_some hp (R.length : Int) (by omega) (by omega)
  obtain ⟨m, rfl⟩ : ∃ m : Nat, v = m := ⟨v.toNat, by omega⟩
  have hm : m < R.length := by omega
  have mT : R[m] ∈ T := hU.mem_iff.mp (List.mem_append_right _ (List.getElem_mem hm))
  obtain ⟨A, o, B, ha⟩ := at_some hy.vx.up (dg R[m])
  rw [law09_RefsOrder.l2]
  rw [if_pos (by omega), ev]
  simp only [Option.bind_some]
  rw [if_pos (by omega), if_pos (by omega), rdT R m hm, add_some hy.vx _ (hs _ mT) ha k (by omega)]
  simp only [Option.bind_some]
  rcases hy.add (by omega) (hs _ mT) ha with ⟨r, hr, hne, hr0, _⟩ | ⟨y', b, ea, hy'⟩
  ·refine absurd (hx.inj (hU.mem_iff.mp (List.mem_append_left _ (hy.mem hr))) mT ?_) hne
   rw [← (hy.vx.rows r hr).dig, hr0]
  ·rw [ea]
   simp only [if_true]
   have ew : wrap64 ((m : Int) + 1) = (m : Int) + 1 := rw64 (by omega) (by omega)
   rw [ew, if_pos (by omega), if_pos (by omega), if_pos (by omega), if_pos (by omega), Int.toNat_natCast]
   have he := erase_perm R m hm
   refine last_loop hx hT hs n (R.eraseIdx m) (R[m] :: U) y' q k (by rw [List.length_eraseIdx_of_lt hm]; omega) ?_ hy' hq (by omega)
   exact (List.perm_middle.symm.trans (he.append_left U)).trans hU
theorem mid_loop {L : List Int} (l : List ByteArray) (hl : l.length ≤ 9) (hs : ∀ s ∈ l, s.size ≤ 16384) : ∀ (d i : Nat) (x : List S33) (p : Int) (k : Nat), i + d = l.length → Idx (l.take i) x → DeckOk L p → d + 30100 < k →
 law09_RefsOrder.l1 k l l (l.length : Int) (i : Int) L p x = some true
 | 0, i, x, p, k, hi, hx, hp, hk => by
  obtain ⟨k, rfl⟩ : ∃ m, k = m + 1 := ⟨k - 1, by omega⟩
  rw [List.take_of_length_le (by omega)] at hx
  rw [law09_RefsOrder.l1]
  rw [if_neg (by omega)]
  exact last_loop hx (by omega) hs l.length l [] [] p k rfl (List.Perm.refl _) Idx.nil hp (by omega)
 | d + 1, i, x, p, k, hi, hx, hp, hk => by
  obtain ⟨k, rfl⟩ : ∃ m, k = m + 1 := ⟨k - 1, by omega⟩
  have hil : i < l.length := by omega
  have hsi := hs _ (List.getElem_mem hil)
  obtain ⟨A, o, B, ha⟩ := at_some hx.vx.up (dg l[i])
  rw [law09_RefsOrder.l1]
  rw [if_pos (by omega), if_pos (by omega), if_pos (by omega), rdT l i hil, add_some hx.vx _ hsi ha k (by omega)]
  simp only [Option.bind_some]
  rcases hx.add (by rw [List.length_take]; omega) hsi ha with ⟨r, hr, hne, hr0, ea⟩ | ⟨x', b, ea, hx'⟩
  ·rw [ea]
   rfl
  ·rw [ea]
   simp only [if_true]
   rw [show wrap64 ((i : Int) + 1) = ((i + 1 : Nat) : Int) by rw [rw64 (by omega) (by omega)]; omega]
   refine mid_loop l hl hs d (i + 1) x' p k (by omega) (hx'.perm ?_) hp (by omega)
   rw [List.take_succ_eq_append_getElem hil]
   exact List.perm_append_comm (l₁ := [l[i]]) (l₂ := l.take i)
theorem draw_loop {L : List Int} : ∀ (n : Nat) (l : List ByteArray) (p : Int) (k : Nat), n + l.length ≤ 9 → (∀ s ∈ l, s.size ≤ 16384) → DeckOk L p → n + 30200 < k →
 law09_RefsOrder.l0 k l (n : Int) L p = some true
 | 0, l, p, k, hn, hs, hp, hk => by
  obtain ⟨k, rfl⟩ : ∃ m, k = m + 1 := ⟨k - 1, by omega⟩
  rw [law09_RefsOrder.l0]
  rw [if_neg (by omega)]
  exact mid_loop l (by omega) hs l.length 0 [] p k (by omega) Idx.nil hp (by omega)
 | n + 1, l, p, k, hn, hs, hp, hk => by
  obtain ⟨k, rfl⟩ : ∃ m, k = m + 1 := ⟨k - 1, by omega⟩
  obtain ⟨s, q, es, hz, hq, _⟩ := text_some hp 4 (by decide) (by decide) k (by omega)
  rw [law09_RefsOrder.l0]
  rw [if_pos (by omega), es]
  simp only [Option.bind_some]
  rw [if_pos (by omega), show wrap64 (((n + 1 : Nat) : Int) - 1) = (n : Int) by rw [rw64 (by omega) (by omega)]; omega]
  refine draw_loop n (l ++ [s]) q k (by simp; omega) ?_ hq (by omega)
  intro t ht
  rcases List.mem_append.mp ht with ht | ht
  ·exact hs t ht
  ·rw [List.mem_singleton.mp ht]; omega
theorem RefsOrder : law09_RefsOrder.Pure := by
 intro L h0 h1 h2
 refine ⟨50000, ?_⟩
 obtain ⟨k, hk⟩ : ∃ k, k = 50000 := ⟨_, rfl⟩
 rw [← hk]
 unfold law09_RefsOrder.f
 rw [sane_some _ (by omega), few_some]
 simp only [Option.bind_some, if_true]
 by_cases cf : (L.length : Int) ≤ 500
 ·rw [decide_eq_true cf, if_pos rfl]
  have en : make_New.f L = some (L, 0) := rfl
  rw [en]
  simp only [Option.bind_some]
  obtain ⟨v, q, ev, hv0, hv1, hq, _⟩ := next_some (L := L) (p := 0) ⟨by decide, by omega, by omega⟩ 9 (by decide) (by decide)
  rw [ev]
  simp only [Option.bind_some]
  obtain ⟨n, rfl⟩ : ∃ n : Nat, v = n := ⟨v.toNat, by omega⟩
  exact draw_loop n [] q k (by simp; omega) (by simp) hq (by omega)
 ·rw [decide_eq_false cf, if_neg (by decide)]
end Go.Proofs.Ytpifbgkppfginaa.Pure
