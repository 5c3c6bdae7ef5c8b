/- What happens between two peers does not depend on what others send: the plain statement that is left of the law FlightApart. -/
import Derived.Test.YtejhjncobibgmaaFltP
import Derived.Test.YtejhjncobibgmaaPAx0
import Derived.Test.YtejhjncobibgmaaPAx16
import Derived.Test.YtejhjncobibgmaaPAx19
import Derived.Test.YtejhjncobibgmaaPAx34
set_option linter.unusedVariables false
namespace Go.Proofs.Ytejhjncobibgmaa.Pure
open Go.RowKit Go.Proofs.Ytejhjncobibgmaa.PA Go.Proofs.YtejhjncobibgmaaW.PrintWords Go.Proofs.YtejhjncobibgmaaW.PrintLast
theorem sane_some (k : Nat) (hk : 40 ≤ k) : storagebarterlaw27_sane.f k = some true := by
  have h40 : storagebarterlaw27_sane.f 40 = some true := by decide +kernel
  have key : ∀ d, storagebarterlaw27_sane.f (40 + d) = some true := by
    intro d
    induction d with
    | zero => exact h40
    | succ d ih => exact storagebarterlaw27_sane.mono _ _ ih
  have := key (k - 40)
  rwa [show 40 + (k - 40) = k by omega] at this
/-- When a parcel is due, and its text. -/
def g (x : S27) : Int × ByteArray := (x.f2, x.f4)
def own (l : List S27) : List S27 := l.filter fun x => decide (x.f0 = 1)
/-- A flight whose next tick is t + 1, with numbers below n. -/
structure Fl (l : List S27) (n : Int) (c : Nat) : Prop where
  asc : Asc l
  num : ∀ x ∈ l, x.f3 < n
  len : l.length ≤ c
/-- The first flight's parcels are the second one's from 1, but for their numbers. -/
structure Two (a b : List S27) (p q : Int) (c : Nat) : Prop where
  fa : Fl a p c
  fb : Fl b q c
  all : ∀ x ∈ a, x.f0 = 1 ∧ x.f1 = 2
  to2 : ∀ x ∈ b, x.f0 = 1 → x.f1 = 2
  eq : a.map g = (own b).map g
theorem Fl.put {l : List S27} {n : Int} {c : Nat} (h : Fl l n c) (x : S27) (hx : x.f3 = n) : Fl (put2 l x) (n + 1) (c + 1) := by
  refine ⟨put2_asc h.asc (fun y hy => by rw [hx]; exact h.num y hy), fun y hy => ?_, ?_⟩
  · rcases put2_mem.mp hy with rfl | hy
    · omega
    · have := h.num y hy
      omega
  · rw [put2_length l h.asc]
    have := h.len
    omega
theorem Fl.le {l : List S27} {n : Int} {c d : Nat} (h : Fl l n c) (hcd : c ≤ d) : Fl l n d := ⟨h.asc, h.num, Nat.le_trans h.len hcd⟩
theorem Fl.cut {l : List S27} {n : Int} {c : Nat} (h : Fl l n c) (d : Int) : Fl (beyond l d) n c :=
  ⟨h.asc.filter _, fun x hx => h.num x (List.mem_filter.mp hx).1, Nat.le_trans (List.length_filter_le _ _) h.len⟩
theorem map_upTo (l : List S27) (d : Int) : (upTo l d).map g = (l.map g).filter (fun y => decide (y.1 ≤ d)) := by
  unfold upTo
  rw [List.filter_map]
  rfl
theorem map_beyond (l : List S27) (d : Int) : (beyond l d).map g = (l.map g).filter (fun y => decide (d < y.1)) := by
  unfold beyond
  rw [List.filter_map]
  rfl
theorem own_upTo (l : List S27) (d : Int) : own (upTo l d) = upTo (own l) d := by
  unfold own upTo
  rw [List.filter_filter, List.filter_filter]
  exact List.filter_congr fun x _ => Bool.and_comm _ _
theorem own_beyond (l : List S27) (d : Int) : own (beyond l d) = beyond (own l) d := by
  unfold own beyond
  rw [List.filter_filter, List.filter_filter]
  exact List.filter_congr fun x _ => Bool.and_comm _ _
theorem own_put_own (l : List S27) (x : S27) (hx : x.f0 = 1) : own (put2 l x) = put2 (own l) x := by
  have h1 := own_upTo l x.f2
  have h2 := own_beyond l x.f2
  unfold put2
  rw [← h1, ← h2]
  unfold own
  rw [List.filter_append, List.filter_cons_of_pos (by simpa using hx)]
theorem own_put_other (l : List S27) (h : Asc l) (x : S27) (hx : x.f0 ≠ 1) : own (put2 l x) = own l := by
  have e := asc_cut l h x.f2
  conv => rhs; rw [← e]
  unfold put2 own
  rw [List.filter_append, List.filter_append, List.filter_cons_of_neg (by simpa using hx)]
theorem map_put2 (l m : List S27) (x y : S27) (h : l.map g = m.map g) (hxy : g x = g y) : (put2 l x).map g = (put2 m y).map g := by
  have hd : x.f2 = y.f2 := congrArg Prod.fst hxy
  unfold put2
  rw [List.map_append, List.map_cons, List.map_append, List.map_cons, map_upTo, map_upTo, map_beyond, map_beyond, h, hxy, hd]
theorem Two.send {a b : List S27} {p q : Int} {c : Nat} (h : Two a b p q c) (x y : S27) (hx : x.f3 = p) (hy : y.f3 = q) (h0 : x.f0 = 1) (h1 : x.f1 = 2) (h2 : y.f0 = 1) (h3 : y.f1 = 2) (hg : g x = g y) : Two (put2 a x) (put2 b y) (p + 1) (q + 1) (c + 1) := by
  refine ⟨h.fa.put x hx, h.fb.put y hy, fun z hz => ?_, fun z hz hz0 => ?_, ?_⟩
  · rcases put2_mem.mp hz with rfl | hz
    · exact ⟨h0, h1⟩
    · exact h.all z hz
  · rcases put2_mem.mp hz with rfl | hz
    · exact h3
    · exact h.to2 z hz hz0
  · rw [own_put_own _ _ h2]
    exact map_put2 _ _ _ _ h.eq hg
theorem Two.noise {a b : List S27} {p q : Int} {c : Nat} (h : Two a b p q c) (y : S27) (hy : y.f3 = q) (h2 : y.f0 = 3) : Two a (put2 b y) p (q + 1) (c + 1) := by
  refine ⟨h.fa.le (by omega), h.fb.put y hy, h.all, fun z hz hz0 => ?_, ?_⟩
  · rcases put2_mem.mp hz with rfl | hz
    · omega
    · exact h.to2 z hz hz0
  · rw [own_put_other _ h.fb.asc _ (by omega)]
    exact h.eq
theorem Two.pass {a b : List S27} {p q : Int} {c : Nat} (h : Two a b p q c) (d : Int) : Two (beyond a d) (beyond b d) p q c ∧ (upTo a d).map (·.f4) = (own (upTo b d)).map (·.f4) := by
  refine ⟨⟨h.fa.cut d, h.fb.cut d, fun x hx => h.all x (List.mem_filter.mp hx).1, fun x hx => h.to2 x (List.mem_filter.mp hx).1, ?_⟩, ?_⟩
  · rw [own_beyond, map_beyond, map_beyond, h.eq]
  · have e : (upTo a d).map g = (own (upTo b d)).map g := by rw [own_upTo, map_upTo, map_upTo, h.eq]
    have := congrArg (List.map Prod.snd) e
    rw [List.map_map, List.map_map] at this
    exact this
theorem rd_at (l : List S27) (i : Nat) (h : i < l.length) : rd_T27 l (i : Int) = l[i] := by rw [rd27, getD27 h]
/-- The texts that came are noted. -/
theorem note1 (P Q : List ByteArray) (n : Int) (m l : List S27) (s : List Int) (at_ t D X Y : Int) (a b : List S27) (hl : l.length ≤ 1000000) : ∀ (d i : Nat) (R : List ByteArray), i + d = l.length → R.length + d ≤ 4000000 →
    (∃ k, storagebarterlaw27_FlightApart.l2 k (R ++ ((l.drop i).map (·.f4))) Q n m l (l.length : Int) (l.length : Int) s at_ t D X a t D Y b = some true) → ∃ k, storagebarterlaw27_FlightApart.l2 k R Q n m l (l.length : Int) (i : Int) s at_ t D X a t D Y b = some true
  | 0, i, R, hi, hR, h => by
    obtain rfl : i = l.length := by omega
    rw [List.drop_length, List.map_nil, List.append_nil] at h
    exact h
  | d + 1, i, R, hi, hR, h => by
    have hil : i < l.length := by omega
    obtain ⟨k, hk⟩ := note1 P Q n m l s at_ t D X Y a b hl d (i + 1) (R ++ [l[i].f4]) (by omega) (by rw [List.length_append, List.length_singleton]; omega) (by
      rw [List.drop_eq_getElem_cons hil, List.map_cons, List.append_cons] at h
      exact h)
    refine ⟨k + 1, ?_⟩
    rw [storagebarterlaw27_FlightApart.l2]
    rw [if_pos (by omega), if_pos (by omega), if_pos (by omega), if_pos (by omega), rd_at l i hil, fw64 (by omega) (by omega), show (i : Int) + 1 = ((i + 1 : Nat) : Int) by omega]
    exact hk
theorem note2 (P : List ByteArray) (n : Int) (l : List S27) (s : List Int) (at_ t D X Y : Int) (a b : List S27) (hl : l.length ≤ 1000000) : ∀ (d i : Nat) (R : List ByteArray), i + d = l.length → R.length + d ≤ 4000000 →
    (∃ k, storagebarterlaw27_FlightApart.l3 k P (R ++ ((own (l.drop i)).map (·.f4))) n l (l.length : Int) (l.length : Int) s at_ t D X a t D Y b = some true) → ∃ k, storagebarterlaw27_FlightApart.l3 k P R n l (l.length : Int) (i : Int) s at_ t D X a t D Y b = some true
  | 0, i, R, hi, hR, h => by
    obtain rfl : i = l.length := by omega
    rw [List.drop_length] at h
    simpa [own] using h
  | d + 1, i, R, hi, hR, h => by
    have hil : i < l.length := by omega
    rw [List.drop_eq_getElem_cons hil] at h
    by_cases c : l[i].f0 = 1
    · obtain ⟨k, hk⟩ := note2 P n l s at_ t D X Y a b hl d (i + 1) (R ++ [l[i].f4]) (by omega) (by rw [List.length_append, List.length_singleton]; omega) (by
        unfold own at h ⊢
        rw [List.filter_cons_of_pos (by simpa using c), List.map_cons, List.append_cons] at h
        exact h)
      refine ⟨k + 1, ?_⟩
      rw [storagebarterlaw27_FlightApart.l3]
      rw [if_pos (by omega), if_pos (by omega), if_pos (by omega), rd_at l i hil, if_pos c, if_pos (by omega), fw64 (by omega) (by omega), show (i : Int) + 1 = ((i + 1 : Nat) : Int) by omega]
      exact hk
    · obtain ⟨k, hk⟩ := note2 P n l s at_ t D X Y a b hl d (i + 1) R (by omega) (by omega) (by
        unfold own at h ⊢
        rw [List.filter_cons_of_neg (by simpa using c)] at h
        exact h)
      refine ⟨k + 1, ?_⟩
      rw [storagebarterlaw27_FlightApart.l3]
      rw [if_pos (by omega), if_pos (by omega), if_pos (by omega), rd_at l i hil, if_neg c, fw64 (by omega) (by omega), show (i : Int) + 1 = ((i + 1 : Nat) : Int) by omega]
      exact hk
theorem up (F : Nat → Option Bool) (h : ∀ k, LeO (F k) (F (k + 1))) {k : Nat} (hk : F k = some true) (m : Nat) (hm : k ≤ m) : F m = some true := by
  obtain ⟨d, rfl⟩ : ∃ d, m = k + d := ⟨m - k, by omega⟩
  induction d with
  | zero => exact hk
  | succ d ih => exact h (k + d) _ (ih (by omega))
theorem alike (P : List ByteArray) (hP : P.length ≤ 4000000) (t X Y : Int) (a b : List S27) (c : Nat) (hc : c ≤ 1000) (h : Two a b X Y c) : ∀ (d i : Nat), i + d = P.length → storagebarterlaw27_FlightApart.l4 (d + 1) P P (P.length : Int) (i : Int) t 3 X a t 3 Y b = some true
  | 0, i, hi => by
    have ha := h.fa.len
    have hb := h.fb.len
    rw [storagebarterlaw27_FlightApart.l4]
    rw [if_neg (by omega), pending_some _ _ _ _ (by omega), pending_some _ _ _ _ (by omega)]
    simp only [Option.bind_some]
    have e1 : a.filter (fun x => decide (x.f0 = 1 ∧ x.f1 = 2)) = a := List.filter_eq_self.mpr fun x hx => decide_eq_true (h.all x hx)
    have e2 : b.filter (fun x => decide (x.f0 = 1 ∧ x.f1 = 2)) = own b := by
      unfold own
      exact List.filter_congr fun x hx => decide_eq_decide.mpr ⟨fun h' => h'.1, fun h' => ⟨h', h.to2 x hx h'⟩⟩
    have e3 := congrArg List.length h.eq
    rw [List.length_map, List.length_map] at e3
    rw [e1, e2, e3]
    simp
  | d + 1, i, hi => by
    rw [storagebarterlaw27_FlightApart.l4]
    rw [if_pos (by omega), if_pos (by omega), if_pos (by omega), if_pos (by omega), if_pos rfl, fw64 (by omega) (by omega), show (i : Int) + 1 = ((i + 1 : Nat) : Int) by omega]
    exact alike P hP t X Y a b c hc h d (i + 1) (by omega)
/-- The others send; then a tick passes. -/
theorem noise (s : List Int) (hs : Bytes_ s) (P : List ByteArray) (n : Nat) (hn : n < 12) (X : Int) (a : List S27)
    (next : ∀ (at_ Y : Int) (b : List S27) (Q : List ByteArray), 0 ≤ at_ → at_ ≤ s.length → Two a b X Y (3 * (n + 1)) → 0 ≤ Y → Y ≤ 3 * ((n : Int) + 1) → ∃ k, storagebarterlaw27_FlightApart.l1 k P P (n : Int) 0 s at_ (n : Int) 3 X a (n : Int) 3 Y b = some true) :
    ∀ (j : Nat) (at_ Y : Int) (b : List S27) (c : Nat), c + j ≤ 3 * (n + 1) → 0 ≤ at_ → at_ ≤ s.length → Two a b X Y c → 0 ≤ Y → Y + j ≤ 3 * ((n : Int) + 1) → ∃ k, storagebarterlaw27_FlightApart.l1 k P P (n : Int) (j : Int) s at_ (n : Int) 3 X a (n : Int) 3 Y b = some true
  | 0, at_, Y, b, c, hc, h0, h1, h2, h3, h4 => next at_ Y b P h0 h1 ⟨h2.fa.le (by omega), h2.fb.le (by omega), h2.all, h2.to2, h2.eq⟩ h3 (by omega)
  | j + 1, at_, Y, b, c, hc, h0, h1, h2, h3, h4 => by
    obtain ⟨v1, a1, e1, p1, q1, r1, s1⟩ := pick_some s hs at_ h0 h1 3 (by decide) (by decide)
    obtain ⟨v2, a2, e2, p2, q2, r2, s2⟩ := pick_some s hs a1 r1 s1 3 (by decide) (by decide)
    have hlen := h2.fb.len
    obtain ⟨k, hk⟩ := noise s hs P n hn X a next j a2 (Y + 1) _ (c + 1) (by omega) r2 s2 (h2.noise (⟨3, 1 + v1, (n : Int) + v2 + 1, Y, ⟨#[110, 111, 105, 115, 101]⟩⟩ : S27) rfl rfl) (by omega) (by omega)
    obtain ⟨K, hK1, hK2⟩ : ∃ K, k ≤ K ∧ 2000 ≤ K := ⟨k + 2000, by omega, by omega⟩
    have hk2 := up (fun k => storagebarterlaw27_FlightApart.l1 k P P (n : Int) (j : Int) s a2 (n : Int) 3 X a (n : Int) 3 (Y + 1) (put2 b ⟨3, 1 + v1, (n : Int) + v2 + 1, Y, ⟨#[110, 111, 105, 115, 101]⟩⟩)) (fun k => (storagebarterlaw27_FlightApart.mono_l k).2.2.1 _ _ _ _ _ _ _ _ _ _ _ _ _ _) hk K hK1
    refine ⟨K + 1, ?_⟩
    rw [storagebarterlaw27_FlightApart.l1]
    rw [if_pos (by omega), e1]
    simp only [Option.bind_some]
    rw [e2]
    simp only [Option.bind_some]
    rw [fw64 (n := 1 + v1) (by omega) (by omega), send2_some (n : Int) 3 Y b h2.fb.asc (by omega) h2.fb.num 3 (1 + v1) v2 _ (by decide) (by omega) (by omega) (by decide) (by omega) (by omega) (by decide) K (by omega)]
    simp only [Option.bind_some]
    rw [show wrap64 (((j + 1 : Nat) : Int) - 1) = (j : Int) by rw [fw64 (by omega) (by omega)]; omega]
    exact hk2
theorem rounds (s : List Int) (hs : Bytes_ s) : ∀ (d n : Nat) (P : List ByteArray) (at_ X Y : Int) (a b : List S27), n + d = 12 → 0 ≤ at_ → at_ ≤ s.length → Two a b X Y (3 * n) → 0 ≤ X → X ≤ 3 * (n : Int) → 0 ≤ Y → Y ≤ 3 * (n : Int) → P.length ≤ 100 * n →
    ∃ k, storagebarterlaw27_FlightApart.l0 k P P (n : Int) s at_ (n : Int) 3 X a (n : Int) 3 Y b = some true
  | 0, n, P, at_, X, Y, a, b, hn, h0, h1, h2, h3, h4, h5, h6, h7 => by
    refine ⟨P.length + 1 + 1, ?_⟩
    rw [storagebarterlaw27_FlightApart.l0]
    rw [if_neg (by omega), if_pos rfl]
    exact alike P (by omega) _ X Y a b _ (by omega) h2 P.length 0 (by omega)
  | d + 1, n, P, at_, X, Y, a, b, hn, h0, h1, h2, h3, h4, h5, h6, h7 => by
    obtain ⟨w, a1, e1, p1, q1, r1, s1⟩ := pick_some s hs at_ h0 h1 3 (by decide) (by decide)
    obtain ⟨j, a2, e2, p2, q2, r2, s2⟩ := pick_some s hs a1 r1 s1 3 (by decide) (by decide)
    obtain ⟨j, rfl⟩ := Int.eq_ofNat_of_zero_le p2
    have hla := h2.fa.len
    have hlb := h2.fb.len
    obtain ⟨t, ht⟩ : ∃ t, t = strOfNums ([(97 + ((n : Int) % 256)) % 256] : List Int) := ⟨_, rfl⟩
    have hts : t.size = 1 := by rw [ht]; rfl
    have hsend := h2.send (⟨1, 2, (n : Int) + w + 1, X, t⟩ : S27) (⟨1, 2, (n : Int) + w + 1, Y, t⟩ : S27) rfl rfl rfl rfl rfl rfl rfl
    obtain ⟨a', ha'⟩ : ∃ a', a' = put2 a (⟨1, 2, (n : Int) + w + 1, X, t⟩ : S27) := ⟨_, rfl⟩
    obtain ⟨b', hb'⟩ : ∃ b', b' = put2 b (⟨1, 2, (n : Int) + w + 1, Y, t⟩ : S27) := ⟨_, rfl⟩
    rw [← ha', ← hb'] at hsend
    obtain ⟨k, hk⟩ := noise s hs P n (by omega) (X + 1) a' (fun at3 Y3 b3 _ g0 g1 g2 g3 g4 => by
      obtain ⟨gp, ge⟩ := g2.pass ((n : Int) + 1)
      have gla := g2.fa.len
      have glb := g2.fb.len
      have l1 : (upTo a' ((n : Int) + 1)).length ≤ a'.length := List.length_filter_le _ _
      have l2 : (upTo b3 ((n : Int) + 1)).length ≤ b3.length := List.length_filter_le _ _
      have l3 : ((upTo a' ((n : Int) + 1)).map (·.f4)).length ≤ 36 := by rw [List.length_map]; omega
      obtain ⟨k, hk⟩ := rounds s hs d (n + 1) (P ++ (upTo a' ((n : Int) + 1)).map (·.f4)) at3 (X + 1) Y3 _ _ (by omega) g0 g1 gp (by omega) (by omega) g3 (by omega) (by rw [List.length_append]; omega)
      have hk0 : ∃ k, storagebarterlaw27_FlightApart.l3 k (P ++ (upTo a' ((n : Int) + 1)).map (·.f4)) (P ++ ((own (List.drop 0 (upTo b3 ((n : Int) + 1)))).map (·.f4))) (n : Int) (upTo b3 ((n : Int) + 1)) ((upTo b3 ((n : Int) + 1)).length : Int) ((upTo b3 ((n : Int) + 1)).length : Int) s at3 ((n : Int) + 1) 3 (X + 1) (beyond a' ((n : Int) + 1)) ((n : Int) + 1) 3 Y3 (beyond b3 ((n : Int) + 1)) = some true := by
        refine ⟨k + 1, ?_⟩
        rw [storagebarterlaw27_FlightApart.l3]
        rw [if_neg (by omega), fw64 (by omega) (by omega), List.drop_zero, ← ge]
        exact hk
      obtain ⟨k1, hk1⟩ := note2 _ _ _ s at3 _ 3 _ _ _ _ (by omega) (upTo b3 ((n : Int) + 1)).length 0 P (by omega) (by omega) hk0
      obtain ⟨k2, hk2⟩ := note1 P P (n : Int) (upTo b3 ((n : Int) + 1)) (upTo a' ((n : Int) + 1)) s at3 ((n : Int) + 1) 3 (X + 1) Y3 _ _ (by omega) (upTo a' ((n : Int) + 1)).length 0 P (by omega) (by omega) (by
        refine ⟨k1 + 1, ?_⟩
        rw [storagebarterlaw27_FlightApart.l2]
        rw [if_neg (by omega), List.drop_zero]
        exact hk1)
      obtain ⟨K, hK1, hK2⟩ : ∃ K, k2 ≤ K ∧ 2000 ≤ K := ⟨k2 + 2000, by omega, by omega⟩
      have hk3 := up (fun k => storagebarterlaw27_FlightApart.l2 k P P (n : Int) (upTo b3 ((n : Int) + 1)) (upTo a' ((n : Int) + 1)) ((upTo a' ((n : Int) + 1)).length : Int) 0 s at3 ((n : Int) + 1) 3 (X + 1) (beyond a' ((n : Int) + 1)) ((n : Int) + 1) 3 Y3 (beyond b3 ((n : Int) + 1))) (fun k => (storagebarterlaw27_FlightApart.mono_l k).2.2.2.1 _ _ _ _ _ _ _ _ _ _ _ _ _ _ _ _ _) hk2 K hK1
      refine ⟨K + 1, ?_⟩
      rw [storagebarterlaw27_FlightApart.l1]
      rw [if_neg (by omega), pass_some (n : Int) 3 (X + 1) a' g2.fa.asc (by omega) (by omega) K (by omega)]
      simp only [Option.bind_some]
      rw [pass_some (n : Int) 3 Y3 b3 g2.fb.asc (by omega) (by omega) K (by omega)]
      simp only [Option.bind_some]
      exact hk3) j a2 (Y + 1) b' (3 * n + 1) (by omega) r2 s2 hsend (by omega) (by omega)
    obtain ⟨K, hK1, hK2⟩ : ∃ K, k ≤ K ∧ 2000 ≤ K := ⟨k + 2000, by omega, by omega⟩
    have hk2 := up (fun k => storagebarterlaw27_FlightApart.l1 k P P (n : Int) (j : Int) s a2 (n : Int) 3 (X + 1) a' (n : Int) 3 (Y + 1) b') (fun k => (storagebarterlaw27_FlightApart.mono_l k).2.2.1 _ _ _ _ _ _ _ _ _ _ _ _ _ _) hk K hK1
    refine ⟨K + 1, ?_⟩
    rw [storagebarterlaw27_FlightApart.l0]
    rw [if_pos (by omega), e1]
    simp only [Option.bind_some]
    rw [← ht, send2_some (n : Int) 3 X a h2.fa.asc (by omega) h2.fa.num 1 2 w t (by decide) (by decide) (by omega) (by decide) (by omega) (by omega) (by omega) K (by omega)]
    simp only [Option.bind_some]
    rw [send2_some (n : Int) 3 Y b h2.fb.asc (by omega) h2.fb.num 1 2 w t (by decide) (by decide) (by omega) (by decide) (by omega) (by omega) (by omega) K (by omega)]
    simp only [Option.bind_some]
    rw [e2, Option.bind_some, ← ha', ← hb']
    exact hk2
theorem FlightApart : storagebarterlaw27_FlightApart.Pure := by
  intro l0 _ _ hb
  obtain ⟨s, es, hs⟩ := new_some l0 hb
  obtain ⟨k, hk⟩ := rounds s hs 12 0 [] 0 0 0 [] [] (by omega) (by omega) (by omega) ⟨⟨List.Pairwise.nil, by simp, by simp⟩, ⟨List.Pairwise.nil, by simp, by simp⟩, by simp, by simp, rfl⟩ (by omega) (by omega) (by omega) (by omega) (by simp)
  obtain ⟨K, hK1, hK2⟩ : ∃ K, k ≤ K ∧ 40 ≤ K := ⟨k + 40, by omega, by omega⟩
  have hk2 := up (fun k => storagebarterlaw27_FlightApart.l0 k [] [] 0 s 0 0 3 0 [] 0 3 0 []) (fun k => (storagebarterlaw27_FlightApart.mono_l k).2.1 _ _ _ _ _ _ _ _ _ _ _ _ _) hk K hK1
  refine ⟨K + 1, ?_⟩
  unfold storagebarterlaw27_FlightApart.f flight_New.f
  rw [sane_some _ (by omega), es]
  simp only [Option.bind_some, if_true]
  rw [if_neg (by decide), if_neg (by decide)]
  simp only [Option.bind_some]
  rw [if_pos trivial, storagebarterlaw27_FlightApart.j0]
  rw [if_neg (by decide)]
  exact hk2
end Go.Proofs.Ytejhjncobibgmaa.Pure
