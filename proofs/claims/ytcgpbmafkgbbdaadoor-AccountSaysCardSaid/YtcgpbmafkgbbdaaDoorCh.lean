/- Chains that a deck makes, in plain Lean: each is right by the reference; a grant's tick lies behind all that any of the chains says of its slot. -/
import Derived.Test.YtcgpbmafkgbbdaaDoorNx
import Derived.Test.YtcgpbmafkgbbdaaDoorPSx0
import Derived.Test.YtcgpbmafkgbbdaaDoorPSx25
import Derived.Test.YtcgpbmafkgbbdaaDoorPSx43
import Derived.Test.YtcgpbmafkgbbdaaDoorPSx13
set_option linter.unusedVariables false
set_option linter.unusedSimpArgs false
namespace Go.Proofs.YtcgpbmafkgbbdaaDoor.PS
open Go.RowKit Go.Proofs.YtcgpbmafkgbbdaaDoor.Pure Go.Proofs.YtcgpbmafkgbbdaaDoorW.PrintWords Go.Proofs.YtcgpbmafkgbbdaaDoorW.PrintLast Go.Proofs.YtcgpbmafkgbbdaaDoorW.PrintMore
theorem Ev.succ {α : Type} {g : Nat → Option α} {r : α} (h : Ev (fun k => g (k + 1)) r) : Ev g r := Ev.step (fun _ => rfl) h
theorem Ev.bind' {α β : Type} {g : Nat → Option α} {F : Nat → α → Option β} {h : Nat → Option β} {a : α} {r : β} (e : ∀ k, h k = (g k).bind (F k)) (ha : Ev g a) (hb : Ev (fun k => F k a) r) : Ev h r :=
 Ev.congr e (Ev.bind ha hb)
inductive Said (s s' : St) (x : S51) (k : Nat) : Prop
 | grant (e : x.f5 = 1) (h : s.unt k < x.f4) (o : s'.opn k = true) (l : s'.le k = ⟨x.f1, x.f0, x.f6, x.f7, x.f8, x.f4, x.f9, false⟩) (u : s'.unt k = x.f9)
 | renew (e : x.f5 = 2) (f : s.force k x.f4 = true) (h : s.unt k < x.f9) (o : s'.opn k = s.opn k) (l : s'.le k = (s.le k).till x.f9) (u : s'.unt k = x.f9)
 | stop (e : x.f5 = 3 ∨ x.f5 = 5) (f : s.force k x.f4 = true) (o : s'.opn k = false) (l : s'.le k = s.le k) (u : s'.unt k = s.unt k)
 | got (e : x.f5 = 4) (f : s.force k x.f4 = true) (h : (s.le k).h = x.f7) (z : (s.le k).z = x.f8) (o : s'.opn k = s.opn k) (l : s'.le k = (s.le k).got) (u : s'.unt k = s.unt k)
 | rest (e : ¬ (1 ≤ x.f5 ∧ x.f5 ≤ 5)) (h : s' = s)
theorem opn_setL (s : St) (k : Nat) (l : Le) (j : Nat) : (s.setL k l).opn j = s.opn j := rfl
theorem opn_setU (s : St) (k : Nat) (u : Int) (j : Nat) : (s.setU k u).opn j = s.opn j := rfl
theorem le_setO (s : St) (k : Nat) (b : Bool) (j : Nat) : (s.setO k b).le j = s.le j := rfl
theorem le_setU (s : St) (k : Nat) (u : Int) (j : Nat) : (s.setU k u).le j = s.le j := rfl
theorem unt_setL (s : St) (k : Nat) (l : Le) (j : Nat) : (s.setL k l).unt j = s.unt j := rfl
theorem unt_setO (s : St) (k : Nat) (b : Bool) (j : Nat) : (s.setO k b).unt j = s.unt j := rfl
theorem said {s s' : St} {x : S51} (h : s.ok) (hx : OkP x) (hs : s.sayS x = some s') : s'.ok ∧ Said s s' x x.f6.toNat ∧ ∀ j, j ≠ x.f6.toNat → s'.opn j = s.opn j ∧ s'.le j = s.le j ∧ s'.unt j = s.unt j := by
 refine ⟨St.sayS_ok h hs, ?_⟩
 by_cases hk : 1 ≤ x.f5 ∧ x.f5 ≤ 5
 ·have hk6 := slot_of hx hk.1 hk.2
  unfold St.sayS at hs
  split at hs
  ·rename_i e
   split at hs
   ·cases hs
   ·rename_i c
    injection hs with hs
    subst hs
    refine ⟨.grant e (by omega) ?_ ?_ ?_, fun j hj => ⟨?_, ?_, ?_⟩⟩
    ·rw [opn_setU, opn_setO (h.setL _ _) hk6, if_pos rfl]
    ·rw [le_setU, le_setO, le_setL h hk6, if_pos rfl]
    ·rw [unt_setU ((h.setL _ _).setO _ _) hk6, if_pos rfl]
    ·rw [opn_setU, opn_setO (h.setL _ _) hk6, if_neg hj, opn_setL]
    ·rw [le_setU, le_setO, le_setL h hk6, if_neg hj]
    ·rw [unt_setU ((h.setL _ _).setO _ _) hk6, if_neg hj, unt_setO, unt_setL]
  ·split at hs
   ·rename_i e
    split at hs
    ·rename_i f
     split at hs
     ·cases hs
     ·rename_i c
      injection hs with hs
      subst hs
      refine ⟨.renew e f (by omega) ?_ ?_ ?_, fun j hj => ⟨?_, ?_, ?_⟩⟩
      ·rw [opn_setU, opn_setL]
      ·rw [le_setU, le_setL h hk6, if_pos rfl]
      ·rw [unt_setU (h.setL _ _) hk6, if_pos rfl]
      ·rw [opn_setU, opn_setL]
      ·rw [le_setU, le_setL h hk6, if_neg hj]
      ·rw [unt_setU (h.setL _ _) hk6, if_neg hj, unt_setL]
    ·cases hs
   ·split at hs
    ·rename_i e
     split at hs
     ·rename_i f
      injection hs with hs
      subst hs
      refine ⟨.stop e f ?_ ?_ ?_, fun j hj => ⟨?_, ?_, ?_⟩⟩
      ·rw [opn_setO h hk6, if_pos rfl]
      ·rfl
      ·rfl
      ·rw [opn_setO h hk6, if_neg hj]
      ·rfl
      ·rfl
     ·cases hs
    ·split at hs
     ·rename_i e
      split at hs
      ·rename_i f
       split at hs
       ·rename_i c1
        split at hs
        ·rename_i c2
         injection hs with hs
         subst hs
         refine ⟨.got e f c1 c2 ?_ ?_ ?_, fun j hj => ⟨?_, ?_, ?_⟩⟩
         ·rfl
         ·rw [le_setL h hk6, if_pos rfl]
         ·rfl
         ·rfl
         ·rw [le_setL h hk6, if_neg hj]
         ·rfl
        ·cases hs
       ·cases hs
      ·cases hs
     ·rename_i e1 e2 e3 e4
      exact absurd hk (by omega)
 ·rw [sayS_rest hk] at hs
  injection hs with hs
  subst hs
  exact ⟨.rest hk rfl, fun j _ => ⟨rfl, rfl, rfl⟩⟩
theorem force_is (s : St) (k : Nat) (t : Int) : s.force k t = true ↔ s.opn k = true ∧ t ≤ (s.le k).un := by
 unfold St.force
 rw [Bool.and_eq_true, decide_eq_true_eq]
structure SInv (s : St) (t : Int) : Prop where
 ok : s.ok
 at_ : ∀ k, k < 64 → (s.opn k = false ∧ s.unt k = -1) ∨ ((s.le k).un = s.unt k ∧ 0 ≤ s.unt k ∧ (s.le k).s = k ∧ 1 ≤ (s.le k).z ∧ (s.le k).z ≤ 1024 ∧ (s.le k).fr ≤ t)
 top : ∀ k, k < 64 → s.unt k ≤ 1048576
theorem SInv.force {s : St} {t : Int} (h : SInv s t) {k : Nat} (hk : k < 64) {u : Int} (hf : s.force k u = true) : s.opn k = true ∧ u ≤ s.unt k ∧ (s.le k).un = s.unt k ∧ 0 ≤ s.unt k ∧ (s.le k).s = k ∧ 1 ≤ (s.le k).z ∧ (s.le k).z ≤ 1024 ∧ (s.le k).fr ≤ t := by
 obtain ⟨h1, h2⟩ := (force_is _ _ _).mp hf
 rcases h.at_ k hk with ⟨h3, _⟩ | ⟨h3, h4, h5, h6, h7, h8⟩
 ·rw [h3] at h1
  cases h1
 ·exact ⟨h1, by omega, h3, h4, h5, h6, h7, h8⟩
theorem SInv.zero (t : Int) : SInv St.zero t := by
 have hu : ∀ k, k < 64 → St.zero.unt k = -1 := fun k hk => by
  unfold St.unt St.zero stI unI
  rw [List.getD_eq_getElem?_getD, List.getElem?_append_left (by simpa using hk), List.getElem?_replicate, if_pos hk]
  rfl
 refine ⟨St.zero_ok, fun k hk => .inl ⟨?_, hu k hk⟩, fun k hk => by rw [hu k hk]; decide⟩
 unfold St.opn St.zero stI
 rw [List.getD_eq_getElem?_getD, List.getElem?_replicate, if_pos hk]
 rfl
theorem SInv.step {s s' : St} {t : Int} {x : S51} (h : SInv s t) (hx : OkP x) (hs : s.sayS x = some s') (ht : x.f4 ≤ t) : SInv s' t := by
 obtain ⟨hok, hsd, hj⟩ := said h.ok hx hs
 refine ⟨hok, fun k hk => ?_, fun k hk => ?_⟩
 rotate_left
 ·by_cases e : k = x.f6.toNat
  ·subst e
   have hkp := hx.kind
   unfold KindP at hkp
   rcases hsd with ⟨e, h1, o, l, u⟩ | ⟨e, f, h1, o, l, u⟩ | ⟨e, f, o, l, u⟩ | ⟨e, f, h1, z, o, l, u⟩ | ⟨e, h1⟩
   ·rw [u]
    omega
   ·rw [u]
    omega
   ·rw [u]
    exact h.top _ hk
   ·rw [u]
    exact h.top _ hk
   ·rw [h1]
    exact h.top _ hk
  ·rw [(hj k e).2.2]
   exact h.top k hk
 by_cases e : k = x.f6.toNat
 ·subst e
  have hkp := hx.kind
  rcases hsd with ⟨e, h1, o, l, u⟩ | ⟨e, f, h1, o, l, u⟩ | ⟨e, f, o, l, u⟩ | ⟨e, f, h1, z, o, l, u⟩ | ⟨e, h1⟩
  ·have h4 := hx.f4
   unfold KindP at hkp
   rw [l, u]
   exact .inr ⟨rfl, by omega, by show x.f6 = _; omega, by show 1 ≤ x.f8; omega, by show x.f8 ≤ 1024; omega, ht⟩
  ·obtain ⟨_, _, g1, g2, g3, g4, g5, g6⟩ := h.force hk f
   have h4 := hx.f4
   unfold KindP at hkp
   rw [l, u]
   exact .inr ⟨rfl, by omega, g3, g4, g5, g6⟩
  ·obtain ⟨_, _, g1, g2, g3, g4, g5, g6⟩ := h.force hk f
   rw [l, u]
   exact .inr ⟨g1, g2, g3, g4, g5, g6⟩
  ·obtain ⟨_, _, g1, g2, g3, g4, g5, g6⟩ := h.force hk f
   rw [l, u]
   exact .inr ⟨g1, g2, g3, g4, g5, g6⟩
  ·subst h1
   exact h.at_ _ hk
 ·obtain ⟨o, l, u⟩ := hj k e
  rw [o, l, u]
  exact h.at_ k hk
def stF (l : List S51) : St := l.foldl (fun s x => (s.sayS x).getD s) St.zero
theorem stF_snoc (l : List S51) (x : S51) : stF (l ++ [x]) = ((stF l).sayS x).getD (stF l) := by
 unfold stF
 rw [List.foldl_append]
 rfl
structure RC (p0 tt : Int) (l : List S51) (t : Int) : Prop where
 val : ∀ x ∈ l, validR x = true
 par : ∀ x ∈ l, x.f0 = p0 ∧ x.f1 = tt
 asc : l.Pairwise (fun a b => a.f4 ≤ b.f4)
 up : ∀ x ∈ l, x.f4 ≤ t
 say : ∀ (i : Nat) (h : i < l.length), ((stF (l.take i)).sayS l[i]).isSome = true
 big : ∀ x ∈ l, x.f9 ≤ 9223372036854775807
 len : l.length ≤ 256
theorem RC.nil (p0 tt t : Int) : RC p0 tt [] t := ⟨by simp, by simp, List.Pairwise.nil, by simp, fun i h => absurd h (by simp), by simp, by simp⟩
theorem RC.later {p0 tt : Int} {l : List S51} {t t' : Int} (h : RC p0 tt l t) (ht : t ≤ t') : RC p0 tt l t' := ⟨h.val, h.par, h.asc, fun x hx => Int.le_trans (h.up x hx) ht, h.say, h.big, h.len⟩
theorem RC.take {p0 tt : Int} {l : List S51} {t : Int} (h : RC p0 tt l t) (n : Nat) : RC p0 tt (l.take n) t := by
 refine ⟨fun x hx => h.val x (List.mem_of_mem_take hx), fun x hx => h.par x (List.mem_of_mem_take hx), h.asc.sublist (List.take_sublist _ _), fun x hx => h.up x (List.mem_of_mem_take hx), fun i hi => ?_, fun x hx => h.big x (List.mem_of_mem_take hx), by have := h.len; rw [List.length_take]; omega⟩
 have hi' := hi
 rw [List.length_take] at hi'
 rw [List.take_take, Nat.min_eq_left (by omega), List.getElem_take]
 exact h.say i (by omega)
theorem RC.rr {p0 tt : Int} {l : List S51} {t : Int} (h : RC p0 tt l t) : ∀ (d i : Nat), i + d = l.length → rrI l d i (stF (l.take i)) = 0
 | 0, i, hd => rfl
 | d + 1, i, hd => by
  have hi : i < l.length := by omega
  have h0 : (0 : Nat) < l.length := by omega
  have e0 : rd_T51 l 0 = l[0] := (rd_is h0).symm
  rw [rrI, ← rd_is hi, e0, if_neg (by rw [h.val _ (List.getElem_mem hi)]; decide)]
  have p1 := h.par _ (List.getElem_mem hi)
  have p2 := h.par _ (List.getElem_mem h0)
  rw [if_neg (by rw [p1.1, p1.2, p2.1, p2.2]; simp)]
  have hs := h.say i hi
  obtain ⟨s', hs'⟩ := Option.isSome_iff_exists.mp hs
  rw [if_neg, hs']
  ·have e : stF (l.take (i + 1)) = s' := by
    rw [List.take_succ_eq_append_getElem hi, stF_snoc, hs']
    rfl
   rw [← e]
   exact RC.rr h d (i + 1) (by omega)
  ·intro hc
   rw [Bool.and_eq_true, decide_eq_true_eq, decide_eq_true_eq] at hc
   have e1 : rd_T51 l ((i : Int) - 1) = l[i - 1]'(by omega) := by
    rw [show (i : Int) - 1 = ((i - 1 : Nat) : Int) by omega, ← rd_is (by omega)]
   rw [e1] at hc
   have := List.pairwise_iff_getElem.mp h.asc (i - 1) i (by omega) hi (by omega)
   omega
theorem RC.right {p0 tt : Int} {l : List S51} {t : Int} (h : RC p0 tt l t) : rrI l l.length 0 St.zero = 0 := h.rr l.length 0 (by omega)
theorem RC.inv {p0 tt : Int} {l : List S51} {t : Int} (h : RC p0 tt l t) : ∀ i, i ≤ l.length → SInv (stF (l.take i)) t
 | 0, _ => by rw [List.take_zero]; exact SInv.zero t
 | i + 1, hi => by
  obtain ⟨s', hs'⟩ := Option.isSome_iff_exists.mp (h.say i hi)
  rw [List.take_succ_eq_append_getElem hi, stF_snoc, hs']
  exact (RC.inv h i (by omega)).step (valid_ok (h.val _ (List.getElem_mem hi))) hs' (h.up _ (List.getElem_mem hi))
theorem RC.inv_all {p0 tt : Int} {l : List S51} {t : Int} (h : RC p0 tt l t) : SInv (stF l) t := by
 have := h.inv l.length (Nat.le_refl _)
 rwa [List.take_length] at this
theorem RC.snoc {p0 tt : Int} {l : List S51} {t : Int} (h : RC p0 tt l t) {kind a b c d : Int} {x : S51} (hn : NextOk l p0 tt t kind a b c d x) (hs : ((stF l).sayS x).isSome = true) (h9 : x.f9 ≤ 9223372036854775807) : RC p0 tt (l ++ [x]) t := by
 refine ⟨?_, ?_, ?_, ?_, ?_, ?_, ?_⟩
 ·intro y hy
  rcases List.mem_append.mp hy with hy | hy
  ·exact h.val y hy
  ·rw [List.mem_singleton] at hy
   subst hy
   exact hn.v
 ·intro y hy
  rcases List.mem_append.mp hy with hy | hy
  ·exact h.par y hy
  ·rw [List.mem_singleton] at hy
   subst hy
   exact ⟨hn.f0, hn.f1⟩
 ·rw [List.pairwise_append]
  refine ⟨h.asc, by simp, fun y hy z hz => ?_⟩
  rw [List.mem_singleton] at hz
  subst hz
  rw [hn.f4]
  exact h.up y hy
 ·intro y hy
  rcases List.mem_append.mp hy with hy | hy
  ·exact h.up y hy
  ·rw [List.mem_singleton] at hy
   subst hy
   rw [hn.f4]
   exact Int.le_refl _
 ·intro i hi
  rw [List.length_append, List.length_singleton] at hi
  by_cases e : i < l.length
  ·rw [List.take_append_of_le_length (by omega), List.getElem_append_left e]
   exact h.say i e
  ·have e : i = l.length := by omega
   subst e
   rw [List.take_left, List.getElem_concat_length rfl]
   exact hs
 ·intro y hy
  rcases List.mem_append.mp hy with hy | hy
  ·exact h.big y hy
  ·rw [List.mem_singleton] at hy
   subst hy
   exact h9
 ·rw [List.length_append, List.length_singleton]
  have := hn.len
  omega
theorem rst_full {l : List S51} {t : Int} (h : ∀ x ∈ l, x.f4 ≤ t) : rstA l t = stF l := by
 have : ∀ (l : List S51) (s : St), (∀ x ∈ l, x.f4 ≤ t) → l.foldl (rstep t) s = l.foldl (fun s x => (s.sayS x).getD s) s := by
  intro l
  induction l with
  | nil => intro s _; rfl
  | cons x l ih =>
   intro s hl
   rw [List.foldl_cons, List.foldl_cons, ih _ (fun y hy => hl y (List.mem_cons_of_mem _ hy))]
   unfold rstep
   rw [if_pos (hl x (List.mem_cons_self ..))]
 exact this l St.zero h
theorem RC.leases {p0 tt : Int} {l : List S51} {t : Int} (h : RC p0 tt l t) (h0 : 0 ≤ t) (h1 : t ≤ 1048576) : ref16_Leases.f l t = some (rleases (stF l) t 64, 0) := by
 unfold ref16_Leases.f
 rw [if_neg (by rw [h.right]; decide), if_neg (by omega), rst_full h.up]
theorem mem_rleases {s : St} {t : Int} {y : S41} : ∀ {n : Nat}, y ∈ rleases s t n ↔ ∃ k, k < n ∧ s.force k t = true ∧ y = leaseR (s.le k) := by
 intro n
 unfold rleases
 rw [List.mem_flatMap]
 constructor
 ·rintro ⟨k, hk, hy⟩
  unfold rforce at hy
  split at hy
  ·rename_i hf
   exact ⟨k, List.mem_range.mp hk, hf, List.mem_singleton.mp hy⟩
  ·cases hy
 ·rintro ⟨k, hk, hf, rfl⟩
  exact ⟨k, List.mem_range.mpr hk, by unfold rforce; rw [if_pos hf]; exact List.mem_singleton.mpr rfl⟩
abbrev TupL (x : S41) (b : Bool) : Int × Int × Int × Int × Int × Int × Int × Bool × Bool := (x.f0, x.f1, x.f2, x.f3, x.f4, x.f5, x.f6, x.f7, b)
def zL : S41 := ⟨0, 0, 0, 0, 0, 0, 0, false⟩
theorem rdL {l : List S41} {i : Nat} (hi : i < l.length) : rd_T41 l (i : Int) = l[i] := by
 unfold rd_T41
 rw [Int.toNat_natCast, List.getD_eq_getElem?_getD, List.getElem?_eq_getElem hi]
 rfl
theorem at_loop {LL : List S41} (hl : LL.length ≤ 1000) (slot : Int) : ∀ (d i : Nat), i + d = LL.length → (∀ y ∈ LL.take i, y.f2 ≠ slot) →
 ∃ (y : S41) (ok : Bool), Ev (fun k => ref16_At.l0 k slot LL (LL.length : Int) (i : Int)) (TupL y ok) ∧ (ok = true → y ∈ LL ∧ y.f2 = slot) ∧ (ok = false → y = zL ∧ ∀ y ∈ LL, y.f2 ≠ slot)
 | 0, i, hd, hb => by
  refine ⟨zL, false, Ev.step (fun k => ?_) (Ev.now _), fun h => (by cases h), fun _ => ⟨rfl, ?_⟩⟩
  ·rw [ref16_At.l0, if_neg (by omega)]
   rfl
  ·rwa [List.take_of_length_le (by omega)] at hb
 | d + 1, i, hd, hb => by
  have hi : i < LL.length := by omega
  by_cases c : LL[i].f2 = slot
  ·refine ⟨LL[i], true, Ev.step (fun k => ?_) (Ev.now _), fun _ => ⟨List.getElem_mem hi, c⟩, fun h => by cases h⟩
   rw [ref16_At.l0, if_pos (by omega), if_pos (by omega), if_pos (by omega), rdL hi, if_pos c]
  ·obtain ⟨y, ok, hy, h1, h2⟩ := at_loop hl slot d (i + 1) (by omega) (fun y hy => by
    rw [List.take_succ_eq_append_getElem hi] at hy
    rcases List.mem_append.mp hy with hy | hy
    ·exact hb y hy
    ·rw [List.mem_singleton] at hy
     subst hy
     exact c)
   refine ⟨y, ok, Ev.step (fun k => ?_) hy, h1, h2⟩
   rw [ref16_At.l0, if_pos (by omega), if_pos (by omega), if_pos (by omega), rdL hi, if_neg c, w64 (by omega) (by omega)]
   rfl
theorem at_ev {p0 tt : Int} {l : List S51} {t : Int} (h : RC p0 tt l t) (h0 : 0 ≤ t) (h1 : t ≤ 1048576) (slot : Int) (hs0 : 0 ≤ slot) (hs1 : slot < 64) :
 ∃ (y : S41) (ok : Bool), Ev (fun k => ref16_At.f k l slot t) (TupL y ok) ∧ (ok = true → (stF l).force slot.toNat t = true ∧ y = leaseR ((stF l).le slot.toNat)) ∧ (ok = false → y = zL ∧ (stF l).force slot.toNat t = false) := by
 have hlen := rleases_len (stF l) t 64
 obtain ⟨y, ok, hy, hyes, hno⟩ := at_loop (LL := rleases (stF l) t 64) (by omega) slot (rleases (stF l) t 64).length 0 (by omega) (by simp)
 refine ⟨y, ok, ?_, fun e => ?_, fun e => ?_⟩
 ·refine Ev.congr (fun k => ?_) hy
  unfold ref16_At.f
  rw [h.leases h0 h1]
  rfl
 ·obtain ⟨hm, h2⟩ := hyes e
  obtain ⟨k, hk, hf, rfl⟩ := mem_rleases.mp hm
  have hs := (h.inv_all.force hk hf).2.2.2.2.1
  have : k = slot.toNat := by
   have h3 : ((stF l).le k).s = slot := h2
   omega
  subst this
  exact ⟨hf, rfl⟩
 ·obtain ⟨h2, h3⟩ := hno e
  refine ⟨h2, ?_⟩
  cases hf : (stF l).force slot.toNat t with
  | false => rfl
  | true =>
   have hk : slot.toNat < 64 := by omega
   have hs := (h.inv_all.force hk hf).2.2.2.2.1
   exact absurd (show (leaseR ((stF l).le slot.toNat)).f2 = slot by show ((stF l).le slot.toNat).s = slot; omega) (h3 _ (mem_rleases.mpr ⟨_, hk, hf, rfl⟩))
def isTerm (y : S51) : Bool := validR y && (y.f5 == 1 || y.f5 == 2)
def untI (slot : Int) (u : Int) (l : List S51) : Int := l.foldl (fun u y => if isTerm y = true ∧ y.f6 = slot then mx u y.f9 else u) u
def untO (slot : Int) (ls : List (List S51)) : Int := ls.foldl (untI slot) (-1)
theorem mx_ge (a b : Int) : a ≤ mx a b ∧ b ≤ mx a b ∧ (mx a b = a ∨ mx a b = b) := by
 unfold mx
 split <;> omega
theorem untI_snoc (slot u : Int) (l : List S51) (y : S51) : untI slot u (l ++ [y]) = if isTerm y = true ∧ y.f6 = slot then mx (untI slot u l) y.f9 else untI slot u l := by
 unfold untI
 rw [List.foldl_append]
 rfl
theorem untI_ge (slot : Int) : ∀ (l : List S51) (u : Int), u ≤ untI slot u l
 | [], u => Int.le_refl _
 | y :: l, u => by
  have := untI_ge slot l (if isTerm y = true ∧ y.f6 = slot then mx u y.f9 else u)
  have h2 : u ≤ (if isTerm y = true ∧ y.f6 = slot then mx u y.f9 else u) := by
   split
   ·exact (mx_ge _ _).1
   ·exact Int.le_refl _
  exact Int.le_trans h2 this
theorem untI_mem (slot : Int) : ∀ (l : List S51) (u : Int) {y : S51}, y ∈ l → isTerm y = true → y.f6 = slot → y.f9 ≤ untI slot u l
 | z :: l, u, y, hy, h1, h2 => by
  rcases List.mem_cons.mp hy with rfl | hy
  ·have := untI_ge slot l (if isTerm y = true ∧ y.f6 = slot then mx u y.f9 else u)
   rw [if_pos ⟨h1, h2⟩] at this
   refine Int.le_trans (mx_ge u y.f9).2.1 (Int.le_trans this ?_)
   unfold untI
   rw [List.foldl_cons, if_pos ⟨h1, h2⟩]
   exact Int.le_refl _
  ·exact untI_mem slot l _ hy h1 h2
theorem untO_snoc (slot : Int) (ls : List (List S51)) (l : List S51) : untO slot (ls ++ [l]) = untI slot (untO slot ls) l := by
 unfold untO
 rw [List.foldl_append]
 rfl
theorem foldI_ge (slot : Int) : ∀ (ls : List (List S51)) (u : Int), u ≤ ls.foldl (untI slot) u
 | [], u => Int.le_refl _
 | l :: ls, u => Int.le_trans (untI_ge slot l u) (foldI_ge slot ls _)
theorem untO_mem (slot : Int) {ls : List (List S51)} {l : List S51} {y : S51} (hl : l ∈ ls) (hy : y ∈ l) (h1 : isTerm y = true) (h2 : y.f6 = slot) : y.f9 ≤ untO slot ls := by
 have : ∀ (ls : List (List S51)) (u : Int), l ∈ ls → y.f9 ≤ ls.foldl (untI slot) u := by
  intro ls
  induction ls with
  | nil => intro u h; cases h
  | cons m ls ih =>
   intro u h
   rcases List.mem_cons.mp h with rfl | h
   ·exact Int.le_trans (untI_mem slot _ u hy h1 h2) (foldI_ge slot ls _)
   ·exact ih _ h
 exact this ls (-1) hl
theorem term_ev (y : S51) : Ev (fun k => ref16_term.f k y.f0 y.f1 y.f2 y.f3 y.f4 y.f5 y.f6 y.f7 y.f8 y.f9 y.f10) (isTerm y) := by
 refine Ev.bind' (fun k => rfl) (validR_ev y.f0 y.f1 y.f2 y.f3 y.f4 y.f5 y.f6 y.f7 y.f8 y.f9 y.f10) (Ev.congr (fun k => ?_) (Ev.now _))
 show (if validR y = true then (if y.f5 = 1 then some true else some (y.f5 == 2)) else some false) = some (isTerm y)
 unfold isTerm
 by_cases c : validR y = true
 ·rw [if_pos c, c]
  by_cases c1 : y.f5 = 1
  ·rw [if_pos c1, c1]
   rfl
  ·rw [if_neg c1, show (y.f5 == 1) = false from beq_eq_false_iff_ne.mpr c1]
   rfl
 ·rw [if_neg c, Bool.eq_false_iff.mpr c]
  rfl
theorem rdLL {ls : List (List S51)} {i : Nat} (hi : i < ls.length) : rd_L5 ls (i : Int) = ls[i] := by
 unfold rd_L5
 rw [Int.toNat_natCast, List.getD_eq_getElem?_getD, List.getElem?_eq_getElem hi]
 rfl
theorem until_in {ls : List (List S51)} (slot : Int) (i : Nat) (hi : i < ls.length) (hl : ls[i].length ≤ 100000) (hls : ls.length ≤ 100000) (r : Int) (u : Int) (hr : Ev (fun k => ref16_Until.l0 k slot (untI slot u ls[i]) ls (ls.length : Int) ((i + 1 : Nat) : Int)) r) : ∀ (d j : Nat), j + d = ls[i].length →
 Ev (fun k => ref16_Until.l1 k slot (untI slot u (ls[i].take j)) ls (ls.length : Int) (i : Int) ls[i] (ls[i].length : Int) (j : Int)) r
 | 0, j, hd => by
  rw [List.take_of_length_le (by omega)]
  refine Ev.step (fun k => ?_) hr
  rw [ref16_Until.l1, if_neg (by omega), w64 (by omega) (by omega)]
  rfl
 | d + 1, j, hd => by
  have hj : j < ls[i].length := by omega
  have hn := until_in slot i hi hl hls r u hr d (j + 1) (by omega)
  rw [List.take_succ_eq_append_getElem hj, untI_snoc] at hn
  refine Ev.succ ?_
  refine Ev.congr (fun k => by rw [ref16_Until.l1, if_pos (by omega), if_pos (by omega), if_pos (by omega), ← rd_is hj, w64 (by omega) (by omega), show (j : Int) + 1 = ((j + 1 : Nat) : Int) by omega]) ?_
  refine Ev.bind' (fun k => rfl) (term_ev ls[i][j]) ?_
  by_cases c1 : isTerm ls[i][j] = true
  ·by_cases c2 : ls[i][j].f6 = slot
   ·rw [if_pos ⟨c1, c2⟩] at hn
    exact Ev.congr (fun k => by rw [if_pos c1, if_pos c2]) hn
   ·rw [if_neg (fun h => c2 h.2)] at hn
    exact Ev.congr (fun k => by rw [if_pos c1, if_neg c2]) hn
  ·rw [if_neg (fun h => c1 h.1)] at hn
   exact Ev.congr (fun k => by rw [if_neg c1]) hn
theorem until_out {ls : List (List S51)} (slot : Int) (hl : ∀ l ∈ ls, l.length ≤ 100000) (hls : ls.length ≤ 100000) : ∀ (d i : Nat), i + d = ls.length →
 Ev (fun k => ref16_Until.l0 k slot (untO slot (ls.take i)) ls (ls.length : Int) (i : Int)) (untO slot ls)
 | 0, i, hd => by
  rw [List.take_of_length_le (by omega)]
  refine Ev.step (fun k => ?_) (Ev.now _)
  rw [ref16_Until.l0, if_neg (by omega)]
 | d + 1, i, hd => by
  have hi : i < ls.length := by omega
  have hn := until_out slot hl hls d (i + 1) (by omega)
  rw [List.take_succ_eq_append_getElem hi, untO_snoc] at hn
  have := until_in slot i hi (hl _ (List.getElem_mem hi)) hls _ (untO slot (ls.take i)) hn ls[i].length 0 (by omega)
  refine Ev.step (fun k => ?_) this
  rw [ref16_Until.l0, if_pos (by omega), if_pos (by omega), if_pos (by omega), rdLL hi]
  rfl
theorem until_ev {ls : List (List S51)} (slot : Int) (hl : ∀ l ∈ ls, l.length ≤ 100000) (hls : ls.length ≤ 100000) : Ev (fun k => ref16_Until.f k ls slot) (untO slot ls) := until_out slot hl hls ls.length 0 (by omega)
theorem free_loop {ls : List (List S51)} (hl : ∀ l ∈ ls, l.length ≤ 100000) (hls : ls.length ≤ 100000) (slots t : Int) (hs : slots ≤ 64) : ∀ (d i : Nat), (i : Int) + d = slots →
 ∃ (n : Int) (ok : Bool), Ev (fun k => ref16_Free.l0 k ls slots t (i : Int)) (n, ok) ∧ (ok = true → (i : Int) ≤ n ∧ n < slots ∧ untO n ls < t)
 | 0, i, hd => by
  refine ⟨0, false, Ev.step (fun k => ?_) (Ev.now _), fun h => by cases h⟩
  rw [ref16_Free.l0, if_neg (by omega)]
 | d + 1, i, hd => by
  by_cases c : untO (i : Int) ls < t
  ·refine ⟨i, true, Ev.succ (Ev.congr (fun k => by rw [ref16_Free.l0, if_pos (by omega)]) (Ev.bind' (fun k => rfl) (until_ev (i : Int) hl hls) (Ev.congr (fun k => by rw [if_pos c]) (Ev.now _)))), fun _ => ⟨Int.le_refl _, by omega, c⟩⟩
  ·obtain ⟨n, ok, hn, h1⟩ := free_loop hl hls slots t hs d (i + 1) (by omega)
   refine ⟨n, ok, Ev.succ (Ev.congr (fun k => by rw [ref16_Free.l0, if_pos (by omega), w64 (by omega) (by omega), show (i : Int) + 1 = ((i + 1 : Nat) : Int) by omega]) (Ev.bind' (fun k => rfl) (until_ev (i : Int) hl hls) (Ev.congr (fun k => by rw [if_neg c]) hn))), fun h => ?_⟩
   have := h1 h
   omega
theorem free_ev {ls : List (List S51)} (hl : ∀ l ∈ ls, l.length ≤ 100000) (hls : ls.length ≤ 100000) (t : Int) : ∃ (n : Int) (ok : Bool), Ev (fun k => ref16_Free.f k ls 4 t) (n, ok) ∧ (ok = true → 0 ≤ n ∧ n < 4 ∧ untO n ls < t) := by
 obtain ⟨n, ok, h, h1⟩ := free_loop hl hls 4 t (by decide) 4 0 (by decide)
 refine ⟨n, ok, Ev.congr (fun k => ?_) h, h1⟩
 unfold ref16_Free.f
 rw [if_neg (by decide)]
 rfl
def zAt (s : St) (t : Int) (k : Nat) : Int := if s.force k t = true then (s.le k).z else 0
def zSum (s : St) (t : Int) : Nat → Int
 | 0 => 0
 | n + 1 => zSum s t n + zAt s t n
def sumZ (l : List S41) : Int := l.foldl (fun a y => a + y.f4) 0
theorem sumZ_append (l m : List S41) : sumZ (l ++ m) = sumZ l + sumZ m := by
 have : ∀ (m : List S41) (a : Int), m.foldl (fun a y => a + y.f4) a = a + m.foldl (fun a y => a + y.f4) 0 := by
  intro m
  induction m with
  | nil => intro a; simp
  | cons y m ih =>
   intro a
   rw [List.foldl_cons, List.foldl_cons, ih, ih (0 + y.f4)]
   omega
 unfold sumZ
 rw [List.foldl_append, this]
theorem sumZ_rleases (s : St) (t : Int) : ∀ n, sumZ (rleases s t n) = zSum s t n
 | 0 => rfl
 | n + 1 => by
  rw [rleases_succ, sumZ_append, sumZ_rleases s t n, zSum]
  congr 1
  unfold rforce zAt
  split
  ·show (0 : Int) + _ = _
   rw [Int.zero_add]
   rfl
  ·rfl
theorem zSum_rng {s : St} {t u : Int} (h : SInv s u) : ∀ n, n ≤ 64 → 0 ≤ zSum s t n ∧ zSum s t n ≤ 1024 * n
 | 0, _ => ⟨Int.le_refl _, by show (0 : Int) ≤ _; omega⟩
 | n + 1, hn => by
  obtain ⟨h1, h2⟩ := zSum_rng (t := t) h n (by omega)
  rw [zSum]
  unfold zAt
  split
  ·rename_i hf
   have := h.force (by omega) hf
   omega
  ·omega
theorem kept_loop {LL : List S41} (hl : LL.length ≤ 64) (hz : ∀ y ∈ LL, 0 ≤ y.f4 ∧ y.f4 ≤ 1024) : ∀ (d i : Nat), i + d = LL.length → 0 ≤ sumZ (LL.take i) → sumZ (LL.take i) ≤ 1024 * i →
 Ev (fun k => ref17_Kept.l0 k (sumZ (LL.take i)) LL (LL.length : Int) (i : Int)) (sumZ LL, 0)
 | 0, i, hd, _, _ => by
  rw [List.take_of_length_le (by omega)]
  refine Ev.step (fun k => ?_) (Ev.now _)
  rw [ref17_Kept.l0, if_neg (by omega)]
 | d + 1, i, hd, h0, h1 => by
  have hi : i < LL.length := by omega
  have hy := hz _ (List.getElem_mem hi)
  have e : sumZ (LL.take (i + 1)) = sumZ (LL.take i) + LL[i].f4 := by
   rw [List.take_succ_eq_append_getElem hi, sumZ_append]
   congr 1
   show (0 : Int) + _ = _
   omega
  have hn := kept_loop hl hz d (i + 1) (by omega) (by omega) (by omega)
  rw [e] at hn
  refine Ev.step (fun k => ?_) hn
  rw [ref17_Kept.l0, if_pos (by omega), if_pos (by omega), if_pos (by omega), rdL hi, w64 (by omega) (by omega), w64 (by omega) (by omega)]
  rfl
theorem z_rleases {s : St} {t u : Int} (h : SInv s u) : ∀ y ∈ rleases s t 64, 0 ≤ y.f4 ∧ y.f4 ≤ 1024 := by
 intro y hy
 obtain ⟨k, hk, hf, rfl⟩ := mem_rleases.mp hy
 have := h.force hk hf
 show 0 ≤ ((s.le k).z) ∧ (s.le k).z ≤ 1024
 omega
theorem rkept_ev {p0 tt : Int} {l : List S51} {t : Int} (h : RC p0 tt l t) (h0 : 0 ≤ t) (h1 : t ≤ 1048576) : Ev (fun k => ref17_Kept.f k l t) (zSum (stF l) t 64, 0) := by
 have hlen := rleases_len (stF l) t 64
 have := kept_loop (LL := rleases (stF l) t 64) hlen (z_rleases h.inv_all) (rleases (stF l) t 64).length 0 (by omega) (by rw [List.take_zero]; decide) (by rw [List.take_zero]; decide)
 rw [sumZ_rleases] at this
 refine Ev.congr (fun k => ?_) this
 unfold ref17_Kept.f
 rw [h.leases h0 h1]
 rfl
end Go.Proofs.YtcgpbmafkgbbdaaDoor.PS
