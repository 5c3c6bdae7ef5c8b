/- A row of bytes that '[]byte(s)' makes: its block is frozen behind its end. -/
import Derived.Test.YtfabnklcdagfjaaMine
import Derived.Laws.IdiomStrings
set_option linter.unusedVariables false
set_option linter.unusedSimpArgs false
namespace Go.Proofs.YtfabnklcdagfjaaW.PrintWords
open Go.RowKit
/-- The bytes of a text, as numbers. -/
def bytesI (s : ByteArray) : List Int := s.data.toList.map fun b => (b.toNat : Int)
theorem bytesI_length (s : ByteArray) : (bytesI s).length = s.size := by
  unfold bytesI
  rw [List.length_map, Array.length_toList]
  rfl
/-- Such a row, in a block of the call's own. -/
def Kd.Y (d : Kd Int) (e : Nat) (w : World) (base : Nat) (ok : Nat → Prop) (v : Value) (xs : List Int) : Prop :=
  d = Kd.int .u8 ∧ ∃ (g cap p q : Nat) (C : Array Value), v = .slice (some ⟨g, 0, none⟩) xs.length cap ∧ ok g ∧ base ≤ g ∧ w.heap[g]? = some (.cells C e (p, q)) ∧ (∀ j, j < cap → ¬ (p ≤ j ∧ j < q)) ∧ xs.length ≤ cap ∧ C.size = cap ∧ cap ≤ maxLen ∧ ∀ (j : Nat) (hj : j < xs.length), C[j]? = some (.int .u8 xs[j])
section
variable {d : Kd Int} {e : Nat} {w w1 : World} {base : Nat} {ok ok' : Nat → Prop} {v : Value} {xs : List Int}
theorem Kd.Y_step (h : d.Y e w base ok v xs) (hm : ∀ k, ok k → k < w.heap.size → w1.heap[k]? = w.heap[k]?) : d.Y e w1 base ok v xs := by
  obtain ⟨hd, g, cap, p, q, C, rfl, ho, hb, hh, rest⟩ := h
  exact ⟨hd, g, cap, p, q, C, rfl, ho, hb, (hm g ho (Array.getElem?_eq_some_iff.1 hh).1).trans hh, rest⟩
theorem Kd.Y_mono (h : d.Y e w base ok v xs) (hok : ∀ k, ok k → ok' k) : d.Y e w base ok' v xs := by
  obtain ⟨hd, g, cap, p, q, C, rfl, ho, rest⟩ := h
  exact ⟨hd, g, cap, p, q, C, rfl, hok g ho, rest⟩
theorem Kd.Y_lower {base' : Nat} (h : d.Y e w base ok v xs) (hb : base' ≤ base) : d.Y e w base' ok v xs := by
  obtain ⟨hd, g, cap, p, q, C, rfl, ho, hg, rest⟩ := h
  exact ⟨hd, g, cap, p, q, C, rfl, ho, Nat.le_trans hb hg, rest⟩
theorem Kd.Y_below (h : d.Y e w base ok v xs) (hb : Below w.heap.size w w1) : d.Y e w1 base ok v xs := Kd.Y_step h (fun k _ hk => hb.block k hk)
theorem Kd.Y_alloc (h : d.Y e w base ok v xs) (o : Obj) : d.Y e (w.alloc o) base ok v xs := Kd.Y_below h (below_alloc (Below.refl _ _) o)
theorem Kd.Y_drew (h : d.Y e w base ok v xs) : d.Y e w.drew base ok v xs := Kd.Y_below h (below_drew (Below.refl _ _))
theorem Kd.Y_drewN (h : d.Y e w base ok v xs) (m : Nat) : d.Y e (w.drewN m) base ok v xs := Kd.Y_below h (pw_below_drewN (Below.refl _ _) m)
theorem Kd.Y_far (h : d.Y e w base ok v xs) {p : Addr} (hok : ∀ k, ok k → k ≠ p.block) (u : Value) : d.Y e (w.setCell p u) base ok v xs := Kd.Y_step h (fun k ho _ => Below.heap_setCell w p u k (hok k ho))
theorem Kd.Y_keep (h : d.Y e w base ok v xs) {g : Nat} (hk : KeepBut w w1 g none) (hok : ∀ k, ok k → k ≠ g) : d.Y e w1 base ok v xs := Kd.Y_step h (fun k ho hlt => hk.2 k hlt (hok k ho) (by simp))
theorem Kd.Y_grown (h : d.Y e w base ok v xs) {row : Option Nat} (hg : w.grownBy w1 row) (hok : ∀ k, ok k → some k ≠ row) : d.Y e w1 base ok v xs := Kd.Y_step h (fun k ho hk => hg.block k hk (hok k ho))
theorem Kd.Y_typed (h : d.Y e w base ok v xs) : ∀ k, v.ownBlock = some k → ∃ cells fz, w.heap[k]? = some (.cells cells e fz) := by
  obtain ⟨hd, g, cap, p, q, C, rfl, ho, hg, hh, rest⟩ := h
  intro k hk
  have : g = k := by simpa [Value.ownBlock] using hk
  subst this
  exact ⟨_, _, hh⟩
theorem Kd.Y_ne (h : d.Y e w base ok v xs) {g t : Nat} {cells : Array Value} (hb : w.heap[g]? = some (.cells cells t (0, 0))) (ht : e ≠ t) : some g ≠ v.ownBlock := by
  intro he
  obtain ⟨c, fz, hc⟩ := Kd.Y_typed h g he.symm
  rw [hb] at hc
  injection hc with hc
  injection hc with _ hc
  exact ht hc.symm
theorem Kd.Y_types (h : d.Y e w base ok v xs) {g t : Nat} {cells : Array Value} (hb : w.heap[g]? = some (.cells cells t (0, 0))) (ht : ∀ q, q ∈ e :: d.E → q ≠ t) : d.Y e w base (fun k => ok k ∧ k ≠ g) v xs := by
  have hn := Kd.Y_ne h hb (ht e List.mem_cons_self)
  obtain ⟨hd, g', cap, p, q, C, rfl, ho, rest⟩ := h
  exact ⟨hd, g', cap, p, q, C, rfl, ⟨ho, fun e => hn (by rw [e]; rfl)⟩, rest⟩
theorem Kd.Y_slice (h : d.Y e w base ok v xs) : ∃ A c, v = .slice A xs.length c := by
  obtain ⟨hd, g, cap, p, q, C, rfl, _⟩ := h
  exact ⟨_, _, rfl⟩
theorem Kd.Y_form (h : d.Y e w base ok v xs) (hp : 0 < xs.length) : ∃ g cap, v = .slice (some ⟨g, 0, none⟩) xs.length cap ∧ base ≤ g ∧ g < w.heap.size ∧ ∃ cells : Array Value, ∃ fz, w.heap[g]? = some (.cells cells e fz) := by
  obtain ⟨hd, g, cap, p, q, C, rfl, ho, hg, hh, _⟩ := h
  exact ⟨g, cap, rfl, hg, (Array.getElem?_eq_some_iff.1 hh).1, C, _, hh⟩
theorem Kd.Y_reads' {A : Option Addr} {n c : Nat} (h : d.Y e w base ok (.slice A n c) xs) : n = xs.length ∧ n ≤ c ∧ d.C w A xs.length xs := by
  obtain ⟨rfl, g, cap, p, q, C, hv, ho, hg, hh, hf, hl, hs, hm, hc⟩ := h
  injection hv with h1 h2 h3
  subst h1 h2 h3
  refine ⟨rfl, hl, rfl, Nat.le_trans hl (Nat.le_trans hm (by decide)), fun hpos => ⟨⟨g, 0, none⟩, rfl, fun j x hj => ⟨[.int .u8 x], rfl, rfl, fun i u hi => ?_⟩⟩⟩
  obtain ⟨hjl, rfl⟩ := List.getElem?_eq_some_iff.1 hj
  cases i with
  | zero =>
    simp only [List.getElem?_cons_zero, Option.some.injEq] at hi
    subst hi
    show w.cell? ((⟨g, 0, none⟩ : Addr).add (j * 1 + 0)) = _
    rw [Addr.add_lit, Nat.mul_one, Nat.zero_add, Nat.add_zero]
    simp [World.cell?, hh, hc j hjl]
  | succ i => simp at hi
theorem Kd.Y_celln {g cap n : Nat} (z : Int) (h : d.Y e w base ok (.slice (some ⟨g, 0, none⟩) n cap) xs) (i : Int) (h0 : 0 ≤ i) (hi : i < n) : w.cell? ⟨g, i.toNat, none⟩ = some (.int .u8 (rd xs i)) ∧ w.frozen? ⟨g, i.toNat, none⟩ = false := by
  obtain ⟨rfl, g', cap', p, q, C, hv, ho, hg, hh, hf, hl, hs, hm, hc⟩ := h
  injection hv with h1 h2 h3
  injection h1 with h1
  injection h1 with h1
  subst h1 h2 h3
  have hi' : i.toNat < xs.length := by omega
  refine ⟨?_, ?_⟩
  · simp only [World.cell?, hh, hc _ hi']
    simp [rd, List.getD_eq_getElem?_getD, List.getElem?_eq_getElem hi']
  · simp only [World.frozen?, hh]
    have := hf i.toNat (by omega)
    cases hdd : (decide (p ≤ i.toNat) && decide (i.toNat < q)) with
    | false => rfl
    | true =>
      rw [Bool.and_eq_true, decide_eq_true_eq, decide_eq_true_eq] at hdd
      exact absurd hdd this
theorem Kd.Y_putg {g cap n : Nat} (h : d.Y e w base ok (.slice (some ⟨g, 0, none⟩) n cap) xs) (i : Int) (x : Int) : d.Y e (w.setCell ⟨g, i.toNat, none⟩ (.int .u8 x)) base ok (.slice (some ⟨g, 0, none⟩) n cap) (xs.set i.toNat x) ∧ w.grownBy (w.setCell ⟨g, i.toNat, none⟩ (.int .u8 x)) (some g) := by
  refine ⟨?_, rfl, rfl, rfl, (by show w.heap.size ≤ (w.heap.modify g _).size; rw [Array.size_modify]; exact Nat.le_refl _), fun k _ hk => Below.heap_setCell _ _ _ k (fun e => hk (by rw [e]))⟩
  obtain ⟨rfl, g', cap', p, q, C, hv, ho, hg, hh, hf, hl, hs, hm, hc⟩ := h
  injection hv with h1 h2 h3
  injection h1 with h1
  injection h1 with h1
  subst h1 h2 h3
  refine ⟨rfl, g, cap, p, q, C.setIfInBounds i.toNat (.int .u8 x), by rw [List.length_set], ho, hg, ?_, hf, by rw [List.length_set]; exact hl, by rw [Array.size_setIfInBounds]; exact hs, hm, ?_⟩
  · obtain ⟨hlt, hk⟩ := Array.getElem?_eq_some_iff.1 hh
    show (w.heap.modify g _)[g]? = _
    rw [Array.getElem?_eq_getElem (by rw [Array.size_modify]; exact hlt), Array.getElem_modify_self, hk]
    rfl
  · intro j hj
    rw [List.length_set] at hj
    rw [Array.getElem?_setIfInBounds, List.getElem_set]
    by_cases e : i.toNat = j
    · rw [if_pos e, if_pos (by omega), if_pos e]
    · rw [if_neg e, if_neg e]
      exact hc j hj
theorem Kd.R_overY {α : Type} {d : Kd α} {e e' : Nat} {W w1 : World} {base : Nat} {ok : Nat → Prop} {u v : Value} {xs : List α} (h : d.R e W base ok u xs) (hty : ∀ k, v.ownBlock = some k → ∃ cells fz, W.heap[k]? = some (.cells cells e' fz)) (ht : ∀ q, q ∈ e :: d.E → q ≠ e') (hg : W.grownBy w1 v.ownBlock) : d.R e w1 base ok u xs := by
  refine Kd.R_mono (Kd.R_move (Kd.R_bound h) (fun k hk => hg.block k hk.2.2.1 (fun he => ?_))) (fun _ hk => hk.1)
  obtain ⟨_, _, _, q, hq, cells, hc⟩ := hk
  obtain ⟨cells', fz, hc'⟩ := hty k he.symm
  rw [hc] at hc'
  injection hc' with hc'
  injection hc' with _ hc'
  exact ht q hq hc'
theorem Kd.Y_string {P : Program} {src dst : TypeId} {v : Value} (hs : P.underlying src = some (.slice e)) (he : P.underlying e = some (.int .u8)) (hd : P.underlying dst = some .string)
    (h : (Kd.int .u8).Y e w base ok v xs) : (convert src dst v).run P w = .ok (.string (strOfNums xs)) w := by
  obtain ⟨A, c, rfl⟩ := Kd.Y_slice h
  obtain ⟨h1, h2, h3⟩ := Kd.Y_reads' h
  exact Kd.C_string hs he hd h3
end
section
variable {P : Program} {ops : Array Oper} {rest : List Oper} {o : Oper} {a : Act} {Q : Exit → Act → World → Prop}
theorem Kd.Y_bytes {w0 W : World} (base e : Nat) (hgd : o.guard = none) {N : Tmp} (hd : o.dst = some N) (s t : TypeId) (x : Operand) (ho : o.op = .convert s t x) (b : ByteArray) (hx : a.eval x = .string b)
    (hs : P.underlying s = some .string) (ht : P.underlying t = some (.slice e)) (he : P.underlying e = some (.int .u8)) (hsz : b.size ≤ 35184372088832) {ok : Nat → Prop} (HB : Below base w0 W) (hbase : base ≤ W.heap.size)
    (h : ∀ v1 w1, (Kd.int .u8).Y e w1 base ok v1 (bytesI b) → Below base w0 w1 → W.grownBy w1 none → (∃ b, v1.ownBlock = some b ∧ W.heap.size ≤ b) → wpList P ops Q rest (a.put o.dst v1) w1) (hok : ok W.heap.size := by trivial) : wpList P ops Q (o :: rest) a W := by
  refine wpList_plain hgd fun _ hK => ?_
  have hr := run_bytes_of_string (P := P) W s t e b hs ht he
  unfold Oper.wp execOp
  simp only [ho, hx, hr, Result.andThen_ok, Sem.run_bind, Sem.run_pure]
  have hge := grownCap_ge W b.size 0 e
  have e1 : (bytesRow b (grownCap W b.size 0 e)).size = grownCap W b.size 0 e := by
    have : b.data.size = b.size := rfl
    unfold bytesRow
    rw [Array.size_append, Array.size_map, Array.size_replicate]
    omega
  have hgr : W.grownBy (W.drew.alloc (.cells (bytesRow b (grownCap W b.size 0 e)) e ((bytesRow b (grownCap W b.size 0 e)).size, (bytesRow b (grownCap W b.size 0 e)).size + 1))) none := ⟨rfl, rfl, rfl, by simp, fun k hk _ => heap_alloc_old W.drew _ hk⟩
  refine hK _ _ (h _ _ ⟨rfl, W.heap.size, _, _, _, _, by rw [bytesI_length], hok, hbase, heap_alloc_new W.drew _, fun j hj e => by omega, by rw [bytesI_length]; exact hge, e1, grownCap_le_maxLen W _ 0 e (by simp only [maxLen]; omega), ?_⟩ (HB.grown hgr hbase (fun k e => by cases e)) hgr ⟨_, rfl, Nat.le_refl _⟩)
  intro j hj
  have hj' : j < b.data.size := by rw [bytesI_length] at hj; exact hj
  unfold bytesRow
  rw [Array.getElem?_append_left (by simpa using hj')]
  simp only [Array.getElem?_map, Array.getElem?_eq_getElem hj', Option.map_some, bytesI, List.getElem_map, Array.getElem_toList]
end
end Go.Proofs.YtfabnklcdagfjaaW.PrintWords
