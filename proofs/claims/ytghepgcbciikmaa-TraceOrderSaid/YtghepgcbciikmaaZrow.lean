/- A row of the call's own whose block may be greater than its capacity tells ('l[:k:k]'): elements of one cell. -/
import Derived.Test.YtghepgcbciikmaaMine
import Derived.Maps.AppendAt
import Derived.Laws.Append
import Derived.Laws.AppendOwn
set_option linter.unusedVariables false
set_option linter.unusedSimpArgs false
namespace Go.Proofs.YtghepgcbciikmaaW.PrintWords
open Go.RowKit
def Kd.Z {α : Type} (d : Kd α) (e : Nat) (w : World) (base : Nat) (ok : Nat → Prop) (v : Value) (xs : List α) : Prop :=
 ∃ (enc : α → Value) (h1 : ∀ x, (enc x).oneCell' = true), d = Kd.scalar enc h1 ∧ ((v = .slice none 0 0 ∧ xs = []) ∨
  ∃ (g cap : Nat) (C : Array Value), v = .slice (some ⟨g, 0, none⟩) xs.length cap ∧ ok g ∧ base ≤ g ∧ w.heap[g]? = some (.cells C e (0, 0)) ∧ xs.length ≤ cap ∧ cap ≤ C.size ∧ cap ≤ maxLen ∧ ∀ (j : Nat) (hj : j < xs.length), C[j]? = some (enc xs[j]))
section
variable {α : Type} {d : Kd α} {e : Nat} {w w1 : World} {base : Nat} {ok ok' : Nat → Prop} {v : Value} {xs : List α}
theorem Kd.Z_nil (enc : α → Value) (h1 : ∀ x, (enc x).oneCell' = true) (e : Nat) (w : World) (base : Nat) (ok : Nat → Prop) : (Kd.scalar enc h1).Z e w base ok (.slice none 0 0) [] := ⟨enc, h1, rfl, .inl ⟨rfl, rfl⟩⟩
theorem Kd.Z_step (h : d.Z e w base ok v xs) (hm : ∀ k, ok k → k < w.heap.size → w1.heap[k]? = w.heap[k]?) : d.Z e w1 base ok v xs := by
 obtain ⟨enc, h1, hd, h | ⟨g, cap, C, rfl, ho, hb, hh, rest⟩⟩ := h
 ·exact ⟨enc, h1, hd, .inl h⟩
 ·exact ⟨enc, h1, hd, .inr ⟨g, cap, C, rfl, ho, hb, (hm g ho (Array.getElem?_eq_some_iff.1 hh).1).trans hh, rest⟩⟩
theorem Kd.Z_mono (h : d.Z e w base ok v xs) (hok : ∀ k, ok k → ok' k) : d.Z e w base ok' v xs := by
 obtain ⟨enc, h1, hd, h | ⟨g, cap, C, rfl, ho, rest⟩⟩ := h
 ·exact ⟨enc, h1, hd, .inl h⟩
 ·exact ⟨enc, h1, hd, .inr ⟨g, cap, C, rfl, hok g ho, rest⟩⟩
theorem Kd.Z_lower {base' : Nat} (h : d.Z e w base ok v xs) (hb : base' ≤ base) : d.Z e w base' ok v xs := by
 obtain ⟨enc, h1, hd, h | ⟨g, cap, C, rfl, ho, hg, rest⟩⟩ := h
 ·exact ⟨enc, h1, hd, .inl h⟩
 ·exact ⟨enc, h1, hd, .inr ⟨g, cap, C, rfl, ho, Nat.le_trans hb hg, rest⟩⟩
theorem Kd.Z_below (h : d.Z e w base ok v xs) (hb : Below w.heap.size w w1) : d.Z e w1 base ok v xs := Kd.Z_step h (fun k _ hk => hb.block k hk)
theorem Kd.Z_alloc (h : d.Z e w base ok v xs) (o : Obj) : d.Z e (w.alloc o) base ok v xs := Kd.Z_below h (below_alloc (Below.refl _ _) o)
theorem Kd.Z_drew (h : d.Z e w base ok v xs) : d.Z e w.drew base ok v xs := Kd.Z_below h (below_drew (Below.refl _ _))
theorem Kd.Z_drewN (h : d.Z e w base ok v xs) (m : Nat) : d.Z e (w.drewN m) base ok v xs := Kd.Z_below h (pw_below_drewN (Below.refl _ _) m)
theorem Kd.Z_far (h : d.Z e w base ok v xs) {p : Addr} (hok : ∀ k, ok k → k ≠ p.block) (u : Value) : d.Z e (w.setCell p u) base ok v xs := Kd.Z_step h (fun k ho _ => Below.heap_setCell w p u k (hok k ho))
theorem Kd.Z_keep (h : d.Z e w base ok v xs) {g : Nat} (hk : KeepBut w w1 g none) (hok : ∀ k, ok k → k ≠ g) : d.Z e w1 base ok v xs := Kd.Z_step h (fun k ho hlt => hk.2 k hlt (hok k ho) (by simp))
theorem Kd.Z_grown (h : d.Z e w base ok v xs) {row : Option Nat} (hg : w.grownBy w1 row) (hok : ∀ k, ok k → some k ≠ row) : d.Z e w1 base ok v xs := Kd.Z_step h (fun k ho hk => hg.block k hk (hok k ho))
theorem Kd.Z_block (h : d.Z e w base ok v xs) : ∀ k, v.ownBlock = some k → ok k ∧ base ≤ k ∧ k < w.heap.size ∧ ∃ cells, w.heap[k]? = some (.cells cells e (0, 0)) := by
 obtain ⟨enc, h1, hd, ⟨rfl, _⟩ | ⟨g, cap, C, rfl, ho, hg, hh, rest⟩⟩ := h
 ·intro k hk
  simp [Value.ownBlock] at hk
 ·intro k hk
  have : g = k := by simpa [Value.ownBlock] using hk
  subst this
  exact ⟨ho, hg, (Array.getElem?_eq_some_iff.1 hh).1, C, hh⟩
theorem Kd.Z_typed (h : d.Z e w base ok v xs) : ∀ k, v.ownBlock = some k → ∃ cells, w.heap[k]? = some (.cells cells e (0, 0)) := fun k hk => (Kd.Z_block h k hk).2.2.2
theorem Kd.Z_base (h : d.Z e w base ok v xs) : ∀ k, v.ownBlock = some k → base ≤ k := fun k hk => (Kd.Z_block h k hk).2.1
theorem Kd.Z_lt (h : d.Z e w base ok v xs) : ∀ k, v.ownBlock = some k → k < w.heap.size := fun k hk => (Kd.Z_block h k hk).2.2.1
theorem Kd.Z_ne (h : d.Z e w base ok v xs) {g t : Nat} {cells : Array Value} (hb : w.heap[g]? = some (.cells cells t (0, 0))) (ht : e ≠ t) : some g ≠ v.ownBlock := by
 intro he
 obtain ⟨c, hc⟩ := Kd.Z_typed h g he.symm
 rw [hb] at hc
 injection hc with hc
 injection hc with _ hc
 exact ht hc.symm
theorem Kd.Z_slice (h : d.Z e w base ok v xs) : ∃ A c, v = .slice A xs.length c := by
 obtain ⟨enc, h1, hd, ⟨rfl, rfl⟩ | ⟨g, cap, C, rfl, _⟩⟩ := h
 ·exact ⟨_, _, rfl⟩
 ·exact ⟨_, _, rfl⟩
theorem Kd.Z_form (h : d.Z e w base ok v xs) (hp : 0 < xs.length) : ∃ g cap, v = .slice (some ⟨g, 0, none⟩) xs.length cap ∧ base ≤ g ∧ g < w.heap.size ∧ ∃ cells, w.heap[g]? = some (.cells cells e (0, 0)) := by
 obtain ⟨enc, h1, hd, ⟨rfl, rfl⟩ | ⟨g, cap, C, rfl, ho, hg, hh, rest⟩⟩ := h
 ·simp at hp
 ·exact ⟨g, cap, rfl, hg, (Array.getElem?_eq_some_iff.1 hh).1, C, hh⟩
theorem Kd.Z_types (h : d.Z e w base ok v xs) {g t : Nat} {cells : Array Value} (hb : w.heap[g]? = some (.cells cells t (0, 0))) (ht : ∀ q, q ∈ e :: d.E → q ≠ t) : d.Z e w base (fun k => ok k ∧ k ≠ g) v xs := by
 have hn := Kd.Z_ne h hb (ht e List.mem_cons_self)
 obtain ⟨enc, h1, hd, h | ⟨g', cap, C, rfl, ho, rest⟩⟩ := h
 ·exact ⟨enc, h1, hd, .inl h⟩
 ·exact ⟨enc, h1, hd, .inr ⟨g', cap, C, rfl, ⟨ho, fun e => hn (by rw [e]; rfl)⟩, rest⟩⟩
theorem Kd.Z_reads' {A : Option Addr} {n c : Nat} (h : d.Z e w base ok (.slice A n c) xs) : n = xs.length ∧ n ≤ c ∧ d.C w A xs.length xs := by
 obtain ⟨enc, h1, rfl, ⟨hv, rfl⟩ | ⟨g, cap, C, hv, ho, hg, hh, hl, hs, hm, hc⟩⟩ := h
 ·injection hv with e1 e2 e3
  subst e1 e2 e3
  exact ⟨rfl, Nat.le_refl _, rfl, by simp, fun hp => absurd hp (by simp)⟩
 ·injection hv with e1 e2 e3
  subst e1 e2 e3
  refine ⟨rfl, hl, rfl, Nat.le_trans hl (Nat.le_trans hm (by decide)), fun hpos => ⟨⟨g, 0, none⟩, rfl, fun j x hj => ⟨[enc x], rfl, rfl, fun i u hi => ?_⟩⟩⟩
  obtain ⟨hjl, rfl⟩ := List.getElem?_eq_some_iff.1 hj
  cases i with
  | zero =>
   simp only [List.getElem?_cons_zero, Option.some.injEq] at hi
   subst hi
   show w.cell? ((⟨g, 0, none⟩ : Addr).add (j * 1 + 0)) = _
   rw [Addr.add_lit, Nat.mul_one, Nat.zero_add, Nat.add_zero]
   simp [World.cell?, hh, hc j hjl]
  | succ i => simp at hi
end
section
variable {P : Program} {α : Type}
theorem own_Z {enc : α → Value} {h1 : ∀ x, (enc x).oneCell' = true} {e : Nat} {W : World} {base : Nat} {ok : Nat → Prop} {v : Value} {xs : List α} (h : W.ownsRow base e 1 v xs.length (xs.map enc)) (hok : ∀ k, v.ownBlock = some k → ok k) : (Kd.scalar enc h1).Z e W base ok v xs := by
 refine ⟨enc, h1, rfl, ?_⟩
 rcases h.2 with ⟨hv, hn⟩ | ⟨g, cap, cur, rfl, hg, hh, hn, hm, hs, ht⟩
 ·exact .inl ⟨hv, List.eq_nil_of_length_eq_zero hn⟩
 ·refine .inr ⟨g, cap, cur, rfl, hok g rfl, hg, hh, hn, by omega, hm, fun j hj => ?_⟩
  have e1 : (cur.toList.take (xs.length * 1))[j]? = some (enc xs[j]) := by rw [ht, List.getElem?_map, List.getElem?_eq_getElem hj]; rfl
  rw [List.getElem?_take_of_lt (by omega)] at e1
  simpa using e1
theorem Kd.R_Z {enc : α → Value} {h1 : ∀ x, (enc x).oneCell' = true} {e : Nat} {W : World} {base : Nat} {ok : Nat → Prop} {v : Value} {xs : List α} (h : (Kd.scalar enc h1).R e W base ok v xs) : (Kd.scalar enc h1).Z e W base ok v xs :=
 own_Z (by have := own_of_R h; rw [← encs_length (enc := enc) xs]; simpa [encs] using this) h.1
theorem grown_Z (enc : α → Value) (h1 : ∀ x, (enc x).oneCell' = true) {e : Nat} {W : World} {base : Nat} {ok : Nat → Prop} (xs : List α) (n0 cap0 : Nat) (zc : Array Value) (hz : zc.size = 1) (hok : ok W.heap.size) (hbase : base ≤ W.heap.size) (hlen : xs.length ≤ grownCap W xs.length cap0 e) (hm : xs.length ≤ maxLen) :
 (Kd.scalar enc h1).Z e (W.drew.alloc (.cells ((xs.map enc).toArray ++ Builtin.zeroCells zc (grownCap W xs.length cap0 e - xs.length)) e)) base ok (.slice (some ⟨W.heap.size, 0, none⟩) xs.length (grownCap W xs.length cap0 e)) xs := by
 refine ⟨enc, h1, rfl, .inr ⟨W.heap.size, _, _, rfl, hok, hbase, heap_alloc_new W.drew _, hlen, ?_, grownCap_le_maxLen W _ cap0 e hm, ?_⟩⟩
 ·rw [Array.size_append, size_zeroCells]
  simp [hz]
  omega
 ·intro j hj
  rw [Array.getElem?_append_left (by simp; omega), List.getElem?_toArray, List.getElem?_map, List.getElem?_eq_getElem hj]
  rfl
theorem run_append_full (enc : α → Value) (h1 : ∀ x, (enc x).oneCell' = true) {TB ty e : TypeId} (z : Value) (bytes : Nat) (ht : P.underlying TB = some (.slice e)) (hinfo : (P.info? e).map (fun i => (i.zero, i.size, i.bytes)) = some (some z, 1, bytes)) (hz : z.cells.size = 1) (hb0 : 0 < bytes)
 {W : World} {base : Nat} {ok : Nat → Prop} (g : Nat) (cap : Nat) (xs ys : List α) (h : (Kd.scalar enc h1).Z e W base ok (.slice (some ⟨g, 0, none⟩) xs.length cap) xs) (hcap : cap < xs.length + ys.length ∨ ys = []) (hfresh : ok W.heap.size) (ad : Addr) (c : Nat)
 (hnews : ∀ j u, (ys.map enc)[j]? = some u → W.cell? (ad.add j) = some u) (hlen : (xs.length + ys.length) * bytes ≤ 140737488355328) (hbase : base ≤ W.heap.size) :
 ∃ v' w', (Builtin.append_ #[TB, TB] ty #[.slice (some ⟨g, 0, none⟩) xs.length cap, .slice (some ad) ys.length c]).run P W = .ok v' w' ∧ (Kd.scalar enc h1).Z e w' base ok v' (xs ++ ys) ∧ W.grownBy w' none ∧ (v'.ownBlock = some g ∨ ∃ b, v'.ownBlock = some b ∧ W.heap.size ≤ b) := by
 obtain ⟨i, hi, hzz⟩ := Option.map_eq_some_iff.1 hinfo
 simp only [Prod.mk.injEq] at hzz
 obtain ⟨hz0, hs1, hb1⟩ := hzz
 obtain ⟨_, hle, hC⟩ := Kd.Z_reads' h
 rcases hcap with hcap | rfl
 ·have hlo : (xs.map enc).length = xs.length * i.size := by rw [List.length_map, hs1, Nat.mul_one]
  have hl2 : (ys.map enc).length = ys.length * i.size := by rw [List.length_map, hs1, Nat.mul_one]
  have holds : ∀ j u, (xs.map enc)[j]? = some u → W.cell? ((⟨g, 0, none⟩ : Addr).add j) = some u := by
   intro j u hj
   rw [List.getElem?_map, Option.map_eq_some_iff] at hj
   obtain ⟨y, hy, rfl⟩ := hj
   obtain ⟨hjl, _⟩ := List.getElem?_eq_some_iff.1 hy
   obtain ⟨ad', e1, hc'⟩ := hC.2.2 (by omega)
   cases e1
   obtain ⟨cs, hcs, hk, hcell⟩ := hc' j y hy
   have hk : cs = [enc y] := hk
   subst hk
   have := hcell 0 (enc y) rfl
   have hsz : (Kd.scalar enc h1).sz = 1 := rfl
   rw [hsz, Nat.mul_one, Nat.add_zero] at this
   exact this
  have hlen1 : xs.length + ys.length ≤ 140737488355328 := Nat.le_trans (Nat.le_mul_of_pos_right _ hb0) hlen
  have hr := run_append_grow (P := P) (w := W) TB ty e i z ht hi hz0 ⟨g, 0, none⟩ xs.length cap (xs.map enc) hlo holds ad ys.length c (ys.map enc) hl2 hnews hcap (by omega) (by rw [hb1]; exact growslice_fits (by omega) hlen)
  have hge := grownCap_ge W (xs.length + ys.length) cap e
  have hZ := grown_Z enc h1 (e := e) (W := W) (base := base) (ok := ok) (xs ++ ys) 0 cap z.cells hz hfresh hbase (by rw [List.length_append]; exact hge) (by rw [List.length_append]; simp only [maxLen]; omega)
  rw [List.length_append] at hZ
  refine ⟨_, _, hr, ?_, ⟨rfl, rfl, rfl, by simp, fun k hk _ => heap_alloc_old W.drew _ hk⟩, .inr ⟨_, rfl, Nat.le_refl _⟩⟩
  have e2 : (xs.map enc).toArray ++ (ys.map enc).toArray = ((xs ++ ys).map enc).toArray := by simp
  rw [e2]
  exact hZ
 ·refine ⟨.slice (some ⟨g, 0, none⟩) xs.length cap, W, ?_, by rw [List.append_nil]; exact h, ⟨rfl, rfl, rfl, Nat.le_refl _, fun k hk _ => rfl⟩, .inl rfl⟩
  have hf1 := run_firstCells_some (P := P) W i.size 0 ad 0 c ([] : List Value) (by simp) (by simp)
  have hst : ∀ p : Addr, (storeCells p []).run P W = .ok () W := fun p => rfl
  simp [Builtin.append_, run_underlying ht, sizeOf, typeInfo, hi, Builtin.lenOf, hle, hf1, hst]
theorem run_append_in {TB ty e : TypeId} {i : TypeInfo} (ht : P.underlying TB = some (.slice e)) (hi : P.info? e = some i) (hs1 : i.size = 1) {W : World} {g cap : Nat} {C : Array Value} (hh : W.heap[g]? = some (.cells C e (0, 0))) (n : Nat) (hroom : n + 1 ≤ cap) (hcs : cap ≤ C.size) (u : Value) (hu : u.oneCell' = true) (ad : Addr) (c : Nat) (hc : W.cell? (ad.add 0) = some u) :
 (Builtin.append_ #[TB, TB] ty #[.slice (some ⟨g, 0, none⟩) n cap, .slice (some ad) 1 c]).run P W = .ok (.slice (some ⟨g, 0, none⟩) (n + 1) cap) (W.setCell ⟨g, n, none⟩ u) := by
 have hnews : ∀ j v, [u][j]? = some v → W.cell? (ad.add j) = some v := by
  intro j v hj
  cases j with
  | zero =>
   simp only [List.getElem?_cons_zero, Option.some.injEq] at hj
   subst hj
   exact hc
  | succ j => simp at hj
 have hf1 := run_firstCells_some (P := P) W i.size 1 ad 1 c [u] (by rw [hs1]; rfl) hnews
 have hcl : ∃ x, W.cell? ⟨g, n, none⟩ = some x := ⟨C[n]'(by omega), by simp [World.cell?, hh, show n < C.size by omega]⟩
 obtain ⟨x, hx⟩ := hcl
 have hfr : W.frozen? ⟨g, n, none⟩ = false := by simp [World.frozen?, hh]
 have hadd : ∀ k, (⟨g, 0, none⟩ : Addr).add k = ⟨g, k, none⟩ := fun k => by rw [Addr.add_lit, Nat.zero_add]
 have hadd2 : (⟨g, n, none⟩ : Addr).add 0 = ⟨g, n, none⟩ := by rw [Addr.add_lit, Nat.add_zero]
 have hst : (storeCells ⟨g, n, none⟩ [u]).run P W = .ok () (W.setCell ⟨g, n, none⟩ u) := by
  simp only [storeCells, Sem.run_bind]
  rw [hadd2, run_store P W _ _ _ hu, hx]
  simp [hfr]
 simp [Builtin.append_, run_underlying ht, sizeOf, typeInfo, hi, Builtin.lenOf, hroom, hf1, hadd, hs1, hst, show (Builtin.firstCells 1 1 (.slice (some ad) 1 c)).run P W = .ok #[u] W by rw [hs1] at hf1; exact hf1]
end
section
variable {P : Program} {ops : Array Oper} {rest : List Oper} {o : Oper} {a : Act} {Q : Exit → Act → World → Prop} {α : Type}
theorem Kd.Z_append (d : Kd α) {w0 W : World} (base : Nat) (hgd : o.guard = none) (s x : Operand) (t e : TypeId) (z : Value) (bytes : Nat)
 (ho : o.op = .call { callee := .builtin .append, args := #[s, x], argTypes := #[t, t] })
 (ht : P.underlying t = some (.slice e)) (hinfo : (P.info? e).map (fun i => (i.zero, i.size, i.bytes)) = some (some z, d.sz, bytes)) (hz : z.cells.size = d.sz) (hs0 : 0 < d.sz) (hb0 : 0 < bytes)
 (v : Value) (xs : List α) (p : α) (cs : List Value) (ok okp : Nat → Prop) (hs : a.eval s = v) (hx : a.eval x = .slice (some ⟨W.heap.size, 0, none⟩) 1 1) (hp : d.M W base okp p cs) (hokp : ∀ k, okp k → ok k ∧ some k ≠ v.ownBlock) (hfresh : ∀ k, W.heap.size ≤ k → ok k)
 (HO : d.Z e W base ok v xs) (HB : Below base w0 W) (hbase : base ≤ W.heap.size) (hl : (xs.length + 1) * bytes ≤ 140737488355328)
 (h : ∀ v1 w1, d.Z e w1 base ok v1 (xs ++ [p]) → Below base w0 w1 → W.grownBy w1 v.ownBlock → (v1.ownBlock = v.ownBlock ∨ ∃ b, v1.ownBlock = some b ∧ W.heap.size ≤ b) → wpList P ops Q rest (a.put o.dst v1) w1) :
 wpList P ops Q (o :: rest) a (W.alloc (.cells cs.toArray e)) := by
 have hbl : ∀ k, v.ownBlock = some k → base ≤ k := Kd.Z_base HO
 obtain ⟨W', hW'⟩ : ∃ W', W' = W.alloc (.cells cs.toArray e) := ⟨_, rfl⟩
 have hgW : ∀ r, W.grownBy W' r := fun r => by rw [hW']; exact World.grownBy_alloc W _ r
 have hszW : W.heap.size ≤ W'.heap.size := (hgW none).size
 have HO' : d.Z e W' base ok v xs := by rw [hW']; exact Kd.Z_alloc HO _
 clear HO
 obtain ⟨enc, h1, rfl, hrow⟩ := HO'
 rcases hrow with ⟨rfl, rfl⟩ | ⟨g, cap, C, rfl, hok, hg, hh, hn, hcap, hm, hcell⟩
 ·exact Kd.R_append (Kd.scalar enc h1) base hgd s x t e z bytes ho ht hinfo hz hs0 hb0 _ [] p cs ok okp hs hx hp hokp hfresh (Kd.R_nil _ _ _ _ _) HB hbase hl (fun v1 w1 q1 q2 q3 q4 => h v1 w1 (Kd.R_Z q1) q2 q3 q4)
 have hcs : cs = [enc p] := hp
 have hnew : W'.cell? (((⟨W.heap.size, 0, none⟩ : Addr)).add 0) = some (enc p) := by
  have h2 := heap_alloc_new W (.cells [enc p].toArray e)
  rw [hW', hcs, Addr.add_lit, Nat.add_zero]
  simp only [World.cell?, h2]
  rfl
 have hinfo' := hinfo
 obtain ⟨i, hi, hzz⟩ := Option.map_eq_some_iff.1 hinfo'
 simp only [Prod.mk.injEq] at hzz
 obtain ⟨hz0, hs1, hb1⟩ := hzz
 have hs1' : i.size = 1 := hs1
 have hlen1 : xs.length + 1 ≤ 140737488355328 := Nat.le_trans (Nat.le_mul_of_pos_right _ hb0) hl
 have key : ∃ v' w', (Builtin.append_ #[t, t] o.type #[.slice (some ⟨g, 0, none⟩) xs.length cap, .slice (some ⟨W.heap.size, 0, none⟩) 1 1]).run P W' = .ok v' w' ∧ (Kd.scalar enc h1).Z e w' base ok v' (xs ++ [p]) ∧ W'.grownBy w' (some g) ∧ (v'.ownBlock = some g ∨ ∃ b, v'.ownBlock = some b ∧ W.heap.size ≤ b) := by
  by_cases hroom : xs.length + 1 ≤ cap
  ·refine ⟨_, _, run_append_in ht hi hs1' hh xs.length hroom hcap (enc p) (h1 p) _ 1 hnew, ⟨enc, h1, rfl, .inr ⟨g, cap, C.setIfInBounds xs.length (enc p), by rw [List.length_append]; rfl, hok, hg, ?_, by rw [List.length_append]; exact hroom, by rw [Array.size_setIfInBounds]; exact hcap, hm, ?_⟩⟩, ⟨rfl, rfl, rfl, ?_, fun k _ hk => Below.heap_setCell _ _ _ k (fun e => hk (by rw [e]))⟩, .inl rfl⟩
   ·obtain ⟨hlt, hk⟩ := Array.getElem?_eq_some_iff.1 hh
    show (W'.heap.modify g _)[g]? = _
    rw [Array.getElem?_eq_getElem (by rw [Array.size_modify]; exact hlt), Array.getElem_modify_self, hk]
    rfl
   ·intro j hj
    rw [List.length_append, List.length_singleton] at hj
    rw [Array.getElem?_setIfInBounds]
    by_cases e : xs.length = j
    ·subst e
     rw [if_pos rfl, if_pos (by omega), List.getElem_concat_length rfl]
    ·rw [if_neg e, List.getElem_append_left (by omega)]
     exact hcell j (by omega)
   ·show W'.heap.size ≤ (W'.heap.modify g _).size
    rw [Array.size_modify]
    exact Nat.le_refl _
  ·obtain ⟨v', w', r1, r2, r3, r4⟩ := run_append_full (P := P) enc h1 (TB := t) (ty := o.type) z bytes ht hinfo hz hb0 g cap xs [p] ⟨enc, h1, rfl, .inr ⟨g, cap, C, rfl, hok, hg, hh, hn, hcap, hm, hcell⟩⟩ (.inl (by simp; omega)) (hfresh _ hszW) ⟨W.heap.size, 0, none⟩ 1 (by
    intro j u hj
    cases j with
    | zero =>
     simp only [List.map_cons, List.map_nil, List.getElem?_cons_zero, Option.some.injEq] at hj
     subst hj
     exact hnew
    | succ j => simp at hj) (by simpa using hl) (by omega)
   exact ⟨v', w', r1, r2, ⟨r3.1, r3.2, r3.3, r3.size, fun k hk _ => r3.block k hk (by simp)⟩, r4.elim (fun h => .inl h) (fun ⟨b, hb, hb2⟩ => .inr ⟨b, hb, by omega⟩)⟩
 obtain ⟨v', w', hrun, r1, r2, r3⟩ := key
 have hB : Below base w0 w' := (HB.grown (hgW none) hbase (fun k e => by cases e)).grown r2 (by omega) (fun k e => by cases e; exact hg)
 have hall := h v' w' r1 hB (World.grownBy.trans (hgW _) r2) r3
 rw [← hW']
 refine wpList_plain hgd fun K hK => ?_
 unfold Oper.wp execOp
 simp [ho, resolve, invoke, builtin, hs, hx, hrun, Result.andThen, Sem.run_bind, Sem.run_pure]
 exact hK _ _ hall
theorem Kd.Z_capjoin (d : Kd α) {w0 W : World} (base : Nat) (hgd : o.guard = none) (s x : Operand) (t e : TypeId) (z : Value) (bytes : Nat) (ho : o.op = .call { callee := .builtin .append, args := #[s, x], argTypes := #[t, t] })
 (ht : P.underlying t = some (.slice e)) (hinfo : (P.info? e).map (fun i => (i.zero, i.size, i.bytes)) = some (some z, d.sz, bytes)) (hz : z.cells.size = d.sz) (hb0 : 0 < bytes) {g n c k m c2 : Nat} {A : Option Addr} {xs : List α} {ok ok' : Nat → Prop}
 (hs : a.eval s = .slice (some ⟨g, 0, none⟩) k k) (hx : a.eval x = .slice A m c2) (hA : A = if c = k + 1 then some ⟨g, 0, none⟩ else (some (⟨g, 0, none⟩ : Addr)).map (·.add ((k + 1) * d.sz))) (hm : m = n - (k + 1))
 (HO : d.Z e W base ok (.slice (some ⟨g, 0, none⟩) n c) xs) (hk : k < n) (HB : Below base w0 W) (hbase : base ≤ W.heap.size) (hl : n * bytes ≤ 140737488355328) (hfresh : ok' W.heap.size) (hok : ∀ k, ok k → ok' k)
 (h : ∀ v1 w1, d.Z e w1 base ok' v1 (xs.eraseIdx k) → Below base w0 w1 → Below W.heap.size W w1 → wpList P ops Q rest (a.put o.dst v1) w1) : wpList P ops Q (o :: rest) a W := by
 obtain ⟨enc, h1, rfl, hrow⟩ := HO
 rcases hrow with ⟨hv, _⟩ | ⟨g', cap, C, hv, hokg, hg, hh, hn, hcap, hmax, hcell⟩
 ·cases hv
 injection hv with e1 e2 e3
 injection e1 with e1
 injection e1 with e1
 subst e1 e2 e3
 have hsz : (Kd.scalar enc h1).sz = 1 := rfl
 have hZ : (Kd.scalar enc h1).Z e W base ok' (.slice (some ⟨g, 0, none⟩) (xs.take k).length k) (xs.take k) := by
  refine ⟨enc, h1, rfl, .inr ⟨g, k, C, rfl, hok g hokg, hg, hh, ?_, by omega, by omega, fun j hj => ?_⟩⟩
  ·rw [List.length_take]
   omega
  ·rw [List.length_take] at hj
   rw [List.getElem_take]
   exact hcell j (by omega)
 have hlt : (xs.take k).length = k := by rw [List.length_take]; omega
 have hld : (xs.drop (k + 1)).length = m := by rw [List.length_drop, hm]
 obtain ⟨ad, had, hnews⟩ : ∃ ad, A = some ad ∧ ∀ j u, ((xs.drop (k + 1)).map enc)[j]? = some u → W.cell? (ad.add j) = some u := by
  by_cases hc : c = k + 1
  ·rw [if_pos hc] at hA
   refine ⟨_, hA, fun j u hj => ?_⟩
   rw [List.drop_of_length_le (by omega)] at hj
   simp at hj
  ·rw [if_neg hc] at hA
   refine ⟨_, hA, fun j u hj => ?_⟩
   rw [List.getElem?_map, List.getElem?_drop, Option.map_eq_some_iff] at hj
   obtain ⟨y, hy, rfl⟩ := hj
   obtain ⟨hjl, rfl⟩ := List.getElem?_eq_some_iff.1 hy
   show W.cell? (((⟨g, 0, none⟩ : Addr).add ((k + 1) * (Kd.scalar enc h1).sz)).add j) = _
   rw [hsz, Nat.mul_one, Addr.add_lit, Addr.add_lit, Nat.zero_add]
   simp [World.cell?, hh, hcell _ hjl]
 subst had
 obtain ⟨v', w', r1, r2, r3, _⟩ := run_append_full (P := P) enc h1 (TB := t) (ty := o.type) z bytes ht hinfo hz hb0 g k (xs.take k) (xs.drop (k + 1)) hZ (by
  rcases Nat.eq_zero_or_pos (xs.drop (k + 1)).length with c0 | c0
  ·exact .inr (List.eq_nil_of_length_eq_zero c0)
  ·exact .inl (by omega)) hfresh ad c2 hnews (by rw [hlt, hld, hm]; exact Nat.le_trans (Nat.mul_le_mul_right _ (by omega)) hl) hbase
 rw [← List.eraseIdx_eq_take_drop_succ] at r2
 rw [hlt, hld] at r1
 have hB : Below base w0 w' := HB.grown r3 hbase (fun k e => by cases e)
 have hB2 : Below W.heap.size W w' := (Below.refl _ _).grown r3 (Nat.le_refl _) (fun k e => by cases e)
 have hall := h v' w' r2 hB hB2
 refine wpList_plain hgd fun K hK => ?_
 unfold Oper.wp execOp
 simp [ho, resolve, invoke, builtin, hs, hx, r1, Result.andThen, Sem.run_bind, Sem.run_pure]
 exact hK _ _ hall
end
section
variable {P : Program} {ops : Array Oper} {o : Oper} {a : Act} {Q : Exit → Act → World → Prop} {Kc : Act → World → Prop} {α : Type}
theorem Kd.Z_append_step (d : Kd α) {w0 W : World} (base : Nat) (hw : Region.wanted o (yielded ops a.tmps) = true) (s x : Operand) (t e : TypeId) (z : Value) (bytes : Nat)
 (ho : o.op = .call { callee := .builtin .append, args := #[s, x], argTypes := #[t, t] })
 (ht : P.underlying t = some (.slice e)) (hinfo : (P.info? e).map (fun i => (i.zero, i.size, i.bytes)) = some (some z, d.sz, bytes)) (hz : z.cells.size = d.sz) (hs0 : 0 < d.sz) (hb0 : 0 < bytes)
 (v : Value) (xs : List α) (p : α) (cs : List Value) (ok okp : Nat → Prop) (hs : a.eval s = v) (hx : a.eval x = .slice (some ⟨W.heap.size, 0, none⟩) 1 1) (hp : d.M W base okp p cs) (hokp : ∀ k, okp k → ok k ∧ some k ≠ v.ownBlock) (hfresh : ∀ k, W.heap.size ≤ k → ok k)
 (HO : d.Z e W base ok v xs) (HB : Below base w0 W) (hbase : base ≤ W.heap.size) (hl : (xs.length + 1) * bytes ≤ 140737488355328)
 (h : ∀ v1 w1, d.Z e w1 base ok v1 (xs ++ [p]) → Below base w0 w1 → W.grownBy w1 v.ownBlock → (v1.ownBlock = v.ownBlock ∨ ∃ b, v1.ownBlock = some b ∧ W.heap.size ≤ b) → Kc (a.put o.dst v1) w1) :
 if Region.wanted o (yielded ops a.tmps) = true then Oper.wp P o a (W.alloc (.cells cs.toArray e)) Kc Q else Kc (a.put o.dst undef) (W.alloc (.cells cs.toArray e)) := by
 have hbl : ∀ k, v.ownBlock = some k → base ≤ k := Kd.Z_base HO
 obtain ⟨W', hW'⟩ : ∃ W', W' = W.alloc (.cells cs.toArray e) := ⟨_, rfl⟩
 have hgW : ∀ r, W.grownBy W' r := fun r => by rw [hW']; exact World.grownBy_alloc W _ r
 have hszW : W.heap.size ≤ W'.heap.size := (hgW none).size
 have HO' : d.Z e W' base ok v xs := by rw [hW']; exact Kd.Z_alloc HO _
 clear HO
 obtain ⟨enc, h1, rfl, hrow⟩ := HO'
 rcases hrow with ⟨rfl, rfl⟩ | ⟨g, cap, C, rfl, hok, hg, hh, hn, hcap, hm, hcell⟩
 ·exact Kd.R_append_step (Kd.scalar enc h1) base hw s x t e z bytes ho ht hinfo hz hs0 hb0 _ [] p cs ok okp hs hx hp hokp hfresh (Kd.R_nil _ _ _ _ _) HB hbase hl (fun v1 w1 q1 q2 q3 q4 => h v1 w1 (Kd.R_Z q1) q2 q3 q4)
 have hcs : cs = [enc p] := hp
 have hnew : W'.cell? (((⟨W.heap.size, 0, none⟩ : Addr)).add 0) = some (enc p) := by
  have h2 := heap_alloc_new W (.cells [enc p].toArray e)
  rw [hW', hcs, Addr.add_lit, Nat.add_zero]
  simp only [World.cell?, h2]
  rfl
 have hinfo' := hinfo
 obtain ⟨i, hi, hzz⟩ := Option.map_eq_some_iff.1 hinfo'
 simp only [Prod.mk.injEq] at hzz
 obtain ⟨hz0, hs1, hb1⟩ := hzz
 have hs1' : i.size = 1 := hs1
 have hlen1 : xs.length + 1 ≤ 140737488355328 := Nat.le_trans (Nat.le_mul_of_pos_right _ hb0) hl
 have key : ∃ v' w', (Builtin.append_ #[t, t] o.type #[.slice (some ⟨g, 0, none⟩) xs.length cap, .slice (some ⟨W.heap.size, 0, none⟩) 1 1]).run P W' = .ok v' w' ∧ (Kd.scalar enc h1).Z e w' base ok v' (xs ++ [p]) ∧ W'.grownBy w' (some g) ∧ (v'.ownBlock = some g ∨ ∃ b, v'.ownBlock = some b ∧ W.heap.size ≤ b) := by
  by_cases hroom : xs.length + 1 ≤ cap
  ·refine ⟨_, _, run_append_in ht hi hs1' hh xs.length hroom hcap (enc p) (h1 p) _ 1 hnew, ⟨enc, h1, rfl, .inr ⟨g, cap, C.setIfInBounds xs.length (enc p), by rw [List.length_append]; rfl, hok, hg, ?_, by rw [List.length_append]; exact hroom, by rw [Array.size_setIfInBounds]; exact hcap, hm, ?_⟩⟩, ⟨rfl, rfl, rfl, ?_, fun k _ hk => Below.heap_setCell _ _ _ k (fun e => hk (by rw [e]))⟩, .inl rfl⟩
   ·obtain ⟨hlt, hk⟩ := Array.getElem?_eq_some_iff.1 hh
    show (W'.heap.modify g _)[g]? = _
    rw [Array.getElem?_eq_getElem (by rw [Array.size_modify]; exact hlt), Array.getElem_modify_self, hk]
    rfl
   ·intro j hj
    rw [List.length_append, List.length_singleton] at hj
    rw [Array.getElem?_setIfInBounds]
    by_cases e : xs.length = j
    ·subst e
     rw [if_pos rfl, if_pos (by omega), List.getElem_concat_length rfl]
    ·rw [if_neg e, List.getElem_append_left (by omega)]
     exact hcell j (by omega)
   ·show W'.heap.size ≤ (W'.heap.modify g _).size
    rw [Array.size_modify]
    exact Nat.le_refl _
  ·obtain ⟨v', w', r1, r2, r3, r4⟩ := run_append_full (P := P) enc h1 (TB := t) (ty := o.type) z bytes ht hinfo hz hb0 g cap xs [p] ⟨enc, h1, rfl, .inr ⟨g, cap, C, rfl, hok, hg, hh, hn, hcap, hm, hcell⟩⟩ (.inl (by simp; omega)) (hfresh _ hszW) ⟨W.heap.size, 0, none⟩ 1 (by
    intro j u hj
    cases j with
    | zero =>
     simp only [List.map_cons, List.map_nil, List.getElem?_cons_zero, Option.some.injEq] at hj
     subst hj
     exact hnew
    | succ j => simp at hj) (by simpa using hl) (by omega)
   exact ⟨v', w', r1, r2, ⟨r3.1, r3.2, r3.3, r3.size, fun k hk _ => r3.block k hk (by simp)⟩, r4.elim (fun h => .inl h) (fun ⟨b, hb, hb2⟩ => .inr ⟨b, hb, by omega⟩)⟩
 obtain ⟨v', w', hrun, r1, r2, r3⟩ := key
 have hB : Below base w0 w' := (HB.grown (hgW none) hbase (fun k e => by cases e)).grown r2 (by omega) (fun k e => by cases e; exact hg)
 have hall := h v' w' r1 hB (World.grownBy.trans (hgW _) r2) r3
 rw [← hW']
 rw [if_pos hw]
 unfold Oper.wp execOp
 simp [ho, resolve, invoke, builtin, hs, hx, hrun, Result.andThen, Sem.run_bind, Sem.run_pure]
 exact hall
theorem Kd.Z_capjoin_step (d : Kd α) {w0 W : World} (base : Nat) (hw : Region.wanted o (yielded ops a.tmps) = true) (s x : Operand) (t e : TypeId) (z : Value) (bytes : Nat) (ho : o.op = .call { callee := .builtin .append, args := #[s, x], argTypes := #[t, t] })
 (ht : P.underlying t = some (.slice e)) (hinfo : (P.info? e).map (fun i => (i.zero, i.size, i.bytes)) = some (some z, d.sz, bytes)) (hz : z.cells.size = d.sz) (hb0 : 0 < bytes) {g n c k m c2 : Nat} {A : Option Addr} {xs : List α} {ok ok' : Nat → Prop}
 (hs : a.eval s = .slice (some ⟨g, 0, none⟩) k k) (hx : a.eval x = .slice A m c2) (hA : A = if c = k + 1 then some ⟨g, 0, none⟩ else (some (⟨g, 0, none⟩ : Addr)).map (·.add ((k + 1) * d.sz))) (hm : m = n - (k + 1))
 (HO : d.Z e W base ok (.slice (some ⟨g, 0, none⟩) n c) xs) (hk : k < n) (HB : Below base w0 W) (hbase : base ≤ W.heap.size) (hl : n * bytes ≤ 140737488355328) (hfresh : ok' W.heap.size) (hok : ∀ k, ok k → ok' k)
 (h : ∀ v1 w1, d.Z e w1 base ok' v1 (xs.eraseIdx k) → Below base w0 w1 → Below W.heap.size W w1 → Kc (a.put o.dst v1) w1) :
 if Region.wanted o (yielded ops a.tmps) = true then Oper.wp P o a W Kc Q else Kc (a.put o.dst undef) W := by
 obtain ⟨enc, h1, rfl, hrow⟩ := HO
 rcases hrow with ⟨hv, _⟩ | ⟨g', cap, C, hv, hokg, hg, hh, hn, hcap, hmax, hcell⟩
 ·cases hv
 injection hv with e1 e2 e3
 injection e1 with e1
 injection e1 with e1
 subst e1 e2 e3
 have hsz : (Kd.scalar enc h1).sz = 1 := rfl
 have hZ : (Kd.scalar enc h1).Z e W base ok' (.slice (some ⟨g, 0, none⟩) (xs.take k).length k) (xs.take k) := by
  refine ⟨enc, h1, rfl, .inr ⟨g, k, C, rfl, hok g hokg, hg, hh, ?_, by omega, by omega, fun j hj => ?_⟩⟩
  ·rw [List.length_take]
   omega
  ·rw [List.length_take] at hj
   rw [List.getElem_take]
   exact hcell j (by omega)
 have hlt : (xs.take k).length = k := by rw [List.length_take]; omega
 have hld : (xs.drop (k + 1)).length = m := by rw [List.length_drop, hm]
 obtain ⟨ad, had, hnews⟩ : ∃ ad, A = some ad ∧ ∀ j u, ((xs.drop (k + 1)).map enc)[j]? = some u → W.cell? (ad.add j) = some u := by
  by_cases hc : c = k + 1
  ·rw [if_pos hc] at hA
   refine ⟨_, hA, fun j u hj => ?_⟩
   rw [List.drop_of_length_le (by omega)] at hj
   simp at hj
  ·rw [if_neg hc] at hA
   refine ⟨_, hA, fun j u hj => ?_⟩
   rw [List.getElem?_map, List.getElem?_drop, Option.map_eq_some_iff] at hj
   obtain ⟨y, hy, rfl⟩ := hj
   obtain ⟨hjl, rfl⟩ := List.getElem?_eq_some_iff.1 hy
   show W.cell? (((⟨g, 0, none⟩ : Addr).add ((k + 1) * (Kd.scalar enc h1).sz)).add j) = _
   rw [hsz, Nat.mul_one, Addr.add_lit, Addr.add_lit, Nat.zero_add]
   simp [World.cell?, hh, hcell _ hjl]
 subst had
 obtain ⟨v', w', r1, r2, r3, _⟩ := run_append_full (P := P) enc h1 (TB := t) (ty := o.type) z bytes ht hinfo hz hb0 g k (xs.take k) (xs.drop (k + 1)) hZ (by
  rcases Nat.eq_zero_or_pos (xs.drop (k + 1)).length with c0 | c0
  ·exact .inr (List.eq_nil_of_length_eq_zero c0)
  ·exact .inl (by omega)) hfresh ad c2 hnews (by rw [hlt, hld, hm]; exact Nat.le_trans (Nat.mul_le_mul_right _ (by omega)) hl) hbase
 rw [← List.eraseIdx_eq_take_drop_succ] at r2
 rw [hlt, hld] at r1
 have hB : Below base w0 w' := HB.grown r3 hbase (fun k e => by cases e)
 have hB2 : Below W.heap.size W w' := (Below.refl _ _).grown r3 (Nat.le_refl _) (fun k e => by cases e)
 have hall := h v' w' r2 hB hB2
 rw [if_pos hw]
 unfold Oper.wp execOp
 simp [ho, resolve, invoke, builtin, hs, hx, r1, Result.andThen, Sem.run_bind, Sem.run_pure]
 exact hall
end
section
variable {P : Program}
theorem cut_cap (t e : TypeId) (kh km : IntKind) {i : TypeInfo} (ht : P.underlying t = some (.slice e)) (hi : P.info? e = some i) (A : Option Addr) (n c : Nat) (j : Int) (h0 : 0 ≤ j) (hm : j ≤ n) (hc : n ≤ c) :
 ∀ W : World, (Instr.slice t (.slice A n c) none (some (.int kh j)) (some (.int km j))).run P W = .ok (.slice A j.toNat j.toNat) W := by
 intro W
 have hel : P.elem t = e := by simp [Program.elem, ht]
 have hu : P.underlying t = some (.slice (P.elem t)) := by rw [hel]; exact ht
 have ha : (A.map fun x => x.add 0) = A := by cases A <;> simp [Addr.add]
 rw [run_slice_hm W t A n c hu kh km j j h0 (by omega) (by omega), hel]
 simp [sizeOf, typeInfo, hi, sliced, Result.andThen, ha]
end
end Go.Proofs.YtghepgcbciikmaaW.PrintWords
