/- The bytes of numbers (package wire): a row of bytes that a call makes out of a text and appends to; the groups of a number, handed out by a function that is ranged over; put, PutInt. -/
import Derived.Test.YtcgpbmafkgbbdaaDoorProg
import Derived.RangeFuncNested
import Derived.RangeFuncBound
import Derived.RangeFuncCalls
import Derived.RangeFuncLeaves
import Derived.Shelf.Abstract
import Derived.Shelf.RegionOpen
import Derived.WalkKit
import Derived.OwnWalkIn
import Derived.TacticsInMore
import Derived.LoopNIn
import Derived.LoopIn
import Derived.Maps.AppendAt
import Derived.Laws.IdiomStrings
import Derived.OpenShut
set_option linter.unusedVariables false
set_option linter.unusedSimpArgs false
namespace Go.Proofs.YtcgpbmafkgbbdaaDoor.Wire
open Go.RowKit Go.Shelf Go.ChangeShapes
attribute [local go_sem] Oper.semAt_some
def BR (W : World) (base : Nat) (v : Value) (l : List UInt8) : Prop :=
 ∃ (C : Array Value) (cap p q g : Nat), v = .slice (some ⟨g, 0, none⟩) l.length cap ∧ base ≤ g ∧ W.heap[g]? = some (.cells C 5 (p, q)) ∧ (∀ j, j < cap → ¬ (p ≤ j ∧ j < q)) ∧ l.length ≤ cap ∧ C.size = cap ∧ cap ≤ maxLen ∧ ∀ (j : Nat) (hj : j < l.length), C[j]? = some (.int .u8 (l[j].toNat : Int))
theorem BR.kept {W W' : World} {base : Nat} {v : Value} {l : List UInt8} {row : Option Nat} (h : BR W base v l) (hg : W.grownBy W' row) (hne : v.ownBlock ≠ row ∨ row = none) : BR W' base v l := by
 obtain ⟨C, cap, p, q, g, rfl, hb, hh, rest⟩ := h
 refine ⟨C, cap, p, q, g, rfl, hb, ?_, rest⟩
 rw [hg.block g (Array.getElem?_eq_some_iff.1 hh).1 ?_]
 ·exact hh
 ·rcases hne with h | h
  ·exact h
  ·rw [h]
   simp
theorem BR.lt {W : World} {base : Nat} {v : Value} {l : List UInt8} (h : BR W base v l) : ∃ g, v.ownBlock = some g ∧ base ≤ g ∧ g < W.heap.size ∧ ∃ C p q, W.heap[g]? = some (.cells C 5 (p, q)) := by
 obtain ⟨C, cap, p, q, g, rfl, hb, hh, _⟩ := h
 exact ⟨g, rfl, hb, (Array.getElem?_eq_some_iff.1 hh).1, C, p, q, hh⟩
theorem BR.alloc {W : World} {base : Nat} {v : Value} {l : List UInt8} (h : BR W base v l) (o : Obj) : BR (W.alloc o) base v l := h.kept (World.grownBy_alloc W o none) (.inr rfl)
theorem BR.spelt {W : World} {base : Nat} {v : Value} {l : List UInt8} (h : BR W base v l) : ∃ g cap, v = .slice (some ⟨g, 0, none⟩) l.length cap := by
 obtain ⟨C, cap, p, q, g, rfl, _⟩ := h
 exact ⟨g, cap, rfl⟩
theorem BR.cell {W : World} {base : Nat} {l : List UInt8} {g cap : Nat} (h : BR W base (.slice (some ⟨g, 0, none⟩) l.length cap) l) (j : Nat) (hj : j < l.length) : W.cell? ⟨g, j, none⟩ = some (.int .u8 (l[j].toNat : Int)) := by
 obtain ⟨C, cap', p, q, g', hv, hb, hh, hf, hl, hs, hm, hc⟩ := h
 have e : g = g' := by injection hv with h1 h2 h3; injection h1 with h1; injection h1
 subst e
 simp [World.cell?, hh, hc j hj]
section
variable {P : Program} {TB : TypeId} {i : TypeInfo}
theorem run_append_byte (ty : TypeId) (ht : P.underlying TB = some (.slice 5)) (hi : P.info? 5 = some i) (hz : i.zero = some (.int .u8 0)) (hs1 : i.size = 1) (hb1 : i.bytes = 1)
 {W : World} {base : Nat} {v : Value} {l : List UInt8} (h : BR W base v l) (b : UInt8) (ad : Addr) (c : Nat) (hc : W.cell? (ad.add 0) = some (.int .u8 (b.toNat : Int))) (hlen : l.length + 1 ≤ 70368744177664) (hbase : base ≤ W.heap.size) :
 ∃ v' w', (Builtin.append_ #[TB, TB] ty #[v, .slice (some ad) 1 c]).run P W = .ok v' w' ∧ BR w' base v' (l ++ [b]) ∧ W.grownBy w' v.ownBlock ∧ (v'.ownBlock = v.ownBlock ∨ v'.ownBlock = some W.heap.size) := by
 obtain ⟨C, cap, p, q, g, rfl, hb, hh, hf, hl, hcs, hm, hcell⟩ := h
 have hnews : ∀ j u, [Value.int .u8 (b.toNat : Int)][j]? = some u → W.cell? (ad.add j) = some u := by
  intro j u hj
  cases j with
  | zero =>
   simp only [List.getElem?_cons_zero, Option.some.injEq] at hj
   subst hj
   exact hc
  | succ j => simp at hj
 have hf1 := run_firstCells_some (P := P) W i.size 1 ad 1 c [Value.int .u8 (b.toNat : Int)] (by rw [hs1]; rfl) hnews
 by_cases hroom : l.length + 1 ≤ cap
 ·have hcl : ∃ x, W.cell? ⟨g, l.length, none⟩ = some x := ⟨C[l.length]'(by omega), by simp [World.cell?, hh, show l.length < C.size by omega]⟩
  obtain ⟨x, hx⟩ := hcl
  have hfr : W.frozen? ⟨g, l.length, none⟩ = false := by
   simp only [World.frozen?, hh]
   have := hf l.length (by omega)
   cases hd : (decide (p ≤ l.length) && decide (l.length < q)) with
   | false => rfl
   | true =>
    rw [Bool.and_eq_true, decide_eq_true_eq, decide_eq_true_eq] at hd
    exact absurd hd this
  have hadd : ∀ k, (⟨g, 0, none⟩ : Addr).add k = ⟨g, k, none⟩ := fun k => by rw [Addr.add_lit, Nat.zero_add]
  have hadd2 : (⟨g, l.length, none⟩ : Addr).add 0 = ⟨g, l.length, none⟩ := by rw [Addr.add_lit, Nat.add_zero]
  refine ⟨.slice (some ⟨g, 0, none⟩) (l.length + 1) cap, W.setCell ⟨g, l.length, none⟩ (.int .u8 (b.toNat : Int)), ?_, ?_, ?_, .inl rfl⟩
  ·have hst : (storeCells ⟨g, l.length, none⟩ [Value.int .u8 (b.toNat : Int)]).run P W = .ok () (W.setCell ⟨g, l.length, none⟩ (.int .u8 (b.toNat : Int))) := by
    simp only [storeCells, Sem.run_bind]
    rw [hadd2, run_store P W _ _ _ (by rfl), hx]
    simp [hfr]
   simp [Builtin.append_, run_underlying ht, sizeOf, typeInfo, hi, Builtin.lenOf, hroom, hf1, hadd, hs1, hst, show (Builtin.firstCells 1 1 (.slice (some ad) 1 c)).run P W = .ok #[Value.int .u8 (b.toNat : Int)] W by rw [hs1] at hf1; exact hf1]
  ·refine ⟨C.setIfInBounds l.length (.int .u8 (b.toNat : Int)), cap, p, q, g, by rw [List.length_append]; rfl, hb, ?_, hf, by rw [List.length_append]; exact hroom, by rw [Array.size_setIfInBounds]; exact hcs, hm, ?_⟩
   ·obtain ⟨hlt, hk⟩ := Array.getElem?_eq_some_iff.1 hh
    show (W.heap.modify g _)[g]? = _
    rw [Array.getElem?_eq_getElem (by rw [Array.size_modify]; exact hlt), Array.getElem_modify_self, hk]
    rfl
   ·intro j hj
    rw [List.length_append, List.length_singleton] at hj
    rw [Array.getElem?_setIfInBounds]
    by_cases e : l.length = j
    ·subst e
     rw [if_pos rfl, if_pos (by omega), List.getElem_concat_length rfl]
    ·rw [if_neg e, List.getElem_append_left (by omega)]
     exact hcell j (by omega)
  ·exact ⟨rfl, rfl, rfl, (KeepsWalks.setCell W _ _).size, fun k _ hk => Below.heap_setCell _ _ _ k (fun e => hk (by rw [e]; rfl))⟩
 ·have hlo : (l.map (fun x : UInt8 => Value.int .u8 (x.toNat : Int))).length = l.length * i.size := by rw [List.length_map, hs1, Nat.mul_one]
  have holds : ∀ j u, (l.map (fun x : UInt8 => Value.int .u8 (x.toNat : Int)))[j]? = some u → W.cell? ((⟨g, 0, none⟩ : Addr).add j) = some u := by
   intro j u hj
   rw [List.getElem?_map, Option.map_eq_some_iff] at hj
   obtain ⟨y, hy, rfl⟩ := hj
   obtain ⟨hj', rfl⟩ := List.getElem?_eq_some_iff.1 hy
   rw [Addr.add_lit, Nat.zero_add]
   simp [World.cell?, hh, hcell j hj']
  have hr := run_append_grow (P := P) W TB ty 5 i (.int .u8 0) ht hi hz ⟨g, 0, none⟩ l.length cap _ hlo holds ad 1 c [Value.int .u8 (b.toNat : Int)] (by rw [hs1]; rfl) hnews (by omega) (by omega) (by rw [hb1]; exact growslice_fits (by omega) (by omega))
  have hge := grownCap_ge W (l.length + 1) cap 5
  refine ⟨_, _, hr, ⟨_, grownCap W (l.length + 1) cap 5, 0, 0, W.heap.size, by rw [List.length_append]; rfl, hbase, heap_alloc_new W.drew _, fun j _ e => by omega, by rw [List.length_append]; exact hge, ?_, grownCap_le_maxLen W _ cap 5 (by simp only [maxLen]; omega), ?_⟩, ⟨rfl, rfl, rfl, by simp, fun k hk _ => heap_alloc_old W.drew _ k hk⟩, .inr rfl⟩
  ·simp only [Array.size_append, List.size_toArray, size_zeroCells, List.length_map, List.length_cons, List.length_nil, Value.cells]
   simp
   omega
  ·intro j hj
   rw [List.length_append, List.length_singleton] at hj
   have e : (l.map (fun x : UInt8 => Value.int .u8 (x.toNat : Int))).toArray ++ [Value.int .u8 (b.toNat : Int)].toArray = ((l ++ [b]).map (fun x : UInt8 => Value.int .u8 (x.toNat : Int))).toArray := by simp
   rw [e, Array.getElem?_append_left (by simp; omega), List.getElem?_toArray, List.getElem?_map, List.getElem?_eq_getElem (by rw [List.length_append, List.length_singleton]; omega)]
   rfl
theorem wpListIn_append_byte {F : Fence} {n : Nat} {ops : Array Oper} {rest : List Oper} {o : Oper} {a : Act} {Q : Exit → Act → World → Prop} {W : World} (hg : o.guard = none) (s x : Operand) (hop : o.op = Op.call { callee := Callee.builtin Builtin.append, args := #[s, x], argTypes := #[TB, TB] })
 (ht : P.underlying TB = some (.slice 5)) (hi : P.info? 5 = some i) (hz : i.zero = some (.int .u8 0)) (hs1 : i.size = 1) (hb1 : i.bytes = 1)
 {base : Nat} {v : Value} {l : List UInt8} (hs : a.eval s = v) (h : BR W base v l) (b : UInt8) (ad : Addr) (c : Nat) (hx : a.eval x = .slice (some ad) 1 c) (hc : W.cell? (ad.add 0) = some (.int .u8 (b.toNat : Int))) (hlen : l.length + 1 ≤ 70368744177664) (hbase : base ≤ W.heap.size)
 (hK : ∀ v' w', BR w' base v' (l ++ [b]) → W.grownBy w' v.ownBlock → (v'.ownBlock = v.ownBlock ∨ v'.ownBlock = some W.heap.size) → wpListIn F n P ops Q rest (a.put o.dst v') w') : wpListIn F n P ops Q (o :: rest) a W := by
 refine wpListIn_plain hg fun K hK' => ?_
 obtain ⟨v', w', hrun, r1, r2, r3⟩ := run_append_byte (P := P) (TB := TB) o.type ht hi hz hs1 hb1 h b ad c hc hlen hbase
 unfold Oper.wpIn
 refine ⟨?_, ?_⟩
 ·simp [Oper.about, hop, resolve, Target.leads, Sem.run_pure]
 ·rw [Oper.semAt_plain F _ _ (by rw [hop]; intro c hc'; cases hc')]
  simp [execOp, hop, resolve, invoke, builtin, hs, hx, hrun, Result.andThen]
  exact hK' _ _ (hK v' w' r1 r2 r3)
end
section
variable {F : Fence} {n : Nat} {P : Program}
theorem range_u {g : Operand} {ps : Array Tmp} {assign body : Code} {Q : Exit → Act → World → Prop} {a : Act} {w : World} (hro : F.round = none) (h1 : 1 ≤ n) {gf : Nat} {lb : Array Value} (hg : a.eval g = .func (.func gf) #[] lb) (hFg : F.fn gf)
 (eg : ∀ args w, (callFunc gf args).run P w = .ok (.enter gf args) w) (hps : ps.size = 1) (Bu N : Nat) (hBu : Bu < w.heap.size) (xs : List UInt8)
 (hseq : ∀ (l : Nat) (J : List UInt8 → World → Prop) (W : World),
  (∀ pre x W1, J pre W1 → pre.length < N → YieldAt F (n - 1 - 1) P l #[.int .u8 (x.toNat : Int)] W1 fun e W' => e = .returned (.bool true) ∧ J (pre ++ [x]) W' ∧ W'.heap[Bu]? = W1.heap[Bu]?) →
  (∀ s W1 v, J s W1 → J s (W1.setCell ⟨Bu, 0, none⟩ v)) → W.heap[Bu]? = w.heap[Bu]? → J [] W →
  CallsIn F (n - 1) P gf (#[.func (.yield l) #[] #[]] ++ lb) W fun e W' => (∃ v, e = .returned v) ∧ J xs W')
 (I : List UInt8 → World → Prop) (hI : OwnFrom w.heap.size I) (hIu : ∀ s W v, I s W → I s (W.setCell ⟨Bu, 0, none⟩ v)) (h0 : I [] w) (a₁ : UInt8 → Act)
 (hassign : ∀ (l : Nat) (x : UInt8) (W : World) (K : Act → World → Prop), K (a₁ x) W → assign.wpIn (F.inRound l) (n - 1 - 1) P (Exit.then K (fun _ _ _ => False)) { tmps := (ps.zip #[.int .u8 (x.toNat : Int)]).foldl (fun t (p, v) => t.setIfInBounds p v) a.tmps, defers := [] } W)
 (hbody : ∀ (l : Nat) (pre : List UInt8) (x : UInt8) (W : World), I pre W → pre.length < N → w.heap.size ≤ W.heap.size → body.wpIn (F.inRound l) (n - 1 - 1) P (fun e _ W' => e = .normal ∧ KeepsOthers W W' ∧ W'.heap[Bu]? = W.heap[Bu]? ∧ I (pre ++ [x]) W') (a₁ x) W)
 (hdone : ∀ (D : Nat) (W : World), w.heap.size ≤ D → I xs W → W.heap[D]? = some (.deferred (some [])) → Q .normal { a with defers := { target := .collected D, args := #[] } :: a.defers } W) :
 (Code.rangeFunc g ps assign body).wpIn F n P Q a w := by
 refine wpIn_rangeFunc fun fn hfn => ?_
 rw [hro]
 obtain ⟨R, hR⟩ : ∃ R : LoopState → Loop, R = fun st => { state := st, pending := none, fn, tmps := a.tmps, params := ps, assign, body, defers := w.heap.size } := ⟨_, rfl⟩
 obtain ⟨W1, hW1⟩ : ∃ W1, (w.alloc (.deferred (some []))).alloc (.loop (R .ready)) = W1 := ⟨_, rfl⟩
 have s1 : W1.heap.size = w.heap.size + 2 := by rw [← hW1]; simp
 have f1 : W1.heap[w.heap.size + 1]? = some (.loop (R .ready)) := by
  rw [← hW1]
  have := World.alloc_heap_new (w.alloc (.deferred (some []))) (.loop (R .ready))
  rwa [World.size_alloc] at this
 have f2 : W1.heap[w.heap.size]? = some (.deferred (some [])) := by
  rw [← hW1]
  exact (Below.heap_alloc _ _ _ (by simp)).trans (World.alloc_heap_new w _)
 have f3 : I [] W1 := by rw [← hW1]; exact hI.alloc _ (hI.alloc _ h0)
 have f4 : W1.heap[Bu]? = w.heap[Bu]? := by
  rw [← hW1]
  exact (Below.heap_alloc _ _ _ (by simp; omega)).trans (Below.heap_alloc _ _ _ hBu)
 refine ⟨w.heap.size + 1, [{ target := .collected w.heap.size, args := #[] }], W1, { target := .fn (.func gf) lb, args := #[.func (.yield (w.heap.size + 1)) #[] #[]] }, W1, gf, #[.func (.yield (w.heap.size + 1)) #[] #[]] ++ lb, W1, ?_, ?_, ?_, ?_, fun _ => h1, ?_⟩
 ·rw [← hW1, hR]
  exact run_enterLoop_outer _ _ _ _ _
 ·simp only [resolve, hg]
  simp [go_sem]
 ·intro f' hf'
  simp [Target.leads] at hf'
  subst hf'
  exact hFg
 ·simp [invoke, go_sem, eg]
 ·refine (hseq (w.heap.size + 1) (fun pre W => I pre W ∧ w.heap.size ≤ W.heap.size ∧ W.heap[w.heap.size + 1]? = some (.loop (R .ready)) ∧ W.heap[w.heap.size]? = some (.deferred (some []))) W1 ?_ ?_ f4 ⟨f3, by omega, f1, f2⟩).mono ?_
  ·rintro pre x W ⟨hi, hsz, hl, hk⟩ hlen
   have hlt : w.heap.size + 1 < W.heap.size := (Array.getElem?_eq_some_iff.1 hl).1
   have hy := run_yield (P := P) (args := #[.int .u8 (x.toNat : Int)]) hl (by rw [hR]; simp [hps])
   rw [hR] at hy
   refine ⟨fn, _, assign, body, hy, roundIn_of_wpIn hfn (hassign _ x W _ ⟨_, run_beginRound hl (by rw [hR]), ?_⟩)⟩
   have hB : (W.putObj (w.heap.size + 1) (.loop { R .ready with state := .busy })) = W.putObj (w.heap.size + 1) (.loop (R .busy)) := by rw [hR]
   rw [hB]
   have hl2 : (W.putObj (w.heap.size + 1) (.loop (R .busy))).heap[w.heap.size + 1]? = some (.loop (R .busy)) := World.putObj_heap_same hlt
   have hk2 : (W.putObj (w.heap.size + 1) (.loop (R .busy))).heap[w.heap.size]? = some (.deferred (some [])) := (World.putObj_heap_other (by omega)).trans hk
   have hu2 : (W.putObj (w.heap.size + 1) (.loop (R .busy))).heap[Bu]? = W.heap[Bu]? := World.putObj_heap_other (by omega)
   refine wpIn_mono (hbody _ pre x _ (hI.putObj _ hi (by omega) hl rfl) hlen (by simp; omega)) ?_
   rintro e a3 W3 ⟨rfl, hk3, hu3, hi3⟩
   have hl3 := hk3.same _ _ hl2 rfl
   have hr := run_endRound (P := P) none hl3
   have hE : (W3.putObj (w.heap.size + 1) (.loop { R .busy with state := if (none : Option Code).isNone then .ready else .done, pending := none })) = W3.putObj (w.heap.size + 1) (.loop (R .ready)) := by rw [hR]; rfl
   rw [hE] at hr
   have hlt3 := (Array.getElem?_eq_some_iff.1 hl3).1
   refine ⟨_, _, hr, rfl, ⟨hI.putObj _ hi3 (by omega) hl3 rfl, by simp; omega, World.putObj_heap_same hlt3, (World.putObj_heap_other (by omega)).trans (hk3.same _ _ hk2 rfl)⟩, ?_⟩
   exact (World.putObj_heap_other (by omega)).trans (hu3.trans hu2)
  ·rintro s W v ⟨hi, hsz, hl, hk⟩
   exact ⟨hIu s W v hi, Nat.le_trans hsz (KeepsWalks.setCell W _ v).size, (KeepsOthers.setCell W _ v).same _ _ hl rfl, (KeepsOthers.setCell W _ v).same _ _ hk rfl⟩
  ·rintro e W2 ⟨⟨v, rfl⟩, hi, hsz, hl, hk⟩
   refine ⟨none, _, by have := run_endLoop (P := P) hl (by rw [hR]; simp); rw [hR] at this; exact this, ?_⟩
   refine hdone _ _ (Nat.le_refl _) (hI.putObj _ hi (by omega) hl rfl) ((World.putObj_heap_other (by omega)).trans hk)
end
def grp (u : Nat) : List UInt8 := if h : 127 < u then UInt8.ofNat (u % 128 + 128) :: grp (u / 128) else [UInt8.ofNat u]
termination_by u
decreasing_by omega
theorem grp_more {u : Nat} (h : 127 < u) : grp u = UInt8.ofNat (u % 128 + 128) :: grp (u / 128) := by rw [grp, dif_pos h]
theorem grp_last {u : Nat} (h : ¬ 127 < u) : grp u = [UInt8.ofNat u] := by rw [grp, dif_neg h]
theorem bits_grp : ∀ m : Nat, m < 256 → bits BinOp.or IntKind.u8 (m : Int) 128 = ((m % 128 + 128 : Nat) : Int) := by decide +kernel
theorem grp_byte (v : Nat) : ((UInt8.ofNat (v % 128 + 128)).toNat : Int) = bits BinOp.or IntKind.u8 ((v : Int) % 256) 128 := by
 rw [show ((v : Int) % 256) = ((v % 256 : Nat) : Int) by omega, bits_grp _ (Nat.mod_lt _ (by decide)), UInt8.toNat_ofNat']
 omega
set_option maxRecDepth 100000 in
set_option maxHeartbeats 1000000 in
theorem groups1_in (F : Fence) (n : Nat) (hF : F.fn 90) (hro : F.round = none) (hn : 1 ≤ n) (l Bu : Nat) (u : Nat) (hu : u < 18446744073709551616) (J : List UInt8 → World → Prop) (W : World)
 (hY : ∀ pre x W1, J pre W1 → pre.length < (grp u).length → YieldAt F (n - 1) Tryd.prog l #[.int .u8 (x.toNat : Int)] W1 fun e W' => e = .returned (.bool true) ∧ J (pre ++ [x]) W' ∧ W'.heap[Bu]? = W1.heap[Bu]?)
 (hJ : ∀ s W1 v, J s W1 → J s (W1.setCell ⟨Bu, 0, none⟩ v)) (hB : W.heap[Bu]? = some (.cells #[.int .u64 (u : Int)] 109 (0, 0))) (h0 : J [] W) :
 CallsIn F n Tryd.prog 90 #[.func (.yield l) #[] #[], .pointer (some ⟨Bu, 0, none⟩)] W fun e W' => (∃ v, e = .returned v) ∧ J (grp u) W' := by
 refine callsIn_of_wp Tryd.func90 rfl hF ?_ hro
 simp only [Tryd.ntmps90, List.size_toArray, List.length_cons, List.length_nil, Nat.reduceAdd, Nat.reduceSub, Array.replicate_succ, Array.replicate_zero, List.push_toArray, List.append_toArray, List.nil_append, List.cons_append]
 gi_wp2
 gi_loopw [] (fun wr => ∃ (pre : List UInt8) (v : Nat), grp u = pre ++ grp v ∧ v ≤ u ∧ wr.heap[Bu]? = some (.cells #[.int .u64 (v : Int)] 109 (0, 0)) ∧ J pre wr)
  (fun wr => (intOf ((wr.cell? ⟨Bu, 0, none⟩).getD undef)).toNat)
 case atStart =>
  exact ⟨[], u, rfl, Nat.le_refl _, hB, h0⟩
 case round =>
  obtain ⟨pre, v, hg, hv, hb, hj⟩ := hrel
  have hc : wr.cell? ⟨Bu, 0, none⟩ = some (.int .u64 (v : Int)) := by simp [World.cell?, hb]
  by_cases c : 127 < v
  ·have c' : (127 : Int) < (v : Int) := by omega
   obtain ⟨fn, tmps, assign, body, hy, hR⟩ := hY pre (UInt8.ofNat (v % 128 + 128)) wr hj (by rw [hg, grp_more c]; simp)
   rw [grp_byte] at hy
   gi_wp2
   refine hR.mono ?_
   rintro e W3 ⟨rfl, hJ3, hk3⟩
   have hc3 : W3.cell? ⟨Bu, 0, none⟩ = some (.int .u64 (v : Int)) := by simp [World.cell?, hk3, hb]
   have hf3 : W3.frozen? ⟨Bu, 0, none⟩ = false := by simp [World.frozen?, hk3, hb]
   gi_wp2
   go_roundw
   case rel =>
    refine ⟨pre ++ [UInt8.ofNat (v % 128 + 128)], v / 128, by rw [hg, grp_more c, List.append_assoc]; rfl, by omega, ?_, hJ _ _ _ hJ3⟩
    rw [← hk3] at hb
    obtain ⟨hlt, hk⟩ := Array.getElem?_eq_some_iff.1 hb
    show (W3.heap.modify Bu _)[Bu]? = _
    rw [Array.getElem?_eq_getElem (by rw [Array.size_modify]; exact hlt), Array.getElem_modify_self, hk]
    rfl
   case measure =>
    rw [World.cell?_setCell_same' _ _ _ (by rw [hc3]; rfl), hc]
    simp only [Option.getD_some, intOf]
    omega
  ·have c' : ¬ (127 : Int) < (v : Int) := by omega
   obtain ⟨fn, tmps, assign, body, hy, hR⟩ := hY pre (UInt8.ofNat v) wr hj (by rw [hg, grp_last c]; simp)
   rw [show ((UInt8.ofNat v).toNat : Int) = (v : Int) by rw [UInt8.toNat_ofNat']; omega] at hy
   gi_wp2
   refine hR.mono ?_
   rintro e W3 ⟨rfl, hJ3, hk3⟩
   gi_wp2
   go_end0
   exact ⟨⟨_, rfl⟩, by rw [hg, grp_last c]; exact hJ3⟩
def zigI (x : Int) : Int := bits BinOp.xor IntKind.u64 (IntKind.u64.wrap (IntKind.u64.wrap x * 2)) (IntKind.u64.wrap (x / 9223372036854775808))
def zig (x : Int) : Nat := (zigI x).toNat
theorem zigI_rng (x : Int) : 0 ≤ zigI x ∧ zigI x < 18446744073709551616 := by
 have h := wf_bits BinOp.xor IntKind.u64 (IntKind.u64.wrap (IntKind.u64.wrap x * 2)) (IntKind.u64.wrap (x / 9223372036854775808))
 simp [Lit.wf, IntKind.min, IntKind.max, IntKind.bits, IntKind.signed] at h
 unfold zigI
 omega
theorem zig_cast (x : Int) : (zig x : Int) = zigI x := by
 have := zigI_rng x
 unfold zig
 omega
theorem zig_lt (x : Int) : zig x < 18446744073709551616 := by
 have := zigI_rng x
 unfold zig
 omega
theorem grp_len : ∀ (k u : Nat), u < 128 ^ k * 128 → (grp u).length ≤ k + 1
 | 0, u, h => by
  rw [grp_last (by omega)]
  simp
 | k + 1, u, h => by
  by_cases c : 127 < u
  ·rw [grp_more c, List.length_cons]
   have := grp_len k (u / 128) (by rw [Nat.pow_succ] at h; omega)
   omega
  ·rw [grp_last c]
   simp
theorem grp_zig (x : Int) : (grp (zig x)).length ≤ 10 := grp_len 9 _ (Nat.lt_trans (zig_lt x) (by decide))
set_option maxHeartbeats 1000000 in
theorem groups_in (F : Fence) (n : Nat) (hF : F.fn 88) (hro : F.round = none) (u : Int) (w : World) :
 CallsIn F n Tryd.prog 88 #[.int .u64 u] w fun e w' => e = .returned (.func (.func 90) #[] #[.pointer (some ⟨w.heap.size, 0, none⟩)]) ∧ w' = w.alloc (.cells #[.int .u64 u] 109) := by
 refine callsIn_of_wp Tryd.func88 rfl hF ?_ hro
 simp only [Tryd.ntmps88, List.size_toArray, List.length_cons, List.length_nil, Nat.reduceAdd, Nat.reduceSub, Array.replicate_succ, Array.replicate_zero, List.push_toArray, List.append_toArray, List.nil_append, List.cons_append]
 gi_wp2
 go_ret
 exact ⟨rfl, rfl⟩
theorem info8 : (Tryd.prog.info? 5).map (fun i => (i.zero, i.size, i.bytes)) = some (some (.int .u8 0), 1, 1) := by kernel_rfl
set_option maxRecDepth 100000 in
set_option maxHeartbeats 2000000 in
theorem put.calls (v : Value) (l : List UInt8) (x : Int) (w : World) (base : Nat) (h : BR w base v l) (hbase : base ≤ w.heap.size) (hlen : l.length ≤ 35184372088832) :
 Calls Tryd.prog 81 #[v, .int .i64 x] w fun e w' => ∃ v', e = .returned v' ∧ BR w' base v' (l ++ grp (zig x)) ∧ Below base w w' := by
 refine (callsIn_wide (n := 3)).1 ?_
 refine callsIn_of_wp_marks Tryd.func81 rfl trivial ?_ rfl
 simp only [Tryd.ntmps81, List.size_toArray, List.length_cons, List.length_nil, Nat.reduceAdd, Nat.reduceSub, Array.replicate_succ, Array.replicate_zero, List.push_toArray, List.append_toArray, List.nil_append, List.cons_append]
 obtain ⟨g, cap, rfl⟩ := h.spelt
 gi_wp2_with (refine ⟨trivial, ?_⟩; gi_at_call 88; refine (groups_in Fence.wide _ trivial rfl _ _).mono ?_; rintro e w' ⟨rfl, rfl⟩)
 rw [show bits BinOp.xor IntKind.u64 (IntKind.u64.wrap (IntKind.u64.wrap x * 2)) (IntKind.u64.wrap (x / 9223372036854775808)) = (zig x : Int) from (zig_cast x).symm]
 obtain ⟨W0, hW0⟩ : ∃ W0, (w.alloc (.cells #[.slice (some ⟨g, 0, none⟩) l.length cap] 110)).alloc (.cells #[.int .u64 (zig x : Int)] 109) = W0 := ⟨_, rfl⟩
 rw [hW0]
 have hsz : W0.heap.size = w.heap.size + 2 := by rw [← hW0]; simp
 have hB0 : Below base w W0 := by rw [← hW0]; exact ((Below.refl base w).alloc hbase _).alloc (by simp; omega) _
 have hBx : Boxed W0 w.heap.size 110 (.slice (some ⟨g, 0, none⟩) l.length cap) := by rw [← hW0]; exact (Boxed.new w _ _).alloc _
 have hUx : W0.heap[w.heap.size + 1]? = some (.cells #[.int .u64 (zig x : Int)] 109 (0, 0)) := by
  rw [← hW0]
  have := World.alloc_heap_new (w.alloc (.cells #[.slice (some ⟨g, 0, none⟩) l.length cap] 110)) (.cells #[.int .u64 (zig x : Int)] 109)
  rwa [World.size_alloc] at this
 have hr0 : BR W0 base (.slice (some ⟨g, 0, none⟩) l.length cap) l := by rw [← hW0]; exact (h.alloc _).alloc _
 obtain ⟨gg, e1, hgb, hglt, _⟩ := h.lt
 have eg : g = gg := by simpa [Value.ownBlock] using e1
 subst eg
 obtain ⟨i0, hi, hz0, hz1, hz2⟩ := info_parts info8
 have hlz := grp_zig x
 refine range_u rfl (by omega) (gf := 90) (lb := #[.pointer (some ⟨w.heap.size + 1, 0, none⟩)]) rfl trivial (enters_of Tryd.func90 (by kernel_rfl) rfl) rfl (w.heap.size + 1) (grp (zig x)).length (by omega) (grp (zig x))
  (fun l J W hY hJ hb h0 => groups1_in Fence.wide _ trivial rfl (by omega) l (w.heap.size + 1) (zig x) (zig_lt x) J W hY hJ (hb.trans hUx) h0)
  (fun pre W => (∃ v, Boxed W w.heap.size 110 v ∧ BR W base v (l ++ pre) ∧ v.ownBlock ≠ some (w.heap.size + 1) ∧ v.ownBlock ≠ some w.heap.size) ∧ Below base w W)
  ?hI ?hIu ⟨⟨_, hBx, by rw [List.append_nil]; exact hr0, by simp [Value.ownBlock]; omega, by simp [Value.ownBlock]; omega⟩, hB0⟩
  (fun b => { tmps := #[.slice (some ⟨g, 0, none⟩) l.length cap, .int .i64 x, .pointer (some ⟨w.heap.size, 0, none⟩), undef, .slice none 0 0, .int .u8 (b.toNat : Int), .int .i64 x, .int .u64 (IntKind.u64.wrap x), .int .u64 (IntKind.u64.wrap (IntKind.u64.wrap x * 2)), .int .i64 x, .int .i64 (x / 9223372036854775808), .int .u64 (IntKind.u64.wrap (x / 9223372036854775808)), .int .u64 (zig x : Int), .func (.func 90) #[] #[.pointer (some ⟨w.heap.size + 1, 0, none⟩)], .int .u8 (b.toNat : Int), undef, undef, undef, undef, undef], defers := [] }) ?assign ?body ?done
 case hI =>
  refine OwnFrom.and (fun s A B row hs hg hr => ?_) (fun s A B row hs hg hr => ?_)
  ·obtain ⟨v, h1, h2, h3, h4⟩ := hs
   refine ⟨v, h1.kept hg (fun e => ?_), h2.kept hg (.inl fun e => ?_), h3, h4⟩
   ·obtain ⟨_, o, ho, hc⟩ := hr _ e.symm
    rw [show A.heap[w.heap.size]? = _ from h1] at ho
    cases ho
    cases hc
   ·obtain ⟨k, e2, _, _, C, p, q, hk⟩ := h2.lt
    obtain ⟨_, o, ho, hc⟩ := hr k (by rw [← e, e2])
    rw [hk] at ho
    cases ho
    cases hc
  ·exact hs.grown hg (by have := hs.size; omega) (fun k e => by have := (hr k e).1; omega)
 case hIu =>
  rintro s W v ⟨⟨u, h1, h2, h3, h4⟩, h5⟩
  refine ⟨⟨u, (Below.heap_setCell W ⟨w.heap.size + 1, 0, none⟩ v w.heap.size (by simp)).trans h1, h2.kept (grownBy_setCell' W _ v) (.inl h3), h3, h4⟩, h5.setCell (p := ⟨w.heap.size + 1, 0, none⟩) (by simp; omega) v⟩
 case assign =>
  intro l x W K hK
  gi_wp2
  exact hK
 case body =>
  rintro l2 pre b W ⟨⟨v, hv, hrow, hn1, hn2⟩, hB⟩ hlt hW
  have hc := hv.cell
  have hf := hv.frozen
  gi_wp2_with (gi_at_builtin; refine wpListIn_append_byte (TB := 110) (base := base) rfl _ _ rfl Tryd.underlying110 hi hz0 hz1 hz2 rfl (hrow.alloc _) b ⟨W.heap.size, 0, none⟩ 1 rfl (by rw [Addr.add_lit]; exact (cell_one_new _ _ _) 0 _ rfl) (by rw [List.length_append]; omega) (by have := hB.size; simp; omega) ?_; intro v' w1 hown' hgrow hob; have hgrow2 : (W.alloc (.cells #[.int .u8 (b.toNat : Int)] 5)).grownBy w1 v.ownBlock := hgrow; have hv1 := (hv.alloc _).kept hgrow2 (Ne.symm hn2); have hc1 := hv1.cell; have hf1 := hv1.frozen; obtain ⟨g', cap', rfl⟩ := hown'.spelt; have hob2 : some g' = v.ownBlock ∨ some g' = some (W.alloc (.cells #[.int .u8 (b.toNat : Int)] 5)).heap.size := hob; clear hob hgrow)
  have el : l.length + (pre.length + 1) = (l ++ pre ++ [b]).length := by simp <;> omega
  rw [el]
  have hu1 : w1.heap[w.heap.size + 1]? = W.heap[w.heap.size + 1]? := (hgrow2.block _ (by simp <;> omega) (Ne.symm hn1)).trans (Below.heap_alloc _ _ _ (by omega))
  refine ⟨?_, ?_, ⟨_, hv1.set _, ?_, ?_, ?_⟩, ?_⟩
  ·refine ((KeepsOthers.alloc W _).trans (KeepsOthers.of_grownBy hgrow2 fun j o ej hj => ?_)).trans (KeepsOthers.setCell _ _ _)
   obtain ⟨k, e2, _, _, C, p, q, hk⟩ := (hrow.alloc (.cells #[.int .u8 (b.toNat : Int)] 5)).lt
   rw [e2] at ej
   cases ej
   rw [hk] at hj
   cases hj
   rfl
  ·exact (Below.heap_setCell _ _ _ _ (by simp)).trans hu1
  ·rw [← List.append_assoc]
   refine hown'.kept (grownBy_setCell' w1 _ _) (.inl ?_)
   show some g' ≠ some w.heap.size
   rcases hob2 with e | e
   ·rw [e]
    exact hn2
   ·rw [e]
    simp
    omega
  ·show some g' ≠ some (w.heap.size + 1)
   rcases hob2 with e | e
   ·rw [e]
    exact hn1
   ·rw [e]
    simp
    omega
  ·show some g' ≠ some w.heap.size
   rcases hob2 with e | e
   ·rw [e]
    exact hn2
   ·rw [e]
    simp
    omega
  ·refine ((hB.alloc (by have := hB.size; omega) _).grown hgrow2 (by have := hB.size; simp; omega) (fun k e => ?_)).setCell (p := ⟨w.heap.size, 0, none⟩) hbase _
   obtain ⟨k', e2, hb', _⟩ := hrow.lt
   rw [e2] at e
   cases e
   exact hb'
 case done =>
  rintro D W hD ⟨⟨v, hv, hrow, hn1, hn2⟩, hB⟩ hK
  have hc := hv.cell
  gi_wp2
  refine ⟨by simp, .inl ⟨_, _, rfl, run_takeDeferred hK, ?_⟩⟩
  obtain ⟨k, e2, _, _, C, p, q, hk⟩ := hrow.lt
  refine ⟨_, results_tmp rfl _ _ _, v, rfl, hrow.kept (grownBy_putObj' W D _) (.inl fun e => ?_), hB.grown (grownBy_putObj' W D _) (by have := hB.size; omega) (fun k e => by cases e; omega)⟩
  rw [e2] at e
  cases e
  rw [hk] at hK
  cases hK
end Go.Proofs.YtcgpbmafkgbbdaaDoor.Wire
