/- Writing into a row of the call's own, cell by cell: the block behind it; 'clear' and 'copy' at elements of several cells; an own row as its block. -/
import Derived.Test.YtpifbgkppfginaaMine
import Derived.Test.YtpifbgkppfginaaWKept
import Derived.Laws.CopyRow
import Derived.Laws.CopyOwn
import Derived.Deep.RegionLaw
import Derived.Lib.SliceRun
import Derived.Lib.Overlaps
import Derived.Laws.Externs
import Derived.Lib.AppendZeros
import Derived.Lib.AppendZerosOnto
import Derived.Laws.Append
set_option linter.unusedVariables false
set_option linter.unusedSimpArgs false
namespace Go.Proofs.YtpifbgkppfginaaW.PrintWords
open Go.RowKit
section
variable {P : Program} {w w' : World}
def over (cur : List Value) (o : Nat) (vs : List Value) : List Value := cur.take o ++ vs ++ cur.drop (o + vs.length)
theorem over_len (cur : List Value) (o : Nat) (vs : List Value) (h : o + vs.length ≤ cur.length) : (over cur o vs).length = cur.length := by simp [over]; omega
theorem setCells_as_row (b : Nat) (e : TypeId) : ∀ (vs : List Value) (o : Nat) (cur : List Value) (w : World), w.heap[b]? = some (.cells cur.toArray e (0, 0)) → o + vs.length ≤ cur.length → w.setCells b o vs = w.setRow b (over cur o vs).toArray
 | [], o, cur, w, hb, _ => by
  have := setRow_self w b cur.toArray e (0, 0) hb
  simp [over, World.setCells, this]
 | v :: r, o, cur, w, hb, hl => by
  rw [World.setCells, setCell_eq_setRow w b o cur.toArray e (0, 0) v hb]
  have h2 := setRow_heap w b cur.toArray (cur.toArray.setIfInBounds o v) e (0, 0) hb
  have h3 : (cur.toArray.setIfInBounds o v) = (cur.set o v).toArray := by simp
  rw [h3] at h2 ⊢
  rw [setCells_as_row b e r (o + 1) (cur.set o v) _ h2 (by simp at hl ⊢; omega), setRow_setRow]
  congr 2
  have := list_seg_step cur o v r (by simp at hl; omega)
  simpa [over] using this
theorem setCells_heap {b : Nat} {e : TypeId} {cur : List Value} (hb : w.heap[b]? = some (.cells cur.toArray e (0, 0))) (o : Nat) (vs : List Value) (hl : o + vs.length ≤ cur.length) :
 (w.setCells b o vs).heap[b]? = some (.cells (over cur o vs).toArray e (0, 0)) := by
 rw [setCells_as_row b e vs o cur w hb hl]
 exact setRow_heap w b cur.toArray _ e (0, 0) hb
theorem setCells_grown {b : Nat} {e : TypeId} {cur : List Value} (hb : w.heap[b]? = some (.cells cur.toArray e (0, 0))) (o : Nat) (vs : List Value) (hl : o + vs.length ≤ cur.length) : w.grownBy (w.setCells b o vs) (some b) := by
 rw [setCells_as_row b e vs o cur w hb hl]
 exact ⟨rfl, rfl, rfl, by simp [World.setRow], fun k _ hk => setRow_other w b k _ (fun h => hk (by rw [h]))⟩
theorem over_take (cur : List Value) (o : Nat) (vs : List Value) (h : o ≤ cur.length) : (over cur o vs).take o = cur.take o := by
 unfold over
 rw [List.append_assoc, List.take_append_of_le_length (by rw [List.length_take]; omega), List.take_take, Nat.min_self]
theorem over_take2 (cur : List Value) (o m : Nat) (vs : List Value) (h : o ≤ cur.length) (hm : m = o + vs.length) : (over cur o vs).take m = cur.take o ++ vs := by
 subst hm
 unfold over
 rw [List.take_append_of_le_length (by rw [List.length_append, List.length_take]; omega), List.take_of_length_le (by rw [List.length_append, List.length_take]; omega)]
theorem grown2 {w a b : World} {r : Option Nat} (h : w.grownBy a r) (k : a.grownBy b r) : w.grownBy b r :=
 ⟨k.os.trans h.os, k.tape.trans h.tape, k.output.trans h.output, Nat.le_trans h.size k.size, fun i hi hn => (k.block i (Nat.lt_of_lt_of_le hi h.size) hn).trans (h.block i hi hn)⟩
theorem grown_drew (w : World) (r : Option Nat) : w.grownBy w.drew r := ⟨rfl, rfl, rfl, Nat.le_refl _, fun _ _ _ => rfl⟩
theorem kept_grown {w w' : World} {g : Nat} {S : Nat → Prop} (h : w.grownBy w' (some g)) (hg : S g) : Kept w w' S := ⟨h.size, fun i hi hn => h.block i hi (fun e => hn (by injection e with e; exact e ▸ hg))⟩
theorem below_grown {w0 w w' : World} {g : Nat} (h : Below w0.heap.size w0 w) (k : w.grownBy w' (some g)) (hg : w0.heap.size ≤ g) : Below w0.heap.size w0 w' := pw_below_grown h _ h.size k (fun k hk => by injection hk with hk; exact hk ▸ hg)
theorem cellAt {b : Nat} {e : TypeId} {cur : List Value} (hb : w.heap[b]? = some (.cells cur.toArray e (0, 0))) (o : Nat) (h : o < cur.length) : w.cell? ⟨b, o, none⟩ = some cur[o] := by simp [World.cell?, hb, h]
theorem frozenAt {b : Nat} {e : TypeId} {cur : List Value} (hb : w.heap[b]? = some (.cells cur.toArray e (0, 0))) (o : Nat) : w.frozen? ⟨b, o, none⟩ = false := by simp [World.frozen?, hb]
theorem run_clear_row {b : Nat} {e0 : TypeId} {cur : List Value} (hb : w.heap[b]? = some (.cells cur.toArray e0 (0, 0))) (t e : TypeId) (z : Value) (ht : P.underlying t = some (.slice e)) (hv : (zeroValue e).run P w = .ok z w) (h1 : ∀ u ∈ z.cells, u.oneCell' = true) (o n c : Nat) (hl : o + n * z.cells.size ≤ cur.length) :
 ∃ zs, zs.length = n * z.cells.size ∧ ∀ ty, (Builtin.clear_ #[t] ty #[.slice (some ⟨b, o, none⟩) n c]).run P w = .ok (.tuple #[]) (w.setCells b o zs) := by
 have hlen : (Builtin.zeroCells z.cells n).toList.length = n * z.cells.size := by simp [Builtin.zeroCells]
 by_cases hn : n = 0
 ·subst hn
  refine ⟨[], by simp, fun ty => ?_⟩
  simp [Builtin.clear_, run_underlying ht, World.setCells]
 ·refine ⟨_, hlen, fun ty => ?_⟩
  have hone : ∀ u ∈ (Builtin.zeroCells z.cells n).toList, u.oneCell' = true := by
   intro u hu
   simp only [Builtin.zeroCells, Array.toList_map, List.mem_map] at hu
   obtain ⟨i, _, rfl⟩ := hu
   by_cases hz : i % z.cells.size < z.cells.size
   ·rw [getElem!_pos z.cells _ hz]
    exact h1 _ (Array.getElem_mem hz)
   ·have : z.cells.size = 0 := by
     rcases Nat.eq_zero_or_pos z.cells.size with h | h
     ·exact h
     ·exact absurd (Nat.mod_lt i h) hz
    rename_i hmem
    simp [this] at hmem
  have hst := run_storeCells_cells (P := P) b o (Builtin.zeroCells z.cells n).toList 0 w (fun j hj => by rw [Nat.add_zero, cellAt hb _ (by omega)]; rfl) (fun j _ => by rw [Nat.add_zero, frozenAt hb]) hone
  simp only [Nat.add_zero] at hst
  obtain ⟨m, rfl⟩ : ∃ m, n = m + 1 := ⟨n - 1, by omega⟩
  simp [Builtin.clear_, run_underlying ht, hv, hst]
theorem run_copy_rows {b : Nat} {e0 : TypeId} {cur : List Value} (hb : w.heap[b]? = some (.cells cur.toArray e0 (0, 0))) (dT sT ty elem : TypeId) (size : Nat) (hu : P.underlying dT = some (.slice elem)) (hs : (P.info? elem).map (·.size) = some size)
 (o dLen dCap : Nat) (a : Addr) (sLen sCap : Nat) (cs : List Value) (hn : cs.length = Nat.min sLen dLen * size) (hsrc : ∀ j v, cs[j]? = some v → w.cell? (a.add j) = some v) (hfit : o + cs.length ≤ cur.length) (h1 : ∀ v ∈ cs, v.oneCell' = true) :
 (Builtin.copy_ #[dT, sT] ty #[.slice (some ⟨b, o, none⟩) dLen dCap, .slice (some a) sLen sCap]).run P w = .ok (goInt (Nat.min sLen dLen)) (w.setCells b o cs) := by
 have hl := run_loadCells_list (P := P) w a cs hsrc
 have hst := run_storeCells_cells (P := P) b o cs 0 w (fun j hj => by rw [Nat.add_zero, cellAt hb _ (by omega)]; rfl) (fun j _ => by rw [Nat.add_zero, frozenAt hb]) h1
 simp only [Nat.add_zero] at hst
 cases hq : P.info? elem with
 | none => simp [hq] at hs
 | some i =>
  have hi : i.size = size := by simpa [hq] using hs
  simp [Builtin.copy_, run_underlying hu, Builtin.lenOf, Builtin.firstCells, sizeOf, typeInfo, hq, hi, ← hn, hl, hst]
structure Flat {α : Type} (d : Kd α) (enc : α → List Value) : Prop where
 len : ∀ x, (enc x).length = d.sz
 out : ∀ {w base ok x cs}, d.M w base ok x cs → cs = enc x
 inn : ∀ w base ok x, d.M w base ok x (enc x)
 pos : 0 < d.sz
def flat {α : Type} (enc : α → List Value) (xs : List α) : List Value := xs.flatMap enc
section
variable {α : Type} {d : Kd α} {enc : α → List Value}
theorem flat_cons (x : α) (xs : List α) : flat enc (x :: xs) = enc x ++ flat enc xs := rfl
theorem flat_append (xs ys : List α) : flat enc (xs ++ ys) = flat enc xs ++ flat enc ys := List.flatMap_append
theorem Flat.flat_len (F : Flat d enc) : ∀ xs : List α, (flat enc xs).length = xs.length * d.sz
 | [] => by simp [flat]
 | x :: xs => by rw [flat_cons, List.length_append, F.len, F.flat_len xs, List.length_cons, Nat.succ_mul, Nat.add_comm]
theorem Flat.flat_take (F : Flat d enc) : ∀ (xs : List α) (i : Nat), (flat enc xs).take (i * d.sz) = flat enc (xs.take i)
 | [], i => by simp [flat]
 | x :: xs, 0 => by simp [flat]
 | x :: xs, i + 1 => by
  rw [flat_cons, List.take_succ_cons, flat_cons, Nat.succ_mul, Nat.add_comm, List.take_append, F.len, Nat.add_sub_cancel_left, F.flat_take xs i, List.take_of_length_le (by rw [F.len]; omega)]
theorem Flat.flat_drop (F : Flat d enc) : ∀ (xs : List α) (i : Nat), (flat enc xs).drop (i * d.sz) = flat enc (xs.drop i)
 | [], i => by simp [flat]
 | x :: xs, 0 => by simp
 | x :: xs, i + 1 => by
  rw [flat_cons, List.drop_succ_cons, Nat.succ_mul, Nat.add_comm, List.drop_append, F.len, Nat.add_sub_cancel_left, F.flat_drop xs i, List.drop_of_length_le (by rw [F.len]; omega), List.nil_append]
theorem Flat.of_reps (F : Flat d enc) {base : Nat} {ok : Nat → Prop} : ∀ {xs : List α} {cs : List Value}, Reps (d.M w base ok) d.sz xs cs → cs = flat enc xs
 | [], cs, h => List.eq_nil_of_length_eq_zero (by simpa using h.1)
 | x :: xs, cs, h => by
  have h0 := F.out (h.2 0 x rfl)
  rw [Nat.zero_mul, List.drop_zero] at h0
  have hl : cs.length = (xs.length + 1) * d.sz := h.1
  have h2 : Reps (d.M w base ok) d.sz xs (cs.drop d.sz) := by
   refine ⟨by rw [List.length_drop, hl, Nat.succ_mul]; omega, fun j p hj => ?_⟩
   have := h.2 (j + 1) p hj
   rw [Nat.succ_mul, Nat.add_comm, ← List.drop_drop] at this
   exact this
  rw [flat_cons, ← F.of_reps h2, ← h0, List.take_append_drop]
theorem Flat.reps (F : Flat d enc) (w : World) (base : Nat) (ok : Nat → Prop) (xs : List α) : Reps (d.M w base ok) d.sz xs (flat enc xs) := by
 refine ⟨F.flat_len xs, fun j p hj => ?_⟩
 obtain ⟨hl, rfl⟩ := List.getElem?_eq_some_iff.1 hj
 rw [F.flat_drop, List.drop_eq_getElem_cons hl, flat_cons, List.take_append_of_le_length (by rw [F.len]; exact Nat.le_refl _), List.take_of_length_le (by rw [F.len]; exact Nat.le_refl _)]
 exact F.inn _ _ _ _
theorem Flat.one (F : Flat d enc) (w : World) (xs : List α) : ∀ u ∈ flat enc xs, u.oneCell' = true := by
 intro u hu
 obtain ⟨x, _, hx⟩ := List.mem_flatMap.mp hu
 exact d.K_one (d.K_of_M (F.inn w 0 (fun _ => True) x)) u hx
theorem Flat.block (F : Flat d enc) {e : Nat} {base : Nat} {ok : Nat → Prop} {v : Value} {xs : List α} (h : d.R e w base ok v xs) :
 (v = .slice none 0 0 ∧ xs = []) ∨ ∃ g cap, ∃ cur : List Value, v = .slice (some ⟨g, 0, none⟩) xs.length cap ∧ base ≤ g ∧ ok g ∧ w.heap[g]? = some (.cells cur.toArray e (0, 0)) ∧ xs.length ≤ cap ∧ cap ≤ maxLen ∧ cur.length = cap * d.sz ∧ cur.take (xs.length * d.sz) = flat enc xs := by
 obtain ⟨hok, inner, ⟨hlen, hv⟩, hr⟩ := h
 have hin := F.of_reps hr
 rcases hv with ⟨rfl, hn⟩ | ⟨g, cap, cur, rfl, hg, hh, hnc, hcm, hsz, htk⟩
 ·exact .inl ⟨rfl, List.eq_nil_of_length_eq_zero hn⟩
 ·exact .inr ⟨g, cap, cur.toList, rfl, hg, hok g rfl, by simpa using hh, hnc, hcm, by simpa using hsz, by rw [htk, hin]⟩
theorem Flat.own (F : Flat d enc) {e : Nat} {base : Nat} {ok : Nat → Prop} {g cap n : Nat} {cur : List Value} {xs : List α} (hn : xs.length = n) (hg : base ≤ g) (hok : ok g) (hh : w.heap[g]? = some (.cells cur.toArray e (0, 0))) (hnc : n ≤ cap) (hcm : cap ≤ maxLen) (hl : cur.length = cap * d.sz)
 (ht : cur.take (n * d.sz) = flat enc xs) : d.R e w base ok (.slice (some ⟨g, 0, none⟩) n cap) xs := by
 subst hn
 refine ⟨fun k hk => ?_, flat enc xs, ⟨F.flat_len xs, .inr ⟨g, cap, cur.toArray, rfl, hg, hh, hnc, hcm, by simpa using hl, by simpa using ht⟩⟩, F.reps _ _ _ xs⟩
 have : g = k := by simpa [Value.ownBlock] using hk
 exact this ▸ hok
theorem Flat.cells (F : Flat d enc) {n : Nat} {xs : List α} {ad : Addr} (hK : ∀ {x cs}, d.K w x cs → cs = enc x) (h : d.C w (some ad) n xs) : ∀ j u, (flat enc xs)[j]? = some u → w.cell? (ad.add j) = some u := by
 intro j u hj
 obtain ⟨hn, _, hc⟩ := h
 have hjl : j < xs.length * d.sz := by rw [← F.flat_len]; exact (List.getElem?_eq_some_iff.1 hj).1
 have hpos : 0 < n := by
  rw [← hn]
  rcases Nat.eq_zero_or_pos xs.length with h0 | h0
  ·rw [h0, Nat.zero_mul] at hjl; omega
  ·exact h0
 obtain ⟨ad', e, hall⟩ := hc hpos
 cases e
 have hq : j / d.sz < xs.length := Nat.div_lt_of_lt_mul (by rw [Nat.mul_comm]; exact hjl)
 obtain ⟨c, hcl, hcK, hcell⟩ := hall (j / d.sz) _ (List.getElem?_eq_getElem hq)
 have hce := hK hcK
 have hdm : j / d.sz * d.sz + j % d.sz = j := by rw [Nat.mul_comm]; exact Nat.div_add_mod _ _
 have hm : j % d.sz < d.sz := Nat.mod_lt _ F.pos
 have := hcell (j % d.sz) u ?_
 ·rwa [hdm] at this
 ·have e1 : (flat enc xs)[j]? = ((flat enc xs).drop (j / d.sz * d.sz))[j % d.sz]? := by rw [List.getElem?_drop, hdm]
  rw [e1, F.flat_drop, List.drop_eq_getElem_cons hq, flat_cons, List.getElem?_append_left (by rw [F.len]; exact hm), ← hce] at hj
  exact hj
end
theorem wpList_copy_is {ops : Array Oper} {rest : List Oper} {o : Oper} {a : Act} {Q : Exit → Act → World → Prop} (hgd : o.guard = none) (d s : Operand) (t t' : TypeId)
 (ho : o.op = .call { callee := .builtin .copy, args := #[d, s], argTypes := #[t, t'] }) (v u : Value) (hd : a.eval d = v) (hs : a.eval s = u) {v' : Value} {w' : World}
 (hr : (Builtin.copy_ #[t, t'] o.type #[v, u]).run P w = .ok v' w') (h : wpList P ops Q rest (a.put o.dst v') w') : wpList P ops Q (o :: rest) a w := by
 refine wpList_plain hgd fun _ hK => ?_
 unfold Oper.wp execOp
 simp only [ho, resolve, invoke, builtin, Sem.run_bind, Sem.run_pure, Result.andThen_ok, List.map_toArray, List.map_cons, List.map_nil, hd, hs, hr]
 exact hK _ _ h
theorem step_copy_is {ops : Array Oper} {o : Oper} {a : Act} {K : Act → World → Prop} {Q : Exit → Act → World → Prop} {E : Prop}
 (hg : o.guard = none) (d x : Operand) (dT sT : TypeId) (hop : o.op = Op.call { callee := Callee.builtin Builtin.copy, args := #[d, x], argTypes := #[dT, sT] })
 (v u : Value) (hd : a.eval d = v) (hx : a.eval x = u) {v' : Value} {w' : World} (hr : (Builtin.copy_ #[dT, sT] o.type #[v, u]).run P w = .ok v' w') (hK : K (a.put o.dst v') w') :
 if Region.wanted o (yielded ops a.tmps) = true then Oper.wp P o a w K Q else E := by
 have hw : Region.wanted o (yielded ops a.tmps) = true := by simp [Region.wanted, hg]
 rw [if_pos hw]
 unfold Oper.wp
 simp [execOp, hop, resolve, invoke, builtin, hd, hx, hr, Result.andThen]
 exact hK
theorem shapeAt {b : Nat} {e : TypeId} {cur : List Value} (hb : w.heap[b]? = some (.cells cur.toArray e (0, 0))) : w.shape? b = some (e, cur.length) := by simp [World.shape?, hb]
end
end Go.Proofs.YtpifbgkppfginaaW.PrintWords
