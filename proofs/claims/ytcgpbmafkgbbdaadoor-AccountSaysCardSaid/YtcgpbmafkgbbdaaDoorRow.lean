/- Writing into a row of the call's own, cell by cell: the block behind it; 'clear' and 'copy' at elements of several cells; an own row as its block. -/
import Derived.Test.YtcgpbmafkgbbdaaDoorMine
import Derived.Test.YtcgpbmafkgbbdaaDoorWKept
import Derived.Laws.CopyRow
import Derived.Laws.CopyOwn
import Derived.Deep.RegionLaw
import Derived.Lib.SliceRun
import Derived.Lib.Overlaps
import Derived.Laws.Externs
import Derived.Lib.AppendZeros
import Derived.Lib.AppendZerosOnto
import Derived.Laws.Append
set_option linter.unusedVariables false
set_option linter.unusedSimpArgs false
namespace Go.Proofs.YtcgpbmafkgbbdaaDoorW.PrintWords
open Go.RowKit
section
variable {P : Program} {w w' : World}
def over (cur : List Value) (o : Nat) (vs : List Value) : List Value := cur.take o ++ vs ++ cur.drop (o + vs.length)
theorem setCells_as_row (b : Nat) (e : TypeId) : ∀ (vs : List Value) (o : Nat) (cur : List Value) (w : World), w.heap[b]? = some (.cells cur.toArray e (0, 0)) → o + vs.length ≤ cur.length → w.setCells b o vs = w.setRow b (over cur o vs).toArray
 | [], o, cur, w, hb, _ => by
  have := setRow_self w b cur.toArray e (0, 0) hb
  simp [over, World.setCells, this]
 | v :: r, o, cur, w, hb, hl => by
  rw [World.setCells, setCell_eq_setRow w b o cur.toArray e (0, 0) v hb]
  have h2 := setRow_heap w b cur.toArray (cur.toArray.setIfInBounds o v) e (0, 0) hb
  have h3 : (cur.toArray.setIfInBounds o v) = (cur.set o v).toArray := by simp
  rw [h3] at h2 ⊢
  rw [setCells_as_row b e r (o + 1) (cur.set o v) _ h2 (by simp at hl ⊢; omega), setRow_setRow]
  congr 2
  have := list_seg_step cur o v r (by simp at hl; omega)
  simpa [over] using this
theorem setCells_heap {b : Nat} {e : TypeId} {cur : List Value} (hb : w.heap[b]? = some (.cells cur.toArray e (0, 0))) (o : Nat) (vs : List Value) (hl : o + vs.length ≤ cur.length) :
 (w.setCells b o vs).heap[b]? = some (.cells (over cur o vs).toArray e (0, 0)) := by
 rw [setCells_as_row b e vs o cur w hb hl]
 exact setRow_heap w b cur.toArray _ e (0, 0) hb
theorem setCells_grown {b : Nat} {e : TypeId} {cur : List Value} (hb : w.heap[b]? = some (.cells cur.toArray e (0, 0))) (o : Nat) (vs : List Value) (hl : o + vs.length ≤ cur.length) : w.grownBy (w.setCells b o vs) (some b) := by
 rw [setCells_as_row b e vs o cur w hb hl]
 exact ⟨rfl, rfl, rfl, by simp [World.setRow], fun k _ hk => setRow_other w b k _ (fun h => hk (by rw [h]))⟩
theorem grown2 {w a b : World} {r : Option Nat} (h : w.grownBy a r) (k : a.grownBy b r) : w.grownBy b r :=
 ⟨k.os.trans h.os, k.tape.trans h.tape, k.output.trans h.output, Nat.le_trans h.size k.size, fun i hi hn => (k.block i (Nat.lt_of_lt_of_le hi h.size) hn).trans (h.block i hi hn)⟩
theorem grown_drew (w : World) (r : Option Nat) : w.grownBy w.drew r := ⟨rfl, rfl, rfl, Nat.le_refl _, fun _ _ _ => rfl⟩
structure Flat {α : Type} (d : Kd α) (enc : α → List Value) : Prop where
 len : ∀ x, (enc x).length = d.sz
 out : ∀ {w base ok x cs}, d.M w base ok x cs → cs = enc x
 inn : ∀ w base ok x, d.M w base ok x (enc x)
 pos : 0 < d.sz
def flat {α : Type} (enc : α → List Value) (xs : List α) : List Value := xs.flatMap enc
section
variable {α : Type} {d : Kd α} {enc : α → List Value}
theorem flat_nil : flat enc ([] : List α) = [] := rfl
theorem flat_cons (x : α) (xs : List α) : flat enc (x :: xs) = enc x ++ flat enc xs := rfl
theorem flat_append (xs ys : List α) : flat enc (xs ++ ys) = flat enc xs ++ flat enc ys := List.flatMap_append
theorem Flat.flat_len (F : Flat d enc) : ∀ xs : List α, (flat enc xs).length = xs.length * d.sz
 | [] => by simp [flat]
 | x :: xs => by rw [flat_cons, List.length_append, F.len, F.flat_len xs, List.length_cons, Nat.succ_mul, Nat.add_comm]
theorem Flat.flat_drop (F : Flat d enc) : ∀ (xs : List α) (i : Nat), (flat enc xs).drop (i * d.sz) = flat enc (xs.drop i)
 | [], i => by simp [flat]
 | x :: xs, 0 => by simp
 | x :: xs, i + 1 => by
  rw [flat_cons, List.drop_succ_cons, Nat.succ_mul, Nat.add_comm, List.drop_append, F.len, Nat.add_sub_cancel_left, F.flat_drop xs i, List.drop_of_length_le (by rw [F.len]; omega), List.nil_append]
theorem Flat.of_reps (F : Flat d enc) {base : Nat} {ok : Nat → Prop} : ∀ {xs : List α} {cs : List Value}, Reps (d.M w base ok) d.sz xs cs → cs = flat enc xs
 | [], cs, h => List.eq_nil_of_length_eq_zero (by simpa using h.1)
 | x :: xs, cs, h => by
  have h0 := F.out (h.2 0 x rfl)
  rw [Nat.zero_mul, List.drop_zero] at h0
  have hl : cs.length = (xs.length + 1) * d.sz := h.1
  have h2 : Reps (d.M w base ok) d.sz xs (cs.drop d.sz) := by
   refine ⟨by rw [List.length_drop, hl, Nat.succ_mul]; omega, fun j p hj => ?_⟩
   have := h.2 (j + 1) p hj
   rw [Nat.succ_mul, Nat.add_comm, ← List.drop_drop] at this
   exact this
  rw [flat_cons, ← F.of_reps h2, ← h0, List.take_append_drop]
theorem Flat.reps (F : Flat d enc) (w : World) (base : Nat) (ok : Nat → Prop) (xs : List α) : Reps (d.M w base ok) d.sz xs (flat enc xs) := by
 refine ⟨F.flat_len xs, fun j p hj => ?_⟩
 obtain ⟨hl, rfl⟩ := List.getElem?_eq_some_iff.1 hj
 rw [F.flat_drop, List.drop_eq_getElem_cons hl, flat_cons, List.take_append_of_le_length (by rw [F.len]; exact Nat.le_refl _), List.take_of_length_le (by rw [F.len]; exact Nat.le_refl _)]
 exact F.inn _ _ _ _
theorem Flat.one (F : Flat d enc) (w : World) (xs : List α) : ∀ u ∈ flat enc xs, u.oneCell' = true := by
 intro u hu
 obtain ⟨x, _, hx⟩ := List.mem_flatMap.mp hu
 exact d.K_one (d.K_of_M (F.inn w 0 (fun _ => True) x)) u hx
theorem Flat.block (F : Flat d enc) {e : Nat} {base : Nat} {ok : Nat → Prop} {v : Value} {xs : List α} (h : d.R e w base ok v xs) :
 (v = .slice none 0 0 ∧ xs = []) ∨ ∃ g cap, ∃ cur : List Value, v = .slice (some ⟨g, 0, none⟩) xs.length cap ∧ base ≤ g ∧ ok g ∧ w.heap[g]? = some (.cells cur.toArray e (0, 0)) ∧ xs.length ≤ cap ∧ cap ≤ maxLen ∧ cur.length = cap * d.sz ∧ cur.take (xs.length * d.sz) = flat enc xs := by
 obtain ⟨hok, inner, ⟨hlen, hv⟩, hr⟩ := h
 have hin := F.of_reps hr
 rcases hv with ⟨rfl, hn⟩ | ⟨g, cap, cur, rfl, hg, hh, hnc, hcm, hsz, htk⟩
 ·exact .inl ⟨rfl, List.eq_nil_of_length_eq_zero hn⟩
 ·exact .inr ⟨g, cap, cur.toList, rfl, hg, hok g rfl, by simpa using hh, hnc, hcm, by simpa using hsz, by rw [htk, hin]⟩
theorem Flat.own (F : Flat d enc) {e : Nat} {base : Nat} {ok : Nat → Prop} {g cap n : Nat} {cur : List Value} {xs : List α} (hn : xs.length = n) (hg : base ≤ g) (hok : ok g) (hh : w.heap[g]? = some (.cells cur.toArray e (0, 0))) (hnc : n ≤ cap) (hcm : cap ≤ maxLen) (hl : cur.length = cap * d.sz)
 (ht : cur.take (n * d.sz) = flat enc xs) : d.R e w base ok (.slice (some ⟨g, 0, none⟩) n cap) xs := by
 subst hn
 refine ⟨fun k hk => ?_, flat enc xs, ⟨F.flat_len xs, .inr ⟨g, cap, cur.toArray, rfl, hg, hh, hnc, hcm, by simpa using hl, by simpa using ht⟩⟩, F.reps _ _ _ xs⟩
 have : g = k := by simpa [Value.ownBlock] using hk
 exact this ▸ hok
theorem Flat.cells (F : Flat d enc) {n : Nat} {xs : List α} {ad : Addr} (hK : ∀ {x cs}, d.K w x cs → cs = enc x) (h : d.C w (some ad) n xs) : ∀ j u, (flat enc xs)[j]? = some u → w.cell? (ad.add j) = some u := by
 intro j u hj
 obtain ⟨hn, _, hc⟩ := h
 have hjl : j < xs.length * d.sz := by rw [← F.flat_len]; exact (List.getElem?_eq_some_iff.1 hj).1
 have hpos : 0 < n := by
  rw [← hn]
  rcases Nat.eq_zero_or_pos xs.length with h0 | h0
  ·rw [h0, Nat.zero_mul] at hjl; omega
  ·exact h0
 obtain ⟨ad', e, hall⟩ := hc hpos
 cases e
 have hq : j / d.sz < xs.length := Nat.div_lt_of_lt_mul (by rw [Nat.mul_comm]; exact hjl)
 obtain ⟨c, hcl, hcK, hcell⟩ := hall (j / d.sz) _ (List.getElem?_eq_getElem hq)
 have hce := hK hcK
 have hdm : j / d.sz * d.sz + j % d.sz = j := by rw [Nat.mul_comm]; exact Nat.div_add_mod _ _
 have hm : j % d.sz < d.sz := Nat.mod_lt _ F.pos
 have := hcell (j % d.sz) u ?_
 ·rwa [hdm] at this
 ·have e1 : (flat enc xs)[j]? = ((flat enc xs).drop (j / d.sz * d.sz))[j % d.sz]? := by rw [List.getElem?_drop, hdm]
  rw [e1, F.flat_drop, List.drop_eq_getElem_cons hq, flat_cons, List.getElem?_append_left (by rw [F.len]; exact hm), ← hce] at hj
  exact hj
end
end
end Go.Proofs.YtcgpbmafkgbbdaaDoorW.PrintWords
