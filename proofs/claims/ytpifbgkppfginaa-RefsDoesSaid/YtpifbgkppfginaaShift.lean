/- 'copy(l[i+1:], l[i:])' on a row of the call's own: its elements from i on, one place up (the last one falls off). -/
import Derived.Test.YtpifbgkppfginaaRow
set_option linter.unusedVariables false
set_option linter.unusedSimpArgs false
namespace Go.Proofs.YtpifbgkppfginaaW.PrintWords
open Go.RowKit
def shiftUp {α : Type} (l : List α) (i : Nat) : List α := l.take (i + 1) ++ (l.drop i).take (l.length - (i + 1))
theorem shiftUp_length {α : Type} (l : List α) (i : Nat) (h : i < l.length) : (shiftUp l i).length = l.length := by
 unfold shiftUp
 rw [List.length_append, List.length_take, List.length_take, List.length_drop]
 omega
section
variable {P : Program} {W : World} {α : Type} {d : Kd α} {enc : α → List Value}
theorem Flat.shift_run (F : Flat d enc) (base : Nat) (t e : TypeId) (ht : P.underlying t = some (.slice e)) (hinfo : (P.info? e).map (·.size) = some d.sz)
 {g n c k m2 m3 c2 c3 : Nat} {A B : Option Addr} {xs : List α} {ok : Nat → Prop} (HO : d.R e W base ok (.slice (some ⟨g, 0, none⟩) n c) xs) (hn : xs.length = n) (hk : k < n)
 (hA : A = if c = k + 1 then some ⟨g, 0, none⟩ else (some (⟨g, 0, none⟩ : Addr)).map (·.add ((k + 1) * d.sz))) (hm2 : m2 = n - (k + 1)) (hB : B = if c = k then some ⟨g, 0, none⟩ else (some (⟨g, 0, none⟩ : Addr)).map (·.add (k * d.sz))) (hm3 : m3 = n - k) (ty : TypeId) :
 ∃ w1, (Builtin.copy_ #[t, t] ty #[.slice A m2 c2, .slice B m3 c3]).run P W = .ok (goInt (m2 : Int)) w1 ∧ d.R e w1 base ok (.slice (some ⟨g, 0, none⟩) n c) (shiftUp xs k) ∧ W.grownBy w1 (some g) := by
 rcases F.block HO with ⟨h, _⟩ | ⟨g', c', cur, hv, hg, hok, hH, hnc, hcm, hl, htk⟩
 ·cases h
 injection hv with ha _ hc
 injection ha with ha
 injection ha with hgg
 subst hgg; subst hc
 have hck : ¬ (c = k) := by omega
 rw [if_neg hck] at hB
 have hp := F.pos
 obtain ⟨cs, hcs⟩ : ∃ cs, cs = (cur.drop (k * d.sz)).take ((n - (k + 1)) * d.sz) := ⟨_, rfl⟩
 have h1 : (k + 1) * d.sz + (n - (k + 1)) * d.sz = n * d.sz := by rw [← Nat.add_mul]; congr 1; omega
 have h2 : n * d.sz ≤ c * d.sz := Nat.mul_le_mul_right _ (by omega)
 have h3 : (k + 1) * d.sz = k * d.sz + d.sz := Nat.succ_mul _ _
 have hcl : cs.length = (n - (k + 1)) * d.sz := by rw [hcs, List.length_take, List.length_drop, hl]; omega
 have hcf : cs = flat enc ((xs.drop k).take (n - (k + 1))) := by
  rw [hcs, ← F.flat_take, ← F.flat_drop, ← htk, List.drop_take, List.take_take, hn]
  congr 1
  omega
 have hone : ∀ u ∈ cs, u.oneCell' = true := by rw [hcf]; exact F.one W _
 have hmin : Nat.min m3 m2 = m2 := by simp only [Nat.min_def]; split <;> omega
 have hsrc : ∀ j v, cs[j]? = some v → W.cell? ((⟨g, k * d.sz, none⟩ : Addr).add j) = some v := fun j v hj => by
  rw [Addr.add_lit]
  have hjl : j < (n - (k + 1)) * d.sz := by rw [← hcl]; exact (List.getElem?_eq_some_iff.1 hj).1
  rw [hcs, List.getElem?_take_of_lt hjl, List.getElem?_drop] at hj
  obtain ⟨hlt, hv⟩ := List.getElem?_eq_some_iff.1 hj
  rw [cellAt hH _ hlt, hv]
 have hBa : B = some ⟨g, k * d.sz, none⟩ := by rw [hB, Option.map_some, Addr.add_lit, Nat.zero_add]
 by_cases hz : c = k + 1
 ·rw [if_pos hz] at hA
  have h0 : cs = [] := List.eq_nil_of_length_eq_zero (by rw [hcl, show n - (k + 1) = 0 by omega, Nat.zero_mul])
  have := run_copy_rows (P := P) hH t t ty e d.sz ht hinfo 0 m2 c2 ⟨g, k * d.sz, none⟩ m3 c3 cs (by rw [hmin, hcl, hm2]) hsrc (by rw [h0, hl]; simp) hone
  rw [hmin, h0] at this
  refine ⟨W, by rw [hA, hBa]; exact this, ?_, ⟨rfl, rfl, rfl, Nat.le_refl _, fun _ _ _ => rfl⟩⟩
  have e1 : shiftUp xs k = xs := by
   unfold shiftUp
   rw [show xs.length - (k + 1) = 0 by omega, List.take_zero, List.append_nil, List.take_of_length_le (by omega)]
  rw [e1]
  exact HO
 ·rw [if_neg hz] at hA
  have hAa : A = some ⟨g, (k + 1) * d.sz, none⟩ := by rw [hA, Option.map_some, Addr.add_lit, Nat.zero_add]
  have hfit : (k + 1) * d.sz + cs.length ≤ cur.length := by rw [hcl, hl]; omega
  have := run_copy_rows (P := P) hH t t ty e d.sz ht hinfo ((k + 1) * d.sz) m2 c2 ⟨g, k * d.sz, none⟩ m3 c3 cs (by rw [hmin, hcl, hm2]) hsrc hfit hone
  rw [hmin] at this
  refine ⟨_, by rw [hAa, hBa]; exact this, ?_, setCells_grown hH _ _ hfit⟩
  refine F.own (by rw [shiftUp_length _ _ (by omega), hn]) hg hok (setCells_heap hH _ _ hfit) (by omega) hcm (by rw [over_len _ _ _ hfit, hl]) ?_
  rw [over_take2 _ _ _ _ (by rw [hl]; omega) (by rw [hcl, h1])]
  unfold shiftUp
  rw [flat_append, hn, ← hcf, ← F.flat_take, ← htk, List.take_take]
  congr 2
  rw [hn]
  omega
theorem Flat.shift_step {ops : Array Oper} {o : Oper} {a : Act} {K : Act → World → Prop} {Q : Exit → Act → World → Prop} (F : Flat d enc) {w0 : World} (base : Nat) (hw : Region.wanted o (yielded ops a.tmps) = true) (s x : Operand) (t e : TypeId) (ho : o.op = .call { callee := .builtin .copy, args := #[s, x], argTypes := #[t, t] })
 (ht : P.underlying t = some (.slice e)) (hinfo : (P.info? e).map (·.size) = some d.sz) {g n c k m2 m3 c2 c3 : Nat} {A B : Option Addr} {xs : List α} {ok : Nat → Prop}
 (hs : a.eval s = .slice A m2 c2) (hx : a.eval x = .slice B m3 c3) (hA : A = if c = k + 1 then some ⟨g, 0, none⟩ else (some (⟨g, 0, none⟩ : Addr)).map (·.add ((k + 1) * d.sz))) (hm2 : m2 = n - (k + 1)) (hB : B = if c = k then some ⟨g, 0, none⟩ else (some (⟨g, 0, none⟩ : Addr)).map (·.add (k * d.sz))) (hm3 : m3 = n - k)
 (HO : d.R e W base ok (.slice (some ⟨g, 0, none⟩) n c) xs) (hn : xs.length = n) (hk : k < n) (HB : Below base w0 W) (hbase : base ≤ W.heap.size)
 (h : ∀ w1, d.R e w1 base ok (.slice (some ⟨g, 0, none⟩) n c) (shiftUp xs k) → Below base w0 w1 → W.grownBy w1 (some g) → K (a.put o.dst (goInt (m2 : Int))) w1) :
 if Region.wanted o (yielded ops a.tmps) = true then Oper.wp P o a W K Q else K (a.put o.dst undef) W := by
 obtain ⟨w1, hr, h1, h2⟩ := F.shift_run (P := P) base t e ht hinfo (c2 := c2) (c3 := c3) HO hn hk hA hm2 hB hm3 o.type
 rw [if_pos hw]
 unfold Oper.wp execOp
 simp only [ho, resolve, invoke, builtin, Sem.run_bind, Sem.run_pure, Result.andThen_ok, List.map_toArray, List.map_cons, List.map_nil, hs, hx, hr]
 exact h w1 h1 (HB.grown h2 hbase (fun k hk => by injection hk with hk; subst hk; exact Kd.R_base HO _ (by simp [Value.ownBlock]))) h2
end
end Go.Proofs.YtpifbgkppfginaaW.PrintWords
