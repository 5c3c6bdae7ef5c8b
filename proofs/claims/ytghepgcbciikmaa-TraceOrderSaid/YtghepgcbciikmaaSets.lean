/- A map from keys to true that the call made: its block, a look-up and a store. -/
import Derived.Test.YtghepgcbciikmaaMine
import Derived.Maps.OwnSet
import Derived.Maps.OwnRows
set_option linter.unusedVariables false
set_option linter.unusedSimpArgs false
namespace Go.Proofs.YtghepgcbciikmaaW.PrintWords
open Go.RowKit Go.Maps Go.ChangeMaps Go.MapKept
def SetIs (w : World) (b : Nat) (ks : List Value) : Prop := ∃ es clock, w.heap[b]? = some (.map es clock) ∧ es.toList.map (fun e => (e.key, e.val)) = ks.map (fun k => (k, Value.bool true))
section
variable {P : Program} {w w' : World} {b : Nat} {ks : List Value}
theorem SetIs.made (w : World) : SetIs (w.alloc (.map #[] 0)) w.heap.size [] := ⟨#[], 0, heap_alloc_new w _, rfl⟩
theorem SetIs.lt (h : SetIs w b ks) : b < w.heap.size := by
 obtain ⟨es, c, hb, _⟩ := h
 exact (Array.getElem?_eq_some_iff.mp hb).1
theorem SetIs.same (h : SetIs w b ks) (e : w'.heap[b]? = w.heap[b]?) : SetIs w' b ks := by
 obtain ⟨es, c, hb, hk⟩ := h
 exact ⟨es, c, e.trans hb, hk⟩
theorem SetIs.alloc (h : SetIs w b ks) (o : Obj) : SetIs (w.alloc o) b ks := h.same (Below.heap_alloc _ _ _ h.lt)
theorem SetIs.drewN (h : SetIs w b ks) (n : Nat) : SetIs (w.drewN n) b ks := h
theorem SetIs.drew (h : SetIs w b ks) : SetIs w.drew b ks := h
theorem pair_mem {es : List MapEntry} (h : es.map (fun e => (e.key, e.val)) = ks.map (fun k => (k, Value.bool true))) : (∀ e ∈ es, e.key ∈ ks ∧ e.val = .bool true) ∧ (∀ k ∈ ks, ∃ e ∈ es, e.key = k) := by
 constructor
 ·intro e he
  have : (e.key, e.val) ∈ ks.map (fun k => (k, Value.bool true)) := h ▸ List.mem_map.mpr ⟨e, he, rfl⟩
  obtain ⟨k, hk, hke⟩ := List.mem_map.mp this
  simp only [Prod.mk.injEq] at hke
  exact ⟨hke.1 ▸ hk, hke.2.symm⟩
 ·intro k hk
  have : (k, Value.bool true) ∈ es.map (fun e => (e.key, e.val)) := h ▸ List.mem_map.mpr ⟨k, hk, rfl⟩
  obtain ⟨e, he, hke⟩ := List.mem_map.mp this
  simp only [Prod.mk.injEq] at hke
  exact ⟨e, he, hke.1⟩
theorem SetIs.look {d : TypeDesc} (h : SetIs w b ks) {T K E : TypeId} (hT : P.underlying T = some (.map K E)) (hK : P.underlying K = some d) (hE : (zeroValue E).run P w = .ok (.bool false) w) {k : Value} (hk : IsKey d k) (hks : ∀ x ∈ ks, IsKey d x) :
 (k ∈ ks → (Instr.lookup T (.map (some b)) k false).run P w = .ok (.bool true) w) ∧ (k ∉ ks → (Instr.lookup T (.map (some b)) k false).run P w = .ok (.bool false) w) := by
 obtain ⟨es, c, hb, hes⟩ := h
 obtain ⟨hm1, hm2⟩ := pair_mem hes
 have hkeys : ∀ x ∈ es.toList, IsKey d x.key := fun x hx => hks _ (hm1 x hx).1
 have hob : (getObj b).run P w = .ok (.map es c) w := MapKept.run_getObj_map hb
 have hck : (Instr.checkKey es.isEmpty 10000 K k).run P w = .ok () w := run_checkKey hK hk _ _
 rcases findNow_spec hk es.toList 0 hkeys with ⟨hf, hno⟩ | ⟨j, e, hf, hj, he⟩
 ·have hfk : (Instr.findKey K k es.toList).run P w = .ok none w := run_findKey hK hf
  refine ⟨fun hin => ?_, fun _ => ?_⟩
  ·obtain ⟨e, he, hek⟩ := hm2 k hin
   exact absurd hek (hno e he)
  ·unfold Instr.lookup
   simp only [Sem.run_bind, Sem.run_pure, run_underlying hT, hob, hck, hfk, hE, Result.andThen_ok]
   rfl
 ·have hfk : (Instr.findKey K k es.toList).run P w = .ok (some (0 + j, e.val)) w := run_findKey hK hf
  have hmem : e ∈ es.toList := List.mem_of_getElem? hj
  refine ⟨fun _ => ?_, fun hno => absurd (he ▸ (hm1 e hmem).1) hno⟩
  unfold Instr.lookup
  simp only [Sem.run_bind, Sem.run_pure, run_underlying hT, hob, hck, hfk, Result.andThen_ok, (hm1 e hmem).2]
  rfl
theorem SetIs.put {d : TypeDesc} (h : SetIs w b ks) {T K E : TypeId} (hT : P.underlying T = some (.map K E)) (hK : P.underlying K = some d) {k : Value} (hk : IsKey d k) (hks : ∀ x ∈ ks, IsKey d x) (hn : k ∉ ks) :
 ∃ w', (Instr.mapUpdate T (.map (some b)) k (.bool true)).run P w = .ok () w' ∧ SetIs w' b (ks ++ [k]) ∧ w.grownBy w' (some b) ∧ (∀ i, i ≠ b → w'.heap[i]? = w.heap[i]?) := by
 obtain ⟨es, c, hb, hes⟩ := h
 obtain ⟨hm1, hm2⟩ := pair_mem hes
 have hkeys : ∀ x ∈ es.toList, IsKey d x.key := fun x hx => hks _ (hm1 x hx).1
 have hob : (getObj b).run P w = .ok (.map es c) w := MapKept.run_getObj_map hb
 have hck : (Instr.checkKey false 10000 K k).run P w = .ok () w := run_checkKey hK hk _ _
 rcases findNow_spec hk es.toList 0 hkeys with ⟨hf, hno⟩ | ⟨j, e, hf, hj, he⟩
 ·have hfk : (Instr.findKey K k es.toList).run P w = .ok none w := run_findKey hK hf
  refine ⟨setBlock w b (.map (es.push { key := k, val := .bool true, born := c }) (c + 1)), ?_, ⟨_, _, heap_setBlock_same hb _, ?_⟩, ⟨rfl, rfl, rfl, by simp [setBlock], fun i _ hi => heap_setBlock_other hb _ (fun e => hi (by rw [e]))⟩, fun i hi => heap_setBlock_other hb _ hi⟩
  ·unfold Instr.mapUpdate
   simp only [Sem.run_bind, Sem.run_pure, run_underlying hT, hob, hck, hfk, Result.andThen_ok]
   exact run_setObj_map _ hb
  ·simp [hes]
 ·have hmem : e ∈ es.toList := List.mem_of_getElem? hj
  exact absurd (he ▸ (hm1 e hmem).1) hn
end
end Go.Proofs.YtghepgcbciikmaaW.PrintWords
