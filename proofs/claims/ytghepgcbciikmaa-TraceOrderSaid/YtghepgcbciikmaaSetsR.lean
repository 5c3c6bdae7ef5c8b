/- A map from records to true that the call made: a look-up and a store, where the key's equality is run (XSets: keys that the model compares at once). -/
import Derived.Test.YtghepgcbciikmaaSets
set_option linter.unusedVariables false
set_option linter.unusedSimpArgs false
namespace Go.Proofs.YtghepgcbciikmaaW.PrintWords
open Go.RowKit Go.Maps Go.ChangeMaps Go.MapKept
section
variable {P : Program} {w w' : World} {b : Nat} {ks : List Value}
theorem findAsking_run {K : TypeId} {k : Value} {IsK : Value → Prop} (hk : IsK k) (hEq : ∀ a b w, IsK a → IsK b → ∃ r, (Op.equal K a b).run P w = .ok r w ∧ (r = true ↔ a = b)) :
 ∀ (es : List MapEntry) (i : Nat), (∀ x ∈ es, IsK x.key) → ((Instr.findAsking K k es i).run P w = .ok none w ∧ ∀ e ∈ es, e.key ≠ k) ∨ ∃ j e, (Instr.findAsking K k es i).run P w = .ok (some (i + j, e.val)) w ∧ es[j]? = some e ∧ e.key = k
 | [], i, _ => .inl ⟨by unfold Instr.findAsking; rfl, by simp⟩
 | e :: es, i, h => by
  obtain ⟨r, he, hr⟩ := hEq k e.key w hk (h e (by simp))
  by_cases c : r = true
  ·refine .inr ⟨0, e, ?_, rfl, (hr.mp c).symm⟩
   unfold Instr.findAsking
   simp only [Sem.run_bind, he, Result.andThen_ok, c, if_true, Sem.run_pure, Nat.add_zero]
  ·rcases findAsking_run hk hEq es (i + 1) (fun x hx => h x (by simp [hx])) with ⟨h1, h2⟩ | ⟨j, e', h1, h2, h3⟩
   ·refine .inl ⟨?_, ?_⟩
    ·unfold Instr.findAsking
     simp only [Sem.run_bind, he, Result.andThen_ok, Bool.eq_false_iff.mpr c, Bool.false_eq_true, if_false]
     exact h1
    ·intro x hx
     rcases List.mem_cons.mp hx with rfl | hx
     ·exact fun e => c (hr.mpr e.symm)
     ·exact h2 x hx
   ·refine .inr ⟨j + 1, e', ?_, by simpa using h2, h3⟩
    unfold Instr.findAsking
    simp only [Sem.run_bind, he, Result.andThen_ok, Bool.eq_false_iff.mpr c, Bool.false_eq_true, if_false]
    rw [h1]
    congr 2
    congr 1
    omega
theorem findKey_run {K : TypeId} {d : TypeDesc} {k : Value} {IsK : Value → Prop} (hK : P.underlying K = some d) (hd : ∀ a b, Instr.sameNow d a b = none) (hk : IsK k) (hEq : ∀ a b w, IsK a → IsK b → ∃ r, (Op.equal K a b).run P w = .ok r w ∧ (r = true ↔ a = b)) (es : List MapEntry) (h : ∀ x ∈ es, IsK x.key) :
 ((Instr.findKey K k es).run P w = .ok none w ∧ ∀ e ∈ es, e.key ≠ k) ∨ ∃ j e, (Instr.findKey K k es).run P w = .ok (some (j, e.val)) w ∧ es[j]? = some e ∧ e.key = k := by
 cases es with
 | nil =>
  refine .inl ⟨?_, by simp⟩
  unfold Instr.findKey
  simp only [Sem.run_bind, run_underlying hK, Result.andThen_ok]
  rfl
 | cons e es =>
  have hn : Instr.findNow d k (e :: es) 0 = none := by
   unfold Instr.findNow
   rw [hd]
  have hrun : (Instr.findKey K k (e :: es)).run P w = (Instr.findAsking K k (e :: es)).run P w := by
   unfold Instr.findKey
   simp only [Sem.run_bind, run_underlying hK, Result.andThen_ok, hn]
  rw [hrun]
  rcases findAsking_run (w := w) hk hEq (e :: es) 0 h with ⟨h1, h2⟩ | ⟨j, e', h1, h2, h3⟩
  ·exact .inl ⟨h1, h2⟩
  ·exact .inr ⟨0 + j, e', h1, by rw [Nat.zero_add]; exact h2, h3⟩
theorem SetIs.lookR {d : TypeDesc} {IsK : Value → Prop} (h : SetIs w b ks) {T K E : TypeId} (hT : P.underlying T = some (.map K E)) (hK : P.underlying K = some d) (hE : (zeroValue E).run P w = .ok (.bool false) w) (hd : ∀ a b, Instr.sameNow d a b = none)
 (hEq : ∀ a b w, IsK a → IsK b → ∃ r, (Op.equal K a b).run P w = .ok r w ∧ (r = true ↔ a = b)) (hCk : ∀ k w e, IsK k → (Instr.checkKey e 10000 K k).run P w = .ok () w) {k : Value} (hk : IsK k) (hks : ∀ x ∈ ks, IsK x) :
 (k ∈ ks → (Instr.lookup T (.map (some b)) k false).run P w = .ok (.bool true) w) ∧ (k ∉ ks → (Instr.lookup T (.map (some b)) k false).run P w = .ok (.bool false) w) := by
 obtain ⟨es, c, hb, hes⟩ := h
 obtain ⟨hm1, hm2⟩ := pair_mem hes
 have hob : (getObj b).run P w = .ok (.map es c) w := MapKept.run_getObj_map hb
 have hck := hCk k w es.isEmpty hk
 rcases findKey_run (w := w) hK hd hk hEq es.toList (fun x hx => hks _ (hm1 x hx).1) with ⟨hf, hno⟩ | ⟨j, e, hf, hj, he⟩
 ·refine ⟨fun hin => ?_, fun _ => ?_⟩
  ·obtain ⟨e, he, hek⟩ := hm2 k hin
   exact absurd hek (hno e he)
  ·unfold Instr.lookup
   simp only [Sem.run_bind, Sem.run_pure, run_underlying hT, hob, hck, hf, hE, Result.andThen_ok]
   rfl
 ·have hmem : e ∈ es.toList := List.mem_of_getElem? hj
  refine ⟨fun _ => ?_, fun hno => absurd (he ▸ (hm1 e hmem).1) hno⟩
  unfold Instr.lookup
  simp only [Sem.run_bind, Sem.run_pure, run_underlying hT, hob, hck, hf, Result.andThen_ok, (hm1 e hmem).2]
  rfl
theorem SetIs.putR {d : TypeDesc} {IsK : Value → Prop} (h : SetIs w b ks) {T K E : TypeId} (hT : P.underlying T = some (.map K E)) (hK : P.underlying K = some d) (hd : ∀ a b, Instr.sameNow d a b = none)
 (hEq : ∀ a b w, IsK a → IsK b → ∃ r, (Op.equal K a b).run P w = .ok r w ∧ (r = true ↔ a = b)) (hCk : ∀ k w e, IsK k → (Instr.checkKey e 10000 K k).run P w = .ok () w) {k : Value} (hk : IsK k) (hks : ∀ x ∈ ks, IsK x) (hn : k ∉ ks) :
 ∃ w', (Instr.mapUpdate T (.map (some b)) k (.bool true)).run P w = .ok () w' ∧ SetIs w' b (ks ++ [k]) ∧ w.grownBy w' (some b) := by
 obtain ⟨es, c, hb, hes⟩ := h
 obtain ⟨hm1, hm2⟩ := pair_mem hes
 have hob : (getObj b).run P w = .ok (.map es c) w := MapKept.run_getObj_map hb
 have hck := hCk k w false hk
 rcases findKey_run (w := w) hK hd hk hEq es.toList (fun x hx => hks _ (hm1 x hx).1) with ⟨hf, hno⟩ | ⟨j, e, hf, hj, he⟩
 ·refine ⟨setBlock w b (.map (es.push { key := k, val := .bool true, born := c }) (c + 1)), ?_, ⟨_, _, heap_setBlock_same hb _, ?_⟩, ⟨rfl, rfl, rfl, by simp [setBlock], fun i _ hi => heap_setBlock_other hb _ (fun e => hi (by rw [e]))⟩⟩
  ·unfold Instr.mapUpdate
   simp only [Sem.run_bind, Sem.run_pure, run_underlying hT, hob, hck, hf, Result.andThen_ok]
   exact run_setObj_map _ hb
  ·simp [hes]
 ·have hmem : e ∈ es.toList := List.mem_of_getElem? hj
  exact absurd (he ▸ (hm1 e hmem).1) hn
theorem wpList_put_setR (w : World) {ops : Array Oper} {rest : List Oper} {o : Oper} {a : Act} {Q : Exit → Act → World → Prop} {d : TypeDesc} {IsK : Value → Prop} {b : Nat} {ks : List Value}
 (hg : o.guard = none) (m x v : Operand) (t K E : TypeId) (hop : o.op = Op.mapUpdate t m x v) (ht : P.underlying t = some (.map K E)) (hK : P.underlying K = some d) (hd : ∀ a b, Instr.sameNow d a b = none)
 (hEq : ∀ a b w, IsK a → IsK b → ∃ r, (Op.equal K a b).run P w = .ok r w ∧ (r = true ↔ a = b)) (hCk : ∀ k w e, IsK k → (Instr.checkKey e 10000 K k).run P w = .ok () w) (hm : a.eval m = .map (some b)) (k : Value) (hx : a.eval x = k) (hv : a.eval v = .bool true)
 (h : SetIs w b ks) (hk : IsK k) (hks : ∀ x ∈ ks, IsK x) (hn : k ∉ ks)
 (hnext : ∀ w', SetIs w' b (ks ++ [k]) → w.grownBy w' (some b) → wpList P ops Q rest (a.put o.dst undef) w') : wpList P ops Q (o :: rest) a w := by
 refine wpList_plain hg fun K' hK' => ?_
 obtain ⟨w', hrun, r1, r2⟩ := h.putR ht hK hd hEq hCk hk hks hn
 unfold Oper.wp
 simp [execOp, hop, hm, hx, hv, hrun, Result.andThen]
 exact hK' _ _ (hnext w' r1 r2)
end
end Go.Proofs.YtghepgcbciikmaaW.PrintWords
