-- Written by a program of this claim's own (hookprint.py), after the pattern of the kit's print. Lean checks it.
import Derived.Test.YtghepgcbciikmaaPAx0
import Derived.Test.YtghepgcbciikmaaPAx2
import Derived.Test.YtghepgcbciikmaaPAx3
import Derived.Test.YtghepgcbciikmaaPAx4
import Derived.Test.YtghepgcbciikmaaSets
import Derived.Test.YtghepgcbciikmaaSetsR
namespace Go.Proofs.Ytghepgcbciikmaa.PA
open Go.RowKit Go.Proofs.YtghepgcbciikmaaW.PrintWords Go.Proofs.YtghepgcbciikmaaW.PrintLast Go.Proofs.YtghepgcbciikmaaW.PrintMore
attribute [local go_sem ↓] some_setCell
attribute [local go_sem] max2_int min2_int max_two min_two max_three min_three max_four min_four   -- for this text's walks alone
set_option linter.unusedVariables false
set_option linter.unusedSimpArgs false

/-- What an expectation is about. -/
def trace_valid.key (x : S35) : Int × Int × Int × Int := (x.f0, x.f1, x.f2, x.f3)
def trace_valid.enc (k : Int × Int × Int × Int) : Value := .agg #[.int .i64 k.1, .int .i64 k.2.1, .int .i64 k.2.2.1, .int .i64 k.2.2.2]
def trace_valid.keys (l : List S35) (i : Nat) : List Value := ((l.take i).map trace_valid.key).map trace_valid.enc
def trace_valid.IsK (v : Value) : Prop := ∃ k, v = trace_valid.enc k
theorem trace_valid.enc_inj {a b : Int × Int × Int × Int} (h : trace_valid.enc a = trace_valid.enc b) : a = b := by
 obtain ⟨a0, a1, a2, a3⟩ := a; obtain ⟨b0, b1, b2, b3⟩ := b; unfold trace_valid.enc at h; injection h with h; have h' := congrArg Array.toList h; simp at h'; obtain ⟨h0, h1, h2, h3⟩ := h'; rw [h0, h1, h2, h3]
theorem trace_valid.eqK (d : Nat) (w : World) (x0 y0 : Int) (x1 y1 : Int) (x2 y2 : Int) (x3 y3 : Int) :
  (Op.equalIn (d + 2) 56 (.agg #[.int .i64 x0, .int .i64 x1, .int .i64 x2, .int .i64 x3]) (.agg #[.int .i64 y0, .int .i64 y1, .int .i64 y2, .int .i64 y3])).run Try.prog w = .ok (x0 == y0 && (x1 == y1 && (x2 == y2 && (x3 == y3)))) w := by
 refine eqA_of Try.underlying56 (by kernel_rfl) ?_; refine eqf_cons (by rfl) (by go_simp; rfl) (by go_simp; rfl) (by go_simp) ?_; refine eqf_cons (by rfl) (by go_simp; rfl) (by go_simp; rfl) (by go_simp) ?_; refine eqf_cons (by rfl) (by go_simp; rfl) (by go_simp; rfl) (by go_simp) ?_; exact eqf_last (by rfl) (by go_simp; rfl) (by go_simp; rfl) (by go_simp)
theorem trace_valid.hEq (a b : Value) (w : World) (ha : trace_valid.IsK a) (hb : trace_valid.IsK b) : ∃ r, (Op.equal 56 a b).run Try.prog w = .ok r w ∧ (r = true ↔ a = b) := by
 obtain ⟨⟨x0, x1, x2, x3⟩, rfl⟩ := ha; obtain ⟨⟨y0, y1, y2, y3⟩, rfl⟩ := hb; refine ⟨_, trace_valid.eqK _ w x0 y0 x1 y1 x2 y2 x3 y3, ?_⟩
 constructor
 ·intro h
  simp only [Bool.and_eq_true, beq_iff_eq] at h; obtain ⟨rfl, rfl, rfl, rfl⟩ := h; rfl
 ·intro h
  have := trace_valid.enc_inj h; simp only [Prod.mk.injEq] at this; obtain ⟨rfl, rfl, rfl, rfl⟩ := this; simp
theorem trace_valid.hCk (k : Value) (w : World) (e : Bool) (hk : trace_valid.IsK k) : (Instr.checkKey e 10000 56 k).run Try.prog w = .ok () w := by
 obtain ⟨⟨x0, x1, x2, x3⟩, rfl⟩ := hk
 kernel_rfl
theorem trace_valid.proper_some (x0 x1 x2 x3 x4 x5 : Int) : ∃ b, trace_proper.f x0 x1 x2 x3 x4 x5 = some b := by
 have hp : ∀ n, ∃ b, trace_person.f n = some b := by
  intro n; unfold trace_person.f
  split
  ·exact ⟨_, rfl⟩
  ·exact ⟨_, rfl⟩
 have two : ∀ (c : Prop) [Decidable c] (a : Option Bool), (∃ b, a = some b) → ∃ b, (if c then a else some false) = some b := by
  intro c _ a h
  split
  ·exact h
  ·exact ⟨_, rfl⟩
 have two' : ∀ (c : Prop) [Decidable c] (a : Option Bool), (∃ b, a = some b) → ∃ b, (if c then some false else a) = some b := by
  intro c _ a h
  split
  ·exact ⟨_, rfl⟩
  ·exact h
 unfold trace_proper.f; obtain ⟨b1, h1⟩ := hp x0; obtain ⟨b2, h2⟩ := hp x1; rw [h1, h2]; simp only [Option.bind_some]; exact two _ _ (two _ _ (two' _ _ (two _ _ (two _ _ (two _ _ (two _ _ (two _ _ (two _ _ (two _ _ ⟨_, rfl⟩)))))))))
/-- Is row i right behind those before it? -/
def trace_valid.okAt (l : List S35) (i : Nat) : Bool :=
 if trace_proper.f (rd_T35 l i).f0 (rd_T35 l i).f1 (rd_T35 l i).f2 (rd_T35 l i).f3 (rd_T35 l i).f4 (rd_T35 l i).f5 = some false then false
 else if ((rd_T35 l i).f0, (rd_T35 l i).f1, (rd_T35 l i).f2, (rd_T35 l i).f3) ∈ (l.take i).map trace_valid.key then false
 else if ¬ i = 0 ∧ (rd_T35 l i).f4 < (rd_T35 l ((i : Int) - 1)).f4 then false
 else true
def trace_valid.okB (l : List S35) : Bool := if 256 < (l.length : Int) then false else (List.range l.length).all (trace_valid.okAt l)
def trace_valid.f (l0_0 : List (S35)) : Option (Bool) := some (trace_valid.okB l0_0)
theorem trace_valid.zeroB (w : World) : (zeroValue 4).run Try.prog w = .ok (.bool false) w := by kernel_rfl
theorem trace_valid.keys_is (l : List S35) (i : Nat) : ∀ x ∈ trace_valid.keys l i, trace_valid.IsK x := by
 intro x hx; obtain ⟨y, _, rfl⟩ := List.mem_map.mp hx; exact ⟨y, rfl⟩
theorem trace_valid.keys_mem {l : List S35} {i : Nat} {k : Int × Int × Int × Int} : trace_valid.enc k ∈ trace_valid.keys l i ↔ k ∈ (l.take i).map trace_valid.key := by
 unfold trace_valid.keys
 constructor
 ·intro h
  obtain ⟨y, hy, e⟩ := List.mem_map.mp h; exact trace_valid.enc_inj e ▸ hy
 ·exact fun h => List.mem_map.mpr ⟨k, h, rfl⟩
theorem trace_valid.keys_snoc (l : List S35) (i : Nat) (x0 x1 x2 x3 : Int) (e0 : x0 = (rd_T35 l i).f0) (e1 : x1 = (rd_T35 l i).f1) (e2 : x2 = (rd_T35 l i).f2) (e3 : x3 = (rd_T35 l i).f3) (h : i < l.length) : trace_valid.keys l (i + 1) = trace_valid.keys l i ++ [trace_valid.enc (x0, x1, x2, x3)] := by
 unfold trace_valid.keys; rw [List.take_succ_eq_append_getElem h, List.map_append, List.map_append, e0, e1, e2, e3]; unfold rd_T35; simp [List.getD_eq_getElem?_getD, List.getElem?_eq_getElem h, trace_valid.key]
theorem trace_valid.look_yes {W : World} {b : Nat} {l : List S35} {i : Nat} {x0 x1 x2 x3 : Int} (h : SetIs W b (trace_valid.keys l i)) (hx : (x0, x1, x2, x3) ∈ (l.take i).map trace_valid.key) :
  (Instr.lookup 65 (.map (some b)) (.agg #[.int .i64 x0, .int .i64 x1, .int .i64 x2, .int .i64 x3]) false).run Try.prog W = .ok (.bool true) W :=
 (h.lookR (IsK := trace_valid.IsK) Try.underlying65 Try.underlying56 (trace_valid.zeroB _) (fun _ _ => rfl) trace_valid.hEq trace_valid.hCk ⟨(x0, x1, x2, x3), rfl⟩ (trace_valid.keys_is l i)).1 (trace_valid.keys_mem.mpr hx)
theorem trace_valid.look_no {W : World} {b : Nat} {l : List S35} {i : Nat} {x0 x1 x2 x3 : Int} (h : SetIs W b (trace_valid.keys l i)) (hx : (x0, x1, x2, x3) ∉ (l.take i).map trace_valid.key) :
  (Instr.lookup 65 (.map (some b)) (.agg #[.int .i64 x0, .int .i64 x1, .int .i64 x2, .int .i64 x3]) false).run Try.prog W = .ok (.bool false) W :=
 (h.lookR (IsK := trace_valid.IsK) Try.underlying65 Try.underlying56 (trace_valid.zeroB _) (fun _ _ => rfl) trace_valid.hEq trace_valid.hCk ⟨(x0, x1, x2, x3), rfl⟩ (trace_valid.keys_is l i)).2 (fun h' => hx (trace_valid.keys_mem.mp h'))
theorem trace_valid.below {w W w9 : World} (h : Below w.heap.size w W) (hg : W.grownBy w9 (some (w.heap.size + 1))) : Below w.heap.size w w9 :=
 pw_below_grown h _ h.size hg (by intro k hk; cases hk; omega)
theorem trace_valid.next (i : Nat) : (Value.int .i64 ((i : Int) + 1)) = .int .i64 ((i + 1 : Nat) : Int) := by simp
theorem trace_valid.put {W : World} {ops : Array Oper} {rest : List Oper} {o : Oper} {a : Act} {Q : Exit → Act → World → Prop} {b : Nat} {l : List S35} {i : Nat} {x0 x1 x2 x3 : Int}
  (hg : o.guard = none) (m y v : Operand) (hop : o.op = Op.mapUpdate 65 m y v) (hm : a.eval m = .map (some b)) (hx : a.eval y = .agg #[.int .i64 x0, .int .i64 x1, .int .i64 x2, .int .i64 x3]) (hv : a.eval v = .bool true) (h : SetIs W b (trace_valid.keys l i)) (hn : (x0, x1, x2, x3) ∉ (l.take i).map trace_valid.key)
  (hnext : ∀ w', SetIs w' b (trace_valid.keys l i ++ [trace_valid.enc (x0, x1, x2, x3)]) → W.grownBy w' (some b) → wpList Try.prog ops Q rest (a.put o.dst undef) w') : wpList Try.prog ops Q (o :: rest) a W :=
 wpList_put_setR (IsK := trace_valid.IsK) _ hg m y v 65 56 4 hop Try.underlying65 Try.underlying56 (fun _ _ => rfl) trace_valid.hEq trace_valid.hCk hm (trace_valid.enc (x0, x1, x2, x3)) hx hv h ⟨_, rfl⟩ (trace_valid.keys_is l i) (fun h' => hn (trace_valid.keys_mem.mp h')) hnext
def trace_valid.T7 : Bool × List (List Nat × List Nat) := (true, [([], []), ([0], [0]), ([1], [1]), ([2, 1], [2]), ([3], [3]), ([3], [3]), ([5, 3, 3], [3, 5]), ([4, 6, 3], [3, 4, 6]), ([3, 7], [3, 7]), ([8, 6], [8]), ([9], [9]), ([10, 9], [9, 10]), ([11, 9, 9], [9, 11]), ([12], [12]), ([13, 12], [12, 13]), ([12], [12]), ([15, 12], [12, 15]), ([12], [12]), ([17, 12], [12, 17]), ([16, 18, 12], [12, 16, 18]), ([19, 12], [12, 19]), ([20, 12], [12, 20]), ([14, 21, 12], [12, 14, 21]), ([12, 22, 9], [9, 12, 22]), ([9, 23], [9, 23])])
def trace_valid.B7 : List Nat := [0, 1, 3, 7, 15, 15, 47, 127, 255, 511, 1023, 2047, 4095, 8191, 16383, 8191, 40959, 8191, 139263, 499711, 1023999, 2072575, 4194303, 8388607, 16777215]
theorem trace_valid.tab7 : rtab .any (opsOf Try.f28 7) = trace_valid.T7 := by kernel_rfl
theorem trace_valid.bits7 : waitsOk trace_valid.T7.2 trace_valid.B7 = true := by kernel_rfl
set_option maxHeartbeats 16000000 in
set_option maxRecDepth 100000 in
theorem trace_valid.loop (A0_0 : Option Addr) (c0_0 : Nat) (l0_0 : List (S35)) (r : Bool) (w : World) (hr0_0 : Kd.C k35 w A0_0 l0_0.length l0_0) (hc0_0 : l0_0.length ≤ c0_0)
  (b5 : decide (256 < (l0_0.length : Int)) = false)
  (h : (List.range l0_0.length).all (trace_valid.okAt l0_0) = r) :
  Calls Try.prog 28 #[.agg #[.slice A0_0 l0_0.length c0_0]] w fun e w' => e = .returned (.bool r) ∧ Below w.heap.size w w' := by
 have R1 : ∀ (i : Nat), ∀ {q : Nat}, i + (q + 1) = l0_0.length → trace_valid.okAt l0_0 i = false → false = r := by
  intro i q hi hk; rw [← h]
  symm
  rw [List.all_eq_false]; exact ⟨i, List.mem_range.mpr (by omega), by simp [hk]⟩
 have R2 : (∀ j, j < l0_0.length → trace_valid.okAt l0_0 j = true) → true = r := by
  intro hk; rw [← h]
  symm
  rw [List.all_eq_true]; (exact fun j hj => hk j (List.mem_range.mp hj))
 clear h; have HR0_0 := Aside0.mk hr0_0; have HC0_0 := Aside0.mk hc0_0; have HLEN : Aside0 (l0_0.length ≤ 256) := ⟨by have := of_decide_eq_false b5; omega⟩; clear hr0_0 hc0_0; have hmm := @run_makeMap Try.prog; go_enter Try.func28, Try.ntmps28; go_wp2; clear hmm b5; go_loopg [14] l0_0.length (fun kq v14 w' => ∃ i : Nat, v14 = .int .i64 i ∧ Aside0 (i + kq = l0_0.length) ∧ Aside0 (w'.heap[w.heap.size]? = some (.cells #[.slice A0_0 l0_0.length c0_0] 29 (0, 0))) ∧ Aside0 (SetIs w' (w.heap.size + 1) (trace_valid.keys l0_0 i)) ∧ Aside0 (Below w.heap.size w w') ∧ Aside0 (∀ j, j < i → trace_valid.okAt l0_0 j = true))
 case atStart =>
  refine ⟨0, rfl, ⟨by omega⟩, ⟨?_⟩, ⟨?_⟩, ⟨below_alloc (below_alloc (Below.refl _ _) _) _⟩, ⟨fun j hj => by omega⟩⟩
  ·rw [Below.heap_alloc _ _ _ (by simp)]
   exact heap_alloc_new w _
  ·have hk0 : trace_valid.keys l0_0 0 = [] := rfl
   have hs0 := SetIs.made (w.alloc (.cells #[.slice A0_0 l0_0.length c0_0] 29)); (have hz0 : (w.alloc (.cells #[.slice A0_0 l0_0.length c0_0] 29)).heap.size = w.heap.size + 1 := by simp); rw [hz0] at hs0; rw [hk0]; exact hs0
 case round =>
  obtain ⟨i, rfl, HI, BK, HS, HBr, HO⟩ := hrel
  have BLK : ∀ {W w9 : World}, W.heap[w.heap.size]? = some (.cells #[.slice A0_0 l0_0.length c0_0] 29 (0, 0)) → W.grownBy w9 (some (w.heap.size + 1)) → w9.heap[w.heap.size]? = some (.cells #[.slice A0_0 l0_0.length c0_0] 29 (0, 0)) := by
   intro W w9 hh hg; have hlt := blk_lt hh; rw [hg.block _ hlt (by simp)]; exact hh
  cases gk with
  | zero =>
   have c4b0 : decide ((i : Int) < (l0_0.length : Int)) = false := decide_eq_false (by have := HI.out; omega); have c4b1 : decide (i < l0_0.length) = false := decide_eq_false (by have := HI.out; omega); have hr := R2 (fun j hj => HO.out j (by have := HI.out; omega)); subst hr; clear R1 R2 BLK; go_wp2; go_ret
   exact ⟨rfl, HBr.out⟩
  | succ k1 =>
   have c4b0 : decide ((i : Int) < (l0_0.length : Int)) = true := decide_eq_true (by have := HI.out; omega); (have p1 : 0 ≤ (i : Int) := by omega); have q1 : (i : Int) < (l0_0.length : Int) := of_decide_eq_true c4b0; obtain ⟨ad, e1, hx0, hx1, hx2, hx3, hx4, hx5⟩ := at_T35 HR0_0.out i p1 q1; cases e1; replace hx0 := (HBr.out.cell (World.block_lt_of_cell? w _ hx0)).trans hx0; replace hx1 := (HBr.out.cell (World.block_lt_of_cell? w _ hx1)).trans hx1; replace hx2 := (HBr.out.cell (World.block_lt_of_cell? w _ hx2)).trans hx2; replace hx3 := (HBr.out.cell (World.block_lt_of_cell? w _ hx3)).trans hx3; replace hx4 := (HBr.out.cell (World.block_lt_of_cell? w _ hx4)).trans hx4; replace hx5 := (HBr.out.cell (World.block_lt_of_cell? w _ hx5)).trans hx5; rw [Int.toNat_natCast] at hx0 hx1 hx2 hx3 hx4 hx5; (have hi64 : (i : Int) ≤ 256 := by have := HLEN.out; omega); clear p1; replace q1 := eq_true q1; obtain ⟨x0, hx0e⟩ : ∃ x0, x0 = (rd_T35 l0_0 i).f0 := ⟨_, rfl⟩; obtain ⟨x1, hx1e⟩ : ∃ x0, x0 = (rd_T35 l0_0 i).f1 := ⟨_, rfl⟩; obtain ⟨x2, hx2e⟩ : ∃ x0, x0 = (rd_T35 l0_0 i).f2 := ⟨_, rfl⟩; obtain ⟨x3, hx3e⟩ : ∃ x0, x0 = (rd_T35 l0_0 i).f3 := ⟨_, rfl⟩; obtain ⟨x4, hx4e⟩ : ∃ x0, x0 = (rd_T35 l0_0 i).f4 := ⟨_, rfl⟩; obtain ⟨x5, hx5e⟩ : ∃ x0, x0 = (rd_T35 l0_0 i).f5 := ⟨_, rfl⟩; rw [← hx0e] at hx0; rw [← hx1e] at hx1; rw [← hx2e] at hx2; rw [← hx3e] at hx3; rw [← hx4e] at hx4; rw [← hx5e] at hx5; have E0 := Aside0.mk hx0e; have E1 := Aside0.mk hx1e; have E2 := Aside0.mk hx2e
   have E3 := Aside0.mk hx3e; have E4 := Aside0.mk hx4e; have E5 := Aside0.mk hx5e; clear hx0e hx1e hx2e hx3e hx4e hx5e; have hB := below_alloc (Below.refl wr.heap.size wr) (.cells #[.int .i64 x0, .int .i64 x1, .int .i64 x2, .int .i64 x3, .int .i64 x4, .int .i64 x5] 35); have hN := heap_alloc_new wr (.cells #[.int .i64 x0, .int .i64 x1, .int .i64 x2, .int .i64 x3, .int .i64 x4, .int .i64 x5] 35); have hK1 : (wr.alloc (.cells #[.int .i64 x0, .int .i64 x1, .int .i64 x2, .int .i64 x3, .int .i64 x4, .int .i64 x5] 35)).heap[w.heap.size]? = some (.cells #[.slice (some ad) l0_0.length c0_0] 29 (0, 0)) := blk_alloc BK.out _; have hS1 := HS.out.alloc (.cells #[.int .i64 x0, .int .i64 x1, .int .i64 x2, .int .i64 x3, .int .i64 x4, .int .i64 x5] 35); have hB1 := below_alloc HBr.out (.cells #[.int .i64 x0, .int .i64 x1, .int .i64 x2, .int .i64 x3, .int .i64 x4, .int .i64 x5] 35); have hC1 := Kd.C_below HR0_0.out hB1; have HN := Aside0.mk hN; have HK1 := Aside0.mk hK1; have HS1 := Aside0.mk hS1; have HB1 := Aside0.mk hB1; have HC1 := Aside0.mk hC1; clear hB hN hK1 hS1 hB1 hC1; go_wp2_with (fail); generalize wr.alloc (.cells #[.int .i64 x0, .int .i64 x1, .int .i64 x2, .int .i64 x3, .int .i64 x4, .int .i64 x5] 35) = W1 at HN HK1 HS1 HB1 HC1 ⊢; clear hx0 hx1 hx2 hx3 hx4 hx5; have hx0 : W1.cell? ⟨wr.heap.size, 0, none⟩ = some (.int .i64 x0) := (blk_cell HN.out 0).trans rfl; have hx1 : W1.cell? ⟨wr.heap.size, 1, none⟩ = some (.int .i64 x1) := (blk_cell HN.out 1).trans rfl
   have hx2 : W1.cell? ⟨wr.heap.size, 2, none⟩ = some (.int .i64 x2) := (blk_cell HN.out 2).trans rfl; have hx3 : W1.cell? ⟨wr.heap.size, 3, none⟩ = some (.int .i64 x3) := (blk_cell HN.out 3).trans rfl; have hx4 : W1.cell? ⟨wr.heap.size, 4, none⟩ = some (.int .i64 x4) := (blk_cell HN.out 4).trans rfl; have hx5 : W1.cell? ⟨wr.heap.size, 5, none⟩ = some (.int .i64 x5) := (blk_cell HN.out 5).trans rfl; have hz0 : W1.cell? ⟨w.heap.size, 0, none⟩ = some (.slice (some ad) l0_0.length c0_0) := (blk_cell HK1.out 0).trans rfl; have HN1 := HN; have hPP : ∃ b, trace_proper.f x0 x1 x2 x3 x4 x5 = some b := trace_valid.proper_some x0 x1 x2 x3 x4 x5; obtain ⟨b, hb⟩ := hPP; have PP := Aside0.mk hb; clear hb
   cases b with
   | false =>
    have hk : trace_valid.okAt l0_0 i = false := by
     unfold trace_valid.okAt; rw [← E0.out, ← E1.out, ← E2.out, ← E3.out, ← E4.out, ← E5.out, if_pos PP.out]
    have hr := R1 i HI.out hk; subst hr; clear hk R1 R2 BLK; refine start_ (n := 25) (S := fun w' => w'.cell? ⟨wr.heap.size, 0, none⟩ = some (.int .i64 x0) ∧ w'.cell? ⟨wr.heap.size, 1, none⟩ = some (.int .i64 x1) ∧ w'.cell? ⟨wr.heap.size, 2, none⟩ = some (.int .i64 x2) ∧ w'.cell? ⟨wr.heap.size, 3, none⟩ = some (.int .i64 x3) ∧ w'.cell? ⟨wr.heap.size, 4, none⟩ = some (.int .i64 x4) ∧ w'.cell? ⟨wr.heap.size, 5, none⟩ = some (.int .i64 x5) ∧ w'.cell? ⟨w.heap.size, 0, none⟩ = some (.slice (some ad) l0_0.length c0_0) ∧ SetIs w' (w.heap.size + 1) (trace_valid.keys l0_0 i)) (ds := []) (marksOf 25 0) (by kernel_rfl) rfl rfl ⟨(blk_cell (blk_drew HN1.out) 0).trans rfl, (blk_cell (blk_drew HN1.out) 1).trans rfl, (blk_cell (blk_drew HN1.out) 2).trans rfl, (blk_cell (blk_drew HN1.out) 3).trans rfl, (blk_cell (blk_drew HN1.out) 4).trans rfl, (blk_cell (blk_drew HN1.out) 5).trans rfl, (blk_cell (blk_drew HK1.out) 0).trans rfl, HS1.out.drew⟩ (fun hHeld => ?_); refine with_tabW trace_valid.tab7 trace_valid.bits7 (fun HT_ HW_ => ?_); (refine ta_ 0 19 25 1 ?_ rfl rfl (take_ofW HT_.out HW_.out (by kernel_rfl)) (fun _ _ _ h => h) (by rfl) ?_ hHeld ?_ ?_ ?_; rotate_left; rintro w' ⟨s0, s1, s2, s3, s4, s5, s6, s7⟩; go_simp; with_reducible rfl; rotate_left; simp only [Act.put, List.setIfInBounds_toArray, List.set_cons_zero, List.set_cons_succ, q1, q2, q3, i64_w, i32_w]; rfl); refine one_ (i := 1) (N := some 20) (marksOf 25 3) rfl rfl (one_of HT_.out (by kernel_rfl)) (by decide) (fun K hK => ?_)
    refine goes_ Try.func29 (by kernel_rfl) rfl #[.agg #[.int .i64 x0, .int .i64 x1, .int .i64 x2, .int .i64 x3, .int .i64 x4, .int .i64 x5]] (by kernel_rfl) rfl rfl (by kernel_rfl) ?_; refine (trace_proper.calls x0 x1 x2 x3 x4 x5 false _ PP.out).mono ?_; rintro e w2 ⟨rfl, hb2⟩; refine ⟨_, rfl, ?_⟩; have HN2 := Aside0.mk (blk_below (blk_drew HN1.out) hb2); have HK2 := Aside0.mk (blk_below (blk_drew HK1.out) hb2); have HS2 := Aside0.mk (HS1.out.drew.same (hb2.block _ HS1.out.lt)); have HB2 := Aside0.mk (below_step (below_drew1 HB1.out) hb2); clear hb2; refine hK.out _ _ ⟨(blk_cell HN2.out 0).trans rfl, (blk_cell HN2.out 1).trans rfl, (blk_cell HN2.out 2).trans rfl, (blk_cell HN2.out 3).trans rfl, (blk_cell HN2.out 4).trans rfl, (blk_cell HN2.out 5).trans rfl, (blk_cell HK2.out 0).trans rfl, HS2.out⟩ (fun hHeld => ?_); refine norm_ (a' := ?_) ?_ ?_; rotate_left
    ·show Act.put _ (some 20) _ = _
     simp only [Act.put, List.setIfInBounds_toArray, List.set_cons_zero, List.set_cons_succ, q1, q2, q3, i64_w, i32_w]; rfl
    (refine pu_ 2 21 25 7 ?_ rfl rfl (any_of HT_.out (by kernel_rfl)) (fun _ _ _ h => h) (by rfl) ?_ ?_ ?_ ?_; rotate_left; intro w'; go_simp; with_reducible rfl; rotate_left; simp only [Act.put, List.setIfInBounds_toArray, List.set_cons_zero, List.set_cons_succ, q1, q2, q3, i64_w, i32_w]; rfl); (refine pu_ 3 22 25 15 ?_ rfl rfl (any_of HT_.out (by kernel_rfl)) (fun _ _ _ h => h) (by rfl) ?_ ?_ ?_ ?_; rotate_left; intro w'; go_simp; with_reducible rfl; rotate_left; simp only [Act.put, List.setIfInBounds_toArray, List.set_cons_zero, List.set_cons_succ, q1, q2, q3, i64_w, i32_w]; rfl); refine pure_ (i := 4) (N := some 23) (v := undef) (a' := ?_) (marksOf 25 31) rfl rfl (any_of HT_.out (by kernel_rfl)) (fun _ _ _ h => h) (Or.inr ⟨by kernel_rfl, rfl⟩) ?_ ?_; rotate_left
    ·simp only [Act.put, List.setIfInBounds_toArray, List.set_cons_zero, List.set_cons_succ, q1, q2, q3, i64_w, i32_w]
     rfl
    refine pure_ (i := 5) (N := some 24) (v := undef) (a' := ?_) (marksOf 25 63) rfl rfl (any_of HT_.out (by kernel_rfl)) (fun _ _ _ h => h) (Or.inr ⟨by kernel_rfl, rfl⟩) ?_ ?_; rotate_left
    ·simp only [Act.put, List.setIfInBounds_toArray, List.set_cons_zero, List.set_cons_succ, q1, q2, q3, i64_w, i32_w]
     rfl
    refine pure_ (i := 6) (N := some 25) (v := undef) (a' := ?_) (marksOf 25 127) rfl rfl (any_of HT_.out (by kernel_rfl)) (fun _ _ _ h => h) (Or.inr ⟨by kernel_rfl, rfl⟩) ?_ ?_; rotate_left
    ·simp only [Act.put, List.setIfInBounds_toArray, List.set_cons_zero, List.set_cons_succ, q1, q2, q3, i64_w, i32_w]
     rfl
    refine pure_ (i := 7) (N := some 26) (v := undef) (a' := ?_) (marksOf 25 255) rfl rfl (any_of HT_.out (by kernel_rfl)) (fun _ _ _ h => h) (Or.inr ⟨by kernel_rfl, rfl⟩) ?_ ?_; rotate_left
    ·simp only [Act.put, List.setIfInBounds_toArray, List.set_cons_zero, List.set_cons_succ, q1, q2, q3, i64_w, i32_w]
     rfl
    (refine pu_ 8 27 25 511 ?_ rfl rfl (any_of HT_.out (by kernel_rfl)) (fun _ _ _ h => h) (by rfl) ?_ ?_ ?_ ?_; rotate_left; intro w'; go_simp; with_reducible rfl; rotate_left; simp only [Act.put, List.setIfInBounds_toArray, List.set_cons_zero, List.set_cons_succ, q1, q2, q3, i64_w, i32_w]; rfl); (refine pu_ 9 28 25 1023 ?_ rfl rfl (any_of HT_.out (by kernel_rfl)) (fun _ _ _ h => h) (by rfl) ?_ ?_ ?_ ?_; rotate_left; intro w'; go_simp; with_reducible rfl; rotate_left; simp only [Act.put, List.setIfInBounds_toArray, List.set_cons_zero, List.set_cons_succ, q1, q2, q3, i64_w, i32_w]; rfl); refine pure_ (i := 10) (N := some 29) (v := undef) (a' := ?_) (marksOf 25 2047) rfl rfl (any_of HT_.out (by kernel_rfl)) (fun _ _ _ h => h) (Or.inr ⟨by kernel_rfl, rfl⟩) ?_ ?_; rotate_left
    ·simp only [Act.put, List.setIfInBounds_toArray, List.set_cons_zero, List.set_cons_succ, q1, q2, q3, i64_w, i32_w]
     rfl
    refine pure_ (i := 11) (N := some 30) (v := undef) (a' := ?_) (marksOf 25 4095) rfl rfl (any_of HT_.out (by kernel_rfl)) (fun _ _ _ h => h) (Or.inr ⟨by kernel_rfl, rfl⟩) ?_ ?_; rotate_left
    ·simp only [Act.put, List.setIfInBounds_toArray, List.set_cons_zero, List.set_cons_succ, q1, q2, q3, i64_w, i32_w]
     rfl
    refine pure_ (i := 12) (N := some 31) (v := undef) (a' := ?_) (marksOf 25 8191) rfl rfl (any_of HT_.out (by kernel_rfl)) (fun _ _ _ h => h) (Or.inr ⟨by kernel_rfl, rfl⟩) ?_ ?_; rotate_left
    ·simp only [Act.put, List.setIfInBounds_toArray, List.set_cons_zero, List.set_cons_succ, q1, q2, q3, i64_w, i32_w]
     rfl
    refine pure_ (i := 13) (N := some 32) (v := undef) (a' := ?_) (marksOf 25 16383) rfl rfl (any_of HT_.out (by kernel_rfl)) (fun _ _ _ h => h) (Or.inr ⟨by kernel_rfl, rfl⟩) ?_ ?_; rotate_left
    ·simp only [Act.put, List.setIfInBounds_toArray, List.set_cons_zero, List.set_cons_succ, q1, q2, q3, i64_w, i32_w]
     rfl
    refine pure_ (i := 14) (N := some 33) (v := undef) (a' := ?_) (marksOf 25 32767) rfl rfl (any_of HT_.out (by kernel_rfl)) (fun _ _ _ h => h) (Or.inr ⟨by kernel_rfl, rfl⟩) ?_ ?_; rotate_left
    ·simp only [Act.put, List.setIfInBounds_toArray, List.set_cons_zero, List.set_cons_succ, q1, q2, q3, i64_w, i32_w]
     rfl
    refine pure_ (i := 15) (N := some 34) (v := undef) (a' := ?_) (marksOf 25 65535) rfl rfl (any_of HT_.out (by kernel_rfl)) (fun _ _ _ h => h) (Or.inr ⟨by kernel_rfl, rfl⟩) ?_ ?_; rotate_left
    ·simp only [Act.put, List.setIfInBounds_toArray, List.set_cons_zero, List.set_cons_succ, q1, q2, q3, i64_w, i32_w]
     rfl
    refine pure_ (i := 16) (N := some 35) (v := undef) (a' := ?_) (marksOf 25 131071) rfl rfl (any_of HT_.out (by kernel_rfl)) (fun _ _ _ h => h) (Or.inr ⟨by kernel_rfl, rfl⟩) ?_ ?_; rotate_left
    ·simp only [Act.put, List.setIfInBounds_toArray, List.set_cons_zero, List.set_cons_succ, q1, q2, q3, i64_w, i32_w]
     rfl
    refine pure_ (i := 17) (N := some 36) (v := undef) (a' := ?_) (marksOf 25 262143) rfl rfl (any_of HT_.out (by kernel_rfl)) (fun _ _ _ h => h) (Or.inr ⟨by kernel_rfl, rfl⟩) ?_ ?_; rotate_left
    ·simp only [Act.put, List.setIfInBounds_toArray, List.set_cons_zero, List.set_cons_succ, q1, q2, q3, i64_w, i32_w]
     rfl
    refine pure_ (i := 18) (N := some 37) (v := undef) (a' := ?_) (marksOf 25 524287) rfl rfl (any_of HT_.out (by kernel_rfl)) (fun _ _ _ h => h) (Or.inr ⟨by kernel_rfl, rfl⟩) ?_ ?_; rotate_left
    ·simp only [Act.put, List.setIfInBounds_toArray, List.set_cons_zero, List.set_cons_succ, q1, q2, q3, i64_w, i32_w]
     rfl
    refine pure_ (i := 19) (N := some 38) (v := undef) (a' := ?_) (marksOf 25 1048575) rfl rfl (any_of HT_.out (by kernel_rfl)) (fun _ _ _ h => h) (Or.inr ⟨by kernel_rfl, rfl⟩) ?_ ?_; rotate_left
    ·simp only [Act.put, List.setIfInBounds_toArray, List.set_cons_zero, List.set_cons_succ, q1, q2, q3, i64_w, i32_w]
     rfl
    refine pure_ (i := 20) (N := some 39) (v := undef) (a' := ?_) (marksOf 25 2097151) rfl rfl (any_of HT_.out (by kernel_rfl)) (fun _ _ _ h => h) (Or.inr ⟨by kernel_rfl, rfl⟩) ?_ ?_; rotate_left
    ·simp only [Act.put, List.setIfInBounds_toArray, List.set_cons_zero, List.set_cons_succ, q1, q2, q3, i64_w, i32_w]
     rfl
    refine pure_ (i := 21) (N := some 40) (v := undef) (a' := ?_) (marksOf 25 4194303) rfl rfl (any_of HT_.out (by kernel_rfl)) (fun _ _ _ h => h) (Or.inr ⟨by kernel_rfl, rfl⟩) ?_ ?_; rotate_left
    ·simp only [Act.put, List.setIfInBounds_toArray, List.set_cons_zero, List.set_cons_succ, q1, q2, q3, i64_w, i32_w]
     rfl
    refine pure_ (i := 22) (N := some 41) (v := undef) (a' := ?_) (marksOf 25 8388607) rfl rfl (any_of HT_.out (by kernel_rfl)) (fun _ _ _ h => h) (Or.inr ⟨by kernel_rfl, rfl⟩) ?_ ?_; rotate_left
    ·simp only [Act.put, List.setIfInBounds_toArray, List.set_cons_zero, List.set_cons_succ, q1, q2, q3, i64_w, i32_w]
     rfl
    refine pure_ (i := 23) (N := some 42) (v := undef) (a' := ?_) (marksOf 25 16777215) rfl rfl (any_of HT_.out (by kernel_rfl)) (fun _ _ _ h => h) (Or.inr ⟨by kernel_rfl, rfl⟩) ?_ ?_; rotate_left
    ·simp only [Act.put, List.setIfInBounds_toArray, List.set_cons_zero, List.set_cons_succ, q1, q2, q3, i64_w, i32_w]
     rfl
    (refine pu_ 24 43 25 33554431 ?_ rfl rfl (any_of HT_.out (by kernel_rfl)) (fun _ _ _ h => h) (by rfl) ?_ ?_ ?_ ?_; rotate_left; intro w'; go_simp; with_reducible rfl; rotate_left; simp only [Act.put, List.setIfInBounds_toArray, List.set_cons_zero, List.set_cons_succ, q1, q2, q3, i64_w, i32_w]; rfl); refine done_ (done_of HT_.out (by kernel_rfl)) ?_; (try simp only [Act.put, List.setIfInBounds_toArray, List.set_cons_zero, List.set_cons_succ]); go_wp2; go_ret
    exact ⟨rfl, by repeat (first | exact HB2.out | apply pw_below_drewN | apply below_drew1)⟩
   | true =>
    (have hpn : ¬ trace_proper.f x0 x1 x2 x3 x4 x5 = some false := by rw [PP.out]; simp); have HPN := Aside0.mk hpn; clear hpn
    by_cases t2 : (⟨x0, x1, x2, x3⟩ : Int × Int × Int × Int) ∈ (l0_0.take i).map trace_valid.key
    ·have Pt2 := Aside0.mk t2
     clear t2
     have hk : trace_valid.okAt l0_0 i = false := by
      unfold trace_valid.okAt; rw [← E0.out, ← E1.out, ← E2.out, ← E3.out, ← E4.out, ← E5.out, if_neg HPN.out, if_pos Pt2.out]
     have hr := R1 i HI.out hk; subst hr; clear hk R1 R2 BLK; refine start_ (n := 25) (S := fun w' => w'.cell? ⟨wr.heap.size, 0, none⟩ = some (.int .i64 x0) ∧ w'.cell? ⟨wr.heap.size, 1, none⟩ = some (.int .i64 x1) ∧ w'.cell? ⟨wr.heap.size, 2, none⟩ = some (.int .i64 x2) ∧ w'.cell? ⟨wr.heap.size, 3, none⟩ = some (.int .i64 x3) ∧ w'.cell? ⟨wr.heap.size, 4, none⟩ = some (.int .i64 x4) ∧ w'.cell? ⟨wr.heap.size, 5, none⟩ = some (.int .i64 x5) ∧ w'.cell? ⟨w.heap.size, 0, none⟩ = some (.slice (some ad) l0_0.length c0_0) ∧ SetIs w' (w.heap.size + 1) (trace_valid.keys l0_0 i)) (ds := []) (marksOf 25 0) (by kernel_rfl) rfl rfl ⟨(blk_cell (blk_drew HN1.out) 0).trans rfl, (blk_cell (blk_drew HN1.out) 1).trans rfl, (blk_cell (blk_drew HN1.out) 2).trans rfl, (blk_cell (blk_drew HN1.out) 3).trans rfl, (blk_cell (blk_drew HN1.out) 4).trans rfl, (blk_cell (blk_drew HN1.out) 5).trans rfl, (blk_cell (blk_drew HK1.out) 0).trans rfl, HS1.out.drew⟩ (fun hHeld => ?_); refine with_tabW trace_valid.tab7 trace_valid.bits7 (fun HT_ HW_ => ?_); (refine ta_ 0 19 25 1 ?_ rfl rfl (take_ofW HT_.out HW_.out (by kernel_rfl)) (fun _ _ _ h => h) (by rfl) ?_ hHeld ?_ ?_ ?_; rotate_left; rintro w' ⟨s0, s1, s2, s3, s4, s5, s6, s7⟩; go_simp; with_reducible rfl; rotate_left; simp only [Act.put, List.setIfInBounds_toArray, List.set_cons_zero, List.set_cons_succ, q1, q2, q3, i64_w, i32_w]; rfl); refine one_ (i := 1) (N := some 20) (marksOf 25 3) rfl rfl (one_of HT_.out (by kernel_rfl)) (by decide) (fun K hK => ?_)
     refine goes_ Try.func29 (by kernel_rfl) rfl #[.agg #[.int .i64 x0, .int .i64 x1, .int .i64 x2, .int .i64 x3, .int .i64 x4, .int .i64 x5]] (by kernel_rfl) rfl rfl (by kernel_rfl) ?_; refine (trace_proper.calls x0 x1 x2 x3 x4 x5 true _ PP.out).mono ?_; rintro e w2 ⟨rfl, hb2⟩; refine ⟨_, rfl, ?_⟩; have HN2 := Aside0.mk (blk_below (blk_drew HN1.out) hb2); have HK2 := Aside0.mk (blk_below (blk_drew HK1.out) hb2); have HS2 := Aside0.mk (HS1.out.drew.same (hb2.block _ HS1.out.lt)); have HB2 := Aside0.mk (below_step (below_drew1 HB1.out) hb2); clear hb2; refine hK.out _ _ ⟨(blk_cell HN2.out 0).trans rfl, (blk_cell HN2.out 1).trans rfl, (blk_cell HN2.out 2).trans rfl, (blk_cell HN2.out 3).trans rfl, (blk_cell HN2.out 4).trans rfl, (blk_cell HN2.out 5).trans rfl, (blk_cell HK2.out 0).trans rfl, HS2.out⟩ (fun hHeld => ?_); refine norm_ (a' := ?_) ?_ ?_; rotate_left
     ·show Act.put _ (some 20) _ = _
      simp only [Act.put, List.setIfInBounds_toArray, List.set_cons_zero, List.set_cons_succ, q1, q2, q3, i64_w, i32_w]; rfl
     (refine pu_ 2 21 25 7 ?_ rfl rfl (any_of HT_.out (by kernel_rfl)) (fun _ _ _ h => h) (by rfl) ?_ ?_ ?_ ?_; rotate_left; intro w'; go_simp; with_reducible rfl; rotate_left; simp only [Act.put, List.setIfInBounds_toArray, List.set_cons_zero, List.set_cons_succ, q1, q2, q3, i64_w, i32_w]; rfl); (refine pu_ 3 22 25 15 ?_ rfl rfl (any_of HT_.out (by kernel_rfl)) (fun _ _ _ h => h) (by rfl) ?_ ?_ ?_ ?_; rotate_left; intro w'; go_simp; with_reducible rfl; rotate_left; simp only [Act.put, List.setIfInBounds_toArray, List.set_cons_zero, List.set_cons_succ, q1, q2, q3, i64_w, i32_w]; rfl); (refine pu_ 4 23 25 31 ?_ rfl rfl (any_of HT_.out (by kernel_rfl)) (fun _ _ _ h => h) (by rfl) ?_ ?_ ?_ ?_; rotate_left; intro w'; go_simp; with_reducible rfl; rotate_left; simp only [Act.put, List.setIfInBounds_toArray, List.set_cons_zero, List.set_cons_succ, q1, q2, q3, i64_w, i32_w]; rfl); (refine ta_ 5 24 25 63 ?_ rfl rfl (take_ofW HT_.out HW_.out (by kernel_rfl)) (fun _ _ _ h => h) (by rfl) ?_ hHeld ?_ ?_ ?_; rotate_left; rintro w' ⟨s0, s1, s2, s3, s4, s5, s6, s7⟩; go_simp; with_reducible rfl; rotate_left; simp only [Act.put, List.setIfInBounds_toArray, List.set_cons_zero, List.set_cons_succ, q1, q2, q3, i64_w, i32_w]; rfl); refine one_ (i := 6) (N := some 25) (marksOf 25 127) rfl rfl (one_of HT_.out (by kernel_rfl)) (by decide) (fun K hK => ?_)
     refine goes_ Try.func31 (by kernel_rfl) rfl #[.agg #[.int .i64 x0, .int .i64 x1, .int .i64 x2, .int .i64 x3, .int .i64 x4, .int .i64 x5]] (by kernel_rfl) rfl rfl (by kernel_rfl) ?_; refine (trace_of.calls x0 x1 x2 x3 x4 x5 x0 x1 x2 x3 _ rfl).mono ?_; rintro e w3 ⟨rfl, hb3⟩; refine ⟨_, rfl, ?_⟩; have HN3 := Aside0.mk (blk_below (HN2.out) hb3); have HK3 := Aside0.mk (blk_below (HK2.out) hb3); have HS3 := Aside0.mk (HS2.out.same (hb3.block _ HS2.out.lt)); have HB3 := Aside0.mk (below_step (HB2.out) hb3); clear hb3; refine hK.out _ _ ⟨(blk_cell HN3.out 0).trans rfl, (blk_cell HN3.out 1).trans rfl, (blk_cell HN3.out 2).trans rfl, (blk_cell HN3.out 3).trans rfl, (blk_cell HN3.out 4).trans rfl, (blk_cell HN3.out 5).trans rfl, (blk_cell HK3.out 0).trans rfl, HS3.out⟩ (fun hHeld => ?_); refine norm_ (a' := ?_) ?_ ?_; rotate_left
     ·show Act.put _ (some 25) _ = _
      simp only [Act.put, List.setIfInBounds_toArray, List.set_cons_zero, List.set_cons_succ, q1, q2, q3, i64_w, i32_w]; rfl
     refine ta_ 7 26 25 255 ?_ rfl rfl (take_ofW HT_.out HW_.out (by kernel_rfl)) (fun _ _ _ h => h) (by rfl) ?_ hHeld ?_ ?_ ?_; rotate_left
     ·rintro w' ⟨s0, s1, s2, s3, s4, s5, s6, s7⟩
      have hlook := trace_valid.look_yes s7 Pt2.out; go_simp
      with_reducible rfl
     rotate_left
     ·simp only [Act.put, List.setIfInBounds_toArray, List.set_cons_zero, List.set_cons_succ, q1, q2, q3, i64_w, i32_w]
      rfl
     (refine pu_ 8 27 25 511 ?_ rfl rfl (any_of HT_.out (by kernel_rfl)) (fun _ _ _ h => h) (by rfl) ?_ ?_ ?_ ?_; rotate_left; intro w'; go_simp; with_reducible rfl; rotate_left; simp only [Act.put, List.setIfInBounds_toArray, List.set_cons_zero, List.set_cons_succ, q1, q2, q3, i64_w, i32_w]; rfl); (refine pu_ 9 28 25 1023 ?_ rfl rfl (any_of HT_.out (by kernel_rfl)) (fun _ _ _ h => h) (by rfl) ?_ ?_ ?_ ?_; rotate_left; intro w'; go_simp; with_reducible rfl; rotate_left; simp only [Act.put, List.setIfInBounds_toArray, List.set_cons_zero, List.set_cons_succ, q1, q2, q3, i64_w, i32_w]; rfl); refine pure_ (i := 10) (N := some 29) (v := undef) (a' := ?_) (marksOf 25 2047) rfl rfl (any_of HT_.out (by kernel_rfl)) (fun _ _ _ h => h) (Or.inr ⟨by kernel_rfl, rfl⟩) ?_ ?_; rotate_left
     ·simp only [Act.put, List.setIfInBounds_toArray, List.set_cons_zero, List.set_cons_succ, q1, q2, q3, i64_w, i32_w]
      rfl
     refine pure_ (i := 11) (N := some 30) (v := undef) (a' := ?_) (marksOf 25 4095) rfl rfl (any_of HT_.out (by kernel_rfl)) (fun _ _ _ h => h) (Or.inr ⟨by kernel_rfl, rfl⟩) ?_ ?_; rotate_left
     ·simp only [Act.put, List.setIfInBounds_toArray, List.set_cons_zero, List.set_cons_succ, q1, q2, q3, i64_w, i32_w]
      rfl
     refine pure_ (i := 12) (N := some 31) (v := undef) (a' := ?_) (marksOf 25 8191) rfl rfl (any_of HT_.out (by kernel_rfl)) (fun _ _ _ h => h) (Or.inr ⟨by kernel_rfl, rfl⟩) ?_ ?_; rotate_left
     ·simp only [Act.put, List.setIfInBounds_toArray, List.set_cons_zero, List.set_cons_succ, q1, q2, q3, i64_w, i32_w]
      rfl
     refine pure_ (i := 13) (N := some 32) (v := undef) (a' := ?_) (marksOf 25 16383) rfl rfl (any_of HT_.out (by kernel_rfl)) (fun _ _ _ h => h) (Or.inr ⟨by kernel_rfl, rfl⟩) ?_ ?_; rotate_left
     ·simp only [Act.put, List.setIfInBounds_toArray, List.set_cons_zero, List.set_cons_succ, q1, q2, q3, i64_w, i32_w]
      rfl
     refine pure_ (i := 14) (N := some 33) (v := undef) (a' := ?_) (marksOf 25 32767) rfl rfl (any_of HT_.out (by kernel_rfl)) (fun _ _ _ h => h) (Or.inr ⟨by kernel_rfl, rfl⟩) ?_ ?_; rotate_left
     ·simp only [Act.put, List.setIfInBounds_toArray, List.set_cons_zero, List.set_cons_succ, q1, q2, q3, i64_w, i32_w]
      rfl
     refine pure_ (i := 15) (N := some 34) (v := undef) (a' := ?_) (marksOf 25 65535) rfl rfl (any_of HT_.out (by kernel_rfl)) (fun _ _ _ h => h) (Or.inr ⟨by kernel_rfl, rfl⟩) ?_ ?_; rotate_left
     ·simp only [Act.put, List.setIfInBounds_toArray, List.set_cons_zero, List.set_cons_succ, q1, q2, q3, i64_w, i32_w]
      rfl
     refine pure_ (i := 16) (N := some 35) (v := undef) (a' := ?_) (marksOf 25 131071) rfl rfl (any_of HT_.out (by kernel_rfl)) (fun _ _ _ h => h) (Or.inr ⟨by kernel_rfl, rfl⟩) ?_ ?_; rotate_left
     ·simp only [Act.put, List.setIfInBounds_toArray, List.set_cons_zero, List.set_cons_succ, q1, q2, q3, i64_w, i32_w]
      rfl
     refine pure_ (i := 17) (N := some 36) (v := undef) (a' := ?_) (marksOf 25 262143) rfl rfl (any_of HT_.out (by kernel_rfl)) (fun _ _ _ h => h) (Or.inr ⟨by kernel_rfl, rfl⟩) ?_ ?_; rotate_left
     ·simp only [Act.put, List.setIfInBounds_toArray, List.set_cons_zero, List.set_cons_succ, q1, q2, q3, i64_w, i32_w]
      rfl
     refine pure_ (i := 18) (N := some 37) (v := undef) (a' := ?_) (marksOf 25 524287) rfl rfl (any_of HT_.out (by kernel_rfl)) (fun _ _ _ h => h) (Or.inr ⟨by kernel_rfl, rfl⟩) ?_ ?_; rotate_left
     ·simp only [Act.put, List.setIfInBounds_toArray, List.set_cons_zero, List.set_cons_succ, q1, q2, q3, i64_w, i32_w]
      rfl
     refine pure_ (i := 19) (N := some 38) (v := undef) (a' := ?_) (marksOf 25 1048575) rfl rfl (any_of HT_.out (by kernel_rfl)) (fun _ _ _ h => h) (Or.inr ⟨by kernel_rfl, rfl⟩) ?_ ?_; rotate_left
     ·simp only [Act.put, List.setIfInBounds_toArray, List.set_cons_zero, List.set_cons_succ, q1, q2, q3, i64_w, i32_w]
      rfl
     refine pure_ (i := 20) (N := some 39) (v := undef) (a' := ?_) (marksOf 25 2097151) rfl rfl (any_of HT_.out (by kernel_rfl)) (fun _ _ _ h => h) (Or.inr ⟨by kernel_rfl, rfl⟩) ?_ ?_; rotate_left
     ·simp only [Act.put, List.setIfInBounds_toArray, List.set_cons_zero, List.set_cons_succ, q1, q2, q3, i64_w, i32_w]
      rfl
     refine pure_ (i := 21) (N := some 40) (v := undef) (a' := ?_) (marksOf 25 4194303) rfl rfl (any_of HT_.out (by kernel_rfl)) (fun _ _ _ h => h) (Or.inr ⟨by kernel_rfl, rfl⟩) ?_ ?_; rotate_left
     ·simp only [Act.put, List.setIfInBounds_toArray, List.set_cons_zero, List.set_cons_succ, q1, q2, q3, i64_w, i32_w]
      rfl
     refine pure_ (i := 22) (N := some 41) (v := undef) (a' := ?_) (marksOf 25 8388607) rfl rfl (any_of HT_.out (by kernel_rfl)) (fun _ _ _ h => h) (Or.inr ⟨by kernel_rfl, rfl⟩) ?_ ?_; rotate_left
     ·simp only [Act.put, List.setIfInBounds_toArray, List.set_cons_zero, List.set_cons_succ, q1, q2, q3, i64_w, i32_w]
      rfl
     refine pure_ (i := 23) (N := some 42) (v := undef) (a' := ?_) (marksOf 25 16777215) rfl rfl (any_of HT_.out (by kernel_rfl)) (fun _ _ _ h => h) (Or.inr ⟨by kernel_rfl, rfl⟩) ?_ ?_; rotate_left
     ·simp only [Act.put, List.setIfInBounds_toArray, List.set_cons_zero, List.set_cons_succ, q1, q2, q3, i64_w, i32_w]
      rfl
     (refine pu_ 24 43 25 33554431 ?_ rfl rfl (any_of HT_.out (by kernel_rfl)) (fun _ _ _ h => h) (by rfl) ?_ ?_ ?_ ?_; rotate_left; intro w'; go_simp; with_reducible rfl; rotate_left; simp only [Act.put, List.setIfInBounds_toArray, List.set_cons_zero, List.set_cons_succ, q1, q2, q3, i64_w, i32_w]; rfl); refine done_ (done_of HT_.out (by kernel_rfl)) ?_; (try simp only [Act.put, List.setIfInBounds_toArray, List.set_cons_zero, List.set_cons_succ]); go_wp2; go_ret; exact ⟨rfl, by repeat (first | exact HB3.out | apply pw_below_drewN | apply below_drew1)⟩
    ·have Pt2 := Aside0.mk t2
     clear t2
     by_cases t3 : i = 0
     ·have Pt3 := Aside0.mk t3
      have d3 : decide (0 < (i : Int)) = false := decide_eq_false (by omega); have d3n : decide (0 < i) = false := decide_eq_false (by omega); clear t3
      have hk : Aside0 (trace_valid.okAt l0_0 i = true) := ⟨by
       unfold trace_valid.okAt; rw [← E0.out, ← E1.out, ← E2.out, ← E3.out, ← E4.out, ← E5.out, if_neg HPN.out, if_neg Pt2.out, if_neg (fun h => h.1 Pt3.out)]⟩
      refine start_ (n := 25) (S := fun w' => w'.cell? ⟨wr.heap.size, 0, none⟩ = some (.int .i64 x0) ∧ w'.cell? ⟨wr.heap.size, 1, none⟩ = some (.int .i64 x1) ∧ w'.cell? ⟨wr.heap.size, 2, none⟩ = some (.int .i64 x2) ∧ w'.cell? ⟨wr.heap.size, 3, none⟩ = some (.int .i64 x3) ∧ w'.cell? ⟨wr.heap.size, 4, none⟩ = some (.int .i64 x4) ∧ w'.cell? ⟨wr.heap.size, 5, none⟩ = some (.int .i64 x5) ∧ w'.cell? ⟨w.heap.size, 0, none⟩ = some (.slice (some ad) l0_0.length c0_0) ∧ SetIs w' (w.heap.size + 1) (trace_valid.keys l0_0 i)) (ds := []) (marksOf 25 0) (by kernel_rfl) rfl rfl ⟨(blk_cell (blk_drew HN1.out) 0).trans rfl, (blk_cell (blk_drew HN1.out) 1).trans rfl, (blk_cell (blk_drew HN1.out) 2).trans rfl, (blk_cell (blk_drew HN1.out) 3).trans rfl, (blk_cell (blk_drew HN1.out) 4).trans rfl, (blk_cell (blk_drew HN1.out) 5).trans rfl, (blk_cell (blk_drew HK1.out) 0).trans rfl, HS1.out.drew⟩ (fun hHeld => ?_); refine with_tabW trace_valid.tab7 trace_valid.bits7 (fun HT_ HW_ => ?_); (refine ta_ 0 19 25 1 ?_ rfl rfl (take_ofW HT_.out HW_.out (by kernel_rfl)) (fun _ _ _ h => h) (by rfl) ?_ hHeld ?_ ?_ ?_; rotate_left; rintro w' ⟨s0, s1, s2, s3, s4, s5, s6, s7⟩; go_simp; with_reducible rfl; rotate_left; simp only [Act.put, List.setIfInBounds_toArray, List.set_cons_zero, List.set_cons_succ, q1, q2, q3, i64_w, i32_w]; rfl); refine one_ (i := 1) (N := some 20) (marksOf 25 3) rfl rfl (one_of HT_.out (by kernel_rfl)) (by decide) (fun K hK => ?_)
      refine goes_ Try.func29 (by kernel_rfl) rfl #[.agg #[.int .i64 x0, .int .i64 x1, .int .i64 x2, .int .i64 x3, .int .i64 x4, .int .i64 x5]] (by kernel_rfl) rfl rfl (by kernel_rfl) ?_; refine (trace_proper.calls x0 x1 x2 x3 x4 x5 true _ PP.out).mono ?_; rintro e w2 ⟨rfl, hb2⟩; refine ⟨_, rfl, ?_⟩; have HN2 := Aside0.mk (blk_below (blk_drew HN1.out) hb2); have HK2 := Aside0.mk (blk_below (blk_drew HK1.out) hb2); have HS2 := Aside0.mk (HS1.out.drew.same (hb2.block _ HS1.out.lt)); have HB2 := Aside0.mk (below_step (below_drew1 HB1.out) hb2); clear hb2; refine hK.out _ _ ⟨(blk_cell HN2.out 0).trans rfl, (blk_cell HN2.out 1).trans rfl, (blk_cell HN2.out 2).trans rfl, (blk_cell HN2.out 3).trans rfl, (blk_cell HN2.out 4).trans rfl, (blk_cell HN2.out 5).trans rfl, (blk_cell HK2.out 0).trans rfl, HS2.out⟩ (fun hHeld => ?_); refine norm_ (a' := ?_) ?_ ?_; rotate_left
      ·show Act.put _ (some 20) _ = _
       simp only [Act.put, List.setIfInBounds_toArray, List.set_cons_zero, List.set_cons_succ, q1, q2, q3, i64_w, i32_w]; rfl
      (refine pu_ 2 21 25 7 ?_ rfl rfl (any_of HT_.out (by kernel_rfl)) (fun _ _ _ h => h) (by rfl) ?_ ?_ ?_ ?_; rotate_left; intro w'; go_simp; with_reducible rfl; rotate_left; simp only [Act.put, List.setIfInBounds_toArray, List.set_cons_zero, List.set_cons_succ, q1, q2, q3, i64_w, i32_w]; rfl); (refine pu_ 3 22 25 15 ?_ rfl rfl (any_of HT_.out (by kernel_rfl)) (fun _ _ _ h => h) (by rfl) ?_ ?_ ?_ ?_; rotate_left; intro w'; go_simp; with_reducible rfl; rotate_left; simp only [Act.put, List.setIfInBounds_toArray, List.set_cons_zero, List.set_cons_succ, q1, q2, q3, i64_w, i32_w]; rfl); (refine pu_ 4 23 25 31 ?_ rfl rfl (any_of HT_.out (by kernel_rfl)) (fun _ _ _ h => h) (by rfl) ?_ ?_ ?_ ?_; rotate_left; intro w'; go_simp; with_reducible rfl; rotate_left; simp only [Act.put, List.setIfInBounds_toArray, List.set_cons_zero, List.set_cons_succ, q1, q2, q3, i64_w, i32_w]; rfl); (refine ta_ 5 24 25 63 ?_ rfl rfl (take_ofW HT_.out HW_.out (by kernel_rfl)) (fun _ _ _ h => h) (by rfl) ?_ hHeld ?_ ?_ ?_; rotate_left; rintro w' ⟨s0, s1, s2, s3, s4, s5, s6, s7⟩; go_simp; with_reducible rfl; rotate_left; simp only [Act.put, List.setIfInBounds_toArray, List.set_cons_zero, List.set_cons_succ, q1, q2, q3, i64_w, i32_w]; rfl); refine one_ (i := 6) (N := some 25) (marksOf 25 127) rfl rfl (one_of HT_.out (by kernel_rfl)) (by decide) (fun K hK => ?_)
      refine goes_ Try.func31 (by kernel_rfl) rfl #[.agg #[.int .i64 x0, .int .i64 x1, .int .i64 x2, .int .i64 x3, .int .i64 x4, .int .i64 x5]] (by kernel_rfl) rfl rfl (by kernel_rfl) ?_; refine (trace_of.calls x0 x1 x2 x3 x4 x5 x0 x1 x2 x3 _ rfl).mono ?_; rintro e w3 ⟨rfl, hb3⟩; refine ⟨_, rfl, ?_⟩; have HN3 := Aside0.mk (blk_below (HN2.out) hb3); have HK3 := Aside0.mk (blk_below (HK2.out) hb3); have HS3 := Aside0.mk (HS2.out.same (hb3.block _ HS2.out.lt)); have HB3 := Aside0.mk (below_step (HB2.out) hb3); clear hb3; refine hK.out _ _ ⟨(blk_cell HN3.out 0).trans rfl, (blk_cell HN3.out 1).trans rfl, (blk_cell HN3.out 2).trans rfl, (blk_cell HN3.out 3).trans rfl, (blk_cell HN3.out 4).trans rfl, (blk_cell HN3.out 5).trans rfl, (blk_cell HK3.out 0).trans rfl, HS3.out⟩ (fun hHeld => ?_); refine norm_ (a' := ?_) ?_ ?_; rotate_left
      ·show Act.put _ (some 25) _ = _
       simp only [Act.put, List.setIfInBounds_toArray, List.set_cons_zero, List.set_cons_succ, q1, q2, q3, i64_w, i32_w]; rfl
      refine ta_ 7 26 25 255 ?_ rfl rfl (take_ofW HT_.out HW_.out (by kernel_rfl)) (fun _ _ _ h => h) (by rfl) ?_ hHeld ?_ ?_ ?_; rotate_left
      ·rintro w' ⟨s0, s1, s2, s3, s4, s5, s6, s7⟩
       have hlook := trace_valid.look_no s7 Pt2.out; go_simp
       with_reducible rfl
      rotate_left
      ·simp only [Act.put, List.setIfInBounds_toArray, List.set_cons_zero, List.set_cons_succ, q1, q2, q3, i64_w, i32_w]
       rfl
      (refine pu_ 8 27 25 511 ?_ rfl rfl (any_of HT_.out (by kernel_rfl)) (fun _ _ _ h => h) (by rfl) ?_ ?_ ?_ ?_; rotate_left; intro w'; go_simp; with_reducible rfl; rotate_left; simp only [Act.put, List.setIfInBounds_toArray, List.set_cons_zero, List.set_cons_succ, q1, q2, q3, i64_w, i32_w]; rfl); (refine pu_ 9 28 25 1023 ?_ rfl rfl (any_of HT_.out (by kernel_rfl)) (fun _ _ _ h => h) (by rfl) ?_ ?_ ?_ ?_; rotate_left; intro w'; go_simp; with_reducible rfl; rotate_left; simp only [Act.put, List.setIfInBounds_toArray, List.set_cons_zero, List.set_cons_succ, q1, q2, q3, i64_w, i32_w]; rfl); (refine pu_ 10 29 25 2047 ?_ rfl rfl (any_of HT_.out (by kernel_rfl)) (fun _ _ _ h => h) (by rfl) ?_ ?_ ?_ ?_; rotate_left; intro w'; go_simp; with_reducible rfl; rotate_left; simp only [Act.put, List.setIfInBounds_toArray, List.set_cons_zero, List.set_cons_succ, q1, q2, q3, i64_w, i32_w]; rfl); (refine pu_ 11 30 25 4095 ?_ rfl rfl (any_of HT_.out (by kernel_rfl)) (fun _ _ _ h => h) (by rfl) ?_ ?_ ?_ ?_; rotate_left; intro w'; go_simp; with_reducible rfl; rotate_left; simp only [Act.put, List.setIfInBounds_toArray, List.set_cons_zero, List.set_cons_succ, q1, q2, q3, i64_w, i32_w]; rfl); (refine pu_ 12 31 25 8191 ?_ rfl rfl (any_of HT_.out (by kernel_rfl)) (fun _ _ _ h => h) (by rfl) ?_ ?_ ?_ ?_; rotate_left; intro w'; go_simp; with_reducible rfl; rotate_left; simp only [Act.put, List.setIfInBounds_toArray, List.set_cons_zero, List.set_cons_succ, q1, q2, q3, i64_w, i32_w]; rfl)
      refine pure_ (i := 13) (N := some 32) (v := undef) (a' := ?_) (marksOf 25 16383) rfl rfl (any_of HT_.out (by kernel_rfl)) (fun _ _ _ h => h) (Or.inr ⟨by kernel_rfl, rfl⟩) ?_ ?_; rotate_left
      ·simp only [Act.put, List.setIfInBounds_toArray, List.set_cons_zero, List.set_cons_succ, q1, q2, q3, i64_w, i32_w]
       rfl
      refine pure_ (i := 14) (N := some 33) (v := undef) (a' := ?_) (marksOf 25 32767) rfl rfl (any_of HT_.out (by kernel_rfl)) (fun _ _ _ h => h) (Or.inr ⟨by kernel_rfl, rfl⟩) ?_ ?_; rotate_left
      ·simp only [Act.put, List.setIfInBounds_toArray, List.set_cons_zero, List.set_cons_succ, q1, q2, q3, i64_w, i32_w]
       rfl
      refine pure_ (i := 15) (N := some 34) (v := undef) (a' := ?_) (marksOf 25 65535) rfl rfl (any_of HT_.out (by kernel_rfl)) (fun _ _ _ h => h) (Or.inr ⟨by kernel_rfl, rfl⟩) ?_ ?_; rotate_left
      ·simp only [Act.put, List.setIfInBounds_toArray, List.set_cons_zero, List.set_cons_succ, q1, q2, q3, i64_w, i32_w]
       rfl
      refine pure_ (i := 16) (N := some 35) (v := undef) (a' := ?_) (marksOf 25 131071) rfl rfl (any_of HT_.out (by kernel_rfl)) (fun _ _ _ h => h) (Or.inr ⟨by kernel_rfl, rfl⟩) ?_ ?_; rotate_left
      ·simp only [Act.put, List.setIfInBounds_toArray, List.set_cons_zero, List.set_cons_succ, q1, q2, q3, i64_w, i32_w]
       rfl
      refine pure_ (i := 17) (N := some 36) (v := undef) (a' := ?_) (marksOf 25 262143) rfl rfl (any_of HT_.out (by kernel_rfl)) (fun _ _ _ h => h) (Or.inr ⟨by kernel_rfl, rfl⟩) ?_ ?_; rotate_left
      ·simp only [Act.put, List.setIfInBounds_toArray, List.set_cons_zero, List.set_cons_succ, q1, q2, q3, i64_w, i32_w]
       rfl
      refine pure_ (i := 18) (N := some 37) (v := undef) (a' := ?_) (marksOf 25 524287) rfl rfl (any_of HT_.out (by kernel_rfl)) (fun _ _ _ h => h) (Or.inr ⟨by kernel_rfl, rfl⟩) ?_ ?_; rotate_left
      ·simp only [Act.put, List.setIfInBounds_toArray, List.set_cons_zero, List.set_cons_succ, q1, q2, q3, i64_w, i32_w]
       rfl
      refine pure_ (i := 19) (N := some 38) (v := undef) (a' := ?_) (marksOf 25 1048575) rfl rfl (any_of HT_.out (by kernel_rfl)) (fun _ _ _ h => h) (Or.inr ⟨by kernel_rfl, rfl⟩) ?_ ?_; rotate_left
      ·simp only [Act.put, List.setIfInBounds_toArray, List.set_cons_zero, List.set_cons_succ, q1, q2, q3, i64_w, i32_w]
       rfl
      refine pure_ (i := 20) (N := some 39) (v := undef) (a' := ?_) (marksOf 25 2097151) rfl rfl (any_of HT_.out (by kernel_rfl)) (fun _ _ _ h => h) (Or.inr ⟨by kernel_rfl, rfl⟩) ?_ ?_; rotate_left
      ·simp only [Act.put, List.setIfInBounds_toArray, List.set_cons_zero, List.set_cons_succ, q1, q2, q3, i64_w, i32_w]
       rfl
      refine pure_ (i := 21) (N := some 40) (v := undef) (a' := ?_) (marksOf 25 4194303) rfl rfl (any_of HT_.out (by kernel_rfl)) (fun _ _ _ h => h) (Or.inr ⟨by kernel_rfl, rfl⟩) ?_ ?_; rotate_left
      ·simp only [Act.put, List.setIfInBounds_toArray, List.set_cons_zero, List.set_cons_succ, q1, q2, q3, i64_w, i32_w]
       rfl
      refine pure_ (i := 22) (N := some 41) (v := undef) (a' := ?_) (marksOf 25 8388607) rfl rfl (any_of HT_.out (by kernel_rfl)) (fun _ _ _ h => h) (Or.inr ⟨by kernel_rfl, rfl⟩) ?_ ?_; rotate_left
      ·simp only [Act.put, List.setIfInBounds_toArray, List.set_cons_zero, List.set_cons_succ, q1, q2, q3, i64_w, i32_w]
       rfl
      (refine pu_ 23 42 25 16777215 ?_ rfl rfl (any_of HT_.out (by kernel_rfl)) (fun _ _ _ h => h) (by rfl) ?_ ?_ ?_ ?_; rotate_left; intro w'; go_simp; with_reducible rfl; rotate_left; simp only [Act.put, List.setIfInBounds_toArray, List.set_cons_zero, List.set_cons_succ, q1, q2, q3, i64_w, i32_w]; rfl); (refine pu_ 24 43 25 33554431 ?_ rfl rfl (any_of HT_.out (by kernel_rfl)) (fun _ _ _ h => h) (by rfl) ?_ ?_ ?_ ?_; rotate_left; intro w'; go_simp; with_reducible rfl; rotate_left; simp only [Act.put, List.setIfInBounds_toArray, List.set_cons_zero, List.set_cons_succ, q1, q2, q3, i64_w, i32_w]; rfl); refine done_ (done_of HT_.out (by kernel_rfl)) ?_; (try simp only [Act.put, List.setIfInBounds_toArray, List.set_cons_zero, List.set_cons_succ]); have u3_0 : w3.cell? ⟨wr.heap.size, 0, none⟩ = some (.int .i64 x0) := (blk_cell HN3.out 0).trans rfl; have u3_1 : w3.cell? ⟨wr.heap.size, 1, none⟩ = some (.int .i64 x1) := (blk_cell HN3.out 1).trans rfl; have u3_2 : w3.cell? ⟨wr.heap.size, 2, none⟩ = some (.int .i64 x2) := (blk_cell HN3.out 2).trans rfl; have u3_3 : w3.cell? ⟨wr.heap.size, 3, none⟩ = some (.int .i64 x3) := (blk_cell HN3.out 3).trans rfl; have u3_4 : w3.cell? ⟨wr.heap.size, 4, none⟩ = some (.int .i64 x4) := (blk_cell HN3.out 4).trans rfl; have u3_5 : w3.cell? ⟨wr.heap.size, 5, none⟩ = some (.int .i64 x5) := (blk_cell HN3.out 5).trans rfl
      go_wp2_with (first | (go_at_call 31; (with_reducible refine (trace_of.calls x0 x1 x2 x3 x4 x5 x0 x1 x2 x3 _ rfl).mono ?_); rintro e w4 ⟨rfl, hb4⟩; have HK4 := Aside0.mk (blk_below HK3.out hb4); have HS4 := Aside0.mk (HS3.out.same (hb4.block _ HS3.out.lt)); have HB4 := Aside0.mk (HB3.out.trans (hb4.mono HB3.out.size)); clear hb4) | (at_mapUpdate; refine trace_valid.put rfl _ _ _ rfl rfl rfl rfl HS4.out Pt2.out ?_; intro w9 HS9 HG9)); have hb0 := trace_valid.below HB4.out HG9; have hs0 := trace_valid.keys_snoc l0_0 i x0 x1 x2 x3 E0.out E1.out E2.out E3.out (by have := HI.out; omega); have hblk := Aside0.mk (BLK HK4.out HG9); have HB9 := Aside0.mk hb0; have HK9 := Aside0.mk hs0; clear hb0 hs0 HG9 BLK; go_roundg k1
      case measure => omega
      case rel =>
       refine ⟨i + 1, trace_valid.next i, ⟨by have := HI.out; omega⟩, hblk, ⟨?_⟩, HB9, ⟨?_⟩⟩
       ·rw [HK9.out]
        exact HS9
       ·intro j hj
        (rcases Nat.lt_or_ge j i with h | h)
        ·exact HO.out j h
        ·obtain rfl : j = i := by omega
         exact hk.out
     ·have Pt3 := Aside0.mk t3
      have d3 : decide (0 < (i : Int)) = true := decide_eq_true (by omega); have d3n : decide (0 < i) = true := decide_eq_true (by omega); (have p2 : 0 ≤ (i : Int) - 1 := by omega); (have q2 : (i : Int) - 1 < (l0_0.length : Int) := by have := HI.out; omega); clear t3; obtain ⟨ad2, e2, hy0, hy1, hy2, hy3, hy4, hy5⟩ := at_T35 HC1.out ((i : Int) - 1) p2 q2; cases e2; clear hy0 hy1 hy2 hy3 hy5; obtain ⟨y4, hye4⟩ : ∃ y, y = (rd_T35 l0_0 ((i : Int) - 1)).f4 := ⟨_, rfl⟩; rw [← hye4] at hy4; have F4 := Aside0.mk hye4; clear hye4; (have ht2 : ((i : Int) - 1).toNat = i - 1 := by omega); rw [ht2] at hy4; have HY1 := Aside0.mk hy4; have hw2 : IntKind.i64.wrap ((i : Int) - 1) = (i : Int) - 1 := IntWalk.i64_in _ (by omega); have p2a := p2; have p2b : (1 ≤ (i : Int)) = True := eq_true (by omega); replace p2 := eq_true p2; replace q2 := eq_true q2
      by_cases t4 : x4 < y4
      ·have Pt4 := Aside0.mk t4
       have d4 : decide (x4 < y4) = true := decide_eq_true t4; clear t4
       have hk : trace_valid.okAt l0_0 i = false := by
        unfold trace_valid.okAt; rw [← E0.out, ← E1.out, ← E2.out, ← E3.out, ← E4.out, ← E5.out, ← F4.out, if_neg HPN.out, if_neg Pt2.out, if_pos ⟨Pt3.out, Pt4.out⟩]
       have hr := R1 i HI.out hk; subst hr; clear hk R1 R2 BLK; refine start_ (n := 25) (S := fun w' => w'.cell? ⟨wr.heap.size, 0, none⟩ = some (.int .i64 x0) ∧ w'.cell? ⟨wr.heap.size, 1, none⟩ = some (.int .i64 x1) ∧ w'.cell? ⟨wr.heap.size, 2, none⟩ = some (.int .i64 x2) ∧ w'.cell? ⟨wr.heap.size, 3, none⟩ = some (.int .i64 x3) ∧ w'.cell? ⟨wr.heap.size, 4, none⟩ = some (.int .i64 x4) ∧ w'.cell? ⟨wr.heap.size, 5, none⟩ = some (.int .i64 x5) ∧ w'.cell? ⟨w.heap.size, 0, none⟩ = some (.slice (some ad) l0_0.length c0_0) ∧ SetIs w' (w.heap.size + 1) (trace_valid.keys l0_0 i) ∧ w'.cell? ⟨(ad.add ((i - 1) * 6)).block, (ad.add ((i - 1) * 6)).off + 4, none⟩ = some (.int .i64 y4)) (ds := []) (marksOf 25 0) (by kernel_rfl) rfl rfl ⟨(blk_cell (blk_drew HN1.out) 0).trans rfl, (blk_cell (blk_drew HN1.out) 1).trans rfl, (blk_cell (blk_drew HN1.out) 2).trans rfl, (blk_cell (blk_drew HN1.out) 3).trans rfl, (blk_cell (blk_drew HN1.out) 4).trans rfl, (blk_cell (blk_drew HN1.out) 5).trans rfl, (blk_cell (blk_drew HK1.out) 0).trans rfl, HS1.out.drew, HY1.out⟩ (fun hHeld => ?_); refine with_tabW trace_valid.tab7 trace_valid.bits7 (fun HT_ HW_ => ?_); (refine ta_ 0 19 25 1 ?_ rfl rfl (take_ofW HT_.out HW_.out (by kernel_rfl)) (fun _ _ _ h => h) (by rfl) ?_ hHeld ?_ ?_ ?_; rotate_left; rintro w' ⟨s0, s1, s2, s3, s4, s5, s6, s7, s8⟩; go_simp; with_reducible rfl; rotate_left; simp only [Act.put, List.setIfInBounds_toArray, List.set_cons_zero, List.set_cons_succ, q1, q2, q3, i64_w, i32_w]; rfl)
       refine one_ (i := 1) (N := some 20) (marksOf 25 3) rfl rfl (one_of HT_.out (by kernel_rfl)) (by decide) (fun K hK => ?_); refine goes_ Try.func29 (by kernel_rfl) rfl #[.agg #[.int .i64 x0, .int .i64 x1, .int .i64 x2, .int .i64 x3, .int .i64 x4, .int .i64 x5]] (by kernel_rfl) rfl rfl (by kernel_rfl) ?_; refine (trace_proper.calls x0 x1 x2 x3 x4 x5 true _ PP.out).mono ?_; rintro e w2 ⟨rfl, hb2⟩; refine ⟨_, rfl, ?_⟩; have HN2 := Aside0.mk (blk_below (blk_drew HN1.out) hb2); have HK2 := Aside0.mk (blk_below (blk_drew HK1.out) hb2); have HS2 := Aside0.mk (HS1.out.drew.same (hb2.block _ HS1.out.lt)); have HB2 := Aside0.mk (below_step (below_drew1 HB1.out) hb2); have HY2 := Aside0.mk ((hb2.cell (World.block_lt_of_cell? _ _ HY1.out)).trans HY1.out); clear hb2; refine hK.out _ _ ⟨(blk_cell HN2.out 0).trans rfl, (blk_cell HN2.out 1).trans rfl, (blk_cell HN2.out 2).trans rfl, (blk_cell HN2.out 3).trans rfl, (blk_cell HN2.out 4).trans rfl, (blk_cell HN2.out 5).trans rfl, (blk_cell HK2.out 0).trans rfl, HS2.out, HY2.out⟩ (fun hHeld => ?_); refine norm_ (a' := ?_) ?_ ?_; rotate_left
       ·show Act.put _ (some 20) _ = _
        simp only [Act.put, List.setIfInBounds_toArray, List.set_cons_zero, List.set_cons_succ, q1, q2, q3, i64_w, i32_w]; rfl
       (refine pu_ 2 21 25 7 ?_ rfl rfl (any_of HT_.out (by kernel_rfl)) (fun _ _ _ h => h) (by rfl) ?_ ?_ ?_ ?_; rotate_left; intro w'; go_simp; with_reducible rfl; rotate_left; simp only [Act.put, List.setIfInBounds_toArray, List.set_cons_zero, List.set_cons_succ, q1, q2, q3, i64_w, i32_w]; rfl); (refine pu_ 3 22 25 15 ?_ rfl rfl (any_of HT_.out (by kernel_rfl)) (fun _ _ _ h => h) (by rfl) ?_ ?_ ?_ ?_; rotate_left; intro w'; go_simp; with_reducible rfl; rotate_left; simp only [Act.put, List.setIfInBounds_toArray, List.set_cons_zero, List.set_cons_succ, q1, q2, q3, i64_w, i32_w]; rfl); (refine pu_ 4 23 25 31 ?_ rfl rfl (any_of HT_.out (by kernel_rfl)) (fun _ _ _ h => h) (by rfl) ?_ ?_ ?_ ?_; rotate_left; intro w'; go_simp; with_reducible rfl; rotate_left; simp only [Act.put, List.setIfInBounds_toArray, List.set_cons_zero, List.set_cons_succ, q1, q2, q3, i64_w, i32_w]; rfl); (refine ta_ 5 24 25 63 ?_ rfl rfl (take_ofW HT_.out HW_.out (by kernel_rfl)) (fun _ _ _ h => h) (by rfl) ?_ hHeld ?_ ?_ ?_; rotate_left; rintro w' ⟨s0, s1, s2, s3, s4, s5, s6, s7, s8⟩; go_simp; with_reducible rfl; rotate_left; simp only [Act.put, List.setIfInBounds_toArray, List.set_cons_zero, List.set_cons_succ, q1, q2, q3, i64_w, i32_w]; rfl); refine one_ (i := 6) (N := some 25) (marksOf 25 127) rfl rfl (one_of HT_.out (by kernel_rfl)) (by decide) (fun K hK => ?_)
       refine goes_ Try.func31 (by kernel_rfl) rfl #[.agg #[.int .i64 x0, .int .i64 x1, .int .i64 x2, .int .i64 x3, .int .i64 x4, .int .i64 x5]] (by kernel_rfl) rfl rfl (by kernel_rfl) ?_; refine (trace_of.calls x0 x1 x2 x3 x4 x5 x0 x1 x2 x3 _ rfl).mono ?_; rintro e w3 ⟨rfl, hb3⟩; refine ⟨_, rfl, ?_⟩; have HN3 := Aside0.mk (blk_below (HN2.out) hb3); have HK3 := Aside0.mk (blk_below (HK2.out) hb3); have HS3 := Aside0.mk (HS2.out.same (hb3.block _ HS2.out.lt)); have HB3 := Aside0.mk (below_step (HB2.out) hb3); have HY3 := Aside0.mk ((hb3.cell (World.block_lt_of_cell? _ _ HY2.out)).trans HY2.out); clear hb3; refine hK.out _ _ ⟨(blk_cell HN3.out 0).trans rfl, (blk_cell HN3.out 1).trans rfl, (blk_cell HN3.out 2).trans rfl, (blk_cell HN3.out 3).trans rfl, (blk_cell HN3.out 4).trans rfl, (blk_cell HN3.out 5).trans rfl, (blk_cell HK3.out 0).trans rfl, HS3.out, HY3.out⟩ (fun hHeld => ?_); refine norm_ (a' := ?_) ?_ ?_; rotate_left
       ·show Act.put _ (some 25) _ = _
        simp only [Act.put, List.setIfInBounds_toArray, List.set_cons_zero, List.set_cons_succ, q1, q2, q3, i64_w, i32_w]; rfl
       refine ta_ 7 26 25 255 ?_ rfl rfl (take_ofW HT_.out HW_.out (by kernel_rfl)) (fun _ _ _ h => h) (by rfl) ?_ hHeld ?_ ?_ ?_; rotate_left
       ·rintro w' ⟨s0, s1, s2, s3, s4, s5, s6, s7, s8⟩
        have hlook := trace_valid.look_no s7 Pt2.out; go_simp
        with_reducible rfl
       rotate_left
       ·simp only [Act.put, List.setIfInBounds_toArray, List.set_cons_zero, List.set_cons_succ, q1, q2, q3, i64_w, i32_w]
        rfl
       (refine pu_ 8 27 25 511 ?_ rfl rfl (any_of HT_.out (by kernel_rfl)) (fun _ _ _ h => h) (by rfl) ?_ ?_ ?_ ?_; rotate_left; intro w'; go_simp; with_reducible rfl; rotate_left; simp only [Act.put, List.setIfInBounds_toArray, List.set_cons_zero, List.set_cons_succ, q1, q2, q3, i64_w, i32_w]; rfl); (refine pu_ 9 28 25 1023 ?_ rfl rfl (any_of HT_.out (by kernel_rfl)) (fun _ _ _ h => h) (by rfl) ?_ ?_ ?_ ?_; rotate_left; intro w'; go_simp; with_reducible rfl; rotate_left; simp only [Act.put, List.setIfInBounds_toArray, List.set_cons_zero, List.set_cons_succ, q1, q2, q3, i64_w, i32_w]; rfl); (refine pu_ 10 29 25 2047 ?_ rfl rfl (any_of HT_.out (by kernel_rfl)) (fun _ _ _ h => h) (by rfl) ?_ ?_ ?_ ?_; rotate_left; intro w'; go_simp; with_reducible rfl; rotate_left; simp only [Act.put, List.setIfInBounds_toArray, List.set_cons_zero, List.set_cons_succ, q1, q2, q3, i64_w, i32_w]; rfl); (refine pu_ 11 30 25 4095 ?_ rfl rfl (any_of HT_.out (by kernel_rfl)) (fun _ _ _ h => h) (by rfl) ?_ ?_ ?_ ?_; rotate_left; intro w'; go_simp; with_reducible rfl; rotate_left; simp only [Act.put, List.setIfInBounds_toArray, List.set_cons_zero, List.set_cons_succ, q1, q2, q3, i64_w, i32_w]; rfl); (refine pu_ 12 31 25 8191 ?_ rfl rfl (any_of HT_.out (by kernel_rfl)) (fun _ _ _ h => h) (by rfl) ?_ ?_ ?_ ?_; rotate_left; intro w'; go_simp; with_reducible rfl; rotate_left; simp only [Act.put, List.setIfInBounds_toArray, List.set_cons_zero, List.set_cons_succ, q1, q2, q3, i64_w, i32_w]; rfl)
       (refine pu_ 13 32 25 16383 ?_ rfl rfl (any_of HT_.out (by kernel_rfl)) (fun _ _ _ h => h) (by rfl) ?_ ?_ ?_ ?_; rotate_left; intro w'; go_simp; with_reducible rfl; rotate_left; simp only [Act.put, List.setIfInBounds_toArray, List.set_cons_zero, List.set_cons_succ, q1, q2, q3, i64_w, i32_w]; rfl); (refine ta_ 14 33 25 32767 ?_ rfl rfl (take_ofW HT_.out HW_.out (by kernel_rfl)) (fun _ _ _ h => h) (by rfl) ?_ hHeld ?_ ?_ ?_; rotate_left; rintro w' ⟨s0, s1, s2, s3, s4, s5, s6, s7, s8⟩; go_simp; with_reducible rfl; rotate_left; simp only [Act.put, List.setIfInBounds_toArray, List.set_cons_zero, List.set_cons_succ, q1, q2, q3, i64_w, i32_w]; rfl); (refine pu_ 15 34 25 65535 ?_ rfl rfl (any_of HT_.out (by kernel_rfl)) (fun _ _ _ h => h) (by rfl) ?_ ?_ ?_ ?_; rotate_left; intro w'; go_simp; with_reducible rfl; rotate_left; simp only [Act.put, List.setIfInBounds_toArray, List.set_cons_zero, List.set_cons_succ, q1, q2, q3, i64_w, i32_w]; rfl); (refine ta_ 16 35 25 131071 ?_ rfl rfl (take_ofW HT_.out HW_.out (by kernel_rfl)) (fun _ _ _ h => h) (by rfl) ?_ hHeld ?_ ?_ ?_; rotate_left; rintro w' ⟨s0, s1, s2, s3, s4, s5, s6, s7, s8⟩; go_simp; with_reducible rfl; rotate_left; simp only [Act.put, List.setIfInBounds_toArray, List.set_cons_zero, List.set_cons_succ, q1, q2, q3, i64_w, i32_w]; rfl)
       (refine pu_ 17 36 25 262143 ?_ rfl rfl (any_of HT_.out (by kernel_rfl)) (fun _ _ _ h => h) (by rfl) ?_ ?_ ?_ ?_; rotate_left; intro w'; go_simp; with_reducible rfl; rotate_left; simp only [Act.put, List.setIfInBounds_toArray, List.set_cons_zero, List.set_cons_succ, q1, q2, q3, i64_w, i32_w]; rfl); (refine pu_ 18 37 25 524287 ?_ rfl rfl (any_of HT_.out (by kernel_rfl)) (fun _ _ _ h => h) (by rfl) ?_ ?_ ?_ ?_; rotate_left; intro w'; go_simp; with_reducible rfl; rotate_left; simp only [Act.put, List.setIfInBounds_toArray, List.set_cons_zero, List.set_cons_succ, q1, q2, q3, i64_w, i32_w]; rfl); (refine pu_ 19 38 25 1048575 ?_ rfl rfl (any_of HT_.out (by kernel_rfl)) (fun _ _ _ h => h) (by rfl) ?_ ?_ ?_ ?_; rotate_left; intro w'; go_simp; with_reducible rfl; rotate_left; simp only [Act.put, List.setIfInBounds_toArray, List.set_cons_zero, List.set_cons_succ, q1, q2, q3, i64_w, i32_w]; rfl); (refine pu_ 20 39 25 2097151 ?_ rfl rfl (any_of HT_.out (by kernel_rfl)) (fun _ _ _ h => h) (by rfl) ?_ ?_ ?_ ?_; rotate_left; intro w'; go_simp; with_reducible rfl; rotate_left; simp only [Act.put, List.setIfInBounds_toArray, List.set_cons_zero, List.set_cons_succ, q1, q2, q3, i64_w, i32_w]; rfl)
       (refine ta_ 21 40 25 4194303 ?_ rfl rfl (take_ofW HT_.out HW_.out (by kernel_rfl)) (fun _ _ _ h => h) (by rfl) ?_ hHeld ?_ ?_ ?_; rotate_left; rintro w' ⟨s0, s1, s2, s3, s4, s5, s6, s7, s8⟩; go_simp; with_reducible rfl; rotate_left; simp only [Act.put, List.setIfInBounds_toArray, List.set_cons_zero, List.set_cons_succ, q1, q2, q3, i64_w, i32_w]; rfl); (refine pu_ 22 41 25 8388607 ?_ rfl rfl (any_of HT_.out (by kernel_rfl)) (fun _ _ _ h => h) (by rfl) ?_ ?_ ?_ ?_; rotate_left; intro w'; go_simp; with_reducible rfl; rotate_left; simp only [Act.put, List.setIfInBounds_toArray, List.set_cons_zero, List.set_cons_succ, q1, q2, q3, i64_w, i32_w]; rfl); (refine pu_ 23 42 25 16777215 ?_ rfl rfl (any_of HT_.out (by kernel_rfl)) (fun _ _ _ h => h) (by rfl) ?_ ?_ ?_ ?_; rotate_left; intro w'; go_simp; with_reducible rfl; rotate_left; simp only [Act.put, List.setIfInBounds_toArray, List.set_cons_zero, List.set_cons_succ, q1, q2, q3, i64_w, i32_w]; rfl); (refine pu_ 24 43 25 33554431 ?_ rfl rfl (any_of HT_.out (by kernel_rfl)) (fun _ _ _ h => h) (by rfl) ?_ ?_ ?_ ?_; rotate_left; intro w'; go_simp; with_reducible rfl; rotate_left; simp only [Act.put, List.setIfInBounds_toArray, List.set_cons_zero, List.set_cons_succ, q1, q2, q3, i64_w, i32_w]; rfl); refine done_ (done_of HT_.out (by kernel_rfl)) ?_; (try simp only [Act.put, List.setIfInBounds_toArray, List.set_cons_zero, List.set_cons_succ]); go_wp2; go_ret
       exact ⟨rfl, by repeat (first | exact HB3.out | apply pw_below_drewN | apply below_drew1)⟩
      ·have Pt4 := Aside0.mk t4
       have d4 : decide (x4 < y4) = false := decide_eq_false t4; clear t4
       have hk : Aside0 (trace_valid.okAt l0_0 i = true) := ⟨by
        unfold trace_valid.okAt; rw [← E0.out, ← E1.out, ← E2.out, ← E3.out, ← E4.out, ← E5.out, ← F4.out, if_neg HPN.out, if_neg Pt2.out, if_neg (fun h => Pt4.out h.2)]⟩
       refine start_ (n := 25) (S := fun w' => w'.cell? ⟨wr.heap.size, 0, none⟩ = some (.int .i64 x0) ∧ w'.cell? ⟨wr.heap.size, 1, none⟩ = some (.int .i64 x1) ∧ w'.cell? ⟨wr.heap.size, 2, none⟩ = some (.int .i64 x2) ∧ w'.cell? ⟨wr.heap.size, 3, none⟩ = some (.int .i64 x3) ∧ w'.cell? ⟨wr.heap.size, 4, none⟩ = some (.int .i64 x4) ∧ w'.cell? ⟨wr.heap.size, 5, none⟩ = some (.int .i64 x5) ∧ w'.cell? ⟨w.heap.size, 0, none⟩ = some (.slice (some ad) l0_0.length c0_0) ∧ SetIs w' (w.heap.size + 1) (trace_valid.keys l0_0 i) ∧ w'.cell? ⟨(ad.add ((i - 1) * 6)).block, (ad.add ((i - 1) * 6)).off + 4, none⟩ = some (.int .i64 y4)) (ds := []) (marksOf 25 0) (by kernel_rfl) rfl rfl ⟨(blk_cell (blk_drew HN1.out) 0).trans rfl, (blk_cell (blk_drew HN1.out) 1).trans rfl, (blk_cell (blk_drew HN1.out) 2).trans rfl, (blk_cell (blk_drew HN1.out) 3).trans rfl, (blk_cell (blk_drew HN1.out) 4).trans rfl, (blk_cell (blk_drew HN1.out) 5).trans rfl, (blk_cell (blk_drew HK1.out) 0).trans rfl, HS1.out.drew, HY1.out⟩ (fun hHeld => ?_); refine with_tabW trace_valid.tab7 trace_valid.bits7 (fun HT_ HW_ => ?_); (refine ta_ 0 19 25 1 ?_ rfl rfl (take_ofW HT_.out HW_.out (by kernel_rfl)) (fun _ _ _ h => h) (by rfl) ?_ hHeld ?_ ?_ ?_; rotate_left; rintro w' ⟨s0, s1, s2, s3, s4, s5, s6, s7, s8⟩; go_simp; with_reducible rfl; rotate_left; simp only [Act.put, List.setIfInBounds_toArray, List.set_cons_zero, List.set_cons_succ, q1, q2, q3, i64_w, i32_w]; rfl)
       refine one_ (i := 1) (N := some 20) (marksOf 25 3) rfl rfl (one_of HT_.out (by kernel_rfl)) (by decide) (fun K hK => ?_); refine goes_ Try.func29 (by kernel_rfl) rfl #[.agg #[.int .i64 x0, .int .i64 x1, .int .i64 x2, .int .i64 x3, .int .i64 x4, .int .i64 x5]] (by kernel_rfl) rfl rfl (by kernel_rfl) ?_; refine (trace_proper.calls x0 x1 x2 x3 x4 x5 true _ PP.out).mono ?_; rintro e w2 ⟨rfl, hb2⟩; refine ⟨_, rfl, ?_⟩; have HN2 := Aside0.mk (blk_below (blk_drew HN1.out) hb2); have HK2 := Aside0.mk (blk_below (blk_drew HK1.out) hb2); have HS2 := Aside0.mk (HS1.out.drew.same (hb2.block _ HS1.out.lt)); have HB2 := Aside0.mk (below_step (below_drew1 HB1.out) hb2); have HY2 := Aside0.mk ((hb2.cell (World.block_lt_of_cell? _ _ HY1.out)).trans HY1.out); clear hb2; refine hK.out _ _ ⟨(blk_cell HN2.out 0).trans rfl, (blk_cell HN2.out 1).trans rfl, (blk_cell HN2.out 2).trans rfl, (blk_cell HN2.out 3).trans rfl, (blk_cell HN2.out 4).trans rfl, (blk_cell HN2.out 5).trans rfl, (blk_cell HK2.out 0).trans rfl, HS2.out, HY2.out⟩ (fun hHeld => ?_); refine norm_ (a' := ?_) ?_ ?_; rotate_left
       ·show Act.put _ (some 20) _ = _
        simp only [Act.put, List.setIfInBounds_toArray, List.set_cons_zero, List.set_cons_succ, q1, q2, q3, i64_w, i32_w]; rfl
       (refine pu_ 2 21 25 7 ?_ rfl rfl (any_of HT_.out (by kernel_rfl)) (fun _ _ _ h => h) (by rfl) ?_ ?_ ?_ ?_; rotate_left; intro w'; go_simp; with_reducible rfl; rotate_left; simp only [Act.put, List.setIfInBounds_toArray, List.set_cons_zero, List.set_cons_succ, q1, q2, q3, i64_w, i32_w]; rfl); (refine pu_ 3 22 25 15 ?_ rfl rfl (any_of HT_.out (by kernel_rfl)) (fun _ _ _ h => h) (by rfl) ?_ ?_ ?_ ?_; rotate_left; intro w'; go_simp; with_reducible rfl; rotate_left; simp only [Act.put, List.setIfInBounds_toArray, List.set_cons_zero, List.set_cons_succ, q1, q2, q3, i64_w, i32_w]; rfl); (refine pu_ 4 23 25 31 ?_ rfl rfl (any_of HT_.out (by kernel_rfl)) (fun _ _ _ h => h) (by rfl) ?_ ?_ ?_ ?_; rotate_left; intro w'; go_simp; with_reducible rfl; rotate_left; simp only [Act.put, List.setIfInBounds_toArray, List.set_cons_zero, List.set_cons_succ, q1, q2, q3, i64_w, i32_w]; rfl); (refine ta_ 5 24 25 63 ?_ rfl rfl (take_ofW HT_.out HW_.out (by kernel_rfl)) (fun _ _ _ h => h) (by rfl) ?_ hHeld ?_ ?_ ?_; rotate_left; rintro w' ⟨s0, s1, s2, s3, s4, s5, s6, s7, s8⟩; go_simp; with_reducible rfl; rotate_left; simp only [Act.put, List.setIfInBounds_toArray, List.set_cons_zero, List.set_cons_succ, q1, q2, q3, i64_w, i32_w]; rfl); refine one_ (i := 6) (N := some 25) (marksOf 25 127) rfl rfl (one_of HT_.out (by kernel_rfl)) (by decide) (fun K hK => ?_)
       refine goes_ Try.func31 (by kernel_rfl) rfl #[.agg #[.int .i64 x0, .int .i64 x1, .int .i64 x2, .int .i64 x3, .int .i64 x4, .int .i64 x5]] (by kernel_rfl) rfl rfl (by kernel_rfl) ?_; refine (trace_of.calls x0 x1 x2 x3 x4 x5 x0 x1 x2 x3 _ rfl).mono ?_; rintro e w3 ⟨rfl, hb3⟩; refine ⟨_, rfl, ?_⟩; have HN3 := Aside0.mk (blk_below (HN2.out) hb3); have HK3 := Aside0.mk (blk_below (HK2.out) hb3); have HS3 := Aside0.mk (HS2.out.same (hb3.block _ HS2.out.lt)); have HB3 := Aside0.mk (below_step (HB2.out) hb3); have HY3 := Aside0.mk ((hb3.cell (World.block_lt_of_cell? _ _ HY2.out)).trans HY2.out); clear hb3; refine hK.out _ _ ⟨(blk_cell HN3.out 0).trans rfl, (blk_cell HN3.out 1).trans rfl, (blk_cell HN3.out 2).trans rfl, (blk_cell HN3.out 3).trans rfl, (blk_cell HN3.out 4).trans rfl, (blk_cell HN3.out 5).trans rfl, (blk_cell HK3.out 0).trans rfl, HS3.out, HY3.out⟩ (fun hHeld => ?_); refine norm_ (a' := ?_) ?_ ?_; rotate_left
       ·show Act.put _ (some 25) _ = _
        simp only [Act.put, List.setIfInBounds_toArray, List.set_cons_zero, List.set_cons_succ, q1, q2, q3, i64_w, i32_w]; rfl
       refine ta_ 7 26 25 255 ?_ rfl rfl (take_ofW HT_.out HW_.out (by kernel_rfl)) (fun _ _ _ h => h) (by rfl) ?_ hHeld ?_ ?_ ?_; rotate_left
       ·rintro w' ⟨s0, s1, s2, s3, s4, s5, s6, s7, s8⟩
        have hlook := trace_valid.look_no s7 Pt2.out; go_simp
        with_reducible rfl
       rotate_left
       ·simp only [Act.put, List.setIfInBounds_toArray, List.set_cons_zero, List.set_cons_succ, q1, q2, q3, i64_w, i32_w]
        rfl
       (refine pu_ 8 27 25 511 ?_ rfl rfl (any_of HT_.out (by kernel_rfl)) (fun _ _ _ h => h) (by rfl) ?_ ?_ ?_ ?_; rotate_left; intro w'; go_simp; with_reducible rfl; rotate_left; simp only [Act.put, List.setIfInBounds_toArray, List.set_cons_zero, List.set_cons_succ, q1, q2, q3, i64_w, i32_w]; rfl); (refine pu_ 9 28 25 1023 ?_ rfl rfl (any_of HT_.out (by kernel_rfl)) (fun _ _ _ h => h) (by rfl) ?_ ?_ ?_ ?_; rotate_left; intro w'; go_simp; with_reducible rfl; rotate_left; simp only [Act.put, List.setIfInBounds_toArray, List.set_cons_zero, List.set_cons_succ, q1, q2, q3, i64_w, i32_w]; rfl); (refine pu_ 10 29 25 2047 ?_ rfl rfl (any_of HT_.out (by kernel_rfl)) (fun _ _ _ h => h) (by rfl) ?_ ?_ ?_ ?_; rotate_left; intro w'; go_simp; with_reducible rfl; rotate_left; simp only [Act.put, List.setIfInBounds_toArray, List.set_cons_zero, List.set_cons_succ, q1, q2, q3, i64_w, i32_w]; rfl); (refine pu_ 11 30 25 4095 ?_ rfl rfl (any_of HT_.out (by kernel_rfl)) (fun _ _ _ h => h) (by rfl) ?_ ?_ ?_ ?_; rotate_left; intro w'; go_simp; with_reducible rfl; rotate_left; simp only [Act.put, List.setIfInBounds_toArray, List.set_cons_zero, List.set_cons_succ, q1, q2, q3, i64_w, i32_w]; rfl); (refine pu_ 12 31 25 8191 ?_ rfl rfl (any_of HT_.out (by kernel_rfl)) (fun _ _ _ h => h) (by rfl) ?_ ?_ ?_ ?_; rotate_left; intro w'; go_simp; with_reducible rfl; rotate_left; simp only [Act.put, List.setIfInBounds_toArray, List.set_cons_zero, List.set_cons_succ, q1, q2, q3, i64_w, i32_w]; rfl)
       (refine pu_ 13 32 25 16383 ?_ rfl rfl (any_of HT_.out (by kernel_rfl)) (fun _ _ _ h => h) (by rfl) ?_ ?_ ?_ ?_; rotate_left; intro w'; go_simp; with_reducible rfl; rotate_left; simp only [Act.put, List.setIfInBounds_toArray, List.set_cons_zero, List.set_cons_succ, q1, q2, q3, i64_w, i32_w]; rfl); (refine ta_ 14 33 25 32767 ?_ rfl rfl (take_ofW HT_.out HW_.out (by kernel_rfl)) (fun _ _ _ h => h) (by rfl) ?_ hHeld ?_ ?_ ?_; rotate_left; rintro w' ⟨s0, s1, s2, s3, s4, s5, s6, s7, s8⟩; go_simp; with_reducible rfl; rotate_left; simp only [Act.put, List.setIfInBounds_toArray, List.set_cons_zero, List.set_cons_succ, q1, q2, q3, i64_w, i32_w]; rfl); (refine pu_ 15 34 25 65535 ?_ rfl rfl (any_of HT_.out (by kernel_rfl)) (fun _ _ _ h => h) (by rfl) ?_ ?_ ?_ ?_; rotate_left; intro w'; go_simp; with_reducible rfl; rotate_left; simp only [Act.put, List.setIfInBounds_toArray, List.set_cons_zero, List.set_cons_succ, q1, q2, q3, i64_w, i32_w]; rfl); (refine ta_ 16 35 25 131071 ?_ rfl rfl (take_ofW HT_.out HW_.out (by kernel_rfl)) (fun _ _ _ h => h) (by rfl) ?_ hHeld ?_ ?_ ?_; rotate_left; rintro w' ⟨s0, s1, s2, s3, s4, s5, s6, s7, s8⟩; go_simp; with_reducible rfl; rotate_left; simp only [Act.put, List.setIfInBounds_toArray, List.set_cons_zero, List.set_cons_succ, q1, q2, q3, i64_w, i32_w]; rfl)
       (refine pu_ 17 36 25 262143 ?_ rfl rfl (any_of HT_.out (by kernel_rfl)) (fun _ _ _ h => h) (by rfl) ?_ ?_ ?_ ?_; rotate_left; intro w'; go_simp; with_reducible rfl; rotate_left; simp only [Act.put, List.setIfInBounds_toArray, List.set_cons_zero, List.set_cons_succ, q1, q2, q3, i64_w, i32_w]; rfl); (refine pu_ 18 37 25 524287 ?_ rfl rfl (any_of HT_.out (by kernel_rfl)) (fun _ _ _ h => h) (by rfl) ?_ ?_ ?_ ?_; rotate_left; intro w'; go_simp; with_reducible rfl; rotate_left; simp only [Act.put, List.setIfInBounds_toArray, List.set_cons_zero, List.set_cons_succ, q1, q2, q3, i64_w, i32_w]; rfl); (refine pu_ 19 38 25 1048575 ?_ rfl rfl (any_of HT_.out (by kernel_rfl)) (fun _ _ _ h => h) (by rfl) ?_ ?_ ?_ ?_; rotate_left; intro w'; go_simp; with_reducible rfl; rotate_left; simp only [Act.put, List.setIfInBounds_toArray, List.set_cons_zero, List.set_cons_succ, q1, q2, q3, i64_w, i32_w]; rfl); (refine pu_ 20 39 25 2097151 ?_ rfl rfl (any_of HT_.out (by kernel_rfl)) (fun _ _ _ h => h) (by rfl) ?_ ?_ ?_ ?_; rotate_left; intro w'; go_simp; with_reducible rfl; rotate_left; simp only [Act.put, List.setIfInBounds_toArray, List.set_cons_zero, List.set_cons_succ, q1, q2, q3, i64_w, i32_w]; rfl)
       (refine ta_ 21 40 25 4194303 ?_ rfl rfl (take_ofW HT_.out HW_.out (by kernel_rfl)) (fun _ _ _ h => h) (by rfl) ?_ hHeld ?_ ?_ ?_; rotate_left; rintro w' ⟨s0, s1, s2, s3, s4, s5, s6, s7, s8⟩; go_simp; with_reducible rfl; rotate_left; simp only [Act.put, List.setIfInBounds_toArray, List.set_cons_zero, List.set_cons_succ, q1, q2, q3, i64_w, i32_w]; rfl); (refine pu_ 22 41 25 8388607 ?_ rfl rfl (any_of HT_.out (by kernel_rfl)) (fun _ _ _ h => h) (by rfl) ?_ ?_ ?_ ?_; rotate_left; intro w'; go_simp; with_reducible rfl; rotate_left; simp only [Act.put, List.setIfInBounds_toArray, List.set_cons_zero, List.set_cons_succ, q1, q2, q3, i64_w, i32_w]; rfl); (refine pu_ 23 42 25 16777215 ?_ rfl rfl (any_of HT_.out (by kernel_rfl)) (fun _ _ _ h => h) (by rfl) ?_ ?_ ?_ ?_; rotate_left; intro w'; go_simp; with_reducible rfl; rotate_left; simp only [Act.put, List.setIfInBounds_toArray, List.set_cons_zero, List.set_cons_succ, q1, q2, q3, i64_w, i32_w]; rfl); (refine pu_ 24 43 25 33554431 ?_ rfl rfl (any_of HT_.out (by kernel_rfl)) (fun _ _ _ h => h) (by rfl) ?_ ?_ ?_ ?_; rotate_left; intro w'; go_simp; with_reducible rfl; rotate_left; simp only [Act.put, List.setIfInBounds_toArray, List.set_cons_zero, List.set_cons_succ, q1, q2, q3, i64_w, i32_w]; rfl); refine done_ (done_of HT_.out (by kernel_rfl)) ?_; (try simp only [Act.put, List.setIfInBounds_toArray, List.set_cons_zero, List.set_cons_succ])
       have u3_0 : w3.cell? ⟨wr.heap.size, 0, none⟩ = some (.int .i64 x0) := (blk_cell HN3.out 0).trans rfl; have u3_1 : w3.cell? ⟨wr.heap.size, 1, none⟩ = some (.int .i64 x1) := (blk_cell HN3.out 1).trans rfl; have u3_2 : w3.cell? ⟨wr.heap.size, 2, none⟩ = some (.int .i64 x2) := (blk_cell HN3.out 2).trans rfl; have u3_3 : w3.cell? ⟨wr.heap.size, 3, none⟩ = some (.int .i64 x3) := (blk_cell HN3.out 3).trans rfl; have u3_4 : w3.cell? ⟨wr.heap.size, 4, none⟩ = some (.int .i64 x4) := (blk_cell HN3.out 4).trans rfl; have u3_5 : w3.cell? ⟨wr.heap.size, 5, none⟩ = some (.int .i64 x5) := (blk_cell HN3.out 5).trans rfl; go_wp2_with (first | (go_at_call 31; (with_reducible refine (trace_of.calls x0 x1 x2 x3 x4 x5 x0 x1 x2 x3 _ rfl).mono ?_); rintro e w4 ⟨rfl, hb4⟩; have HK4 := Aside0.mk (blk_below HK3.out hb4); have HS4 := Aside0.mk (HS3.out.same (hb4.block _ HS3.out.lt)); have HB4 := Aside0.mk (HB3.out.trans (hb4.mono HB3.out.size)); clear hb4) | (at_mapUpdate; refine trace_valid.put rfl _ _ _ rfl rfl rfl rfl HS4.out Pt2.out ?_; intro w9 HS9 HG9)); have hb0 := trace_valid.below HB4.out HG9; have hs0 := trace_valid.keys_snoc l0_0 i x0 x1 x2 x3 E0.out E1.out E2.out E3.out (by have := HI.out; omega); have hblk := Aside0.mk (BLK HK4.out HG9); have HB9 := Aside0.mk hb0; have HK9 := Aside0.mk hs0; clear hb0 hs0 HG9 BLK; go_roundg k1
       case measure => omega
       case rel =>
        refine ⟨i + 1, trace_valid.next i, ⟨by have := HI.out; omega⟩, hblk, ⟨?_⟩, HB9, ⟨?_⟩⟩
        ·rw [HK9.out]
         exact HS9
        ·intro j hj
         (rcases Nat.lt_or_ge j i with h | h)
         ·exact HO.out j h
         ·obtain rfl : j = i := by omega
          exact hk.out
set_option maxHeartbeats 8000000 in
set_option maxRecDepth 100000 in
theorem trace_valid.calls (A0_0 : Option Addr) (c0_0 : Nat) (l0_0 : List (S35)) (r : Bool) (w : World) (hr0_0 : Kd.C k35 w A0_0 l0_0.length l0_0) (hc0_0 : l0_0.length ≤ c0_0) (h : trace_valid.f l0_0 = some r) :
  Calls Try.prog 28 #[.agg #[.slice A0_0 l0_0.length c0_0]] w fun e w' => e = .returned (.bool r) ∧ Below w.heap.size w w' := by
 have H : trace_valid.okB l0_0 = r := Option.some.inj h; clear h; unfold trace_valid.okB at H; have HB := Aside0.mk (Below.refl w.heap.size w)
 by_cases c1 : 256 < (l0_0.length : Int)
 ·rw [if_pos c1] at H
  subst H; have b5 : decide (256 < (l0_0.length : Int)) = true := decide_eq_true c1; clear c1 hr0_0 hc0_0; go_enter Try.func28, Try.ntmps28; go_wp2; go_ret; exact ⟨rfl, below_alloc HB.out _⟩
 rw [if_neg c1] at H; have b5 : decide (256 < (l0_0.length : Int)) = false := decide_eq_false c1; clear c1; exact trace_valid.loop A0_0 c0_0 l0_0 r w hr0_0 hc0_0 b5 H

end Go.Proofs.Ytghepgcbciikmaa.PA
