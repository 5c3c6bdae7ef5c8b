-- Printed by this claim's own program.
import Derived.Test.YtnlonmbfpkalhaaDoorPMx0
import Derived.Test.YtnlonmbfpkalhaaDoorPMx4
import Derived.Test.YtnlonmbfpkalhaaDoorRow
import Derived.Test.YtnlonmbfpkalhaaDoorWInv
namespace Go.Proofs.YtnlonmbfpkalhaaDoor.PM
open Go.RowKit Go.Proofs.YtnlonmbfpkalhaaDoorW.PrintWords Go.Proofs.YtnlonmbfpkalhaaDoorW.PrintLast Go.Proofs.YtnlonmbfpkalhaaDoorW.PrintMore
attribute [local go_sem] max2_int min2_int max_two min_two max_three min_three max_four min_four
set_option linter.unusedVariables false
set_option linter.unusedSimpArgs false
section
attribute [local go_sem ↓] some_setCell
def zLe : Le := ⟨0, 0, 0, 0, 0, 0, 0, false⟩
structure St where
 ls : List Le
 op : List Bool
 un : List Int
def St.enc (s : St) : List Value := flat Le.enc s.ls ++ (s.op.map Value.bool ++ s.un.map (Value.int .i64))
structure St.ok (s : St) : Prop where
 l : s.ls.length = 64
 o : s.op.length = 64
 u : s.un.length = 64
def St.le (s : St) (k : Nat) : Le := s.ls.getD k zLe
def St.opn (s : St) (k : Nat) : Bool := s.op.getD k false
def St.unt (s : St) (k : Nat) : Int := s.un.getD k 0
def St.setL (s : St) (k : Nat) (l : Le) : St := ⟨s.ls.set k l, s.op, s.un⟩
def St.setO (s : St) (k : Nat) (b : Bool) : St := ⟨s.ls, s.op.set k b, s.un⟩
def St.setU (s : St) (k : Nat) (u : Int) : St := ⟨s.ls, s.op, s.un.set k u⟩
theorem St.ok.setL {s : St} (h : s.ok) (k : Nat) (l : Le) : (s.setL k l).ok := ⟨by simp [St.setL, h.l], h.o, h.u⟩
theorem St.ok.setO {s : St} (h : s.ok) (k : Nat) (b : Bool) : (s.setO k b).ok := ⟨h.l, by simp [St.setO, h.o], h.u⟩
theorem St.ok.setU {s : St} (h : s.ok) (k : Nat) (u : Int) : (s.setU k u).ok := ⟨h.l, h.o, by simp [St.setU, h.u]⟩
theorem St.flen {s : St} (h : s.ok) : (flat Le.enc s.ls).length = 512 := by rw [_root_.Go.Proofs.YtnlonmbfpkalhaaDoorW.PrintWords.flen Le.len, h.l]
theorem St.len {s : St} (h : s.ok) : s.enc.length = 640 := by
 unfold St.enc
 rw [List.length_append, List.length_append, List.length_map, List.length_map, St.flen h, h.o, h.u]
theorem St.le_is {s : St} (h : s.ok) (k : Nat) (hk : k < 64) : s.le k = s.ls[k]'(by rw [h.l]; exact hk) := by
 unfold St.le
 rw [List.getD_eq_getElem?_getD, List.getElem?_eq_getElem (by rw [h.l]; exact hk)]
 rfl
theorem St.get_le {s : St} (h : s.ok) (k j : Nat) (hk : k < 64) (hj : j < 8) : s.enc[k * 8 + j]? = (s.le k).enc[j]? := by
 unfold St.enc
 rw [List.getElem?_append_left (by rw [St.flen h]; omega), fget Le.len s.ls k j (by rw [h.l]; exact hk) hj, St.le_is h k hk]
theorem St.get_op {s : St} (h : s.ok) (k : Nat) (hk : k < 64) : s.enc[512 + k]? = some (.bool (s.opn k)) := by
 unfold St.enc St.opn
 rw [List.getElem?_append_right (by rw [St.flen h]; omega), St.flen h, Nat.add_sub_cancel_left, List.getElem?_append_left (by rw [List.length_map, h.o]; exact hk), List.getElem?_map, List.getD_eq_getElem?_getD, List.getElem?_eq_getElem (by rw [h.o]; exact hk)]
 rfl
theorem St.get_un {s : St} (h : s.ok) (k : Nat) (hk : k < 64) : s.enc[576 + k]? = some (.int .i64 (s.unt k)) := by
 unfold St.enc St.unt
 rw [List.getElem?_append_right (by rw [St.flen h]; omega), St.flen h, List.getElem?_append_right (by rw [List.length_map, h.o]; omega), List.length_map, h.o, show 576 + k - 512 - 64 = k by omega, List.getElem?_map, List.getD_eq_getElem?_getD, List.getElem?_eq_getElem (by rw [h.u]; exact hk)]
 rfl
theorem over_set (L : List Value) (k : Nat) (v : Value) (h : k < L.length) : over L k [v] = L.set k v := by
 unfold over
 rw [List.set_eq_take_append_cons_drop, if_pos h]
 simp
theorem St.put_un {s : St} (h : s.ok) (k : Nat) (hk : k < 64) (u : Int) : over s.enc (576 + k) [.int .i64 u] = (s.setU k u).enc := by
 rw [over_set _ _ _ (by rw [St.len h]; omega)]
 unfold St.enc St.setU
 rw [List.set_append_right _ _ (by rw [St.flen h]; omega), St.flen h, List.set_append_right _ _ (by rw [List.length_map, h.o]; omega), List.length_map, h.o, show 576 + k - 512 - 64 = k by omega, ← List.map_set]
theorem St.put_op {s : St} (h : s.ok) (k : Nat) (hk : k < 64) (b : Bool) : over s.enc (512 + k) [.bool b] = (s.setO k b).enc := by
 rw [over_set _ _ _ (by rw [St.len h]; omega)]
 unfold St.enc St.setO
 rw [List.set_append_right _ _ (by rw [St.flen h]; omega), St.flen h, Nat.add_sub_cancel_left, List.set_append_left _ _ (by rw [List.length_map, h.o]; exact hk), ← List.map_set]
theorem St.put_one {s : St} (h : s.ok) (k j : Nat) (hk : k < 64) (hj : j < 8) (v : Value) (l : Le) (hl : (s.le k).enc.set j v = l.enc) : over s.enc (k * 8 + j) [v] = (s.setL k l).enc := by
 rw [over_set _ _ _ (by rw [St.len h]; omega)]
 unfold St.enc St.setL
 rw [List.set_append_left _ _ (by rw [St.flen h]; omega), fset Le.len s.ls k j (by rw [h.l]; exact hk) v l hj (by rw [← St.le_is h k hk]; exact hl)]
theorem over_whole (L M : List Value) (h : M.length = L.length) : over L 0 M = M := by
 unfold over
 rw [List.take_zero, Nat.zero_add, h, List.drop_length, List.nil_append, List.append_nil]
theorem St.put_le {s : St} (h : s.ok) (k : Nat) (hk : k < 64) (l : Le) : over s.enc (k * 8) l.enc = (s.setL k l).enc := by
 have hkl : k < s.ls.length := by rw [h.l]; exact hk
 have hA : (flat Le.enc (s.ls.take k)).length = k * 8 := by rw [_root_.Go.Proofs.YtnlonmbfpkalhaaDoorW.PrintWords.flen Le.len, List.length_take, Nat.min_eq_left (by omega)]
 have h1 : flat Le.enc s.ls = flat Le.enc (s.ls.take k) ++ (s.ls[k]).enc ++ flat Le.enc (s.ls.drop (k + 1)) := by
  have e : s.ls = s.ls.take k ++ s.ls[k] :: s.ls.drop (k + 1) := by rw [← List.drop_eq_getElem_cons hkl, List.take_append_drop]
  have e2 := congrArg (flat Le.enc) e
  rw [flat_append, flat_cons, ← List.append_assoc] at e2
  exact e2
 unfold St.enc St.setL
 rw [h1, List.append_assoc (flat Le.enc (s.ls.take k) ++ (s.ls[k]).enc)]
 have h2 := over_seg (A := flat Le.enc (s.ls.take k)) (E := (s.ls[k]).enc) (B := flat Le.enc (s.ls.drop (k + 1)) ++ (s.op.map Value.bool ++ s.un.map (Value.int .i64))) 0 l.enc (by simp [Le.len])
 rw [hA] at h2
 simp only [Nat.add_zero] at h2
 rw [h2, over_whole _ _ (by simp [Le.len]), List.set_eq_take_append_cons_drop, if_pos hkl, flat_append, flat_cons]
 simp only [List.append_assoc]
def St.force (s : St) (k : Nat) (t : Int) : Bool := s.opn k && decide (t ≤ (s.le k).un)
set_option maxHeartbeats 4000000 in
theorem force.calls (b : Nat) (s : St) (x6 t : Int) (W : World) (hB : BlkIs W b 77 s.enc) (hs : s.ok) (h0 : 0 ≤ x6) (h64 : x6 < 64) (r : Bool) (h : s.force x6.toNat t = r) :
 Calls Tryd.prog 42 #[.pointer (some ⟨b, 0, none⟩), .int .i64 x6, .int .i64 t] W fun e w' => e = .returned (.bool r) ∧ w' = W := by
 subst h
 have hk : x6.toNat < 64 := by omega
 have c1 : W.cell? ⟨b, 512 + x6.toNat, none⟩ = some (.bool (s.opn x6.toNat)) := (hB.at_ _).trans (St.get_op hs _ hk)
 have c2 : W.cell? ⟨b, x6.toNat * 8 + 6, none⟩ = some (.int .i64 (s.le x6.toNat).un) := (hB.at_ _).trans (St.get_le hs _ 6 hk (by omega))
 unfold St.force
 have HW : Aside0 (∃ w0 : World, w0 = W) := ⟨W, rfl⟩
 clear hB hs hk
 cases ho : s.opn x6.toNat with
 | false =>
  rw [ho] at c1
  clear ho
  go_enter Tryd.func42, Tryd.ntmps42
  go_wp2
  go_ret
  exact ⟨rfl, rfl⟩
 | true =>
  rw [ho] at c1
  clear ho
  cases hd : decide (t ≤ (s.le x6.toNat).un) with
  | false =>
   go_enter Tryd.func42, Tryd.ntmps42
   go_wp2
   go_ret
   exact ⟨rfl, rfl⟩
  | true =>
   go_enter Tryd.func42, Tryd.ntmps42
   go_wp2
   go_ret
   exact ⟨rfl, rfl⟩
def unI (i : Nat) : List Int := List.replicate i (-1) ++ List.replicate (64 - i) 0
def stI (i : Nat) : St := ⟨List.replicate 64 zLe, List.replicate 64 false, unI i⟩
theorem stI_ok (i : Nat) (hi : i ≤ 64) : (stI i).ok := ⟨by simp [stI], by simp [stI], by simp [stI, unI]; omega⟩
theorem stI_set (i : Nat) (hi : i < 64) : (stI i).setU i (-1) = stI (i + 1) := by
 have : (unI i).set i (-1) = unI (i + 1) := by
  unfold unI
  rw [List.set_append_right _ _ (by simp), List.length_replicate, Nat.sub_self, show 64 - i = (64 - (i + 1)) + 1 by omega, List.replicate_succ, List.set_cons_zero, List.replicate_succ', List.append_assoc]
  rfl
 unfold St.setU stI
 rw [this]
def St.zero : St := stI 64
theorem St.zero_ok : St.zero.ok := stI_ok 64 (Nat.le_refl _)
def zcS : Array Value := (stI 0).enc.toArray
theorem zcS_size : zcS.size = 640 := by kernel_rfl
theorem zcS_ne : zcS ≠ #[] := fun e => by
 have := zcS_size
 rw [e] at this
 cases this
theorem zcS_run (w : World) : (zeroValue 77).run Tryd.prog w = .ok (.agg zcS) w := by kernel_rfl
attribute [local go_sem ↓] zcS_run
attribute [local go_sem] zcS_size
attribute [local simp] zcS_ne
theorem st_one (s : St) : ∀ q ∈ s.enc, q.oneCell' = true := by
 intro q hq
 unfold St.enc at hq
 rcases List.mem_append.mp hq with h | h
 ·obtain ⟨l, _, hl⟩ := List.mem_flatMap.mp h
  unfold Le.enc at hl
  simp only [List.mem_cons, List.not_mem_nil, or_false] at hl
  rcases hl with rfl | rfl | rfl | rfl | rfl | rfl | rfl | rfl <;> rfl
 ·rcases List.mem_append.mp h with h | h
  ·obtain ⟨b, _, rfl⟩ := List.mem_map.mp h
   rfl
  ·obtain ⟨b, _, rfl⟩ := List.mem_map.mp h
   rfl
set_option maxHeartbeats 16000000 in
set_option maxRecDepth 100000 in
theorem empty.calls (w : World) : Calls Tryd.prog 39 #[] w fun e w' => e = .returned (.agg St.zero.enc.toArray) ∧ Below w.heap.size w w' := by
 go_enter Tryd.func39, Tryd.ntmps39
 go_wp2_with (fail)
 unfold zcS
 obtain ⟨W0, hW0⟩ : ∃ W0, W0 = (w.alloc (.cells (stI 0).enc.toArray 77)).alloc (.cells (stI 0).enc.toArray 77) := ⟨_, rfl⟩
 rw [← hW0]
 have HZ0 : Aside0 (BlkIs W0 w.heap.size 77 (stI 0).enc) := ⟨by rw [hW0]; exact BlkIs.alloc (heap_alloc_new w _) _⟩
 have HV0 : Aside0 (BlkIs W0 (w.heap.size + 1) 77 (stI 0).enc) := ⟨by
  rw [hW0]
  have := heap_alloc_new (w.alloc (.cells (stI 0).enc.toArray 77)) (.cells (stI 0).enc.toArray 77)
  rwa [World.size_alloc] at this⟩
 have HB0 : Aside0 (Below w.heap.size w W0) := ⟨by rw [hW0]; exact below_alloc (below_alloc (Below.refl _ _) _) _⟩
 clear hW0
 go_loopg [3] 64 (fun kq v3 w' => ∃ i : Nat, v3 = .int .i64 i ∧ Aside0 (i + kq = 64) ∧ Aside0 (BlkIs w' w.heap.size 77 (stI 0).enc) ∧ Aside0 (BlkIs w' (w.heap.size + 1) 77 (stI i).enc) ∧ Aside0 (Below w.heap.size w w'))
 case atStart => exact ⟨0, rfl, ⟨rfl⟩, HZ0, HV0, HB0⟩
 case round =>
  clear HZ0 HV0 HB0
  obtain ⟨i, rfl, HI, HZ, HV, HB⟩ := hrel
  cases gk with
  | zero =>
   have c4b0 : decide ((i : Int) < 64) = false := decide_eq_false (by have := HI.out; omega)
   have c4b1 : decide (i < 64) = false := decide_eq_false (by have := HI.out; omega)
   have HV2 : Aside0 (BlkIs wr (w.heap.size + 1) 77 St.zero.enc) := ⟨by
    have := HV.out
    rw [show i = 64 by have := HI.out; omega] at this
    exact this⟩
   go_wp2_with (first | ((with_reducible refine gate_ (.load 77 (.tmp 1)) rfl ?_); refine blk_load rfl 77 (.tmp 1) rfl HV2.out rfl _ Tryd.underlying77 rfl (by rw [St.len St.zero_ok]; kernel_rfl) ?_) | ((with_reducible refine gate_ (.store 77 (.tmp 0) (.tmp 10)) rfl ?_); refine blk_store rfl rfl 77 (.tmp 0) (.tmp 10) rfl HZ.out 0 (.agg St.zero.enc.toArray) St.zero.enc St.zero.enc ⟨_, rfl, rfl⟩ rfl rfl (by rw [St.len St.zero_ok]; kernel_rfl) (by rw [St.len St.zero_ok, St.len (stI_ok 0 (by omega))]; omega) ?h1 ?hE ?_; (case h1 => exact st_one _); (case hE => exact over_whole _ _ (by rw [St.len St.zero_ok, St.len (stI_ok 0 (by omega))])); intro w1 HZ1 HG1))
   refine bodyPost_ret (results_cell rfl _ rfl HZ1.out _ Tryd.underlying77 rfl (by rw [St.len St.zero_ok]; kernel_rfl)) rfl ?_
   exact ⟨rfl, pw_below_grown HB.out _ HB.out.size HG1.out (by intro k hk; injection hk with hk; omega)⟩
  | succ k1 =>
   have hil : i < 64 := by have := HI.out; omega
   have c4b0 : decide ((i : Int) < 64) = true := decide_eq_true (by omega)
   have c4b1 : decide (i < 64) = true := decide_eq_true hil
   have hi64 : (i : Int) ≤ 9223372036854775806 := by omega
   have pi1 : 0 ≤ (i : Int) := by omega
   have pi2 : (i : Int) < 64 := by omega
   have HIL := Aside0.mk hil
   have HV1 : Aside0 (BlkIs wr (w.heap.size + 1) 77 (stI i).enc) := HV
   clear HV
   go_wp2_with (((with_reducible refine gate_ (.store 3 (.tmp 8) (.const (.int .i64 (-1)))) rfl ?_); refine blk_store rfl rfl 3 (.tmp 8) (.const (.int .i64 (-1))) rfl HV1.out (576 + i) (.int .i64 (-1)) [.int .i64 (-1)] (stI (i + 1)).enc ⟨_, rfl, by first | rfl | (simp; done) | (simp; omega) | omega⟩ rfl rfl (by kernel_rfl) (by rw [St.len (stI_ok i (by have := HIL.out; omega))]; have := HIL.out; show 576 + i + 1 ≤ 640; omega) ?h1 ?hE ?_; (case h1 => intro q hq; rw [List.mem_singleton] at hq; subst hq; rfl); (case hE => rw [St.put_un (stI_ok i (by have := HIL.out; omega)) i HIL.out, stI_set i HIL.out]); intro w1 HV2 HG2))
   have HZ2 := Aside0.mk (HZ.out.grown HG2.out (fun e => by injection e with e; omega))
   have HB2 : Aside0 (Below w.heap.size w w1) := ⟨pw_below_grown HB.out _ HB.out.size HG2.out (by intro k hk; injection hk with hk; omega)⟩
   go_roundg k1
   case measure => omega
   case rel => exact ⟨i + 1, by simp, ⟨by have := HI.out; omega⟩, HZ2, HV2, HB2⟩
end
section
attribute [local go_sem ↓] some_setCell
def Le.till (l : Le) (u : Int) : Le := ⟨l.o, l.k, l.s, l.h, l.z, l.fr, u, l.rc⟩
def Le.got (l : Le) : Le := ⟨l.o, l.k, l.s, l.h, l.z, l.fr, l.un, true⟩
def St.sayS (s : St) (x : S39) : Option St :=
 if x.f5 = 1 then (if x.f4 ≤ s.unt x.f6.toNat then none else some (((s.setL x.f6.toNat ⟨x.f1, x.f0, x.f6, x.f7, x.f8, x.f4, x.f9, false⟩).setO x.f6.toNat true).setU x.f6.toNat x.f9))
 else if x.f5 = 2 then (if s.force x.f6.toNat x.f4 = true then (if x.f9 ≤ s.unt x.f6.toNat then none else some ((s.setL x.f6.toNat ((s.le x.f6.toNat).till x.f9)).setU x.f6.toNat x.f9)) else none)
 else if x.f5 = 3 ∨ x.f5 = 5 then (if s.force x.f6.toNat x.f4 = true then some (s.setO x.f6.toNat false) else none)
 else if x.f5 = 4 then (if s.force x.f6.toNat x.f4 = true then (if (s.le x.f6.toNat).h = x.f7 then (if (s.le x.f6.toNat).z = x.f8 then some (s.setL x.f6.toNat (s.le x.f6.toNat).got) else none) else none) else none)
 else some s
def SayPost (b : Nat) (s : St) (x : S39) (W w' : World) : Prop := BlkIs w' b 77 ((s.sayS x).getD s).enc ∧ W.grownBy w' (some b)
theorem gdrewN (w : World) (n : Nat) (row : Option Nat) : w.grownBy (w.drewN n) row := ⟨rfl, rfl, rfl, Nat.le_refl _, fun _ _ _ => rfl⟩
theorem gdrew (w : World) (row : Option Nat) : w.grownBy w.drew row := ⟨rfl, rfl, rfl, Nat.le_refl _, fun _ _ _ => rfl⟩
theorem grown_new {w w1 w2 : World} {g : Nat} {r : Option Nat} (h : w.grownBy w1 r) (h2 : w1.grownBy w2 (some g)) (hg : w.heap.size ≤ g) : w.grownBy w2 r :=
 ⟨h2.os.trans h.os, h2.tape.trans h.tape, h2.output.trans h.output, Nat.le_trans h.size h2.size, fun i hi hr => (h2.block i (Nat.lt_of_lt_of_le hi h.size) (fun e => by injection e with e; omega)).trans (h.block i hi hr)⟩
theorem le_one (l : Le) : ∀ q ∈ l.enc, q.oneCell' = true := by
 intro q hl
 unfold Le.enc at hl
 simp only [List.mem_cons, List.not_mem_nil, or_false] at hl
 rcases hl with rfl | rfl | rfl | rfl | rfl | rfl | rfl | rfl <;> rfl
def say.T6 : Bool × List (List Nat × List Nat) := (true, [([], []), ([], []), ([1], [1]), ([], []), ([], []), ([4], [4]), ([], []), ([6], [6]), ([0], [0]), ([8], [8]), ([9, 2, 0, 1, 2], [2, 9]), ([10, 0, 1, 2], [10]), ([3], [3]), ([12], [12]), ([13, 5, 0, 1, 2, 3, 4, 5, 6, 7, 8, 9, 10, 11], [5, 13]), ([14, 7, 11, 0, 1, 2, 3, 4, 5, 6, 7, 8, 9, 10, 11], [7, 14])])
def say.B6 : List Nat := [0, 0, 2, 0, 0, 16, 0, 64, 1, 257, 775, 1799, 8, 4104, 16383, 32767]
theorem say.tab6 : rtab .any (opsOf Tryd.f41 6) = say.T6 := by kernel_rfl
theorem say.bits6 : waitsOk say.T6.2 say.B6 = true := by kernel_rfl
def say.T10 : Bool × List (List Nat × List Nat) := (true, [([], []), ([], []), ([1], [1]), ([], []), ([], []), ([4], [4]), ([], []), ([6], [6]), ([], []), ([8], [8]), ([0], [0]), ([10], [10]), ([11, 2, 0, 1, 2, 6, 7], [2, 11]), ([12, 0, 1, 2, 6, 7], [12]), ([13, 7, 0, 1, 2, 6, 7], [7, 13]), ([3], [3]), ([15], [15]), ([16, 5, 0, 1, 2, 3, 4, 5, 6, 7, 8, 9, 10, 11, 12, 13, 14], [5, 16]), ([17, 9, 14, 0, 1, 2, 3, 4, 5, 6, 7, 8, 9, 10, 11, 12, 13, 14], [9, 17])])
def say.B10 : List Nat := [0, 0, 2, 0, 0, 16, 0, 64, 0, 256, 1, 1025, 3271, 7367, 15559, 8, 32776, 131071, 262143]
theorem say.tab10 : rtab .any (opsOf Tryd.f41 10) = say.T10 := by kernel_rfl
theorem say.bits10 : waitsOk say.T10.2 say.B10 = true := by kernel_rfl
def say.T17 : Bool × List (List Nat × List Nat) := (true, [([], []), ([], []), ([1], [1]), ([0], [0]), ([3], [3]), ([4, 2], [2, 4]), ([5], [5]), ([], []), ([7, 6, 0, 1, 2, 3, 4, 5, 6, 7], [6, 7])])
def say.B17 : List Nat := [0, 0, 2, 1, 9, 31, 63, 0, 255]
theorem say.tab17 : rtab .any (opsOf Tryd.f41 17) = say.T17 := by kernel_rfl
theorem say.bits17 : waitsOk say.T17.2 say.B17 = true := by kernel_rfl
set_option maxHeartbeats 16000000 in
set_option maxRecDepth 100000 in
theorem say.calls (b : Nat) (s : St) (x : S39) (W : World) (hB : BlkIs W b 77 s.enc) (hs : s.ok) (hk : 1 ≤ x.f5 → x.f5 ≤ 5 → 0 ≤ x.f6 ∧ x.f6 < 64) (r : Bool) (hr : (s.sayS x).isSome = r) :
 Calls Tryd.prog 41 #[.pointer (some ⟨b, 0, none⟩), .agg #[.int .i64 x.f0, .int .i64 x.f1, .int .i64 x.f2, .int .i64 x.f3, .int .i64 x.f4, .int .i64 x.f5, .int .i64 x.f6, .int .i64 x.f7, .int .i64 x.f8, .int .i64 x.f9, .int .i64 x.f10]] W fun e w' => e = .returned (.bool r) ∧ SayPost b s x W w' := by
 have hu := Tryd.underlying39
 have huL := Tryd.underlying41
 obtain ⟨W0, hW0⟩ : ∃ W0, W0 = W.alloc (.cells #[.int .i64 x.f0, .int .i64 x.f1, .int .i64 x.f2, .int .i64 x.f3, .int .i64 x.f4, .int .i64 x.f5, .int .i64 x.f6, .int .i64 x.f7, .int .i64 x.f8, .int .i64 x.f9, .int .i64 x.f10] 39) := ⟨_, rfl⟩
 have hX0 : BlkIs W0 W.heap.size 39 [.int .i64 x.f0, .int .i64 x.f1, .int .i64 x.f2, .int .i64 x.f3, .int .i64 x.f4, .int .i64 x.f5, .int .i64 x.f6, .int .i64 x.f7, .int .i64 x.f8, .int .i64 x.f9, .int .i64 x.f10] := by rw [hW0]; exact heap_alloc_new W _
 have hB0 : BlkIs W0 b 77 s.enc := by rw [hW0]; exact hB.alloc _
 have hG0 : W.grownBy W0 (some b) := by rw [hW0]; exact grown_of_below (below_alloc (Below.refl _ _) _) _
 have hne : ¬ W.heap.size = b := by have := hB.lt; omega
 have HX0 := As hX0
 have SB0 := As hB0
 have HG0 := As hG0
 have HW := As hW0
 have HOK := As hs
 have HNE : Aside0 (some W.heap.size ≠ some b) := ⟨fun e => hne (by injection e)⟩
 clear hB hX0 hB0 hG0 hW0 hs
 unfold SayPost
 by_cases k1 : x.f5 = 1
 ·obtain ⟨f0, f64⟩ := hk (by omega) (by omega)
  have HKL : Aside0 (x.f6.toNat < 64) := ⟨by omega⟩
  have d1 : (x.f5 == 1) = true := beq_iff_eq.mpr k1
  cases hc : decide (x.f4 ≤ s.unt x.f6.toNat) with
  | true =>
   have HT : Aside0 (s.sayS x = none) := ⟨by unfold St.sayS; rw [if_pos k1, if_pos (of_decide_eq_true hc)]⟩
   rw [HT.out] at hr
   have hr2 : r = false := hr.symm
   subst hr2
   clear hr
   clear k1 hk
   go_enter Tryd.func41, Tryd.ntmps41
   go_upto_region 1 with (fail)
   rw [← HW.out]
   obtain ⟨x0_0, x1_0, x2_0, x3_0, x4_0, x5_0, x6_0, x7_0, x8_0, x9_0, x10_0⟩ := cs11 HX0.out
   have u_0 : W0.cell? ⟨b, 576 + x.f6.toNat, none⟩ = some (.int .i64 (s.unt x.f6.toNat)) := (SB0.out.at_ _).trans (St.get_un HOK.out _ HKL.out)
   go_upto_region 3 with (fail)
   go_quiet ((fail))
   go_wp2
   go_ret
   exact ⟨rfl, by rw [HT.out]; exact SB0.out.drewN _, grown2 HG0.out (gdrewN _ _ _)⟩
  | false =>
   have HT : Aside0 (s.sayS x = some (((s.setL x.f6.toNat ⟨x.f1, x.f0, x.f6, x.f7, x.f8, x.f4, x.f9, false⟩).setO x.f6.toNat true).setU x.f6.toNat x.f9)) := ⟨by unfold St.sayS; rw [if_pos k1, if_neg (of_decide_eq_false hc)]⟩
   rw [HT.out] at hr
   have hr2 : r = true := hr.symm
   subst hr2
   clear hr
   clear k1 hk
   go_enter Tryd.func41, Tryd.ntmps41
   go_upto_region 1 with (fail)
   rw [← HW.out]
   obtain ⟨x0_0, x1_0, x2_0, x3_0, x4_0, x5_0, x6_0, x7_0, x8_0, x9_0, x10_0⟩ := cs11 HX0.out
   have u_0 : W0.cell? ⟨b, 576 + x.f6.toNat, none⟩ = some (.int .i64 (s.unt x.f6.toNat)) := (SB0.out.at_ _).trans (St.get_un HOK.out _ HKL.out)
   go_upto_region 3 with (fail)
   go_quiet ((fail))
   go_upto_region 5 with (fail)
   have HX1 := As (HX0.out.drewN nq)
   have SB1 := As (SB0.out.drewN nq)
   have HG1 := As (grown2 HG0.out (gdrewN _ nq _))
   generalize (World.drewN _ nq) = w1 at HX1 SB1 HG1 ⊢
   obtain ⟨x0_1, x1_1, x2_1, x3_1, x4_1, x5_1, x6_1, x7_1, x8_1, x9_1, x10_1⟩ := cs11 HX1.out
   go_still_tail 21, (by kernel_rfl)
   go_upto_region 6 with (((with_reducible refine gate_ (.store 41 (.tmp 40) (.tmp 37)) rfl ?_); refine blk_store rfl rfl 41 (.tmp 40) (.tmp 37) rfl (SB1.out.drew) (x.f6.toNat * 8) (.agg #[.int .i64 x.f1, .int .i64 x.f0, .int .i64 x.f6, .int .i64 x.f7, .int .i64 x.f8, .int .i64 x.f4, .int .i64 x.f9, .bool false]) (⟨x.f1, x.f0, x.f6, x.f7, x.f8, x.f4, x.f9, false⟩ : Le).enc (s.setL x.f6.toNat ⟨x.f1, x.f0, x.f6, x.f7, x.f8, x.f4, x.f9, false⟩).enc ?ha ?hx ?hu ?ht ?hf ?h1 ?hE ?_; (case ha => first | exact ⟨_, rfl, rfl⟩ | exact ⟨_, rfl, by omega⟩); (case hx => rfl); (case hu => rfl); (case ht => kernel_rfl); (case hf => rw [St.len HOK.out]; have := HKL.out; show x.f6.toNat * 8 + 8 ≤ 640; omega); (case h1 => exact le_one _); (case hE => exact St.put_le HOK.out _ HKL.out _); intro w2 SB2 hg2; have HX2 := As (HX1.out.drew.grown hg2.out HNE.out); have HG2 := As (grown2 (grown2 HG1.out (gdrew _ _)) hg2.out)))
   have HOK2 : Aside0 (s.setL x.f6.toNat ⟨x.f1, x.f0, x.f6, x.f7, x.f8, x.f4, x.f9, false⟩).ok := ⟨HOK.out.setL _ _⟩
   have HOK3 : Aside0 ((s.setL x.f6.toNat ⟨x.f1, x.f0, x.f6, x.f7, x.f8, x.f4, x.f9, false⟩).setO x.f6.toNat true).ok := ⟨HOK2.out.setO _ _⟩
   refine start_ (n := 16) (S := fun w' => w'.cell? ⟨W.heap.size, 6, none⟩ = some (.int .i64 x.f6) ∧ w'.cell? ⟨W.heap.size, 9, none⟩ = some (.int .i64 x.f9)) (ds := []) (marksOf 16 0) (by kernel_rfl) rfl rfl ⟨HX2.out.drew.at_ 6, HX2.out.drew.at_ 9⟩ (fun hHeld => ?_)
   refine with_tabW say.tab6 say.bits6 (fun HT_ HW_ => ?_)
   have HX3 := As HX2.out.drew
   have SB3 := As SB2.out.drew
   have HG3 := As (grown2 HG2.out (gdrew _ _))
   generalize w2.drew = w3 at HX3 SB3 HG3 hHeld ⊢
   refine pv_ 0 41 16 1 ?_
   refine pv_ 1 42 16 3 ?_
   refine ta_ 2 43 16 7 ?_ rfl rfl (take_ofW HT_.out HW_.out (by kernel_rfl)) (fun _ _ _ h => h) (by rfl) ?_ hHeld ?_ ?_ ?_
   rotate_left
   ·rintro w' ⟨s0, s1⟩
    go_simp
    with_reducible rfl
   rotate_left
   ·simp only [Act.put, List.setIfInBounds_toArray, List.set_cons_zero, List.set_cons_succ, q1, q2, q3, i64_w, i32_w]
    rfl
   refine pv_ 3 44 16 15 ?_
   refine pv_ 4 45 16 31 ?_
   refine ta_ 5 46 16 63 ?_ rfl rfl (take_ofW HT_.out HW_.out (by kernel_rfl)) (fun _ _ _ h => h) (by rfl) ?_ hHeld ?_ ?_ ?_
   rotate_left
   ·rintro w' ⟨s0, s1⟩
    go_simp
    with_reducible rfl
   rotate_left
   ·simp only [Act.put, List.setIfInBounds_toArray, List.set_cons_zero, List.set_cons_succ, q1, q2, q3, i64_w, i32_w]
    rfl
   refine pv_ 6 47 16 127 ?_
   refine ta_ 7 48 16 255 ?_ rfl rfl (take_ofW HT_.out HW_.out (by kernel_rfl)) (fun _ _ _ h => h) (by rfl) ?_ hHeld ?_ ?_ ?_
   rotate_left
   ·rintro w' ⟨s0, s1⟩
    go_simp
    with_reducible rfl
   rotate_left
   ·simp only [Act.put, List.setIfInBounds_toArray, List.set_cons_zero, List.set_cons_succ, q1, q2, q3, i64_w, i32_w]
    rfl
   refine pv_ 8 49 16 511 ?_
   refine pv_ 9 50 16 1023 ?_
   refine pv_ 10 51 16 2047 ?_
   refine pv_ 12 52 16 6143 ?_
   refine pv_ 13 53 16 14335 ?_
   refine one_ (i := 11) (N := none) (marksOf 16 16383) rfl rfl (one_of HT_.out (by kernel_rfl)) (by decide) (fun K hK => ?_)
   refine blk_store_step ?hw ?hN 4 (.tmp 51) (.const (.bool true)) ?ho SB3.out (512 + x.f6.toNat) (.bool true) [.bool true] ((s.setL x.f6.toNat ⟨x.f1, x.f0, x.f6, x.f7, x.f8, x.f4, x.f9, false⟩).setO x.f6.toNat true).enc ?ha ?hx ?hu ?ht ?hf ?h1 ?hE ?_
   case hw => rfl
   case hN => rfl
   case ho => rfl
   case ha => first | exact ⟨_, rfl, rfl⟩ | exact ⟨_, rfl, by omega⟩
   case hx => rfl
   case hu => rfl
   case ht => kernel_rfl
   case hf => rw [St.len HOK2.out]; have := HKL.out; show 512 + x.f6.toNat + 1 ≤ 640; omega
   case h1 => intro q hq; rw [List.mem_singleton] at hq; subst hq; rfl
   case hE => exact St.put_op HOK2.out _ HKL.out _
   intro w4 SB4 hg4
   have HX4 := As (HX3.out.grown hg4.out HNE.out)
   have HG4 := As (grown2 HG3.out hg4.out)
   clear hg4
   refine hK.out _ _ ⟨HX4.out.at_ 6, HX4.out.at_ 9⟩ (fun hHeld => ?_)
   clear hK K
   refine pv_ 14 54 16 32767 ?_
   refine one_ (i := 15) (N := none) (marksOf 16 65535) rfl rfl (one_of HT_.out (by kernel_rfl)) (by decide) (fun K hK => ?_)
   refine blk_store_step ?hw ?hN 3 (.tmp 54) (.tmp 48) ?ho SB4.out (576 + x.f6.toNat) (.int .i64 x.f9) [.int .i64 x.f9] (((s.setL x.f6.toNat ⟨x.f1, x.f0, x.f6, x.f7, x.f8, x.f4, x.f9, false⟩).setO x.f6.toNat true).setU x.f6.toNat x.f9).enc ?ha ?hx ?hu ?ht ?hf ?h1 ?hE ?_
   case hw => rfl
   case hN => rfl
   case ho => rfl
   case ha => first | exact ⟨_, rfl, rfl⟩ | exact ⟨_, rfl, by omega⟩
   case hx => rfl
   case hu => rfl
   case ht => kernel_rfl
   case hf => rw [St.len HOK3.out]; have := HKL.out; show 576 + x.f6.toNat + 1 ≤ 640; omega
   case h1 => intro q hq; rw [List.mem_singleton] at hq; subst hq; rfl
   case hE => exact St.put_un HOK3.out _ HKL.out _
   intro w5 SB5 hg5
   have HX5 := As (HX4.out.grown hg5.out HNE.out)
   have HG5 := As (grown2 HG4.out hg5.out)
   clear hg5
   refine hK.out _ _ ⟨HX5.out.at_ 6, HX5.out.at_ 9⟩ (fun hHeld => ?_)
   clear hK K
   refine done_ (done_of HT_.out (by kernel_rfl)) ?_
   (try simp only [Act.put, List.setIfInBounds_toArray, List.set_cons_zero, List.set_cons_succ])
   go_wp2
   go_ret
   exact ⟨rfl, by rw [HT.out]; exact SB5.out, HG5.out⟩
 ·have d1 : (x.f5 == 1) = false := beq_eq_false_iff_ne.mpr k1
  by_cases k2 : x.f5 = 2
  ·obtain ⟨f0, f64⟩ := hk (by omega) (by omega)
   have HKL : Aside0 (x.f6.toNat < 64) := ⟨by omega⟩
   have d2 : (x.f5 == 2) = true := beq_iff_eq.mpr k2
   cases hf : s.force x.f6.toNat x.f4 with
   | false =>
    have HT : Aside0 (s.sayS x = none) := ⟨by unfold St.sayS; rw [if_neg k1, if_pos k2, if_neg (by rw [hf]; decide)]⟩
    rw [HT.out] at hr
    have hr2 : r = false := hr.symm
    subst hr2
    clear hr
    clear k1 k2 hk
    go_enter Tryd.func41, Tryd.ntmps41
    go_upto_region 1 with (fail)
    rw [← HW.out]
    obtain ⟨x0_0, x1_0, x2_0, x3_0, x4_0, x5_0, x6_0, x7_0, x8_0, x9_0, x10_0⟩ := cs11 HX0.out
    have u_0 : W0.cell? ⟨b, 576 + x.f6.toNat, none⟩ = some (.int .i64 (s.unt x.f6.toNat)) := (SB0.out.at_ _).trans (St.get_un HOK.out _ HKL.out)
    have HF : Aside0 (∀ n, Calls Tryd.prog 42 #[.pointer (some ⟨b, 0, none⟩), .int .i64 x.f6, .int .i64 x.f4] (W0.drewN n) fun e w' => e = .returned (.bool false) ∧ w' = W0.drewN n) := ⟨fun n => force.calls b s x.f6 x.f4 _ (SB0.out.drewN n) HOK.out f0 f64 false hf⟩
    go_upto_region 8 with (fail)
    go_quiet ((go_at_call 42; exact Calls.quiet_of_same (HF.out _)))
    go_wp2
    go_ret
    exact ⟨rfl, by rw [HT.out]; exact SB0.out.drewN _, grown2 HG0.out (gdrewN _ _ _)⟩
   | true =>
    cases hc : decide (x.f9 ≤ s.unt x.f6.toNat) with
    | true =>
     have HT : Aside0 (s.sayS x = none) := ⟨by unfold St.sayS; rw [if_neg k1, if_pos k2, if_pos hf, if_pos (of_decide_eq_true hc)]⟩
     rw [HT.out] at hr
     have hr2 : r = false := hr.symm
     subst hr2
     clear hr
     clear k1 k2 hk
     go_enter Tryd.func41, Tryd.ntmps41
     go_upto_region 1 with (fail)
     rw [← HW.out]
     obtain ⟨x0_0, x1_0, x2_0, x3_0, x4_0, x5_0, x6_0, x7_0, x8_0, x9_0, x10_0⟩ := cs11 HX0.out
     have u_0 : W0.cell? ⟨b, 576 + x.f6.toNat, none⟩ = some (.int .i64 (s.unt x.f6.toNat)) := (SB0.out.at_ _).trans (St.get_un HOK.out _ HKL.out)
     have HF : Aside0 (∀ n, Calls Tryd.prog 42 #[.pointer (some ⟨b, 0, none⟩), .int .i64 x.f6, .int .i64 x.f4] (W0.drewN n) fun e w' => e = .returned (.bool true) ∧ w' = W0.drewN n) := ⟨fun n => force.calls b s x.f6 x.f4 _ (SB0.out.drewN n) HOK.out f0 f64 true hf⟩
     go_upto_region 8 with (fail)
     go_quiet ((go_at_call 42; exact Calls.quiet_of_same (HF.out _)))
     go_wp2
     go_ret
     exact ⟨rfl, by rw [HT.out]; exact SB0.out.drewN _, grown2 HG0.out (gdrewN _ _ _)⟩
    | false =>
     have HT : Aside0 (s.sayS x = some ((s.setL x.f6.toNat ((s.le x.f6.toNat).till x.f9)).setU x.f6.toNat x.f9)) := ⟨by unfold St.sayS; rw [if_neg k1, if_pos k2, if_pos hf, if_neg (of_decide_eq_false hc)]⟩
     rw [HT.out] at hr
     have hr2 : r = true := hr.symm
     subst hr2
     clear hr
     clear k1 k2 hk
     go_enter Tryd.func41, Tryd.ntmps41
     go_upto_region 1 with (fail)
     rw [← HW.out]
     obtain ⟨x0_0, x1_0, x2_0, x3_0, x4_0, x5_0, x6_0, x7_0, x8_0, x9_0, x10_0⟩ := cs11 HX0.out
     have u_0 : W0.cell? ⟨b, 576 + x.f6.toNat, none⟩ = some (.int .i64 (s.unt x.f6.toNat)) := (SB0.out.at_ _).trans (St.get_un HOK.out _ HKL.out)
     have HF : Aside0 (∀ n, Calls Tryd.prog 42 #[.pointer (some ⟨b, 0, none⟩), .int .i64 x.f6, .int .i64 x.f4] (W0.drewN n) fun e w' => e = .returned (.bool true) ∧ w' = W0.drewN n) := ⟨fun n => force.calls b s x.f6 x.f4 _ (SB0.out.drewN n) HOK.out f0 f64 true hf⟩
     go_upto_region 8 with (fail)
     go_quiet ((go_at_call 42; exact Calls.quiet_of_same (HF.out _)))
     go_upto_region 10 with (fail)
     have HX1 := As (HX0.out.drewN nq)
     have SB1 := As (SB0.out.drewN nq)
     have HG1 := As (grown2 HG0.out (gdrewN _ nq _))
     generalize (World.drewN _ nq) = w2 at HX1 SB1 HG1 ⊢
     have HOK2 : Aside0 (s.setL x.f6.toNat ((s.le x.f6.toNat).till x.f9)).ok := ⟨HOK.out.setL _ _⟩
     refine start_ (n := 19) (S := fun w' => w'.cell? ⟨W.heap.size, 6, none⟩ = some (.int .i64 x.f6) ∧ w'.cell? ⟨W.heap.size, 9, none⟩ = some (.int .i64 x.f9)) (ds := []) (marksOf 19 0) (by kernel_rfl) rfl rfl ⟨HX1.out.drew.at_ 6, HX1.out.drew.at_ 9⟩ (fun hHeld => ?_)
     refine with_tabW say.tab10 say.bits10 (fun HT_ HW_ => ?_)
     have HX3 := As HX1.out.drew
     have SB3 := As SB1.out.drew
     have HG3 := As (grown2 HG1.out (gdrew _ _))
     generalize w2.drew = w3 at HX3 SB3 HG3 hHeld ⊢
     refine pv_ 0 76 19 1 ?_
     refine pv_ 1 77 19 3 ?_
     refine ta_ 2 78 19 7 ?_ rfl rfl (take_ofW HT_.out HW_.out (by kernel_rfl)) (fun _ _ _ h => h) (by rfl) ?_ hHeld ?_ ?_ ?_
     rotate_left
     ·rintro w' ⟨s0, s1⟩
      go_simp
      with_reducible rfl
     rotate_left
     ·simp only [Act.put, List.setIfInBounds_toArray, List.set_cons_zero, List.set_cons_succ, q1, q2, q3, i64_w, i32_w]
      rfl
     refine pv_ 3 79 19 15 ?_
     refine pv_ 4 80 19 31 ?_
     refine ta_ 5 81 19 63 ?_ rfl rfl (take_ofW HT_.out HW_.out (by kernel_rfl)) (fun _ _ _ h => h) (by rfl) ?_ hHeld ?_ ?_ ?_
     rotate_left
     ·rintro w' ⟨s0, s1⟩
      go_simp
      with_reducible rfl
     rotate_left
     ·simp only [Act.put, List.setIfInBounds_toArray, List.set_cons_zero, List.set_cons_succ, q1, q2, q3, i64_w, i32_w]
      rfl
     refine pv_ 6 82 19 127 ?_
     refine ta_ 7 83 19 255 ?_ rfl rfl (take_ofW HT_.out HW_.out (by kernel_rfl)) (fun _ _ _ h => h) (by rfl) ?_ hHeld ?_ ?_ ?_
     rotate_left
     ·rintro w' ⟨s0, s1⟩
      go_simp
      with_reducible rfl
     rotate_left
     ·simp only [Act.put, List.setIfInBounds_toArray, List.set_cons_zero, List.set_cons_succ, q1, q2, q3, i64_w, i32_w]
      rfl
     refine pv_ 8 84 19 511 ?_
     refine ta_ 9 85 19 1023 ?_ rfl rfl (take_ofW HT_.out HW_.out (by kernel_rfl)) (fun _ _ _ h => h) (by rfl) ?_ hHeld ?_ ?_ ?_
     rotate_left
     ·rintro w' ⟨s0, s1⟩
      go_simp
      with_reducible rfl
     rotate_left
     ·simp only [Act.put, List.setIfInBounds_toArray, List.set_cons_zero, List.set_cons_succ, q1, q2, q3, i64_w, i32_w]
      rfl
     refine pv_ 10 86 19 2047 ?_
     refine pv_ 11 87 19 4095 ?_
     refine pv_ 12 88 19 8191 ?_
     refine pv_ 13 89 19 16383 ?_
     refine pv_ 15 90 19 49151 ?_
     refine pv_ 16 91 19 114687 ?_
     refine one_ (i := 14) (N := none) (marksOf 19 131071) rfl rfl (one_of HT_.out (by kernel_rfl)) (by decide) (fun K hK => ?_)
     refine blk_store_step ?hw ?hN 3 (.tmp 89) (.tmp 83) ?ho SB3.out (x.f6.toNat * 8 + 6) (.int .i64 x.f9) [.int .i64 x.f9] (s.setL x.f6.toNat ((s.le x.f6.toNat).till x.f9)).enc ?ha ?hx ?hu ?ht ?hf ?h1 ?hE ?_
     case hw => rfl
     case hN => rfl
     case ho => rfl
     case ha => first | exact ⟨_, rfl, rfl⟩ | exact ⟨_, rfl, by omega⟩
     case hx => rfl
     case hu => rfl
     case ht => kernel_rfl
     case hf => rw [St.len HOK.out]; have := HKL.out; show x.f6.toNat * 8 + 6 + 1 ≤ 640; omega
     case h1 => intro q hq; rw [List.mem_singleton] at hq; subst hq; rfl
     case hE => exact St.put_one HOK.out _ 6 HKL.out (by omega) _ _ rfl
     intro w4 SB4 hg4
     have HX4 := As (HX3.out.grown hg4.out HNE.out)
     have HG4 := As (grown2 HG3.out hg4.out)
     clear hg4
     refine hK.out _ _ ⟨HX4.out.at_ 6, HX4.out.at_ 9⟩ (fun hHeld => ?_)
     clear hK K
     refine pv_ 17 92 19 262143 ?_
     refine one_ (i := 18) (N := none) (marksOf 19 524287) rfl rfl (one_of HT_.out (by kernel_rfl)) (by decide) (fun K hK => ?_)
     refine blk_store_step ?hw ?hN 3 (.tmp 92) (.tmp 85) ?ho SB4.out (576 + x.f6.toNat) (.int .i64 x.f9) [.int .i64 x.f9] ((s.setL x.f6.toNat ((s.le x.f6.toNat).till x.f9)).setU x.f6.toNat x.f9).enc ?ha ?hx ?hu ?ht ?hf ?h1 ?hE ?_
     case hw => rfl
     case hN => rfl
     case ho => rfl
     case ha => first | exact ⟨_, rfl, rfl⟩ | exact ⟨_, rfl, by omega⟩
     case hx => rfl
     case hu => rfl
     case ht => kernel_rfl
     case hf => rw [St.len HOK2.out]; have := HKL.out; show 576 + x.f6.toNat + 1 ≤ 640; omega
     case h1 => intro q hq; rw [List.mem_singleton] at hq; subst hq; rfl
     case hE => exact St.put_un HOK2.out _ HKL.out _
     intro w5 SB5 hg5
     have HX5 := As (HX4.out.grown hg5.out HNE.out)
     have HG5 := As (grown2 HG4.out hg5.out)
     clear hg5
     refine hK.out _ _ ⟨HX5.out.at_ 6, HX5.out.at_ 9⟩ (fun hHeld => ?_)
     clear hK K
     refine done_ (done_of HT_.out (by kernel_rfl)) ?_
     (try simp only [Act.put, List.setIfInBounds_toArray, List.set_cons_zero, List.set_cons_succ])
     go_wp2
     go_ret
     exact ⟨rfl, by rw [HT.out]; exact SB5.out, HG5.out⟩
  ·have d2 : (x.f5 == 2) = false := beq_eq_false_iff_ne.mpr k2
   by_cases k3 : x.f5 = 3
   ·obtain ⟨f0, f64⟩ := hk (by omega) (by omega)
    have HKL : Aside0 (x.f6.toNat < 64) := ⟨by omega⟩
    have d3 : (x.f5 == 3) = true := beq_iff_eq.mpr k3
    cases hf : s.force x.f6.toNat x.f4 with
    | false =>
     have HT : Aside0 (s.sayS x = none) := ⟨by unfold St.sayS; rw [if_neg k1, if_neg k2, if_pos (.inl k3), if_neg (by rw [hf]; decide)]⟩
     rw [HT.out] at hr
     have hr2 : r = false := hr.symm
     subst hr2
     clear hr
     clear k1 k2 k3 hk
     have HFF := As hf
     clear hf
     go_enter Tryd.func41, Tryd.ntmps41
     go_upto_region 1 with (fail)
     rw [← HW.out]
     obtain ⟨x0_0, x1_0, x2_0, x3_0, x4_0, x5_0, x6_0, x7_0, x8_0, x9_0, x10_0⟩ := cs11 HX0.out
     go_wp2_with ((go_at_call 42; (with_reducible refine (force.calls b s x.f6 x.f4 _ SB0.out HOK.out f0 f64 false HFF.out).mono ?_); rintro e w3 ⟨rfl, rfl⟩))
     go_ret
     exact ⟨rfl, by rw [HT.out]; exact SB0.out, HG0.out⟩
    | true =>
     have HT : Aside0 (s.sayS x = some (s.setO x.f6.toNat false)) := ⟨by unfold St.sayS; rw [if_neg k1, if_neg k2, if_pos (.inl k3), if_pos hf]⟩
     rw [HT.out] at hr
     have hr2 : r = true := hr.symm
     subst hr2
     clear hr
     clear k1 k2 k3 hk
     have HFF := As hf
     clear hf
     go_enter Tryd.func41, Tryd.ntmps41
     go_upto_region 1 with (fail)
     rw [← HW.out]
     obtain ⟨x0_0, x1_0, x2_0, x3_0, x4_0, x5_0, x6_0, x7_0, x8_0, x9_0, x10_0⟩ := cs11 HX0.out
     go_upto_region 15 with ((go_at_call 42; (with_reducible refine (force.calls b s x.f6 x.f4 _ SB0.out HOK.out f0 f64 true HFF.out).mono ?_); rintro e w3 ⟨rfl, rfl⟩))
     go_still_tail 6, (by kernel_rfl)
     go_wp2_with (((with_reducible refine gate_ (.store 4 (.tmp 108) (.const (.bool false))) rfl ?_); refine blk_store rfl rfl 4 (.tmp 108) (.const (.bool false)) rfl (SB0.out.drew) (512 + x.f6.toNat) (.bool false) [.bool false] (s.setO x.f6.toNat false).enc ?ha ?hx ?hu ?ht ?hf ?h1 ?hE ?_; (case ha => first | exact ⟨_, rfl, rfl⟩ | exact ⟨_, rfl, by omega⟩); (case hx => rfl); (case hu => rfl); (case ht => kernel_rfl); (case hf => rw [St.len HOK.out]; have := HKL.out; show 512 + x.f6.toNat + 1 ≤ 640; omega); (case h1 => intro q hq; rw [List.mem_singleton] at hq; subst hq; rfl); (case hE => exact St.put_op HOK.out _ HKL.out _); intro w2 SB2 hg2; have HG2 := As (grown2 (grown2 HG0.out (gdrew _ _)) hg2.out)))
     go_ret
     exact ⟨rfl, by rw [HT.out]; exact SB2.out, HG2.out⟩
   ·have d3 : (x.f5 == 3) = false := beq_eq_false_iff_ne.mpr k3
    by_cases k5 : x.f5 = 5
    ·obtain ⟨f0, f64⟩ := hk (by omega) (by omega)
     have HKL : Aside0 (x.f6.toNat < 64) := ⟨by omega⟩
     have d5 : (x.f5 == 5) = true := beq_iff_eq.mpr k5
     cases hf : s.force x.f6.toNat x.f4 with
     | false =>
      have HT : Aside0 (s.sayS x = none) := ⟨by unfold St.sayS; rw [if_neg k1, if_neg k2, if_pos (.inr k5), if_neg (by rw [hf]; decide)]⟩
      rw [HT.out] at hr
      have hr2 : r = false := hr.symm
      subst hr2
      clear hr
      clear k1 k2 k3 k5 hk
      have HFF := As hf
      clear hf
      go_enter Tryd.func41, Tryd.ntmps41
      go_upto_region 1 with (fail)
      rw [← HW.out]
      obtain ⟨x0_0, x1_0, x2_0, x3_0, x4_0, x5_0, x6_0, x7_0, x8_0, x9_0, x10_0⟩ := cs11 HX0.out
      go_wp2_with ((go_at_call 42; (with_reducible refine (force.calls b s x.f6 x.f4 _ SB0.out HOK.out f0 f64 false HFF.out).mono ?_); rintro e w3 ⟨rfl, rfl⟩))
      go_ret
      exact ⟨rfl, by rw [HT.out]; exact SB0.out, HG0.out⟩
     | true =>
      have HT : Aside0 (s.sayS x = some (s.setO x.f6.toNat false)) := ⟨by unfold St.sayS; rw [if_neg k1, if_neg k2, if_pos (.inr k5), if_pos hf]⟩
      rw [HT.out] at hr
      have hr2 : r = true := hr.symm
      subst hr2
      clear hr
      clear k1 k2 k3 k5 hk
      have HFF := As hf
      clear hf
      go_enter Tryd.func41, Tryd.ntmps41
      go_upto_region 1 with (fail)
      rw [← HW.out]
      obtain ⟨x0_0, x1_0, x2_0, x3_0, x4_0, x5_0, x6_0, x7_0, x8_0, x9_0, x10_0⟩ := cs11 HX0.out
      go_upto_region 15 with ((go_at_call 42; (with_reducible refine (force.calls b s x.f6 x.f4 _ SB0.out HOK.out f0 f64 true HFF.out).mono ?_); rintro e w3 ⟨rfl, rfl⟩))
      go_still_tail 6, (by kernel_rfl)
      go_wp2_with (((with_reducible refine gate_ (.store 4 (.tmp 108) (.const (.bool false))) rfl ?_); refine blk_store rfl rfl 4 (.tmp 108) (.const (.bool false)) rfl (SB0.out.drew) (512 + x.f6.toNat) (.bool false) [.bool false] (s.setO x.f6.toNat false).enc ?ha ?hx ?hu ?ht ?hf ?h1 ?hE ?_; (case ha => first | exact ⟨_, rfl, rfl⟩ | exact ⟨_, rfl, by omega⟩); (case hx => rfl); (case hu => rfl); (case ht => kernel_rfl); (case hf => rw [St.len HOK.out]; have := HKL.out; show 512 + x.f6.toNat + 1 ≤ 640; omega); (case h1 => intro q hq; rw [List.mem_singleton] at hq; subst hq; rfl); (case hE => exact St.put_op HOK.out _ HKL.out _); intro w2 SB2 hg2; have HG2 := As (grown2 (grown2 HG0.out (gdrew _ _)) hg2.out)))
      go_ret
      exact ⟨rfl, by rw [HT.out]; exact SB2.out, HG2.out⟩
    ·have d5 : (x.f5 == 5) = false := beq_eq_false_iff_ne.mpr k5
     by_cases k4 : x.f5 = 4
     ·obtain ⟨f0, f64⟩ := hk (by omega) (by omega)
      have HKL : Aside0 (x.f6.toNat < 64) := ⟨by omega⟩
      have d4 : (x.f5 == 4) = true := beq_iff_eq.mpr k4
      cases hf : s.force x.f6.toNat x.f4 with
      | false =>
       have HT : Aside0 (s.sayS x = none) := ⟨by unfold St.sayS; rw [if_neg k1, if_neg k2, if_neg (fun h => h.elim k3 k5), if_pos k4, if_neg (by rw [hf]; decide)]⟩
       rw [HT.out] at hr
       have hr2 : r = false := hr.symm
       subst hr2
       clear hr
       clear k1 k2 k3 k5 k4 hk
       have HFF := As hf
       clear hf
       go_enter Tryd.func41, Tryd.ntmps41
       go_upto_region 1 with (fail)
       rw [← HW.out]
       obtain ⟨x0_0, x1_0, x2_0, x3_0, x4_0, x5_0, x6_0, x7_0, x8_0, x9_0, x10_0⟩ := cs11 HX0.out
       go_upto_region 17 with (fail)
       refine start_ (n := 9) (S := fun w' => w'.cell? ⟨W.heap.size, 6, none⟩ = some (.int .i64 x.f6) ∧ w'.cell? ⟨b, x.f6.toNat * 8, none⟩ = some (.int .i64 (s.le x.f6.toNat).o) ∧ w'.cell? ⟨b, x.f6.toNat * 8 + 1, none⟩ = some (.int .i64 (s.le x.f6.toNat).k) ∧ w'.cell? ⟨b, x.f6.toNat * 8 + 2, none⟩ = some (.int .i64 (s.le x.f6.toNat).s) ∧ w'.cell? ⟨b, x.f6.toNat * 8 + 3, none⟩ = some (.int .i64 (s.le x.f6.toNat).h) ∧ w'.cell? ⟨b, x.f6.toNat * 8 + 4, none⟩ = some (.int .i64 (s.le x.f6.toNat).z) ∧ w'.cell? ⟨b, x.f6.toNat * 8 + 5, none⟩ = some (.int .i64 (s.le x.f6.toNat).fr) ∧ w'.cell? ⟨b, x.f6.toNat * 8 + 6, none⟩ = some (.int .i64 (s.le x.f6.toNat).un) ∧ w'.cell? ⟨b, x.f6.toNat * 8 + 7, none⟩ = some (.bool (s.le x.f6.toNat).rc)) (ds := []) (marksOf 9 0) (by kernel_rfl) rfl rfl ⟨HX0.out.drew.at_ 6, (SB0.out.drew.at_ _).trans (St.get_le HOK.out _ 0 HKL.out (by omega)), (SB0.out.drew.at_ _).trans (St.get_le HOK.out _ 1 HKL.out (by omega)), (SB0.out.drew.at_ _).trans (St.get_le HOK.out _ 2 HKL.out (by omega)), (SB0.out.drew.at_ _).trans (St.get_le HOK.out _ 3 HKL.out (by omega)), (SB0.out.drew.at_ _).trans (St.get_le HOK.out _ 4 HKL.out (by omega)), (SB0.out.drew.at_ _).trans (St.get_le HOK.out _ 5 HKL.out (by omega)), (SB0.out.drew.at_ _).trans (St.get_le HOK.out _ 6 HKL.out (by omega)), (SB0.out.drew.at_ _).trans (St.get_le HOK.out _ 7 HKL.out (by omega))⟩ (fun hHeld => ?_)
       refine with_tabW say.tab17 say.bits17 (fun HT_ HW_ => ?_)
       have HX3 := As HX0.out.drew
       have SB3 := As SB0.out.drew
       have HG3 := As (grown2 HG0.out (gdrew _ _))
       generalize W0.drew = w3 at HX3 SB3 HG3 hHeld ⊢
       refine pv_ 0 111 9 1 ?_
       refine pv_ 1 112 9 3 ?_
       refine ta_ 2 113 9 7 ?_ rfl rfl (take_ofW HT_.out HW_.out (by kernel_rfl)) (fun _ _ _ h => h) (by rfl) ?_ hHeld ?_ ?_ ?_
       rotate_left
       ·rintro w' ⟨s0, s1, s2, s3, s4, s5, s6, s7, s8⟩
        go_simp
        with_reducible rfl
       rotate_left
       ·simp only [Act.put, List.setIfInBounds_toArray, List.set_cons_zero, List.set_cons_succ, q1, q2, q3, i64_w, i32_w]
        rfl
       refine pv_ 3 114 9 15 ?_
       refine pv_ 4 115 9 31 ?_
       refine pv_ 5 116 9 63 ?_
       refine ta_ 6 117 9 127 ?_ rfl rfl (take_ofW HT_.out HW_.out (by kernel_rfl)) (fun _ _ _ h => h) (by rfl) ?_ hHeld ?_ ?_ ?_
       rotate_left
       ·rintro w' ⟨s0, s1, s2, s3, s4, s5, s6, s7, s8⟩
        go_simp
        with_reducible rfl
       rotate_left
       ·simp only [Act.put, List.setIfInBounds_toArray, List.set_cons_zero, List.set_cons_succ, q1, q2, q3, i64_w, i32_w]
        rfl
       refine one_ (i := 7) (N := some 5) (marksOf 9 255) rfl rfl (one_of HT_.out (by kernel_rfl)) (by decide) (fun K hK => ?_)
       refine box_step ?hg (N := 5) ?hd (cs := #[.int .i64 0, .int .i64 0, .int .i64 0, .int .i64 0, .int .i64 0, .int .i64 0, .int .i64 0, .bool false]) (t := 41) ?hr ?_
       case hd => rfl
       case hg => rfl
       case hr => first | (go_simp; done) | (go_simp; rfl)
       intro g hg w4 hbox hb4
       have HN4 : Aside0 (BlkIs w4 g 41 [.int .i64 0, .int .i64 0, .int .i64 0, .int .i64 0, .int .i64 0, .int .i64 0, .int .i64 0, .bool false]) := ⟨hbox⟩
       have HX4 := As (HX3.out.below hb4)
       have SB4 := As (SB3.out.below hb4)
       have HG4 := As (grown2 HG3.out (grown_of_below hb4 _))
       have HGW : Aside0 (W.heap.size < g ∧ b < g) := ⟨by rw [hg]; exact ⟨HX3.out.lt, SB3.out.lt⟩⟩
       have HGN : Aside0 (W.heap.size ≤ g) := ⟨by have := HGW.out.1; omega⟩
       clear hbox hb4 hg
       refine hK.out _ _ ⟨HX4.out.at_ 6, (SB4.out.at_ _).trans (St.get_le HOK.out _ 0 HKL.out (by omega)), (SB4.out.at_ _).trans (St.get_le HOK.out _ 1 HKL.out (by omega)), (SB4.out.at_ _).trans (St.get_le HOK.out _ 2 HKL.out (by omega)), (SB4.out.at_ _).trans (St.get_le HOK.out _ 3 HKL.out (by omega)), (SB4.out.at_ _).trans (St.get_le HOK.out _ 4 HKL.out (by omega)), (SB4.out.at_ _).trans (St.get_le HOK.out _ 5 HKL.out (by omega)), (SB4.out.at_ _).trans (St.get_le HOK.out _ 6 HKL.out (by omega)), (SB4.out.at_ _).trans (St.get_le HOK.out _ 7 HKL.out (by omega))⟩ (fun hHeld => ?_)
       clear hK K
       refine norm_ (a' := ?_) ?_ ?_
       rotate_left
       ·show Act.put _ (some 5) _ = _
        simp only [Act.put, List.setIfInBounds_toArray, List.set_cons_zero, List.set_cons_succ, q1, q2, q3, i64_w, i32_w]
        rfl
       refine one_ (i := 8) (N := none) (marksOf 9 511) rfl rfl (one_of HT_.out (by kernel_rfl)) (by decide) (fun K hK => ?_)
       refine blk_store_step ?hw ?hN 41 (.tmp 5) (.tmp 117) ?ho HN4.out (0) (.agg #[.int .i64 (s.le x.f6.toNat).o, .int .i64 (s.le x.f6.toNat).k, .int .i64 (s.le x.f6.toNat).s, .int .i64 (s.le x.f6.toNat).h, .int .i64 (s.le x.f6.toNat).z, .int .i64 (s.le x.f6.toNat).fr, .int .i64 (s.le x.f6.toNat).un, .bool (s.le x.f6.toNat).rc]) (s.le x.f6.toNat).enc (s.le x.f6.toNat).enc ?ha ?hx ?hu ?ht ?hf ?h1 ?hE ?_
       case hw => rfl
       case hN => rfl
       case ho => rfl
       case ha => first | exact ⟨_, rfl, rfl⟩ | exact ⟨_, rfl, by omega⟩
       case hx => rfl
       case hu => rfl
       case ht => kernel_rfl
       case hf => exact Nat.le_refl 8
       case h1 => exact le_one _
       case hE => exact over_whole _ _ rfl
       intro w5 HN5 hg5
       have HX5 := As (HX4.out.grown hg5.out (fun e => by injection e with e; have := HGW.out.1; omega))
       have SB5 := As (SB4.out.grown hg5.out (fun e => by injection e with e; have := HGW.out.2; omega))
       have HG5 := As (grown_new HG4.out hg5.out HGN.out)
       clear hg5
       refine hK.out _ _ ⟨HX5.out.at_ 6, (SB5.out.at_ _).trans (St.get_le HOK.out _ 0 HKL.out (by omega)), (SB5.out.at_ _).trans (St.get_le HOK.out _ 1 HKL.out (by omega)), (SB5.out.at_ _).trans (St.get_le HOK.out _ 2 HKL.out (by omega)), (SB5.out.at_ _).trans (St.get_le HOK.out _ 3 HKL.out (by omega)), (SB5.out.at_ _).trans (St.get_le HOK.out _ 4 HKL.out (by omega)), (SB5.out.at_ _).trans (St.get_le HOK.out _ 5 HKL.out (by omega)), (SB5.out.at_ _).trans (St.get_le HOK.out _ 6 HKL.out (by omega)), (SB5.out.at_ _).trans (St.get_le HOK.out _ 7 HKL.out (by omega))⟩ (fun hHeld => ?_)
       clear hK K
       refine done_ (done_of HT_.out (by kernel_rfl)) ?_
       (try simp only [Act.put, List.setIfInBounds_toArray, List.set_cons_zero, List.set_cons_succ])
       obtain ⟨x0_5, x1_5, x2_5, x3_5, x4_5, x5_5, x6_5, x7_5, x8_5, x9_5, x10_5⟩ := cs11 HX5.out
       have n3_5 : w5.cell? ⟨g, 3, none⟩ = some (.int .i64 (s.le x.f6.toNat).h) := HN5.out.at_ 3
       have n4_5 : w5.cell? ⟨g, 4, none⟩ = some (.int .i64 (s.le x.f6.toNat).z) := HN5.out.at_ 4
       go_wp2_with ((go_at_call 42; (with_reducible refine (force.calls b s x.f6 x.f4 _ SB5.out HOK.out f0 f64 false HFF.out).mono ?_); rintro e w3 ⟨rfl, rfl⟩))
       go_ret
       exact ⟨rfl, by rw [HT.out]; exact SB5.out, HG5.out⟩
      | true =>
       by_cases e3 : (s.le x.f6.toNat).h = x.f7
       ·by_cases e4 : (s.le x.f6.toNat).z = x.f8
        ·have HT : Aside0 (s.sayS x = some (s.setL x.f6.toNat (s.le x.f6.toNat).got)) := ⟨by unfold St.sayS; rw [if_neg k1, if_neg k2, if_neg (fun h => h.elim k3 k5), if_pos k4, if_pos hf, if_pos e3, if_pos e4]⟩
         rw [HT.out] at hr
         have hr2 : r = true := hr.symm
         subst hr2
         clear hr
         have q3 : ((s.le x.f6.toNat).h != x.f7) = false := bne_eq_false_iff_eq.mpr e3
         have q4 : ((s.le x.f6.toNat).z != x.f8) = false := bne_eq_false_iff_eq.mpr e4
         clear e3 e4
         clear k1 k2 k3 k5 k4 hk
         have HFF := As hf
         clear hf
         go_enter Tryd.func41, Tryd.ntmps41
         go_upto_region 1 with (fail)
         rw [← HW.out]
         obtain ⟨x0_0, x1_0, x2_0, x3_0, x4_0, x5_0, x6_0, x7_0, x8_0, x9_0, x10_0⟩ := cs11 HX0.out
         go_upto_region 17 with (fail)
         refine start_ (n := 9) (S := fun w' => w'.cell? ⟨W.heap.size, 6, none⟩ = some (.int .i64 x.f6) ∧ w'.cell? ⟨b, x.f6.toNat * 8, none⟩ = some (.int .i64 (s.le x.f6.toNat).o) ∧ w'.cell? ⟨b, x.f6.toNat * 8 + 1, none⟩ = some (.int .i64 (s.le x.f6.toNat).k) ∧ w'.cell? ⟨b, x.f6.toNat * 8 + 2, none⟩ = some (.int .i64 (s.le x.f6.toNat).s) ∧ w'.cell? ⟨b, x.f6.toNat * 8 + 3, none⟩ = some (.int .i64 (s.le x.f6.toNat).h) ∧ w'.cell? ⟨b, x.f6.toNat * 8 + 4, none⟩ = some (.int .i64 (s.le x.f6.toNat).z) ∧ w'.cell? ⟨b, x.f6.toNat * 8 + 5, none⟩ = some (.int .i64 (s.le x.f6.toNat).fr) ∧ w'.cell? ⟨b, x.f6.toNat * 8 + 6, none⟩ = some (.int .i64 (s.le x.f6.toNat).un) ∧ w'.cell? ⟨b, x.f6.toNat * 8 + 7, none⟩ = some (.bool (s.le x.f6.toNat).rc)) (ds := []) (marksOf 9 0) (by kernel_rfl) rfl rfl ⟨HX0.out.drew.at_ 6, (SB0.out.drew.at_ _).trans (St.get_le HOK.out _ 0 HKL.out (by omega)), (SB0.out.drew.at_ _).trans (St.get_le HOK.out _ 1 HKL.out (by omega)), (SB0.out.drew.at_ _).trans (St.get_le HOK.out _ 2 HKL.out (by omega)), (SB0.out.drew.at_ _).trans (St.get_le HOK.out _ 3 HKL.out (by omega)), (SB0.out.drew.at_ _).trans (St.get_le HOK.out _ 4 HKL.out (by omega)), (SB0.out.drew.at_ _).trans (St.get_le HOK.out _ 5 HKL.out (by omega)), (SB0.out.drew.at_ _).trans (St.get_le HOK.out _ 6 HKL.out (by omega)), (SB0.out.drew.at_ _).trans (St.get_le HOK.out _ 7 HKL.out (by omega))⟩ (fun hHeld => ?_)
         refine with_tabW say.tab17 say.bits17 (fun HT_ HW_ => ?_)
         have HX3 := As HX0.out.drew
         have SB3 := As SB0.out.drew
         have HG3 := As (grown2 HG0.out (gdrew _ _))
         generalize W0.drew = w3 at HX3 SB3 HG3 hHeld ⊢
         refine pv_ 0 111 9 1 ?_
         refine pv_ 1 112 9 3 ?_
         refine ta_ 2 113 9 7 ?_ rfl rfl (take_ofW HT_.out HW_.out (by kernel_rfl)) (fun _ _ _ h => h) (by rfl) ?_ hHeld ?_ ?_ ?_
         rotate_left
         ·rintro w' ⟨s0, s1, s2, s3, s4, s5, s6, s7, s8⟩
          go_simp
          with_reducible rfl
         rotate_left
         ·simp only [Act.put, List.setIfInBounds_toArray, List.set_cons_zero, List.set_cons_succ, q1, q2, q3, i64_w, i32_w]
          rfl
         refine pv_ 3 114 9 15 ?_
         refine pv_ 4 115 9 31 ?_
         refine pv_ 5 116 9 63 ?_
         refine ta_ 6 117 9 127 ?_ rfl rfl (take_ofW HT_.out HW_.out (by kernel_rfl)) (fun _ _ _ h => h) (by rfl) ?_ hHeld ?_ ?_ ?_
         rotate_left
         ·rintro w' ⟨s0, s1, s2, s3, s4, s5, s6, s7, s8⟩
          go_simp
          with_reducible rfl
         rotate_left
         ·simp only [Act.put, List.setIfInBounds_toArray, List.set_cons_zero, List.set_cons_succ, q1, q2, q3, i64_w, i32_w]
          rfl
         refine one_ (i := 7) (N := some 5) (marksOf 9 255) rfl rfl (one_of HT_.out (by kernel_rfl)) (by decide) (fun K hK => ?_)
         refine box_step ?hg (N := 5) ?hd (cs := #[.int .i64 0, .int .i64 0, .int .i64 0, .int .i64 0, .int .i64 0, .int .i64 0, .int .i64 0, .bool false]) (t := 41) ?hr ?_
         case hd => rfl
         case hg => rfl
         case hr => first | (go_simp; done) | (go_simp; rfl)
         intro g hg w4 hbox hb4
         have HN4 : Aside0 (BlkIs w4 g 41 [.int .i64 0, .int .i64 0, .int .i64 0, .int .i64 0, .int .i64 0, .int .i64 0, .int .i64 0, .bool false]) := ⟨hbox⟩
         have HX4 := As (HX3.out.below hb4)
         have SB4 := As (SB3.out.below hb4)
         have HG4 := As (grown2 HG3.out (grown_of_below hb4 _))
         have HGW : Aside0 (W.heap.size < g ∧ b < g) := ⟨by rw [hg]; exact ⟨HX3.out.lt, SB3.out.lt⟩⟩
         have HGN : Aside0 (W.heap.size ≤ g) := ⟨by have := HGW.out.1; omega⟩
         clear hbox hb4 hg
         refine hK.out _ _ ⟨HX4.out.at_ 6, (SB4.out.at_ _).trans (St.get_le HOK.out _ 0 HKL.out (by omega)), (SB4.out.at_ _).trans (St.get_le HOK.out _ 1 HKL.out (by omega)), (SB4.out.at_ _).trans (St.get_le HOK.out _ 2 HKL.out (by omega)), (SB4.out.at_ _).trans (St.get_le HOK.out _ 3 HKL.out (by omega)), (SB4.out.at_ _).trans (St.get_le HOK.out _ 4 HKL.out (by omega)), (SB4.out.at_ _).trans (St.get_le HOK.out _ 5 HKL.out (by omega)), (SB4.out.at_ _).trans (St.get_le HOK.out _ 6 HKL.out (by omega)), (SB4.out.at_ _).trans (St.get_le HOK.out _ 7 HKL.out (by omega))⟩ (fun hHeld => ?_)
         clear hK K
         refine norm_ (a' := ?_) ?_ ?_
         rotate_left
         ·show Act.put _ (some 5) _ = _
          simp only [Act.put, List.setIfInBounds_toArray, List.set_cons_zero, List.set_cons_succ, q1, q2, q3, i64_w, i32_w]
          rfl
         refine one_ (i := 8) (N := none) (marksOf 9 511) rfl rfl (one_of HT_.out (by kernel_rfl)) (by decide) (fun K hK => ?_)
         refine blk_store_step ?hw ?hN 41 (.tmp 5) (.tmp 117) ?ho HN4.out (0) (.agg #[.int .i64 (s.le x.f6.toNat).o, .int .i64 (s.le x.f6.toNat).k, .int .i64 (s.le x.f6.toNat).s, .int .i64 (s.le x.f6.toNat).h, .int .i64 (s.le x.f6.toNat).z, .int .i64 (s.le x.f6.toNat).fr, .int .i64 (s.le x.f6.toNat).un, .bool (s.le x.f6.toNat).rc]) (s.le x.f6.toNat).enc (s.le x.f6.toNat).enc ?ha ?hx ?hu ?ht ?hf ?h1 ?hE ?_
         case hw => rfl
         case hN => rfl
         case ho => rfl
         case ha => first | exact ⟨_, rfl, rfl⟩ | exact ⟨_, rfl, by omega⟩
         case hx => rfl
         case hu => rfl
         case ht => kernel_rfl
         case hf => exact Nat.le_refl 8
         case h1 => exact le_one _
         case hE => exact over_whole _ _ rfl
         intro w5 HN5 hg5
         have HX5 := As (HX4.out.grown hg5.out (fun e => by injection e with e; have := HGW.out.1; omega))
         have SB5 := As (SB4.out.grown hg5.out (fun e => by injection e with e; have := HGW.out.2; omega))
         have HG5 := As (grown_new HG4.out hg5.out HGN.out)
         clear hg5
         refine hK.out _ _ ⟨HX5.out.at_ 6, (SB5.out.at_ _).trans (St.get_le HOK.out _ 0 HKL.out (by omega)), (SB5.out.at_ _).trans (St.get_le HOK.out _ 1 HKL.out (by omega)), (SB5.out.at_ _).trans (St.get_le HOK.out _ 2 HKL.out (by omega)), (SB5.out.at_ _).trans (St.get_le HOK.out _ 3 HKL.out (by omega)), (SB5.out.at_ _).trans (St.get_le HOK.out _ 4 HKL.out (by omega)), (SB5.out.at_ _).trans (St.get_le HOK.out _ 5 HKL.out (by omega)), (SB5.out.at_ _).trans (St.get_le HOK.out _ 6 HKL.out (by omega)), (SB5.out.at_ _).trans (St.get_le HOK.out _ 7 HKL.out (by omega))⟩ (fun hHeld => ?_)
         clear hK K
         refine done_ (done_of HT_.out (by kernel_rfl)) ?_
         (try simp only [Act.put, List.setIfInBounds_toArray, List.set_cons_zero, List.set_cons_succ])
         obtain ⟨x0_5, x1_5, x2_5, x3_5, x4_5, x5_5, x6_5, x7_5, x8_5, x9_5, x10_5⟩ := cs11 HX5.out
         have n3_5 : w5.cell? ⟨g, 3, none⟩ = some (.int .i64 (s.le x.f6.toNat).h) := HN5.out.at_ 3
         have n4_5 : w5.cell? ⟨g, 4, none⟩ = some (.int .i64 (s.le x.f6.toNat).z) := HN5.out.at_ 4
         go_upto_region 20 with ((go_at_call 42; (with_reducible refine (force.calls b s x.f6 x.f4 _ SB5.out HOK.out f0 f64 true HFF.out).mono ?_); rintro e w3 ⟨rfl, rfl⟩))
         go_still_tail 7, (by kernel_rfl)
         go_wp2_with (((with_reducible refine gate_ (.store 4 (.tmp 145) (.const (.bool true))) rfl ?_); refine blk_store rfl rfl 4 (.tmp 145) (.const (.bool true)) rfl (SB5.out.drew) (x.f6.toNat * 8 + 7) (.bool true) [.bool true] (s.setL x.f6.toNat (s.le x.f6.toNat).got).enc ?ha ?hx ?hu ?ht ?hf ?h1 ?hE ?_; (case ha => first | exact ⟨_, rfl, rfl⟩ | exact ⟨_, rfl, by omega⟩); (case hx => rfl); (case hu => rfl); (case ht => kernel_rfl); (case hf => rw [St.len HOK.out]; have := HKL.out; show x.f6.toNat * 8 + 7 + 1 ≤ 640; omega); (case h1 => intro q hq; rw [List.mem_singleton] at hq; subst hq; rfl); (case hE => exact St.put_one HOK.out _ 7 HKL.out (by omega) _ _ rfl); intro w6 SB6 hg6; have HG6 := As (grown2 (grown2 HG5.out (gdrew _ _)) hg6.out)))
         go_ret
         exact ⟨rfl, by rw [HT.out]; exact SB6.out, HG6.out⟩
        ·have HT : Aside0 (s.sayS x = none) := ⟨by unfold St.sayS; rw [if_neg k1, if_neg k2, if_neg (fun h => h.elim k3 k5), if_pos k4, if_pos hf, if_pos e3, if_neg e4]⟩
         rw [HT.out] at hr
         have hr2 : r = false := hr.symm
         subst hr2
         clear hr
         have q3 : ((s.le x.f6.toNat).h != x.f7) = false := bne_eq_false_iff_eq.mpr e3
         have q4 : ((s.le x.f6.toNat).z != x.f8) = true := bne_iff_ne.mpr e4
         clear e3 e4
         clear k1 k2 k3 k5 k4 hk
         have HFF := As hf
         clear hf
         go_enter Tryd.func41, Tryd.ntmps41
         go_upto_region 1 with (fail)
         rw [← HW.out]
         obtain ⟨x0_0, x1_0, x2_0, x3_0, x4_0, x5_0, x6_0, x7_0, x8_0, x9_0, x10_0⟩ := cs11 HX0.out
         go_upto_region 17 with (fail)
         refine start_ (n := 9) (S := fun w' => w'.cell? ⟨W.heap.size, 6, none⟩ = some (.int .i64 x.f6) ∧ w'.cell? ⟨b, x.f6.toNat * 8, none⟩ = some (.int .i64 (s.le x.f6.toNat).o) ∧ w'.cell? ⟨b, x.f6.toNat * 8 + 1, none⟩ = some (.int .i64 (s.le x.f6.toNat).k) ∧ w'.cell? ⟨b, x.f6.toNat * 8 + 2, none⟩ = some (.int .i64 (s.le x.f6.toNat).s) ∧ w'.cell? ⟨b, x.f6.toNat * 8 + 3, none⟩ = some (.int .i64 (s.le x.f6.toNat).h) ∧ w'.cell? ⟨b, x.f6.toNat * 8 + 4, none⟩ = some (.int .i64 (s.le x.f6.toNat).z) ∧ w'.cell? ⟨b, x.f6.toNat * 8 + 5, none⟩ = some (.int .i64 (s.le x.f6.toNat).fr) ∧ w'.cell? ⟨b, x.f6.toNat * 8 + 6, none⟩ = some (.int .i64 (s.le x.f6.toNat).un) ∧ w'.cell? ⟨b, x.f6.toNat * 8 + 7, none⟩ = some (.bool (s.le x.f6.toNat).rc)) (ds := []) (marksOf 9 0) (by kernel_rfl) rfl rfl ⟨HX0.out.drew.at_ 6, (SB0.out.drew.at_ _).trans (St.get_le HOK.out _ 0 HKL.out (by omega)), (SB0.out.drew.at_ _).trans (St.get_le HOK.out _ 1 HKL.out (by omega)), (SB0.out.drew.at_ _).trans (St.get_le HOK.out _ 2 HKL.out (by omega)), (SB0.out.drew.at_ _).trans (St.get_le HOK.out _ 3 HKL.out (by omega)), (SB0.out.drew.at_ _).trans (St.get_le HOK.out _ 4 HKL.out (by omega)), (SB0.out.drew.at_ _).trans (St.get_le HOK.out _ 5 HKL.out (by omega)), (SB0.out.drew.at_ _).trans (St.get_le HOK.out _ 6 HKL.out (by omega)), (SB0.out.drew.at_ _).trans (St.get_le HOK.out _ 7 HKL.out (by omega))⟩ (fun hHeld => ?_)
         refine with_tabW say.tab17 say.bits17 (fun HT_ HW_ => ?_)
         have HX3 := As HX0.out.drew
         have SB3 := As SB0.out.drew
         have HG3 := As (grown2 HG0.out (gdrew _ _))
         generalize W0.drew = w3 at HX3 SB3 HG3 hHeld ⊢
         refine pv_ 0 111 9 1 ?_
         refine pv_ 1 112 9 3 ?_
         refine ta_ 2 113 9 7 ?_ rfl rfl (take_ofW HT_.out HW_.out (by kernel_rfl)) (fun _ _ _ h => h) (by rfl) ?_ hHeld ?_ ?_ ?_
         rotate_left
         ·rintro w' ⟨s0, s1, s2, s3, s4, s5, s6, s7, s8⟩
          go_simp
          with_reducible rfl
         rotate_left
         ·simp only [Act.put, List.setIfInBounds_toArray, List.set_cons_zero, List.set_cons_succ, q1, q2, q3, i64_w, i32_w]
          rfl
         refine pv_ 3 114 9 15 ?_
         refine pv_ 4 115 9 31 ?_
         refine pv_ 5 116 9 63 ?_
         refine ta_ 6 117 9 127 ?_ rfl rfl (take_ofW HT_.out HW_.out (by kernel_rfl)) (fun _ _ _ h => h) (by rfl) ?_ hHeld ?_ ?_ ?_
         rotate_left
         ·rintro w' ⟨s0, s1, s2, s3, s4, s5, s6, s7, s8⟩
          go_simp
          with_reducible rfl
         rotate_left
         ·simp only [Act.put, List.setIfInBounds_toArray, List.set_cons_zero, List.set_cons_succ, q1, q2, q3, i64_w, i32_w]
          rfl
         refine one_ (i := 7) (N := some 5) (marksOf 9 255) rfl rfl (one_of HT_.out (by kernel_rfl)) (by decide) (fun K hK => ?_)
         refine box_step ?hg (N := 5) ?hd (cs := #[.int .i64 0, .int .i64 0, .int .i64 0, .int .i64 0, .int .i64 0, .int .i64 0, .int .i64 0, .bool false]) (t := 41) ?hr ?_
         case hd => rfl
         case hg => rfl
         case hr => first | (go_simp; done) | (go_simp; rfl)
         intro g hg w4 hbox hb4
         have HN4 : Aside0 (BlkIs w4 g 41 [.int .i64 0, .int .i64 0, .int .i64 0, .int .i64 0, .int .i64 0, .int .i64 0, .int .i64 0, .bool false]) := ⟨hbox⟩
         have HX4 := As (HX3.out.below hb4)
         have SB4 := As (SB3.out.below hb4)
         have HG4 := As (grown2 HG3.out (grown_of_below hb4 _))
         have HGW : Aside0 (W.heap.size < g ∧ b < g) := ⟨by rw [hg]; exact ⟨HX3.out.lt, SB3.out.lt⟩⟩
         have HGN : Aside0 (W.heap.size ≤ g) := ⟨by have := HGW.out.1; omega⟩
         clear hbox hb4 hg
         refine hK.out _ _ ⟨HX4.out.at_ 6, (SB4.out.at_ _).trans (St.get_le HOK.out _ 0 HKL.out (by omega)), (SB4.out.at_ _).trans (St.get_le HOK.out _ 1 HKL.out (by omega)), (SB4.out.at_ _).trans (St.get_le HOK.out _ 2 HKL.out (by omega)), (SB4.out.at_ _).trans (St.get_le HOK.out _ 3 HKL.out (by omega)), (SB4.out.at_ _).trans (St.get_le HOK.out _ 4 HKL.out (by omega)), (SB4.out.at_ _).trans (St.get_le HOK.out _ 5 HKL.out (by omega)), (SB4.out.at_ _).trans (St.get_le HOK.out _ 6 HKL.out (by omega)), (SB4.out.at_ _).trans (St.get_le HOK.out _ 7 HKL.out (by omega))⟩ (fun hHeld => ?_)
         clear hK K
         refine norm_ (a' := ?_) ?_ ?_
         rotate_left
         ·show Act.put _ (some 5) _ = _
          simp only [Act.put, List.setIfInBounds_toArray, List.set_cons_zero, List.set_cons_succ, q1, q2, q3, i64_w, i32_w]
          rfl
         refine one_ (i := 8) (N := none) (marksOf 9 511) rfl rfl (one_of HT_.out (by kernel_rfl)) (by decide) (fun K hK => ?_)
         refine blk_store_step ?hw ?hN 41 (.tmp 5) (.tmp 117) ?ho HN4.out (0) (.agg #[.int .i64 (s.le x.f6.toNat).o, .int .i64 (s.le x.f6.toNat).k, .int .i64 (s.le x.f6.toNat).s, .int .i64 (s.le x.f6.toNat).h, .int .i64 (s.le x.f6.toNat).z, .int .i64 (s.le x.f6.toNat).fr, .int .i64 (s.le x.f6.toNat).un, .bool (s.le x.f6.toNat).rc]) (s.le x.f6.toNat).enc (s.le x.f6.toNat).enc ?ha ?hx ?hu ?ht ?hf ?h1 ?hE ?_
         case hw => rfl
         case hN => rfl
         case ho => rfl
         case ha => first | exact ⟨_, rfl, rfl⟩ | exact ⟨_, rfl, by omega⟩
         case hx => rfl
         case hu => rfl
         case ht => kernel_rfl
         case hf => exact Nat.le_refl 8
         case h1 => exact le_one _
         case hE => exact over_whole _ _ rfl
         intro w5 HN5 hg5
         have HX5 := As (HX4.out.grown hg5.out (fun e => by injection e with e; have := HGW.out.1; omega))
         have SB5 := As (SB4.out.grown hg5.out (fun e => by injection e with e; have := HGW.out.2; omega))
         have HG5 := As (grown_new HG4.out hg5.out HGN.out)
         clear hg5
         refine hK.out _ _ ⟨HX5.out.at_ 6, (SB5.out.at_ _).trans (St.get_le HOK.out _ 0 HKL.out (by omega)), (SB5.out.at_ _).trans (St.get_le HOK.out _ 1 HKL.out (by omega)), (SB5.out.at_ _).trans (St.get_le HOK.out _ 2 HKL.out (by omega)), (SB5.out.at_ _).trans (St.get_le HOK.out _ 3 HKL.out (by omega)), (SB5.out.at_ _).trans (St.get_le HOK.out _ 4 HKL.out (by omega)), (SB5.out.at_ _).trans (St.get_le HOK.out _ 5 HKL.out (by omega)), (SB5.out.at_ _).trans (St.get_le HOK.out _ 6 HKL.out (by omega)), (SB5.out.at_ _).trans (St.get_le HOK.out _ 7 HKL.out (by omega))⟩ (fun hHeld => ?_)
         clear hK K
         refine done_ (done_of HT_.out (by kernel_rfl)) ?_
         (try simp only [Act.put, List.setIfInBounds_toArray, List.set_cons_zero, List.set_cons_succ])
         obtain ⟨x0_5, x1_5, x2_5, x3_5, x4_5, x5_5, x6_5, x7_5, x8_5, x9_5, x10_5⟩ := cs11 HX5.out
         have n3_5 : w5.cell? ⟨g, 3, none⟩ = some (.int .i64 (s.le x.f6.toNat).h) := HN5.out.at_ 3
         have n4_5 : w5.cell? ⟨g, 4, none⟩ = some (.int .i64 (s.le x.f6.toNat).z) := HN5.out.at_ 4
         go_wp2_with ((go_at_call 42; (with_reducible refine (force.calls b s x.f6 x.f4 _ SB5.out HOK.out f0 f64 true HFF.out).mono ?_); rintro e w3 ⟨rfl, rfl⟩))
         go_ret
         exact ⟨rfl, by rw [HT.out]; exact SB5.out, HG5.out⟩
       ·have HT : Aside0 (s.sayS x = none) := ⟨by unfold St.sayS; rw [if_neg k1, if_neg k2, if_neg (fun h => h.elim k3 k5), if_pos k4, if_pos hf, if_neg e3]⟩
        rw [HT.out] at hr
        have hr2 : r = false := hr.symm
        subst hr2
        clear hr
        have q3 : ((s.le x.f6.toNat).h != x.f7) = true := bne_iff_ne.mpr e3
        clear e3
        clear k1 k2 k3 k5 k4 hk
        have HFF := As hf
        clear hf
        go_enter Tryd.func41, Tryd.ntmps41
        go_upto_region 1 with (fail)
        rw [← HW.out]
        obtain ⟨x0_0, x1_0, x2_0, x3_0, x4_0, x5_0, x6_0, x7_0, x8_0, x9_0, x10_0⟩ := cs11 HX0.out
        go_upto_region 17 with (fail)
        refine start_ (n := 9) (S := fun w' => w'.cell? ⟨W.heap.size, 6, none⟩ = some (.int .i64 x.f6) ∧ w'.cell? ⟨b, x.f6.toNat * 8, none⟩ = some (.int .i64 (s.le x.f6.toNat).o) ∧ w'.cell? ⟨b, x.f6.toNat * 8 + 1, none⟩ = some (.int .i64 (s.le x.f6.toNat).k) ∧ w'.cell? ⟨b, x.f6.toNat * 8 + 2, none⟩ = some (.int .i64 (s.le x.f6.toNat).s) ∧ w'.cell? ⟨b, x.f6.toNat * 8 + 3, none⟩ = some (.int .i64 (s.le x.f6.toNat).h) ∧ w'.cell? ⟨b, x.f6.toNat * 8 + 4, none⟩ = some (.int .i64 (s.le x.f6.toNat).z) ∧ w'.cell? ⟨b, x.f6.toNat * 8 + 5, none⟩ = some (.int .i64 (s.le x.f6.toNat).fr) ∧ w'.cell? ⟨b, x.f6.toNat * 8 + 6, none⟩ = some (.int .i64 (s.le x.f6.toNat).un) ∧ w'.cell? ⟨b, x.f6.toNat * 8 + 7, none⟩ = some (.bool (s.le x.f6.toNat).rc)) (ds := []) (marksOf 9 0) (by kernel_rfl) rfl rfl ⟨HX0.out.drew.at_ 6, (SB0.out.drew.at_ _).trans (St.get_le HOK.out _ 0 HKL.out (by omega)), (SB0.out.drew.at_ _).trans (St.get_le HOK.out _ 1 HKL.out (by omega)), (SB0.out.drew.at_ _).trans (St.get_le HOK.out _ 2 HKL.out (by omega)), (SB0.out.drew.at_ _).trans (St.get_le HOK.out _ 3 HKL.out (by omega)), (SB0.out.drew.at_ _).trans (St.get_le HOK.out _ 4 HKL.out (by omega)), (SB0.out.drew.at_ _).trans (St.get_le HOK.out _ 5 HKL.out (by omega)), (SB0.out.drew.at_ _).trans (St.get_le HOK.out _ 6 HKL.out (by omega)), (SB0.out.drew.at_ _).trans (St.get_le HOK.out _ 7 HKL.out (by omega))⟩ (fun hHeld => ?_)
        refine with_tabW say.tab17 say.bits17 (fun HT_ HW_ => ?_)
        have HX3 := As HX0.out.drew
        have SB3 := As SB0.out.drew
        have HG3 := As (grown2 HG0.out (gdrew _ _))
        generalize W0.drew = w3 at HX3 SB3 HG3 hHeld ⊢
        refine pv_ 0 111 9 1 ?_
        refine pv_ 1 112 9 3 ?_
        refine ta_ 2 113 9 7 ?_ rfl rfl (take_ofW HT_.out HW_.out (by kernel_rfl)) (fun _ _ _ h => h) (by rfl) ?_ hHeld ?_ ?_ ?_
        rotate_left
        ·rintro w' ⟨s0, s1, s2, s3, s4, s5, s6, s7, s8⟩
         go_simp
         with_reducible rfl
        rotate_left
        ·simp only [Act.put, List.setIfInBounds_toArray, List.set_cons_zero, List.set_cons_succ, q1, q2, q3, i64_w, i32_w]
         rfl
        refine pv_ 3 114 9 15 ?_
        refine pv_ 4 115 9 31 ?_
        refine pv_ 5 116 9 63 ?_
        refine ta_ 6 117 9 127 ?_ rfl rfl (take_ofW HT_.out HW_.out (by kernel_rfl)) (fun _ _ _ h => h) (by rfl) ?_ hHeld ?_ ?_ ?_
        rotate_left
        ·rintro w' ⟨s0, s1, s2, s3, s4, s5, s6, s7, s8⟩
         go_simp
         with_reducible rfl
        rotate_left
        ·simp only [Act.put, List.setIfInBounds_toArray, List.set_cons_zero, List.set_cons_succ, q1, q2, q3, i64_w, i32_w]
         rfl
        refine one_ (i := 7) (N := some 5) (marksOf 9 255) rfl rfl (one_of HT_.out (by kernel_rfl)) (by decide) (fun K hK => ?_)
        refine box_step ?hg (N := 5) ?hd (cs := #[.int .i64 0, .int .i64 0, .int .i64 0, .int .i64 0, .int .i64 0, .int .i64 0, .int .i64 0, .bool false]) (t := 41) ?hr ?_
        case hd => rfl
        case hg => rfl
        case hr => first | (go_simp; done) | (go_simp; rfl)
        intro g hg w4 hbox hb4
        have HN4 : Aside0 (BlkIs w4 g 41 [.int .i64 0, .int .i64 0, .int .i64 0, .int .i64 0, .int .i64 0, .int .i64 0, .int .i64 0, .bool false]) := ⟨hbox⟩
        have HX4 := As (HX3.out.below hb4)
        have SB4 := As (SB3.out.below hb4)
        have HG4 := As (grown2 HG3.out (grown_of_below hb4 _))
        have HGW : Aside0 (W.heap.size < g ∧ b < g) := ⟨by rw [hg]; exact ⟨HX3.out.lt, SB3.out.lt⟩⟩
        have HGN : Aside0 (W.heap.size ≤ g) := ⟨by have := HGW.out.1; omega⟩
        clear hbox hb4 hg
        refine hK.out _ _ ⟨HX4.out.at_ 6, (SB4.out.at_ _).trans (St.get_le HOK.out _ 0 HKL.out (by omega)), (SB4.out.at_ _).trans (St.get_le HOK.out _ 1 HKL.out (by omega)), (SB4.out.at_ _).trans (St.get_le HOK.out _ 2 HKL.out (by omega)), (SB4.out.at_ _).trans (St.get_le HOK.out _ 3 HKL.out (by omega)), (SB4.out.at_ _).trans (St.get_le HOK.out _ 4 HKL.out (by omega)), (SB4.out.at_ _).trans (St.get_le HOK.out _ 5 HKL.out (by omega)), (SB4.out.at_ _).trans (St.get_le HOK.out _ 6 HKL.out (by omega)), (SB4.out.at_ _).trans (St.get_le HOK.out _ 7 HKL.out (by omega))⟩ (fun hHeld => ?_)
        clear hK K
        refine norm_ (a' := ?_) ?_ ?_
        rotate_left
        ·show Act.put _ (some 5) _ = _
         simp only [Act.put, List.setIfInBounds_toArray, List.set_cons_zero, List.set_cons_succ, q1, q2, q3, i64_w, i32_w]
         rfl
        refine one_ (i := 8) (N := none) (marksOf 9 511) rfl rfl (one_of HT_.out (by kernel_rfl)) (by decide) (fun K hK => ?_)
        refine blk_store_step ?hw ?hN 41 (.tmp 5) (.tmp 117) ?ho HN4.out (0) (.agg #[.int .i64 (s.le x.f6.toNat).o, .int .i64 (s.le x.f6.toNat).k, .int .i64 (s.le x.f6.toNat).s, .int .i64 (s.le x.f6.toNat).h, .int .i64 (s.le x.f6.toNat).z, .int .i64 (s.le x.f6.toNat).fr, .int .i64 (s.le x.f6.toNat).un, .bool (s.le x.f6.toNat).rc]) (s.le x.f6.toNat).enc (s.le x.f6.toNat).enc ?ha ?hx ?hu ?ht ?hf ?h1 ?hE ?_
        case hw => rfl
        case hN => rfl
        case ho => rfl
        case ha => first | exact ⟨_, rfl, rfl⟩ | exact ⟨_, rfl, by omega⟩
        case hx => rfl
        case hu => rfl
        case ht => kernel_rfl
        case hf => exact Nat.le_refl 8
        case h1 => exact le_one _
        case hE => exact over_whole _ _ rfl
        intro w5 HN5 hg5
        have HX5 := As (HX4.out.grown hg5.out (fun e => by injection e with e; have := HGW.out.1; omega))
        have SB5 := As (SB4.out.grown hg5.out (fun e => by injection e with e; have := HGW.out.2; omega))
        have HG5 := As (grown_new HG4.out hg5.out HGN.out)
        clear hg5
        refine hK.out _ _ ⟨HX5.out.at_ 6, (SB5.out.at_ _).trans (St.get_le HOK.out _ 0 HKL.out (by omega)), (SB5.out.at_ _).trans (St.get_le HOK.out _ 1 HKL.out (by omega)), (SB5.out.at_ _).trans (St.get_le HOK.out _ 2 HKL.out (by omega)), (SB5.out.at_ _).trans (St.get_le HOK.out _ 3 HKL.out (by omega)), (SB5.out.at_ _).trans (St.get_le HOK.out _ 4 HKL.out (by omega)), (SB5.out.at_ _).trans (St.get_le HOK.out _ 5 HKL.out (by omega)), (SB5.out.at_ _).trans (St.get_le HOK.out _ 6 HKL.out (by omega)), (SB5.out.at_ _).trans (St.get_le HOK.out _ 7 HKL.out (by omega))⟩ (fun hHeld => ?_)
        clear hK K
        refine done_ (done_of HT_.out (by kernel_rfl)) ?_
        (try simp only [Act.put, List.setIfInBounds_toArray, List.set_cons_zero, List.set_cons_succ])
        obtain ⟨x0_5, x1_5, x2_5, x3_5, x4_5, x5_5, x6_5, x7_5, x8_5, x9_5, x10_5⟩ := cs11 HX5.out
        have n3_5 : w5.cell? ⟨g, 3, none⟩ = some (.int .i64 (s.le x.f6.toNat).h) := HN5.out.at_ 3
        have n4_5 : w5.cell? ⟨g, 4, none⟩ = some (.int .i64 (s.le x.f6.toNat).z) := HN5.out.at_ 4
        go_wp2_with ((go_at_call 42; (with_reducible refine (force.calls b s x.f6 x.f4 _ SB5.out HOK.out f0 f64 true HFF.out).mono ?_); rintro e w3 ⟨rfl, rfl⟩))
        go_ret
        exact ⟨rfl, by rw [HT.out]; exact SB5.out, HG5.out⟩
     ·have d4 : (x.f5 == 4) = false := beq_eq_false_iff_ne.mpr k4
      have HT : Aside0 (s.sayS x = some s) := ⟨by unfold St.sayS; rw [if_neg k1, if_neg k2, if_neg (fun h => h.elim k3 k5), if_neg k4]⟩
      rw [HT.out] at hr
      have hr2 : r = true := hr.symm
      subst hr2
      clear hr
      clear k1 k2 k3 k4 k5 hk
      go_enter Tryd.func41, Tryd.ntmps41
      go_upto_region 1 with (fail)
      rw [← HW.out]
      obtain ⟨x0_0, x1_0, x2_0, x3_0, x4_0, x5_0, x6_0, x7_0, x8_0, x9_0, x10_0⟩ := cs11 HX0.out
      go_wp2
      go_ret
      exact ⟨rfl, by rw [HT.out]; exact SB0.out, HG0.out⟩
end
section
attribute [local go_sem ↓] some_setCell
theorem r15_in (a b c : Int) : ref15_in.f a b c = some (decide (b ≤ a) && decide (a ≤ c)) := by
 unfold ref15_in.f
 by_cases h : a ≥ b
 ·rw [if_pos h, decide_eq_true (show b ≤ a from h), Bool.true_and]
 ·rw [if_neg h, decide_eq_false (show ¬ b ≤ a from h), Bool.false_and]
theorem r15_lock (a : Int) : ∃ r, ref15_lock.f a = some r := by
 unfold ref15_lock.f
 split
 ·split <;> exact ⟨_, rfl⟩
 ·exact ⟨_, rfl⟩
theorem ite_some {c : Prop} [Decidable c] {a b : Option Bool} (ha : ∃ r, a = some r) (hb : ∃ r, b = some r) : ∃ r, (if c then a else b) = some r := by
 split
 ·exact ha
 ·exact hb
theorem r15_parts (k : Nat) (f0 f1 f2 f3 f4 f5 f6 f7 f8 f9 f10 : Int) : ∃ r, ref15_parts.f (k + 4) f0 f1 f2 f3 f4 f5 f6 f7 f8 f9 f10 = some r := by
 obtain ⟨lk, hlk⟩ := r15_lock f9
 simp only [ref15_parts.f, ref15_parts.j0, ref15_parts.j1, ref15_parts.j2, ref15_parts.j3, r15_in, hlk, Option.bind_some]
 repeat' first | (with_reducible exact ⟨_, rfl⟩) | (with_reducible refine ite_some ?_ ?_)
theorem r15_valid (f0 f1 f2 f3 f4 f5 f6 f7 f8 f9 f10 : Int) : ∃ r, ref15_Valid.f 4 f0 f1 f2 f3 f4 f5 f6 f7 f8 f9 f10 = some r := by
 obtain ⟨p, hp⟩ := r15_parts 0 f0 f1 f2 f3 f4 f5 f6 f7 f8 f9 f10
 rw [Nat.zero_add] at hp
 simp only [ref15_Valid.f, r15_in, hp, Option.bind_some]
 repeat' first | (with_reducible exact ⟨_, rfl⟩) | (with_reducible refine ite_some ?_ ?_)
def validR (x : S39) : Bool := (ref15_Valid.f 4 x.f0 x.f1 x.f2 x.f3 x.f4 x.f5 x.f6 x.f7 x.f8 x.f9 x.f10).getD false
theorem validR_is (x : S39) : ref15_Valid.f 4 x.f0 x.f1 x.f2 x.f3 x.f4 x.f5 x.f6 x.f7 x.f8 x.f9 x.f10 = some (validR x) := by
 obtain ⟨r, hr⟩ := r15_valid x.f0 x.f1 x.f2 x.f3 x.f4 x.f5 x.f6 x.f7 x.f8 x.f9 x.f10
 unfold validR
 rw [hr]
 rfl
theorem r15_slot (f0 f1 f2 f3 f4 f5 f6 f7 f8 f9 f10 : Int) (h1 : 1 ≤ f5) (h5 : f5 ≤ 5) (h6 : ¬ (0 ≤ f6 ∧ f6 ≤ 63)) : ref15_parts.f 4 f0 f1 f2 f3 f4 f5 f6 f7 f8 f9 f10 = some false := by
 have e : (decide (0 ≤ f6) && decide (f6 ≤ 63)) = false := by
  rw [Bool.and_eq_false_iff, decide_eq_false_iff_not, decide_eq_false_iff_not]
  omega
 have hk : f5 = 1 ∨ f5 = 2 ∨ f5 = 3 ∨ f5 = 4 ∨ f5 = 5 := by omega
 rcases hk with rfl | rfl | rfl | rfl | rfl <;> simp [ref15_parts.f, ref15_parts.j0, ref15_parts.j1, ref15_parts.j2, ref15_parts.j3, r15_in, e]
theorem validR_rng {x : S39} (h : validR x = true) (h1 : 1 ≤ x.f5) (h5 : x.f5 ≤ 5) : 0 ≤ x.f6 ∧ x.f6 < 64 := by
 by_cases h6 : 0 ≤ x.f6 ∧ x.f6 ≤ 63
 ·omega
 ·have hp := r15_slot x.f0 x.f1 x.f2 x.f3 x.f4 x.f5 x.f6 x.f7 x.f8 x.f9 x.f10 h1 h5 h6
  have hv := validR_is x
  rw [h] at hv
  simp [ref15_Valid.f, r15_in, hp] at hv
theorem validR_at (x : S39) (W : World) (b : Bool) (h : validR x = b) : Calls Tryd.prog 40 #[.agg #[.int .i64 x.f0, .int .i64 x.f1, .int .i64 x.f2, .int .i64 x.f3, .int .i64 x.f4, .int .i64 x.f5, .int .i64 x.f6, .int .i64 x.f7, .int .i64 x.f8, .int .i64 x.f9, .int .i64 x.f10]] W fun e w' => e = .returned (.bool b) ∧ Below W.heap.size W w' := by
 subst h
 exact ref15_Valid.calls 4 x.f0 x.f1 x.f2 x.f3 x.f4 x.f5 x.f6 x.f7 x.f8 x.f9 x.f10 (validR x) W (validR_is x)
theorem St.sayS_ok {s s' : St} {x : S39} (h : s.ok) (hs : s.sayS x = some s') : s'.ok := by
 unfold St.sayS at hs
 split at hs
 ·split at hs
  ·cases hs
  ·injection hs with hs
   subst hs
   exact ((h.setL _ _).setO _ _).setU _ _
 ·split at hs
  ·split at hs
   ·split at hs
    ·cases hs
    ·injection hs with hs
     subst hs
     exact (h.setL _ _).setU _ _
   ·cases hs
  ·split at hs
   ·split at hs
    ·injection hs with hs
     subst hs
     exact h.setO _ _
    ·cases hs
   ·split at hs
    ·split at hs
     ·split at hs
      ·split at hs
       ·injection hs with hs
        subst hs
        exact h.setL _ _
       ·cases hs
      ·cases hs
     ·cases hs
    ·injection hs with hs
     subst hs
     exact h
theorem zero_blk (wa : World) : BlkIs (wa.alloc (.cells zcS 77)) wa.heap.size 77 (stI 0).enc := heap_alloc_new wa _
def rrI (l : List S39) : Nat → Nat → St → Int
 | 0, _, _ => 0
 | d + 1, i, s => if validR (rd_T39 l i) = false then 2
  else if ((rd_T39 l i).f0 != (rd_T39 l 0).f0 || (rd_T39 l i).f1 != (rd_T39 l 0).f1) = true then 20
  else if (decide (0 < i) && decide ((rd_T39 l i).f4 < (rd_T39 l ((i : Int) - 1)).f4)) = true then 22
  else match s.sayS (rd_T39 l i) with
   | none => 18
   | some s' => rrI l d (i + 1) s'
def ref16_Right.f (l : List S39) : Option Int := some (rrI l l.length 0 St.zero)
end
section
attribute [local go_sem ↓] some_setCell
attribute [local go_sem ↓] zcS_run
attribute [local go_sem] zcS_size
attribute [local simp] zcS_ne
set_option maxHeartbeats 16000000 in
set_option maxRecDepth 100000 in
theorem ref16_Right.calls (A0 : Option Addr) (c0 : Nat) (l : List S39) (r : Int) (w : World) (hr0 : Kd.C k39 w A0 l.length l) (hc0 : l.length ≤ c0) (h : ref16_Right.f l = some r) :
 Calls Tryd.prog 21 #[.slice A0 l.length c0] w fun e w' => e = .returned (.int .i64 r) ∧ Below w.heap.size w w' := by
 have hr := Option.some.inj h
 clear h
 have hu := Tryd.underlying39
 have HC := As hr0
 have HLM : Aside0 (l.length ≤ 9223372036854775807) := ⟨hr0.2.1⟩
 have HE := As hr
 clear hr0 hr hc0
 go_enter Tryd.func21, Tryd.ntmps21
 go_upto_region 2 with (first | (go_at_call 39; (with_reducible refine (empty.calls _).mono ?_); rintro e wa ⟨rfl, hba⟩; have HBA := As hba; clear hba) | ((with_reducible refine gate_ (.store 77 (.tmp 3) (.tmp 6)) rfl ?_); refine blk_store rfl rfl 77 (.tmp 3) (.tmp 6) rfl (zero_blk wa) 0 (.agg St.zero.enc.toArray) St.zero.enc St.zero.enc ⟨_, rfl, rfl⟩ rfl rfl (by rw [St.len St.zero_ok]; kernel_rfl) (by rw [St.len St.zero_ok, St.len (stI_ok 0 (by omega))]; omega) ?h1 ?hE ?_; (case h1 => exact st_one _); (case hE => exact over_whole _ _ (by rw [St.len St.zero_ok, St.len (stI_ok 0 (by omega))])); intro wb HSb HGb))
 have HBb : Aside0 (Below w.heap.size w wb) := ⟨pw_below_grown (below_alloc HBA.out _) _ (below_alloc HBA.out _).size HGb.out (by intro k hk; injection hk with hk; have := HBA.out.size; omega)⟩
 obtain ⟨b, hb⟩ : ∃ b, b = wa.heap.size := ⟨_, rfl⟩
 have HBW : Aside0 (w.heap.size ≤ b) := ⟨by rw [hb]; exact HBA.out.size⟩
 rw [← hb] at HSb ⊢
 clear HBA HGb hb
 go_wp2_with (fail)
 go_loopg [9] l.length (fun kq v9 w' => ∃ (i : Nat) (s : St), v9 = .int .i64 i ∧ Aside0 (i + kq = l.length) ∧ Aside0 (rrI l kq i s = r) ∧ Aside0 s.ok ∧ Aside0 (BlkIs w' b 77 s.enc) ∧ Aside0 (Below w.heap.size w w'))
 case atStart => exact ⟨0, St.zero, rfl, ⟨by omega⟩, HE, ⟨St.zero_ok⟩, HSb, HBb⟩
 case round =>
  clear HSb HBb HE
  obtain ⟨i, s, rfl, HI, HX, HOK, HS, HB⟩ := hrel
  cases gk with
  | zero =>
   have c4b0 : decide ((i : Int) < (l.length : Int)) = false := decide_eq_false (by have := HI.out; omega)
   have c4b1 : decide (i < l.length) = false := decide_eq_false (by have := HI.out; omega)
   have hre : (0 : Int) = r := HX.out
   subst hre
   go_wp2
   go_ret
   exact ⟨rfl, HB.out⟩
  | succ k1 =>
   have hil : i < l.length := by have := HI.out; omega
   have c4b0 : decide ((i : Int) < (l.length : Int)) = true := decide_eq_true (by omega)
   have c4b1 : decide (i < l.length) = true := decide_eq_true hil
   have hi64 : (i : Int) ≤ 9223372036854775806 := by have := HLM.out; omega
   have p1 : 0 ≤ (i : Int) := by omega
   have q1 : (i : Int) < (l.length : Int) := by omega
   obtain ⟨ad, e1, hx0, hx1, hx2, hx3, hx4, hx5, hx6, hx7, hx8, hx9, hx10⟩ := at_T39 HC.out i p1 q1
   cases e1
   obtain ⟨ad', e2, hy0, hy1, _⟩ := at_T39 HC.out 0 (by omega) (by omega)
   cases e2
   obtain ⟨y, hye⟩ : ∃ y, y = rd_T39 l 0 := ⟨_, rfl⟩
   rw [← hye] at hy0 hy1
   have EY := As hye
   have HY0 := As hy0
   have HY1 := As hy1
   clear hye hy0 hy1
   replace hx0 := (HB.out.cell (World.block_lt_of_cell? w _ hx0)).trans hx0
   replace hx1 := (HB.out.cell (World.block_lt_of_cell? w _ hx1)).trans hx1
   replace hx2 := (HB.out.cell (World.block_lt_of_cell? w _ hx2)).trans hx2
   replace hx3 := (HB.out.cell (World.block_lt_of_cell? w _ hx3)).trans hx3
   replace hx4 := (HB.out.cell (World.block_lt_of_cell? w _ hx4)).trans hx4
   replace hx5 := (HB.out.cell (World.block_lt_of_cell? w _ hx5)).trans hx5
   replace hx6 := (HB.out.cell (World.block_lt_of_cell? w _ hx6)).trans hx6
   replace hx7 := (HB.out.cell (World.block_lt_of_cell? w _ hx7)).trans hx7
   replace hx8 := (HB.out.cell (World.block_lt_of_cell? w _ hx8)).trans hx8
   replace hx9 := (HB.out.cell (World.block_lt_of_cell? w _ hx9)).trans hx9
   replace hx10 := (HB.out.cell (World.block_lt_of_cell? w _ hx10)).trans hx10
   rw [Int.toNat_natCast] at hx0 hx1 hx2 hx3 hx4 hx5 hx6 hx7 hx8 hx9 hx10
   obtain ⟨x, hxe⟩ : ∃ x, x = rd_T39 l (i : Int) := ⟨_, rfl⟩
   rw [← hxe] at hx0 hx1 hx2 hx3 hx4 hx5 hx6 hx7 hx8 hx9 hx10
   have EX := As hxe
   clear hxe
   have hHN := heap_alloc_new wr (.cells #[.int .i64 x.f0, .int .i64 x.f1, .int .i64 x.f2, .int .i64 x.f3, .int .i64 x.f4, .int .i64 x.f5, .int .i64 x.f6, .int .i64 x.f7, .int .i64 x.f8, .int .i64 x.f9, .int .i64 x.f10] 39)
   have hHS := HS.out.alloc (.cells #[.int .i64 x.f0, .int .i64 x.f1, .int .i64 x.f2, .int .i64 x.f3, .int .i64 x.f4, .int .i64 x.f5, .int .i64 x.f6, .int .i64 x.f7, .int .i64 x.f8, .int .i64 x.f9, .int .i64 x.f10] 39)
   have hHB := below_alloc HB.out (.cells #[.int .i64 x.f0, .int .i64 x.f1, .int .i64 x.f2, .int .i64 x.f3, .int .i64 x.f4, .int .i64 x.f5, .int .i64 x.f6, .int .i64 x.f7, .int .i64 x.f8, .int .i64 x.f9, .int .i64 x.f10] 39)
   go_upto_region 5 with (fail)
   generalize wr.alloc (.cells #[.int .i64 x.f0, .int .i64 x.f1, .int .i64 x.f2, .int .i64 x.f3, .int .i64 x.f4, .int .i64 x.f5, .int .i64 x.f6, .int .i64 x.f7, .int .i64 x.f8, .int .i64 x.f9, .int .i64 x.f10] 39) = w1 at hHN hHS hHB ⊢
   have HN1 : Aside0 (BlkIs w1 wr.heap.size 39 [.int .i64 x.f0, .int .i64 x.f1, .int .i64 x.f2, .int .i64 x.f3, .int .i64 x.f4, .int .i64 x.f5, .int .i64 x.f6, .int .i64 x.f7, .int .i64 x.f8, .int .i64 x.f9, .int .i64 x.f10]) := ⟨hHN⟩
   have HS1 := As hHS
   have HB1 := As hHB
   clear hHN hHS hHB hx0 hx1 hx2 hx3 hx4 hx5 hx6 hx7 hx8 hx9 hx10 HS HB
   obtain ⟨x0_1, x1_1, x2_1, x3_1, x4_1, x5_1, x6_1, x7_1, x8_1, x9_1, x10_1⟩ := cs11 HN1.out
   cases hv : validR x with
   | false =>
    have HV := As hv
    clear hv
    have hre : (2 : Int) = r := by
     rw [← HX.out, rrI, ← EX.out, ← EY.out, if_pos HV.out]
    subst hre
    go_wp2_with ((go_at_call 40; (with_reducible refine (validR_at x _ false HV.out).mono ?_); rintro e w2 ⟨rfl, hb2⟩; have HN2 := As (HN1.out.below hb2); have HS2 := As (HS1.out.below hb2); have HB2 := As (below_step HB1.out hb2); clear hb2; obtain ⟨x0_2, x1_2, x2_2, x3_2, x4_2, x5_2, x6_2, x7_2, x8_2, x9_2, x10_2⟩ := cs11 HN2.out; have ya_2 := (HB2.out.cell (World.block_lt_of_cell? w _ HY0.out)).trans HY0.out; have yb_2 := (HB2.out.cell (World.block_lt_of_cell? w _ HY1.out)).trans HY1.out))
    go_ret
    exact ⟨rfl, by repeat (first | exact HB2.out | apply below_drew1 | apply pw_below_drewN)⟩
   | true =>
    have HV := As hv
    have HVN : Aside0 (¬ validR x = false) := ⟨by rw [hv]; decide⟩
    clear hv
    go_upto_region 7 with ((go_at_call 40; (with_reducible refine (validR_at x _ true HV.out).mono ?_); rintro e w2 ⟨rfl, hb2⟩; have HN2 := As (HN1.out.below hb2); have HS2 := As (HS1.out.below hb2); have HB2 := As (below_step HB1.out hb2); clear hb2; obtain ⟨x0_2, x1_2, x2_2, x3_2, x4_2, x5_2, x6_2, x7_2, x8_2, x9_2, x10_2⟩ := cs11 HN2.out; have ya_2 := (HB2.out.cell (World.block_lt_of_cell? w _ HY0.out)).trans HY0.out; have yb_2 := (HB2.out.cell (World.block_lt_of_cell? w _ HY1.out)).trans HY1.out))
    have z2 : w2.cell? ad = some (.int .i64 y.f0) := ya_2
    have z3 : w2.cell? ⟨ad.block, ad.off + 1, none⟩ = some (.int .i64 y.f1) := yb_2
    have z0 : w2.cell? (ad.add 0) = some (.int .i64 y.f0) := ya_2
    have z1 : w2.cell? ⟨(ad.add 0).block, (ad.add 0).off + 1, none⟩ = some (.int .i64 y.f1) := yb_2
    have hl0 : (0 : Int) < (l.length : Int) := by omega
    have hl0n : 0 < l.length := by omega
    cases hp0 : (x.f0 != y.f0) with
    | true =>
     have HP : Aside0 ((x.f0 != y.f0 || x.f1 != y.f1) = true) := ⟨by rw [hp0]; rfl⟩
     have hre : (20 : Int) = r := by
      rw [← HX.out, rrI, ← EX.out, ← EY.out, if_neg HVN.out, if_pos HP.out]
     subst hre
     go_quiet ((fail))
     go_wp2
     go_ret
     exact ⟨rfl, by repeat (first | exact HB2.out | apply below_drew1 | apply pw_below_drewN)⟩
    | false =>
     cases hp1 : (x.f1 != y.f1) with
     | true =>
      have HP : Aside0 ((x.f0 != y.f0 || x.f1 != y.f1) = true) := ⟨by rw [hp0, hp1]; rfl⟩
      have hre : (20 : Int) = r := by
       rw [← HX.out, rrI, ← EX.out, ← EY.out, if_neg HVN.out, if_pos HP.out]
      subst hre
      go_quiet ((fail))
      go_wp2
      go_ret
      exact ⟨rfl, by repeat (first | exact HB2.out | apply below_drew1 | apply pw_below_drewN)⟩
     | false =>
      have HP : Aside0 (¬ (x.f0 != y.f0 || x.f1 != y.f1) = true) := ⟨by rw [hp0, hp1]; decide⟩
      go_quiet ((fail))
      go_upto_region 9 with (fail)
      have HN6 := As (HN2.out.drewN nq)
      have HS6 := As (HS2.out.drewN nq)
      have HB6 := As (pw_below_drewN HB2.out nq)
      generalize (World.drewN _ nq) = w2b at HN6 HS6 HB6 ⊢
      obtain ⟨x0_6, x1_6, x2_6, x3_6, x4_6, x5_6, x6_6, x7_6, x8_6, x9_6, x10_6⟩ := cs11 HN6.out
      clear z0 z1 z2 z3 ya_2 yb_2 hl0 hl0n
      by_cases t0 : i = 0
      ·have HT : Aside0 (¬ (decide (0 < i) && decide (x.f4 < (rd_T39 l ((i : Int) - 1)).f4)) = true) := ⟨by rw [decide_eq_false (show ¬ 0 < i by omega)]; simp⟩
       have d0 : decide (0 < (i : Int)) = false := decide_eq_false (by omega)
       have d0n : decide (0 < i) = false := decide_eq_false (by omega)
       clear t0
       go_quiet ((fail))
       go_upto_region 11 with (fail)
       have HN7 := As (HN6.out.drewN nq)
       have HS7 := As (HS6.out.drewN nq)
       have HB7 := As (pw_below_drewN HB6.out nq)
       generalize (World.drewN _ nq) = w2c at HN7 HS7 HB7 ⊢
       obtain ⟨x0_7, x1_7, x2_7, x3_7, x4_7, x5_7, x6_7, x7_7, x8_7, x9_7, x10_7⟩ := cs11 HN7.out
       cases hs : s.sayS x with
       | none =>
        have HSY := As hs
        have HSI : Aside0 ((s.sayS x).isSome = false) := ⟨by rw [hs]; rfl⟩
        clear hs
        have hre : (18 : Int) = r := by
         rw [← HX.out, rrI, ← EX.out, ← EY.out, if_neg HVN.out, if_neg HP.out, if_neg HT.out, HSY.out]
        subst hre
        go_wp2_with ((go_at_call 41; (with_reducible refine (say.calls b s x _ HS7.out HOK.out (fun h1 h5 => validR_rng HV.out h1 h5) false HSI.out).mono ?_); rintro e w5 ⟨rfl, hs5, hg5⟩; have HS5 := As hs5; have HB5 : Aside0 (Below w.heap.size w w5) := ⟨pw_below_grown HB7.out _ HB7.out.size hg5 (by intro k hk; injection hk with hk; have := HBW.out; omega)⟩; clear hs5 hg5))
        go_ret
        exact ⟨rfl, HB5.out⟩
       | some s' =>
        have HSY := As hs
        have HSI : Aside0 ((s.sayS x).isSome = true) := ⟨by rw [hs]; rfl⟩
        clear hs
        have hre : rrI l k1 (i + 1) s' = r := by
         rw [← HX.out, rrI, ← EX.out, ← EY.out, if_neg HVN.out, if_neg HP.out, if_neg HT.out, HSY.out]
        have HRE := As hre
        clear hre
        go_wp2_with ((go_at_call 41; (with_reducible refine (say.calls b s x _ HS7.out HOK.out (fun h1 h5 => validR_rng HV.out h1 h5) true HSI.out).mono ?_); rintro e w5 ⟨rfl, hs5, hg5⟩; have HS5 := As hs5; have HB5 : Aside0 (Below w.heap.size w w5) := ⟨pw_below_grown HB7.out _ HB7.out.size hg5 (by intro k hk; injection hk with hk; have := HBW.out; omega)⟩; clear hs5 hg5))
        have HS6 : Aside0 (BlkIs w5 b 77 s'.enc) := ⟨by have := HS5.out; rw [HSY.out] at this; exact this⟩
        go_roundg k1
        case measure => omega
        case rel => exact ⟨i + 1, s', by simp, ⟨by have := HI.out; omega⟩, HRE, ⟨St.sayS_ok HOK.out HSY.out⟩, HS6, HB5⟩
      ·have d0 : decide (0 < (i : Int)) = true := decide_eq_true (by omega)
       have d0n : decide (0 < i) = true := decide_eq_true (by omega)
       have p2 : 0 ≤ (i : Int) - 1 := by omega
       have p2b : (1 : Int) ≤ (i : Int) := by omega
       have q2 : (i : Int) - 1 < (l.length : Int) := by omega
       obtain ⟨ad3, e3, _, _, _, _, hv4, _⟩ := at_T39 HC.out ((i : Int) - 1) p2 q2
       cases e3
       obtain ⟨v, hve⟩ : ∃ v, v = rd_T39 l ((i : Int) - 1) := ⟨_, rfl⟩
       rw [← hve] at hv4
       have EV := As hve
       clear hve
       have ht2 : ((i : Int) - 1).toNat = i - 1 := by omega
       rw [ht2] at hv4
       replace hv4 := (HB6.out.cell (World.block_lt_of_cell? w _ hv4)).trans hv4
       have hw2 : IntKind.i64.wrap ((i : Int) - 1) = (i : Int) - 1 := IntWalk.i64_in _ (by omega)
       have HIZ := As t0
       replace p2 := eq_true p2
       replace p2b := eq_true p2b
       replace q2 := eq_true q2
       clear t0
       cases ht : decide (x.f4 < v.f4) with
       | true =>
        have HT : Aside0 ((decide (0 < i) && decide (x.f4 < (rd_T39 l ((i : Int) - 1)).f4)) = true) := ⟨by rw [← EV.out, d0n, ht]; rfl⟩
        have hre : (22 : Int) = r := by
         rw [← HX.out, rrI, ← EX.out, ← EY.out, if_neg HVN.out, if_neg HP.out, if_pos HT.out]
        subst hre
        go_quiet ((fail))
        go_wp2
        go_ret
        exact ⟨rfl, by repeat (first | exact HB6.out | apply below_drew1 | apply pw_below_drewN)⟩
       | false =>
        have HT : Aside0 (¬ (decide (0 < i) && decide (x.f4 < (rd_T39 l ((i : Int) - 1)).f4)) = true) := ⟨by rw [← EV.out, d0n, ht]; decide⟩
        go_quiet ((fail))
        go_upto_region 11 with (fail)
        clear hv4 hw2 p2 p2b q2 ht2 ht
        have HN7 := As (HN6.out.drewN nq)
        have HS7 := As (HS6.out.drewN nq)
        have HB7 := As (pw_below_drewN HB6.out nq)
        generalize (World.drewN _ nq) = w2c at HN7 HS7 HB7 ⊢
        obtain ⟨x0_7, x1_7, x2_7, x3_7, x4_7, x5_7, x6_7, x7_7, x8_7, x9_7, x10_7⟩ := cs11 HN7.out
        cases hs : s.sayS x with
        | none =>
         have HSY := As hs
         have HSI : Aside0 ((s.sayS x).isSome = false) := ⟨by rw [hs]; rfl⟩
         clear hs
         have hre : (18 : Int) = r := by
          rw [← HX.out, rrI, ← EX.out, ← EY.out, if_neg HVN.out, if_neg HP.out, if_neg HT.out, HSY.out]
         subst hre
         go_wp2_with ((go_at_call 41; (with_reducible refine (say.calls b s x _ HS7.out HOK.out (fun h1 h5 => validR_rng HV.out h1 h5) false HSI.out).mono ?_); rintro e w5 ⟨rfl, hs5, hg5⟩; have HS5 := As hs5; have HB5 : Aside0 (Below w.heap.size w w5) := ⟨pw_below_grown HB7.out _ HB7.out.size hg5 (by intro k hk; injection hk with hk; have := HBW.out; omega)⟩; clear hs5 hg5))
         go_ret
         exact ⟨rfl, HB5.out⟩
        | some s' =>
         have HSY := As hs
         have HSI : Aside0 ((s.sayS x).isSome = true) := ⟨by rw [hs]; rfl⟩
         clear hs
         have hre : rrI l k1 (i + 1) s' = r := by
          rw [← HX.out, rrI, ← EX.out, ← EY.out, if_neg HVN.out, if_neg HP.out, if_neg HT.out, HSY.out]
         have HRE := As hre
         clear hre
         go_wp2_with ((go_at_call 41; (with_reducible refine (say.calls b s x _ HS7.out HOK.out (fun h1 h5 => validR_rng HV.out h1 h5) true HSI.out).mono ?_); rintro e w5 ⟨rfl, hs5, hg5⟩; have HS5 := As hs5; have HB5 : Aside0 (Below w.heap.size w w5) := ⟨pw_below_grown HB7.out _ HB7.out.size hg5 (by intro k hk; injection hk with hk; have := HBW.out; omega)⟩; clear hs5 hg5))
         have HS6 : Aside0 (BlkIs w5 b 77 s'.enc) := ⟨by have := HS5.out; rw [HSY.out] at this; exact this⟩
         go_roundg k1
         case measure => omega
         case rel => exact ⟨i + 1, s', by simp, ⟨by have := HI.out; omega⟩, HRE, ⟨St.sayS_ok HOK.out HSY.out⟩, HS6, HB5⟩
end
section
attribute [local go_sem ↓] some_setCell
attribute [local go_sem ↓] zcS_run
attribute [local go_sem] zcS_size
attribute [local simp] zcS_ne
def leaseR (s : Le) : S41 := ⟨s.o, s.k, s.s, s.h, s.z, s.fr, s.un, s.rc⟩
def rstep (t : Int) (s : St) (x : S39) : St := if x.f4 ≤ t then (s.sayS x).getD s else s
def rstA (l : List S39) (t : Int) : St := l.foldl (rstep t) St.zero
def rforce (s : St) (t : Int) (k : Nat) : List S41 := if s.force k t = true then [leaseR (s.le k)] else []
def rleases (s : St) (t : Int) (n : Nat) : List S41 := (List.range n).flatMap (rforce s t)
def ref16_Leases.f (l : List S39) (t : Int) : Option (List S41 × Int) :=
 if rrI l l.length 0 St.zero ≠ 0 then some ([], rrI l l.length 0 St.zero)
 else if t < 0 ∨ 1048576 < t then some ([], 1)
 else some (rleases (rstA l t) t 64, 0)
theorem rleases_succ (s : St) (t : Int) (i : Nat) : rleases s t (i + 1) = rleases s t i ++ rforce s t i := by
 unfold rleases
 rw [List.range_succ, List.flatMap_append]
 simp
theorem rleases_len (s : St) (t : Int) (i : Nat) : (rleases s t i).length ≤ i := by
 induction i with
 | zero => simp [rleases]
 | succ i ih =>
  rw [rleases_succ, List.length_append]
  have : (rforce s t i).length ≤ 1 := by
   unfold rforce
   split <;> simp
  omega
theorem getD_ok {s : St} {x : S39} (h : s.ok) : ((s.sayS x).getD s).ok := by
 cases hs : s.sayS x with
 | none => exact h
 | some s' => exact St.sayS_ok h hs
theorem rstA_succ {l : List S39} {t : Int} {i : Nat} {x : S39} (hi : i < l.length) (hx : l[i] = x) : rstA (l.take (i + 1)) t = rstep t (rstA (l.take i) t) x := by
 unfold rstA
 rw [List.take_succ_eq_append_getElem hi, List.foldl_append, hx]
 rfl
theorem rinfo : (Tryd.prog.info? 41).map (fun i => (i.zero, i.size, i.bytes)) = some (some (.agg #[.int .i64 0, .int .i64 0, .int .i64 0, .int .i64 0, .int .i64 0, .int .i64 0, .int .i64 0, .bool false]), 8, 64) := by kernel_rfl
theorem rr_ok {l : List S39} : ∀ (d i : Nat) (s : St), rrI l d i s = 0 → ∀ j : Nat, i ≤ j → j < i + d → validR (rd_T39 l j) = true
 | 0, i, s, _, j, h1, h2 => by omega
 | d + 1, i, s, h, j, h1, h2 => by
  rw [rrI] at h
  split at h
  ·cases h
  ·rename_i hv
   split at h
   ·cases h
   ·split at h
    ·cases h
    ·by_cases e : j = i
     ·subst e
      exact Bool.not_eq_false _ ▸ hv
     ·split at h
      ·cases h
      ·exact rr_ok d (i + 1) _ h j (by omega) (by omega)
set_option maxHeartbeats 16000000 in
set_option maxRecDepth 100000 in
theorem ref16_Leases.calls (A0 : Option Addr) (c0 : Nat) (l : List S39) (t : Int) (r1 : List S41) (r2 : Int) (w : World) (hr0 : Kd.C k39 w A0 l.length l) (hc0 : l.length ≤ c0) (h : ref16_Leases.f l t = some (r1, r2)) :
 Calls Tryd.prog 23 #[.slice A0 l.length c0, .int .i64 t] w fun e w' => ∃ v0_ : Value, e = .returned (.tuple #[v0_, .int .i64 r2]) ∧ Kd.R k41 41 w' w.heap.size (fun _ => True) v0_ r1 ∧ Below w.heap.size w w' := by
 have hu := Tryd.underlying39
 unfold ref16_Leases.f at h
 obtain ⟨r0, hr0e⟩ : ∃ r0, r0 = rrI l l.length 0 St.zero := ⟨_, rfl⟩
 rw [← hr0e] at h
 have HC := As hr0
 have HCC := As hc0
 have HLM : Aside0 (l.length ≤ 9223372036854775807) := ⟨hr0.2.1⟩
 have HR : Aside0 (ref16_Right.f l = some r0) := ⟨by rw [hr0e]; rfl⟩
 have HSR : Aside0 (r0 = 0 → ∀ j : Nat, j < l.length → validR (rd_T39 l j) = true) := ⟨fun e j hj => rr_ok l.length 0 St.zero (hr0e.symm.trans e) j (Nat.zero_le _) (by omega)⟩
 clear hr0 hc0 hr0e
 by_cases hz : r0 = 0
 ·rw [if_neg (fun h => h hz)] at h
  subst hz
  have HSS := As (HSR.out rfl)
  clear HSR
  by_cases ht : t < 0 ∨ 1048576 < t
  ·rw [if_pos ht] at h
   simp only [Option.some.injEq, Prod.mk.injEq] at h
   obtain ⟨rfl, rfl⟩ := h
   by_cases h0 : t < 0
   ·have c1b0 : decide (t < 0) = true := decide_eq_true h0
    clear ht h0
    go_enter Tryd.func23, Tryd.ntmps23
    go_wp2_with ((go_at_call 21; (with_reducible refine (ref16_Right.calls A0 c0 l 0 _ HC.out HCC.out HR.out).mono ?_); rintro e w2 ⟨rfl, hb2⟩; have HB2 := As hb2; clear hb2))
    go_ret2
    exact ⟨_, rfl, Kd.R_nil _ _ _ _ _, by repeat (first | exact HB2.out | apply below_drew1 | apply pw_below_drewN)⟩
   ·have c1b0 : decide (t < 0) = false := decide_eq_false h0
    have c2b0 : decide (1048576 < t) = true := decide_eq_true (by omega)
    clear ht h0
    go_enter Tryd.func23, Tryd.ntmps23
    go_wp2_with ((go_at_call 21; (with_reducible refine (ref16_Right.calls A0 c0 l 0 _ HC.out HCC.out HR.out).mono ?_); rintro e w2 ⟨rfl, hb2⟩; have HB2 := As hb2; clear hb2))
    go_ret2
    exact ⟨_, rfl, Kd.R_nil _ _ _ _ _, by repeat (first | exact HB2.out | apply below_drew1 | apply pw_below_drewN)⟩
  ·rw [if_neg ht] at h
   simp only [Option.some.injEq, Prod.mk.injEq] at h
   obtain ⟨rfl, rfl⟩ := h
   have c1b0 : decide (t < 0) = false := decide_eq_false (by omega)
   have c2b0 : decide (1048576 < t) = false := decide_eq_false (by omega)
   clear ht
   go_enter Tryd.func23, Tryd.ntmps23
   go_upto_region 7 with (first | (go_at_call 21; (with_reducible refine (ref16_Right.calls A0 c0 l 0 _ HC.out HCC.out HR.out).mono ?_); rintro e w2 ⟨rfl, hb2⟩; have HB2 := As hb2; clear hb2) | (go_at_call 39; (with_reducible refine (empty.calls _).mono ?_); rintro e wa ⟨rfl, hba⟩; have HBA := As (below_step HB2.out hba); clear hba) | ((with_reducible refine gate_ (.store 77 (.tmp 7) (.tmp 23)) rfl ?_); refine blk_store rfl rfl 77 (.tmp 7) (.tmp 23) rfl (zero_blk wa) 0 (.agg St.zero.enc.toArray) St.zero.enc St.zero.enc ⟨_, rfl, rfl⟩ rfl rfl (by rw [St.len St.zero_ok]; kernel_rfl) (by rw [St.len St.zero_ok, St.len (stI_ok 0 (by omega))]; omega) ?h1 ?hE ?_; (case h1 => exact st_one _); (case hE => exact over_whole _ _ (by rw [St.len St.zero_ok, St.len (stI_ok 0 (by omega))])); intro wb HSb HGb))
   have HBb : Aside0 (Below w.heap.size w wb) := ⟨pw_below_grown (below_alloc HBA.out _) _ (below_alloc HBA.out _).size HGb.out (by intro k hk; injection hk with hk; have := HBA.out.size; omega)⟩
   obtain ⟨b, hb⟩ : ∃ b, b = wa.heap.size := ⟨_, rfl⟩
   have HBW : Aside0 (w.heap.size ≤ b) := ⟨by rw [hb]; exact HBA.out.size⟩
   rw [← hb] at HSb ⊢
   clear HBA HGb hb HB2
   go_wp2_with (fail)
   go_loopg [26] l.length (fun kq v26 w' => ∃ (i : Nat) (s : St), v26 = .int .i64 i ∧ Aside0 (i + kq = l.length) ∧ Aside0 (s = rstA (l.take i) t) ∧ Aside0 s.ok ∧ Aside0 (BlkIs w' b 77 s.enc) ∧ Aside0 (Below w.heap.size w w'))
   case atStart => exact ⟨0, St.zero, rfl, ⟨by omega⟩, ⟨rfl⟩, ⟨St.zero_ok⟩, HSb, HBb⟩
   case round =>
    clear HSb HBb
    obtain ⟨i, s, rfl, HI, HX, HOK, HS, HB⟩ := hrel
    cases gk with
    | zero =>
     have c4b0 : decide ((i : Int) < (l.length : Int)) = false := decide_eq_false (by have := HI.out; omega)
     have c4b1 : decide (i < l.length) = false := decide_eq_false (by have := HI.out; omega)
     have HSE : Aside0 (s = rstA l t) := ⟨by
      have := HX.out
      rw [show i = l.length by have := HI.out; omega, List.take_length] at this
      exact this⟩
     clear HX HI
     go_wp2_with (fail)
     obtain ⟨w4, hw4⟩ : ∃ w4, w4 = wr := ⟨_, rfl⟩
     rw [← hw4] at HS HB ⊢
     clear hw4
     go_loopg [10, 37] 64 (fun kq v10 v37 w' => ∃ n : Nat, v37 = .int .i64 n ∧ Aside0 (n + kq = 64) ∧ Aside0 (Kd.R k41 41 w' w4.heap.size (fun _ => True) v10 (rleases s t n)) ∧ Aside0 (Below w4.heap.size w4 w'))
     case atStart => exact ⟨0, rfl, ⟨rfl⟩, ⟨Kd.R_nil _ _ _ _ _⟩, ⟨Below.refl _ _⟩⟩
     case round =>
      obtain ⟨n, rfl, HN, HO, HB4⟩ := hrel
      cases gk with
      | zero =>
       have d4b0 : decide ((n : Int) < 64) = false := decide_eq_false (by have := HN.out; omega)
       have d4b1 : decide (n < 64) = false := decide_eq_false (by have := HN.out; omega)
       have HNE : Aside0 (n = 64) := ⟨by have := HN.out; omega⟩
       go_wp2
       go_ret2
       exact ⟨_, rfl, Kd.R_lower (by rw [← HSE.out, ← HNE.out]; exact HO.out) HB.out.size, below_step HB.out HB4.out⟩
      | succ k2 =>
       have hnl : n < 64 := by have := HN.out; omega
       have d4b0 : decide ((n : Int) < 64) = true := decide_eq_true (by omega)
       have d4b1 : decide (n < 64) = true := decide_eq_true hnl
       have hn64 : (n : Int) ≤ 9223372036854775806 := by omega
       have pn1 : 0 ≤ (n : Int) := by omega
       have pn2 : (n : Int) < 64 := by omega
       have HNL := As hnl
       have HS5 := As (HS.out.below HB4.out)
       cases hf : s.force n t with
       | false =>
        have HF : Aside0 (s.force ((n : Int)).toNat t = false) := ⟨by rw [Int.toNat_natCast]; exact hf⟩
        have HNX : Aside0 (Kd.R k41 41 wr w4.heap.size (fun _ => True) u10 (rleases s t (n + 1))) := ⟨by
         rw [rleases_succ, show rforce s t n = [] by unfold rforce; rw [hf]; rfl, List.append_nil]
         exact HO.out⟩
        clear hf
        go_wp2_with (go_at_call 42; (with_reducible refine (force.calls b s (n : Int) t _ HS5.out HOK.out pn1 pn2 false HF.out).mono ?_); rintro e w5 ⟨rfl, rfl⟩)
        go_roundg k2
        case measure => omega
        case rel => exact ⟨n + 1, by simp, ⟨by have := HN.out; omega⟩, HNX, HB4⟩
       | true =>
        have HF : Aside0 (s.force ((n : Int)).toNat t = true) := ⟨by rw [Int.toNat_natCast]; exact hf⟩
        have HFN := As hf
        clear hf
        have huL := Tryd.underlying41
        obtain ⟨le, hle⟩ : ∃ le, le = s.le n := ⟨_, rfl⟩
        have y0 : wr.cell? ⟨b, n * 8, none⟩ = some (.int .i64 (s.le n).o) := (HS5.out.at_ _).trans (St.get_le HOK.out n 0 HNL.out (by omega))
        have y1 : wr.cell? ⟨b, n * 8 + 1, none⟩ = some (.int .i64 (s.le n).k) := (HS5.out.at_ _).trans (St.get_le HOK.out n 1 HNL.out (by omega))
        have y2 : wr.cell? ⟨b, n * 8 + 2, none⟩ = some (.int .i64 (s.le n).s) := (HS5.out.at_ _).trans (St.get_le HOK.out n 2 HNL.out (by omega))
        have y3 : wr.cell? ⟨b, n * 8 + 3, none⟩ = some (.int .i64 (s.le n).h) := (HS5.out.at_ _).trans (St.get_le HOK.out n 3 HNL.out (by omega))
        have y4 : wr.cell? ⟨b, n * 8 + 4, none⟩ = some (.int .i64 (s.le n).z) := (HS5.out.at_ _).trans (St.get_le HOK.out n 4 HNL.out (by omega))
        have y5 : wr.cell? ⟨b, n * 8 + 5, none⟩ = some (.int .i64 (s.le n).fr) := (HS5.out.at_ _).trans (St.get_le HOK.out n 5 HNL.out (by omega))
        have y6 : wr.cell? ⟨b, n * 8 + 6, none⟩ = some (.int .i64 (s.le n).un) := (HS5.out.at_ _).trans (St.get_le HOK.out n 6 HNL.out (by omega))
        have y7 : wr.cell? ⟨b, n * 8 + 7, none⟩ = some (.bool (s.le n).rc) := (HS5.out.at_ _).trans (St.get_le HOK.out n 7 HNL.out (by omega))
        rw [← hle] at y0 y1 y2 y3 y4 y5 y6 y7
        have HLE := As hle
        clear hle
        go_wp2_with (first | (go_at_call 42; (with_reducible refine (force.calls b s (n : Int) t _ HS5.out HOK.out pn1 pn2 true HF.out).mono ?_); rintro e w5 ⟨rfl, rfl⟩) | ((with_reducible refine gate_ (.call { callee := .builtin .append, args := #[.tmp 43, .tmp 48], argTypes := #[34, 34] }) rfl ?_); refine Kd.R_append k41 (w0 := w4) w4.heap.size rfl (.tmp 43) (.tmp 48) 34 41 (.agg #[.int .i64 0, .int .i64 0, .int .i64 0, .int .i64 0, .int .i64 0, .int .i64 0, .int .i64 0, .bool false]) 64 rfl Tryd.underlying34 rinfo rfl (by decide) (by omega) u10 (rleases s t n) (leaseR le) [.int .i64 le.o, .int .i64 le.k, .int .i64 le.s, .int .i64 le.h, .int .i64 le.z, .int .i64 le.fr, .int .i64 le.un, .bool le.rc] (fun _ => True) (fun _ => False) rfl rfl ?aP (fun _ hk => hk.elim) ?aF ?aO ?aB ?aS ?aL ?_; (case aP => exact k41_mkM _ _ _ (leaseR le)); (case aF => exact fun _ _ => trivial); (case aO => exact HO.out); (case aB => exact HB4.out); (case aS => exact HB4.out.size); (case aL => have := rleases_len s t n; have := HNL.out; omega); intro v1 w5 ho hb5 hg5 hat5; have HNX : Aside0 (Kd.R k41 41 w5 w4.heap.size (fun _ => True) v1 (rleases s t (n + 1))) := ⟨by rw [rleases_succ, show rforce s t n = [leaseR le] by unfold rforce; rw [HFN.out, HLE.out]; rfl]; exact ho⟩; have HB5 := As hb5; clear ho hb5 hg5 hat5))
        go_roundg k2
        case measure => omega
        case rel => exact ⟨n + 1, by simp, ⟨by have := HN.out; omega⟩, HNX, HB5⟩
    | succ k1 =>
     have hil : i < l.length := by have := HI.out; omega
     have c4b0 : decide ((i : Int) < (l.length : Int)) = true := decide_eq_true (by omega)
     have c4b1 : decide (i < l.length) = true := decide_eq_true hil
     have hi64 : (i : Int) ≤ 9223372036854775806 := by have := HLM.out; omega
     have p1 : 0 ≤ (i : Int) := by omega
     have q1 : (i : Int) < (l.length : Int) := by omega
     obtain ⟨ad, e1, hx0, hx1, hx2, hx3, hx4, hx5, hx6, hx7, hx8, hx9, hx10⟩ := at_T39 HC.out i p1 q1
     cases e1
     replace hx0 := (HB.out.cell (World.block_lt_of_cell? w _ hx0)).trans hx0
     replace hx1 := (HB.out.cell (World.block_lt_of_cell? w _ hx1)).trans hx1
     replace hx2 := (HB.out.cell (World.block_lt_of_cell? w _ hx2)).trans hx2
     replace hx3 := (HB.out.cell (World.block_lt_of_cell? w _ hx3)).trans hx3
     replace hx4 := (HB.out.cell (World.block_lt_of_cell? w _ hx4)).trans hx4
     replace hx5 := (HB.out.cell (World.block_lt_of_cell? w _ hx5)).trans hx5
     replace hx6 := (HB.out.cell (World.block_lt_of_cell? w _ hx6)).trans hx6
     replace hx7 := (HB.out.cell (World.block_lt_of_cell? w _ hx7)).trans hx7
     replace hx8 := (HB.out.cell (World.block_lt_of_cell? w _ hx8)).trans hx8
     replace hx9 := (HB.out.cell (World.block_lt_of_cell? w _ hx9)).trans hx9
     replace hx10 := (HB.out.cell (World.block_lt_of_cell? w _ hx10)).trans hx10
     rw [Int.toNat_natCast] at hx0 hx1 hx2 hx3 hx4 hx5 hx6 hx7 hx8 hx9 hx10
     have hvv := HSS.out i hil
     obtain ⟨x, hxe⟩ : ∃ x, x = rd_T39 l (i : Int) := ⟨_, rfl⟩
     rw [← hxe] at hx0 hx1 hx2 hx3 hx4 hx5 hx6 hx7 hx8 hx9 hx10 hvv
     have HV := As hvv
     have EL : Aside0 (l[i] = x) := ⟨by rw [hxe]; unfold rd_T39; rw [Int.toNat_natCast, List.getD_eq_getElem?_getD, List.getElem?_eq_getElem hil]; rfl⟩
     have HIL := As hil
     clear hxe hvv
     have hHN := heap_alloc_new wr (.cells #[.int .i64 x.f0, .int .i64 x.f1, .int .i64 x.f2, .int .i64 x.f3, .int .i64 x.f4, .int .i64 x.f5, .int .i64 x.f6, .int .i64 x.f7, .int .i64 x.f8, .int .i64 x.f9, .int .i64 x.f10] 39)
     have hHS := HS.out.alloc (.cells #[.int .i64 x.f0, .int .i64 x.f1, .int .i64 x.f2, .int .i64 x.f3, .int .i64 x.f4, .int .i64 x.f5, .int .i64 x.f6, .int .i64 x.f7, .int .i64 x.f8, .int .i64 x.f9, .int .i64 x.f10] 39)
     have hHB := below_alloc HB.out (.cells #[.int .i64 x.f0, .int .i64 x.f1, .int .i64 x.f2, .int .i64 x.f3, .int .i64 x.f4, .int .i64 x.f5, .int .i64 x.f6, .int .i64 x.f7, .int .i64 x.f8, .int .i64 x.f9, .int .i64 x.f10] 39)
     go_upto_region 10 with (fail)
     generalize wr.alloc (.cells #[.int .i64 x.f0, .int .i64 x.f1, .int .i64 x.f2, .int .i64 x.f3, .int .i64 x.f4, .int .i64 x.f5, .int .i64 x.f6, .int .i64 x.f7, .int .i64 x.f8, .int .i64 x.f9, .int .i64 x.f10] 39) = w1 at hHN hHS hHB ⊢
     have HN1 : Aside0 (BlkIs w1 wr.heap.size 39 [.int .i64 x.f0, .int .i64 x.f1, .int .i64 x.f2, .int .i64 x.f3, .int .i64 x.f4, .int .i64 x.f5, .int .i64 x.f6, .int .i64 x.f7, .int .i64 x.f8, .int .i64 x.f9, .int .i64 x.f10]) := ⟨hHN⟩
     have HS1 := As hHS
     have HB1 := As hHB
     clear hHN hHS hHB hx0 hx1 hx2 hx3 hx4 hx5 hx6 hx7 hx8 hx9 hx10 HS HB
     obtain ⟨x0_1, x1_1, x2_1, x3_1, x4_1, x5_1, x6_1, x7_1, x8_1, x9_1, x10_1⟩ := cs11 HN1.out
     cases ht : decide (x.f4 ≤ t) with
     | false =>
      have HXE : Aside0 (s = rstA (l.take (i + 1)) t) := ⟨by rw [rstA_succ HIL.out EL.out, ← HX.out]; unfold rstep; rw [if_neg (of_decide_eq_false ht)]⟩
      go_wp2_with (fail)
      go_roundg k1
      case measure => omega
      case rel => exact ⟨i + 1, s, by simp, ⟨by have := HI.out; omega⟩, HXE, HOK, HS1, HB1⟩
     | true =>
      have HXE : Aside0 ((s.sayS x).getD s = rstA (l.take (i + 1)) t) := ⟨by rw [rstA_succ HIL.out EL.out, ← HX.out]; unfold rstep; rw [if_pos (of_decide_eq_true ht)]⟩
      go_wp2_with (go_at_call 41; (with_reducible refine (say.calls b s x _ HS1.out HOK.out (fun h1 h5 => validR_rng HV.out h1 h5) _ rfl).mono ?_); rintro e w5 ⟨rfl, hs5, hg5⟩; have HS5 := As hs5; have HB5 : Aside0 (Below w.heap.size w w5) := ⟨pw_below_grown HB1.out _ HB1.out.size hg5 (by intro k hk; injection hk with hk; have := HBW.out; omega)⟩; clear hs5 hg5)
      go_roundg k1
      case measure => omega
      case rel => exact ⟨i + 1, _, by simp, ⟨by have := HI.out; omega⟩, HXE, ⟨getD_ok HOK.out⟩, HS5, HB5⟩
 ·rw [if_pos hz] at h
  simp only [Option.some.injEq, Prod.mk.injEq] at h
  obtain ⟨rfl, rfl⟩ := h
  have c0b0 : (r0 == 0) = false := beq_eq_false_iff_ne.mpr hz
  have c0b1 : (r0 != 0) = true := bne_iff_ne.mpr hz
  clear hz
  go_enter Tryd.func23, Tryd.ntmps23
  go_wp2_with ((go_at_call 21; (with_reducible refine (ref16_Right.calls A0 c0 l r0 _ HC.out HCC.out HR.out).mono ?_); rintro e w2 ⟨rfl, hb2⟩; have HB2 := As hb2; clear hb2))
  go_ret2
  exact ⟨_, rfl, Kd.R_nil _ _ _ _ _, by repeat (first | exact HB2.out | apply below_drew1 | apply pw_below_drewN)⟩
end
attribute [local go_sem ↓] some_setCell
def ref17_Kept.l0 : Nat → Int → List (S41) → Int → Int → Option (Int × Int)
 | 0, _, _, _, _ => none
 | k + 1, x8, x20, x21, x22 => if x22 < x21 then (if 0 ≤ x22 then (if x22 < (x20.length : Int) then (ref17_Kept.l0 k (wrap64 (x8 + ((rd_T41 x20 x22).f4))) x20 x21 (wrap64 (x22 + 1))) else (none)) else (none)) else (some (x8, 0))
def ref17_Kept.f (k : Nat) (l0 : List (S39)) (a1 : Int) : Option (Int × Int) := (ref16_Leases.f l0 a1).bind fun bt267 => (if bt267.2 = 0 then (ref17_Kept.l0 k 0 bt267.1 (bt267.1.length : Int) 0) else (some (0, bt267.2)))
set_option maxHeartbeats 8000000 in
set_option maxRecDepth 100000 in
theorem ref17_Kept.calls (k : Nat) (A0 : Option Addr) (c0 : Nat) (l0 : List (S39)) (a1 : Int) (r1 : Int) (r2 : Int) (w : World) (hr0 : Kd.C k39 w A0 l0.length l0) (hc0 : l0.length ≤ c0) (h : ref17_Kept.f k l0 a1 = some (r1, r2)) :
 Calls Tryd.prog 47 #[.slice A0 l0.length c0, .int .i64 a1] w fun e w' => e = .returned (.tuple #[.int .i64 r1, .int .i64 r2]) ∧ Below w.heap.size w w' := by
 have hu41 := Tryd.underlying41; have HR0 := As hr0; have HC0 := As hc0; clear hr0 hc0; have HB := As (Below.refl w.heap.size w); have H : ((ref16_Leases.f l0 a1).bind fun bt267 => (if bt267.2 = 0 then (ref17_Kept.l0 k 0 bt267.1 (bt267.1.length : Int) 0) else (some (0, bt267.2)))) = some (r1, r2) := h; clear h; replace H := Option.bind_eq_some_iff.mp H; obtain ⟨⟨t267, t268⟩, A30, H⟩ := H; (try dsimp only at H); have A3 := As A30; clear A30
 by_cases c4 : t268 = 0
 ·rw [if_pos c4] at H
  have c4b0 : (t268 == 0) = true := beq_iff_eq.mpr c4; have c4b1 : (t268 != 0) = false := bne_eq_false_iff_eq.mpr c4; clear c4; have H' := As H; clear H; go_enter Tryd.func47, Tryd.ntmps47; go_wp2_with (first | ((with_reducible refine gate_callee (f := 23) rfl ?_); refine goesL_ (some 14) rfl rfl Tryd.func23 (by kernel_rfl) rfl #[.slice A0 l0.length c0, .int .i64 a1] rfl (by (try simp only [m1, m2, m3]); first | done | rfl | (simp only [m4, m5]; rfl)) ?_; (with_reducible refine (ref16_Leases.calls _ _ l0 a1 t267 t268 _ ?side1 ?side2 A3.out).mono ?_); (case side1 => repeat (first | exact HR0.out | (with_reducible refine Kd.C_alloc ?_ _) | (with_reducible refine Kd.C_drewN ?_ _) | (with_reducible refine Kd.C_drew ?_))); (case side2 => exact HC0.out); rintro e w5 ⟨v269, rfl, ho0, hb⟩; refine ⟨_, rfl, ?_⟩; have HO270 := As (Kd.R_lower ho0 (below_size hBq)); replace HB := sBq hb; (try clear hb); (try clear hb2); (try clear hk); (try clear hi); (try clear ho0); obtain ⟨Ao6, co6, eo6⟩ := Kd.R_slice HO270.out; subst eo6))
  go_loopg [8, 22] k (fun kq v8 v22 w' => ∃ (x8_1 : Int) (x22_1 : Int), v8 = .int .i64 x8_1 ∧ v22 = .int .i64 x22_1 ∧ Aside0 (ref17_Kept.l0 kq x8_1 t267 (t267.length : Int) x22_1 = some (r1, r2)) ∧ Aside0 (kq ≤ k) ∧ Aside0 (Kd.R k41 41 w' w.heap.size (fun _ => True) (.slice Ao6 t267.length co6) t267) ∧ Aside0 (Below w.heap.size w w'))
  case atStart => exact ⟨(0), (0), (by first | rfl | (simp; done) | (simp [*]; done)), (by first | rfl | (simp; done) | (simp [*]; done)), H', ⟨Nat.le_refl _⟩, ⟨by (with_reducible repeat (first | apply Kd.R_alloc | apply Kd.R_drewN | apply Kd.R_drew)); exact HO270.out⟩, ⟨hBq⟩⟩
  case round =>
   clear H'; (try clear c2); (try clear p2); (try clear c4); (try clear c4b0); (try clear c4b1); obtain ⟨x8_1, x22_1, rfl, rfl, HA, HK1, HO_20, HB⟩ := hrel
   cases gk with
   | zero => exact absurd HA.out (by simp [ref17_Kept.l0])
   | succ k1 =>
    have H := HA.out; clear HA; simp only [ref17_Kept.l0] at H
    by_cases c7 : x22_1 < (t267.length : Int)
    ·rw [if_pos c7] at H
     have c7b0 : decide (x22_1 < (t267.length : Int)) = true := decide_eq_true c7; clear c7
     by_cases c8 : 0 ≤ x22_1
     ·rw [if_pos c8] at H
      have c8b0 : decide (0 ≤ x22_1) = true := decide_eq_true c8; clear c8
      by_cases c9 : x22_1 < (t267.length : Int)
      ·rw [if_pos c9] at H
       have c9b0 : decide (x22_1 < (t267.length : Int)) = true := decide_eq_true c9; clear c9; have H' := As H; clear H; have p271 : 0 ≤ (x22_1 : Int) := of_decide_eq_true (by first | (with_reducible assumption) | assumption); have q271 : x22_1 < (t267.length : Int) := of_decide_eq_true (by first | (with_reducible assumption) | assumption); obtain ⟨ad271, e271, hx271_0, hx271_1, hx271_2, hx271_3, hx271_4, hx271_5, hx271_6, hx271_7⟩ := at_T41 (Kd.R_reads' HO_20.out).2.2 x22_1 p271 q271; cases e271; replace p271 := eq_true p271; replace q271 := eq_true q271
       go_wp2_with (first | ((with_reducible refine gate_dst (N := 10) rfl ?_); refine box_event ?hg (N := 10) ?hd (cs := #[.int .i64 0, .int .i64 0, .int .i64 0, .int .i64 0, .int .i64 0, .int .i64 0, .int .i64 0, .bool false]) (t := 41) ?hr ?_; (case hd => rfl); (case hg => rfl); (case hr => first | (go_simp; done) | (go_simp; rfl)); intro gb272 hg w10 hbox hb; replace HO_20 := As (Kd.R_below (Kd.R_elderB (by (with_reducible repeat (first | apply Kd.R_alloc | apply Kd.R_drewN | apply Kd.R_drew)); exact HO_20.out) gb272 (Nat.le_of_eq hg.symm)) hb); have BK272 := As (hbox); have GW272 := As (by rw [hg]; exact (below_size hBq) : w.heap.size ≤ gb272); replace HB := sBq hb; have GE272 := GW272; clear hb hbox hg; obtain ⟨hcz11_0, hcz11_1, hcz11_2, hcz11_3, hcz11_4, hcz11_5, hcz11_6, hcz11_7, hfz11_0, hfz11_1, hfz11_2, hfz11_3, hfz11_4, hfz11_5, hfz11_6, hfz11_7⟩ := cf8 BK272.out))
       go_roundg k1
       case measure => have := HK1.out; omega
       case rel => exact ⟨(wrap64 (x8_1 + ((rd_T41 t267 x22_1).f4))), (wrap64 (x22_1 + 1)), (by first | rfl | (simp; done) | (simp [*]; done)), (by first | rfl | (simp; done) | (simp [*]; done)), H', ⟨by have := HK1.out; omega⟩, ⟨by (with_reducible repeat (first | apply Kd.R_alloc | apply Kd.R_drewN | apply Kd.R_drew)); exact Kd.R_mono (Kd.R_far (p := ⟨gb272, 7, none⟩) (Kd.R_far (p := ⟨gb272, 6, none⟩) (Kd.R_far (p := ⟨gb272, 5, none⟩) (Kd.R_far (p := ⟨gb272, 4, none⟩) (Kd.R_far (p := ⟨gb272, 3, none⟩) (Kd.R_far (p := ⟨gb272, 2, none⟩) (Kd.R_far (p := ⟨gb272, 1, none⟩) (Kd.R_far (p := ⟨gb272, 0, none⟩) (Kd.R_mono HO_20.out (fun k_ hk => (⟨hk, hk.2⟩ : _ ∧ k_ ≠ gb272))) (fun _ hk => hk.2) (.int .i64 ((rd_T41 t267 x22_1).f0))) (fun _ hk => hk.2) (.int .i64 ((rd_T41 t267 x22_1).f1))) (fun _ hk => hk.2) (.int .i64 ((rd_T41 t267 x22_1).f2))) (fun _ hk => hk.2) (.int .i64 ((rd_T41 t267 x22_1).f3))) (fun _ hk => hk.2) (.int .i64 ((rd_T41 t267 x22_1).f4))) (fun _ hk => hk.2) (.int .i64 ((rd_T41 t267 x22_1).f5))) (fun _ hk => hk.2) (.int .i64 ((rd_T41 t267 x22_1).f6))) (fun _ hk => hk.2) (.bool ((rd_T41 t267 x22_1).f7))) (fun _ hk => trivial)⟩, ⟨hBq⟩⟩
      ·rw [if_neg c9] at H
       exact absurd H (by simp)
     ·rw [if_neg c8] at H
      exact absurd H (by simp)
    ·rw [if_neg c7] at H
     have c7b0 : decide (x22_1 < (t267.length : Int)) = false := decide_eq_false c7; clear c7; simp only [Option.some.injEq, Prod.mk.injEq] at H; obtain ⟨rfl, rfl⟩ := H; go_wp2; go_ret2; exact ⟨erq, hBq⟩
 ·rw [if_neg c4] at H
  have c4b0 : (t268 == 0) = false := beq_eq_false_iff_ne.mpr c4; have c4b1 : (t268 != 0) = true := bne_iff_ne.mpr c4; simp only [Option.some.injEq, Prod.mk.injEq] at H; obtain ⟨rfl, rfl⟩ := H; go_enter Tryd.func47, Tryd.ntmps47; go_wp2_with (first | ((with_reducible refine gate_callee (f := 23) rfl ?_); refine goesL_ (some 14) rfl rfl Tryd.func23 (by kernel_rfl) rfl #[.slice A0 l0.length c0, .int .i64 a1] rfl (by (try simp only [m1, m2, m3]); first | done | rfl | (simp only [m4, m5]; rfl)) ?_; (with_reducible refine (ref16_Leases.calls _ _ l0 a1 t267 t268 _ ?side1 ?side2 A3.out).mono ?_); (case side1 => repeat (first | exact HR0.out | (with_reducible refine Kd.C_alloc ?_ _) | (with_reducible refine Kd.C_drewN ?_ _) | (with_reducible refine Kd.C_drew ?_))); (case side2 => exact HC0.out); rintro e w12 ⟨v269, rfl, ho0, hb⟩; refine ⟨_, rfl, ?_⟩; have HO270 := As (Kd.R_lower ho0 (below_size hBq)); replace HB := sBq hb; (try clear hb); (try clear hb2); (try clear hk); (try clear hi); (try clear ho0))); go_ret2
  exact ⟨erq, hBq⟩
def ref16_term.f (k : Nat) (a0_0 : Int) (a0_1 : Int) (a0_2 : Int) (a0_3 : Int) (a0_4 : Int) (a0_5 : Int) (a0_6 : Int) (a0_7 : Int) (a0_8 : Int) (a0_9 : Int) (a0_10 : Int) : Option (Bool) := (ref15_Valid.f k a0_0 a0_1 a0_2 a0_3 a0_4 a0_5 a0_6 a0_7 a0_8 a0_9 a0_10).bind fun t231 => (if t231 = true then (if a0_5 = 1 then (some true) else (some (a0_5 == 2))) else (some false))
set_option maxHeartbeats 8000000 in
set_option maxRecDepth 100000 in
theorem ref16_term.calls (k : Nat) (a0_0 : Int) (a0_1 : Int) (a0_2 : Int) (a0_3 : Int) (a0_4 : Int) (a0_5 : Int) (a0_6 : Int) (a0_7 : Int) (a0_8 : Int) (a0_9 : Int) (a0_10 : Int) (r : Bool) (w : World) (h : ref16_term.f k a0_0 a0_1 a0_2 a0_3 a0_4 a0_5 a0_6 a0_7 a0_8 a0_9 a0_10 = some r) :
 Calls Tryd.prog 43 #[.agg #[.int .i64 a0_0, .int .i64 a0_1, .int .i64 a0_2, .int .i64 a0_3, .int .i64 a0_4, .int .i64 a0_5, .int .i64 a0_6, .int .i64 a0_7, .int .i64 a0_8, .int .i64 a0_9, .int .i64 a0_10]] w fun e w' => e = .returned (.bool r) ∧ Below w.heap.size w w' := by
 have hu39 := Tryd.underlying39; have HB := As (Below.refl w.heap.size w); have H : ((ref15_Valid.f k a0_0 a0_1 a0_2 a0_3 a0_4 a0_5 a0_6 a0_7 a0_8 a0_9 a0_10).bind fun t231 => (if t231 = true then (if a0_5 = 1 then (some true) else (some (a0_5 == 2))) else (some false))) = some r := h; clear h; replace H := Option.bind_eq_some_iff.mp H; obtain ⟨t231, A20, H⟩ := H; (try dsimp only at H); have A2 := As A20; clear A20
 by_cases c3 : t231 = true
 ·subst c3
  rw [if_pos rfl] at H
  by_cases c4 : a0_5 = 1
  ·rw [if_pos c4] at H
   have c4b0 : (a0_5 == 1) = true := beq_iff_eq.mpr c4; have c4b1 : (a0_5 != 1) = false := bne_eq_false_iff_eq.mpr c4; clear c4; obtain rfl := Option.some.inj H; go_enter Tryd.func43, Tryd.ntmps43
   go_wp2_with (first | ((with_reducible refine gate_dst (N := 1) rfl ?_); refine box_event ?hg (N := 1) ?hd (cs := #[.int .i64 a0_0, .int .i64 a0_1, .int .i64 a0_2, .int .i64 a0_3, .int .i64 a0_4, .int .i64 a0_5, .int .i64 a0_6, .int .i64 a0_7, .int .i64 a0_8, .int .i64 a0_9, .int .i64 a0_10]) (t := 39) ?hr ?_; (case hd => rfl); (case hg => rfl); (case hr => first | (go_simp; done) | (go_simp; rfl)); intro gb230 hg w5 hbox hb; have BK230 := As (hbox); have GW230 := As (by rw [hg]; exact (below_size hBq) : w.heap.size ≤ gb230); replace HB := sBq hb; have GE230 := GW230; clear hb hbox hg; obtain ⟨hcz6_0, hcz6_1, hcz6_2, hcz6_3, hcz6_4, hcz6_5, hcz6_6, hcz6_7, hcz6_8, hcz6_9, hcz6_10, hfz6_0, hfz6_1, hfz6_2, hfz6_3, hfz6_4, hfz6_5, hfz6_6, hfz6_7, hfz6_8, hfz6_9, hfz6_10⟩ := cf11 BK230.out) | ((with_reducible refine gate_callee (f := 40) rfl ?_); refine goesL_ (some 4) rfl rfl Tryd.func40 (by kernel_rfl) rfl #[.agg #[.int .i64 a0_0, .int .i64 a0_1, .int .i64 a0_2, .int .i64 a0_3, .int .i64 a0_4, .int .i64 a0_5, .int .i64 a0_6, .int .i64 a0_7, .int .i64 a0_8, .int .i64 a0_9, .int .i64 a0_10]] rfl (by (try simp only [m1, m2, m3]); first | done | rfl | (simp only [m4, m5]; rfl)) ?_; (with_reducible refine (ref15_Valid.calls k a0_0 a0_1 a0_2 a0_3 a0_4 a0_5 a0_6 a0_7 a0_8 a0_9 a0_10 true _ A2.out).mono ?_); rintro e w7 ⟨rfl, hb⟩; refine ⟨_, rfl, ?_⟩; replace BK230 := As (blk_below (g := gb230) (plq BK230.out) hb); replace HB := sBq hb; (try clear hb); (try clear hb2); (try clear hk); (try clear hi); obtain ⟨hcz8_0, hcz8_1, hcz8_2, hcz8_3, hcz8_4, hcz8_5, hcz8_6, hcz8_7, hcz8_8, hcz8_9, hcz8_10, hfz8_0, hfz8_1, hfz8_2, hfz8_3, hfz8_4, hfz8_5, hfz8_6, hfz8_7, hfz8_8, hfz8_9, hfz8_10⟩ := cf11 BK230.out))
   go_ret; exact ⟨erq, hBq⟩
  ·rw [if_neg c4] at H
   have c4b0 : (a0_5 == 1) = false := beq_eq_false_iff_ne.mpr c4; have c4b1 : (a0_5 != 1) = true := bne_iff_ne.mpr c4; obtain rfl := Option.some.inj H; go_enter Tryd.func43, Tryd.ntmps43
   go_wp2_with (first | ((with_reducible refine gate_dst (N := 1) rfl ?_); refine box_event ?hg (N := 1) ?hd (cs := #[.int .i64 a0_0, .int .i64 a0_1, .int .i64 a0_2, .int .i64 a0_3, .int .i64 a0_4, .int .i64 a0_5, .int .i64 a0_6, .int .i64 a0_7, .int .i64 a0_8, .int .i64 a0_9, .int .i64 a0_10]) (t := 39) ?hr ?_; (case hd => rfl); (case hg => rfl); (case hr => first | (go_simp; done) | (go_simp; rfl)); intro gb230 hg w9 hbox hb; have BK230 := As (hbox); have GW230 := As (by rw [hg]; exact (below_size hBq) : w.heap.size ≤ gb230); replace HB := sBq hb; have GE230 := GW230; clear hb hbox hg; obtain ⟨hcz10_0, hcz10_1, hcz10_2, hcz10_3, hcz10_4, hcz10_5, hcz10_6, hcz10_7, hcz10_8, hcz10_9, hcz10_10, hfz10_0, hfz10_1, hfz10_2, hfz10_3, hfz10_4, hfz10_5, hfz10_6, hfz10_7, hfz10_8, hfz10_9, hfz10_10⟩ := cf11 BK230.out) | ((with_reducible refine gate_callee (f := 40) rfl ?_); refine goesL_ (some 4) rfl rfl Tryd.func40 (by kernel_rfl) rfl #[.agg #[.int .i64 a0_0, .int .i64 a0_1, .int .i64 a0_2, .int .i64 a0_3, .int .i64 a0_4, .int .i64 a0_5, .int .i64 a0_6, .int .i64 a0_7, .int .i64 a0_8, .int .i64 a0_9, .int .i64 a0_10]] rfl (by (try simp only [m1, m2, m3]); first | done | rfl | (simp only [m4, m5]; rfl)) ?_; (with_reducible refine (ref15_Valid.calls k a0_0 a0_1 a0_2 a0_3 a0_4 a0_5 a0_6 a0_7 a0_8 a0_9 a0_10 true _ A2.out).mono ?_); rintro e w11 ⟨rfl, hb⟩; refine ⟨_, rfl, ?_⟩; replace BK230 := As (blk_below (g := gb230) (plq BK230.out) hb); replace HB := sBq hb; (try clear hb); (try clear hb2); (try clear hk); (try clear hi); obtain ⟨hcz12_0, hcz12_1, hcz12_2, hcz12_3, hcz12_4, hcz12_5, hcz12_6, hcz12_7, hcz12_8, hcz12_9, hcz12_10, hfz12_0, hfz12_1, hfz12_2, hfz12_3, hfz12_4, hfz12_5, hfz12_6, hfz12_7, hfz12_8, hfz12_9, hfz12_10⟩ := cf11 BK230.out))
   go_ret; exact ⟨erq, hBq⟩
 ·replace c3 := Bool.eq_false_iff.mpr c3
  subst c3; rw [if_neg nft] at H; obtain rfl := Option.some.inj H; go_enter Tryd.func43, Tryd.ntmps43
  go_wp2_with (first | ((with_reducible refine gate_dst (N := 1) rfl ?_); refine box_event ?hg (N := 1) ?hd (cs := #[.int .i64 a0_0, .int .i64 a0_1, .int .i64 a0_2, .int .i64 a0_3, .int .i64 a0_4, .int .i64 a0_5, .int .i64 a0_6, .int .i64 a0_7, .int .i64 a0_8, .int .i64 a0_9, .int .i64 a0_10]) (t := 39) ?hr ?_; (case hd => rfl); (case hg => rfl); (case hr => first | (go_simp; done) | (go_simp; rfl)); intro gb230 hg w13 hbox hb; have BK230 := As (hbox); have GW230 := As (by rw [hg]; exact (below_size hBq) : w.heap.size ≤ gb230); replace HB := sBq hb; have GE230 := GW230; clear hb hbox hg; obtain ⟨hcz14_0, hcz14_1, hcz14_2, hcz14_3, hcz14_4, hcz14_5, hcz14_6, hcz14_7, hcz14_8, hcz14_9, hcz14_10, hfz14_0, hfz14_1, hfz14_2, hfz14_3, hfz14_4, hfz14_5, hfz14_6, hfz14_7, hfz14_8, hfz14_9, hfz14_10⟩ := cf11 BK230.out) | ((with_reducible refine gate_callee (f := 40) rfl ?_); refine goesL_ (some 4) rfl rfl Tryd.func40 (by kernel_rfl) rfl #[.agg #[.int .i64 a0_0, .int .i64 a0_1, .int .i64 a0_2, .int .i64 a0_3, .int .i64 a0_4, .int .i64 a0_5, .int .i64 a0_6, .int .i64 a0_7, .int .i64 a0_8, .int .i64 a0_9, .int .i64 a0_10]] rfl (by (try simp only [m1, m2, m3]); first | done | rfl | (simp only [m4, m5]; rfl)) ?_; (with_reducible refine (ref15_Valid.calls k a0_0 a0_1 a0_2 a0_3 a0_4 a0_5 a0_6 a0_7 a0_8 a0_9 a0_10 false _ A2.out).mono ?_); rintro e w15 ⟨rfl, hb⟩; refine ⟨_, rfl, ?_⟩; replace BK230 := As (blk_below (g := gb230) (plq BK230.out) hb); replace HB := sBq hb; (try clear hb); (try clear hb2); (try clear hk); (try clear hi)))
  go_ret; exact ⟨erq, hBq⟩
section
attribute [local go_sem ↓] some_setCell
def wantB (t : Int) (x : S39) : Bool := slotB x && decide (x.f4 ≤ t)
def bucket (l : List S39) (t : Int) (s : Nat) : List S39 := l.filter (fun x => wantB t x && decide (x.f6.toNat = s))
def rowV (V : Nat → Value) : List Value := (List.range 64).map V
def updV (V : Nat → Value) (k : Nat) (v : Value) : Nat → Value := fun s => if s = k then v else V s
theorem rowV_len (V : Nat → Value) : (rowV V).length = 64 := by simp [rowV]
theorem rowV_get (V : Nat → Value) (k : Nat) (h : k < 64) : (rowV V)[k]? = some (V k) := by simp [rowV, h]
theorem rowV_set (V : Nat → Value) (k : Nat) (v : Value) : (rowV V).set k v = rowV (updV V k v) := by
 apply List.ext_getElem?
 intro j
 by_cases hj : j < 64
 ·rw [rowV_get _ _ hj, List.getElem?_set]
  unfold updV
  by_cases e : k = j
  ·subst e
   rw [if_pos rfl, if_pos (by rw [rowV_len]; exact hj), if_pos rfl]
  ·rw [if_neg e, if_neg (fun h => e h.symm), rowV_get _ _ hj]
 ·rw [List.getElem?_eq_none (by rw [List.length_set, rowV_len]; omega), List.getElem?_eq_none (by rw [rowV_len]; omega)]
theorem over_one (L : List Value) (k : Nat) (v : Value) (h : k < L.length) : over L k [v] = L.set k v := by
 unfold over
 rw [List.set_eq_take_append_cons_drop, if_pos h]
 simp
theorem flat39 : Flat k39 (fun (x : S39) => [.int .i64 x.f0, .int .i64 x.f1, .int .i64 x.f2, .int .i64 x.f3, .int .i64 x.f4, .int .i64 x.f5, .int .i64 x.f6, .int .i64 x.f7, .int .i64 x.f8, .int .i64 x.f9, .int .i64 x.f10]) := ⟨fun _ => rfl, fun h => k39_openM h, fun w base ok x => k39_mkM w base ok x, by decide⟩
theorem own_only {W : World} {base : Nat} {ok : Nat → Prop} {v : Value} {xs : List S39} (h : Kd.R k39 39 W base ok v xs) : Kd.R k39 39 W base (fun k => v.ownBlock = some k) v xs := by
 rcases flat39.block h with ⟨rfl, rfl⟩ | ⟨g, cap, cur, rfl, hg, hok, hH, hnc, hcm, hl, htk⟩
 ·exact Kd.R_nil _ _ _ _ _
 ·exact flat39.own rfl hg rfl hH hnc hcm hl htk
structure Bk (W : World) (base : Nat) (V : Nat → Value) (bs : Nat → List S39) : Prop where
 row : ∀ s, s < 64 → Kd.R k39 39 W base (fun k => (V s).ownBlock = some k) (V s) (bs s)
 apart : ∀ s t, s < 64 → t < 64 → s ≠ t → (V s).ownBlock = none ∨ (V s).ownBlock ≠ (V t).ownBlock
theorem Bk.below {W W' : World} {base : Nat} {V : Nat → Value} {bs : Nat → List S39} (h : Bk W base V bs) (hb : Below W.heap.size W W') : Bk W' base V bs := ⟨fun s hs => Kd.R_below (h.row s hs) hb, h.apart⟩
theorem Bk.far {W W' : World} {base g : Nat} {V : Nat → Value} {bs : Nat → List S39} (h : Bk W base V bs) (hg : W.grownBy W' (some g)) (hlt : g < base) : Bk W' base V bs :=
 ⟨fun s hs => Kd.R_grown (h.row s hs) hg (fun k hk e => by
  injection e with e
  have := Kd.R_base (h.row s hs) k hk
  omega), h.apart⟩
theorem Bk.put {W W' : World} {base k : Nat} {V : Nat → Value} {bs : Nat → List S39} {v : Value} {ok : Nat → Prop} {ys : List S39} (hk : k < 64) (h : Bk W base V bs) (hg : W.grownBy W' (V k).ownBlock) (hv : Kd.R k39 39 W' base ok v ys) (hat : v.ownBlock = (V k).ownBlock ∨ ∃ b, v.ownBlock = some b ∧ W.heap.size ≤ b) :
 Bk W' base (updV V k v) (fun s => if s = k then ys else bs s) := by
 have hne : ∀ s, s < 64 → s ≠ k → (V s).ownBlock = none ∨ (V s).ownBlock ≠ v.ownBlock := by
  intro s hs e
  rcases hat with e2 | ⟨b, e2, hb⟩
  ·rw [e2]
   exact h.apart s k hs hk e
  ·cases ho : (V s).ownBlock with
   | none => exact .inl rfl
   | some q =>
    refine .inr (fun e3 => ?_)
    have := Kd.R_lt (h.row s hs) q ho
    rw [e2] at e3
    injection e3 with e3
    omega
 refine ⟨fun s hs => ?_, fun s t hs ht e => ?_⟩
 ·by_cases e : s = k
  ·subst e
   simp only [updV, if_pos rfl]
   exact own_only hv
  ·simp only [updV, if_neg e]
   refine Kd.R_grown (h.row s hs) hg (fun q hq e2 => ?_)
   rcases h.apart s k hs hk e with h1 | h1
   ·rw [h1] at hq; cases hq
   ·exact h1 (hq.trans e2)
 ·unfold updV
  by_cases e1 : s = k
  ·subst e1
   rw [if_pos rfl, if_neg (fun h => e h.symm)]
   rcases hne t ht (fun h => e h.symm) with h1 | h1
   ·cases hv' : v.ownBlock with
    | none => exact .inl rfl
    | some q => exact .inr (fun h2 => by rw [h1] at h2; cases h2)
   ·exact .inr (fun h2 => h1 h2.symm)
  ·rw [if_neg e1]
   by_cases e2 : t = k
   ·subst e2
    rw [if_pos rfl]
    exact hne s hs e1
   ·rw [if_neg e2]
    exact h.apart s t hs ht e
theorem bucket_no {l : List S39} {t : Int} {i : Nat} {x : S39} (hi : i < l.length) (hx : l[i] = x) (hw : wantB t x = false) (s : Nat) : bucket (l.take (i + 1)) t s = bucket (l.take i) t s := by
 unfold bucket
 rw [List.take_succ_eq_append_getElem hi, List.filter_append, hx]
 simp [hw]
theorem bucket_yes {l : List S39} {t : Int} {i : Nat} {x : S39} (hi : i < l.length) (hx : l[i] = x) (hw : wantB t x = true) (s : Nat) : bucket (l.take (i + 1)) t s = if s = x.f6.toNat then bucket (l.take i) t x.f6.toNat ++ [x] else bucket (l.take i) t s := by
 unfold bucket
 rw [List.take_succ_eq_append_getElem hi, List.filter_append, hx]
 by_cases e : s = x.f6.toNat
 ·subst e
  simp [hw]
 ·rw [if_neg e]
  have e2 : decide (x.f6.toNat = s) = false := decide_eq_false (fun h => e h.symm)
  simp only [List.filter_cons, List.filter_nil, hw, e2, Bool.and_false, Bool.false_eq_true, if_false, List.append_nil]
theorem bucket_len (l : List S39) (t : Int) (i s : Nat) : (bucket (l.take i) t s).length ≤ i := by
 unfold bucket
 exact Nat.le_trans (List.length_filter_le _ _) (by rw [List.length_take]; omega)
theorem zero_rows : #[Value.slice none 0 0, Value.slice none 0 0, Value.slice none 0 0, Value.slice none 0 0, Value.slice none 0 0, Value.slice none 0 0, Value.slice none 0 0, Value.slice none 0 0, Value.slice none 0 0, Value.slice none 0 0, Value.slice none 0 0, Value.slice none 0 0, Value.slice none 0 0, Value.slice none 0 0, Value.slice none 0 0, Value.slice none 0 0, Value.slice none 0 0, Value.slice none 0 0, Value.slice none 0 0, Value.slice none 0 0, Value.slice none 0 0, Value.slice none 0 0, Value.slice none 0 0, Value.slice none 0 0, Value.slice none 0 0, Value.slice none 0 0, Value.slice none 0 0, Value.slice none 0 0, Value.slice none 0 0, Value.slice none 0 0, Value.slice none 0 0, Value.slice none 0 0, Value.slice none 0 0, Value.slice none 0 0, Value.slice none 0 0, Value.slice none 0 0, Value.slice none 0 0, Value.slice none 0 0, Value.slice none 0 0, Value.slice none 0 0, Value.slice none 0 0, Value.slice none 0 0, Value.slice none 0 0, Value.slice none 0 0, Value.slice none 0 0, Value.slice none 0 0, Value.slice none 0 0, Value.slice none 0 0, Value.slice none 0 0, Value.slice none 0 0, Value.slice none 0 0, Value.slice none 0 0, Value.slice none 0 0, Value.slice none 0 0, Value.slice none 0 0, Value.slice none 0 0, Value.slice none 0 0, Value.slice none 0 0, Value.slice none 0 0, Value.slice none 0 0, Value.slice none 0 0, Value.slice none 0 0, Value.slice none 0 0, Value.slice none 0 0] = (rowV (fun _ => .slice none 0 0)).toArray := by kernel_rfl
theorem infoS : (Tryd.prog.info? 39).map (fun i => (i.zero, i.size, i.bytes)) = some (some (.agg #[.int .i64 0, .int .i64 0, .int .i64 0, .int .i64 0, .int .i64 0, .int .i64 0, .int .i64 0, .int .i64 0, .int .i64 0, .int .i64 0, .int .i64 0]), 11, 88) := by kernel_rfl
theorem over_all (L M : List Value) (h : M.length = L.length) : over L 0 M = M := by
 unfold over
 rw [List.take_zero, Nat.zero_add, h, List.drop_length, List.nil_append, List.append_nil]
theorem slice_form {W : World} {base : Nat} {ok : Nat → Prop} {v : Value} {xs : List S39} (h : Kd.R k39 39 W base ok v xs) : ∃ A n c, v = .slice A n c := by
 obtain ⟨A, c, e⟩ := Kd.R_slice h
 exact ⟨A, _, c, e⟩
theorem slice_cells {W : World} {base : Nat} {ok : Nat → Prop} {v u : Value} {xs : List S39} (h : Kd.R k39 39 W base ok v xs) (e : v = u) : u.cells.toList = [u] := by
 obtain ⟨A, n, c, rfl⟩ := slice_form h
 subst e
 rfl
theorem slice_one {W : World} {base : Nat} {ok : Nat → Prop} {v u : Value} {xs : List S39} (h : Kd.R k39 39 W base ok v xs) (e : v = u) : ∀ q ∈ [u], q.oneCell' = true := by
 obtain ⟨A, n, c, rfl⟩ := slice_form h
 subst e
 intro q hq
 rw [List.mem_singleton] at hq
 subst hq
 rfl
theorem rowV_one {W : World} {base : Nat} {V : Nat → Value} {bs : Nat → List S39} (h : Bk W base V bs) : ∀ q ∈ rowV V, q.oneCell' = true := by
 intro q hq
 unfold rowV at hq
 obtain ⟨s, hs, rfl⟩ := List.mem_map.mp hq
 obtain ⟨A, n, c, e⟩ := slice_form (h.row s (List.mem_range.mp hs))
 rw [e]
 rfl
theorem below_of2 {w W W1 : World} {b2 : Nat} {r : Option Nat} (h : Below w.heap.size w W) (h2 : Below b2 w W1) (hle : b2 ≤ W.heap.size) (hg : W.drew.grownBy W1 r) (hr : ∀ k, r = some k → w.heap.size ≤ k) : Below w.heap.size w W1 :=
 pw_below_grown (below_drew1 h) _ h.size hg hr
def sorted.T6 : Bool × List (List Nat × List Nat) := (true, [([], []), ([0], [0]), ([], []), ([2], [2]), ([3], [3]), ([4], [4]), ([], []), ([6], [6]), ([5, 7], [5, 7]), ([1, 0, 1, 2, 3, 4, 5, 6, 7, 8], [1]), ([9, 8, 8, 0, 1, 2, 3, 4, 5, 6, 7, 8], [8, 9])])
def sorted.B6 : List Nat := [0, 1, 0, 4, 12, 28, 0, 64, 252, 511, 1023]
theorem sorted.tab6 : rtab .any (opsOf Tryd.f30 6) = sorted.T6 := by kernel_rfl
theorem sorted.bits6 : waitsOk sorted.T6.2 sorted.B6 = true := by kernel_rfl
def SortedPost (l : List S39) (t : Int) (w : World) (e : Ending) (w' : World) : Prop := ∃ V : Nat → Value, e = .returned (.agg (rowV V).toArray) ∧ (∀ s, s < 64 → ∃ A n c, V s = .slice A n c ∧ n = (bucket l t s).length ∧ n ≤ c ∧ Kd.C k39 w' A (bucket l t s).length (bucket l t s)) ∧ Below w.heap.size w w'
set_option maxHeartbeats 16000000 in
set_option maxRecDepth 100000 in
theorem sorted.calls (A0 : Option Addr) (c0 : Nat) (l : List S39) (t : Int) (w : World) (hr0 : Kd.C k39 w A0 l.length l) (hc0 : l.length ≤ c0) (hlim : l.length < 1599289640401) (hS : ∀ x ∈ l, slotB x = true → 0 ≤ x.f6 ∧ x.f6 < 64) :
 Calls Tryd.prog 30 #[.slice A0 l.length c0, .int .i64 t] w (SortedPost l t w) := by
 have hu := Tryd.underlying39
 have HC := As hr0
 have HLM := As hlim
 have HSL := As hS
 clear hr0 hlim hS hc0
 go_enter Tryd.func30, Tryd.ntmps30
 go_wp2_with (fail)
 rw [zero_rows]
 obtain ⟨W0, hW0⟩ : ∃ W0, W0 = (w.alloc (.cells (rowV (fun _ => .slice none 0 0)).toArray 61)).alloc (.cells (rowV (fun _ => .slice none 0 0)).toArray 61) := ⟨_, rfl⟩
 rw [← hW0]
 have HZ0 : Aside0 (BlkIs W0 w.heap.size 61 (rowV (fun _ => .slice none 0 0))) := ⟨by rw [hW0]; exact BlkIs.alloc (heap_alloc_new w _) _⟩
 have HV0 : Aside0 (BlkIs W0 (w.heap.size + 1) 61 (rowV (fun _ => .slice none 0 0))) := ⟨by
  rw [hW0]
  have := heap_alloc_new (w.alloc (.cells (rowV (fun _ => .slice none 0 0)).toArray 61)) (.cells (rowV (fun _ => .slice none 0 0)).toArray 61)
  rwa [World.size_alloc] at this⟩
 have HB0 : Aside0 (Below w.heap.size w W0) := ⟨by rw [hW0]; exact below_alloc (below_alloc (Below.refl _ _) _) _⟩
 have HK0 : Aside0 (Bk W0 (w.heap.size + 2) (fun _ => .slice none 0 0) (fun s => bucket (l.take 0) t s)) := ⟨⟨fun s _ => by
  have : bucket (l.take 0) t s = [] := rfl
  rw [this]
  exact Kd.R_nil _ _ _ _ _, fun s t _ _ _ => .inl rfl⟩⟩
 clear hW0
 go_loopg [10] l.length (fun kq v10 w' => ∃ (i : Nat) (V : Nat → Value), v10 = .int .i64 i ∧ Aside0 (i + kq = l.length) ∧ Aside0 (BlkIs w' w.heap.size 61 (rowV (fun _ => .slice none 0 0))) ∧ Aside0 (BlkIs w' (w.heap.size + 1) 61 (rowV V)) ∧ Aside0 (Bk w' (w.heap.size + 2) V (fun s => bucket (l.take i) t s)) ∧ Aside0 (Below w.heap.size w w'))
 case atStart => exact ⟨0, _, rfl, ⟨by omega⟩, HZ0, HV0, HK0, HB0⟩
 case round =>
  clear HZ0 HV0 HK0 HB0
  obtain ⟨i, V, rfl, HI, HZ, HV, HK, HB⟩ := hrel
  cases gk with
  | zero =>
   have c4b0 : decide ((i : Int) < (l.length : Int)) = false := decide_eq_false (by have := HI.out; omega)
   have c4b1 : decide (i < l.length) = false := decide_eq_false (by have := HI.out; omega)
   have hil : i = l.length := by have := HI.out; omega
   have HIL := As hil
   clear hil
   go_wp2_with (first | ((with_reducible refine gate_ (.load 61 (.tmp 5)) rfl ?_); refine blk_load rfl 61 (.tmp 5) rfl HV.out rfl _ Tryd.underlying61 rfl (by rw [rowV_len]; kernel_rfl) ?_) | ((with_reducible refine gate_ (.store 61 (.tmp 4) (.tmp 33)) rfl ?_); refine blk_store rfl rfl 61 (.tmp 4) (.tmp 33) rfl HZ.out 0 (.agg (rowV V).toArray) (rowV V) (rowV V) ⟨_, rfl, rfl⟩ rfl rfl (by rw [rowV_len]; kernel_rfl) (by rw [rowV_len, rowV_len]; omega) ?h1 ?hE ?_; (case h1 => exact rowV_one HK.out); (case hE => exact over_all _ _ (by rw [rowV_len, rowV_len])); intro w1 HZ1 HG1))
   refine bodyPost_ret (results_cell rfl _ rfl HZ1.out _ Tryd.underlying61 rfl (by rw [rowV_len]; kernel_rfl)) rfl ?_
   refine ⟨V, rfl, fun s hs => ?_, ?_⟩
   ·have h1 := (HK.out.far HG1.out (by omega)).row s hs
    obtain ⟨A, c, e1, hc1, hC⟩ := Kd.R_reads h1
    have e2 : bucket (l.take i) t s = bucket l t s := by rw [HIL.out, List.take_length]
    rw [← e2]
    exact ⟨A, _, c, e1, rfl, hc1, hC⟩
   ·exact pw_below_grown HB.out _ HB.out.size HG1.out (by intro k hk; injection hk with hk; omega)
  | succ k1 =>
   have hil : i < l.length := by have := HI.out; omega
   have c4b0 : decide ((i : Int) < (l.length : Int)) = true := decide_eq_true (by omega)
   have c4b1 : decide (i < l.length) = true := decide_eq_true hil
   have hi64 : (i : Int) ≤ 9223372036854775806 := by have := HLM.out; omega
   have p1 : 0 ≤ (i : Int) := by omega
   have q1 : (i : Int) < (l.length : Int) := by omega
   obtain ⟨ad, e1, hx0, hx1, hx2, hx3, hx4, hx5, hx6, hx7, hx8, hx9, hx10⟩ := at_T39 HC.out i p1 q1
   cases e1
   replace hx0 := (HB.out.cell (World.block_lt_of_cell? w _ hx0)).trans hx0
   replace hx1 := (HB.out.cell (World.block_lt_of_cell? w _ hx1)).trans hx1
   replace hx2 := (HB.out.cell (World.block_lt_of_cell? w _ hx2)).trans hx2
   replace hx3 := (HB.out.cell (World.block_lt_of_cell? w _ hx3)).trans hx3
   replace hx4 := (HB.out.cell (World.block_lt_of_cell? w _ hx4)).trans hx4
   replace hx5 := (HB.out.cell (World.block_lt_of_cell? w _ hx5)).trans hx5
   replace hx6 := (HB.out.cell (World.block_lt_of_cell? w _ hx6)).trans hx6
   replace hx7 := (HB.out.cell (World.block_lt_of_cell? w _ hx7)).trans hx7
   replace hx8 := (HB.out.cell (World.block_lt_of_cell? w _ hx8)).trans hx8
   replace hx9 := (HB.out.cell (World.block_lt_of_cell? w _ hx9)).trans hx9
   replace hx10 := (HB.out.cell (World.block_lt_of_cell? w _ hx10)).trans hx10
   rw [Int.toNat_natCast] at hx0 hx1 hx2 hx3 hx4 hx5 hx6 hx7 hx8 hx9 hx10
   obtain ⟨x, hxe⟩ : ∃ x, x = rd_T39 l (i : Int) := ⟨_, rfl⟩
   rw [← hxe] at hx0 hx1 hx2 hx3 hx4 hx5 hx6 hx7 hx8 hx9 hx10
   have EL : Aside0 (l[i] = x) := ⟨by rw [hxe]; unfold rd_T39; rw [Int.toNat_natCast, List.getD_eq_getElem?_getD, List.getElem?_eq_getElem hil]; rfl⟩
   clear hxe
   have hHN := heap_alloc_new wr (.cells #[.int .i64 x.f0, .int .i64 x.f1, .int .i64 x.f2, .int .i64 x.f3, .int .i64 x.f4, .int .i64 x.f5, .int .i64 x.f6, .int .i64 x.f7, .int .i64 x.f8, .int .i64 x.f9, .int .i64 x.f10] 39)
   have hHZ := HZ.out.alloc (.cells #[.int .i64 x.f0, .int .i64 x.f1, .int .i64 x.f2, .int .i64 x.f3, .int .i64 x.f4, .int .i64 x.f5, .int .i64 x.f6, .int .i64 x.f7, .int .i64 x.f8, .int .i64 x.f9, .int .i64 x.f10] 39)
   have hHV := HV.out.alloc (.cells #[.int .i64 x.f0, .int .i64 x.f1, .int .i64 x.f2, .int .i64 x.f3, .int .i64 x.f4, .int .i64 x.f5, .int .i64 x.f6, .int .i64 x.f7, .int .i64 x.f8, .int .i64 x.f9, .int .i64 x.f10] 39)
   have hHK := HK.out.below (below_alloc (Below.refl _ _) (.cells #[.int .i64 x.f0, .int .i64 x.f1, .int .i64 x.f2, .int .i64 x.f3, .int .i64 x.f4, .int .i64 x.f5, .int .i64 x.f6, .int .i64 x.f7, .int .i64 x.f8, .int .i64 x.f9, .int .i64 x.f10] 39))
   have hHB := below_alloc HB.out (.cells #[.int .i64 x.f0, .int .i64 x.f1, .int .i64 x.f2, .int .i64 x.f3, .int .i64 x.f4, .int .i64 x.f5, .int .i64 x.f6, .int .i64 x.f7, .int .i64 x.f8, .int .i64 x.f9, .int .i64 x.f10] 39)
   have HNW : Aside0 (w.heap.size + 2 ≤ wr.heap.size) := ⟨by have := HV.out.lt; omega⟩
   have HOW : Aside0 (∀ s, s < 64 → ∀ k, (V s).ownBlock = some k → k < wr.heap.size) := ⟨fun s hs k hk => Kd.R_lt (HK.out.row s hs) k hk⟩
   go_upto_region 5 with (fail)
   generalize wr.alloc (.cells #[.int .i64 x.f0, .int .i64 x.f1, .int .i64 x.f2, .int .i64 x.f3, .int .i64 x.f4, .int .i64 x.f5, .int .i64 x.f6, .int .i64 x.f7, .int .i64 x.f8, .int .i64 x.f9, .int .i64 x.f10] 39) = w1 at hHN hHZ hHV hHK hHB ⊢
   have HN1 : Aside0 (BlkIs w1 wr.heap.size 39 [.int .i64 x.f0, .int .i64 x.f1, .int .i64 x.f2, .int .i64 x.f3, .int .i64 x.f4, .int .i64 x.f5, .int .i64 x.f6, .int .i64 x.f7, .int .i64 x.f8, .int .i64 x.f9, .int .i64 x.f10]) := ⟨hHN⟩
   have HZ1 := As hHZ
   have HV1 := As hHV
   have HK1 := As hHK
   have HB1 := As hHB
   clear hHN hHZ hHV hHK hHB hx0 hx1 hx2 hx3 hx4 hx5 hx6 hx7 hx8 hx9 hx10 HZ HV HK HB
   obtain ⟨x0_1, x1_1, x2_1, x3_1, x4_1, x5_1, x6_1, x7_1, x8_1, x9_1, x10_1⟩ := cs11 HN1.out
   cases hs : slotB x with
   | false =>
    have HSB := As hs
    have HWB : Aside0 (wantB t x = false) := ⟨by unfold wantB; rw [hs]; rfl⟩
    clear hs
    go_wp2_with (go_at_call 35; (with_reducible refine (lease_slotted.calls x.f0 x.f1 x.f2 x.f3 x.f4 x.f5 x.f6 x.f7 x.f8 x.f9 x.f10 false _ (by rw [slotted_is]; exact congrArg some HSB.out)).mono ?_); rintro e w3 ⟨rfl, hb3⟩; have HN3 := As (HN1.out.below hb3); have HZ3 := As (HZ1.out.below hb3); have HV3 := As (HV1.out.below hb3); have HK3 := As (HK1.out.below hb3); have HB3 := As (below_step HB1.out hb3); clear hb3; obtain ⟨x0_3, x1_3, x2_3, x3_3, x4_3, x5_3, x6_3, x7_3, x8_3, x9_3, _⟩ := cs11 HN3.out; have x10_3 : w3.cell? ⟨wr.heap.size, 10, none⟩ = some (.int .i64 x.f10) := HN3.out.at_ 10)
    have HKN : Aside0 (Bk w3 (w.heap.size + 2) V (fun s => bucket (l.take (i + 1)) t s)) := ⟨by rw [show (fun s => bucket (l.take (i + 1)) t s) = (fun s => bucket (l.take i) t s) from funext (fun s => bucket_no hil EL.out HWB.out s)]; exact HK3.out⟩
    go_roundg k1
    case measure => omega
    case rel => exact ⟨i + 1, V, by simp, ⟨by have := HI.out; omega⟩, HZ3, HV3, HKN, HB3⟩
   | true =>
    have HSB := As hs
    cases ht : decide (x.f4 ≤ t) with
    | false =>
     have HWB : Aside0 (wantB t x = false) := ⟨by unfold wantB; rw [hs, ht]; rfl⟩
     clear hs
     go_wp2_with (go_at_call 35; (with_reducible refine (lease_slotted.calls x.f0 x.f1 x.f2 x.f3 x.f4 x.f5 x.f6 x.f7 x.f8 x.f9 x.f10 true _ (by rw [slotted_is]; exact congrArg some HSB.out)).mono ?_); rintro e w3 ⟨rfl, hb3⟩; have HN3 := As (HN1.out.below hb3); have HZ3 := As (HZ1.out.below hb3); have HV3 := As (HV1.out.below hb3); have HK3 := As (HK1.out.below hb3); have HB3 := As (below_step HB1.out hb3); clear hb3; obtain ⟨x0_3, x1_3, x2_3, x3_3, x4_3, x5_3, x6_3, x7_3, x8_3, x9_3, _⟩ := cs11 HN3.out; have x10_3 : w3.cell? ⟨wr.heap.size, 10, none⟩ = some (.int .i64 x.f10) := HN3.out.at_ 10)
     have HKN : Aside0 (Bk w3 (w.heap.size + 2) V (fun s => bucket (l.take (i + 1)) t s)) := ⟨by rw [show (fun s => bucket (l.take (i + 1)) t s) = (fun s => bucket (l.take i) t s) from funext (fun s => bucket_no hil EL.out HWB.out s)]; exact HK3.out⟩
     go_roundg k1
     case measure => omega
     case rel => exact ⟨i + 1, V, by simp, ⟨by have := HI.out; omega⟩, HZ3, HV3, HKN, HB3⟩
    | true =>
     have HWB : Aside0 (wantB t x = true) := ⟨by unfold wantB; rw [hs, ht]; rfl⟩
     obtain ⟨f0, f64⟩ := HSL.out x (by rw [← EL.out]; exact List.getElem_mem hil) hs
     clear hs
     go_upto_region 6 with (go_at_call 35; (with_reducible refine (lease_slotted.calls x.f0 x.f1 x.f2 x.f3 x.f4 x.f5 x.f6 x.f7 x.f8 x.f9 x.f10 true _ (by rw [slotted_is]; exact congrArg some HSB.out)).mono ?_); rintro e w3 ⟨rfl, hb3⟩; have HN3 := As (HN1.out.below hb3); have HZ3 := As (HZ1.out.below hb3); have HV3 := As (HV1.out.below hb3); have HK3 := As (HK1.out.below hb3); have HB3 := As (below_step HB1.out hb3); clear hb3; obtain ⟨x0_3, x1_3, x2_3, x3_3, x4_3, x5_3, x6_3, x7_3, x8_3, x9_3, _⟩ := cs11 HN3.out; have x10_3 : w3.cell? ⟨wr.heap.size, 10, none⟩ = some (.int .i64 x.f10) := HN3.out.at_ 10)
     have HKL : Aside0 (x.f6.toNat < 64) := ⟨by omega⟩
     obtain ⟨k, hk⟩ : ∃ k, k = x.f6.toNat := ⟨_, rfl⟩
     have HKE := As hk
     clear hk
     refine start_ (n := 11) (S := fun w' => w'.cell? ⟨wr.heap.size, 0, none⟩ = some (.int .i64 x.f0) ∧ w'.cell? ⟨wr.heap.size, 1, none⟩ = some (.int .i64 x.f1) ∧ w'.cell? ⟨wr.heap.size, 2, none⟩ = some (.int .i64 x.f2) ∧ w'.cell? ⟨wr.heap.size, 3, none⟩ = some (.int .i64 x.f3) ∧ w'.cell? ⟨wr.heap.size, 4, none⟩ = some (.int .i64 x.f4) ∧ w'.cell? ⟨wr.heap.size, 5, none⟩ = some (.int .i64 x.f5) ∧ w'.cell? ⟨wr.heap.size, 6, none⟩ = some (.int .i64 x.f6) ∧ w'.cell? ⟨wr.heap.size, 7, none⟩ = some (.int .i64 x.f7) ∧ w'.cell? ⟨wr.heap.size, 8, none⟩ = some (.int .i64 x.f8) ∧ w'.cell? ⟨wr.heap.size, 9, none⟩ = some (.int .i64 x.f9) ∧ w'.cell? ⟨wr.heap.size, 10, none⟩ = some (.int .i64 x.f10) ∧ w'.cell? ⟨w.heap.size + 1, x.f6.toNat, none⟩ = some (V x.f6.toNat)) (ds := [10]) (marksOf 11 0) (by kernel_rfl) rfl rfl ⟨HN3.out.drew.at_ 0, HN3.out.drew.at_ 1, HN3.out.drew.at_ 2, HN3.out.drew.at_ 3, HN3.out.drew.at_ 4, HN3.out.drew.at_ 5, HN3.out.drew.at_ 6, HN3.out.drew.at_ 7, HN3.out.drew.at_ 8, HN3.out.drew.at_ 9, HN3.out.drew.at_ 10, (HV3.out.drew.at_ _).trans (rowV_get V _ HKL.out)⟩ (fun hHeld => ?_)
     refine with_tabW sorted.tab6 sorted.bits6 (fun HT_ HW_ => ?_)
     have HN4 := As HN3.out.drew
     have HZ4 := As HZ3.out.drew
     have HV4 := As HV3.out.drew
     have HB4 := As (below_drew1 HB3.out)
     have HK4 := As (HK3.out.below (below_drew1 (Below.refl _ _)))
     generalize w3.drew = w4 at HN4 HZ4 HV4 HB4 HK4 hHeld ⊢
     refine pv_ 0 22 11 1 ?_
     refine ta_ 1 23 11 3 ?_ rfl rfl (take_ofW HT_.out HW_.out (by kernel_rfl)) (fun _ _ _ h => h) (by rfl) ?_ hHeld ?_ ?_ ?_
     rotate_left
     ·rintro w' ⟨s0, s1, s2, s3, s4, s5, s6, s7, s8, s9, s10, s11⟩
      go_simp
      with_reducible rfl
     rotate_left
     ·simp only [Act.put, List.setIfInBounds_toArray, List.set_cons_zero, List.set_cons_succ, q1, q2, q3, i64_w, i32_w]
      rfl
     refine pv_ 2 24 11 7 ?_
     refine ta_ 3 25 11 15 ?_ rfl rfl (take_ofW HT_.out HW_.out (by kernel_rfl)) (fun _ _ _ h => h) (by rfl) ?_ hHeld ?_ ?_ ?_
     rotate_left
     ·rintro w' ⟨s0, s1, s2, s3, s4, s5, s6, s7, s8, s9, s10, s11⟩
      go_simp
      with_reducible rfl
     rotate_left
     ·simp only [Act.put, List.setIfInBounds_toArray, List.set_cons_zero, List.set_cons_succ, q1, q2, q3, i64_w, i32_w]
      rfl
     refine pv_ 4 26 11 31 ?_
     refine ta_ 5 27 11 63 ?_ rfl rfl (take_ofW HT_.out HW_.out (by kernel_rfl)) (fun _ _ _ h => h) (by rfl) ?_ hHeld ?_ ?_ ?_
     rotate_left
     ·rintro w' ⟨s0, s1, s2, s3, s4, s5, s6, s7, s8, s9, s10, s11⟩
      go_simp
      with_reducible rfl
     rotate_left
     ·simp only [Act.put, List.setIfInBounds_toArray, List.set_cons_zero, List.set_cons_succ, q1, q2, q3, i64_w, i32_w]
      rfl
     refine ta_ 6 28 11 127 ?_ rfl rfl (take_ofW HT_.out HW_.out (by kernel_rfl)) (fun _ _ _ h => h) (by rfl) ?_ hHeld ?_ ?_ ?_
     rotate_left
     ·rintro w' ⟨s0, s1, s2, s3, s4, s5, s6, s7, s8, s9, s10, s11⟩
      go_simp
      with_reducible rfl
     rotate_left
     ·simp only [Act.put, List.setIfInBounds_toArray, List.set_cons_zero, List.set_cons_succ, q1, q2, q3, i64_w, i32_w]
      rfl
     refine one_ (i := 7) (N := some 29) (marksOf 11 255) rfl rfl (one_of HT_.out (by kernel_rfl)) (by decide) (fun K hK => ?_)
     refine value_ (w1 := ?_) (v := ?_) (by rfl) rfl ?_ ?_
     rotate_left 2
     ·go_simp
      constructor
      ·rfl
      ·rfl
     refine hK.out _ _ ⟨(HN4.out.alloc _).at_ 0, (HN4.out.alloc _).at_ 1, (HN4.out.alloc _).at_ 2, (HN4.out.alloc _).at_ 3, (HN4.out.alloc _).at_ 4, (HN4.out.alloc _).at_ 5, (HN4.out.alloc _).at_ 6, (HN4.out.alloc _).at_ 7, (HN4.out.alloc _).at_ 8, (HN4.out.alloc _).at_ 9, (HN4.out.alloc _).at_ 10, ((HV4.out.alloc _).at_ _).trans (rowV_get V _ HKL.out)⟩ (fun hHeld => ?_)
     clear hK K
     refine norm_ (a' := ?_) ?_ ?_
     rotate_left
     ·show Act.put _ (some 29) _ = _
      simp only [Act.put, List.setIfInBounds_toArray, List.set_cons_zero, List.set_cons_succ, q1, q2, q3, i64_w, i32_w]
      rfl
     refine one_ (i := 8) (N := some 30) (marksOf 11 511) rfl rfl (one_of HT_.out (by kernel_rfl)) (by decide) (fun K hK => ?_)
     refine Kd.R_append_step k39 (w0 := w4) (w.heap.size + 2) (by rfl) (.tmp 27) (.tmp 29) 27 39 (.agg #[.int .i64 0, .int .i64 0, .int .i64 0, .int .i64 0, .int .i64 0, .int .i64 0, .int .i64 0, .int .i64 0, .int .i64 0, .int .i64 0, .int .i64 0]) 88 rfl Tryd.underlying27 infoS rfl (by decide) (by omega) (V x.f6.toNat) (bucket (l.take i) t x.f6.toNat) x [.int .i64 x.f0, .int .i64 x.f1, .int .i64 x.f2, .int .i64 x.f3, .int .i64 x.f4, .int .i64 x.f5, .int .i64 x.f6, .int .i64 x.f7, .int .i64 x.f8, .int .i64 x.f9, .int .i64 x.f10] (fun _ => True) (fun _ => False) rfl rfl ?aP (fun _ hk => hk.elim) ?aF ?aO ?aB ?aS ?aL ?_
     case aP => exact k39_mkM _ _ _ x
     case aF => exact fun _ _ => trivial
     case aO => exact Kd.R_mono (HK4.out.row _ HKL.out) (fun _ _ => trivial)
     case aB => exact Below.refl _ _
     case aS => have := HV4.out.lt; omega
     case aL => have := bucket_len l t i x.f6.toNat; have := HLM.out; omega
     intro v1 w5 ho hb5 hg5 hat5
     have hne5 : ∀ g, g < w.heap.size + 2 ∨ g = wr.heap.size → some g ≠ (V x.f6.toNat).ownBlock := by
      intro g hg e
      have h1 := Kd.R_base (HK3.out.row _ HKL.out) g e.symm
      have h2 := HOW.out _ HKL.out g e.symm
      omega
     have HN5 := As (HN4.out.grown hg5 (hne5 _ (.inr rfl)))
     have HZ5 := As (HZ4.out.grown hg5 (hne5 _ (.inl (by omega))))
     have HV5 := As (HV4.out.grown hg5 (hne5 _ (.inl (by omega))))
     have HK5 : Aside0 (Bk w5 (w.heap.size + 2) (updV V x.f6.toNat v1) (fun s => if s = x.f6.toNat then bucket (l.take i) t x.f6.toNat ++ [x] else bucket (l.take i) t s)) := ⟨Bk.put HKL.out HK4.out hg5 ho hat5⟩
     have HB5 : Aside0 (Below w.heap.size w w5) := ⟨pw_below_grown HB4.out _ HB4.out.size hg5 (fun k hk => by have := Kd.R_base (HK3.out.row _ HKL.out) k hk; omega)⟩
     clear ho hb5 hg5 hat5 hne5
     refine hK.out _ _ ⟨HN5.out.at_ 0, HN5.out.at_ 1, HN5.out.at_ 2, HN5.out.at_ 3, HN5.out.at_ 4, HN5.out.at_ 5, HN5.out.at_ 6, HN5.out.at_ 7, HN5.out.at_ 8, HN5.out.at_ 9, HN5.out.at_ 10, (HV5.out.at_ _).trans (rowV_get V _ HKL.out)⟩ (fun hHeld => ?_)
     clear hK K
     refine norm_ (a' := ?_) ?_ ?_
     rotate_left
     ·show Act.put _ (some 30) _ = _
      simp only [Act.put, List.setIfInBounds_toArray, List.set_cons_zero, List.set_cons_succ, q1, q2, q3, i64_w, i32_w]
      rfl
     refine pv_ 9 31 11 1023 ?_
     refine last_ (i := 10) (N := none) (marksOf 11 2047) rfl rfl (one_of HT_.out (by kernel_rfl)) (by decide) (fun K hK => ?_)
     refine blk_store_step ?hw ?hN 27 (.tmp 31) (.tmp 30) ?ho HV5.out x.f6.toNat v1 [v1] (rowV (updV V x.f6.toNat v1)) ?ha ?hx ?hu ?ht ?hf ?h1 ?hE ?_
     case hw => rfl
     case hN => rfl
     case ho => rfl
     case ha => exact ⟨_, rfl, rfl⟩
     case hx => rfl
     case hu => exact slice_cells (HK5.out.row _ HKL.out) (by simp [updV])
     case ht => kernel_rfl
     case hf => rw [rowV_len]; have := HKL.out; show x.f6.toNat + 1 ≤ 64; omega
     case h1 => exact slice_one (HK5.out.row _ HKL.out) (by simp [updV])
     case hE => rw [over_one _ _ _ (by rw [rowV_len]; exact HKL.out), rowV_set]
     intro w6 HV6 hg6
     have HZ6 := As (HZ5.out.grown hg6.out (fun e => by injection e with e; omega))
     have HK6 := As (HK5.out.far hg6.out (by omega))
     have HB6 : Aside0 (Below w.heap.size w w6) := ⟨pw_below_grown HB5.out _ HB5.out.size hg6.out (by intro k hk; injection hk with hk; omega)⟩
     clear hg6
     refine hK.out _ _ ?_
     refine done_ (done_of HT_.out (by kernel_rfl)) ?_
     have HKN : Aside0 (Bk w6 (w.heap.size + 2) (updV V x.f6.toNat v1) (fun s => bucket (l.take (i + 1)) t s)) := ⟨by rw [show (fun s => bucket (l.take (i + 1)) t s) = (fun s => if s = x.f6.toNat then bucket (l.take i) t x.f6.toNat ++ [x] else bucket (l.take i) t s) from funext (fun s => bucket_yes hil EL.out HWB.out s)]; exact HK6.out⟩
     go_wp2
     go_roundg k1
     case measure => omega
     case rel => exact ⟨i + 1, _, by simp, ⟨by have := HI.out; omega⟩, HZ6, HV6, HKN, HB6⟩
end
section
attribute [local go_sem ↓] some_setCell
def Le.rec_ (s : Le) : S41 := ⟨s.o, s.k, s.s, s.h, s.z, s.fr, s.un, s.rc⟩
def lastS (l : List S39) : Sl := l.foldl Sl.takeS zSl
def inForce (l : List S39) (t : Int) (s : Nat) : List S41 := if (lastS (bucket l t s)).inB t = true then [(lastS (bucket l t s)).l.rec_] else []
def leasesL (l : List S39) (t : Int) (k : Nat) : List S41 := (List.range k).flatMap (inForce l t)
def lease_Leases.f (l : List S39) (t : Int) : Option (List S41 × Int) :=
 if 1599289640401 ≤ l.length then none
 else if rightI l l.length 0 (List.replicate 64 zSl) ≠ 0 then some ([], rightI l l.length 0 (List.replicate 64 zSl))
 else if t < 0 ∨ 1048576 < t then some ([], 1)
 else some (leasesL l t 64, 0)
theorem leasesL_succ (l : List S39) (t : Int) (i : Nat) : leasesL l t (i + 1) = leasesL l t i ++ inForce l t i := by
 unfold leasesL
 rw [List.range_succ, List.flatMap_append]
 simp
theorem leasesL_len (l : List S39) (t : Int) (i : Nat) : (leasesL l t i).length ≤ i := by
 induction i with
 | zero => simp [leasesL]
 | succ i ih =>
  rw [leasesL_succ, List.length_append]
  have : (inForce l t i).length ≤ 1 := by
   unfold inForce
   split <;> simp
  omega
theorem lastS_succ {L : List S39} {j : Nat} {x : S39} (hj : j < L.length) (hx : L[j] = x) : lastS (L.take (j + 1)) = (lastS (L.take j)).takeS x := by
 unfold lastS
 rw [List.take_succ_eq_append_getElem hj, List.foldl_append, hx]
 rfl
theorem take0 (b : Nat) (s : Sl) (x : S39) (W : World) (hB : BlkIs W b 64 s.enc) : Calls Tryd.prog 31 #[.pointer (some ⟨b, 0, none⟩), .agg #[.int .i64 x.f0, .int .i64 x.f1, .int .i64 x.f2, .int .i64 x.f3, .int .i64 x.f4, .int .i64 x.f5, .int .i64 x.f6, .int .i64 x.f7, .int .i64 x.f8, .int .i64 x.f9, .int .i64 x.f10]] W fun e w' => e = .returned (.tuple #[]) ∧ Aside0 (BlkIs w' b 64 (s.takeS x).enc) ∧ Aside0 (W.grownBy w' (some b)) :=
 (slot_take.calls b 64 [] [] s x W hB).mono fun e w' ⟨he, h1, h2⟩ => ⟨he, ⟨h1⟩, ⟨h2⟩⟩
theorem in0 (b : Nat) (s : Sl) (t : Int) (W : World) (hB : BlkIs W b 64 s.enc) (r : Bool) (h : s.inB t = r) : Calls Tryd.prog 32 #[.pointer (some ⟨b, 0, none⟩), .int .i64 t] W fun e w' => e = .returned (.bool r) ∧ w' = W := by
 subst h
 exact slot_in.calls b 0 s t W (fun j v hj => by rw [hB.at_, Nat.zero_add]; exact hj)
theorem index_list {P : Program} {ops : Array Oper} {rest : List Oper} {o : Oper} {a : Act} {Q : Exit → Act → World → Prop} {W : World} {L : List Value} (hgd : o.guard = none) (ty e : TypeId) (q y : Operand) (ho : o.op = .index ty q y) (n k : Nat) (v : Value) (hq : a.eval q = .agg L.toArray) (hy : a.eval y = .int .i64 (k : Int))
 (hu : P.underlying ty = some (.array n e)) (hk : k < n) (hv : L[k]? = some v) (d : TypeDesc) (he : P.underlying e = some d) (hd : (match d with | .struct _ => true | .array _ _ => true | _ => false) = false) (hi : (P.info? e).map (·.size) = some 1)
 (h : wpList P ops Q rest (a.put o.dst v) W) : wpList P ops Q (o :: rest) a W := by
 have hr := index_run (P := P) (W := W) ty e n k v hu hk hv d he hd hi
 refine wpList_plain hgd fun K hK => ?_
 unfold Oper.wp execOp
 simp only [ho, hq, hy, Sem.run_bind, Sem.run_pure, Result.andThen_ok, hr]
 exact hK _ _ h
theorem infoL : (Tryd.prog.info? 41).map (fun i => (i.zero, i.size, i.bytes)) = some (some (.agg #[.int .i64 0, .int .i64 0, .int .i64 0, .int .i64 0, .int .i64 0, .int .i64 0, .int .i64 0, .bool false]), 8, 64) := by kernel_rfl
theorem right_ok {l : List S39} : ∀ (d i : Nat) (ss : List Sl), rightI l d i ss = 0 → ∀ j : Nat, i ≤ j → j < i + d → validB (rd_T39 l j) = true
 | 0, i, ss, _, j, h1, h2 => by omega
 | d + 1, i, ss, h, j, h1, h2 => by
  rw [rightI] at h
  split at h
  ·cases h
  ·rename_i hv
   split at h
   ·cases h
   ·split at h
    ·cases h
    ·by_cases e : j = i
     ·subst e
      exact Bool.not_eq_false _ ▸ hv
     ·split at h
      ·exact right_ok d (i + 1) _ h j (by omega) (by omega)
      ·split at h
       ·cases h
       ·exact right_ok d (i + 1) _ h j (by omega) (by omega)
theorem right_slots {l : List S39} (h : rightI l l.length 0 (List.replicate 64 zSl) = 0) : ∀ x ∈ l, slotB x = true → 0 ≤ x.f6 ∧ x.f6 < 64 := by
 intro x hx hs
 obtain ⟨j, hj, rfl⟩ := List.getElem_of_mem hx
 have h1 := right_ok l.length 0 _ h j (Nat.zero_le _) (by omega)
 have h2 : rd_T39 l (j : Int) = l[j] := by
  unfold rd_T39
  rw [Int.toNat_natCast, List.getD_eq_getElem?_getD, List.getElem?_eq_getElem hj]
  rfl
 rw [h2] at h1
 exact slot_rng h1 hs
theorem flat41 : Flat k41 (fun (x : S41) => [.int .i64 x.f0, .int .i64 x.f1, .int .i64 x.f2, .int .i64 x.f3, .int .i64 x.f4, .int .i64 x.f5, .int .i64 x.f6, .bool x.f7]) := ⟨fun _ => rfl, fun h => k41_openM h, fun w base ok x => k41_mkM w base ok x, by decide⟩
theorem own_keep {W W' : World} {base b : Nat} {v : Value} {xs : List S41} (h : Kd.R k41 41 W base (fun _ => True) v xs) (hg : W.grownBy W' (some b)) (hne : ∀ k, v.ownBlock = some k → k < b) : Kd.R k41 41 W' base (fun _ => True) v xs := by
 rcases flat41.block h with ⟨rfl, rfl⟩ | ⟨g, cap, cur, rfl, hg2, hok, hH, hnc, hcm, hl, htk⟩
 ·exact Kd.R_nil _ _ _ _ _
 ·have h1 : Kd.R k41 41 W base (fun k => (Value.slice (some ⟨g, 0, none⟩) xs.length cap).ownBlock = some k) (.slice (some ⟨g, 0, none⟩) xs.length cap) xs := flat41.own rfl hg2 rfl hH hnc hcm hl htk
  refine Kd.R_mono (Kd.R_grown h1 hg (fun k hk e => ?_)) (fun _ _ => trivial)
  injection e with e
  have := hne k hk
  omega
set_option maxHeartbeats 16000000 in
set_option maxRecDepth 100000 in
theorem lease_Leases.calls (A0 : Option Addr) (c0 : Nat) (l : List S39) (t : Int) (r1 : List S41) (r2 : Int) (w : World) (hr0 : Kd.C k39 w A0 l.length l) (hc0 : l.length ≤ c0) (h : lease_Leases.f l t = some (r1, r2)) (hG : GW w) :
 Calls Tryd.prog 13 #[.slice A0 l.length c0, .int .i64 t] w fun e w' => ∃ v0_ : Value, e = .returned (.tuple #[v0_, .int .i64 r2]) ∧ Kd.R k41 41 w' w.heap.size (fun _ => True) v0_ r1 ∧ Below w.heap.size w w' := by
 unfold lease_Leases.f at h
 by_cases hl : 1599289640401 ≤ l.length
 ·rw [if_pos hl] at h
  cases h
 rw [if_neg hl] at h
 obtain ⟨r0, hr0e⟩ : ∃ r0, r0 = rightI l l.length 0 (List.replicate 64 zSl) := ⟨_, rfl⟩
 rw [← hr0e] at h
 have HG := As hG
 have HC := As hr0
 have HCC := As hc0
 have HR : Aside0 (lease_Right.f l = some r0) := ⟨by rw [hr0e]; rfl⟩
 have HLM : Aside0 (l.length < 1599289640401) := ⟨by omega⟩
 have HSR : Aside0 (r0 = 0 → ∀ x ∈ l, slotB x = true → 0 ≤ x.f6 ∧ x.f6 < 64) := ⟨fun e => right_slots (hr0e.symm.trans e)⟩
 clear hG hr0 hc0 hr0e hl
 by_cases hz : r0 = 0
 ·rw [if_neg (fun h => h hz)] at h
  subst hz
  have HSS := As (HSR.out rfl)
  clear HSR
  by_cases ht : t < 0 ∨ 1048576 < t
  ·rw [if_pos ht] at h
   simp only [Option.some.injEq, Prod.mk.injEq] at h
   obtain ⟨rfl, rfl⟩ := h
   by_cases h0 : t < 0
   ·have c1b0 : decide (t < 0) = true := decide_eq_true h0
    clear ht h0
    go_enter Tryd.func13, Tryd.ntmps13
    go_wp2_with ((go_at_call 17; (with_reducible refine (lease_Right.calls A0 c0 l 0 _ HG.out HC.out HCC.out HR.out).mono ?_); rintro e w2 ⟨rfl, hb2⟩; have HB2 := As hb2; clear hb2))
    go_ret2
    exact ⟨_, rfl, Kd.R_nil _ _ _ _ _, by repeat (first | exact HB2.out | apply below_drew1 | apply pw_below_drewN)⟩
   ·have c1b0 : decide (t < 0) = false := decide_eq_false h0
    have c2b0 : decide (1048576 < t) = true := decide_eq_true (by omega)
    clear ht h0
    go_enter Tryd.func13, Tryd.ntmps13
    go_wp2_with ((go_at_call 17; (with_reducible refine (lease_Right.calls A0 c0 l 0 _ HG.out HC.out HCC.out HR.out).mono ?_); rintro e w2 ⟨rfl, hb2⟩; have HB2 := As hb2; clear hb2))
    go_ret2
    exact ⟨_, rfl, Kd.R_nil _ _ _ _ _, by repeat (first | exact HB2.out | apply below_drew1 | apply pw_below_drewN)⟩
  ·rw [if_neg ht] at h
   simp only [Option.some.injEq, Prod.mk.injEq] at h
   obtain ⟨rfl, rfl⟩ := h
   have c1b0 : decide (t < 0) = false := decide_eq_false (by omega)
   have c2b0 : decide (1048576 < t) = false := decide_eq_false (by omega)
   clear ht
   go_enter Tryd.func13, Tryd.ntmps13
   go_wp2_with (first | (go_at_call 17; (with_reducible refine (lease_Right.calls A0 c0 l 0 _ HG.out HC.out HCC.out HR.out).mono ?_); rintro e w2 ⟨rfl, hb2⟩; have HB2 := As hb2; clear hb2) | (go_at_call 30; go_loud ((with_reducible refine (sorted.calls A0 c0 l t _ (Kd.C_below HC.out HB2.out) HCC.out HLM.out HSS.out).mono ?_); rintro e w3 ⟨V, rfl, HV0, hb3⟩; have HV := As HV0; have HB3 := As (below_step HB2.out hb3); clear HV0 hb3)))
   go_loopg [7, 27] 64 (fun kq v7 v27 w' => ∃ i : Nat, v27 = .int .i64 i ∧ Aside0 (i + kq = 64) ∧ Aside0 (Kd.R k41 41 w' w3.heap.size (fun _ => True) v7 (leasesL l t i)) ∧ Aside0 (Below w3.heap.size w3 w'))
   case atStart => exact ⟨0, rfl, ⟨rfl⟩, ⟨Kd.R_nil _ _ _ _ _⟩, ⟨Below.refl _ _⟩⟩
   case round =>
    obtain ⟨i, rfl, HI, HO, HB⟩ := hrel
    cases gk with
    | zero =>
     have c4b0 : decide ((i : Int) < 64) = false := decide_eq_false (by have := HI.out; omega)
     have c4b1 : decide (i < 64) = false := decide_eq_false (by have := HI.out; omega)
     have HIE : Aside0 (i = 64) := ⟨by have := HI.out; omega⟩
     go_wp2
     go_ret2
     exact ⟨_, rfl, Kd.R_lower (by rw [← HIE.out]; exact HO.out) HB3.out.size, below_step HB3.out HB.out⟩
    | succ k1 =>
     have hil : i < 64 := by have := HI.out; omega
     have HIL := As hil
     have hi64 : (i : Int) ≤ 9223372036854775806 := by omega
     have pi1 : 0 ≤ (i : Int) := by omega
     have c4b0 : decide ((i : Int) < 64) = true := decide_eq_true (by omega)
     have c4b1 : decide (i < 64) = true := decide_eq_true hil
     obtain ⟨A, n, cp, hVi, hn, hnc, hC⟩ := HV.out i hil
     subst hn
     obtain ⟨L, hL⟩ : ∃ L, L = bucket l t i := ⟨_, rfl⟩
     rw [← hL] at hVi hnc hC
     have HL := As hL
     have HVI := As hVi
     have HCL := As hC
     have HLL : Aside0 (L.length ≤ 9223372036854775807) := ⟨hC.2.1⟩
     have HNC := As hnc
     clear hL hVi hC hnc hil
     obtain ⟨b, hb⟩ : ∃ b, b = wr.heap.size := ⟨_, rfl⟩
     have hON : BlkIs (wr.alloc (.cells zSl.enc.toArray 64)) b 64 zSl.enc := by rw [hb]; exact heap_alloc_new wr _
     have hOO := Kd.R_below HO.out (below_alloc (Below.refl _ _) (.cells zSl.enc.toArray 64))
     have hOB := below_alloc HB.out (.cells zSl.enc.toArray 64)
     have HOL : Aside0 (∀ k, u7.ownBlock = some k → k < b) := ⟨fun k hk => by rw [hb]; exact Kd.R_lt HO.out k hk⟩
     have HBL : Aside0 (w3.heap.size ≤ b) := ⟨by rw [hb]; exact HB.out.size⟩
     go_upto_region 11 with ((with_reducible refine gate_ (.index 61 (.tmp 26) (.tmp 27)) rfl ?_); refine index_list rfl 61 27 (.tmp 26) (.tmp 27) rfl 64 i (.slice A L.length cp) rfl rfl Tryd.underlying61 HIL.out ((rowV_get V i HIL.out).trans (congrArg some HVI.out)) _ Tryd.underlying27 rfl (by kernel_rfl) ?_)
     rw [← hb]
     rw [show (#[.bool false, .int .i64 0, .int .i64 0, .int .i64 0, .int .i64 0, .int .i64 0, .int .i64 0, .int .i64 0, .bool false, .bool false, .int .i64 0] : Array Value) = zSl.enc.toArray from rfl]
     generalize wr.alloc (.cells zSl.enc.toArray 64) = w1 at hON hOO hOB ⊢
     have HN1 := As hON
     have HO1 := As hOO
     have HB1 := As hOB
     clear hON hOO hOB hb HO HB
     go_wp2_with (fail)
     go_loopg [32] L.length (fun kq v32 w' => ∃ j : Nat, v32 = .int .i64 j ∧ Aside0 (j + kq = L.length) ∧ Aside0 (BlkIs w' b 64 (lastS (L.take j)).enc) ∧ Aside0 (Kd.R k41 41 w' w3.heap.size (fun _ => True) u7 (leasesL l t i)) ∧ Aside0 (Below w3.heap.size w3 w'))
     case atStart => exact ⟨0, rfl, ⟨by omega⟩, HN1, HO1, HB1⟩
     case round =>
      clear HN1 HO1 HB1
      obtain ⟨j, rfl, HJ, HN, HO, HB⟩ := hrel
      cases gk with
      | zero =>
       have d4b0 : decide ((j : Int) < (L.length : Int)) = false := decide_eq_false (by have := HJ.out; omega)
       have d4b1 : decide (j < L.length) = false := decide_eq_false (by have := HJ.out; omega)
       have HN2 : Aside0 (BlkIs wr b 64 (lastS L).enc) := ⟨by
        have := HN.out
        rw [show j = L.length by have := HJ.out; omega, List.take_length] at this
        exact this⟩
       clear HN
       cases hin : (lastS L).inB t with
       | false =>
        have HIN := As hin
        clear hin
        have HNX : Aside0 (Kd.R k41 41 wr w3.heap.size (fun _ => True) u7 (leasesL l t (i + 1))) := ⟨by
         rw [leasesL_succ, show inForce l t i = [] by unfold inForce; rw [← HL.out, HIN.out]; rfl, List.append_nil]
         exact HO.out⟩
        go_wp2_with (go_at_call 32; (with_reducible refine (in0 b (lastS L) t _ HN2.out false HIN.out).mono ?_); rintro e w5 ⟨rfl, rfl⟩)
        go_roundg k1
        case measure => omega
        case rel => exact ⟨i + 1, by simp, ⟨by have := HI.out; omega⟩, HNX, HB⟩
       | true =>
        have HIN := As hin
        clear hin
        obtain ⟨s, hs⟩ : ∃ s, s = lastS L := ⟨_, rfl⟩
        rw [← hs] at HN2 HIN
        have HS := As hs
        clear hs
        have huL := Tryd.underlying41
        have y1 : wr.cell? ⟨b, 1, none⟩ = some (.int .i64 s.l.o) := HN2.out.at_ 1
        have y2 : wr.cell? ⟨b, 2, none⟩ = some (.int .i64 s.l.k) := HN2.out.at_ 2
        have y3 : wr.cell? ⟨b, 3, none⟩ = some (.int .i64 s.l.s) := HN2.out.at_ 3
        have y4 : wr.cell? ⟨b, 4, none⟩ = some (.int .i64 s.l.h) := HN2.out.at_ 4
        have y5 : wr.cell? ⟨b, 5, none⟩ = some (.int .i64 s.l.z) := HN2.out.at_ 5
        have y6 : wr.cell? ⟨b, 6, none⟩ = some (.int .i64 s.l.fr) := HN2.out.at_ 6
        have y7 : wr.cell? ⟨b, 7, none⟩ = some (.int .i64 s.l.un) := HN2.out.at_ 7
        have y8 : wr.cell? ⟨b, 8, none⟩ = some (.bool s.l.rc) := HN2.out.at_ 8
        go_wp2_with (first | (go_at_call 32; (with_reducible refine (in0 b s t _ HN2.out true HIN.out).mono ?_); rintro e w5 ⟨rfl, rfl⟩) | ((with_reducible refine gate_ (.call { callee := .builtin .append, args := #[.tmp 41, .tmp 44], argTypes := #[34, 34] }) rfl ?_); refine Kd.R_append k41 (w0 := w3) w3.heap.size rfl (.tmp 41) (.tmp 44) 34 41 (.agg #[.int .i64 0, .int .i64 0, .int .i64 0, .int .i64 0, .int .i64 0, .int .i64 0, .int .i64 0, .bool false]) 64 rfl Tryd.underlying34 infoL rfl (by decide) (by omega) u7 (leasesL l t i) s.l.rec_ [.int .i64 s.l.o, .int .i64 s.l.k, .int .i64 s.l.s, .int .i64 s.l.h, .int .i64 s.l.z, .int .i64 s.l.fr, .int .i64 s.l.un, .bool s.l.rc] (fun _ => True) (fun _ => False) rfl rfl ?aP (fun _ hk => hk.elim) ?aF ?aO ?aB ?aS ?aL ?_; (case aP => exact k41_mkM _ _ _ s.l.rec_); (case aF => exact fun _ _ => trivial); (case aO => exact HO.out); (case aB => exact HB.out); (case aS => exact HB.out.size); (case aL => have := leasesL_len l t i; have := HIL.out; omega); intro v1 w5 ho hb5 hg5 hat5; have HNX : Aside0 (Kd.R k41 41 w5 w3.heap.size (fun _ => True) v1 (leasesL l t (i + 1))) := ⟨by rw [leasesL_succ, show inForce l t i = [s.l.rec_] by unfold inForce; rw [← HL.out, ← HS.out, HIN.out]; rfl]; exact ho⟩; have HB5 := As hb5; clear ho hb5 hg5 hat5))
        go_roundg k1
        case measure => omega
        case rel => exact ⟨i + 1, by simp, ⟨by have := HI.out; omega⟩, HNX, HB5⟩
      | succ k2 =>
       have hjl : j < L.length := by have := HJ.out; omega
       have d4b0 : decide ((j : Int) < (L.length : Int)) = true := decide_eq_true (by omega)
       have d4b1 : decide (j < L.length) = true := decide_eq_true hjl
       have hj64 : (j : Int) ≤ 9223372036854775806 := by have := HLL.out; omega
       have p1 : 0 ≤ (j : Int) := by omega
       have q1 : (j : Int) < (L.length : Int) := by omega
       obtain ⟨ad, e1, hx0, hx1, hx2, hx3, hx4, hx5, hx6, hx7, hx8, hx9, hx10⟩ := at_T39 HCL.out j p1 q1
       cases e1
       replace hx0 := (HB.out.cell (World.block_lt_of_cell? w3 _ hx0)).trans hx0
       replace hx1 := (HB.out.cell (World.block_lt_of_cell? w3 _ hx1)).trans hx1
       replace hx2 := (HB.out.cell (World.block_lt_of_cell? w3 _ hx2)).trans hx2
       replace hx3 := (HB.out.cell (World.block_lt_of_cell? w3 _ hx3)).trans hx3
       replace hx4 := (HB.out.cell (World.block_lt_of_cell? w3 _ hx4)).trans hx4
       replace hx5 := (HB.out.cell (World.block_lt_of_cell? w3 _ hx5)).trans hx5
       replace hx6 := (HB.out.cell (World.block_lt_of_cell? w3 _ hx6)).trans hx6
       replace hx7 := (HB.out.cell (World.block_lt_of_cell? w3 _ hx7)).trans hx7
       replace hx8 := (HB.out.cell (World.block_lt_of_cell? w3 _ hx8)).trans hx8
       replace hx9 := (HB.out.cell (World.block_lt_of_cell? w3 _ hx9)).trans hx9
       replace hx10 := (HB.out.cell (World.block_lt_of_cell? w3 _ hx10)).trans hx10
       rw [Int.toNat_natCast] at hx0 hx1 hx2 hx3 hx4 hx5 hx6 hx7 hx8 hx9 hx10
       obtain ⟨x, hxe⟩ : ∃ x, x = rd_T39 L (j : Int) := ⟨_, rfl⟩
       rw [← hxe] at hx0 hx1 hx2 hx3 hx4 hx5 hx6 hx7 hx8 hx9 hx10
       have EL : Aside0 (L[j] = x) := ⟨by rw [hxe]; unfold rd_T39; rw [Int.toNat_natCast, List.getD_eq_getElem?_getD, List.getElem?_eq_getElem hjl]; rfl⟩
       have HJL := As hjl
       clear hxe
       have hHN := heap_alloc_new wr (.cells #[.int .i64 x.f0, .int .i64 x.f1, .int .i64 x.f2, .int .i64 x.f3, .int .i64 x.f4, .int .i64 x.f5, .int .i64 x.f6, .int .i64 x.f7, .int .i64 x.f8, .int .i64 x.f9, .int .i64 x.f10] 39)
       have hHS := HN.out.alloc (.cells #[.int .i64 x.f0, .int .i64 x.f1, .int .i64 x.f2, .int .i64 x.f3, .int .i64 x.f4, .int .i64 x.f5, .int .i64 x.f6, .int .i64 x.f7, .int .i64 x.f8, .int .i64 x.f9, .int .i64 x.f10] 39)
       have hHO := Kd.R_below HO.out (below_alloc (Below.refl _ _) (.cells #[.int .i64 x.f0, .int .i64 x.f1, .int .i64 x.f2, .int .i64 x.f3, .int .i64 x.f4, .int .i64 x.f5, .int .i64 x.f6, .int .i64 x.f7, .int .i64 x.f8, .int .i64 x.f9, .int .i64 x.f10] 39))
       have hHB := below_alloc HB.out (.cells #[.int .i64 x.f0, .int .i64 x.f1, .int .i64 x.f2, .int .i64 x.f3, .int .i64 x.f4, .int .i64 x.f5, .int .i64 x.f6, .int .i64 x.f7, .int .i64 x.f8, .int .i64 x.f9, .int .i64 x.f10] 39)
       go_upto_region 14 with (fail)
       generalize wr.alloc (.cells #[.int .i64 x.f0, .int .i64 x.f1, .int .i64 x.f2, .int .i64 x.f3, .int .i64 x.f4, .int .i64 x.f5, .int .i64 x.f6, .int .i64 x.f7, .int .i64 x.f8, .int .i64 x.f9, .int .i64 x.f10] 39) = w4 at hHN hHS hHO hHB ⊢
       have HX4 : Aside0 (BlkIs w4 wr.heap.size 39 [.int .i64 x.f0, .int .i64 x.f1, .int .i64 x.f2, .int .i64 x.f3, .int .i64 x.f4, .int .i64 x.f5, .int .i64 x.f6, .int .i64 x.f7, .int .i64 x.f8, .int .i64 x.f9, .int .i64 x.f10]) := ⟨hHN⟩
       have HN4 := As hHS
       have HO4 := As hHO
       have HB4 := As hHB
       clear hHN hHS hHO hHB hx0 hx1 hx2 hx3 hx4 hx5 hx6 hx7 hx8 hx9 hx10 HN HO HB
       obtain ⟨x0_4, x1_4, x2_4, x3_4, x4_4, x5_4, x6_4, x7_4, x8_4, x9_4, x10_4⟩ := cs11 HX4.out
       go_wp2_with (go_at_call 31; (with_reducible refine (take0 b (lastS (L.take j)) x _ HN4.out).mono ?_); rintro e w5 ⟨rfl, HN5, HG5⟩)
       have HN6 : Aside0 (BlkIs w5 b 64 (lastS (L.take (j + 1))).enc) := ⟨by rw [lastS_succ HJL.out EL.out]; exact HN5.out⟩
       have HO6 : Aside0 (Kd.R k41 41 w5 w3.heap.size (fun _ => True) u7 (leasesL l t i)) := ⟨own_keep HO4.out HG5.out HOL.out⟩
       have HB6 : Aside0 (Below w3.heap.size w3 w5) := ⟨pw_below_grown HB4.out _ HB4.out.size HG5.out (by intro k hk; injection hk with hk; have := HBL.out; omega)⟩
       go_roundg k2
       case measure => omega
       case rel => exact ⟨j + 1, by simp, ⟨by have := HJ.out; omega⟩, HN6, HO6, HB6⟩
 ·rw [if_pos hz] at h
  simp only [Option.some.injEq, Prod.mk.injEq] at h
  obtain ⟨rfl, rfl⟩ := h
  have c0b0 : (r0 == 0) = false := beq_eq_false_iff_ne.mpr hz
  have c0b1 : (r0 != 0) = true := bne_iff_ne.mpr hz
  clear hz
  go_enter Tryd.func13, Tryd.ntmps13
  go_wp2_with ((go_at_call 17; (with_reducible refine (lease_Right.calls A0 c0 l r0 _ HG.out HC.out HCC.out HR.out).mono ?_); rintro e w2 ⟨rfl, hb2⟩; have HB2 := As hb2; clear hb2))
  go_ret2
  exact ⟨_, rfl, Kd.R_nil _ _ _ _ _, by repeat (first | exact HB2.out | apply below_drew1 | apply pw_below_drewN)⟩
end
attribute [local go_sem ↓] some_setCell
attribute [local go_sem high] eqA41
def ref16_Same.l0 : Nat → List (S41) → List (S41) → Int → Int → Option (Bool)
 | 0, _, _, _, _ => none
 | k + 1, x0, x1, x12, x13 => if x13 < x12 then (if 0 ≤ x13 then (if x13 < (x0.length : Int) then (if x13 < (x1.length : Int) then (if (!(((rd_T41 x0 x13).f0) == ((rd_T41 x1 x13).f0)) || (!(((rd_T41 x0 x13).f1) == ((rd_T41 x1 x13).f1)) || (!(((rd_T41 x0 x13).f2) == ((rd_T41 x1 x13).f2)) || (!(((rd_T41 x0 x13).f3) == ((rd_T41 x1 x13).f3)) || (!(((rd_T41 x0 x13).f4) == ((rd_T41 x1 x13).f4)) || (!(((rd_T41 x0 x13).f5) == ((rd_T41 x1 x13).f5)) || (!(((rd_T41 x0 x13).f6) == ((rd_T41 x1 x13).f6)) || (!(((rd_T41 x0 x13).f7) == ((rd_T41 x1 x13).f7)))))))))) = true then (some false) else (ref16_Same.l0 k x0 x1 x12 (wrap64 (x13 + 1)))) else (none)) else (none)) else (none)) else (some true)
def ref16_Same.f (k : Nat) (l0 : List (S41)) (l1 : List (S41)) : Option (Bool) := if (l0.length : Int) = (l1.length : Int) then (ref16_Same.l0 k l0 l1 (l0.length : Int) 0) else (some false)
set_option maxHeartbeats 8000000 in
set_option maxRecDepth 100000 in
theorem ref16_Same.calls (k : Nat) (A0 : Option Addr) (c0 : Nat) (l0 : List (S41)) (A1 : Option Addr) (c1 : Nat) (l1 : List (S41)) (r : Bool) (w : World) (hr0 : Kd.C k41 w A0 l0.length l0) (hc0 : l0.length ≤ c0) (hr1 : Kd.C k41 w A1 l1.length l1) (hc1 : l1.length ≤ c1) (h : ref16_Same.f k l0 l1 = some r) :
 Calls Tryd.prog 14 #[.slice A0 l0.length c0, .slice A1 l1.length c1] w fun e w' => e = .returned (.bool r) ∧ Drawn0 w w' := by
 have hu41 := Tryd.underlying41; have HR0 := As hr0; have HC0 := As hc0; clear hr0 hc0; have HR1 := As hr1; have HC1 := As hc1; clear hr1 hc1; have H : (if (l0.length : Int) = (l1.length : Int) then (ref16_Same.l0 k l0 l1 (l0.length : Int) 0) else (some false)) = some r := h; clear h
 by_cases c3 : (l0.length : Int) = (l1.length : Int)
 ·rw [if_pos c3] at H
  have c3b0 : ((l0.length : Int) == (l1.length : Int)) = true := beq_iff_eq.mpr c3; have c3b1 : ((l0.length : Int) != (l1.length : Int)) = false := bne_eq_false_iff_eq.mpr c3; (have c3b2 : (l0.length == l1.length) = true := by first | simpa using c3 | (simp at c3 ⊢; omega)); clear c3; have H' := As H; clear H; go_enter Tryd.func14, Tryd.ntmps14; go_wp2; (repeat (go_quiet (fail); try go_wp2)); go_loopg [13] k (fun kq v13 w' => ∃ (x13_1 : Int), v13 = .int .i64 x13_1 ∧ Aside0 (ref16_Same.l0 kq l0 l1 (l0.length : Int) x13_1 = some r) ∧ Aside0 (kq ≤ k) ∧ Drawn0 w w')
  case atStart => exact ⟨(0), (by first | rfl | (simp; done) | (simp [*]; done)), H', ⟨Nat.le_refl _⟩, by repeat (first | exact Drawn0.refl _ | apply Drawn0.step)⟩
  case round =>
   clear H'; (try clear c1); (try clear p2); (try clear c3); (try clear c3b0); (try clear c3b1); (try clear c3b2); obtain ⟨x13_1, rfl, HA, HK1, ⟨m1, rfl⟩⟩ := hrel
   cases gk with
   | zero => exact absurd HA.out (by simp [ref16_Same.l0])
   | succ k1 =>
    have H := HA.out; clear HA; simp only [ref16_Same.l0] at H
    by_cases c4 : x13_1 < (l0.length : Int)
    ·rw [if_pos c4] at H
     have c4b0 : decide (x13_1 < (l0.length : Int)) = true := decide_eq_true c4; clear c4
     by_cases c5 : 0 ≤ x13_1
     ·rw [if_pos c5] at H
      have c5b0 : decide (0 ≤ x13_1) = true := decide_eq_true c5; clear c5
      by_cases c6 : x13_1 < (l0.length : Int)
      ·rw [if_pos c6] at H
       have c6b0 : decide (x13_1 < (l0.length : Int)) = true := decide_eq_true c6; clear c6
       by_cases c7 : x13_1 < (l1.length : Int)
       ·rw [if_pos c7] at H
        have c7b0 : decide (x13_1 < (l1.length : Int)) = true := decide_eq_true c7; clear c7
        by_cases c8 : (!(((rd_T41 l0 x13_1).f0) == ((rd_T41 l1 x13_1).f0)) || (!(((rd_T41 l0 x13_1).f1) == ((rd_T41 l1 x13_1).f1)) || (!(((rd_T41 l0 x13_1).f2) == ((rd_T41 l1 x13_1).f2)) || (!(((rd_T41 l0 x13_1).f3) == ((rd_T41 l1 x13_1).f3)) || (!(((rd_T41 l0 x13_1).f4) == ((rd_T41 l1 x13_1).f4)) || (!(((rd_T41 l0 x13_1).f5) == ((rd_T41 l1 x13_1).f5)) || (!(((rd_T41 l0 x13_1).f6) == ((rd_T41 l1 x13_1).f6)) || (!(((rd_T41 l0 x13_1).f7) == ((rd_T41 l1 x13_1).f7)))))))))) = true
        ·rw [if_pos c8] at H
         have c8b0 : (!(((rd_T41 l0 x13_1).f0) == ((rd_T41 l1 x13_1).f0)) || (!(((rd_T41 l0 x13_1).f1) == ((rd_T41 l1 x13_1).f1)) || (!(((rd_T41 l0 x13_1).f2) == ((rd_T41 l1 x13_1).f2)) || (!(((rd_T41 l0 x13_1).f3) == ((rd_T41 l1 x13_1).f3)) || (!(((rd_T41 l0 x13_1).f4) == ((rd_T41 l1 x13_1).f4)) || (!(((rd_T41 l0 x13_1).f5) == ((rd_T41 l1 x13_1).f5)) || (!(((rd_T41 l0 x13_1).f6) == ((rd_T41 l1 x13_1).f6)) || (!(((rd_T41 l0 x13_1).f7) == ((rd_T41 l1 x13_1).f7)))))))))) = true := c8; clear c8; obtain rfl := Option.some.inj H; have p483 : 0 ≤ (x13_1 : Int) := of_decide_eq_true (by first | (with_reducible assumption) | assumption); have q483 : x13_1 < (l0.length : Int) := of_decide_eq_true (by first | (with_reducible assumption) | assumption); obtain ⟨ad483, e483, hx483_0, hx483_1, hx483_2, hx483_3, hx483_4, hx483_5, hx483_6, hx483_7⟩ := at_T41 HR0.out x13_1 p483 q483; cases e483; replace p483 := eq_true p483; replace q483 := eq_true q483; have p484 : 0 ≤ (x13_1 : Int) := of_decide_eq_true (by first | (with_reducible assumption) | assumption); have q484 : x13_1 < (l1.length : Int) := of_decide_eq_true (by first | (with_reducible assumption) | assumption); obtain ⟨ad484, e484, hx484_0, hx484_1, hx484_2, hx484_3, hx484_4, hx484_5, hx484_6, hx484_7⟩ := at_T41 HR1.out x13_1 p484 q484; cases e484; replace p484 := eq_true p484; replace q484 := eq_true q484; go_wp2; (repeat (go_quiet (fail); try go_wp2)); go_ret
         exact ⟨by first | rfl | (simp; done) | (simp [*]; done), by repeat (first | exact Drawn0.refl _ | apply Drawn0.step)⟩
        ·rw [if_neg c8] at H
         (have c8b0 : (!(((rd_T41 l0 x13_1).f0) == ((rd_T41 l1 x13_1).f0)) || (!(((rd_T41 l0 x13_1).f1) == ((rd_T41 l1 x13_1).f1)) || (!(((rd_T41 l0 x13_1).f2) == ((rd_T41 l1 x13_1).f2)) || (!(((rd_T41 l0 x13_1).f3) == ((rd_T41 l1 x13_1).f3)) || (!(((rd_T41 l0 x13_1).f4) == ((rd_T41 l1 x13_1).f4)) || (!(((rd_T41 l0 x13_1).f5) == ((rd_T41 l1 x13_1).f5)) || (!(((rd_T41 l0 x13_1).f6) == ((rd_T41 l1 x13_1).f6)) || (!(((rd_T41 l0 x13_1).f7) == ((rd_T41 l1 x13_1).f7)))))))))) = false := by simpa using c8); clear c8; have H' := As H; clear H; have p483 : 0 ≤ (x13_1 : Int) := of_decide_eq_true (by first | (with_reducible assumption) | assumption); have q483 : x13_1 < (l0.length : Int) := of_decide_eq_true (by first | (with_reducible assumption) | assumption); obtain ⟨ad483, e483, hx483_0, hx483_1, hx483_2, hx483_3, hx483_4, hx483_5, hx483_6, hx483_7⟩ := at_T41 HR0.out x13_1 p483 q483; cases e483; replace p483 := eq_true p483; replace q483 := eq_true q483; have p484 : 0 ≤ (x13_1 : Int) := of_decide_eq_true (by first | (with_reducible assumption) | assumption); have q484 : x13_1 < (l1.length : Int) := of_decide_eq_true (by first | (with_reducible assumption) | assumption); obtain ⟨ad484, e484, hx484_0, hx484_1, hx484_2, hx484_3, hx484_4, hx484_5, hx484_6, hx484_7⟩ := at_T41 HR1.out x13_1 p484 q484; cases e484; replace p484 := eq_true p484; replace q484 := eq_true q484; go_wp2; (repeat (go_quiet (fail); try go_wp2)); go_roundg k1
         case measure => have := HK1.out; omega
         case rel => exact ⟨(wrap64 (x13_1 + 1)), (by first | rfl | (simp; done) | (simp [*]; done)), H', ⟨by have := HK1.out; omega⟩, by repeat (first | exact Drawn0.refl _ | apply Drawn0.step)⟩
       ·rw [if_neg c7] at H
        exact absurd H (by simp)
      ·rw [if_neg c6] at H
       exact absurd H (by simp)
     ·rw [if_neg c5] at H
      exact absurd H (by simp)
    ·rw [if_neg c4] at H
     have c4b0 : decide (x13_1 < (l0.length : Int)) = false := decide_eq_false c4; clear c4; obtain rfl := Option.some.inj H; go_wp2; (repeat (go_quiet (fail); try go_wp2)); go_ret; exact ⟨by first | rfl | (simp; done) | (simp [*]; done), by repeat (first | exact Drawn0.refl _ | apply Drawn0.step)⟩
 ·rw [if_neg c3] at H
  have c3b0 : ((l0.length : Int) == (l1.length : Int)) = false := beq_eq_false_iff_ne.mpr c3; have c3b1 : ((l0.length : Int) != (l1.length : Int)) = true := bne_iff_ne.mpr c3; (have c3b2 : (l0.length == l1.length) = false := by first | simpa using c3 | (simp at c3 ⊢; omega)); obtain rfl := Option.some.inj H; go_enter Tryd.func14, Tryd.ntmps14; go_wp2; (repeat (go_quiet (fail); try go_wp2)); go_ret; exact ⟨by first | rfl | (simp; done) | (simp [*]; done), by repeat (first | exact Drawn0.refl _ | apply Drawn0.step)⟩
def ref15_Bytes.l0 : Nat → ByteArray → List Int → Int → Int → Option (ByteArray)
 | 0, _, _, _, _ => none
 | k + 1, x3, x26, x27, x28 => if x28 < x27 then (if 0 ≤ x28 then (if x28 < (x26.length : Int) then ((ref01_PutInt.f k x3 (rd x26 x28)).bind fun t248 => (ref15_Bytes.l0 k t248 x26 x27 (wrap64 (x28 + 1)))) else (none)) else (none)) else (some x3)
def ref15_Bytes.f (k : Nat) (a0_0 : Int) (a0_1 : Int) (a0_2 : Int) (a0_3 : Int) (a0_4 : Int) (a0_5 : Int) (a0_6 : Int) (a0_7 : Int) (a0_8 : Int) (a0_9 : Int) (a0_10 : Int) : Option (ByteArray) := (some (([a0_0, a0_1, a0_2, a0_3, a0_4, a0_5, a0_6, a0_7, a0_8, a0_9] : List Int) : List Int)).bind fun y244 => (ref15_Bytes.l0 k (⟨#[]⟩ : ByteArray) y244 (y244.length : Int) 0)
set_option maxHeartbeats 8000000 in
set_option maxRecDepth 100000 in
theorem ref15_Bytes.calls (k : Nat) (a0_0 : Int) (a0_1 : Int) (a0_2 : Int) (a0_3 : Int) (a0_4 : Int) (a0_5 : Int) (a0_6 : Int) (a0_7 : Int) (a0_8 : Int) (a0_9 : Int) (a0_10 : Int) (r : ByteArray) (w : World) (h : ref15_Bytes.f k a0_0 a0_1 a0_2 a0_3 a0_4 a0_5 a0_6 a0_7 a0_8 a0_9 a0_10 = some r) :
 Calls Tryd.prog 52 #[.agg #[.int .i64 a0_0, .int .i64 a0_1, .int .i64 a0_2, .int .i64 a0_3, .int .i64 a0_4, .int .i64 a0_5, .int .i64 a0_6, .int .i64 a0_7, .int .i64 a0_8, .int .i64 a0_9, .int .i64 a0_10]] w fun e w' => e = .returned (.string r) ∧ Below w.heap.size w w' := by
 have hu39 := Tryd.underlying39; have HB := As (Below.refl w.heap.size w); have H : ((some (([a0_0, a0_1, a0_2, a0_3, a0_4, a0_5, a0_6, a0_7, a0_8, a0_9] : List Int) : List Int)).bind fun y244 => (ref15_Bytes.l0 k (⟨#[]⟩ : ByteArray) y244 (y244.length : Int) 0)) = some r := h; clear h; obtain ⟨y244, hy244⟩ : ∃ y_ : List Int, y_ = (([a0_0, a0_1, a0_2, a0_3, a0_4, a0_5, a0_6, a0_7, a0_8, a0_9] : List Int)) := ⟨_, rfl⟩; (replace H : (ref15_Bytes.l0 k (⟨#[]⟩ : ByteArray) y244 (y244.length : Int) 0) = some r := by first | (rw [hy244]; with_reducible exact H) | (have H2_ := (Option.bind_some _ _).symm.trans H; rw [hy244]; with_reducible exact H2_) | (have H2_ := (Option.bind_some _ _).symm.trans H; with_reducible exact H2_) | with_reducible exact H | (rw [hy244]; exact H) | exact H); have Ny244 := As hy244; clear hy244; have H' := As H; clear H; go_enter Tryd.func52, Tryd.ntmps52
 go_wp2_with (first | ((with_reducible refine gate_dst (N := 1) rfl ?_); refine box_event ?hg (N := 1) ?hd (cs := #[.int .i64 a0_0, .int .i64 a0_1, .int .i64 a0_2, .int .i64 a0_3, .int .i64 a0_4, .int .i64 a0_5, .int .i64 a0_6, .int .i64 a0_7, .int .i64 a0_8, .int .i64 a0_9, .int .i64 a0_10]) (t := 39) ?hr ?_; (case hd => rfl); (case hg => rfl); (case hr => first | (go_simp; done) | (go_simp; rfl)); intro gb243 hg w2 hbox hb; have BK243 := As (hbox); have GW243 := As (by rw [hg]; exact (below_size hBq) : w.heap.size ≤ gb243); replace HB := sBq hb; have GE243 := GW243; clear hb hbox hg; obtain ⟨hcz3_0, hcz3_1, hcz3_2, hcz3_3, hcz3_4, hcz3_5, hcz3_6, hcz3_7, hcz3_8, hcz3_9, hcz3_10, hfz3_0, hfz3_1, hfz3_2, hfz3_3, hfz3_4, hfz3_5, hfz3_6, hfz3_7, hfz3_8, hfz3_9, hfz3_10⟩ := cf11 BK243.out) | ((with_reducible refine gate_dst (N := 26) rfl ?_); refine Kd.R_lit (Kd.int .i64) _ 3 ?hg (N := 26) ?hd (xs := ([a0_0, a0_1, a0_2, a0_3, a0_4, a0_5, a0_6, a0_7, a0_8, a0_9] : List Int)) (inner := [.int .i64 a0_0, .int .i64 a0_1, .int .i64 a0_2, .int .i64 a0_3, .int .i64 a0_4, .int .i64 a0_5, .int .i64 a0_6, .int .i64 a0_7, .int .i64 a0_8, .int .i64 a0_9]) (ok := fun _ => True) (okp := fun _ => True) ?hr ?hp (fun _ hk => hk) trivial (Below.refl _ _) (Nat.le_refl _) (by simp) ?_; (case hd => rfl); (case hg => rfl); (case hr => first | (go_simp; done) | (go_simp; rfl)); (case hp => exact (Reps.one (show Kd.M (Kd.int .i64) _ _ _ a0_0 [.int .i64 a0_0] from rfl) (Reps.one (show Kd.M (Kd.int .i64) _ _ _ a0_1 [.int .i64 a0_1] from rfl) (Reps.one (show Kd.M (Kd.int .i64) _ _ _ a0_2 [.int .i64 a0_2] from rfl) (Reps.one (show Kd.M (Kd.int .i64) _ _ _ a0_3 [.int .i64 a0_3] from rfl) (Reps.one (show Kd.M (Kd.int .i64) _ _ _ a0_4 [.int .i64 a0_4] from rfl) (Reps.one (show Kd.M (Kd.int .i64) _ _ _ a0_5 [.int .i64 a0_5] from rfl) (Reps.one (show Kd.M (Kd.int .i64) _ _ _ a0_6 [.int .i64 a0_6] from rfl) (Reps.one (show Kd.M (Kd.int .i64) _ _ _ a0_7 [.int .i64 a0_7] from rfl) (Reps.one (show Kd.M (Kd.int .i64) _ _ _ a0_8 [.int .i64 a0_8] from rfl) (Reps.one (show Kd.M (Kd.int .i64) _ _ _ a0_9 [.int .i64 a0_9] from rfl) (Reps.none _ _)))))))))))); intro v245 w4 ho5 hb hg_ hnew_; clear hg_ hnew_; (first | rw [← Ny244.out] at ho5 | (simp only [Int.reduceToNat] at ho5; rw [← Ny244.out] at ho5)); have HO246 := As (Kd.R_lower ho5 (below_size hBq)); replace BK243 := As (blk_below (g := gb243) (plq BK243.out) hb); replace HB := sBq hb; clear hb ho5; obtain ⟨Ao6, co6, eo6⟩ := Kd.R_slice HO246.out; subst eo6))
 go_loopg [3, 28] k (fun kq v3 v28 w' => ∃ (x3_1 : ByteArray) (x28_1 : Int), v3 = .string x3_1 ∧ v28 = .int .i64 x28_1 ∧ Aside0 (ref15_Bytes.l0 kq x3_1 y244 (y244.length : Int) x28_1 = some r) ∧ Aside0 (kq ≤ k) ∧ Aside0 (Kd.R (Kd.int .i64) 3 w' w.heap.size (fun _ => True) (.slice Ao6 y244.length co6) y244) ∧ Aside0 (w'.heap[gb243]? = some (.cells #[.int .i64 a0_0, .int .i64 a0_1, .int .i64 a0_2, .int .i64 a0_3, .int .i64 a0_4, .int .i64 a0_5, .int .i64 a0_6, .int .i64 a0_7, .int .i64 a0_8, .int .i64 a0_9, .int .i64 a0_10] 39 (0, 0))) ∧ Aside0 (Below w.heap.size w w'))
 case atStart => exact ⟨((⟨#[]⟩ : ByteArray)), (0), (by first | rfl | (simp; done) | (simp [*]; done)), (by first | rfl | (simp; done) | (simp [*]; done)), H', ⟨Nat.le_refl _⟩, ⟨by (with_reducible repeat (first | apply Kd.R_alloc | apply Kd.R_drewN | apply Kd.R_drew)); exact HO246.out⟩, ⟨by (with_reducible repeat (first | apply bN | apply bD | apply bA)); exact BK243.out⟩, ⟨hBq⟩⟩
 case round =>
  clear H'; (try clear p2); (try clear c5); (try clear hcz3_0 hcz3_1 hcz3_10 hcz3_2 hcz3_3 hcz3_4 hcz3_5 hcz3_6 hcz3_7 hcz3_8 hcz3_9); (try clear hfz3_0 hfz3_1 hfz3_10 hfz3_2 hfz3_3 hfz3_4 hfz3_5 hfz3_6 hfz3_7 hfz3_8 hfz3_9); obtain ⟨x3_1, x28_1, rfl, rfl, HA, HK1, HO_26, BK243, HB⟩ := hrel
  cases gk with
  | zero => exact absurd HA.out (by simp [ref15_Bytes.l0])
  | succ k1 =>
   have H := HA.out; clear HA; simp only [ref15_Bytes.l0] at H
   by_cases c7 : x28_1 < (y244.length : Int)
   ·rw [if_pos c7] at H
    have c7b0 : decide (x28_1 < (y244.length : Int)) = true := decide_eq_true c7; clear c7
    by_cases c8 : 0 ≤ x28_1
    ·rw [if_pos c8] at H
     have c8b0 : decide (0 ≤ x28_1) = true := decide_eq_true c8; clear c8
     by_cases c9 : x28_1 < (y244.length : Int)
     ·rw [if_pos c9] at H
      have c9b0 : decide (x28_1 < (y244.length : Int)) = true := decide_eq_true c9; clear c9; replace H := Option.bind_eq_some_iff.mp H; obtain ⟨t248, A100, H⟩ := H; (try dsimp only at H); have A10 := As A100; clear A100; have H' := As H; clear H; have p247 : 0 ≤ (x28_1 : Int) := of_decide_eq_true (by first | (with_reducible assumption) | assumption); have q247 : x28_1 < (y244.length : Int) := of_decide_eq_true (by first | (with_reducible assumption) | assumption); obtain ⟨ad247, e247, hx247_0⟩ := Kd.at_int (Kd.R_reads' HO_26.out).2.2 x28_1 p247 q247; cases e247; replace p247 := eq_true p247; replace q247 := eq_true q247
      go_wp2_with (first | ((with_reducible refine gate_callee (f := 55) rfl ?_); refine goesL_ (some 34) rfl rfl Tryd.func55 (by kernel_rfl) rfl #[.string x3_1, .int .i64 (rd y244 x28_1)] rfl (by (try simp only [m1, m2, m3]); first | done | rfl | (simp only [m4, m5]; rfl)) ?_; (with_reducible refine (ref01_PutInt.calls k1 x3_1 (rd y244 x28_1) t248 _ A10.out).mono ?_); rintro e w11 ⟨rfl, hb⟩; refine ⟨_, rfl, ?_⟩; replace HO_26 := As (Kd.R_below (by (with_reducible repeat (first | apply Kd.R_alloc | apply Kd.R_drewN | apply Kd.R_drew)); exact HO_26.out) hb); replace BK243 := As (blk_below (g := gb243) (plq BK243.out) hb); replace HB := sBq hb; (try clear hb); (try clear hb2); (try clear hk); (try clear hi))); go_roundg k1
      case measure => have := HK1.out; omega
      case rel => exact ⟨(t248), (wrap64 (x28_1 + 1)), (by first | rfl | (simp; done) | (simp [*]; done)), (by first | rfl | (simp; done) | (simp [*]; done)), H', ⟨by have := HK1.out; omega⟩, ⟨by (with_reducible repeat (first | apply Kd.R_alloc | apply Kd.R_drewN | apply Kd.R_drew)); exact HO_26.out⟩, ⟨by (with_reducible repeat (first | apply bN | apply bD | apply bA)); exact BK243.out⟩, ⟨hBq⟩⟩
     ·rw [if_neg c9] at H
      exact absurd H (by simp)
    ·rw [if_neg c8] at H
     exact absurd H (by simp)
   ·rw [if_neg c7] at H
    have c7b0 : decide (x28_1 < (y244.length : Int)) = false := decide_eq_false c7; clear c7; obtain rfl := Option.some.inj H; go_wp2; go_ret; exact ⟨erq, hBq⟩
mutual
def ref16_Until.l0 : Nat → Int → Int → List (List (S39)) → Int → Int → Option (Int)
 | 0, _, _, _, _, _ => none
 | k + 1, x1, x5, x10, x11, x12 => if x12 < x11 then (if 0 ≤ x12 then (if x12 < (x10.length : Int) then (ref16_Until.l1 k x1 x5 x10 x11 x12 (rd_L2 x10 x12) ((rd_L2 x10 x12).length : Int) 0) else (none)) else (none)) else (some x5)
def ref16_Until.l1 : Nat → Int → Int → List (List (S39)) → Int → Int → List (S39) → Int → Int → Option (Int)
 | 0, _, _, _, _, _, _, _, _ => none
 | k + 1, x1, x5, x10, x11, x12, x16, x17, x18 => if x18 < x17 then (if 0 ≤ x18 then (if x18 < (x16.length : Int) then ((ref16_term.f k ((rd_T39 x16 x18).f0) ((rd_T39 x16 x18).f1) ((rd_T39 x16 x18).f2) ((rd_T39 x16 x18).f3) ((rd_T39 x16 x18).f4) ((rd_T39 x16 x18).f5) ((rd_T39 x16 x18).f6) ((rd_T39 x16 x18).f7) ((rd_T39 x16 x18).f8) ((rd_T39 x16 x18).f9) ((rd_T39 x16 x18).f10)).bind fun t235 => (if t235 = true then (if ((rd_T39 x16 x18).f6) = x1 then (ref16_Until.l1 k x1 (mx x5 ((rd_T39 x16 x18).f9)) x10 x11 x12 x16 x17 (wrap64 (x18 + 1))) else (ref16_Until.l1 k x1 x5 x10 x11 x12 x16 x17 (wrap64 (x18 + 1)))) else (ref16_Until.l1 k x1 x5 x10 x11 x12 x16 x17 (wrap64 (x18 + 1))))) else (none)) else (none)) else (ref16_Until.l0 k x1 x5 x10 x11 (wrap64 (x12 + 1)))
end
def ref16_Until.f (k : Nat) (l0 : List (List (S39))) (a1 : Int) : Option (Int) := ref16_Until.l0 k a1 (-1) l0 (l0.length : Int) 0
set_option maxHeartbeats 8000000 in
set_option maxRecDepth 100000 in
theorem ref16_Until.calls (k : Nat) (A0 : Option Addr) (c0 : Nat) (l0 : List (List (S39))) (a1 : Int) (r : Int) (w : World) (hr0 : Kd.C (Kd.slice 39 k39) w A0 l0.length l0) (hc0 : l0.length ≤ c0) (h : ref16_Until.f k l0 a1 = some r) :
 Calls Tryd.prog 27 #[.slice A0 l0.length c0, .int .i64 a1] w fun e w' => e = .returned (.int .i64 r) ∧ Below w.heap.size w w' := by
 have hu39 := Tryd.underlying39; have HR0 := As hr0; have HC0 := As hc0; clear hr0 hc0; have HB := As (Below.refl w.heap.size w); have H : (ref16_Until.l0 k a1 (-1) l0 (l0.length : Int) 0) = some r := h; clear h; have H' := As H; clear H; go_enter Tryd.func27, Tryd.ntmps27; go_wp2; go_loopg [5, 12] k (fun kq v5 v12 w' => ∃ (x5_1 : Int) (x12_1 : Int), v5 = .int .i64 x5_1 ∧ v12 = .int .i64 x12_1 ∧ Aside0 (ref16_Until.l0 kq a1 x5_1 l0 (l0.length : Int) x12_1 = some r) ∧ Aside0 (kq ≤ k) ∧ Aside0 (Below w.heap.size w w'))
 case atStart => exact ⟨((-1)), (0), (by first | rfl | (simp; done) | (simp [*]; done)), (by first | rfl | (simp; done) | (simp [*]; done)), H', ⟨Nat.le_refl _⟩, ⟨hBq⟩⟩
 case round =>
  clear H'; (try clear c2); (try clear p2); obtain ⟨x5_1, x12_1, rfl, rfl, HA, HK1, HB⟩ := hrel
  cases gk with
  | zero => exact absurd HA.out (by simp [ref16_Until.l0])
  | succ k1 =>
   have H := HA.out; clear HA; simp only [ref16_Until.l0] at H
   by_cases c3 : x12_1 < (l0.length : Int)
   ·rw [if_pos c3] at H
    have c3b0 : decide (x12_1 < (l0.length : Int)) = true := decide_eq_true c3; clear c3
    by_cases c4 : 0 ≤ x12_1
    ·rw [if_pos c4] at H
     have c4b0 : decide (0 ≤ x12_1) = true := decide_eq_true c4; clear c4
     by_cases c5 : x12_1 < (l0.length : Int)
     ·rw [if_pos c5] at H
      have c5b0 : decide (x12_1 < (l0.length : Int)) = true := decide_eq_true c5; clear c5; have H' := As H; clear H; have p232 : 0 ≤ (x12_1 : Int) := of_decide_eq_true (by first | (with_reducible assumption) | assumption); have q232 : x12_1 < (l0.length : Int) := of_decide_eq_true (by first | (with_reducible assumption) | assumption); obtain ⟨ad232, A232_0, c232_0, e232, hx232_0, hl232_0, hi232_0⟩ := at_L2 HR0.out x12_1 p232 q232; cases e232; replace hx232_0 := (HB.out.cell (World.block_lt_of_cell? w _ hx232_0)).trans hx232_0; have HR232_0 := As hi232_0; have HC232_0 := As hl232_0; clear hi232_0 hl232_0; replace p232 := eq_true p232; replace q232 := eq_true q232; go_wp2; go_loopg [5, 18] k1 (fun kq v5 v18 w' => ∃ (x5_2 : Int) (x18_2 : Int), v5 = .int .i64 x5_2 ∧ v18 = .int .i64 x18_2 ∧ Aside0 (ref16_Until.l1 kq a1 x5_2 l0 (l0.length : Int) x12_1 (rd_L2 l0 x12_1) ((rd_L2 l0 x12_1).length : Int) x18_2 = some r) ∧ Aside0 (kq ≤ k1) ∧ Aside0 (Below w.heap.size w w'))
      case atStart => exact ⟨(x5_1), (0), (by first | rfl | (simp; done) | (simp [*]; done)), (by first | rfl | (simp; done) | (simp [*]; done)), H', ⟨Nat.le_refl _⟩, ⟨hBq⟩⟩
      case round =>
       clear H'; (try clear c2); (try clear p2); (try clear q2); (try clear hx2); (try clear c3); (try clear c3b0); (try clear c4); (try clear c4b0); (try clear c5); (try clear c5b0); (try clear hx232_0); (try clear p2); (try clear p232); (try clear q232); obtain ⟨x5_2, x18_2, rfl, rfl, HA, HK2, HB⟩ := hrel
       cases gk with
       | zero => exact absurd HA.out (by simp [ref16_Until.l1])
       | succ k2 =>
        have H := HA.out; clear HA; simp only [ref16_Until.l1] at H
        by_cases c6 : x18_2 < ((rd_L2 l0 x12_1).length : Int)
        ·rw [if_pos c6] at H
         have c6b0 : decide (x18_2 < ((rd_L2 l0 x12_1).length : Int)) = true := decide_eq_true c6; clear c6
         by_cases c7 : 0 ≤ x18_2
         ·rw [if_pos c7] at H
          have c7b0 : decide (0 ≤ x18_2) = true := decide_eq_true c7; clear c7
          by_cases c8 : x18_2 < ((rd_L2 l0 x12_1).length : Int)
          ·rw [if_pos c8] at H
           have c8b0 : decide (x18_2 < ((rd_L2 l0 x12_1).length : Int)) = true := decide_eq_true c8; clear c8; replace H := Option.bind_eq_some_iff.mp H; obtain ⟨t235, A90, H⟩ := H; (try dsimp only at H); have A9 := As A90; clear A90
           by_cases c10 : t235 = true
           ·subst c10
            rw [if_pos rfl] at H
            by_cases c11 : ((rd_T39 (rd_L2 l0 x12_1) x18_2).f6) = a1
            ·rw [if_pos c11] at H
             have c11b0 : (((rd_T39 (rd_L2 l0 x12_1) x18_2).f6) == a1) = true := beq_iff_eq.mpr c11; have c11b1 : (((rd_T39 (rd_L2 l0 x12_1) x18_2).f6) != a1) = false := bne_eq_false_iff_eq.mpr c11; clear c11; obtain ⟨ji12, hji12⟩ : ∃ j_ : Int, (mx x5_2 ((rd_T39 (rd_L2 l0 x12_1) x18_2).f9)) = j_ := ⟨_, rfl⟩; (replace H : (ref16_Until.l1 k2 a1 ji12 l0 (l0.length : Int) x12_1 (rd_L2 l0 x12_1) ((rd_L2 l0 x12_1).length : Int) (wrap64 (x18_2 + 1))) = some r := by first | (rw [hji12] at H; exact H) | (simp only [hji12] at H ⊢; exact H)); (try rw [hji12] at A9); have hji12_ : (if x5_2 < ((rd_T39 (rd_L2 l0 x12_1) x18_2).f9) then ((rd_T39 (rd_L2 l0 x12_1) x18_2).f9) else x5_2) = ji12 := hji12; have H' := As H; clear H; have p233 : 0 ≤ (x18_2 : Int) := of_decide_eq_true (by first | (with_reducible assumption) | assumption); have q233 : x18_2 < ((rd_L2 l0 x12_1).length : Int) := of_decide_eq_true (by first | (with_reducible assumption) | assumption); obtain ⟨ad233, e233, hx233_0, hx233_1, hx233_2, hx233_3, hx233_4, hx233_5, hx233_6, hx233_7, hx233_8, hx233_9, hx233_10⟩ := at_T39 (Kd.C_below HR232_0.out HB.out) x18_2 p233 q233; cases e233; replace p233 := eq_true p233; replace q233 := eq_true q233
             go_wp2_with (first | ((with_reducible refine gate_dst (N := 9) rfl ?_); refine box_event ?hg (N := 9) ?hd (cs := #[.int .i64 0, .int .i64 0, .int .i64 0, .int .i64 0, .int .i64 0, .int .i64 0, .int .i64 0, .int .i64 0, .int .i64 0, .int .i64 0, .int .i64 0]) (t := 39) ?hr ?_; (case hd => rfl); (case hg => rfl); (case hr => first | (go_simp; done) | (go_simp; rfl)); intro gb234 hg w13 hbox hb; have BK234 := As (hbox); have GW234 := As (by rw [hg]; exact (below_size hBq) : w.heap.size ≤ gb234); replace HB := sBq hb; have GE234 := GW234; clear hb hbox hg; obtain ⟨hcz14_0, hcz14_1, hcz14_2, hcz14_3, hcz14_4, hcz14_5, hcz14_6, hcz14_7, hcz14_8, hcz14_9, hcz14_10, hfz14_0, hfz14_1, hfz14_2, hfz14_3, hfz14_4, hfz14_5, hfz14_6, hfz14_7, hfz14_8, hfz14_9, hfz14_10⟩ := cf11 BK234.out) | ((with_reducible refine gate_callee (f := 43) rfl ?_); refine goesL_ (some 23) rfl rfl Tryd.func43 (by kernel_rfl) rfl #[.agg #[.int .i64 ((rd_T39 (rd_L2 l0 x12_1) x18_2).f0), .int .i64 ((rd_T39 (rd_L2 l0 x12_1) x18_2).f1), .int .i64 ((rd_T39 (rd_L2 l0 x12_1) x18_2).f2), .int .i64 ((rd_T39 (rd_L2 l0 x12_1) x18_2).f3), .int .i64 ((rd_T39 (rd_L2 l0 x12_1) x18_2).f4), .int .i64 ((rd_T39 (rd_L2 l0 x12_1) x18_2).f5), .int .i64 ((rd_T39 (rd_L2 l0 x12_1) x18_2).f6), .int .i64 ((rd_T39 (rd_L2 l0 x12_1) x18_2).f7), .int .i64 ((rd_T39 (rd_L2 l0 x12_1) x18_2).f8), .int .i64 ((rd_T39 (rd_L2 l0 x12_1) x18_2).f9), .int .i64 ((rd_T39 (rd_L2 l0 x12_1) x18_2).f10)]] rfl (by (try simp only [m1, m2, m3]); first | done | rfl | (simp only [m4, m5]; rfl)) ?_; (with_reducible refine (ref16_term.calls k2 ((rd_T39 (rd_L2 l0 x12_1) x18_2).f0) ((rd_T39 (rd_L2 l0 x12_1) x18_2).f1) ((rd_T39 (rd_L2 l0 x12_1) x18_2).f2) ((rd_T39 (rd_L2 l0 x12_1) x18_2).f3) ((rd_T39 (rd_L2 l0 x12_1) x18_2).f4) ((rd_T39 (rd_L2 l0 x12_1) x18_2).f5) ((rd_T39 (rd_L2 l0 x12_1) x18_2).f6) ((rd_T39 (rd_L2 l0 x12_1) x18_2).f7) ((rd_T39 (rd_L2 l0 x12_1) x18_2).f8) ((rd_T39 (rd_L2 l0 x12_1) x18_2).f9) ((rd_T39 (rd_L2 l0 x12_1) x18_2).f10) true _ A9.out).mono ?_); rintro e w15 ⟨rfl, hb⟩; refine ⟨_, rfl, ?_⟩; replace BK234 := As (blk_below (g := gb234) (o := .cells #[.int .i64 ((rd_T39 (rd_L2 l0 x12_1) x18_2).f0), .int .i64 ((rd_T39 (rd_L2 l0 x12_1) x18_2).f1), .int .i64 ((rd_T39 (rd_L2 l0 x12_1) x18_2).f2), .int .i64 ((rd_T39 (rd_L2 l0 x12_1) x18_2).f3), .int .i64 ((rd_T39 (rd_L2 l0 x12_1) x18_2).f4), .int .i64 ((rd_T39 (rd_L2 l0 x12_1) x18_2).f5), .int .i64 ((rd_T39 (rd_L2 l0 x12_1) x18_2).f6), .int .i64 ((rd_T39 (rd_L2 l0 x12_1) x18_2).f7), .int .i64 ((rd_T39 (rd_L2 l0 x12_1) x18_2).f8), .int .i64 ((rd_T39 (rd_L2 l0 x12_1) x18_2).f9), .int .i64 ((rd_T39 (rd_L2 l0 x12_1) x18_2).f10)] 39 (0, 0)) (by (with_reducible repeat (first | apply bN | apply bD | apply bA)); apply puts11; (with_reducible repeat (first | apply bN | apply bD | apply bA)); exact BK234.out) hb); replace HB := sBq hb; (try clear hb); (try clear hb2); (try clear hk); (try clear hi); obtain ⟨hcz16_0, hcz16_1, hcz16_2, hcz16_3, hcz16_4, hcz16_5, hcz16_6, hcz16_7, hcz16_8, hcz16_9, hcz16_10, hfz16_0, hfz16_1, hfz16_2, hfz16_3, hfz16_4, hfz16_5, hfz16_6, hfz16_7, hfz16_8, hfz16_9, hfz16_10⟩ := cf11 BK234.out))
             go_roundg k2
             case measure => have := HK1.out; have := HK2.out; omega
             case rel => exact ⟨(ji12), (wrap64 (x18_2 + 1)), (by first | rfl | (simp; done) | (simp only [← hji12] <;> (first | rfl | simp)) | (simp [*]; done)), (by first | rfl | (simp; done) | (simp [*]; done)), H', ⟨by have := HK1.out; have := HK2.out; omega⟩, ⟨hBq⟩⟩
            ·rw [if_neg c11] at H
             have c11b0 : (((rd_T39 (rd_L2 l0 x12_1) x18_2).f6) == a1) = false := beq_eq_false_iff_ne.mpr c11; have c11b1 : (((rd_T39 (rd_L2 l0 x12_1) x18_2).f6) != a1) = true := bne_iff_ne.mpr c11; have H' := As H; clear H; have p233 : 0 ≤ (x18_2 : Int) := of_decide_eq_true (by first | (with_reducible assumption) | assumption); have q233 : x18_2 < ((rd_L2 l0 x12_1).length : Int) := of_decide_eq_true (by first | (with_reducible assumption) | assumption); obtain ⟨ad233, e233, hx233_0, hx233_1, hx233_2, hx233_3, hx233_4, hx233_5, hx233_6, hx233_7, hx233_8, hx233_9, hx233_10⟩ := at_T39 (Kd.C_below HR232_0.out HB.out) x18_2 p233 q233; cases e233; replace p233 := eq_true p233; replace q233 := eq_true q233
             go_wp2_with (first | ((with_reducible refine gate_dst (N := 9) rfl ?_); refine box_event ?hg (N := 9) ?hd (cs := #[.int .i64 0, .int .i64 0, .int .i64 0, .int .i64 0, .int .i64 0, .int .i64 0, .int .i64 0, .int .i64 0, .int .i64 0, .int .i64 0, .int .i64 0]) (t := 39) ?hr ?_; (case hd => rfl); (case hg => rfl); (case hr => first | (go_simp; done) | (go_simp; rfl)); intro gb234 hg w17 hbox hb; have BK234 := As (hbox); have GW234 := As (by rw [hg]; exact (below_size hBq) : w.heap.size ≤ gb234); replace HB := sBq hb; have GE234 := GW234; clear hb hbox hg; obtain ⟨hcz18_0, hcz18_1, hcz18_2, hcz18_3, hcz18_4, hcz18_5, hcz18_6, hcz18_7, hcz18_8, hcz18_9, hcz18_10, hfz18_0, hfz18_1, hfz18_2, hfz18_3, hfz18_4, hfz18_5, hfz18_6, hfz18_7, hfz18_8, hfz18_9, hfz18_10⟩ := cf11 BK234.out) | ((with_reducible refine gate_callee (f := 43) rfl ?_); refine goesL_ (some 23) rfl rfl Tryd.func43 (by kernel_rfl) rfl #[.agg #[.int .i64 ((rd_T39 (rd_L2 l0 x12_1) x18_2).f0), .int .i64 ((rd_T39 (rd_L2 l0 x12_1) x18_2).f1), .int .i64 ((rd_T39 (rd_L2 l0 x12_1) x18_2).f2), .int .i64 ((rd_T39 (rd_L2 l0 x12_1) x18_2).f3), .int .i64 ((rd_T39 (rd_L2 l0 x12_1) x18_2).f4), .int .i64 ((rd_T39 (rd_L2 l0 x12_1) x18_2).f5), .int .i64 ((rd_T39 (rd_L2 l0 x12_1) x18_2).f6), .int .i64 ((rd_T39 (rd_L2 l0 x12_1) x18_2).f7), .int .i64 ((rd_T39 (rd_L2 l0 x12_1) x18_2).f8), .int .i64 ((rd_T39 (rd_L2 l0 x12_1) x18_2).f9), .int .i64 ((rd_T39 (rd_L2 l0 x12_1) x18_2).f10)]] rfl (by (try simp only [m1, m2, m3]); first | done | rfl | (simp only [m4, m5]; rfl)) ?_; (with_reducible refine (ref16_term.calls k2 ((rd_T39 (rd_L2 l0 x12_1) x18_2).f0) ((rd_T39 (rd_L2 l0 x12_1) x18_2).f1) ((rd_T39 (rd_L2 l0 x12_1) x18_2).f2) ((rd_T39 (rd_L2 l0 x12_1) x18_2).f3) ((rd_T39 (rd_L2 l0 x12_1) x18_2).f4) ((rd_T39 (rd_L2 l0 x12_1) x18_2).f5) ((rd_T39 (rd_L2 l0 x12_1) x18_2).f6) ((rd_T39 (rd_L2 l0 x12_1) x18_2).f7) ((rd_T39 (rd_L2 l0 x12_1) x18_2).f8) ((rd_T39 (rd_L2 l0 x12_1) x18_2).f9) ((rd_T39 (rd_L2 l0 x12_1) x18_2).f10) true _ A9.out).mono ?_); rintro e w19 ⟨rfl, hb⟩; refine ⟨_, rfl, ?_⟩; replace BK234 := As (blk_below (g := gb234) (o := .cells #[.int .i64 ((rd_T39 (rd_L2 l0 x12_1) x18_2).f0), .int .i64 ((rd_T39 (rd_L2 l0 x12_1) x18_2).f1), .int .i64 ((rd_T39 (rd_L2 l0 x12_1) x18_2).f2), .int .i64 ((rd_T39 (rd_L2 l0 x12_1) x18_2).f3), .int .i64 ((rd_T39 (rd_L2 l0 x12_1) x18_2).f4), .int .i64 ((rd_T39 (rd_L2 l0 x12_1) x18_2).f5), .int .i64 ((rd_T39 (rd_L2 l0 x12_1) x18_2).f6), .int .i64 ((rd_T39 (rd_L2 l0 x12_1) x18_2).f7), .int .i64 ((rd_T39 (rd_L2 l0 x12_1) x18_2).f8), .int .i64 ((rd_T39 (rd_L2 l0 x12_1) x18_2).f9), .int .i64 ((rd_T39 (rd_L2 l0 x12_1) x18_2).f10)] 39 (0, 0)) (by (with_reducible repeat (first | apply bN | apply bD | apply bA)); apply puts11; (with_reducible repeat (first | apply bN | apply bD | apply bA)); exact BK234.out) hb); replace HB := sBq hb; (try clear hb); (try clear hb2); (try clear hk); (try clear hi); obtain ⟨hcz20_0, hcz20_1, hcz20_2, hcz20_3, hcz20_4, hcz20_5, hcz20_6, hcz20_7, hcz20_8, hcz20_9, hcz20_10, hfz20_0, hfz20_1, hfz20_2, hfz20_3, hfz20_4, hfz20_5, hfz20_6, hfz20_7, hfz20_8, hfz20_9, hfz20_10⟩ := cf11 BK234.out))
             go_roundg k2
             case measure => have := HK1.out; have := HK2.out; omega
             case rel => exact ⟨(x5_2), (wrap64 (x18_2 + 1)), (by first | rfl | (simp; done) | (simp [*]; done)), (by first | rfl | (simp; done) | (simp [*]; done)), H', ⟨by have := HK1.out; have := HK2.out; omega⟩, ⟨hBq⟩⟩
           ·replace c10 := Bool.eq_false_iff.mpr c10
            subst c10; rw [if_neg nft] at H; have H' := As H; clear H; have p233 : 0 ≤ (x18_2 : Int) := of_decide_eq_true (by first | (with_reducible assumption) | assumption); have q233 : x18_2 < ((rd_L2 l0 x12_1).length : Int) := of_decide_eq_true (by first | (with_reducible assumption) | assumption); obtain ⟨ad233, e233, hx233_0, hx233_1, hx233_2, hx233_3, hx233_4, hx233_5, hx233_6, hx233_7, hx233_8, hx233_9, hx233_10⟩ := at_T39 (Kd.C_below HR232_0.out HB.out) x18_2 p233 q233; cases e233; replace p233 := eq_true p233; replace q233 := eq_true q233
            go_wp2_with (first | ((with_reducible refine gate_dst (N := 9) rfl ?_); refine box_event ?hg (N := 9) ?hd (cs := #[.int .i64 0, .int .i64 0, .int .i64 0, .int .i64 0, .int .i64 0, .int .i64 0, .int .i64 0, .int .i64 0, .int .i64 0, .int .i64 0, .int .i64 0]) (t := 39) ?hr ?_; (case hd => rfl); (case hg => rfl); (case hr => first | (go_simp; done) | (go_simp; rfl)); intro gb234 hg w21 hbox hb; have BK234 := As (hbox); have GW234 := As (by rw [hg]; exact (below_size hBq) : w.heap.size ≤ gb234); replace HB := sBq hb; have GE234 := GW234; clear hb hbox hg; obtain ⟨hcz22_0, hcz22_1, hcz22_2, hcz22_3, hcz22_4, hcz22_5, hcz22_6, hcz22_7, hcz22_8, hcz22_9, hcz22_10, hfz22_0, hfz22_1, hfz22_2, hfz22_3, hfz22_4, hfz22_5, hfz22_6, hfz22_7, hfz22_8, hfz22_9, hfz22_10⟩ := cf11 BK234.out) | ((with_reducible refine gate_callee (f := 43) rfl ?_); refine goesL_ (some 23) rfl rfl Tryd.func43 (by kernel_rfl) rfl #[.agg #[.int .i64 ((rd_T39 (rd_L2 l0 x12_1) x18_2).f0), .int .i64 ((rd_T39 (rd_L2 l0 x12_1) x18_2).f1), .int .i64 ((rd_T39 (rd_L2 l0 x12_1) x18_2).f2), .int .i64 ((rd_T39 (rd_L2 l0 x12_1) x18_2).f3), .int .i64 ((rd_T39 (rd_L2 l0 x12_1) x18_2).f4), .int .i64 ((rd_T39 (rd_L2 l0 x12_1) x18_2).f5), .int .i64 ((rd_T39 (rd_L2 l0 x12_1) x18_2).f6), .int .i64 ((rd_T39 (rd_L2 l0 x12_1) x18_2).f7), .int .i64 ((rd_T39 (rd_L2 l0 x12_1) x18_2).f8), .int .i64 ((rd_T39 (rd_L2 l0 x12_1) x18_2).f9), .int .i64 ((rd_T39 (rd_L2 l0 x12_1) x18_2).f10)]] rfl (by (try simp only [m1, m2, m3]); first | done | rfl | (simp only [m4, m5]; rfl)) ?_; (with_reducible refine (ref16_term.calls k2 ((rd_T39 (rd_L2 l0 x12_1) x18_2).f0) ((rd_T39 (rd_L2 l0 x12_1) x18_2).f1) ((rd_T39 (rd_L2 l0 x12_1) x18_2).f2) ((rd_T39 (rd_L2 l0 x12_1) x18_2).f3) ((rd_T39 (rd_L2 l0 x12_1) x18_2).f4) ((rd_T39 (rd_L2 l0 x12_1) x18_2).f5) ((rd_T39 (rd_L2 l0 x12_1) x18_2).f6) ((rd_T39 (rd_L2 l0 x12_1) x18_2).f7) ((rd_T39 (rd_L2 l0 x12_1) x18_2).f8) ((rd_T39 (rd_L2 l0 x12_1) x18_2).f9) ((rd_T39 (rd_L2 l0 x12_1) x18_2).f10) false _ A9.out).mono ?_); rintro e w23 ⟨rfl, hb⟩; refine ⟨_, rfl, ?_⟩; replace BK234 := As (blk_below (g := gb234) (o := .cells #[.int .i64 ((rd_T39 (rd_L2 l0 x12_1) x18_2).f0), .int .i64 ((rd_T39 (rd_L2 l0 x12_1) x18_2).f1), .int .i64 ((rd_T39 (rd_L2 l0 x12_1) x18_2).f2), .int .i64 ((rd_T39 (rd_L2 l0 x12_1) x18_2).f3), .int .i64 ((rd_T39 (rd_L2 l0 x12_1) x18_2).f4), .int .i64 ((rd_T39 (rd_L2 l0 x12_1) x18_2).f5), .int .i64 ((rd_T39 (rd_L2 l0 x12_1) x18_2).f6), .int .i64 ((rd_T39 (rd_L2 l0 x12_1) x18_2).f7), .int .i64 ((rd_T39 (rd_L2 l0 x12_1) x18_2).f8), .int .i64 ((rd_T39 (rd_L2 l0 x12_1) x18_2).f9), .int .i64 ((rd_T39 (rd_L2 l0 x12_1) x18_2).f10)] 39 (0, 0)) (by (with_reducible repeat (first | apply bN | apply bD | apply bA)); apply puts11; (with_reducible repeat (first | apply bN | apply bD | apply bA)); exact BK234.out) hb); replace HB := sBq hb; (try clear hb); (try clear hb2); (try clear hk); (try clear hi)))
            go_roundg k2
            case measure => have := HK1.out; have := HK2.out; omega
            case rel => exact ⟨(x5_2), (wrap64 (x18_2 + 1)), (by first | rfl | (simp; done) | (simp [*]; done)), (by first | rfl | (simp; done) | (simp [*]; done)), H', ⟨by have := HK1.out; have := HK2.out; omega⟩, ⟨hBq⟩⟩
          ·rw [if_neg c8] at H
           exact absurd H (by simp)
         ·rw [if_neg c7] at H
          exact absurd H (by simp)
        ·rw [if_neg c6] at H
         have c6b0 : decide (x18_2 < ((rd_L2 l0 x12_1).length : Int)) = false := decide_eq_false c6; clear c6; have H' := As H; clear H; go_wp2; go_roundg k2
         case measure => have := HK1.out; have := HK2.out; omega
         case rel => exact ⟨(x5_2), (wrap64 (x12_1 + 1)), (by first | rfl | (simp; done) | (simp [*]; done)), (by first | rfl | (simp; done) | (simp [*]; done)), H', ⟨by have := HK1.out; have := HK2.out; omega⟩, ⟨hBq⟩⟩
     ·rw [if_neg c5] at H
      exact absurd H (by simp)
    ·rw [if_neg c4] at H
     exact absurd H (by simp)
   ·rw [if_neg c3] at H
    have c3b0 : decide (x12_1 < (l0.length : Int)) = false := decide_eq_false c3; clear c3; obtain rfl := Option.some.inj H; go_wp2; go_ret; exact ⟨erq, hBq⟩
def ref16_Free.l0 : Nat → List (List (S39)) → Int → Int → Int → Option (Int × Bool)
 | 0, _, _, _, _ => none
 | k + 1, x0, x1, x2, x8 => if x8 < x1 then ((ref16_Until.f k x0 x8).bind fun t236 => (if t236 < x2 then (some (x8, true)) else (ref16_Free.l0 k x0 x1 x2 (wrap64 (x8 + 1))))) else (some (0, false))
def ref16_Free.f (k : Nat) (l0 : List (List (S39))) (a1 : Int) (a2 : Int) : Option (Int × Bool) := if a1 > 64 then (some (0, false)) else (ref16_Free.l0 k l0 a1 a2 0)
set_option maxHeartbeats 8000000 in
set_option maxRecDepth 100000 in
theorem ref16_Free.calls (k : Nat) (A0 : Option Addr) (c0 : Nat) (l0 : List (List (S39))) (a1 : Int) (a2 : Int) (r1 : Int) (r2 : Bool) (w : World) (hr0 : Kd.C (Kd.slice 39 k39) w A0 l0.length l0) (hc0 : l0.length ≤ c0) (h : ref16_Free.f k l0 a1 a2 = some (r1, r2)) :
 Calls Tryd.prog 26 #[.slice A0 l0.length c0, .int .i64 a1, .int .i64 a2] w fun e w' => e = .returned (.tuple #[.int .i64 r1, .bool r2]) ∧ Below w.heap.size w w' := by
 have HR0 := As hr0; have HC0 := As hc0; clear hr0 hc0; have HB := As (Below.refl w.heap.size w); have H : (if a1 > 64 then (some (0, false)) else (ref16_Free.l0 k l0 a1 a2 0)) = some (r1, r2) := h; clear h
 by_cases c4 : a1 > 64
 ·rw [if_pos c4] at H
  have c4b0 : decide (64 < a1) = true := decide_eq_true c4; clear c4; simp only [Option.some.injEq, Prod.mk.injEq] at H; obtain ⟨rfl, rfl⟩ := H; go_enter Tryd.func26, Tryd.ntmps26; go_wp2; go_ret2; exact ⟨erq, hBq⟩
 ·rw [if_neg c4] at H
  have c4b0 : decide (64 < a1) = false := decide_eq_false c4; clear c4; have H' := As H; clear H; go_enter Tryd.func26, Tryd.ntmps26; go_wp2; go_loopg [8] k (fun kq v8 w' => ∃ (x8_1 : Int), v8 = .int .i64 x8_1 ∧ Aside0 (ref16_Free.l0 kq l0 a1 a2 x8_1 = some (r1, r2)) ∧ Aside0 (kq ≤ k) ∧ Aside0 (Below w.heap.size w w'))
  case atStart => exact ⟨(0), (by first | rfl | (simp; done) | (simp [*]; done)), H', ⟨Nat.le_refl _⟩, ⟨hBq⟩⟩
  case round =>
   clear H'; (try clear c2); (try clear p2); (try clear c4); (try clear c4b0); obtain ⟨x8_1, rfl, HA, HK1, HB⟩ := hrel
   cases gk with
   | zero => exact absurd HA.out (by simp [ref16_Free.l0])
   | succ k1 =>
    have H := HA.out; clear HA; simp only [ref16_Free.l0] at H
    by_cases c5 : x8_1 < a1
    ·rw [if_pos c5] at H
     have c5b0 : decide (x8_1 < a1) = true := decide_eq_true c5; clear c5; replace H := Option.bind_eq_some_iff.mp H; obtain ⟨t236, A60, H⟩ := H; (try dsimp only at H); have A6 := As A60; clear A60
     by_cases c7 : t236 < a2
     ·rw [if_pos c7] at H
      have c7b0 : decide (t236 < a2) = true := decide_eq_true c7; clear c7; simp only [Option.some.injEq, Prod.mk.injEq] at H; obtain ⟨rfl, rfl⟩ := H; go_wp2_with (first | ((with_reducible refine gate_callee (f := 27) rfl ?_); refine goesL_ (some 18) rfl rfl Tryd.func27 (by kernel_rfl) rfl #[.slice A0 l0.length c0, .int .i64 x8_1] rfl (by (try simp only [m1, m2, m3]); first | done | rfl | (simp only [m4, m5]; rfl)) ?_; (with_reducible refine (ref16_Until.calls k1 _ _ l0 x8_1 t236 _ ?side1 ?side2 A6.out).mono ?_); (case side1 => repeat (first | exact (Kd.C_below HR0.out HB.out) | (with_reducible refine Kd.C_alloc ?_ _) | (with_reducible refine Kd.C_drewN ?_ _) | (with_reducible refine Kd.C_drew ?_))); (case side2 => exact HC0.out); rintro e w8 ⟨rfl, hb⟩; refine ⟨_, rfl, ?_⟩; replace HB := sBq hb; (try clear hb); (try clear hb2); (try clear hk); (try clear hi))); go_ret2; exact ⟨erq, hBq⟩
     ·rw [if_neg c7] at H
      have c7b0 : decide (t236 < a2) = false := decide_eq_false c7; clear c7; have H' := As H; clear H; go_wp2_with (first | ((with_reducible refine gate_callee (f := 27) rfl ?_); refine goesL_ (some 18) rfl rfl Tryd.func27 (by kernel_rfl) rfl #[.slice A0 l0.length c0, .int .i64 x8_1] rfl (by (try simp only [m1, m2, m3]); first | done | rfl | (simp only [m4, m5]; rfl)) ?_; (with_reducible refine (ref16_Until.calls k1 _ _ l0 x8_1 t236 _ ?side1 ?side2 A6.out).mono ?_); (case side1 => repeat (first | exact (Kd.C_below HR0.out HB.out) | (with_reducible refine Kd.C_alloc ?_ _) | (with_reducible refine Kd.C_drewN ?_ _) | (with_reducible refine Kd.C_drew ?_))); (case side2 => exact HC0.out); rintro e w9 ⟨rfl, hb⟩; refine ⟨_, rfl, ?_⟩; replace HB := sBq hb; (try clear hb); (try clear hb2); (try clear hk); (try clear hi))); go_roundg k1
      case measure => have := HK1.out; omega
      case rel => exact ⟨(wrap64 (x8_1 + 1)), (by first | rfl | (simp; done) | (simp [*]; done)), H', ⟨by have := HK1.out; omega⟩, ⟨hBq⟩⟩
    ·rw [if_neg c5] at H
     have c5b0 : decide (x8_1 < a1) = false := decide_eq_false c5; clear c5; simp only [Option.some.injEq, Prod.mk.injEq] at H; obtain ⟨rfl, rfl⟩ := H; go_wp2; go_ret2; exact ⟨erq, hBq⟩
def make_Deck_Next.f (s0_0 : List Int) (s0_1 : Int) (a1 : Int) : Option (Int × Int) := if a1 < 1 then (some (0, s0_1)) else (if s0_1 ≥ (s0_0.length : Int) then (some (0, s0_1)) else (if 0 ≤ s0_1 then (if s0_1 < (s0_0.length : Int) then ((make_Mod.f (rd s0_0 s0_1) a1).bind fun t194 => (some (t194, wrap64 (s0_1 + 1)))) else (none)) else (none)))
set_option maxHeartbeats 8000000 in
set_option maxRecDepth 100000 in
theorem make_Deck_Next.calls (g : Nat) (s0_0 : List Int) (s0_1 : Int) (a1 : Int) (r1 : Int) (r2 : Int) (w0 w : World) (hI : IsS60 w0 w g s0_0 s0_1) (hB : Below w0.heap.size w0 w) (h : make_Deck_Next.f s0_0 s0_1 a1 = some (r1, r2)) :
 Calls Tryd.prog 18 #[.pointer (some ⟨g, 0, none⟩), .int .i64 a1] w fun e w' => e = .returned (.int .i64 r1) ∧ IsS60 w0 w' g s0_0 r2 ∧ Below w0.heap.size w0 w' ∧ KeepBut w w' g none := by
 have HI0 := As hI; have HK := As (KeepBut.refl w g none); have HL := As hB.size; clear hI; have HW0 := As hB.size; have HB := As hB; clear hB; have H : (if a1 < 1 then (some (0, s0_1)) else (if s0_1 ≥ (s0_0.length : Int) then (some (0, s0_1)) else (if 0 ≤ s0_1 then (if s0_1 < (s0_0.length : Int) then ((make_Mod.f (rd s0_0 s0_1) a1).bind fun t194 => (some (t194, wrap64 (s0_1 + 1)))) else (none)) else (none)))) = some (r1, r2) := h; clear h
 by_cases c3 : a1 < 1
 ·rw [if_pos c3] at H
  have c3b0 : decide (a1 < 1) = true := decide_eq_true c3; clear c3; simp only [Option.some.injEq, Prod.mk.injEq] at H; obtain ⟨rfl, rfl⟩ := H; go_enter Tryd.func18, Tryd.ntmps18; go_wp2; (repeat (go_quiet (fail); try go_wp2)); go_ret; exact ⟨erq, by repeat (first | (with_reducible first | exact HI0.out | apply IsS60.alloc | apply IsS60.drewN | apply IsS60.drew | apply IsS60.set_1) | exact HI0.out), by repeat (first | (with_reducible first | exact HB.out | apply uA | apply uN | apply uD | refine uS ?_ (IsS60.ge HI0.out)) | exact HB.out), hKq⟩
 ·rw [if_neg c3] at H
  have c3b0 : decide (a1 < 1) = false := decide_eq_false c3; clear c3
  by_cases c4 : s0_1 ≥ (s0_0.length : Int)
  ·rw [if_pos c4] at H
   have c4b0 : decide ((s0_0.length : Int) ≤ s0_1) = true := decide_eq_true c4; clear c4; simp only [Option.some.injEq, Prod.mk.injEq] at H; obtain ⟨rfl, rfl⟩ := H; obtain ⟨ASz5_0, cSz5_0, HGz5, hgz5, HSz5_0⟩ := HI0.out; have hcz5_0 := cellS60_0 HGz5; have hcz5_1 := cellS60_1 HGz5; have hfz5_1 := blk_frozen HGz5 1; clear HGz5 hgz5; go_enter Tryd.func18, Tryd.ntmps18; go_wp2; (repeat (go_quiet (fail); try go_wp2)); go_ret; exact ⟨erq, by repeat (first | (with_reducible first | exact HI0.out | apply IsS60.alloc | apply IsS60.drewN | apply IsS60.drew | apply IsS60.set_1) | exact HI0.out), by repeat (first | (with_reducible first | exact HB.out | apply uA | apply uN | apply uD | refine uS ?_ (IsS60.ge HI0.out)) | exact HB.out), hKq⟩
  ·rw [if_neg c4] at H
   have c4b0 : decide ((s0_0.length : Int) ≤ s0_1) = false := decide_eq_false c4; clear c4
   by_cases c6 : 0 ≤ s0_1
   ·rw [if_pos c6] at H
    have c6b0 : decide (0 ≤ s0_1) = true := decide_eq_true c6; clear c6
    by_cases c7 : s0_1 < (s0_0.length : Int)
    ·rw [if_pos c7] at H
     have c7b0 : decide (s0_1 < (s0_0.length : Int)) = true := decide_eq_true c7; clear c7; replace H := Option.bind_eq_some_iff.mp H; obtain ⟨t194, A80, H⟩ := H; (try dsimp only at H); have A8 := As A80; clear A80; simp only [Option.some.injEq, Prod.mk.injEq] at H; obtain ⟨rfl, rfl⟩ := H; obtain ⟨ASz9_0, cSz9_0, HGz9, hgz9, HSz9_0⟩ := HI0.out; have hcz9_0 := cellS60_0 HGz9; have hcz9_1 := cellS60_1 HGz9; have hfz9_1 := blk_frozen HGz9 1; clear HGz9 hgz9; have p193 : 0 ≤ (s0_1 : Int) := of_decide_eq_true (by first | (with_reducible assumption) | assumption); have q193 : s0_1 < (s0_0.length : Int) := of_decide_eq_true (by first | (with_reducible assumption) | assumption); obtain ⟨ad193, e193, hx193_0⟩ := Kd.at_int HSz9_0 s0_1 p193 q193; cases e193; replace hx193_0 := pw_cell_below HB.out hx193_0; replace p193 := eq_true p193; replace q193 := eq_true q193; go_enter Tryd.func18, Tryd.ntmps18; go_wp2_with (first | (go_at_call 22; (with_reducible refine (make_Mod.calls (rd s0_0 s0_1) a1 t194 _ A8.out).mono ?_); rintro e w' ⟨rfl, ⟨nd, rfl⟩⟩; (try first | exact ⟨rfl, _, World.drewN_drewN _ _ _⟩ | exact ⟨rfl, _, Eq.trans (World.drewN_drewN _ _ _) (congrArg (World.drewN _) (Nat.add_assoc _ _ _))⟩)))
     (repeat (go_quiet (first | (go_at_call 22; (with_reducible refine (make_Mod.calls (rd s0_0 s0_1) a1 t194 _ A8.out).mono ?_); rintro e w' ⟨rfl, ⟨nd, rfl⟩⟩; (try first | exact ⟨rfl, _, World.drewN_drewN _ _ _⟩ | exact ⟨rfl, _, Eq.trans (World.drewN_drewN _ _ _) (congrArg (World.drewN _) (Nat.add_assoc _ _ _))⟩))); try go_wp2_with (first | (go_at_call 22; (with_reducible refine (make_Mod.calls (rd s0_0 s0_1) a1 t194 _ A8.out).mono ?_); rintro e w' ⟨rfl, ⟨nd, rfl⟩⟩; (try first | exact ⟨rfl, _, World.drewN_drewN _ _ _⟩ | exact ⟨rfl, _, Eq.trans (World.drewN_drewN _ _ _) (congrArg (World.drewN _) (Nat.add_assoc _ _ _))⟩))))); go_ret; exact ⟨erq, by repeat (first | (with_reducible first | exact HI0.out | apply IsS60.alloc | apply IsS60.drewN | apply IsS60.drew | apply IsS60.set_1) | exact HI0.out), by repeat (first | (with_reducible first | exact HB.out | apply uA | apply uN | apply uD | refine uS ?_ (IsS60.ge HI0.out)) | exact HB.out), hKq⟩
    ·rw [if_neg c7] at H
     exact absurd H (by simp)
   ·rw [if_neg c6] at H
    exact absurd H (by simp)
def ref16_At.l0 : Nat → Int → List (S41) → Int → Int → Option (Int × Int × Int × Int × Int × Int × Int × Bool × Bool)
 | 0, _, _, _, _ => none
 | k + 1, x1, x18, x19, x20 => if x20 < x19 then (if 0 ≤ x20 then (if x20 < (x18.length : Int) then (if ((rd_T41 x18 x20).f2) = x1 then (some ((rd_T41 x18 x20).f0, (rd_T41 x18 x20).f1, (rd_T41 x18 x20).f2, (rd_T41 x18 x20).f3, (rd_T41 x18 x20).f4, (rd_T41 x18 x20).f5, (rd_T41 x18 x20).f6, (rd_T41 x18 x20).f7, true)) else (ref16_At.l0 k x1 x18 x19 (wrap64 (x20 + 1)))) else (none)) else (none)) else (some (0, 0, 0, 0, 0, 0, 0, false, false))
def ref16_At.f (k : Nat) (l0 : List (S39)) (a1 : Int) (a2 : Int) : Option (Int × Int × Int × Int × Int × Int × Int × Bool × Bool) := (ref16_Leases.f l0 a2).bind fun bt224 => (ref16_At.l0 k a1 bt224.1 (bt224.1.length : Int) 0)
set_option maxHeartbeats 8000000 in
set_option maxRecDepth 100000 in
theorem ref16_At.calls (k : Nat) (A0 : Option Addr) (c0 : Nat) (l0 : List (S39)) (a1 : Int) (a2 : Int) (r1 : Int) (r2 : Int) (r3 : Int) (r4 : Int) (r5 : Int) (r6 : Int) (r7 : Int) (r8 : Bool) (r9 : Bool) (w : World) (hr0 : Kd.C k39 w A0 l0.length l0) (hc0 : l0.length ≤ c0) (h : ref16_At.f k l0 a1 a2 = some (r1, r2, r3, r4, r5, r6, r7, r8, r9)) :
 Calls Tryd.prog 25 #[.slice A0 l0.length c0, .int .i64 a1, .int .i64 a2] w fun e w' => e = .returned (.tuple #[.agg #[.int .i64 r1, .int .i64 r2, .int .i64 r3, .int .i64 r4, .int .i64 r5, .int .i64 r6, .int .i64 r7, .bool r8], .bool r9]) ∧ Below w.heap.size w w' := by
 have hu41 := Tryd.underlying41; have HR0 := As hr0; have HC0 := As hc0; clear hr0 hc0; have HB := As (Below.refl w.heap.size w); have H : ((ref16_Leases.f l0 a2).bind fun bt224 => (ref16_At.l0 k a1 bt224.1 (bt224.1.length : Int) 0)) = some (r1, r2, r3, r4, r5, r6, r7, r8, r9) := h; clear h; replace H := Option.bind_eq_some_iff.mp H; obtain ⟨⟨t224, t225⟩, A40, H⟩ := H; (try dsimp only at H); have A4 := As A40; clear A40; have H' := As H; clear H; go_enter Tryd.func25, Tryd.ntmps25
 go_wp2_with (first | ((with_reducible refine gate_dst (N := 6) rfl ?_); refine box_event ?hg (N := 6) ?hd (cs := #[.int .i64 0, .int .i64 0, .int .i64 0, .int .i64 0, .int .i64 0, .int .i64 0, .int .i64 0, .bool false]) (t := 41) ?hr ?_; (case hd => rfl); (case hg => rfl); (case hr => first | (go_simp; done) | (go_simp; rfl)); intro gb223 hg w5 hbox hb; have BK223 := As (hbox); have GW223 := As (by rw [hg]; exact (below_size hBq) : w.heap.size ≤ gb223); replace HB := sBq hb; have GE223 := GW223; clear hb hbox hg) | ((with_reducible refine gate_callee (f := 23) rfl ?_); refine goesL_ (some 15) rfl rfl Tryd.func23 (by kernel_rfl) rfl #[.slice A0 l0.length c0, .int .i64 a2] rfl (by (try simp only [m1, m2, m3]); first | done | rfl | (simp only [m4, m5]; rfl)) ?_; (with_reducible refine (ref16_Leases.calls _ _ l0 a2 t224 t225 _ ?side1 ?side2 A4.out).mono ?_); (case side1 => repeat (first | exact (Kd.C_below HR0.out HB.out) | (with_reducible refine Kd.C_alloc ?_ _) | (with_reducible refine Kd.C_drewN ?_ _) | (with_reducible refine Kd.C_drew ?_))); (case side2 => exact HC0.out); rintro e w6 ⟨v226, rfl, ho0, hb⟩; refine ⟨_, rfl, ?_⟩; have HO227 := As (Kd.R_lower (Kd.R_newB ho0 (g := gb223) (o := .cells #[.int .i64 0, .int .i64 0, .int .i64 0, .int .i64 0, .int .i64 0, .int .i64 0, .int .i64 0, .bool false] 41 (0, 0)) (by (with_reducible repeat (first | apply bN | apply bD | apply bA)); exact BK223.out)) (below_size hBq)); replace BK223 := As (blk_below (g := gb223) (plq BK223.out) hb); replace HB := sBq hb; (try clear hb); (try clear hb2); (try clear hk); (try clear hi); (try clear ho0); obtain ⟨Ao7, co7, eo7⟩ := Kd.R_slice HO227.out; subst eo7))
 go_loopg [20] k (fun kq v20 w' => ∃ (x20_1 : Int) (x224000_1 : Int) (x224001_1 : Int) (x224002_1 : Int) (x224003_1 : Int) (x224004_1 : Int) (x224005_1 : Int) (x224006_1 : Int) (x224007_1 : Bool), v20 = .int .i64 x20_1 ∧ Aside0 (ref16_At.l0 kq a1 t224 (t224.length : Int) x20_1 = some (r1, r2, r3, r4, r5, r6, r7, r8, r9)) ∧ Aside0 (kq ≤ k) ∧ Aside0 (Kd.R k41 41 w' w.heap.size (fun k_ => k_ ≠ gb223) (.slice Ao7 t224.length co7) t224) ∧ Aside0 (w'.heap[gb223]? = some (.cells #[.int .i64 x224000_1, .int .i64 x224001_1, .int .i64 x224002_1, .int .i64 x224003_1, .int .i64 x224004_1, .int .i64 x224005_1, .int .i64 x224006_1, .bool x224007_1] 41 (0, 0))) ∧ Aside0 (Below w.heap.size w w'))
 case atStart => exact ⟨(0), (0), (0), (0), (0), (0), (0), (0), (false), (by first | rfl | (simp; done) | (simp [*]; done)), H', ⟨Nat.le_refl _⟩, ⟨by (with_reducible repeat (first | apply Kd.R_alloc | apply Kd.R_drewN | apply Kd.R_drew)); exact Kd.R_mono HO227.out (fun _ hk => hk.2)⟩, ⟨by (with_reducible repeat (first | apply bN | apply bD | apply bA)); exact BK223.out⟩, ⟨hBq⟩⟩
 case round =>
  clear H'; (try clear c2); (try clear p2); obtain ⟨x20_1, x224000_1, x224001_1, x224002_1, x224003_1, x224004_1, x224005_1, x224006_1, x224007_1, rfl, HA, HK1, HO_18, BK223, HB⟩ := hrel
  cases gk with
  | zero => exact absurd HA.out (by simp [ref16_At.l0])
  | succ k1 =>
   have H := HA.out; clear HA; simp only [ref16_At.l0] at H
   by_cases c8 : x20_1 < (t224.length : Int)
   ·rw [if_pos c8] at H
    have c8b0 : decide (x20_1 < (t224.length : Int)) = true := decide_eq_true c8; clear c8
    by_cases c9 : 0 ≤ x20_1
    ·rw [if_pos c9] at H
     have c9b0 : decide (0 ≤ x20_1) = true := decide_eq_true c9; clear c9
     by_cases c10 : x20_1 < (t224.length : Int)
     ·rw [if_pos c10] at H
      have c10b0 : decide (x20_1 < (t224.length : Int)) = true := decide_eq_true c10; clear c10
      by_cases c11 : ((rd_T41 t224 x20_1).f2) = a1
      ·rw [if_pos c11] at H
       have c11b0 : (((rd_T41 t224 x20_1).f2) == a1) = true := beq_iff_eq.mpr c11; have c11b1 : (((rd_T41 t224 x20_1).f2) != a1) = false := bne_eq_false_iff_eq.mpr c11; clear c11; simp only [Option.some.injEq, Prod.mk.injEq] at H; obtain ⟨rfl, rfl, rfl, rfl, rfl, rfl, rfl, rfl, rfl⟩ := H; have p228 : 0 ≤ (x20_1 : Int) := of_decide_eq_true (by first | (with_reducible assumption) | assumption); have q228 : x20_1 < (t224.length : Int) := of_decide_eq_true (by first | (with_reducible assumption) | assumption); obtain ⟨ad228, e228, hx228_0, hx228_1, hx228_2, hx228_3, hx228_4, hx228_5, hx228_6, hx228_7⟩ := at_T41 (Kd.R_reads' HO_18.out).2.2 x20_1 p228 q228; cases e228; replace p228 := eq_true p228; replace q228 := eq_true q228
       go_wp2_with (first | ((with_reducible refine gate_dst (N := 11) rfl ?_); refine box_event ?hg (N := 11) ?hd (cs := #[.int .i64 0, .int .i64 0, .int .i64 0, .int .i64 0, .int .i64 0, .int .i64 0, .int .i64 0, .bool false]) (t := 41) ?hr ?_; (case hd => rfl); (case hg => rfl); (case hr => first | (go_simp; done) | (go_simp; rfl)); intro gb229 hg w12 hbox hb; replace HO_18 := As (Kd.R_below (Kd.R_elderB (by (with_reducible repeat (first | apply Kd.R_alloc | apply Kd.R_drewN | apply Kd.R_drew)); exact HO_18.out) gb229 (Nat.le_of_eq hg.symm)) hb); have BK229 := As (hbox); have GW229 := As (by rw [hg]; exact (below_size hBq) : w.heap.size ≤ gb229); replace HB := sBq hb; have GE229 := GW229; have NB223_229 := As (by rw [hg]; exact Nat.ne_of_lt (blk_lt (g := gb223) (plq BK223.out)) : gb223 ≠ gb229); replace BK223 := As (blk_below (g := gb223) (plq BK223.out) hb); have NB229_223 := As NB223_229.out.symm; clear hb hbox hg; have hnb13 := NB229_223.out; have hnc13 := NB223_229.out; obtain ⟨hcz14_0, hcz14_1, hcz14_2, hcz14_3, hcz14_4, hcz14_5, hcz14_6, hcz14_7, hfz14_0, hfz14_1, hfz14_2, hfz14_3, hfz14_4, hfz14_5, hfz14_6, hfz14_7⟩ := cf8 BK229.out; obtain ⟨hcz15_0, hcz15_1, hcz15_2, hcz15_3, hcz15_4, hcz15_5, hcz15_6, hcz15_7, hfz15_0, hfz15_1, hfz15_2, hfz15_3, hfz15_4, hfz15_5, hfz15_6, hfz15_7⟩ := cf8 BK223.out))
       refine bodyPost_ret (results_ct rfl _ _ gb223 41 #[.int .i64 ((rd_T41 t224 x20_1).f0), .int .i64 ((rd_T41 t224 x20_1).f1), .int .i64 ((rd_T41 t224 x20_1).f2), .int .i64 ((rd_T41 t224 x20_1).f3), .int .i64 ((rd_T41 t224 x20_1).f4), .int .i64 ((rd_T41 t224 x20_1).f5), .int .i64 ((rd_T41 t224 x20_1).f6), .bool ((rd_T41 t224 x20_1).f7)] (0, 0) _ rfl (by (with_reducible repeat (first | apply bN | apply bD | apply bA)); apply puts8; (iterate 8 ((with_reducible repeat (first | apply bN | apply bD | apply bA)); refine blk_far ?_ NB223_229.out _)); (with_reducible repeat (first | apply bN | apply bD | apply bA)); exact BK223.out) Tryd.underlying41 rfl (by kernel_rfl)) rfl ?_
       exact ⟨erq, hBq⟩
      ·rw [if_neg c11] at H
       have c11b0 : (((rd_T41 t224 x20_1).f2) == a1) = false := beq_eq_false_iff_ne.mpr c11; have c11b1 : (((rd_T41 t224 x20_1).f2) != a1) = true := bne_iff_ne.mpr c11; have H' := As H; clear H; have p228 : 0 ≤ (x20_1 : Int) := of_decide_eq_true (by first | (with_reducible assumption) | assumption); have q228 : x20_1 < (t224.length : Int) := of_decide_eq_true (by first | (with_reducible assumption) | assumption); obtain ⟨ad228, e228, hx228_0, hx228_1, hx228_2, hx228_3, hx228_4, hx228_5, hx228_6, hx228_7⟩ := at_T41 (Kd.R_reads' HO_18.out).2.2 x20_1 p228 q228; cases e228; replace p228 := eq_true p228; replace q228 := eq_true q228
       go_wp2_with (first | ((with_reducible refine gate_dst (N := 11) rfl ?_); refine box_event ?hg (N := 11) ?hd (cs := #[.int .i64 0, .int .i64 0, .int .i64 0, .int .i64 0, .int .i64 0, .int .i64 0, .int .i64 0, .bool false]) (t := 41) ?hr ?_; (case hd => rfl); (case hg => rfl); (case hr => first | (go_simp; done) | (go_simp; rfl)); intro gb229 hg w16 hbox hb; replace HO_18 := As (Kd.R_below (Kd.R_elderB (by (with_reducible repeat (first | apply Kd.R_alloc | apply Kd.R_drewN | apply Kd.R_drew)); exact HO_18.out) gb229 (Nat.le_of_eq hg.symm)) hb); have BK229 := As (hbox); have GW229 := As (by rw [hg]; exact (below_size hBq) : w.heap.size ≤ gb229); replace HB := sBq hb; have GE229 := GW229; have NB223_229 := As (by rw [hg]; exact Nat.ne_of_lt (blk_lt (g := gb223) (plq BK223.out)) : gb223 ≠ gb229); replace BK223 := As (blk_below (g := gb223) (plq BK223.out) hb); have NB229_223 := As NB223_229.out.symm; clear hb hbox hg; have hnb17 := NB229_223.out; have hnc17 := NB223_229.out; obtain ⟨hcz18_0, hcz18_1, hcz18_2, hcz18_3, hcz18_4, hcz18_5, hcz18_6, hcz18_7, hfz18_0, hfz18_1, hfz18_2, hfz18_3, hfz18_4, hfz18_5, hfz18_6, hfz18_7⟩ := cf8 BK229.out))
       go_roundg k1
       case measure => have := HK1.out; omega
       case rel => exact ⟨(wrap64 (x20_1 + 1)), (x224000_1), (x224001_1), (x224002_1), (x224003_1), (x224004_1), (x224005_1), (x224006_1), (x224007_1), (by first | rfl | (simp; done) | (simp [*]; done)), H', ⟨by have := HK1.out; omega⟩, ⟨by (with_reducible repeat (first | apply Kd.R_alloc | apply Kd.R_drewN | apply Kd.R_drew)); exact Kd.R_mono (Kd.R_far (p := ⟨gb229, 7, none⟩) (Kd.R_far (p := ⟨gb229, 6, none⟩) (Kd.R_far (p := ⟨gb229, 5, none⟩) (Kd.R_far (p := ⟨gb229, 4, none⟩) (Kd.R_far (p := ⟨gb229, 3, none⟩) (Kd.R_far (p := ⟨gb229, 2, none⟩) (Kd.R_far (p := ⟨gb229, 1, none⟩) (Kd.R_far (p := ⟨gb229, 0, none⟩) (Kd.R_mono HO_18.out (fun k_ hk => (⟨hk, hk.2⟩ : _ ∧ k_ ≠ gb229))) (fun _ hk => hk.2) (.int .i64 ((rd_T41 t224 x20_1).f0))) (fun _ hk => hk.2) (.int .i64 ((rd_T41 t224 x20_1).f1))) (fun _ hk => hk.2) (.int .i64 ((rd_T41 t224 x20_1).f2))) (fun _ hk => hk.2) (.int .i64 ((rd_T41 t224 x20_1).f3))) (fun _ hk => hk.2) (.int .i64 ((rd_T41 t224 x20_1).f4))) (fun _ hk => hk.2) (.int .i64 ((rd_T41 t224 x20_1).f5))) (fun _ hk => hk.2) (.int .i64 ((rd_T41 t224 x20_1).f6))) (fun _ hk => hk.2) (.bool ((rd_T41 t224 x20_1).f7))) (fun _ hk => hk.1.1)⟩, ⟨by (iterate 8 ((with_reducible repeat (first | apply bN | apply bD | apply bA)); refine blk_far ?_ NB223_229.out _)); (with_reducible repeat (first | apply bN | apply bD | apply bA)); exact BK223.out⟩, ⟨hBq⟩⟩
     ·rw [if_neg c10] at H
      exact absurd H (by simp)
    ·rw [if_neg c9] at H
     exact absurd H (by simp)
   ·rw [if_neg c8] at H
    have c8b0 : decide (x20_1 < (t224.length : Int)) = false := decide_eq_false c8; clear c8; simp only [Option.some.injEq, Prod.mk.injEq] at H; obtain ⟨rfl, rfl, rfl, rfl, rfl, rfl, rfl, rfl, rfl⟩ := H; obtain ⟨hcz19_0, hcz19_1, hcz19_2, hcz19_3, hcz19_4, hcz19_5, hcz19_6, hcz19_7, hfz19_0, hfz19_1, hfz19_2, hfz19_3, hfz19_4, hfz19_5, hfz19_6, hfz19_7⟩ := cf8 BK223.out; go_wp2
    refine bodyPost_ret (results_ct rfl _ _ gb223 41 #[.int .i64 0, .int .i64 0, .int .i64 0, .int .i64 0, .int .i64 0, .int .i64 0, .int .i64 0, .bool false] (0, 0) _ rfl (by (with_reducible repeat (first | apply bN | apply bD | apply bA)); apply puts8; (with_reducible repeat (first | apply bN | apply bD | apply bA)); exact BK223.out) Tryd.underlying41 rfl (by kernel_rfl)) rfl ?_
    exact ⟨erq, hBq⟩
end Go.Proofs.YtnlonmbfpkalhaaDoor.PM
