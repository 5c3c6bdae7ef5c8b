-- Written by a program of this claim's own (hookprint.py), after the pattern of the kit's print. Lean checks it.
import Derived.Test.YtcgpbmafkgbbdaaDoorPMx0
import Derived.Test.YtcgpbmafkgbbdaaDoorPMx5
import Derived.Test.YtcgpbmafkgbbdaaDoorRow
import Derived.Test.YtcgpbmafkgbbdaaDoorWInv
namespace Go.Proofs.YtcgpbmafkgbbdaaDoor.PM
open Go.RowKit Go.Proofs.YtcgpbmafkgbbdaaDoorW.PrintWords Go.Proofs.YtcgpbmafkgbbdaaDoorW.PrintLast Go.Proofs.YtcgpbmafkgbbdaaDoorW.PrintMore
attribute [local go_sem] max2_int min2_int max_two min_two max_three min_three max_four min_four
set_option linter.unusedVariables false
set_option linter.unusedSimpArgs false
section
attribute [local go_sem ↓] some_setCell
def zLe : Le := ⟨0, 0, 0, 0, 0, 0, 0, false⟩
structure St where
 ls : List Le
 op : List Bool
 un : List Int
def St.enc (s : St) : List Value := flat Le.enc s.ls ++ (s.op.map Value.bool ++ s.un.map (Value.int .i64))
structure St.ok (s : St) : Prop where
 l : s.ls.length = 64
 o : s.op.length = 64
 u : s.un.length = 64
def St.le (s : St) (k : Nat) : Le := s.ls.getD k zLe
def St.opn (s : St) (k : Nat) : Bool := s.op.getD k false
def St.unt (s : St) (k : Nat) : Int := s.un.getD k 0
def St.setL (s : St) (k : Nat) (l : Le) : St := ⟨s.ls.set k l, s.op, s.un⟩
def St.setO (s : St) (k : Nat) (b : Bool) : St := ⟨s.ls, s.op.set k b, s.un⟩
def St.setU (s : St) (k : Nat) (u : Int) : St := ⟨s.ls, s.op, s.un.set k u⟩
theorem St.ok.setL {s : St} (h : s.ok) (k : Nat) (l : Le) : (s.setL k l).ok := ⟨by simp [St.setL, h.l], h.o, h.u⟩
theorem St.ok.setO {s : St} (h : s.ok) (k : Nat) (b : Bool) : (s.setO k b).ok := ⟨h.l, by simp [St.setO, h.o], h.u⟩
theorem St.ok.setU {s : St} (h : s.ok) (k : Nat) (u : Int) : (s.setU k u).ok := ⟨h.l, h.o, by simp [St.setU, h.u]⟩
theorem St.flen {s : St} (h : s.ok) : (flat Le.enc s.ls).length = 512 := by rw [_root_.Go.Proofs.YtcgpbmafkgbbdaaDoorW.PrintWords.flen Le.len, h.l]
theorem St.len {s : St} (h : s.ok) : s.enc.length = 640 := by
 unfold St.enc
 rw [List.length_append, List.length_append, List.length_map, List.length_map, St.flen h, h.o, h.u]
theorem St.le_is {s : St} (h : s.ok) (k : Nat) (hk : k < 64) : s.le k = s.ls[k]'(by rw [h.l]; exact hk) := by
 unfold St.le
 rw [List.getD_eq_getElem?_getD, List.getElem?_eq_getElem (by rw [h.l]; exact hk)]
 rfl
theorem St.get_le {s : St} (h : s.ok) (k j : Nat) (hk : k < 64) (hj : j < 8) : s.enc[k * 8 + j]? = (s.le k).enc[j]? := by
 unfold St.enc
 rw [List.getElem?_append_left (by rw [St.flen h]; omega), fget Le.len s.ls k j (by rw [h.l]; exact hk) hj, St.le_is h k hk]
theorem St.get_op {s : St} (h : s.ok) (k : Nat) (hk : k < 64) : s.enc[512 + k]? = some (.bool (s.opn k)) := by
 unfold St.enc St.opn
 rw [List.getElem?_append_right (by rw [St.flen h]; omega), St.flen h, Nat.add_sub_cancel_left, List.getElem?_append_left (by rw [List.length_map, h.o]; exact hk), List.getElem?_map, List.getD_eq_getElem?_getD, List.getElem?_eq_getElem (by rw [h.o]; exact hk)]
 rfl
theorem St.get_un {s : St} (h : s.ok) (k : Nat) (hk : k < 64) : s.enc[576 + k]? = some (.int .i64 (s.unt k)) := by
 unfold St.enc St.unt
 rw [List.getElem?_append_right (by rw [St.flen h]; omega), St.flen h, List.getElem?_append_right (by rw [List.length_map, h.o]; omega), List.length_map, h.o, show 576 + k - 512 - 64 = k by omega, List.getElem?_map, List.getD_eq_getElem?_getD, List.getElem?_eq_getElem (by rw [h.u]; exact hk)]
 rfl
theorem over_set (L : List Value) (k : Nat) (v : Value) (h : k < L.length) : over L k [v] = L.set k v := by
 unfold over
 rw [List.set_eq_take_append_cons_drop, if_pos h]
 simp
theorem St.put_un {s : St} (h : s.ok) (k : Nat) (hk : k < 64) (u : Int) : over s.enc (576 + k) [.int .i64 u] = (s.setU k u).enc := by
 rw [over_set _ _ _ (by rw [St.len h]; omega)]
 unfold St.enc St.setU
 rw [List.set_append_right _ _ (by rw [St.flen h]; omega), St.flen h, List.set_append_right _ _ (by rw [List.length_map, h.o]; omega), List.length_map, h.o, show 576 + k - 512 - 64 = k by omega, ← List.map_set]
theorem St.put_op {s : St} (h : s.ok) (k : Nat) (hk : k < 64) (b : Bool) : over s.enc (512 + k) [.bool b] = (s.setO k b).enc := by
 rw [over_set _ _ _ (by rw [St.len h]; omega)]
 unfold St.enc St.setO
 rw [List.set_append_right _ _ (by rw [St.flen h]; omega), St.flen h, Nat.add_sub_cancel_left, List.set_append_left _ _ (by rw [List.length_map, h.o]; exact hk), ← List.map_set]
theorem St.put_one {s : St} (h : s.ok) (k j : Nat) (hk : k < 64) (hj : j < 8) (v : Value) (l : Le) (hl : (s.le k).enc.set j v = l.enc) : over s.enc (k * 8 + j) [v] = (s.setL k l).enc := by
 rw [over_set _ _ _ (by rw [St.len h]; omega)]
 unfold St.enc St.setL
 rw [List.set_append_left _ _ (by rw [St.flen h]; omega), fset Le.len s.ls k j (by rw [h.l]; exact hk) v l hj (by rw [← St.le_is h k hk]; exact hl)]
theorem over_whole (L M : List Value) (h : M.length = L.length) : over L 0 M = M := by
 unfold over
 rw [List.take_zero, Nat.zero_add, h, List.drop_length, List.nil_append, List.append_nil]
theorem St.put_le {s : St} (h : s.ok) (k : Nat) (hk : k < 64) (l : Le) : over s.enc (k * 8) l.enc = (s.setL k l).enc := by
 have hkl : k < s.ls.length := by rw [h.l]; exact hk
 have hA : (flat Le.enc (s.ls.take k)).length = k * 8 := by rw [_root_.Go.Proofs.YtcgpbmafkgbbdaaDoorW.PrintWords.flen Le.len, List.length_take, Nat.min_eq_left (by omega)]
 have h1 : flat Le.enc s.ls = flat Le.enc (s.ls.take k) ++ (s.ls[k]).enc ++ flat Le.enc (s.ls.drop (k + 1)) := by
  have e : s.ls = s.ls.take k ++ s.ls[k] :: s.ls.drop (k + 1) := by rw [← List.drop_eq_getElem_cons hkl, List.take_append_drop]
  have e2 := congrArg (flat Le.enc) e
  rw [flat_append, flat_cons, ← List.append_assoc] at e2
  exact e2
 unfold St.enc St.setL
 rw [h1, List.append_assoc (flat Le.enc (s.ls.take k) ++ (s.ls[k]).enc)]
 have h2 := over_seg (A := flat Le.enc (s.ls.take k)) (E := (s.ls[k]).enc) (B := flat Le.enc (s.ls.drop (k + 1)) ++ (s.op.map Value.bool ++ s.un.map (Value.int .i64))) 0 l.enc (by simp [Le.len])
 rw [hA] at h2
 simp only [Nat.add_zero] at h2
 rw [h2, over_whole _ _ (by simp [Le.len]), List.set_eq_take_append_cons_drop, if_pos hkl, flat_append, flat_cons]
 simp only [List.append_assoc]
def St.force (s : St) (k : Nat) (t : Int) : Bool := s.opn k && decide (t ≤ (s.le k).un)
set_option maxHeartbeats 4000000 in
theorem force.calls (b : Nat) (s : St) (x6 t : Int) (W : World) (hB : BlkIs W b 76 s.enc) (hs : s.ok) (h0 : 0 ≤ x6) (h64 : x6 < 64) (r : Bool) (h : s.force x6.toNat t = r) :
  Calls Tryd.prog 38 #[.pointer (some ⟨b, 0, none⟩), .int .i64 x6, .int .i64 t] W fun e w' => e = .returned (.bool r) ∧ w' = W := by
 subst h
 have hk : x6.toNat < 64 := by omega
 have c1 : W.cell? ⟨b, 512 + x6.toNat, none⟩ = some (.bool (s.opn x6.toNat)) := (hB.at_ _).trans (St.get_op hs _ hk)
 have c2 : W.cell? ⟨b, x6.toNat * 8 + 6, none⟩ = some (.int .i64 (s.le x6.toNat).un) := (hB.at_ _).trans (St.get_le hs _ 6 hk (by omega))
 unfold St.force
 have HW : Aside0 (∃ w0 : World, w0 = W) := ⟨W, rfl⟩
 clear hB hs hk
 cases ho : s.opn x6.toNat with
 | false =>
  rw [ho] at c1
  clear ho
  go_enter Tryd.func38, Tryd.ntmps38
  go_wp2
  go_ret
  exact ⟨rfl, rfl⟩
 | true =>
  rw [ho] at c1
  clear ho
  cases hd : decide (t ≤ (s.le x6.toNat).un) with
  | false =>
   go_enter Tryd.func38, Tryd.ntmps38
   go_wp2
   go_ret
   exact ⟨rfl, rfl⟩
  | true =>
   go_enter Tryd.func38, Tryd.ntmps38
   go_wp2
   go_ret
   exact ⟨rfl, rfl⟩
def unI (i : Nat) : List Int := List.replicate i (-1) ++ List.replicate (64 - i) 0
def stI (i : Nat) : St := ⟨List.replicate 64 zLe, List.replicate 64 false, unI i⟩
theorem stI_ok (i : Nat) (hi : i ≤ 64) : (stI i).ok := ⟨by simp [stI], by simp [stI], by simp [stI, unI]; omega⟩
theorem stI_set (i : Nat) (hi : i < 64) : (stI i).setU i (-1) = stI (i + 1) := by
 have : (unI i).set i (-1) = unI (i + 1) := by
  unfold unI
  rw [List.set_append_right _ _ (by simp), List.length_replicate, Nat.sub_self, show 64 - i = (64 - (i + 1)) + 1 by omega, List.replicate_succ, List.set_cons_zero, List.replicate_succ', List.append_assoc]
  rfl
 unfold St.setU stI
 rw [this]
def St.zero : St := stI 64
theorem St.zero_ok : St.zero.ok := stI_ok 64 (Nat.le_refl _)
def zcS : Array Value := (stI 0).enc.toArray
theorem zcS_size : zcS.size = 640 := by kernel_rfl
theorem zcS_ne : zcS ≠ #[] := fun e => by
 have := zcS_size
 rw [e] at this
 cases this
theorem zcS_run (w : World) : (zeroValue 76).run Tryd.prog w = .ok (.agg zcS) w := by kernel_rfl
attribute [local go_sem ↓] zcS_run
attribute [local go_sem] zcS_size
attribute [local simp] zcS_ne
theorem st_one (s : St) : ∀ q ∈ s.enc, q.oneCell' = true := by
 intro q hq
 unfold St.enc at hq
 rcases List.mem_append.mp hq with h | h
 ·obtain ⟨l, _, hl⟩ := List.mem_flatMap.mp h
  unfold Le.enc at hl
  simp only [List.mem_cons, List.not_mem_nil, or_false] at hl
  rcases hl with rfl | rfl | rfl | rfl | rfl | rfl | rfl | rfl <;> rfl
 ·rcases List.mem_append.mp h with h | h
  ·obtain ⟨b, _, rfl⟩ := List.mem_map.mp h
   rfl
  ·obtain ⟨b, _, rfl⟩ := List.mem_map.mp h
   rfl
set_option maxHeartbeats 16000000 in
set_option maxRecDepth 100000 in
theorem empty.calls (w : World) : Calls Tryd.prog 36 #[] w fun e w' => e = .returned (.agg St.zero.enc.toArray) ∧ Below w.heap.size w w' := by
 go_enter Tryd.func36, Tryd.ntmps36
 go_wp2_with (fail)
 unfold zcS
 obtain ⟨W0, hW0⟩ : ∃ W0, W0 = (w.alloc (.cells (stI 0).enc.toArray 76)).alloc (.cells (stI 0).enc.toArray 76) := ⟨_, rfl⟩
 rw [← hW0]
 have HZ0 : Aside0 (BlkIs W0 w.heap.size 76 (stI 0).enc) := ⟨by rw [hW0]; exact BlkIs.alloc (heap_alloc_new w _) _⟩
 have HV0 : Aside0 (BlkIs W0 (w.heap.size + 1) 76 (stI 0).enc) := ⟨by
  rw [hW0]
  have := heap_alloc_new (w.alloc (.cells (stI 0).enc.toArray 76)) (.cells (stI 0).enc.toArray 76)
  rwa [World.size_alloc] at this⟩
 have HB0 : Aside0 (Below w.heap.size w W0) := ⟨by rw [hW0]; exact below_alloc (below_alloc (Below.refl _ _) _) _⟩
 clear hW0
 go_loopg [3] 64 (fun kq v3 w' => ∃ i : Nat, v3 = .int .i64 i ∧ Aside0 (i + kq = 64) ∧ Aside0 (BlkIs w' w.heap.size 76 (stI 0).enc) ∧ Aside0 (BlkIs w' (w.heap.size + 1) 76 (stI i).enc) ∧ Aside0 (Below w.heap.size w w'))
 case atStart => exact ⟨0, rfl, ⟨rfl⟩, HZ0, HV0, HB0⟩
 case round =>
  clear HZ0 HV0 HB0
  obtain ⟨i, rfl, HI, HZ, HV, HB⟩ := hrel
  cases gk with
  | zero =>
   have c4b0 : decide ((i : Int) < 64) = false := decide_eq_false (by have := HI.out; omega)
   have c4b1 : decide (i < 64) = false := decide_eq_false (by have := HI.out; omega)
   have HV2 : Aside0 (BlkIs wr (w.heap.size + 1) 76 St.zero.enc) := ⟨by
    have := HV.out
    rw [show i = 64 by have := HI.out; omega] at this
    exact this⟩
   go_wp2_with (first | ((with_reducible refine gate_ (.load 76 (.tmp 1)) rfl ?_); refine blk_load rfl 76 (.tmp 1) rfl HV2.out rfl _ Tryd.underlying76 rfl (by rw [St.len St.zero_ok]; kernel_rfl) ?_) | ((with_reducible refine gate_ (.store 76 (.tmp 0) (.tmp 10)) rfl ?_); refine blk_store rfl rfl 76 (.tmp 0) (.tmp 10) rfl HZ.out 0 (.agg St.zero.enc.toArray) St.zero.enc St.zero.enc ⟨_, rfl, rfl⟩ rfl rfl (by rw [St.len St.zero_ok]; kernel_rfl) (by rw [St.len St.zero_ok, St.len (stI_ok 0 (by omega))]; omega) ?h1 ?hE ?_; (case h1 => exact st_one _); (case hE => exact over_whole _ _ (by rw [St.len St.zero_ok, St.len (stI_ok 0 (by omega))])); intro w1 HZ1 HG1))
   refine bodyPost_ret (results_cell rfl _ rfl HZ1.out _ Tryd.underlying76 rfl (by rw [St.len St.zero_ok]; kernel_rfl)) rfl ?_
   exact ⟨rfl, pw_below_grown HB.out _ HB.out.size HG1.out (by intro k hk; injection hk with hk; omega)⟩
  | succ k1 =>
   have hil : i < 64 := by have := HI.out; omega
   have c4b0 : decide ((i : Int) < 64) = true := decide_eq_true (by omega)
   have c4b1 : decide (i < 64) = true := decide_eq_true hil
   have hi64 : (i : Int) ≤ 9223372036854775806 := by omega
   have pi1 : 0 ≤ (i : Int) := by omega
   have pi2 : (i : Int) < 64 := by omega
   have HIL := Aside0.mk hil
   have HV1 : Aside0 (BlkIs wr (w.heap.size + 1) 76 (stI i).enc) := HV
   clear HV
   go_wp2_with (((with_reducible refine gate_ (.store 3 (.tmp 8) (.const (.int .i64 (-1)))) rfl ?_); refine blk_store rfl rfl 3 (.tmp 8) (.const (.int .i64 (-1))) rfl HV1.out (576 + i) (.int .i64 (-1)) [.int .i64 (-1)] (stI (i + 1)).enc ⟨_, rfl, by first | rfl | (simp; done) | (simp; omega) | omega⟩ rfl rfl (by kernel_rfl) (by rw [St.len (stI_ok i (by have := HIL.out; omega))]; have := HIL.out; show 576 + i + 1 ≤ 640; omega) ?h1 ?hE ?_; (case h1 => intro q hq; rw [List.mem_singleton] at hq; subst hq; rfl); (case hE => rw [St.put_un (stI_ok i (by have := HIL.out; omega)) i HIL.out, stI_set i HIL.out]); intro w1 HV2 HG2))
   have HZ2 := Aside0.mk (HZ.out.grown HG2.out (fun e => by injection e with e; omega))
   have HB2 : Aside0 (Below w.heap.size w w1) := ⟨pw_below_grown HB.out _ HB.out.size HG2.out (by intro k hk; injection hk with hk; omega)⟩
   go_roundg k1
   case measure => omega
   case rel => exact ⟨i + 1, by simp, ⟨by have := HI.out; omega⟩, HZ2, HV2, HB2⟩
end
section
attribute [local go_sem ↓] some_setCell
def Le.till (l : Le) (u : Int) : Le := ⟨l.o, l.k, l.s, l.h, l.z, l.fr, u, l.rc⟩
def Le.got (l : Le) : Le := ⟨l.o, l.k, l.s, l.h, l.z, l.fr, l.un, true⟩
def St.sayS (s : St) (x : S51) : Option St :=
 if x.f5 = 1 then (if x.f4 ≤ s.unt x.f6.toNat then none else some (((s.setL x.f6.toNat ⟨x.f1, x.f0, x.f6, x.f7, x.f8, x.f4, x.f9, false⟩).setO x.f6.toNat true).setU x.f6.toNat x.f9))
 else if x.f5 = 2 then (if s.force x.f6.toNat x.f4 = true then (if x.f9 ≤ s.unt x.f6.toNat then none else some ((s.setL x.f6.toNat ((s.le x.f6.toNat).till x.f9)).setU x.f6.toNat x.f9)) else none)
 else if x.f5 = 3 ∨ x.f5 = 5 then (if s.force x.f6.toNat x.f4 = true then some (s.setO x.f6.toNat false) else none)
 else if x.f5 = 4 then (if s.force x.f6.toNat x.f4 = true then (if (s.le x.f6.toNat).h = x.f7 then (if (s.le x.f6.toNat).z = x.f8 then some (s.setL x.f6.toNat (s.le x.f6.toNat).got) else none) else none) else none)
 else some s
def SayPost (b : Nat) (s : St) (x : S51) (W w' : World) : Prop := BlkIs w' b 76 ((s.sayS x).getD s).enc ∧ W.grownBy w' (some b)
theorem gdrewN (w : World) (n : Nat) (row : Option Nat) : w.grownBy (w.drewN n) row := ⟨rfl, rfl, rfl, Nat.le_refl _, fun _ _ _ => rfl⟩
theorem gdrew (w : World) (row : Option Nat) : w.grownBy w.drew row := ⟨rfl, rfl, rfl, Nat.le_refl _, fun _ _ _ => rfl⟩
theorem grown_new {w w1 w2 : World} {g : Nat} {r : Option Nat} (h : w.grownBy w1 r) (h2 : w1.grownBy w2 (some g)) (hg : w.heap.size ≤ g) : w.grownBy w2 r :=
 ⟨h2.os.trans h.os, h2.tape.trans h.tape, h2.output.trans h.output, Nat.le_trans h.size h2.size, fun i hi hr => (h2.block i (Nat.lt_of_lt_of_le hi h.size) (fun e => by injection e with e; omega)).trans (h.block i hi hr)⟩
theorem le_one (l : Le) : ∀ q ∈ l.enc, q.oneCell' = true := by
 intro q hl
 unfold Le.enc at hl
 simp only [List.mem_cons, List.not_mem_nil, or_false] at hl
 rcases hl with rfl | rfl | rfl | rfl | rfl | rfl | rfl | rfl <;> rfl
def say.T6 : Bool × List (List Nat × List Nat) := (true, [([], []), ([], []), ([1], [1]), ([], []), ([], []), ([4], [4]), ([], []), ([6], [6]), ([0], [0]), ([8], [8]), ([9, 2, 0, 1, 2], [2, 9]), ([10, 0, 1, 2], [10]), ([3], [3]), ([12], [12]), ([13, 5, 0, 1, 2, 3, 4, 5, 6, 7, 8, 9, 10, 11], [5, 13]), ([14, 7, 11, 0, 1, 2, 3, 4, 5, 6, 7, 8, 9, 10, 11], [7, 14])])
def say.B6 : List Nat := [0, 0, 2, 0, 0, 16, 0, 64, 1, 257, 775, 1799, 8, 4104, 16383, 32767]
theorem say.tab6 : rtab .any (opsOf Tryd.f37 6) = say.T6 := by kernel_rfl
theorem say.bits6 : waitsOk say.T6.2 say.B6 = true := by kernel_rfl
def say.T10 : Bool × List (List Nat × List Nat) := (true, [([], []), ([], []), ([1], [1]), ([], []), ([], []), ([4], [4]), ([], []), ([6], [6]), ([], []), ([8], [8]), ([0], [0]), ([10], [10]), ([11, 2, 0, 1, 2, 6, 7], [2, 11]), ([12, 0, 1, 2, 6, 7], [12]), ([13, 7, 0, 1, 2, 6, 7], [7, 13]), ([3], [3]), ([15], [15]), ([16, 5, 0, 1, 2, 3, 4, 5, 6, 7, 8, 9, 10, 11, 12, 13, 14], [5, 16]), ([17, 9, 14, 0, 1, 2, 3, 4, 5, 6, 7, 8, 9, 10, 11, 12, 13, 14], [9, 17])])
def say.B10 : List Nat := [0, 0, 2, 0, 0, 16, 0, 64, 0, 256, 1, 1025, 3271, 7367, 15559, 8, 32776, 131071, 262143]
theorem say.tab10 : rtab .any (opsOf Tryd.f37 10) = say.T10 := by kernel_rfl
theorem say.bits10 : waitsOk say.T10.2 say.B10 = true := by kernel_rfl
def say.T17 : Bool × List (List Nat × List Nat) := (true, [([], []), ([], []), ([1], [1]), ([0], [0]), ([3], [3]), ([4, 2], [2, 4]), ([5], [5]), ([], []), ([7, 6, 0, 1, 2, 3, 4, 5, 6, 7], [6, 7])])
def say.B17 : List Nat := [0, 0, 2, 1, 9, 31, 63, 0, 255]
theorem say.tab17 : rtab .any (opsOf Tryd.f37 17) = say.T17 := by kernel_rfl
theorem say.bits17 : waitsOk say.T17.2 say.B17 = true := by kernel_rfl
set_option maxHeartbeats 16000000 in
set_option maxRecDepth 100000 in
theorem say.calls (b : Nat) (s : St) (x : S51) (W : World) (hB : BlkIs W b 76 s.enc) (hs : s.ok) (hk : 1 ≤ x.f5 → x.f5 ≤ 5 → 0 ≤ x.f6 ∧ x.f6 < 64) (r : Bool) (hr : (s.sayS x).isSome = r) :
  Calls Tryd.prog 37 #[.pointer (some ⟨b, 0, none⟩), .agg #[.int .i64 x.f0, .int .i64 x.f1, .int .i64 x.f2, .int .i64 x.f3, .int .i64 x.f4, .int .i64 x.f5, .int .i64 x.f6, .int .i64 x.f7, .int .i64 x.f8, .int .i64 x.f9, .int .i64 x.f10]] W fun e w' => e = .returned (.bool r) ∧ SayPost b s x W w' := by
 have hu := Tryd.underlying51
 have huL := Tryd.underlying41
 obtain ⟨W0, hW0⟩ : ∃ W0, W0 = W.alloc (.cells #[.int .i64 x.f0, .int .i64 x.f1, .int .i64 x.f2, .int .i64 x.f3, .int .i64 x.f4, .int .i64 x.f5, .int .i64 x.f6, .int .i64 x.f7, .int .i64 x.f8, .int .i64 x.f9, .int .i64 x.f10] 51) := ⟨_, rfl⟩
 have hX0 : BlkIs W0 W.heap.size 51 [.int .i64 x.f0, .int .i64 x.f1, .int .i64 x.f2, .int .i64 x.f3, .int .i64 x.f4, .int .i64 x.f5, .int .i64 x.f6, .int .i64 x.f7, .int .i64 x.f8, .int .i64 x.f9, .int .i64 x.f10] := by rw [hW0]; exact heap_alloc_new W _
 have hB0 : BlkIs W0 b 76 s.enc := by rw [hW0]; exact hB.alloc _
 have hG0 : W.grownBy W0 (some b) := by rw [hW0]; exact grown_of_below (below_alloc (Below.refl _ _) _) _
 have hne : ¬ W.heap.size = b := by have := hB.lt; omega
 have HX0 := As hX0
 have SB0 := As hB0
 have HG0 := As hG0
 have HW := As hW0
 have HOK := As hs
 have HNE : Aside0 (some W.heap.size ≠ some b) := ⟨fun e => hne (by injection e)⟩
 clear hB hX0 hB0 hG0 hW0 hs
 unfold SayPost
 by_cases k1 : x.f5 = 1
 ·obtain ⟨f0, f64⟩ := hk (by omega) (by omega)
  have HKL : Aside0 (x.f6.toNat < 64) := ⟨by omega⟩
  have d1 : (x.f5 == 1) = true := beq_iff_eq.mpr k1
  cases hc : decide (x.f4 ≤ s.unt x.f6.toNat) with
  | true =>
   have HT : Aside0 (s.sayS x = none) := ⟨by unfold St.sayS; rw [if_pos k1, if_pos (of_decide_eq_true hc)]⟩
   rw [HT.out] at hr
   have hr2 : r = false := hr.symm
   subst hr2
   clear hr
   clear k1 hk
   go_enter Tryd.func37, Tryd.ntmps37
   go_upto_region 1 with (fail)
   rw [← HW.out]
   obtain ⟨x0_0, x1_0, x2_0, x3_0, x4_0, x5_0, x6_0, x7_0, x8_0, x9_0, x10_0⟩ := cs11 HX0.out
   have u_0 : W0.cell? ⟨b, 576 + x.f6.toNat, none⟩ = some (.int .i64 (s.unt x.f6.toNat)) := (SB0.out.at_ _).trans (St.get_un HOK.out _ HKL.out)
   go_upto_region 3 with (fail)
   go_quiet ((fail))
   go_wp2
   go_ret
   exact ⟨rfl, by rw [HT.out]; exact SB0.out.drewN _, grown2 HG0.out (gdrewN _ _ _)⟩
  | false =>
   have HT : Aside0 (s.sayS x = some (((s.setL x.f6.toNat ⟨x.f1, x.f0, x.f6, x.f7, x.f8, x.f4, x.f9, false⟩).setO x.f6.toNat true).setU x.f6.toNat x.f9)) := ⟨by unfold St.sayS; rw [if_pos k1, if_neg (of_decide_eq_false hc)]⟩
   rw [HT.out] at hr
   have hr2 : r = true := hr.symm
   subst hr2
   clear hr
   clear k1 hk
   go_enter Tryd.func37, Tryd.ntmps37
   go_upto_region 1 with (fail)
   rw [← HW.out]
   obtain ⟨x0_0, x1_0, x2_0, x3_0, x4_0, x5_0, x6_0, x7_0, x8_0, x9_0, x10_0⟩ := cs11 HX0.out
   have u_0 : W0.cell? ⟨b, 576 + x.f6.toNat, none⟩ = some (.int .i64 (s.unt x.f6.toNat)) := (SB0.out.at_ _).trans (St.get_un HOK.out _ HKL.out)
   go_upto_region 3 with (fail)
   go_quiet ((fail))
   go_upto_region 5 with (fail)
   have HX1 := As (HX0.out.drewN nq)
   have SB1 := As (SB0.out.drewN nq)
   have HG1 := As (grown2 HG0.out (gdrewN _ nq _))
   generalize (World.drewN _ nq) = w1 at HX1 SB1 HG1 ⊢
   obtain ⟨x0_1, x1_1, x2_1, x3_1, x4_1, x5_1, x6_1, x7_1, x8_1, x9_1, x10_1⟩ := cs11 HX1.out
   go_still_tail 21, (by kernel_rfl)
   go_upto_region 6 with (((with_reducible refine gate_ (.store 41 (.tmp 40) (.tmp 37)) rfl ?_); refine blk_store rfl rfl 41 (.tmp 40) (.tmp 37) rfl (SB1.out.drew) (x.f6.toNat * 8) (.agg #[.int .i64 x.f1, .int .i64 x.f0, .int .i64 x.f6, .int .i64 x.f7, .int .i64 x.f8, .int .i64 x.f4, .int .i64 x.f9, .bool false]) (⟨x.f1, x.f0, x.f6, x.f7, x.f8, x.f4, x.f9, false⟩ : Le).enc (s.setL x.f6.toNat ⟨x.f1, x.f0, x.f6, x.f7, x.f8, x.f4, x.f9, false⟩).enc ?ha ?hx ?hu ?ht ?hf ?h1 ?hE ?_; (case ha => first | exact ⟨_, rfl, rfl⟩ | exact ⟨_, rfl, by omega⟩); (case hx => rfl); (case hu => rfl); (case ht => kernel_rfl); (case hf => rw [St.len HOK.out]; have := HKL.out; show x.f6.toNat * 8 + 8 ≤ 640; omega); (case h1 => exact le_one _); (case hE => exact St.put_le HOK.out _ HKL.out _); intro w2 SB2 hg2; have HX2 := As (HX1.out.drew.grown hg2.out HNE.out); have HG2 := As (grown2 (grown2 HG1.out (gdrew _ _)) hg2.out)))
   have HOK2 : Aside0 (s.setL x.f6.toNat ⟨x.f1, x.f0, x.f6, x.f7, x.f8, x.f4, x.f9, false⟩).ok := ⟨HOK.out.setL _ _⟩
   have HOK3 : Aside0 ((s.setL x.f6.toNat ⟨x.f1, x.f0, x.f6, x.f7, x.f8, x.f4, x.f9, false⟩).setO x.f6.toNat true).ok := ⟨HOK2.out.setO _ _⟩
   refine start_ (n := 16) (S := fun w' => w'.cell? ⟨W.heap.size, 6, none⟩ = some (.int .i64 x.f6) ∧ w'.cell? ⟨W.heap.size, 9, none⟩ = some (.int .i64 x.f9)) (ds := []) (marksOf 16 0) (by kernel_rfl) rfl rfl ⟨HX2.out.drew.at_ 6, HX2.out.drew.at_ 9⟩ (fun hHeld => ?_)
   refine with_tabW say.tab6 say.bits6 (fun HT_ HW_ => ?_)
   have HX3 := As HX2.out.drew
   have SB3 := As SB2.out.drew
   have HG3 := As (grown2 HG2.out (gdrew _ _))
   generalize w2.drew = w3 at HX3 SB3 HG3 hHeld ⊢
   refine pv_ 0 41 16 1 ?_
   refine pv_ 1 42 16 3 ?_
   refine ta_ 2 43 16 7 ?_ rfl rfl (take_ofW HT_.out HW_.out (by kernel_rfl)) (fun _ _ _ h => h) (by rfl) ?_ hHeld ?_ ?_ ?_
   rotate_left
   ·rintro w' ⟨s0, s1⟩
    go_simp
    with_reducible rfl
   rotate_left
   ·simp only [Act.put, List.setIfInBounds_toArray, List.set_cons_zero, List.set_cons_succ, q1, q2, q3, i64_w, i32_w]
    rfl
   refine pv_ 3 44 16 15 ?_
   refine pv_ 4 45 16 31 ?_
   refine ta_ 5 46 16 63 ?_ rfl rfl (take_ofW HT_.out HW_.out (by kernel_rfl)) (fun _ _ _ h => h) (by rfl) ?_ hHeld ?_ ?_ ?_
   rotate_left
   ·rintro w' ⟨s0, s1⟩
    go_simp
    with_reducible rfl
   rotate_left
   ·simp only [Act.put, List.setIfInBounds_toArray, List.set_cons_zero, List.set_cons_succ, q1, q2, q3, i64_w, i32_w]
    rfl
   refine pv_ 6 47 16 127 ?_
   refine ta_ 7 48 16 255 ?_ rfl rfl (take_ofW HT_.out HW_.out (by kernel_rfl)) (fun _ _ _ h => h) (by rfl) ?_ hHeld ?_ ?_ ?_
   rotate_left
   ·rintro w' ⟨s0, s1⟩
    go_simp
    with_reducible rfl
   rotate_left
   ·simp only [Act.put, List.setIfInBounds_toArray, List.set_cons_zero, List.set_cons_succ, q1, q2, q3, i64_w, i32_w]
    rfl
   refine pv_ 8 49 16 511 ?_
   refine pv_ 9 50 16 1023 ?_
   refine pv_ 10 51 16 2047 ?_
   refine pv_ 12 52 16 6143 ?_
   refine pv_ 13 53 16 14335 ?_
   refine one_ (i := 11) (N := none) (marksOf 16 16383) rfl rfl (one_of HT_.out (by kernel_rfl)) (by decide) (fun K hK => ?_)
   refine blk_store_step ?hw ?hN 4 (.tmp 51) (.const (.bool true)) ?ho SB3.out (512 + x.f6.toNat) (.bool true) [.bool true] ((s.setL x.f6.toNat ⟨x.f1, x.f0, x.f6, x.f7, x.f8, x.f4, x.f9, false⟩).setO x.f6.toNat true).enc ?ha ?hx ?hu ?ht ?hf ?h1 ?hE ?_
   case hw => rfl
   case hN => rfl
   case ho => rfl
   case ha => first | exact ⟨_, rfl, rfl⟩ | exact ⟨_, rfl, by omega⟩
   case hx => rfl
   case hu => rfl
   case ht => kernel_rfl
   case hf => rw [St.len HOK2.out]; have := HKL.out; show 512 + x.f6.toNat + 1 ≤ 640; omega
   case h1 => intro q hq; rw [List.mem_singleton] at hq; subst hq; rfl
   case hE => exact St.put_op HOK2.out _ HKL.out _
   intro w4 SB4 hg4
   have HX4 := As (HX3.out.grown hg4.out HNE.out)
   have HG4 := As (grown2 HG3.out hg4.out)
   clear hg4
   refine hK.out _ _ ⟨HX4.out.at_ 6, HX4.out.at_ 9⟩ (fun hHeld => ?_)
   clear hK K
   refine pv_ 14 54 16 32767 ?_
   refine one_ (i := 15) (N := none) (marksOf 16 65535) rfl rfl (one_of HT_.out (by kernel_rfl)) (by decide) (fun K hK => ?_)
   refine blk_store_step ?hw ?hN 3 (.tmp 54) (.tmp 48) ?ho SB4.out (576 + x.f6.toNat) (.int .i64 x.f9) [.int .i64 x.f9] (((s.setL x.f6.toNat ⟨x.f1, x.f0, x.f6, x.f7, x.f8, x.f4, x.f9, false⟩).setO x.f6.toNat true).setU x.f6.toNat x.f9).enc ?ha ?hx ?hu ?ht ?hf ?h1 ?hE ?_
   case hw => rfl
   case hN => rfl
   case ho => rfl
   case ha => first | exact ⟨_, rfl, rfl⟩ | exact ⟨_, rfl, by omega⟩
   case hx => rfl
   case hu => rfl
   case ht => kernel_rfl
   case hf => rw [St.len HOK3.out]; have := HKL.out; show 576 + x.f6.toNat + 1 ≤ 640; omega
   case h1 => intro q hq; rw [List.mem_singleton] at hq; subst hq; rfl
   case hE => exact St.put_un HOK3.out _ HKL.out _
   intro w5 SB5 hg5
   have HX5 := As (HX4.out.grown hg5.out HNE.out)
   have HG5 := As (grown2 HG4.out hg5.out)
   clear hg5
   refine hK.out _ _ ⟨HX5.out.at_ 6, HX5.out.at_ 9⟩ (fun hHeld => ?_)
   clear hK K
   refine done_ (done_of HT_.out (by kernel_rfl)) ?_
   (try simp only [Act.put, List.setIfInBounds_toArray, List.set_cons_zero, List.set_cons_succ])
   go_wp2
   go_ret
   exact ⟨rfl, by rw [HT.out]; exact SB5.out, HG5.out⟩
 ·have d1 : (x.f5 == 1) = false := beq_eq_false_iff_ne.mpr k1
  by_cases k2 : x.f5 = 2
  ·obtain ⟨f0, f64⟩ := hk (by omega) (by omega)
   have HKL : Aside0 (x.f6.toNat < 64) := ⟨by omega⟩
   have d2 : (x.f5 == 2) = true := beq_iff_eq.mpr k2
   cases hf : s.force x.f6.toNat x.f4 with
   | false =>
    have HT : Aside0 (s.sayS x = none) := ⟨by unfold St.sayS; rw [if_neg k1, if_pos k2, if_neg (by rw [hf]; decide)]⟩
    rw [HT.out] at hr
    have hr2 : r = false := hr.symm
    subst hr2
    clear hr
    clear k1 k2 hk
    go_enter Tryd.func37, Tryd.ntmps37
    go_upto_region 1 with (fail)
    rw [← HW.out]
    obtain ⟨x0_0, x1_0, x2_0, x3_0, x4_0, x5_0, x6_0, x7_0, x8_0, x9_0, x10_0⟩ := cs11 HX0.out
    have u_0 : W0.cell? ⟨b, 576 + x.f6.toNat, none⟩ = some (.int .i64 (s.unt x.f6.toNat)) := (SB0.out.at_ _).trans (St.get_un HOK.out _ HKL.out)
    have HF : Aside0 (∀ n, Calls Tryd.prog 38 #[.pointer (some ⟨b, 0, none⟩), .int .i64 x.f6, .int .i64 x.f4] (W0.drewN n) fun e w' => e = .returned (.bool false) ∧ w' = W0.drewN n) := ⟨fun n => force.calls b s x.f6 x.f4 _ (SB0.out.drewN n) HOK.out f0 f64 false hf⟩
    go_upto_region 8 with (fail)
    go_quiet ((go_at_call 38; exact Calls.quiet_of_same (HF.out _)))
    go_wp2
    go_ret
    exact ⟨rfl, by rw [HT.out]; exact SB0.out.drewN _, grown2 HG0.out (gdrewN _ _ _)⟩
   | true =>
    cases hc : decide (x.f9 ≤ s.unt x.f6.toNat) with
    | true =>
     have HT : Aside0 (s.sayS x = none) := ⟨by unfold St.sayS; rw [if_neg k1, if_pos k2, if_pos hf, if_pos (of_decide_eq_true hc)]⟩
     rw [HT.out] at hr
     have hr2 : r = false := hr.symm
     subst hr2
     clear hr
     clear k1 k2 hk
     go_enter Tryd.func37, Tryd.ntmps37
     go_upto_region 1 with (fail)
     rw [← HW.out]
     obtain ⟨x0_0, x1_0, x2_0, x3_0, x4_0, x5_0, x6_0, x7_0, x8_0, x9_0, x10_0⟩ := cs11 HX0.out
     have u_0 : W0.cell? ⟨b, 576 + x.f6.toNat, none⟩ = some (.int .i64 (s.unt x.f6.toNat)) := (SB0.out.at_ _).trans (St.get_un HOK.out _ HKL.out)
     have HF : Aside0 (∀ n, Calls Tryd.prog 38 #[.pointer (some ⟨b, 0, none⟩), .int .i64 x.f6, .int .i64 x.f4] (W0.drewN n) fun e w' => e = .returned (.bool true) ∧ w' = W0.drewN n) := ⟨fun n => force.calls b s x.f6 x.f4 _ (SB0.out.drewN n) HOK.out f0 f64 true hf⟩
     go_upto_region 8 with (fail)
     go_quiet ((go_at_call 38; exact Calls.quiet_of_same (HF.out _)))
     go_wp2
     go_ret
     exact ⟨rfl, by rw [HT.out]; exact SB0.out.drewN _, grown2 HG0.out (gdrewN _ _ _)⟩
    | false =>
     have HT : Aside0 (s.sayS x = some ((s.setL x.f6.toNat ((s.le x.f6.toNat).till x.f9)).setU x.f6.toNat x.f9)) := ⟨by unfold St.sayS; rw [if_neg k1, if_pos k2, if_pos hf, if_neg (of_decide_eq_false hc)]⟩
     rw [HT.out] at hr
     have hr2 : r = true := hr.symm
     subst hr2
     clear hr
     clear k1 k2 hk
     go_enter Tryd.func37, Tryd.ntmps37
     go_upto_region 1 with (fail)
     rw [← HW.out]
     obtain ⟨x0_0, x1_0, x2_0, x3_0, x4_0, x5_0, x6_0, x7_0, x8_0, x9_0, x10_0⟩ := cs11 HX0.out
     have u_0 : W0.cell? ⟨b, 576 + x.f6.toNat, none⟩ = some (.int .i64 (s.unt x.f6.toNat)) := (SB0.out.at_ _).trans (St.get_un HOK.out _ HKL.out)
     have HF : Aside0 (∀ n, Calls Tryd.prog 38 #[.pointer (some ⟨b, 0, none⟩), .int .i64 x.f6, .int .i64 x.f4] (W0.drewN n) fun e w' => e = .returned (.bool true) ∧ w' = W0.drewN n) := ⟨fun n => force.calls b s x.f6 x.f4 _ (SB0.out.drewN n) HOK.out f0 f64 true hf⟩
     go_upto_region 8 with (fail)
     go_quiet ((go_at_call 38; exact Calls.quiet_of_same (HF.out _)))
     go_upto_region 10 with (fail)
     have HX1 := As (HX0.out.drewN nq)
     have SB1 := As (SB0.out.drewN nq)
     have HG1 := As (grown2 HG0.out (gdrewN _ nq _))
     generalize (World.drewN _ nq) = w2 at HX1 SB1 HG1 ⊢
     have HOK2 : Aside0 (s.setL x.f6.toNat ((s.le x.f6.toNat).till x.f9)).ok := ⟨HOK.out.setL _ _⟩
     refine start_ (n := 19) (S := fun w' => w'.cell? ⟨W.heap.size, 6, none⟩ = some (.int .i64 x.f6) ∧ w'.cell? ⟨W.heap.size, 9, none⟩ = some (.int .i64 x.f9)) (ds := []) (marksOf 19 0) (by kernel_rfl) rfl rfl ⟨HX1.out.drew.at_ 6, HX1.out.drew.at_ 9⟩ (fun hHeld => ?_)
     refine with_tabW say.tab10 say.bits10 (fun HT_ HW_ => ?_)
     have HX3 := As HX1.out.drew
     have SB3 := As SB1.out.drew
     have HG3 := As (grown2 HG1.out (gdrew _ _))
     generalize w2.drew = w3 at HX3 SB3 HG3 hHeld ⊢
     refine pv_ 0 76 19 1 ?_
     refine pv_ 1 77 19 3 ?_
     refine ta_ 2 78 19 7 ?_ rfl rfl (take_ofW HT_.out HW_.out (by kernel_rfl)) (fun _ _ _ h => h) (by rfl) ?_ hHeld ?_ ?_ ?_
     rotate_left
     ·rintro w' ⟨s0, s1⟩
      go_simp
      with_reducible rfl
     rotate_left
     ·simp only [Act.put, List.setIfInBounds_toArray, List.set_cons_zero, List.set_cons_succ, q1, q2, q3, i64_w, i32_w]
      rfl
     refine pv_ 3 79 19 15 ?_
     refine pv_ 4 80 19 31 ?_
     refine ta_ 5 81 19 63 ?_ rfl rfl (take_ofW HT_.out HW_.out (by kernel_rfl)) (fun _ _ _ h => h) (by rfl) ?_ hHeld ?_ ?_ ?_
     rotate_left
     ·rintro w' ⟨s0, s1⟩
      go_simp
      with_reducible rfl
     rotate_left
     ·simp only [Act.put, List.setIfInBounds_toArray, List.set_cons_zero, List.set_cons_succ, q1, q2, q3, i64_w, i32_w]
      rfl
     refine pv_ 6 82 19 127 ?_
     refine ta_ 7 83 19 255 ?_ rfl rfl (take_ofW HT_.out HW_.out (by kernel_rfl)) (fun _ _ _ h => h) (by rfl) ?_ hHeld ?_ ?_ ?_
     rotate_left
     ·rintro w' ⟨s0, s1⟩
      go_simp
      with_reducible rfl
     rotate_left
     ·simp only [Act.put, List.setIfInBounds_toArray, List.set_cons_zero, List.set_cons_succ, q1, q2, q3, i64_w, i32_w]
      rfl
     refine pv_ 8 84 19 511 ?_
     refine ta_ 9 85 19 1023 ?_ rfl rfl (take_ofW HT_.out HW_.out (by kernel_rfl)) (fun _ _ _ h => h) (by rfl) ?_ hHeld ?_ ?_ ?_
     rotate_left
     ·rintro w' ⟨s0, s1⟩
      go_simp
      with_reducible rfl
     rotate_left
     ·simp only [Act.put, List.setIfInBounds_toArray, List.set_cons_zero, List.set_cons_succ, q1, q2, q3, i64_w, i32_w]
      rfl
     refine pv_ 10 86 19 2047 ?_
     refine pv_ 11 87 19 4095 ?_
     refine pv_ 12 88 19 8191 ?_
     refine pv_ 13 89 19 16383 ?_
     refine pv_ 15 90 19 49151 ?_
     refine pv_ 16 91 19 114687 ?_
     refine one_ (i := 14) (N := none) (marksOf 19 131071) rfl rfl (one_of HT_.out (by kernel_rfl)) (by decide) (fun K hK => ?_)
     refine blk_store_step ?hw ?hN 3 (.tmp 89) (.tmp 83) ?ho SB3.out (x.f6.toNat * 8 + 6) (.int .i64 x.f9) [.int .i64 x.f9] (s.setL x.f6.toNat ((s.le x.f6.toNat).till x.f9)).enc ?ha ?hx ?hu ?ht ?hf ?h1 ?hE ?_
     case hw => rfl
     case hN => rfl
     case ho => rfl
     case ha => first | exact ⟨_, rfl, rfl⟩ | exact ⟨_, rfl, by omega⟩
     case hx => rfl
     case hu => rfl
     case ht => kernel_rfl
     case hf => rw [St.len HOK.out]; have := HKL.out; show x.f6.toNat * 8 + 6 + 1 ≤ 640; omega
     case h1 => intro q hq; rw [List.mem_singleton] at hq; subst hq; rfl
     case hE => exact St.put_one HOK.out _ 6 HKL.out (by omega) _ _ rfl
     intro w4 SB4 hg4
     have HX4 := As (HX3.out.grown hg4.out HNE.out)
     have HG4 := As (grown2 HG3.out hg4.out)
     clear hg4
     refine hK.out _ _ ⟨HX4.out.at_ 6, HX4.out.at_ 9⟩ (fun hHeld => ?_)
     clear hK K
     refine pv_ 17 92 19 262143 ?_
     refine one_ (i := 18) (N := none) (marksOf 19 524287) rfl rfl (one_of HT_.out (by kernel_rfl)) (by decide) (fun K hK => ?_)
     refine blk_store_step ?hw ?hN 3 (.tmp 92) (.tmp 85) ?ho SB4.out (576 + x.f6.toNat) (.int .i64 x.f9) [.int .i64 x.f9] ((s.setL x.f6.toNat ((s.le x.f6.toNat).till x.f9)).setU x.f6.toNat x.f9).enc ?ha ?hx ?hu ?ht ?hf ?h1 ?hE ?_
     case hw => rfl
     case hN => rfl
     case ho => rfl
     case ha => first | exact ⟨_, rfl, rfl⟩ | exact ⟨_, rfl, by omega⟩
     case hx => rfl
     case hu => rfl
     case ht => kernel_rfl
     case hf => rw [St.len HOK2.out]; have := HKL.out; show 576 + x.f6.toNat + 1 ≤ 640; omega
     case h1 => intro q hq; rw [List.mem_singleton] at hq; subst hq; rfl
     case hE => exact St.put_un HOK2.out _ HKL.out _
     intro w5 SB5 hg5
     have HX5 := As (HX4.out.grown hg5.out HNE.out)
     have HG5 := As (grown2 HG4.out hg5.out)
     clear hg5
     refine hK.out _ _ ⟨HX5.out.at_ 6, HX5.out.at_ 9⟩ (fun hHeld => ?_)
     clear hK K
     refine done_ (done_of HT_.out (by kernel_rfl)) ?_
     (try simp only [Act.put, List.setIfInBounds_toArray, List.set_cons_zero, List.set_cons_succ])
     go_wp2
     go_ret
     exact ⟨rfl, by rw [HT.out]; exact SB5.out, HG5.out⟩
  ·have d2 : (x.f5 == 2) = false := beq_eq_false_iff_ne.mpr k2
   by_cases k3 : x.f5 = 3
   ·obtain ⟨f0, f64⟩ := hk (by omega) (by omega)
    have HKL : Aside0 (x.f6.toNat < 64) := ⟨by omega⟩
    have d3 : (x.f5 == 3) = true := beq_iff_eq.mpr k3
    cases hf : s.force x.f6.toNat x.f4 with
    | false =>
     have HT : Aside0 (s.sayS x = none) := ⟨by unfold St.sayS; rw [if_neg k1, if_neg k2, if_pos (.inl k3), if_neg (by rw [hf]; decide)]⟩
     rw [HT.out] at hr
     have hr2 : r = false := hr.symm
     subst hr2
     clear hr
     clear k1 k2 k3 hk
     have HFF := As hf
     clear hf
     go_enter Tryd.func37, Tryd.ntmps37
     go_upto_region 1 with (fail)
     rw [← HW.out]
     obtain ⟨x0_0, x1_0, x2_0, x3_0, x4_0, x5_0, x6_0, x7_0, x8_0, x9_0, x10_0⟩ := cs11 HX0.out
     go_wp2_with ((go_at_call 38; (with_reducible refine (force.calls b s x.f6 x.f4 _ SB0.out HOK.out f0 f64 false HFF.out).mono ?_); rintro e w3 ⟨rfl, rfl⟩))
     go_ret
     exact ⟨rfl, by rw [HT.out]; exact SB0.out, HG0.out⟩
    | true =>
     have HT : Aside0 (s.sayS x = some (s.setO x.f6.toNat false)) := ⟨by unfold St.sayS; rw [if_neg k1, if_neg k2, if_pos (.inl k3), if_pos hf]⟩
     rw [HT.out] at hr
     have hr2 : r = true := hr.symm
     subst hr2
     clear hr
     clear k1 k2 k3 hk
     have HFF := As hf
     clear hf
     go_enter Tryd.func37, Tryd.ntmps37
     go_upto_region 1 with (fail)
     rw [← HW.out]
     obtain ⟨x0_0, x1_0, x2_0, x3_0, x4_0, x5_0, x6_0, x7_0, x8_0, x9_0, x10_0⟩ := cs11 HX0.out
     go_upto_region 15 with ((go_at_call 38; (with_reducible refine (force.calls b s x.f6 x.f4 _ SB0.out HOK.out f0 f64 true HFF.out).mono ?_); rintro e w3 ⟨rfl, rfl⟩))
     go_still_tail 6, (by kernel_rfl)
     go_wp2_with (((with_reducible refine gate_ (.store 4 (.tmp 108) (.const (.bool false))) rfl ?_); refine blk_store rfl rfl 4 (.tmp 108) (.const (.bool false)) rfl (SB0.out.drew) (512 + x.f6.toNat) (.bool false) [.bool false] (s.setO x.f6.toNat false).enc ?ha ?hx ?hu ?ht ?hf ?h1 ?hE ?_; (case ha => first | exact ⟨_, rfl, rfl⟩ | exact ⟨_, rfl, by omega⟩); (case hx => rfl); (case hu => rfl); (case ht => kernel_rfl); (case hf => rw [St.len HOK.out]; have := HKL.out; show 512 + x.f6.toNat + 1 ≤ 640; omega); (case h1 => intro q hq; rw [List.mem_singleton] at hq; subst hq; rfl); (case hE => exact St.put_op HOK.out _ HKL.out _); intro w2 SB2 hg2; have HG2 := As (grown2 (grown2 HG0.out (gdrew _ _)) hg2.out)))
     go_ret
     exact ⟨rfl, by rw [HT.out]; exact SB2.out, HG2.out⟩
   ·have d3 : (x.f5 == 3) = false := beq_eq_false_iff_ne.mpr k3
    by_cases k5 : x.f5 = 5
    ·obtain ⟨f0, f64⟩ := hk (by omega) (by omega)
     have HKL : Aside0 (x.f6.toNat < 64) := ⟨by omega⟩
     have d5 : (x.f5 == 5) = true := beq_iff_eq.mpr k5
     cases hf : s.force x.f6.toNat x.f4 with
     | false =>
      have HT : Aside0 (s.sayS x = none) := ⟨by unfold St.sayS; rw [if_neg k1, if_neg k2, if_pos (.inr k5), if_neg (by rw [hf]; decide)]⟩
      rw [HT.out] at hr
      have hr2 : r = false := hr.symm
      subst hr2
      clear hr
      clear k1 k2 k3 k5 hk
      have HFF := As hf
      clear hf
      go_enter Tryd.func37, Tryd.ntmps37
      go_upto_region 1 with (fail)
      rw [← HW.out]
      obtain ⟨x0_0, x1_0, x2_0, x3_0, x4_0, x5_0, x6_0, x7_0, x8_0, x9_0, x10_0⟩ := cs11 HX0.out
      go_wp2_with ((go_at_call 38; (with_reducible refine (force.calls b s x.f6 x.f4 _ SB0.out HOK.out f0 f64 false HFF.out).mono ?_); rintro e w3 ⟨rfl, rfl⟩))
      go_ret
      exact ⟨rfl, by rw [HT.out]; exact SB0.out, HG0.out⟩
     | true =>
      have HT : Aside0 (s.sayS x = some (s.setO x.f6.toNat false)) := ⟨by unfold St.sayS; rw [if_neg k1, if_neg k2, if_pos (.inr k5), if_pos hf]⟩
      rw [HT.out] at hr
      have hr2 : r = true := hr.symm
      subst hr2
      clear hr
      clear k1 k2 k3 k5 hk
      have HFF := As hf
      clear hf
      go_enter Tryd.func37, Tryd.ntmps37
      go_upto_region 1 with (fail)
      rw [← HW.out]
      obtain ⟨x0_0, x1_0, x2_0, x3_0, x4_0, x5_0, x6_0, x7_0, x8_0, x9_0, x10_0⟩ := cs11 HX0.out
      go_upto_region 15 with ((go_at_call 38; (with_reducible refine (force.calls b s x.f6 x.f4 _ SB0.out HOK.out f0 f64 true HFF.out).mono ?_); rintro e w3 ⟨rfl, rfl⟩))
      go_still_tail 6, (by kernel_rfl)
      go_wp2_with (((with_reducible refine gate_ (.store 4 (.tmp 108) (.const (.bool false))) rfl ?_); refine blk_store rfl rfl 4 (.tmp 108) (.const (.bool false)) rfl (SB0.out.drew) (512 + x.f6.toNat) (.bool false) [.bool false] (s.setO x.f6.toNat false).enc ?ha ?hx ?hu ?ht ?hf ?h1 ?hE ?_; (case ha => first | exact ⟨_, rfl, rfl⟩ | exact ⟨_, rfl, by omega⟩); (case hx => rfl); (case hu => rfl); (case ht => kernel_rfl); (case hf => rw [St.len HOK.out]; have := HKL.out; show 512 + x.f6.toNat + 1 ≤ 640; omega); (case h1 => intro q hq; rw [List.mem_singleton] at hq; subst hq; rfl); (case hE => exact St.put_op HOK.out _ HKL.out _); intro w2 SB2 hg2; have HG2 := As (grown2 (grown2 HG0.out (gdrew _ _)) hg2.out)))
      go_ret
      exact ⟨rfl, by rw [HT.out]; exact SB2.out, HG2.out⟩
    ·have d5 : (x.f5 == 5) = false := beq_eq_false_iff_ne.mpr k5
     by_cases k4 : x.f5 = 4
     ·obtain ⟨f0, f64⟩ := hk (by omega) (by omega)
      have HKL : Aside0 (x.f6.toNat < 64) := ⟨by omega⟩
      have d4 : (x.f5 == 4) = true := beq_iff_eq.mpr k4
      cases hf : s.force x.f6.toNat x.f4 with
      | false =>
       have HT : Aside0 (s.sayS x = none) := ⟨by unfold St.sayS; rw [if_neg k1, if_neg k2, if_neg (fun h => h.elim k3 k5), if_pos k4, if_neg (by rw [hf]; decide)]⟩
       rw [HT.out] at hr
       have hr2 : r = false := hr.symm
       subst hr2
       clear hr
       clear k1 k2 k3 k5 k4 hk
       have HFF := As hf
       clear hf
       go_enter Tryd.func37, Tryd.ntmps37
       go_upto_region 1 with (fail)
       rw [← HW.out]
       obtain ⟨x0_0, x1_0, x2_0, x3_0, x4_0, x5_0, x6_0, x7_0, x8_0, x9_0, x10_0⟩ := cs11 HX0.out
       go_upto_region 17 with (fail)
       refine start_ (n := 9) (S := fun w' => w'.cell? ⟨W.heap.size, 6, none⟩ = some (.int .i64 x.f6) ∧ w'.cell? ⟨b, x.f6.toNat * 8, none⟩ = some (.int .i64 (s.le x.f6.toNat).o) ∧ w'.cell? ⟨b, x.f6.toNat * 8 + 1, none⟩ = some (.int .i64 (s.le x.f6.toNat).k) ∧ w'.cell? ⟨b, x.f6.toNat * 8 + 2, none⟩ = some (.int .i64 (s.le x.f6.toNat).s) ∧ w'.cell? ⟨b, x.f6.toNat * 8 + 3, none⟩ = some (.int .i64 (s.le x.f6.toNat).h) ∧ w'.cell? ⟨b, x.f6.toNat * 8 + 4, none⟩ = some (.int .i64 (s.le x.f6.toNat).z) ∧ w'.cell? ⟨b, x.f6.toNat * 8 + 5, none⟩ = some (.int .i64 (s.le x.f6.toNat).fr) ∧ w'.cell? ⟨b, x.f6.toNat * 8 + 6, none⟩ = some (.int .i64 (s.le x.f6.toNat).un) ∧ w'.cell? ⟨b, x.f6.toNat * 8 + 7, none⟩ = some (.bool (s.le x.f6.toNat).rc)) (ds := []) (marksOf 9 0) (by kernel_rfl) rfl rfl ⟨HX0.out.drew.at_ 6, (SB0.out.drew.at_ _).trans (St.get_le HOK.out _ 0 HKL.out (by omega)), (SB0.out.drew.at_ _).trans (St.get_le HOK.out _ 1 HKL.out (by omega)), (SB0.out.drew.at_ _).trans (St.get_le HOK.out _ 2 HKL.out (by omega)), (SB0.out.drew.at_ _).trans (St.get_le HOK.out _ 3 HKL.out (by omega)), (SB0.out.drew.at_ _).trans (St.get_le HOK.out _ 4 HKL.out (by omega)), (SB0.out.drew.at_ _).trans (St.get_le HOK.out _ 5 HKL.out (by omega)), (SB0.out.drew.at_ _).trans (St.get_le HOK.out _ 6 HKL.out (by omega)), (SB0.out.drew.at_ _).trans (St.get_le HOK.out _ 7 HKL.out (by omega))⟩ (fun hHeld => ?_)
       refine with_tabW say.tab17 say.bits17 (fun HT_ HW_ => ?_)
       have HX3 := As HX0.out.drew
       have SB3 := As SB0.out.drew
       have HG3 := As (grown2 HG0.out (gdrew _ _))
       generalize W0.drew = w3 at HX3 SB3 HG3 hHeld ⊢
       refine pv_ 0 111 9 1 ?_
       refine pv_ 1 112 9 3 ?_
       refine ta_ 2 113 9 7 ?_ rfl rfl (take_ofW HT_.out HW_.out (by kernel_rfl)) (fun _ _ _ h => h) (by rfl) ?_ hHeld ?_ ?_ ?_
       rotate_left
       ·rintro w' ⟨s0, s1, s2, s3, s4, s5, s6, s7, s8⟩
        go_simp
        with_reducible rfl
       rotate_left
       ·simp only [Act.put, List.setIfInBounds_toArray, List.set_cons_zero, List.set_cons_succ, q1, q2, q3, i64_w, i32_w]
        rfl
       refine pv_ 3 114 9 15 ?_
       refine pv_ 4 115 9 31 ?_
       refine pv_ 5 116 9 63 ?_
       refine ta_ 6 117 9 127 ?_ rfl rfl (take_ofW HT_.out HW_.out (by kernel_rfl)) (fun _ _ _ h => h) (by rfl) ?_ hHeld ?_ ?_ ?_
       rotate_left
       ·rintro w' ⟨s0, s1, s2, s3, s4, s5, s6, s7, s8⟩
        go_simp
        with_reducible rfl
       rotate_left
       ·simp only [Act.put, List.setIfInBounds_toArray, List.set_cons_zero, List.set_cons_succ, q1, q2, q3, i64_w, i32_w]
        rfl
       refine one_ (i := 7) (N := some 5) (marksOf 9 255) rfl rfl (one_of HT_.out (by kernel_rfl)) (by decide) (fun K hK => ?_)
       refine box_step ?hg (N := 5) ?hd (cs := #[.int .i64 0, .int .i64 0, .int .i64 0, .int .i64 0, .int .i64 0, .int .i64 0, .int .i64 0, .bool false]) (t := 41) ?hr ?_
       case hd => rfl
       case hg => rfl
       case hr => first | (go_simp; done) | (go_simp; rfl)
       intro g hg w4 hbox hb4
       have HN4 : Aside0 (BlkIs w4 g 41 [.int .i64 0, .int .i64 0, .int .i64 0, .int .i64 0, .int .i64 0, .int .i64 0, .int .i64 0, .bool false]) := ⟨hbox⟩
       have HX4 := As (HX3.out.below hb4)
       have SB4 := As (SB3.out.below hb4)
       have HG4 := As (grown2 HG3.out (grown_of_below hb4 _))
       have HGW : Aside0 (W.heap.size < g ∧ b < g) := ⟨by rw [hg]; exact ⟨HX3.out.lt, SB3.out.lt⟩⟩
       have HGN : Aside0 (W.heap.size ≤ g) := ⟨by have := HGW.out.1; omega⟩
       clear hbox hb4 hg
       refine hK.out _ _ ⟨HX4.out.at_ 6, (SB4.out.at_ _).trans (St.get_le HOK.out _ 0 HKL.out (by omega)), (SB4.out.at_ _).trans (St.get_le HOK.out _ 1 HKL.out (by omega)), (SB4.out.at_ _).trans (St.get_le HOK.out _ 2 HKL.out (by omega)), (SB4.out.at_ _).trans (St.get_le HOK.out _ 3 HKL.out (by omega)), (SB4.out.at_ _).trans (St.get_le HOK.out _ 4 HKL.out (by omega)), (SB4.out.at_ _).trans (St.get_le HOK.out _ 5 HKL.out (by omega)), (SB4.out.at_ _).trans (St.get_le HOK.out _ 6 HKL.out (by omega)), (SB4.out.at_ _).trans (St.get_le HOK.out _ 7 HKL.out (by omega))⟩ (fun hHeld => ?_)
       clear hK K
       refine norm_ (a' := ?_) ?_ ?_
       rotate_left
       ·show Act.put _ (some 5) _ = _
        simp only [Act.put, List.setIfInBounds_toArray, List.set_cons_zero, List.set_cons_succ, q1, q2, q3, i64_w, i32_w]
        rfl
       refine one_ (i := 8) (N := none) (marksOf 9 511) rfl rfl (one_of HT_.out (by kernel_rfl)) (by decide) (fun K hK => ?_)
       refine blk_store_step ?hw ?hN 41 (.tmp 5) (.tmp 117) ?ho HN4.out (0) (.agg #[.int .i64 (s.le x.f6.toNat).o, .int .i64 (s.le x.f6.toNat).k, .int .i64 (s.le x.f6.toNat).s, .int .i64 (s.le x.f6.toNat).h, .int .i64 (s.le x.f6.toNat).z, .int .i64 (s.le x.f6.toNat).fr, .int .i64 (s.le x.f6.toNat).un, .bool (s.le x.f6.toNat).rc]) (s.le x.f6.toNat).enc (s.le x.f6.toNat).enc ?ha ?hx ?hu ?ht ?hf ?h1 ?hE ?_
       case hw => rfl
       case hN => rfl
       case ho => rfl
       case ha => first | exact ⟨_, rfl, rfl⟩ | exact ⟨_, rfl, by omega⟩
       case hx => rfl
       case hu => rfl
       case ht => kernel_rfl
       case hf => exact Nat.le_refl 8
       case h1 => exact le_one _
       case hE => exact over_whole _ _ rfl
       intro w5 HN5 hg5
       have HX5 := As (HX4.out.grown hg5.out (fun e => by injection e with e; have := HGW.out.1; omega))
       have SB5 := As (SB4.out.grown hg5.out (fun e => by injection e with e; have := HGW.out.2; omega))
       have HG5 := As (grown_new HG4.out hg5.out HGN.out)
       clear hg5
       refine hK.out _ _ ⟨HX5.out.at_ 6, (SB5.out.at_ _).trans (St.get_le HOK.out _ 0 HKL.out (by omega)), (SB5.out.at_ _).trans (St.get_le HOK.out _ 1 HKL.out (by omega)), (SB5.out.at_ _).trans (St.get_le HOK.out _ 2 HKL.out (by omega)), (SB5.out.at_ _).trans (St.get_le HOK.out _ 3 HKL.out (by omega)), (SB5.out.at_ _).trans (St.get_le HOK.out _ 4 HKL.out (by omega)), (SB5.out.at_ _).trans (St.get_le HOK.out _ 5 HKL.out (by omega)), (SB5.out.at_ _).trans (St.get_le HOK.out _ 6 HKL.out (by omega)), (SB5.out.at_ _).trans (St.get_le HOK.out _ 7 HKL.out (by omega))⟩ (fun hHeld => ?_)
       clear hK K
       refine done_ (done_of HT_.out (by kernel_rfl)) ?_
       (try simp only [Act.put, List.setIfInBounds_toArray, List.set_cons_zero, List.set_cons_succ])
       obtain ⟨x0_5, x1_5, x2_5, x3_5, x4_5, x5_5, x6_5, x7_5, x8_5, x9_5, x10_5⟩ := cs11 HX5.out
       have n3_5 : w5.cell? ⟨g, 3, none⟩ = some (.int .i64 (s.le x.f6.toNat).h) := HN5.out.at_ 3
       have n4_5 : w5.cell? ⟨g, 4, none⟩ = some (.int .i64 (s.le x.f6.toNat).z) := HN5.out.at_ 4
       go_wp2_with ((go_at_call 38; (with_reducible refine (force.calls b s x.f6 x.f4 _ SB5.out HOK.out f0 f64 false HFF.out).mono ?_); rintro e w3 ⟨rfl, rfl⟩))
       go_ret
       exact ⟨rfl, by rw [HT.out]; exact SB5.out, HG5.out⟩
      | true =>
       by_cases e3 : (s.le x.f6.toNat).h = x.f7
       ·by_cases e4 : (s.le x.f6.toNat).z = x.f8
        ·have HT : Aside0 (s.sayS x = some (s.setL x.f6.toNat (s.le x.f6.toNat).got)) := ⟨by unfold St.sayS; rw [if_neg k1, if_neg k2, if_neg (fun h => h.elim k3 k5), if_pos k4, if_pos hf, if_pos e3, if_pos e4]⟩
         rw [HT.out] at hr
         have hr2 : r = true := hr.symm
         subst hr2
         clear hr
         have q3 : ((s.le x.f6.toNat).h != x.f7) = false := bne_eq_false_iff_eq.mpr e3
         have q4 : ((s.le x.f6.toNat).z != x.f8) = false := bne_eq_false_iff_eq.mpr e4
         clear e3 e4
         clear k1 k2 k3 k5 k4 hk
         have HFF := As hf
         clear hf
         go_enter Tryd.func37, Tryd.ntmps37
         go_upto_region 1 with (fail)
         rw [← HW.out]
         obtain ⟨x0_0, x1_0, x2_0, x3_0, x4_0, x5_0, x6_0, x7_0, x8_0, x9_0, x10_0⟩ := cs11 HX0.out
         go_upto_region 17 with (fail)
         refine start_ (n := 9) (S := fun w' => w'.cell? ⟨W.heap.size, 6, none⟩ = some (.int .i64 x.f6) ∧ w'.cell? ⟨b, x.f6.toNat * 8, none⟩ = some (.int .i64 (s.le x.f6.toNat).o) ∧ w'.cell? ⟨b, x.f6.toNat * 8 + 1, none⟩ = some (.int .i64 (s.le x.f6.toNat).k) ∧ w'.cell? ⟨b, x.f6.toNat * 8 + 2, none⟩ = some (.int .i64 (s.le x.f6.toNat).s) ∧ w'.cell? ⟨b, x.f6.toNat * 8 + 3, none⟩ = some (.int .i64 (s.le x.f6.toNat).h) ∧ w'.cell? ⟨b, x.f6.toNat * 8 + 4, none⟩ = some (.int .i64 (s.le x.f6.toNat).z) ∧ w'.cell? ⟨b, x.f6.toNat * 8 + 5, none⟩ = some (.int .i64 (s.le x.f6.toNat).fr) ∧ w'.cell? ⟨b, x.f6.toNat * 8 + 6, none⟩ = some (.int .i64 (s.le x.f6.toNat).un) ∧ w'.cell? ⟨b, x.f6.toNat * 8 + 7, none⟩ = some (.bool (s.le x.f6.toNat).rc)) (ds := []) (marksOf 9 0) (by kernel_rfl) rfl rfl ⟨HX0.out.drew.at_ 6, (SB0.out.drew.at_ _).trans (St.get_le HOK.out _ 0 HKL.out (by omega)), (SB0.out.drew.at_ _).trans (St.get_le HOK.out _ 1 HKL.out (by omega)), (SB0.out.drew.at_ _).trans (St.get_le HOK.out _ 2 HKL.out (by omega)), (SB0.out.drew.at_ _).trans (St.get_le HOK.out _ 3 HKL.out (by omega)), (SB0.out.drew.at_ _).trans (St.get_le HOK.out _ 4 HKL.out (by omega)), (SB0.out.drew.at_ _).trans (St.get_le HOK.out _ 5 HKL.out (by omega)), (SB0.out.drew.at_ _).trans (St.get_le HOK.out _ 6 HKL.out (by omega)), (SB0.out.drew.at_ _).trans (St.get_le HOK.out _ 7 HKL.out (by omega))⟩ (fun hHeld => ?_)
         refine with_tabW say.tab17 say.bits17 (fun HT_ HW_ => ?_)
         have HX3 := As HX0.out.drew
         have SB3 := As SB0.out.drew
         have HG3 := As (grown2 HG0.out (gdrew _ _))
         generalize W0.drew = w3 at HX3 SB3 HG3 hHeld ⊢
         refine pv_ 0 111 9 1 ?_
         refine pv_ 1 112 9 3 ?_
         refine ta_ 2 113 9 7 ?_ rfl rfl (take_ofW HT_.out HW_.out (by kernel_rfl)) (fun _ _ _ h => h) (by rfl) ?_ hHeld ?_ ?_ ?_
         rotate_left
         ·rintro w' ⟨s0, s1, s2, s3, s4, s5, s6, s7, s8⟩
          go_simp
          with_reducible rfl
         rotate_left
         ·simp only [Act.put, List.setIfInBounds_toArray, List.set_cons_zero, List.set_cons_succ, q1, q2, q3, i64_w, i32_w]
          rfl
         refine pv_ 3 114 9 15 ?_
         refine pv_ 4 115 9 31 ?_
         refine pv_ 5 116 9 63 ?_
         refine ta_ 6 117 9 127 ?_ rfl rfl (take_ofW HT_.out HW_.out (by kernel_rfl)) (fun _ _ _ h => h) (by rfl) ?_ hHeld ?_ ?_ ?_
         rotate_left
         ·rintro w' ⟨s0, s1, s2, s3, s4, s5, s6, s7, s8⟩
          go_simp
          with_reducible rfl
         rotate_left
         ·simp only [Act.put, List.setIfInBounds_toArray, List.set_cons_zero, List.set_cons_succ, q1, q2, q3, i64_w, i32_w]
          rfl
         refine one_ (i := 7) (N := some 5) (marksOf 9 255) rfl rfl (one_of HT_.out (by kernel_rfl)) (by decide) (fun K hK => ?_)
         refine box_step ?hg (N := 5) ?hd (cs := #[.int .i64 0, .int .i64 0, .int .i64 0, .int .i64 0, .int .i64 0, .int .i64 0, .int .i64 0, .bool false]) (t := 41) ?hr ?_
         case hd => rfl
         case hg => rfl
         case hr => first | (go_simp; done) | (go_simp; rfl)
         intro g hg w4 hbox hb4
         have HN4 : Aside0 (BlkIs w4 g 41 [.int .i64 0, .int .i64 0, .int .i64 0, .int .i64 0, .int .i64 0, .int .i64 0, .int .i64 0, .bool false]) := ⟨hbox⟩
         have HX4 := As (HX3.out.below hb4)
         have SB4 := As (SB3.out.below hb4)
         have HG4 := As (grown2 HG3.out (grown_of_below hb4 _))
         have HGW : Aside0 (W.heap.size < g ∧ b < g) := ⟨by rw [hg]; exact ⟨HX3.out.lt, SB3.out.lt⟩⟩
         have HGN : Aside0 (W.heap.size ≤ g) := ⟨by have := HGW.out.1; omega⟩
         clear hbox hb4 hg
         refine hK.out _ _ ⟨HX4.out.at_ 6, (SB4.out.at_ _).trans (St.get_le HOK.out _ 0 HKL.out (by omega)), (SB4.out.at_ _).trans (St.get_le HOK.out _ 1 HKL.out (by omega)), (SB4.out.at_ _).trans (St.get_le HOK.out _ 2 HKL.out (by omega)), (SB4.out.at_ _).trans (St.get_le HOK.out _ 3 HKL.out (by omega)), (SB4.out.at_ _).trans (St.get_le HOK.out _ 4 HKL.out (by omega)), (SB4.out.at_ _).trans (St.get_le HOK.out _ 5 HKL.out (by omega)), (SB4.out.at_ _).trans (St.get_le HOK.out _ 6 HKL.out (by omega)), (SB4.out.at_ _).trans (St.get_le HOK.out _ 7 HKL.out (by omega))⟩ (fun hHeld => ?_)
         clear hK K
         refine norm_ (a' := ?_) ?_ ?_
         rotate_left
         ·show Act.put _ (some 5) _ = _
          simp only [Act.put, List.setIfInBounds_toArray, List.set_cons_zero, List.set_cons_succ, q1, q2, q3, i64_w, i32_w]
          rfl
         refine one_ (i := 8) (N := none) (marksOf 9 511) rfl rfl (one_of HT_.out (by kernel_rfl)) (by decide) (fun K hK => ?_)
         refine blk_store_step ?hw ?hN 41 (.tmp 5) (.tmp 117) ?ho HN4.out (0) (.agg #[.int .i64 (s.le x.f6.toNat).o, .int .i64 (s.le x.f6.toNat).k, .int .i64 (s.le x.f6.toNat).s, .int .i64 (s.le x.f6.toNat).h, .int .i64 (s.le x.f6.toNat).z, .int .i64 (s.le x.f6.toNat).fr, .int .i64 (s.le x.f6.toNat).un, .bool (s.le x.f6.toNat).rc]) (s.le x.f6.toNat).enc (s.le x.f6.toNat).enc ?ha ?hx ?hu ?ht ?hf ?h1 ?hE ?_
         case hw => rfl
         case hN => rfl
         case ho => rfl
         case ha => first | exact ⟨_, rfl, rfl⟩ | exact ⟨_, rfl, by omega⟩
         case hx => rfl
         case hu => rfl
         case ht => kernel_rfl
         case hf => exact Nat.le_refl 8
         case h1 => exact le_one _
         case hE => exact over_whole _ _ rfl
         intro w5 HN5 hg5
         have HX5 := As (HX4.out.grown hg5.out (fun e => by injection e with e; have := HGW.out.1; omega))
         have SB5 := As (SB4.out.grown hg5.out (fun e => by injection e with e; have := HGW.out.2; omega))
         have HG5 := As (grown_new HG4.out hg5.out HGN.out)
         clear hg5
         refine hK.out _ _ ⟨HX5.out.at_ 6, (SB5.out.at_ _).trans (St.get_le HOK.out _ 0 HKL.out (by omega)), (SB5.out.at_ _).trans (St.get_le HOK.out _ 1 HKL.out (by omega)), (SB5.out.at_ _).trans (St.get_le HOK.out _ 2 HKL.out (by omega)), (SB5.out.at_ _).trans (St.get_le HOK.out _ 3 HKL.out (by omega)), (SB5.out.at_ _).trans (St.get_le HOK.out _ 4 HKL.out (by omega)), (SB5.out.at_ _).trans (St.get_le HOK.out _ 5 HKL.out (by omega)), (SB5.out.at_ _).trans (St.get_le HOK.out _ 6 HKL.out (by omega)), (SB5.out.at_ _).trans (St.get_le HOK.out _ 7 HKL.out (by omega))⟩ (fun hHeld => ?_)
         clear hK K
         refine done_ (done_of HT_.out (by kernel_rfl)) ?_
         (try simp only [Act.put, List.setIfInBounds_toArray, List.set_cons_zero, List.set_cons_succ])
         obtain ⟨x0_5, x1_5, x2_5, x3_5, x4_5, x5_5, x6_5, x7_5, x8_5, x9_5, x10_5⟩ := cs11 HX5.out
         have n3_5 : w5.cell? ⟨g, 3, none⟩ = some (.int .i64 (s.le x.f6.toNat).h) := HN5.out.at_ 3
         have n4_5 : w5.cell? ⟨g, 4, none⟩ = some (.int .i64 (s.le x.f6.toNat).z) := HN5.out.at_ 4
         go_upto_region 20 with ((go_at_call 38; (with_reducible refine (force.calls b s x.f6 x.f4 _ SB5.out HOK.out f0 f64 true HFF.out).mono ?_); rintro e w3 ⟨rfl, rfl⟩))
         go_still_tail 7, (by kernel_rfl)
         go_wp2_with (((with_reducible refine gate_ (.store 4 (.tmp 145) (.const (.bool true))) rfl ?_); refine blk_store rfl rfl 4 (.tmp 145) (.const (.bool true)) rfl (SB5.out.drew) (x.f6.toNat * 8 + 7) (.bool true) [.bool true] (s.setL x.f6.toNat (s.le x.f6.toNat).got).enc ?ha ?hx ?hu ?ht ?hf ?h1 ?hE ?_; (case ha => first | exact ⟨_, rfl, rfl⟩ | exact ⟨_, rfl, by omega⟩); (case hx => rfl); (case hu => rfl); (case ht => kernel_rfl); (case hf => rw [St.len HOK.out]; have := HKL.out; show x.f6.toNat * 8 + 7 + 1 ≤ 640; omega); (case h1 => intro q hq; rw [List.mem_singleton] at hq; subst hq; rfl); (case hE => exact St.put_one HOK.out _ 7 HKL.out (by omega) _ _ rfl); intro w6 SB6 hg6; have HG6 := As (grown2 (grown2 HG5.out (gdrew _ _)) hg6.out)))
         go_ret
         exact ⟨rfl, by rw [HT.out]; exact SB6.out, HG6.out⟩
        ·have HT : Aside0 (s.sayS x = none) := ⟨by unfold St.sayS; rw [if_neg k1, if_neg k2, if_neg (fun h => h.elim k3 k5), if_pos k4, if_pos hf, if_pos e3, if_neg e4]⟩
         rw [HT.out] at hr
         have hr2 : r = false := hr.symm
         subst hr2
         clear hr
         have q3 : ((s.le x.f6.toNat).h != x.f7) = false := bne_eq_false_iff_eq.mpr e3
         have q4 : ((s.le x.f6.toNat).z != x.f8) = true := bne_iff_ne.mpr e4
         clear e3 e4
         clear k1 k2 k3 k5 k4 hk
         have HFF := As hf
         clear hf
         go_enter Tryd.func37, Tryd.ntmps37
         go_upto_region 1 with (fail)
         rw [← HW.out]
         obtain ⟨x0_0, x1_0, x2_0, x3_0, x4_0, x5_0, x6_0, x7_0, x8_0, x9_0, x10_0⟩ := cs11 HX0.out
         go_upto_region 17 with (fail)
         refine start_ (n := 9) (S := fun w' => w'.cell? ⟨W.heap.size, 6, none⟩ = some (.int .i64 x.f6) ∧ w'.cell? ⟨b, x.f6.toNat * 8, none⟩ = some (.int .i64 (s.le x.f6.toNat).o) ∧ w'.cell? ⟨b, x.f6.toNat * 8 + 1, none⟩ = some (.int .i64 (s.le x.f6.toNat).k) ∧ w'.cell? ⟨b, x.f6.toNat * 8 + 2, none⟩ = some (.int .i64 (s.le x.f6.toNat).s) ∧ w'.cell? ⟨b, x.f6.toNat * 8 + 3, none⟩ = some (.int .i64 (s.le x.f6.toNat).h) ∧ w'.cell? ⟨b, x.f6.toNat * 8 + 4, none⟩ = some (.int .i64 (s.le x.f6.toNat).z) ∧ w'.cell? ⟨b, x.f6.toNat * 8 + 5, none⟩ = some (.int .i64 (s.le x.f6.toNat).fr) ∧ w'.cell? ⟨b, x.f6.toNat * 8 + 6, none⟩ = some (.int .i64 (s.le x.f6.toNat).un) ∧ w'.cell? ⟨b, x.f6.toNat * 8 + 7, none⟩ = some (.bool (s.le x.f6.toNat).rc)) (ds := []) (marksOf 9 0) (by kernel_rfl) rfl rfl ⟨HX0.out.drew.at_ 6, (SB0.out.drew.at_ _).trans (St.get_le HOK.out _ 0 HKL.out (by omega)), (SB0.out.drew.at_ _).trans (St.get_le HOK.out _ 1 HKL.out (by omega)), (SB0.out.drew.at_ _).trans (St.get_le HOK.out _ 2 HKL.out (by omega)), (SB0.out.drew.at_ _).trans (St.get_le HOK.out _ 3 HKL.out (by omega)), (SB0.out.drew.at_ _).trans (St.get_le HOK.out _ 4 HKL.out (by omega)), (SB0.out.drew.at_ _).trans (St.get_le HOK.out _ 5 HKL.out (by omega)), (SB0.out.drew.at_ _).trans (St.get_le HOK.out _ 6 HKL.out (by omega)), (SB0.out.drew.at_ _).trans (St.get_le HOK.out _ 7 HKL.out (by omega))⟩ (fun hHeld => ?_)
         refine with_tabW say.tab17 say.bits17 (fun HT_ HW_ => ?_)
         have HX3 := As HX0.out.drew
         have SB3 := As SB0.out.drew
         have HG3 := As (grown2 HG0.out (gdrew _ _))
         generalize W0.drew = w3 at HX3 SB3 HG3 hHeld ⊢
         refine pv_ 0 111 9 1 ?_
         refine pv_ 1 112 9 3 ?_
         refine ta_ 2 113 9 7 ?_ rfl rfl (take_ofW HT_.out HW_.out (by kernel_rfl)) (fun _ _ _ h => h) (by rfl) ?_ hHeld ?_ ?_ ?_
         rotate_left
         ·rintro w' ⟨s0, s1, s2, s3, s4, s5, s6, s7, s8⟩
          go_simp
          with_reducible rfl
         rotate_left
         ·simp only [Act.put, List.setIfInBounds_toArray, List.set_cons_zero, List.set_cons_succ, q1, q2, q3, i64_w, i32_w]
          rfl
         refine pv_ 3 114 9 15 ?_
         refine pv_ 4 115 9 31 ?_
         refine pv_ 5 116 9 63 ?_
         refine ta_ 6 117 9 127 ?_ rfl rfl (take_ofW HT_.out HW_.out (by kernel_rfl)) (fun _ _ _ h => h) (by rfl) ?_ hHeld ?_ ?_ ?_
         rotate_left
         ·rintro w' ⟨s0, s1, s2, s3, s4, s5, s6, s7, s8⟩
          go_simp
          with_reducible rfl
         rotate_left
         ·simp only [Act.put, List.setIfInBounds_toArray, List.set_cons_zero, List.set_cons_succ, q1, q2, q3, i64_w, i32_w]
          rfl
         refine one_ (i := 7) (N := some 5) (marksOf 9 255) rfl rfl (one_of HT_.out (by kernel_rfl)) (by decide) (fun K hK => ?_)
         refine box_step ?hg (N := 5) ?hd (cs := #[.int .i64 0, .int .i64 0, .int .i64 0, .int .i64 0, .int .i64 0, .int .i64 0, .int .i64 0, .bool false]) (t := 41) ?hr ?_
         case hd => rfl
         case hg => rfl
         case hr => first | (go_simp; done) | (go_simp; rfl)
         intro g hg w4 hbox hb4
         have HN4 : Aside0 (BlkIs w4 g 41 [.int .i64 0, .int .i64 0, .int .i64 0, .int .i64 0, .int .i64 0, .int .i64 0, .int .i64 0, .bool false]) := ⟨hbox⟩
         have HX4 := As (HX3.out.below hb4)
         have SB4 := As (SB3.out.below hb4)
         have HG4 := As (grown2 HG3.out (grown_of_below hb4 _))
         have HGW : Aside0 (W.heap.size < g ∧ b < g) := ⟨by rw [hg]; exact ⟨HX3.out.lt, SB3.out.lt⟩⟩
         have HGN : Aside0 (W.heap.size ≤ g) := ⟨by have := HGW.out.1; omega⟩
         clear hbox hb4 hg
         refine hK.out _ _ ⟨HX4.out.at_ 6, (SB4.out.at_ _).trans (St.get_le HOK.out _ 0 HKL.out (by omega)), (SB4.out.at_ _).trans (St.get_le HOK.out _ 1 HKL.out (by omega)), (SB4.out.at_ _).trans (St.get_le HOK.out _ 2 HKL.out (by omega)), (SB4.out.at_ _).trans (St.get_le HOK.out _ 3 HKL.out (by omega)), (SB4.out.at_ _).trans (St.get_le HOK.out _ 4 HKL.out (by omega)), (SB4.out.at_ _).trans (St.get_le HOK.out _ 5 HKL.out (by omega)), (SB4.out.at_ _).trans (St.get_le HOK.out _ 6 HKL.out (by omega)), (SB4.out.at_ _).trans (St.get_le HOK.out _ 7 HKL.out (by omega))⟩ (fun hHeld => ?_)
         clear hK K
         refine norm_ (a' := ?_) ?_ ?_
         rotate_left
         ·show Act.put _ (some 5) _ = _
          simp only [Act.put, List.setIfInBounds_toArray, List.set_cons_zero, List.set_cons_succ, q1, q2, q3, i64_w, i32_w]
          rfl
         refine one_ (i := 8) (N := none) (marksOf 9 511) rfl rfl (one_of HT_.out (by kernel_rfl)) (by decide) (fun K hK => ?_)
         refine blk_store_step ?hw ?hN 41 (.tmp 5) (.tmp 117) ?ho HN4.out (0) (.agg #[.int .i64 (s.le x.f6.toNat).o, .int .i64 (s.le x.f6.toNat).k, .int .i64 (s.le x.f6.toNat).s, .int .i64 (s.le x.f6.toNat).h, .int .i64 (s.le x.f6.toNat).z, .int .i64 (s.le x.f6.toNat).fr, .int .i64 (s.le x.f6.toNat).un, .bool (s.le x.f6.toNat).rc]) (s.le x.f6.toNat).enc (s.le x.f6.toNat).enc ?ha ?hx ?hu ?ht ?hf ?h1 ?hE ?_
         case hw => rfl
         case hN => rfl
         case ho => rfl
         case ha => first | exact ⟨_, rfl, rfl⟩ | exact ⟨_, rfl, by omega⟩
         case hx => rfl
         case hu => rfl
         case ht => kernel_rfl
         case hf => exact Nat.le_refl 8
         case h1 => exact le_one _
         case hE => exact over_whole _ _ rfl
         intro w5 HN5 hg5
         have HX5 := As (HX4.out.grown hg5.out (fun e => by injection e with e; have := HGW.out.1; omega))
         have SB5 := As (SB4.out.grown hg5.out (fun e => by injection e with e; have := HGW.out.2; omega))
         have HG5 := As (grown_new HG4.out hg5.out HGN.out)
         clear hg5
         refine hK.out _ _ ⟨HX5.out.at_ 6, (SB5.out.at_ _).trans (St.get_le HOK.out _ 0 HKL.out (by omega)), (SB5.out.at_ _).trans (St.get_le HOK.out _ 1 HKL.out (by omega)), (SB5.out.at_ _).trans (St.get_le HOK.out _ 2 HKL.out (by omega)), (SB5.out.at_ _).trans (St.get_le HOK.out _ 3 HKL.out (by omega)), (SB5.out.at_ _).trans (St.get_le HOK.out _ 4 HKL.out (by omega)), (SB5.out.at_ _).trans (St.get_le HOK.out _ 5 HKL.out (by omega)), (SB5.out.at_ _).trans (St.get_le HOK.out _ 6 HKL.out (by omega)), (SB5.out.at_ _).trans (St.get_le HOK.out _ 7 HKL.out (by omega))⟩ (fun hHeld => ?_)
         clear hK K
         refine done_ (done_of HT_.out (by kernel_rfl)) ?_
         (try simp only [Act.put, List.setIfInBounds_toArray, List.set_cons_zero, List.set_cons_succ])
         obtain ⟨x0_5, x1_5, x2_5, x3_5, x4_5, x5_5, x6_5, x7_5, x8_5, x9_5, x10_5⟩ := cs11 HX5.out
         have n3_5 : w5.cell? ⟨g, 3, none⟩ = some (.int .i64 (s.le x.f6.toNat).h) := HN5.out.at_ 3
         have n4_5 : w5.cell? ⟨g, 4, none⟩ = some (.int .i64 (s.le x.f6.toNat).z) := HN5.out.at_ 4
         go_wp2_with ((go_at_call 38; (with_reducible refine (force.calls b s x.f6 x.f4 _ SB5.out HOK.out f0 f64 true HFF.out).mono ?_); rintro e w3 ⟨rfl, rfl⟩))
         go_ret
         exact ⟨rfl, by rw [HT.out]; exact SB5.out, HG5.out⟩
       ·have HT : Aside0 (s.sayS x = none) := ⟨by unfold St.sayS; rw [if_neg k1, if_neg k2, if_neg (fun h => h.elim k3 k5), if_pos k4, if_pos hf, if_neg e3]⟩
        rw [HT.out] at hr
        have hr2 : r = false := hr.symm
        subst hr2
        clear hr
        have q3 : ((s.le x.f6.toNat).h != x.f7) = true := bne_iff_ne.mpr e3
        clear e3
        clear k1 k2 k3 k5 k4 hk
        have HFF := As hf
        clear hf
        go_enter Tryd.func37, Tryd.ntmps37
        go_upto_region 1 with (fail)
        rw [← HW.out]
        obtain ⟨x0_0, x1_0, x2_0, x3_0, x4_0, x5_0, x6_0, x7_0, x8_0, x9_0, x10_0⟩ := cs11 HX0.out
        go_upto_region 17 with (fail)
        refine start_ (n := 9) (S := fun w' => w'.cell? ⟨W.heap.size, 6, none⟩ = some (.int .i64 x.f6) ∧ w'.cell? ⟨b, x.f6.toNat * 8, none⟩ = some (.int .i64 (s.le x.f6.toNat).o) ∧ w'.cell? ⟨b, x.f6.toNat * 8 + 1, none⟩ = some (.int .i64 (s.le x.f6.toNat).k) ∧ w'.cell? ⟨b, x.f6.toNat * 8 + 2, none⟩ = some (.int .i64 (s.le x.f6.toNat).s) ∧ w'.cell? ⟨b, x.f6.toNat * 8 + 3, none⟩ = some (.int .i64 (s.le x.f6.toNat).h) ∧ w'.cell? ⟨b, x.f6.toNat * 8 + 4, none⟩ = some (.int .i64 (s.le x.f6.toNat).z) ∧ w'.cell? ⟨b, x.f6.toNat * 8 + 5, none⟩ = some (.int .i64 (s.le x.f6.toNat).fr) ∧ w'.cell? ⟨b, x.f6.toNat * 8 + 6, none⟩ = some (.int .i64 (s.le x.f6.toNat).un) ∧ w'.cell? ⟨b, x.f6.toNat * 8 + 7, none⟩ = some (.bool (s.le x.f6.toNat).rc)) (ds := []) (marksOf 9 0) (by kernel_rfl) rfl rfl ⟨HX0.out.drew.at_ 6, (SB0.out.drew.at_ _).trans (St.get_le HOK.out _ 0 HKL.out (by omega)), (SB0.out.drew.at_ _).trans (St.get_le HOK.out _ 1 HKL.out (by omega)), (SB0.out.drew.at_ _).trans (St.get_le HOK.out _ 2 HKL.out (by omega)), (SB0.out.drew.at_ _).trans (St.get_le HOK.out _ 3 HKL.out (by omega)), (SB0.out.drew.at_ _).trans (St.get_le HOK.out _ 4 HKL.out (by omega)), (SB0.out.drew.at_ _).trans (St.get_le HOK.out _ 5 HKL.out (by omega)), (SB0.out.drew.at_ _).trans (St.get_le HOK.out _ 6 HKL.out (by omega)), (SB0.out.drew.at_ _).trans (St.get_le HOK.out _ 7 HKL.out (by omega))⟩ (fun hHeld => ?_)
        refine with_tabW say.tab17 say.bits17 (fun HT_ HW_ => ?_)
        have HX3 := As HX0.out.drew
        have SB3 := As SB0.out.drew
        have HG3 := As (grown2 HG0.out (gdrew _ _))
        generalize W0.drew = w3 at HX3 SB3 HG3 hHeld ⊢
        refine pv_ 0 111 9 1 ?_
        refine pv_ 1 112 9 3 ?_
        refine ta_ 2 113 9 7 ?_ rfl rfl (take_ofW HT_.out HW_.out (by kernel_rfl)) (fun _ _ _ h => h) (by rfl) ?_ hHeld ?_ ?_ ?_
        rotate_left
        ·rintro w' ⟨s0, s1, s2, s3, s4, s5, s6, s7, s8⟩
         go_simp
         with_reducible rfl
        rotate_left
        ·simp only [Act.put, List.setIfInBounds_toArray, List.set_cons_zero, List.set_cons_succ, q1, q2, q3, i64_w, i32_w]
         rfl
        refine pv_ 3 114 9 15 ?_
        refine pv_ 4 115 9 31 ?_
        refine pv_ 5 116 9 63 ?_
        refine ta_ 6 117 9 127 ?_ rfl rfl (take_ofW HT_.out HW_.out (by kernel_rfl)) (fun _ _ _ h => h) (by rfl) ?_ hHeld ?_ ?_ ?_
        rotate_left
        ·rintro w' ⟨s0, s1, s2, s3, s4, s5, s6, s7, s8⟩
         go_simp
         with_reducible rfl
        rotate_left
        ·simp only [Act.put, List.setIfInBounds_toArray, List.set_cons_zero, List.set_cons_succ, q1, q2, q3, i64_w, i32_w]
         rfl
        refine one_ (i := 7) (N := some 5) (marksOf 9 255) rfl rfl (one_of HT_.out (by kernel_rfl)) (by decide) (fun K hK => ?_)
        refine box_step ?hg (N := 5) ?hd (cs := #[.int .i64 0, .int .i64 0, .int .i64 0, .int .i64 0, .int .i64 0, .int .i64 0, .int .i64 0, .bool false]) (t := 41) ?hr ?_
        case hd => rfl
        case hg => rfl
        case hr => first | (go_simp; done) | (go_simp; rfl)
        intro g hg w4 hbox hb4
        have HN4 : Aside0 (BlkIs w4 g 41 [.int .i64 0, .int .i64 0, .int .i64 0, .int .i64 0, .int .i64 0, .int .i64 0, .int .i64 0, .bool false]) := ⟨hbox⟩
        have HX4 := As (HX3.out.below hb4)
        have SB4 := As (SB3.out.below hb4)
        have HG4 := As (grown2 HG3.out (grown_of_below hb4 _))
        have HGW : Aside0 (W.heap.size < g ∧ b < g) := ⟨by rw [hg]; exact ⟨HX3.out.lt, SB3.out.lt⟩⟩
        have HGN : Aside0 (W.heap.size ≤ g) := ⟨by have := HGW.out.1; omega⟩
        clear hbox hb4 hg
        refine hK.out _ _ ⟨HX4.out.at_ 6, (SB4.out.at_ _).trans (St.get_le HOK.out _ 0 HKL.out (by omega)), (SB4.out.at_ _).trans (St.get_le HOK.out _ 1 HKL.out (by omega)), (SB4.out.at_ _).trans (St.get_le HOK.out _ 2 HKL.out (by omega)), (SB4.out.at_ _).trans (St.get_le HOK.out _ 3 HKL.out (by omega)), (SB4.out.at_ _).trans (St.get_le HOK.out _ 4 HKL.out (by omega)), (SB4.out.at_ _).trans (St.get_le HOK.out _ 5 HKL.out (by omega)), (SB4.out.at_ _).trans (St.get_le HOK.out _ 6 HKL.out (by omega)), (SB4.out.at_ _).trans (St.get_le HOK.out _ 7 HKL.out (by omega))⟩ (fun hHeld => ?_)
        clear hK K
        refine norm_ (a' := ?_) ?_ ?_
        rotate_left
        ·show Act.put _ (some 5) _ = _
         simp only [Act.put, List.setIfInBounds_toArray, List.set_cons_zero, List.set_cons_succ, q1, q2, q3, i64_w, i32_w]
         rfl
        refine one_ (i := 8) (N := none) (marksOf 9 511) rfl rfl (one_of HT_.out (by kernel_rfl)) (by decide) (fun K hK => ?_)
        refine blk_store_step ?hw ?hN 41 (.tmp 5) (.tmp 117) ?ho HN4.out (0) (.agg #[.int .i64 (s.le x.f6.toNat).o, .int .i64 (s.le x.f6.toNat).k, .int .i64 (s.le x.f6.toNat).s, .int .i64 (s.le x.f6.toNat).h, .int .i64 (s.le x.f6.toNat).z, .int .i64 (s.le x.f6.toNat).fr, .int .i64 (s.le x.f6.toNat).un, .bool (s.le x.f6.toNat).rc]) (s.le x.f6.toNat).enc (s.le x.f6.toNat).enc ?ha ?hx ?hu ?ht ?hf ?h1 ?hE ?_
        case hw => rfl
        case hN => rfl
        case ho => rfl
        case ha => first | exact ⟨_, rfl, rfl⟩ | exact ⟨_, rfl, by omega⟩
        case hx => rfl
        case hu => rfl
        case ht => kernel_rfl
        case hf => exact Nat.le_refl 8
        case h1 => exact le_one _
        case hE => exact over_whole _ _ rfl
        intro w5 HN5 hg5
        have HX5 := As (HX4.out.grown hg5.out (fun e => by injection e with e; have := HGW.out.1; omega))
        have SB5 := As (SB4.out.grown hg5.out (fun e => by injection e with e; have := HGW.out.2; omega))
        have HG5 := As (grown_new HG4.out hg5.out HGN.out)
        clear hg5
        refine hK.out _ _ ⟨HX5.out.at_ 6, (SB5.out.at_ _).trans (St.get_le HOK.out _ 0 HKL.out (by omega)), (SB5.out.at_ _).trans (St.get_le HOK.out _ 1 HKL.out (by omega)), (SB5.out.at_ _).trans (St.get_le HOK.out _ 2 HKL.out (by omega)), (SB5.out.at_ _).trans (St.get_le HOK.out _ 3 HKL.out (by omega)), (SB5.out.at_ _).trans (St.get_le HOK.out _ 4 HKL.out (by omega)), (SB5.out.at_ _).trans (St.get_le HOK.out _ 5 HKL.out (by omega)), (SB5.out.at_ _).trans (St.get_le HOK.out _ 6 HKL.out (by omega)), (SB5.out.at_ _).trans (St.get_le HOK.out _ 7 HKL.out (by omega))⟩ (fun hHeld => ?_)
        clear hK K
        refine done_ (done_of HT_.out (by kernel_rfl)) ?_
        (try simp only [Act.put, List.setIfInBounds_toArray, List.set_cons_zero, List.set_cons_succ])
        obtain ⟨x0_5, x1_5, x2_5, x3_5, x4_5, x5_5, x6_5, x7_5, x8_5, x9_5, x10_5⟩ := cs11 HX5.out
        have n3_5 : w5.cell? ⟨g, 3, none⟩ = some (.int .i64 (s.le x.f6.toNat).h) := HN5.out.at_ 3
        have n4_5 : w5.cell? ⟨g, 4, none⟩ = some (.int .i64 (s.le x.f6.toNat).z) := HN5.out.at_ 4
        go_wp2_with ((go_at_call 38; (with_reducible refine (force.calls b s x.f6 x.f4 _ SB5.out HOK.out f0 f64 true HFF.out).mono ?_); rintro e w3 ⟨rfl, rfl⟩))
        go_ret
        exact ⟨rfl, by rw [HT.out]; exact SB5.out, HG5.out⟩
     ·have d4 : (x.f5 == 4) = false := beq_eq_false_iff_ne.mpr k4
      have HT : Aside0 (s.sayS x = some s) := ⟨by unfold St.sayS; rw [if_neg k1, if_neg k2, if_neg (fun h => h.elim k3 k5), if_neg k4]⟩
      rw [HT.out] at hr
      have hr2 : r = true := hr.symm
      subst hr2
      clear hr
      clear k1 k2 k3 k4 k5 hk
      go_enter Tryd.func37, Tryd.ntmps37
      go_upto_region 1 with (fail)
      rw [← HW.out]
      obtain ⟨x0_0, x1_0, x2_0, x3_0, x4_0, x5_0, x6_0, x7_0, x8_0, x9_0, x10_0⟩ := cs11 HX0.out
      go_wp2
      go_ret
      exact ⟨rfl, by rw [HT.out]; exact SB0.out, HG0.out⟩
end
section
attribute [local go_sem ↓] some_setCell
theorem r15_in (a b c : Int) : ref15_in.f a b c = some (decide (b ≤ a) && decide (a ≤ c)) := by
 unfold ref15_in.f
 by_cases h : a ≥ b
 ·rw [if_pos h, decide_eq_true (show b ≤ a from h), Bool.true_and]
 ·rw [if_neg h, decide_eq_false (show ¬ b ≤ a from h), Bool.false_and]
theorem r15_lock (a : Int) : ∃ r, ref15_lock.f a = some r := by
 unfold ref15_lock.f
 split
 ·split <;> exact ⟨_, rfl⟩
 ·exact ⟨_, rfl⟩
theorem ite_some {c : Prop} [Decidable c] {a b : Option Bool} (ha : ∃ r, a = some r) (hb : ∃ r, b = some r) : ∃ r, (if c then a else b) = some r := by
 split
 ·exact ha
 ·exact hb
theorem r15_parts (k : Nat) (f0 f1 f2 f3 f4 f5 f6 f7 f8 f9 f10 : Int) : ∃ r, ref15_parts.f (k + 4) f0 f1 f2 f3 f4 f5 f6 f7 f8 f9 f10 = some r := by
 obtain ⟨lk, hlk⟩ := r15_lock f9
 simp only [ref15_parts.f, ref15_parts.j0, ref15_parts.j1, ref15_parts.j2, ref15_parts.j3, r15_in, hlk, Option.bind_some]
 repeat' first | (with_reducible exact ⟨_, rfl⟩) | (with_reducible refine ite_some ?_ ?_)
theorem r15_valid (f0 f1 f2 f3 f4 f5 f6 f7 f8 f9 f10 : Int) : ∃ r, ref15_Valid.f 4 f0 f1 f2 f3 f4 f5 f6 f7 f8 f9 f10 = some r := by
 obtain ⟨p, hp⟩ := r15_parts 0 f0 f1 f2 f3 f4 f5 f6 f7 f8 f9 f10
 rw [Nat.zero_add] at hp
 simp only [ref15_Valid.f, r15_in, hp, Option.bind_some]
 repeat' first | (with_reducible exact ⟨_, rfl⟩) | (with_reducible refine ite_some ?_ ?_)
def validR (x : S51) : Bool := (ref15_Valid.f 4 x.f0 x.f1 x.f2 x.f3 x.f4 x.f5 x.f6 x.f7 x.f8 x.f9 x.f10).getD false
theorem validR_is (x : S51) : ref15_Valid.f 4 x.f0 x.f1 x.f2 x.f3 x.f4 x.f5 x.f6 x.f7 x.f8 x.f9 x.f10 = some (validR x) := by
 obtain ⟨r, hr⟩ := r15_valid x.f0 x.f1 x.f2 x.f3 x.f4 x.f5 x.f6 x.f7 x.f8 x.f9 x.f10
 unfold validR
 rw [hr]
 rfl
theorem r15_slot (f0 f1 f2 f3 f4 f5 f6 f7 f8 f9 f10 : Int) (h1 : 1 ≤ f5) (h5 : f5 ≤ 5) (h6 : ¬ (0 ≤ f6 ∧ f6 ≤ 63)) : ref15_parts.f 4 f0 f1 f2 f3 f4 f5 f6 f7 f8 f9 f10 = some false := by
 have e : (decide (0 ≤ f6) && decide (f6 ≤ 63)) = false := by
  rw [Bool.and_eq_false_iff, decide_eq_false_iff_not, decide_eq_false_iff_not]
  omega
 have hk : f5 = 1 ∨ f5 = 2 ∨ f5 = 3 ∨ f5 = 4 ∨ f5 = 5 := by omega
 rcases hk with rfl | rfl | rfl | rfl | rfl <;> simp [ref15_parts.f, ref15_parts.j0, ref15_parts.j1, ref15_parts.j2, ref15_parts.j3, r15_in, e]
theorem validR_rng {x : S51} (h : validR x = true) (h1 : 1 ≤ x.f5) (h5 : x.f5 ≤ 5) : 0 ≤ x.f6 ∧ x.f6 < 64 := by
 by_cases h6 : 0 ≤ x.f6 ∧ x.f6 ≤ 63
 ·omega
 ·have hp := r15_slot x.f0 x.f1 x.f2 x.f3 x.f4 x.f5 x.f6 x.f7 x.f8 x.f9 x.f10 h1 h5 h6
  have hv := validR_is x
  rw [h] at hv
  simp [ref15_Valid.f, r15_in, hp] at hv
theorem validR_at (x : S51) (W : World) (b : Bool) (h : validR x = b) : Calls Tryd.prog 47 #[.agg #[.int .i64 x.f0, .int .i64 x.f1, .int .i64 x.f2, .int .i64 x.f3, .int .i64 x.f4, .int .i64 x.f5, .int .i64 x.f6, .int .i64 x.f7, .int .i64 x.f8, .int .i64 x.f9, .int .i64 x.f10]] W fun e w' => e = .returned (.bool b) ∧ Below W.heap.size W w' := by
 subst h
 exact ref15_Valid.calls 4 x.f0 x.f1 x.f2 x.f3 x.f4 x.f5 x.f6 x.f7 x.f8 x.f9 x.f10 (validR x) W (validR_is x)
theorem St.sayS_ok {s s' : St} {x : S51} (h : s.ok) (hs : s.sayS x = some s') : s'.ok := by
 unfold St.sayS at hs
 split at hs
 ·split at hs
  ·cases hs
  ·injection hs with hs
   subst hs
   exact ((h.setL _ _).setO _ _).setU _ _
 ·split at hs
  ·split at hs
   ·split at hs
    ·cases hs
    ·injection hs with hs
     subst hs
     exact (h.setL _ _).setU _ _
   ·cases hs
  ·split at hs
   ·split at hs
    ·injection hs with hs
     subst hs
     exact h.setO _ _
    ·cases hs
   ·split at hs
    ·split at hs
     ·split at hs
      ·split at hs
       ·injection hs with hs
        subst hs
        exact h.setL _ _
       ·cases hs
      ·cases hs
     ·cases hs
    ·injection hs with hs
     subst hs
     exact h
theorem zero_blk (wa : World) : BlkIs (wa.alloc (.cells zcS 76)) wa.heap.size 76 (stI 0).enc := heap_alloc_new wa _
def rrI (l : List S51) : Nat → Nat → St → Int
 | 0, _, _ => 0
 | d + 1, i, s => if validR (rd_T51 l i) = false then 2
  else if ((rd_T51 l i).f0 != (rd_T51 l 0).f0 || (rd_T51 l i).f1 != (rd_T51 l 0).f1) = true then 20
  else if (decide (0 < i) && decide ((rd_T51 l i).f4 < (rd_T51 l ((i : Int) - 1)).f4)) = true then 22
  else match s.sayS (rd_T51 l i) with
   | none => 18
   | some s' => rrI l d (i + 1) s'
def ref16_Right.f (l : List S51) : Option Int := some (rrI l l.length 0 St.zero)
end
section
attribute [local go_sem ↓] some_setCell
attribute [local go_sem ↓] zcS_run
attribute [local go_sem] zcS_size
attribute [local simp] zcS_ne
set_option maxHeartbeats 16000000 in
set_option maxRecDepth 100000 in
theorem ref16_Right.calls (A0 : Option Addr) (c0 : Nat) (l : List S51) (r : Int) (w : World) (hr0 : Kd.C k51 w A0 l.length l) (hc0 : l.length ≤ c0) (h : ref16_Right.f l = some r) :
  Calls Tryd.prog 35 #[.slice A0 l.length c0] w fun e w' => e = .returned (.int .i64 r) ∧ Below w.heap.size w w' := by
 have hr := Option.some.inj h
 clear h
 have hu := Tryd.underlying51
 have HC := As hr0
 have HLM : Aside0 (l.length ≤ 9223372036854775807) := ⟨hr0.2.1⟩
 have HE := As hr
 clear hr0 hr hc0
 go_enter Tryd.func35, Tryd.ntmps35
 go_upto_region 2 with (first | (go_at_call 36; (with_reducible refine (empty.calls _).mono ?_); rintro e wa ⟨rfl, hba⟩; have HBA := As hba; clear hba) | ((with_reducible refine gate_ (.store 76 (.tmp 3) (.tmp 6)) rfl ?_); refine blk_store rfl rfl 76 (.tmp 3) (.tmp 6) rfl (zero_blk wa) 0 (.agg St.zero.enc.toArray) St.zero.enc St.zero.enc ⟨_, rfl, rfl⟩ rfl rfl (by rw [St.len St.zero_ok]; kernel_rfl) (by rw [St.len St.zero_ok, St.len (stI_ok 0 (by omega))]; omega) ?h1 ?hE ?_; (case h1 => exact st_one _); (case hE => exact over_whole _ _ (by rw [St.len St.zero_ok, St.len (stI_ok 0 (by omega))])); intro wb HSb HGb))
 have HBb : Aside0 (Below w.heap.size w wb) := ⟨pw_below_grown (below_alloc HBA.out _) _ (below_alloc HBA.out _).size HGb.out (by intro k hk; injection hk with hk; have := HBA.out.size; omega)⟩
 obtain ⟨b, hb⟩ : ∃ b, b = wa.heap.size := ⟨_, rfl⟩
 have HBW : Aside0 (w.heap.size ≤ b) := ⟨by rw [hb]; exact HBA.out.size⟩
 rw [← hb] at HSb ⊢
 clear HBA HGb hb
 go_wp2_with (fail)
 go_loopg [9] l.length (fun kq v9 w' => ∃ (i : Nat) (s : St), v9 = .int .i64 i ∧ Aside0 (i + kq = l.length) ∧ Aside0 (rrI l kq i s = r) ∧ Aside0 s.ok ∧ Aside0 (BlkIs w' b 76 s.enc) ∧ Aside0 (Below w.heap.size w w'))
 case atStart => exact ⟨0, St.zero, rfl, ⟨by omega⟩, HE, ⟨St.zero_ok⟩, HSb, HBb⟩
 case round =>
  clear HSb HBb HE
  obtain ⟨i, s, rfl, HI, HX, HOK, HS, HB⟩ := hrel
  cases gk with
  | zero =>
   have c4b0 : decide ((i : Int) < (l.length : Int)) = false := decide_eq_false (by have := HI.out; omega)
   have c4b1 : decide (i < l.length) = false := decide_eq_false (by have := HI.out; omega)
   have hre : (0 : Int) = r := HX.out
   subst hre
   go_wp2
   go_ret
   exact ⟨rfl, HB.out⟩
  | succ k1 =>
   have hil : i < l.length := by have := HI.out; omega
   have c4b0 : decide ((i : Int) < (l.length : Int)) = true := decide_eq_true (by omega)
   have c4b1 : decide (i < l.length) = true := decide_eq_true hil
   have hi64 : (i : Int) ≤ 9223372036854775806 := by have := HLM.out; omega
   have p1 : 0 ≤ (i : Int) := by omega
   have q1 : (i : Int) < (l.length : Int) := by omega
   obtain ⟨ad, e1, hx0, hx1, hx2, hx3, hx4, hx5, hx6, hx7, hx8, hx9, hx10⟩ := at_T51 HC.out i p1 q1
   cases e1
   obtain ⟨ad', e2, hy0, hy1, _⟩ := at_T51 HC.out 0 (by omega) (by omega)
   cases e2
   obtain ⟨y, hye⟩ : ∃ y, y = rd_T51 l 0 := ⟨_, rfl⟩
   rw [← hye] at hy0 hy1
   have EY := As hye
   have HY0 := As hy0
   have HY1 := As hy1
   clear hye hy0 hy1
   replace hx0 := (HB.out.cell (World.block_lt_of_cell? w _ hx0)).trans hx0
   replace hx1 := (HB.out.cell (World.block_lt_of_cell? w _ hx1)).trans hx1
   replace hx2 := (HB.out.cell (World.block_lt_of_cell? w _ hx2)).trans hx2
   replace hx3 := (HB.out.cell (World.block_lt_of_cell? w _ hx3)).trans hx3
   replace hx4 := (HB.out.cell (World.block_lt_of_cell? w _ hx4)).trans hx4
   replace hx5 := (HB.out.cell (World.block_lt_of_cell? w _ hx5)).trans hx5
   replace hx6 := (HB.out.cell (World.block_lt_of_cell? w _ hx6)).trans hx6
   replace hx7 := (HB.out.cell (World.block_lt_of_cell? w _ hx7)).trans hx7
   replace hx8 := (HB.out.cell (World.block_lt_of_cell? w _ hx8)).trans hx8
   replace hx9 := (HB.out.cell (World.block_lt_of_cell? w _ hx9)).trans hx9
   replace hx10 := (HB.out.cell (World.block_lt_of_cell? w _ hx10)).trans hx10
   rw [Int.toNat_natCast] at hx0 hx1 hx2 hx3 hx4 hx5 hx6 hx7 hx8 hx9 hx10
   obtain ⟨x, hxe⟩ : ∃ x, x = rd_T51 l (i : Int) := ⟨_, rfl⟩
   rw [← hxe] at hx0 hx1 hx2 hx3 hx4 hx5 hx6 hx7 hx8 hx9 hx10
   have EX := As hxe
   clear hxe
   have hHN := heap_alloc_new wr (.cells #[.int .i64 x.f0, .int .i64 x.f1, .int .i64 x.f2, .int .i64 x.f3, .int .i64 x.f4, .int .i64 x.f5, .int .i64 x.f6, .int .i64 x.f7, .int .i64 x.f8, .int .i64 x.f9, .int .i64 x.f10] 51)
   have hHS := HS.out.alloc (.cells #[.int .i64 x.f0, .int .i64 x.f1, .int .i64 x.f2, .int .i64 x.f3, .int .i64 x.f4, .int .i64 x.f5, .int .i64 x.f6, .int .i64 x.f7, .int .i64 x.f8, .int .i64 x.f9, .int .i64 x.f10] 51)
   have hHB := below_alloc HB.out (.cells #[.int .i64 x.f0, .int .i64 x.f1, .int .i64 x.f2, .int .i64 x.f3, .int .i64 x.f4, .int .i64 x.f5, .int .i64 x.f6, .int .i64 x.f7, .int .i64 x.f8, .int .i64 x.f9, .int .i64 x.f10] 51)
   go_upto_region 5 with (fail)
   generalize wr.alloc (.cells #[.int .i64 x.f0, .int .i64 x.f1, .int .i64 x.f2, .int .i64 x.f3, .int .i64 x.f4, .int .i64 x.f5, .int .i64 x.f6, .int .i64 x.f7, .int .i64 x.f8, .int .i64 x.f9, .int .i64 x.f10] 51) = w1 at hHN hHS hHB ⊢
   have HN1 : Aside0 (BlkIs w1 wr.heap.size 51 [.int .i64 x.f0, .int .i64 x.f1, .int .i64 x.f2, .int .i64 x.f3, .int .i64 x.f4, .int .i64 x.f5, .int .i64 x.f6, .int .i64 x.f7, .int .i64 x.f8, .int .i64 x.f9, .int .i64 x.f10]) := ⟨hHN⟩
   have HS1 := As hHS
   have HB1 := As hHB
   clear hHN hHS hHB hx0 hx1 hx2 hx3 hx4 hx5 hx6 hx7 hx8 hx9 hx10 HS HB
   obtain ⟨x0_1, x1_1, x2_1, x3_1, x4_1, x5_1, x6_1, x7_1, x8_1, x9_1, x10_1⟩ := cs11 HN1.out
   cases hv : validR x with
   | false =>
    have HV := As hv
    clear hv
    have hre : (2 : Int) = r := by
     rw [← HX.out, rrI, ← EX.out, ← EY.out, if_pos HV.out]
    subst hre
    go_wp2_with ((go_at_call 47; (with_reducible refine (validR_at x _ false HV.out).mono ?_); rintro e w2 ⟨rfl, hb2⟩; have HN2 := As (HN1.out.below hb2); have HS2 := As (HS1.out.below hb2); have HB2 := As (below_step HB1.out hb2); clear hb2; obtain ⟨x0_2, x1_2, x2_2, x3_2, x4_2, x5_2, x6_2, x7_2, x8_2, x9_2, x10_2⟩ := cs11 HN2.out; have ya_2 := (HB2.out.cell (World.block_lt_of_cell? w _ HY0.out)).trans HY0.out; have yb_2 := (HB2.out.cell (World.block_lt_of_cell? w _ HY1.out)).trans HY1.out))
    go_ret
    exact ⟨rfl, by repeat (first | exact HB2.out | apply below_drew1 | apply pw_below_drewN)⟩
   | true =>
    have HV := As hv
    have HVN : Aside0 (¬ validR x = false) := ⟨by rw [hv]; decide⟩
    clear hv
    go_upto_region 7 with ((go_at_call 47; (with_reducible refine (validR_at x _ true HV.out).mono ?_); rintro e w2 ⟨rfl, hb2⟩; have HN2 := As (HN1.out.below hb2); have HS2 := As (HS1.out.below hb2); have HB2 := As (below_step HB1.out hb2); clear hb2; obtain ⟨x0_2, x1_2, x2_2, x3_2, x4_2, x5_2, x6_2, x7_2, x8_2, x9_2, x10_2⟩ := cs11 HN2.out; have ya_2 := (HB2.out.cell (World.block_lt_of_cell? w _ HY0.out)).trans HY0.out; have yb_2 := (HB2.out.cell (World.block_lt_of_cell? w _ HY1.out)).trans HY1.out))
    have z2 : w2.cell? ad = some (.int .i64 y.f0) := ya_2
    have z3 : w2.cell? ⟨ad.block, ad.off + 1, none⟩ = some (.int .i64 y.f1) := yb_2
    have z0 : w2.cell? (ad.add 0) = some (.int .i64 y.f0) := ya_2
    have z1 : w2.cell? ⟨(ad.add 0).block, (ad.add 0).off + 1, none⟩ = some (.int .i64 y.f1) := yb_2
    have hl0 : (0 : Int) < (l.length : Int) := by omega
    have hl0n : 0 < l.length := by omega
    cases hp0 : (x.f0 != y.f0) with
    | true =>
     have HP : Aside0 ((x.f0 != y.f0 || x.f1 != y.f1) = true) := ⟨by rw [hp0]; rfl⟩
     have hre : (20 : Int) = r := by
      rw [← HX.out, rrI, ← EX.out, ← EY.out, if_neg HVN.out, if_pos HP.out]
     subst hre
     go_quiet ((fail))
     go_wp2
     go_ret
     exact ⟨rfl, by repeat (first | exact HB2.out | apply below_drew1 | apply pw_below_drewN)⟩
    | false =>
     cases hp1 : (x.f1 != y.f1) with
     | true =>
      have HP : Aside0 ((x.f0 != y.f0 || x.f1 != y.f1) = true) := ⟨by rw [hp0, hp1]; rfl⟩
      have hre : (20 : Int) = r := by
       rw [← HX.out, rrI, ← EX.out, ← EY.out, if_neg HVN.out, if_pos HP.out]
      subst hre
      go_quiet ((fail))
      go_wp2
      go_ret
      exact ⟨rfl, by repeat (first | exact HB2.out | apply below_drew1 | apply pw_below_drewN)⟩
     | false =>
      have HP : Aside0 (¬ (x.f0 != y.f0 || x.f1 != y.f1) = true) := ⟨by rw [hp0, hp1]; decide⟩
      go_quiet ((fail))
      go_upto_region 9 with (fail)
      have HN6 := As (HN2.out.drewN nq)
      have HS6 := As (HS2.out.drewN nq)
      have HB6 := As (pw_below_drewN HB2.out nq)
      generalize (World.drewN _ nq) = w2b at HN6 HS6 HB6 ⊢
      obtain ⟨x0_6, x1_6, x2_6, x3_6, x4_6, x5_6, x6_6, x7_6, x8_6, x9_6, x10_6⟩ := cs11 HN6.out
      clear z0 z1 z2 z3 ya_2 yb_2 hl0 hl0n
      by_cases t0 : i = 0
      ·have HT : Aside0 (¬ (decide (0 < i) && decide (x.f4 < (rd_T51 l ((i : Int) - 1)).f4)) = true) := ⟨by rw [decide_eq_false (show ¬ 0 < i by omega)]; simp⟩
       have d0 : decide (0 < (i : Int)) = false := decide_eq_false (by omega)
       have d0n : decide (0 < i) = false := decide_eq_false (by omega)
       clear t0
       go_quiet ((fail))
       go_upto_region 11 with (fail)
       have HN7 := As (HN6.out.drewN nq)
       have HS7 := As (HS6.out.drewN nq)
       have HB7 := As (pw_below_drewN HB6.out nq)
       generalize (World.drewN _ nq) = w2c at HN7 HS7 HB7 ⊢
       obtain ⟨x0_7, x1_7, x2_7, x3_7, x4_7, x5_7, x6_7, x7_7, x8_7, x9_7, x10_7⟩ := cs11 HN7.out
       cases hs : s.sayS x with
       | none =>
        have HSY := As hs
        have HSI : Aside0 ((s.sayS x).isSome = false) := ⟨by rw [hs]; rfl⟩
        clear hs
        have hre : (18 : Int) = r := by
         rw [← HX.out, rrI, ← EX.out, ← EY.out, if_neg HVN.out, if_neg HP.out, if_neg HT.out, HSY.out]
        subst hre
        go_wp2_with ((go_at_call 37; (with_reducible refine (say.calls b s x _ HS7.out HOK.out (fun h1 h5 => validR_rng HV.out h1 h5) false HSI.out).mono ?_); rintro e w5 ⟨rfl, hs5, hg5⟩; have HS5 := As hs5; have HB5 : Aside0 (Below w.heap.size w w5) := ⟨pw_below_grown HB7.out _ HB7.out.size hg5 (by intro k hk; injection hk with hk; have := HBW.out; omega)⟩; clear hs5 hg5))
        go_ret
        exact ⟨rfl, HB5.out⟩
       | some s' =>
        have HSY := As hs
        have HSI : Aside0 ((s.sayS x).isSome = true) := ⟨by rw [hs]; rfl⟩
        clear hs
        have hre : rrI l k1 (i + 1) s' = r := by
         rw [← HX.out, rrI, ← EX.out, ← EY.out, if_neg HVN.out, if_neg HP.out, if_neg HT.out, HSY.out]
        have HRE := As hre
        clear hre
        go_wp2_with ((go_at_call 37; (with_reducible refine (say.calls b s x _ HS7.out HOK.out (fun h1 h5 => validR_rng HV.out h1 h5) true HSI.out).mono ?_); rintro e w5 ⟨rfl, hs5, hg5⟩; have HS5 := As hs5; have HB5 : Aside0 (Below w.heap.size w w5) := ⟨pw_below_grown HB7.out _ HB7.out.size hg5 (by intro k hk; injection hk with hk; have := HBW.out; omega)⟩; clear hs5 hg5))
        have HS6 : Aside0 (BlkIs w5 b 76 s'.enc) := ⟨by have := HS5.out; rw [HSY.out] at this; exact this⟩
        go_roundg k1
        case measure => omega
        case rel => exact ⟨i + 1, s', by simp, ⟨by have := HI.out; omega⟩, HRE, ⟨St.sayS_ok HOK.out HSY.out⟩, HS6, HB5⟩
      ·have d0 : decide (0 < (i : Int)) = true := decide_eq_true (by omega)
       have d0n : decide (0 < i) = true := decide_eq_true (by omega)
       have p2 : 0 ≤ (i : Int) - 1 := by omega
       have p2b : (1 : Int) ≤ (i : Int) := by omega
       have q2 : (i : Int) - 1 < (l.length : Int) := by omega
       obtain ⟨ad3, e3, _, _, _, _, hv4, _⟩ := at_T51 HC.out ((i : Int) - 1) p2 q2
       cases e3
       obtain ⟨v, hve⟩ : ∃ v, v = rd_T51 l ((i : Int) - 1) := ⟨_, rfl⟩
       rw [← hve] at hv4
       have EV := As hve
       clear hve
       have ht2 : ((i : Int) - 1).toNat = i - 1 := by omega
       rw [ht2] at hv4
       replace hv4 := (HB6.out.cell (World.block_lt_of_cell? w _ hv4)).trans hv4
       have hw2 : IntKind.i64.wrap ((i : Int) - 1) = (i : Int) - 1 := IntWalk.i64_in _ (by omega)
       have HIZ := As t0
       replace p2 := eq_true p2
       replace p2b := eq_true p2b
       replace q2 := eq_true q2
       clear t0
       cases ht : decide (x.f4 < v.f4) with
       | true =>
        have HT : Aside0 ((decide (0 < i) && decide (x.f4 < (rd_T51 l ((i : Int) - 1)).f4)) = true) := ⟨by rw [← EV.out, d0n, ht]; rfl⟩
        have hre : (22 : Int) = r := by
         rw [← HX.out, rrI, ← EX.out, ← EY.out, if_neg HVN.out, if_neg HP.out, if_pos HT.out]
        subst hre
        go_quiet ((fail))
        go_wp2
        go_ret
        exact ⟨rfl, by repeat (first | exact HB6.out | apply below_drew1 | apply pw_below_drewN)⟩
       | false =>
        have HT : Aside0 (¬ (decide (0 < i) && decide (x.f4 < (rd_T51 l ((i : Int) - 1)).f4)) = true) := ⟨by rw [← EV.out, d0n, ht]; decide⟩
        go_quiet ((fail))
        go_upto_region 11 with (fail)
        clear hv4 hw2 p2 p2b q2 ht2 ht
        have HN7 := As (HN6.out.drewN nq)
        have HS7 := As (HS6.out.drewN nq)
        have HB7 := As (pw_below_drewN HB6.out nq)
        generalize (World.drewN _ nq) = w2c at HN7 HS7 HB7 ⊢
        obtain ⟨x0_7, x1_7, x2_7, x3_7, x4_7, x5_7, x6_7, x7_7, x8_7, x9_7, x10_7⟩ := cs11 HN7.out
        cases hs : s.sayS x with
        | none =>
         have HSY := As hs
         have HSI : Aside0 ((s.sayS x).isSome = false) := ⟨by rw [hs]; rfl⟩
         clear hs
         have hre : (18 : Int) = r := by
          rw [← HX.out, rrI, ← EX.out, ← EY.out, if_neg HVN.out, if_neg HP.out, if_neg HT.out, HSY.out]
         subst hre
         go_wp2_with ((go_at_call 37; (with_reducible refine (say.calls b s x _ HS7.out HOK.out (fun h1 h5 => validR_rng HV.out h1 h5) false HSI.out).mono ?_); rintro e w5 ⟨rfl, hs5, hg5⟩; have HS5 := As hs5; have HB5 : Aside0 (Below w.heap.size w w5) := ⟨pw_below_grown HB7.out _ HB7.out.size hg5 (by intro k hk; injection hk with hk; have := HBW.out; omega)⟩; clear hs5 hg5))
         go_ret
         exact ⟨rfl, HB5.out⟩
        | some s' =>
         have HSY := As hs
         have HSI : Aside0 ((s.sayS x).isSome = true) := ⟨by rw [hs]; rfl⟩
         clear hs
         have hre : rrI l k1 (i + 1) s' = r := by
          rw [← HX.out, rrI, ← EX.out, ← EY.out, if_neg HVN.out, if_neg HP.out, if_neg HT.out, HSY.out]
         have HRE := As hre
         clear hre
         go_wp2_with ((go_at_call 37; (with_reducible refine (say.calls b s x _ HS7.out HOK.out (fun h1 h5 => validR_rng HV.out h1 h5) true HSI.out).mono ?_); rintro e w5 ⟨rfl, hs5, hg5⟩; have HS5 := As hs5; have HB5 : Aside0 (Below w.heap.size w w5) := ⟨pw_below_grown HB7.out _ HB7.out.size hg5 (by intro k hk; injection hk with hk; have := HBW.out; omega)⟩; clear hs5 hg5))
         have HS6 : Aside0 (BlkIs w5 b 76 s'.enc) := ⟨by have := HS5.out; rw [HSY.out] at this; exact this⟩
         go_roundg k1
         case measure => omega
         case rel => exact ⟨i + 1, s', by simp, ⟨by have := HI.out; omega⟩, HRE, ⟨St.sayS_ok HOK.out HSY.out⟩, HS6, HB5⟩
end
section
def leaseR (s : Le) : S41 := ⟨s.o, s.k, s.s, s.h, s.z, s.fr, s.un, s.rc⟩
def rstep (t : Int) (s : St) (x : S51) : St := if x.f4 ≤ t then (s.sayS x).getD s else s
def rstA (l : List S51) (t : Int) : St := l.foldl (rstep t) St.zero
def rforce (s : St) (t : Int) (k : Nat) : List S41 := if s.force k t = true then [leaseR (s.le k)] else []
def rleases (s : St) (t : Int) (n : Nat) : List S41 := (List.range n).flatMap (rforce s t)
def ref16_Leases.f (l : List S51) (t : Int) : Option (List S41 × Int) :=
 if rrI l l.length 0 St.zero ≠ 0 then some ([], rrI l l.length 0 St.zero)
 else if t < 0 ∨ 1048576 < t then some ([], 1)
 else some (rleases (rstA l t) t 64, 0)
theorem rleases_succ (s : St) (t : Int) (i : Nat) : rleases s t (i + 1) = rleases s t i ++ rforce s t i := by
 unfold rleases
 rw [List.range_succ, List.flatMap_append]
 simp
theorem rleases_len (s : St) (t : Int) (i : Nat) : (rleases s t i).length ≤ i := by
 induction i with
 | zero => simp [rleases]
 | succ i ih =>
  rw [rleases_succ, List.length_append]
  have : (rforce s t i).length ≤ 1 := by
   unfold rforce
   split <;> simp
  omega
theorem getD_ok {s : St} {x : S51} (h : s.ok) : ((s.sayS x).getD s).ok := by
 cases hs : s.sayS x with
 | none => exact h
 | some s' => exact St.sayS_ok h hs
theorem rstA_succ {l : List S51} {t : Int} {i : Nat} {x : S51} (hi : i < l.length) (hx : l[i] = x) : rstA (l.take (i + 1)) t = rstep t (rstA (l.take i) t) x := by
 unfold rstA
 rw [List.take_succ_eq_append_getElem hi, List.foldl_append, hx]
 rfl
theorem rinfo : (Tryd.prog.info? 41).map (fun i => (i.zero, i.size, i.bytes)) = some (some (.agg #[.int .i64 0, .int .i64 0, .int .i64 0, .int .i64 0, .int .i64 0, .int .i64 0, .int .i64 0, .bool false]), 8, 64) := by kernel_rfl
theorem rr_ok {l : List S51} : ∀ (d i : Nat) (s : St), rrI l d i s = 0 → ∀ j : Nat, i ≤ j → j < i + d → validR (rd_T51 l j) = true
 | 0, i, s, _, j, h1, h2 => by omega
 | d + 1, i, s, h, j, h1, h2 => by
  rw [rrI] at h
  split at h
  ·cases h
  ·rename_i hv
   split at h
   ·cases h
   ·split at h
    ·cases h
    ·by_cases e : j = i
     ·subst e
      exact Bool.not_eq_false _ ▸ hv
     ·split at h
      ·cases h
      ·exact rr_ok d (i + 1) _ h j (by omega) (by omega)
set_option maxHeartbeats 16000000 in
set_option maxRecDepth 100000 in
theorem ref16_Leases.calls (A0 : Option Addr) (c0 : Nat) (l : List S51) (t : Int) (r1 : List S41) (r2 : Int) (w : World) (hr0 : Kd.C k51 w A0 l.length l) (hc0 : l.length ≤ c0) (h : ref16_Leases.f l t = some (r1, r2)) :
  Calls Tryd.prog 15 #[.slice A0 l.length c0, .int .i64 t] w fun e w' => ∃ v0_ : Value, e = .returned (.tuple #[v0_, .int .i64 r2]) ∧ Kd.R k41 41 w' w.heap.size (fun _ => True) v0_ r1 ∧ Below w.heap.size w w' := by
 have hu := Tryd.underlying51
 unfold ref16_Leases.f at h
 obtain ⟨r0, hr0e⟩ : ∃ r0, r0 = rrI l l.length 0 St.zero := ⟨_, rfl⟩
 rw [← hr0e] at h
 have HC := As hr0
 have HCC := As hc0
 have HLM : Aside0 (l.length ≤ 9223372036854775807) := ⟨hr0.2.1⟩
 have HR : Aside0 (ref16_Right.f l = some r0) := ⟨by rw [hr0e]; rfl⟩
 have HSR : Aside0 (r0 = 0 → ∀ j : Nat, j < l.length → validR (rd_T51 l j) = true) := ⟨fun e j hj => rr_ok l.length 0 St.zero (hr0e.symm.trans e) j (Nat.zero_le _) (by omega)⟩
 clear hr0 hc0 hr0e
 by_cases hz : r0 = 0
 ·rw [if_neg (fun h => h hz)] at h
  subst hz
  have HSS := As (HSR.out rfl)
  clear HSR
  by_cases ht : t < 0 ∨ 1048576 < t
  ·rw [if_pos ht] at h
   simp only [Option.some.injEq, Prod.mk.injEq] at h
   obtain ⟨rfl, rfl⟩ := h
   by_cases h0 : t < 0
   ·have c1b0 : decide (t < 0) = true := decide_eq_true h0
    clear ht h0
    go_enter Tryd.func15, Tryd.ntmps15
    go_wp2_with ((go_at_call 35; (with_reducible refine (ref16_Right.calls A0 c0 l 0 _ HC.out HCC.out HR.out).mono ?_); rintro e w2 ⟨rfl, hb2⟩; have HB2 := As hb2; clear hb2))
    go_ret2
    exact ⟨_, rfl, Kd.R_nil _ _ _ _ _, by repeat (first | exact HB2.out | apply below_drew1 | apply pw_below_drewN)⟩
   ·have c1b0 : decide (t < 0) = false := decide_eq_false h0
    have c2b0 : decide (1048576 < t) = true := decide_eq_true (by omega)
    clear ht h0
    go_enter Tryd.func15, Tryd.ntmps15
    go_wp2_with ((go_at_call 35; (with_reducible refine (ref16_Right.calls A0 c0 l 0 _ HC.out HCC.out HR.out).mono ?_); rintro e w2 ⟨rfl, hb2⟩; have HB2 := As hb2; clear hb2))
    go_ret2
    exact ⟨_, rfl, Kd.R_nil _ _ _ _ _, by repeat (first | exact HB2.out | apply below_drew1 | apply pw_below_drewN)⟩
  ·rw [if_neg ht] at h
   simp only [Option.some.injEq, Prod.mk.injEq] at h
   obtain ⟨rfl, rfl⟩ := h
   have c1b0 : decide (t < 0) = false := decide_eq_false (by omega)
   have c2b0 : decide (1048576 < t) = false := decide_eq_false (by omega)
   clear ht
   go_enter Tryd.func15, Tryd.ntmps15
   go_upto_region 7 with (first | (go_at_call 35; (with_reducible refine (ref16_Right.calls A0 c0 l 0 _ HC.out HCC.out HR.out).mono ?_); rintro e w2 ⟨rfl, hb2⟩; have HB2 := As hb2; clear hb2) | (go_at_call 36; (with_reducible refine (empty.calls _).mono ?_); rintro e wa ⟨rfl, hba⟩; have HBA := As (below_step HB2.out hba); clear hba) | ((with_reducible refine gate_ (.store 76 (.tmp 7) (.tmp 23)) rfl ?_); refine blk_store rfl rfl 76 (.tmp 7) (.tmp 23) rfl (zero_blk wa) 0 (.agg St.zero.enc.toArray) St.zero.enc St.zero.enc ⟨_, rfl, rfl⟩ rfl rfl (by rw [St.len St.zero_ok]; kernel_rfl) (by rw [St.len St.zero_ok, St.len (stI_ok 0 (by omega))]; omega) ?h1 ?hE ?_; (case h1 => exact st_one _); (case hE => exact over_whole _ _ (by rw [St.len St.zero_ok, St.len (stI_ok 0 (by omega))])); intro wb HSb HGb))
   have HBb : Aside0 (Below w.heap.size w wb) := ⟨pw_below_grown (below_alloc HBA.out _) _ (below_alloc HBA.out _).size HGb.out (by intro k hk; injection hk with hk; have := HBA.out.size; omega)⟩
   obtain ⟨b, hb⟩ : ∃ b, b = wa.heap.size := ⟨_, rfl⟩
   have HBW : Aside0 (w.heap.size ≤ b) := ⟨by rw [hb]; exact HBA.out.size⟩
   rw [← hb] at HSb ⊢
   clear HBA HGb hb HB2
   go_wp2_with (fail)
   go_loopg [26] l.length (fun kq v26 w' => ∃ (i : Nat) (s : St), v26 = .int .i64 i ∧ Aside0 (i + kq = l.length) ∧ Aside0 (s = rstA (l.take i) t) ∧ Aside0 s.ok ∧ Aside0 (BlkIs w' b 76 s.enc) ∧ Aside0 (Below w.heap.size w w'))
   case atStart => exact ⟨0, St.zero, rfl, ⟨by omega⟩, ⟨rfl⟩, ⟨St.zero_ok⟩, HSb, HBb⟩
   case round =>
    clear HSb HBb
    obtain ⟨i, s, rfl, HI, HX, HOK, HS, HB⟩ := hrel
    cases gk with
    | zero =>
     have c4b0 : decide ((i : Int) < (l.length : Int)) = false := decide_eq_false (by have := HI.out; omega)
     have c4b1 : decide (i < l.length) = false := decide_eq_false (by have := HI.out; omega)
     have HSE : Aside0 (s = rstA l t) := ⟨by
      have := HX.out
      rw [show i = l.length by have := HI.out; omega, List.take_length] at this
      exact this⟩
     clear HX HI
     go_wp2_with (fail)
     obtain ⟨w4, hw4⟩ : ∃ w4, w4 = wr := ⟨_, rfl⟩
     rw [← hw4] at HS HB ⊢
     clear hw4
     go_loopg [10, 37] 64 (fun kq v10 v37 w' => ∃ n : Nat, v37 = .int .i64 n ∧ Aside0 (n + kq = 64) ∧ Aside0 (Kd.R k41 41 w' w4.heap.size (fun _ => True) v10 (rleases s t n)) ∧ Aside0 (Below w4.heap.size w4 w'))
     case atStart => exact ⟨0, rfl, ⟨rfl⟩, ⟨Kd.R_nil _ _ _ _ _⟩, ⟨Below.refl _ _⟩⟩
     case round =>
      obtain ⟨n, rfl, HN, HO, HB4⟩ := hrel
      cases gk with
      | zero =>
       have d4b0 : decide ((n : Int) < 64) = false := decide_eq_false (by have := HN.out; omega)
       have d4b1 : decide (n < 64) = false := decide_eq_false (by have := HN.out; omega)
       have HNE : Aside0 (n = 64) := ⟨by have := HN.out; omega⟩
       go_wp2
       go_ret2
       exact ⟨_, rfl, Kd.R_lower (by rw [← HSE.out, ← HNE.out]; exact HO.out) HB.out.size, below_step HB.out HB4.out⟩
      | succ k2 =>
       have hnl : n < 64 := by have := HN.out; omega
       have d4b0 : decide ((n : Int) < 64) = true := decide_eq_true (by omega)
       have d4b1 : decide (n < 64) = true := decide_eq_true hnl
       have hn64 : (n : Int) ≤ 9223372036854775806 := by omega
       have pn1 : 0 ≤ (n : Int) := by omega
       have pn2 : (n : Int) < 64 := by omega
       have HNL := As hnl
       have HS5 := As (HS.out.below HB4.out)
       cases hf : s.force n t with
       | false =>
        have HF : Aside0 (s.force ((n : Int)).toNat t = false) := ⟨by rw [Int.toNat_natCast]; exact hf⟩
        have HNX : Aside0 (Kd.R k41 41 wr w4.heap.size (fun _ => True) u10 (rleases s t (n + 1))) := ⟨by
         rw [rleases_succ, show rforce s t n = [] by unfold rforce; rw [hf]; rfl, List.append_nil]
         exact HO.out⟩
        clear hf
        go_wp2_with (go_at_call 38; (with_reducible refine (force.calls b s (n : Int) t _ HS5.out HOK.out pn1 pn2 false HF.out).mono ?_); rintro e w5 ⟨rfl, rfl⟩)
        go_roundg k2
        case measure => omega
        case rel => exact ⟨n + 1, by simp, ⟨by have := HN.out; omega⟩, HNX, HB4⟩
       | true =>
        have HF : Aside0 (s.force ((n : Int)).toNat t = true) := ⟨by rw [Int.toNat_natCast]; exact hf⟩
        have HFN := As hf
        clear hf
        have huL := Tryd.underlying41
        obtain ⟨le, hle⟩ : ∃ le, le = s.le n := ⟨_, rfl⟩
        have y0 : wr.cell? ⟨b, n * 8, none⟩ = some (.int .i64 (s.le n).o) := (HS5.out.at_ _).trans (St.get_le HOK.out n 0 HNL.out (by omega))
        have y1 : wr.cell? ⟨b, n * 8 + 1, none⟩ = some (.int .i64 (s.le n).k) := (HS5.out.at_ _).trans (St.get_le HOK.out n 1 HNL.out (by omega))
        have y2 : wr.cell? ⟨b, n * 8 + 2, none⟩ = some (.int .i64 (s.le n).s) := (HS5.out.at_ _).trans (St.get_le HOK.out n 2 HNL.out (by omega))
        have y3 : wr.cell? ⟨b, n * 8 + 3, none⟩ = some (.int .i64 (s.le n).h) := (HS5.out.at_ _).trans (St.get_le HOK.out n 3 HNL.out (by omega))
        have y4 : wr.cell? ⟨b, n * 8 + 4, none⟩ = some (.int .i64 (s.le n).z) := (HS5.out.at_ _).trans (St.get_le HOK.out n 4 HNL.out (by omega))
        have y5 : wr.cell? ⟨b, n * 8 + 5, none⟩ = some (.int .i64 (s.le n).fr) := (HS5.out.at_ _).trans (St.get_le HOK.out n 5 HNL.out (by omega))
        have y6 : wr.cell? ⟨b, n * 8 + 6, none⟩ = some (.int .i64 (s.le n).un) := (HS5.out.at_ _).trans (St.get_le HOK.out n 6 HNL.out (by omega))
        have y7 : wr.cell? ⟨b, n * 8 + 7, none⟩ = some (.bool (s.le n).rc) := (HS5.out.at_ _).trans (St.get_le HOK.out n 7 HNL.out (by omega))
        rw [← hle] at y0 y1 y2 y3 y4 y5 y6 y7
        have HLE := As hle
        clear hle
        go_wp2_with (first | (go_at_call 38; (with_reducible refine (force.calls b s (n : Int) t _ HS5.out HOK.out pn1 pn2 true HF.out).mono ?_); rintro e w5 ⟨rfl, rfl⟩) | ((with_reducible refine gate_ (.call { callee := .builtin .append, args := #[.tmp 43, .tmp 48], argTypes := #[37, 37] }) rfl ?_); refine Kd.R_append k41 (w0 := w4) w4.heap.size rfl (.tmp 43) (.tmp 48) 37 41 (.agg #[.int .i64 0, .int .i64 0, .int .i64 0, .int .i64 0, .int .i64 0, .int .i64 0, .int .i64 0, .bool false]) 64 rfl Tryd.underlying37 rinfo rfl (by decide) (by omega) u10 (rleases s t n) (leaseR le) [.int .i64 le.o, .int .i64 le.k, .int .i64 le.s, .int .i64 le.h, .int .i64 le.z, .int .i64 le.fr, .int .i64 le.un, .bool le.rc] (fun _ => True) (fun _ => False) rfl rfl ?aP (fun _ hk => hk.elim) ?aF ?aO ?aB ?aS ?aL ?_; (case aP => exact k41_mkM _ _ _ (leaseR le)); (case aF => exact fun _ _ => trivial); (case aO => exact HO.out); (case aB => exact HB4.out); (case aS => exact HB4.out.size); (case aL => have := rleases_len s t n; have := HNL.out; omega); intro v1 w5 ho hb5 hg5 hat5; have HNX : Aside0 (Kd.R k41 41 w5 w4.heap.size (fun _ => True) v1 (rleases s t (n + 1))) := ⟨by rw [rleases_succ, show rforce s t n = [leaseR le] by unfold rforce; rw [HFN.out, HLE.out]; rfl]; exact ho⟩; have HB5 := As hb5; clear ho hb5 hg5 hat5))
        go_roundg k2
        case measure => omega
        case rel => exact ⟨n + 1, by simp, ⟨by have := HN.out; omega⟩, HNX, HB5⟩
    | succ k1 =>
     have hil : i < l.length := by have := HI.out; omega
     have c4b0 : decide ((i : Int) < (l.length : Int)) = true := decide_eq_true (by omega)
     have c4b1 : decide (i < l.length) = true := decide_eq_true hil
     have hi64 : (i : Int) ≤ 9223372036854775806 := by have := HLM.out; omega
     have p1 : 0 ≤ (i : Int) := by omega
     have q1 : (i : Int) < (l.length : Int) := by omega
     obtain ⟨ad, e1, hx0, hx1, hx2, hx3, hx4, hx5, hx6, hx7, hx8, hx9, hx10⟩ := at_T51 HC.out i p1 q1
     cases e1
     replace hx0 := (HB.out.cell (World.block_lt_of_cell? w _ hx0)).trans hx0
     replace hx1 := (HB.out.cell (World.block_lt_of_cell? w _ hx1)).trans hx1
     replace hx2 := (HB.out.cell (World.block_lt_of_cell? w _ hx2)).trans hx2
     replace hx3 := (HB.out.cell (World.block_lt_of_cell? w _ hx3)).trans hx3
     replace hx4 := (HB.out.cell (World.block_lt_of_cell? w _ hx4)).trans hx4
     replace hx5 := (HB.out.cell (World.block_lt_of_cell? w _ hx5)).trans hx5
     replace hx6 := (HB.out.cell (World.block_lt_of_cell? w _ hx6)).trans hx6
     replace hx7 := (HB.out.cell (World.block_lt_of_cell? w _ hx7)).trans hx7
     replace hx8 := (HB.out.cell (World.block_lt_of_cell? w _ hx8)).trans hx8
     replace hx9 := (HB.out.cell (World.block_lt_of_cell? w _ hx9)).trans hx9
     replace hx10 := (HB.out.cell (World.block_lt_of_cell? w _ hx10)).trans hx10
     rw [Int.toNat_natCast] at hx0 hx1 hx2 hx3 hx4 hx5 hx6 hx7 hx8 hx9 hx10
     have hvv := HSS.out i hil
     obtain ⟨x, hxe⟩ : ∃ x, x = rd_T51 l (i : Int) := ⟨_, rfl⟩
     rw [← hxe] at hx0 hx1 hx2 hx3 hx4 hx5 hx6 hx7 hx8 hx9 hx10 hvv
     have HV := As hvv
     have EL : Aside0 (l[i] = x) := ⟨by rw [hxe]; unfold rd_T51; rw [Int.toNat_natCast, List.getD_eq_getElem?_getD, List.getElem?_eq_getElem hil]; rfl⟩
     have HIL := As hil
     clear hxe hvv
     have hHN := heap_alloc_new wr (.cells #[.int .i64 x.f0, .int .i64 x.f1, .int .i64 x.f2, .int .i64 x.f3, .int .i64 x.f4, .int .i64 x.f5, .int .i64 x.f6, .int .i64 x.f7, .int .i64 x.f8, .int .i64 x.f9, .int .i64 x.f10] 51)
     have hHS := HS.out.alloc (.cells #[.int .i64 x.f0, .int .i64 x.f1, .int .i64 x.f2, .int .i64 x.f3, .int .i64 x.f4, .int .i64 x.f5, .int .i64 x.f6, .int .i64 x.f7, .int .i64 x.f8, .int .i64 x.f9, .int .i64 x.f10] 51)
     have hHB := below_alloc HB.out (.cells #[.int .i64 x.f0, .int .i64 x.f1, .int .i64 x.f2, .int .i64 x.f3, .int .i64 x.f4, .int .i64 x.f5, .int .i64 x.f6, .int .i64 x.f7, .int .i64 x.f8, .int .i64 x.f9, .int .i64 x.f10] 51)
     go_upto_region 10 with (fail)
     generalize wr.alloc (.cells #[.int .i64 x.f0, .int .i64 x.f1, .int .i64 x.f2, .int .i64 x.f3, .int .i64 x.f4, .int .i64 x.f5, .int .i64 x.f6, .int .i64 x.f7, .int .i64 x.f8, .int .i64 x.f9, .int .i64 x.f10] 51) = w1 at hHN hHS hHB ⊢
     have HN1 : Aside0 (BlkIs w1 wr.heap.size 51 [.int .i64 x.f0, .int .i64 x.f1, .int .i64 x.f2, .int .i64 x.f3, .int .i64 x.f4, .int .i64 x.f5, .int .i64 x.f6, .int .i64 x.f7, .int .i64 x.f8, .int .i64 x.f9, .int .i64 x.f10]) := ⟨hHN⟩
     have HS1 := As hHS
     have HB1 := As hHB
     clear hHN hHS hHB hx0 hx1 hx2 hx3 hx4 hx5 hx6 hx7 hx8 hx9 hx10 HS HB
     obtain ⟨x0_1, x1_1, x2_1, x3_1, x4_1, x5_1, x6_1, x7_1, x8_1, x9_1, x10_1⟩ := cs11 HN1.out
     cases ht : decide (x.f4 ≤ t) with
     | false =>
      have HXE : Aside0 (s = rstA (l.take (i + 1)) t) := ⟨by rw [rstA_succ HIL.out EL.out, ← HX.out]; unfold rstep; rw [if_neg (of_decide_eq_false ht)]⟩
      go_wp2_with (fail)
      go_roundg k1
      case measure => omega
      case rel => exact ⟨i + 1, s, by simp, ⟨by have := HI.out; omega⟩, HXE, HOK, HS1, HB1⟩
     | true =>
      have HXE : Aside0 ((s.sayS x).getD s = rstA (l.take (i + 1)) t) := ⟨by rw [rstA_succ HIL.out EL.out, ← HX.out]; unfold rstep; rw [if_pos (of_decide_eq_true ht)]⟩
      go_wp2_with (go_at_call 37; (with_reducible refine (say.calls b s x _ HS1.out HOK.out (fun h1 h5 => validR_rng HV.out h1 h5) _ rfl).mono ?_); rintro e w5 ⟨rfl, hs5, hg5⟩; have HS5 := As hs5; have HB5 : Aside0 (Below w.heap.size w w5) := ⟨pw_below_grown HB1.out _ HB1.out.size hg5 (by intro k hk; injection hk with hk; have := HBW.out; omega)⟩; clear hs5 hg5)
      go_roundg k1
      case measure => omega
      case rel => exact ⟨i + 1, _, by simp, ⟨by have := HI.out; omega⟩, HXE, ⟨getD_ok HOK.out⟩, HS5, HB5⟩
 ·rw [if_pos hz] at h
  simp only [Option.some.injEq, Prod.mk.injEq] at h
  obtain ⟨rfl, rfl⟩ := h
  have c0b0 : (r0 == 0) = false := beq_eq_false_iff_ne.mpr hz
  have c0b1 : (r0 != 0) = true := bne_iff_ne.mpr hz
  clear hz
  go_enter Tryd.func15, Tryd.ntmps15
  go_wp2_with ((go_at_call 35; (with_reducible refine (ref16_Right.calls A0 c0 l r0 _ HC.out HCC.out HR.out).mono ?_); rintro e w2 ⟨rfl, hb2⟩; have HB2 := As hb2; clear hb2))
  go_ret2
  exact ⟨_, rfl, Kd.R_nil _ _ _ _ _, by repeat (first | exact HB2.out | apply below_drew1 | apply pw_below_drewN)⟩
end
def ref16_term.f (k : Nat) (a0_0 : Int) (a0_1 : Int) (a0_2 : Int) (a0_3 : Int) (a0_4 : Int) (a0_5 : Int) (a0_6 : Int) (a0_7 : Int) (a0_8 : Int) (a0_9 : Int) (a0_10 : Int) : Option (Bool) := (ref15_Valid.f k a0_0 a0_1 a0_2 a0_3 a0_4 a0_5 a0_6 a0_7 a0_8 a0_9 a0_10).bind fun t243 => (if t243 = true then (if a0_5 = 1 then (some true) else (some (a0_5 == 2))) else (some false))
set_option maxHeartbeats 8000000 in
set_option maxRecDepth 100000 in
theorem ref16_term.calls (k : Nat) (a0_0 : Int) (a0_1 : Int) (a0_2 : Int) (a0_3 : Int) (a0_4 : Int) (a0_5 : Int) (a0_6 : Int) (a0_7 : Int) (a0_8 : Int) (a0_9 : Int) (a0_10 : Int) (r : Bool) (w : World) (h : ref16_term.f k a0_0 a0_1 a0_2 a0_3 a0_4 a0_5 a0_6 a0_7 a0_8 a0_9 a0_10 = some r) :
  Calls Tryd.prog 87 #[.agg #[.int .i64 a0_0, .int .i64 a0_1, .int .i64 a0_2, .int .i64 a0_3, .int .i64 a0_4, .int .i64 a0_5, .int .i64 a0_6, .int .i64 a0_7, .int .i64 a0_8, .int .i64 a0_9, .int .i64 a0_10]] w fun e w' => e = .returned (.bool r) ∧ Below w.heap.size w w' := by
 have hu51 := Tryd.underlying51; have HB := As (Below.refl w.heap.size w); have H : ((ref15_Valid.f k a0_0 a0_1 a0_2 a0_3 a0_4 a0_5 a0_6 a0_7 a0_8 a0_9 a0_10).bind fun t243 => (if t243 = true then (if a0_5 = 1 then (some true) else (some (a0_5 == 2))) else (some false))) = some r := h; clear h; replace H := Option.bind_eq_some_iff.mp H; obtain ⟨t243, A20, H⟩ := H; (try dsimp only at H); have A2 := As A20; clear A20
 by_cases c3 : t243 = true
 ·subst c3
  rw [if_pos rfl] at H
  by_cases c4 : a0_5 = 1
  ·rw [if_pos c4] at H
   have c4b0 : (a0_5 == 1) = true := beq_iff_eq.mpr c4; have c4b1 : (a0_5 != 1) = false := bne_eq_false_iff_eq.mpr c4; clear c4; obtain rfl := Option.some.inj H; go_enter Tryd.func87, Tryd.ntmps87
   go_wp2_with (first | ((with_reducible refine gate_dst (N := 1) rfl ?_); refine box_event ?hg (N := 1) ?hd (cs := #[.int .i64 a0_0, .int .i64 a0_1, .int .i64 a0_2, .int .i64 a0_3, .int .i64 a0_4, .int .i64 a0_5, .int .i64 a0_6, .int .i64 a0_7, .int .i64 a0_8, .int .i64 a0_9, .int .i64 a0_10]) (t := 51) ?hr ?_; (case hd => rfl); (case hg => rfl); (case hr => first | (go_simp; done) | (go_simp; rfl)); intro gb242 hg w5 hbox hb; have BK242 := As (hbox); have GW242 := As (by rw [hg]; exact (below_size hBq) : w.heap.size ≤ gb242); replace HB := sBq hb; have GE242 := GW242; clear hb hbox hg; obtain ⟨hcz6_0, hcz6_1, hcz6_2, hcz6_3, hcz6_4, hcz6_5, hcz6_6, hcz6_7, hcz6_8, hcz6_9, hcz6_10, hfz6_0, hfz6_1, hfz6_2, hfz6_3, hfz6_4, hfz6_5, hfz6_6, hfz6_7, hfz6_8, hfz6_9, hfz6_10⟩ := cf11 BK242.out) | ((with_reducible refine gate_callee (f := 47) rfl ?_); refine goesL_ (some 4) rfl rfl Tryd.func47 (by kernel_rfl) rfl #[.agg #[.int .i64 a0_0, .int .i64 a0_1, .int .i64 a0_2, .int .i64 a0_3, .int .i64 a0_4, .int .i64 a0_5, .int .i64 a0_6, .int .i64 a0_7, .int .i64 a0_8, .int .i64 a0_9, .int .i64 a0_10]] rfl (by (try simp only [m1, m2, m3]); first | done | rfl | (simp only [m4, m5]; rfl)) ?_; (with_reducible refine (ref15_Valid.calls k a0_0 a0_1 a0_2 a0_3 a0_4 a0_5 a0_6 a0_7 a0_8 a0_9 a0_10 true _ A2.out).mono ?_); rintro e w7 ⟨rfl, hb⟩; refine ⟨_, rfl, ?_⟩; replace BK242 := As (blk_below (g := gb242) (plq BK242.out) hb); replace HB := sBq hb; (try clear hb); (try clear hb2); (try clear hk); (try clear hi); obtain ⟨hcz8_0, hcz8_1, hcz8_2, hcz8_3, hcz8_4, hcz8_5, hcz8_6, hcz8_7, hcz8_8, hcz8_9, hcz8_10, hfz8_0, hfz8_1, hfz8_2, hfz8_3, hfz8_4, hfz8_5, hfz8_6, hfz8_7, hfz8_8, hfz8_9, hfz8_10⟩ := cf11 BK242.out))
   go_ret; exact ⟨erq, hBq⟩
  ·rw [if_neg c4] at H
   have c4b0 : (a0_5 == 1) = false := beq_eq_false_iff_ne.mpr c4; have c4b1 : (a0_5 != 1) = true := bne_iff_ne.mpr c4; obtain rfl := Option.some.inj H; go_enter Tryd.func87, Tryd.ntmps87
   go_wp2_with (first | ((with_reducible refine gate_dst (N := 1) rfl ?_); refine box_event ?hg (N := 1) ?hd (cs := #[.int .i64 a0_0, .int .i64 a0_1, .int .i64 a0_2, .int .i64 a0_3, .int .i64 a0_4, .int .i64 a0_5, .int .i64 a0_6, .int .i64 a0_7, .int .i64 a0_8, .int .i64 a0_9, .int .i64 a0_10]) (t := 51) ?hr ?_; (case hd => rfl); (case hg => rfl); (case hr => first | (go_simp; done) | (go_simp; rfl)); intro gb242 hg w9 hbox hb; have BK242 := As (hbox); have GW242 := As (by rw [hg]; exact (below_size hBq) : w.heap.size ≤ gb242); replace HB := sBq hb; have GE242 := GW242; clear hb hbox hg; obtain ⟨hcz10_0, hcz10_1, hcz10_2, hcz10_3, hcz10_4, hcz10_5, hcz10_6, hcz10_7, hcz10_8, hcz10_9, hcz10_10, hfz10_0, hfz10_1, hfz10_2, hfz10_3, hfz10_4, hfz10_5, hfz10_6, hfz10_7, hfz10_8, hfz10_9, hfz10_10⟩ := cf11 BK242.out) | ((with_reducible refine gate_callee (f := 47) rfl ?_); refine goesL_ (some 4) rfl rfl Tryd.func47 (by kernel_rfl) rfl #[.agg #[.int .i64 a0_0, .int .i64 a0_1, .int .i64 a0_2, .int .i64 a0_3, .int .i64 a0_4, .int .i64 a0_5, .int .i64 a0_6, .int .i64 a0_7, .int .i64 a0_8, .int .i64 a0_9, .int .i64 a0_10]] rfl (by (try simp only [m1, m2, m3]); first | done | rfl | (simp only [m4, m5]; rfl)) ?_; (with_reducible refine (ref15_Valid.calls k a0_0 a0_1 a0_2 a0_3 a0_4 a0_5 a0_6 a0_7 a0_8 a0_9 a0_10 true _ A2.out).mono ?_); rintro e w11 ⟨rfl, hb⟩; refine ⟨_, rfl, ?_⟩; replace BK242 := As (blk_below (g := gb242) (plq BK242.out) hb); replace HB := sBq hb; (try clear hb); (try clear hb2); (try clear hk); (try clear hi); obtain ⟨hcz12_0, hcz12_1, hcz12_2, hcz12_3, hcz12_4, hcz12_5, hcz12_6, hcz12_7, hcz12_8, hcz12_9, hcz12_10, hfz12_0, hfz12_1, hfz12_2, hfz12_3, hfz12_4, hfz12_5, hfz12_6, hfz12_7, hfz12_8, hfz12_9, hfz12_10⟩ := cf11 BK242.out))
   go_ret; exact ⟨erq, hBq⟩
 ·replace c3 := Bool.eq_false_iff.mpr c3
  subst c3; rw [if_neg nft] at H; obtain rfl := Option.some.inj H; go_enter Tryd.func87, Tryd.ntmps87
  go_wp2_with (first | ((with_reducible refine gate_dst (N := 1) rfl ?_); refine box_event ?hg (N := 1) ?hd (cs := #[.int .i64 a0_0, .int .i64 a0_1, .int .i64 a0_2, .int .i64 a0_3, .int .i64 a0_4, .int .i64 a0_5, .int .i64 a0_6, .int .i64 a0_7, .int .i64 a0_8, .int .i64 a0_9, .int .i64 a0_10]) (t := 51) ?hr ?_; (case hd => rfl); (case hg => rfl); (case hr => first | (go_simp; done) | (go_simp; rfl)); intro gb242 hg w13 hbox hb; have BK242 := As (hbox); have GW242 := As (by rw [hg]; exact (below_size hBq) : w.heap.size ≤ gb242); replace HB := sBq hb; have GE242 := GW242; clear hb hbox hg; obtain ⟨hcz14_0, hcz14_1, hcz14_2, hcz14_3, hcz14_4, hcz14_5, hcz14_6, hcz14_7, hcz14_8, hcz14_9, hcz14_10, hfz14_0, hfz14_1, hfz14_2, hfz14_3, hfz14_4, hfz14_5, hfz14_6, hfz14_7, hfz14_8, hfz14_9, hfz14_10⟩ := cf11 BK242.out) | ((with_reducible refine gate_callee (f := 47) rfl ?_); refine goesL_ (some 4) rfl rfl Tryd.func47 (by kernel_rfl) rfl #[.agg #[.int .i64 a0_0, .int .i64 a0_1, .int .i64 a0_2, .int .i64 a0_3, .int .i64 a0_4, .int .i64 a0_5, .int .i64 a0_6, .int .i64 a0_7, .int .i64 a0_8, .int .i64 a0_9, .int .i64 a0_10]] rfl (by (try simp only [m1, m2, m3]); first | done | rfl | (simp only [m4, m5]; rfl)) ?_; (with_reducible refine (ref15_Valid.calls k a0_0 a0_1 a0_2 a0_3 a0_4 a0_5 a0_6 a0_7 a0_8 a0_9 a0_10 false _ A2.out).mono ?_); rintro e w15 ⟨rfl, hb⟩; refine ⟨_, rfl, ?_⟩; replace BK242 := As (blk_below (g := gb242) (plq BK242.out) hb); replace HB := sBq hb; (try clear hb); (try clear hb2); (try clear hk); (try clear hi)))
  go_ret; exact ⟨erq, hBq⟩
def ref17_Kept.l0 : Nat → Int → List (S41) → Int → Int → Option (Int × Int)
 | 0, _, _, _, _ => none
 | k + 1, x8, x20, x21, x22 => if x22 < x21 then (if 0 ≤ x22 then (if x22 < (x20.length : Int) then (ref17_Kept.l0 k (wrap64 (x8 + ((rd_T41 x20 x22).f4))) x20 x21 (wrap64 (x22 + 1))) else (none)) else (none)) else (some (x8, 0))
def ref17_Kept.f (k : Nat) (l0 : List (S51)) (a1 : Int) : Option (Int × Int) := (ref16_Leases.f l0 a1).bind fun bt236 => (if bt236.2 = 0 then (ref17_Kept.l0 k 0 bt236.1 (bt236.1.length : Int) 0) else (some (0, bt236.2)))
set_option maxHeartbeats 8000000 in
set_option maxRecDepth 100000 in
theorem ref17_Kept.calls (k : Nat) (A0 : Option Addr) (c0 : Nat) (l0 : List (S51)) (a1 : Int) (r1 : Int) (r2 : Int) (w : World) (hr0 : Kd.C k51 w A0 l0.length l0) (hc0 : l0.length ≤ c0) (h : ref17_Kept.f k l0 a1 = some (r1, r2)) :
  Calls Tryd.prog 28 #[.slice A0 l0.length c0, .int .i64 a1] w fun e w' => e = .returned (.tuple #[.int .i64 r1, .int .i64 r2]) ∧ Below w.heap.size w w' := by
 have hu41 := Tryd.underlying41; have HR0 := As hr0; have HC0 := As hc0; clear hr0 hc0; have HB := As (Below.refl w.heap.size w); have H : ((ref16_Leases.f l0 a1).bind fun bt236 => (if bt236.2 = 0 then (ref17_Kept.l0 k 0 bt236.1 (bt236.1.length : Int) 0) else (some (0, bt236.2)))) = some (r1, r2) := h; clear h; replace H := Option.bind_eq_some_iff.mp H; obtain ⟨⟨t236, t237⟩, A30, H⟩ := H; (try dsimp only at H); have A3 := As A30; clear A30
 by_cases c4 : t237 = 0
 ·rw [if_pos c4] at H
  have c4b0 : (t237 == 0) = true := beq_iff_eq.mpr c4; have c4b1 : (t237 != 0) = false := bne_eq_false_iff_eq.mpr c4; clear c4; have H' := As H; clear H; go_enter Tryd.func28, Tryd.ntmps28; go_wp2_with (first | ((with_reducible refine gate_callee (f := 15) rfl ?_); refine goesL_ (some 14) rfl rfl Tryd.func15 (by kernel_rfl) rfl #[.slice A0 l0.length c0, .int .i64 a1] rfl (by (try simp only [m1, m2, m3]); first | done | rfl | (simp only [m4, m5]; rfl)) ?_; (with_reducible refine (ref16_Leases.calls _ _ l0 a1 t236 t237 _ ?side1 ?side2 A3.out).mono ?_); (case side1 => repeat (first | exact HR0.out | (with_reducible refine Kd.C_alloc ?_ _) | (with_reducible refine Kd.C_drewN ?_ _) | (with_reducible refine Kd.C_drew ?_))); (case side2 => exact HC0.out); rintro e w5 ⟨v238, rfl, ho0, hb⟩; refine ⟨_, rfl, ?_⟩; have HO239 := As (Kd.R_lower ho0 (below_size hBq)); replace HB := sBq hb; (try clear hb); (try clear hb2); (try clear hk); (try clear hi); (try clear ho0); obtain ⟨Ao6, co6, eo6⟩ := Kd.R_slice HO239.out; subst eo6))
  go_loopg [8, 22] k (fun kq v8 v22 w' => ∃ (x8_1 : Int) (x22_1 : Int), v8 = .int .i64 x8_1 ∧ v22 = .int .i64 x22_1 ∧ Aside0 (ref17_Kept.l0 kq x8_1 t236 (t236.length : Int) x22_1 = some (r1, r2)) ∧ Aside0 (kq ≤ k) ∧ Aside0 (Kd.R k41 41 w' w.heap.size (fun _ => True) (.slice Ao6 t236.length co6) t236) ∧ Aside0 (Below w.heap.size w w'))
  case atStart => exact ⟨(0), (0), (by first | rfl | (simp; done) | (simp [*]; done)), (by first | rfl | (simp; done) | (simp [*]; done)), H', ⟨Nat.le_refl _⟩, ⟨by (with_reducible repeat (first | apply Kd.R_alloc | apply Kd.R_drewN | apply Kd.R_drew)); exact HO239.out⟩, ⟨hBq⟩⟩
  case round =>
   clear H'; (try clear c1); (try clear c2); (try clear p2); (try clear c4); (try clear c4b0); (try clear c4b1); obtain ⟨x8_1, x22_1, rfl, rfl, HA, HK1, HO_20, HB⟩ := hrel
   cases gk with
   | zero => exact absurd HA.out (by simp [ref17_Kept.l0])
   | succ k1 =>
    have H := HA.out; clear HA; simp only [ref17_Kept.l0] at H
    by_cases c7 : x22_1 < (t236.length : Int)
    ·rw [if_pos c7] at H
     have c7b0 : decide (x22_1 < (t236.length : Int)) = true := decide_eq_true c7; clear c7
     by_cases c8 : 0 ≤ x22_1
     ·rw [if_pos c8] at H
      have c8b0 : decide (0 ≤ x22_1) = true := decide_eq_true c8; clear c8
      by_cases c9 : x22_1 < (t236.length : Int)
      ·rw [if_pos c9] at H
       have c9b0 : decide (x22_1 < (t236.length : Int)) = true := decide_eq_true c9; clear c9; have H' := As H; clear H; have p240 : 0 ≤ (x22_1 : Int) := of_decide_eq_true (by first | (with_reducible assumption) | assumption); have q240 : x22_1 < (t236.length : Int) := of_decide_eq_true (by first | (with_reducible assumption) | assumption); obtain ⟨ad240, e240, hx240_0, hx240_1, hx240_2, hx240_3, hx240_4, hx240_5, hx240_6, hx240_7⟩ := at_T41 (Kd.R_reads' HO_20.out).2.2 x22_1 p240 q240; cases e240; replace p240 := eq_true p240; replace q240 := eq_true q240
       go_wp2_with (first | ((with_reducible refine gate_dst (N := 10) rfl ?_); refine box_event ?hg (N := 10) ?hd (cs := #[.int .i64 0, .int .i64 0, .int .i64 0, .int .i64 0, .int .i64 0, .int .i64 0, .int .i64 0, .bool false]) (t := 41) ?hr ?_; (case hd => rfl); (case hg => rfl); (case hr => first | (go_simp; done) | (go_simp; rfl)); intro gb241 hg w10 hbox hb; replace HO_20 := As (Kd.R_below (Kd.R_elderB (by (with_reducible repeat (first | apply Kd.R_alloc | apply Kd.R_drewN | apply Kd.R_drew)); exact HO_20.out) gb241 (Nat.le_of_eq hg.symm)) hb); have BK241 := As (hbox); have GW241 := As (by rw [hg]; exact (below_size hBq) : w.heap.size ≤ gb241); replace HB := sBq hb; have GE241 := GW241; clear hb hbox hg; obtain ⟨hcz11_0, hcz11_1, hcz11_2, hcz11_3, hcz11_4, hcz11_5, hcz11_6, hcz11_7, hfz11_0, hfz11_1, hfz11_2, hfz11_3, hfz11_4, hfz11_5, hfz11_6, hfz11_7⟩ := cf8 BK241.out))
       go_roundg k1
       case measure => have := HK1.out; omega
       case rel => exact ⟨(wrap64 (x8_1 + ((rd_T41 t236 x22_1).f4))), (wrap64 (x22_1 + 1)), (by first | rfl | (simp; done) | (simp [*]; done)), (by first | rfl | (simp; done) | (simp [*]; done)), H', ⟨by have := HK1.out; omega⟩, ⟨by (with_reducible repeat (first | apply Kd.R_alloc | apply Kd.R_drewN | apply Kd.R_drew)); exact Kd.R_mono (Kd.R_far (p := ⟨gb241, 7, none⟩) (Kd.R_far (p := ⟨gb241, 6, none⟩) (Kd.R_far (p := ⟨gb241, 5, none⟩) (Kd.R_far (p := ⟨gb241, 4, none⟩) (Kd.R_far (p := ⟨gb241, 3, none⟩) (Kd.R_far (p := ⟨gb241, 2, none⟩) (Kd.R_far (p := ⟨gb241, 1, none⟩) (Kd.R_far (p := ⟨gb241, 0, none⟩) (Kd.R_mono HO_20.out (fun k_ hk => (⟨hk, hk.2⟩ : _ ∧ k_ ≠ gb241))) (fun _ hk => hk.2) (.int .i64 ((rd_T41 t236 x22_1).f0))) (fun _ hk => hk.2) (.int .i64 ((rd_T41 t236 x22_1).f1))) (fun _ hk => hk.2) (.int .i64 ((rd_T41 t236 x22_1).f2))) (fun _ hk => hk.2) (.int .i64 ((rd_T41 t236 x22_1).f3))) (fun _ hk => hk.2) (.int .i64 ((rd_T41 t236 x22_1).f4))) (fun _ hk => hk.2) (.int .i64 ((rd_T41 t236 x22_1).f5))) (fun _ hk => hk.2) (.int .i64 ((rd_T41 t236 x22_1).f6))) (fun _ hk => hk.2) (.bool ((rd_T41 t236 x22_1).f7))) (fun _ hk => trivial)⟩, ⟨hBq⟩⟩
      ·rw [if_neg c9] at H
       exact absurd H (by simp)
     ·rw [if_neg c8] at H
      exact absurd H (by simp)
    ·rw [if_neg c7] at H
     have c7b0 : decide (x22_1 < (t236.length : Int)) = false := decide_eq_false c7; clear c7; simp only [Option.some.injEq, Prod.mk.injEq] at H; obtain ⟨rfl, rfl⟩ := H; go_wp2; go_ret2; exact ⟨erq, hBq⟩
 ·rw [if_neg c4] at H
  have c4b0 : (t237 == 0) = false := beq_eq_false_iff_ne.mpr c4; have c4b1 : (t237 != 0) = true := bne_iff_ne.mpr c4; simp only [Option.some.injEq, Prod.mk.injEq] at H; obtain ⟨rfl, rfl⟩ := H; go_enter Tryd.func28, Tryd.ntmps28; go_wp2_with (first | ((with_reducible refine gate_callee (f := 15) rfl ?_); refine goesL_ (some 14) rfl rfl Tryd.func15 (by kernel_rfl) rfl #[.slice A0 l0.length c0, .int .i64 a1] rfl (by (try simp only [m1, m2, m3]); first | done | rfl | (simp only [m4, m5]; rfl)) ?_; (with_reducible refine (ref16_Leases.calls _ _ l0 a1 t236 t237 _ ?side1 ?side2 A3.out).mono ?_); (case side1 => repeat (first | exact HR0.out | (with_reducible refine Kd.C_alloc ?_ _) | (with_reducible refine Kd.C_drewN ?_ _) | (with_reducible refine Kd.C_drew ?_))); (case side2 => exact HC0.out); rintro e w12 ⟨v238, rfl, ho0, hb⟩; refine ⟨_, rfl, ?_⟩; have HO239 := As (Kd.R_lower ho0 (below_size hBq)); replace HB := sBq hb; (try clear hb); (try clear hb2); (try clear hk); (try clear hi); (try clear ho0))); go_ret2
  exact ⟨erq, hBq⟩
mutual
def ref16_Until.l0 : Nat → Int → Int → List (List (S51)) → Int → Int → Option (Int)
 | 0, _, _, _, _, _ => none
 | k + 1, x1, x5, x10, x11, x12 => if x12 < x11 then (if 0 ≤ x12 then (if x12 < (x10.length : Int) then (ref16_Until.l1 k x1 x5 x10 x11 x12 (rd_L5 x10 x12) ((rd_L5 x10 x12).length : Int) 0) else (none)) else (none)) else (some x5)
def ref16_Until.l1 : Nat → Int → Int → List (List (S51)) → Int → Int → List (S51) → Int → Int → Option (Int)
 | 0, _, _, _, _, _, _, _, _ => none
 | k + 1, x1, x5, x10, x11, x12, x16, x17, x18 => if x18 < x17 then (if 0 ≤ x18 then (if x18 < (x16.length : Int) then ((ref16_term.f k ((rd_T51 x16 x18).f0) ((rd_T51 x16 x18).f1) ((rd_T51 x16 x18).f2) ((rd_T51 x16 x18).f3) ((rd_T51 x16 x18).f4) ((rd_T51 x16 x18).f5) ((rd_T51 x16 x18).f6) ((rd_T51 x16 x18).f7) ((rd_T51 x16 x18).f8) ((rd_T51 x16 x18).f9) ((rd_T51 x16 x18).f10)).bind fun t247 => (if t247 = true then (if ((rd_T51 x16 x18).f6) = x1 then (ref16_Until.l1 k x1 (mx x5 ((rd_T51 x16 x18).f9)) x10 x11 x12 x16 x17 (wrap64 (x18 + 1))) else (ref16_Until.l1 k x1 x5 x10 x11 x12 x16 x17 (wrap64 (x18 + 1)))) else (ref16_Until.l1 k x1 x5 x10 x11 x12 x16 x17 (wrap64 (x18 + 1))))) else (none)) else (none)) else (ref16_Until.l0 k x1 x5 x10 x11 (wrap64 (x12 + 1)))
end
def ref16_Until.f (k : Nat) (l0 : List (List (S51))) (a1 : Int) : Option (Int) := ref16_Until.l0 k a1 (-1) l0 (l0.length : Int) 0
set_option maxHeartbeats 8000000 in
set_option maxRecDepth 100000 in
theorem ref16_Until.calls (k : Nat) (A0 : Option Addr) (c0 : Nat) (l0 : List (List (S51))) (a1 : Int) (r : Int) (w : World) (hr0 : Kd.C (Kd.slice 51 k51) w A0 l0.length l0) (hc0 : l0.length ≤ c0) (h : ref16_Until.f k l0 a1 = some r) :
  Calls Tryd.prog 80 #[.slice A0 l0.length c0, .int .i64 a1] w fun e w' => e = .returned (.int .i64 r) ∧ Below w.heap.size w w' := by
 have hu51 := Tryd.underlying51; have HR0 := As hr0; have HC0 := As hc0; clear hr0 hc0; have HB := As (Below.refl w.heap.size w); have H : (ref16_Until.l0 k a1 (-1) l0 (l0.length : Int) 0) = some r := h; clear h; have H' := As H; clear H; go_enter Tryd.func80, Tryd.ntmps80; go_wp2; go_loopg [5, 12] k (fun kq v5 v12 w' => ∃ (x5_1 : Int) (x12_1 : Int), v5 = .int .i64 x5_1 ∧ v12 = .int .i64 x12_1 ∧ Aside0 (ref16_Until.l0 kq a1 x5_1 l0 (l0.length : Int) x12_1 = some r) ∧ Aside0 (kq ≤ k) ∧ Aside0 (Below w.heap.size w w'))
 case atStart => exact ⟨((-1)), (0), (by first | rfl | (simp; done) | (simp [*]; done)), (by first | rfl | (simp; done) | (simp [*]; done)), H', ⟨Nat.le_refl _⟩, ⟨hBq⟩⟩
 case round =>
  clear H'; (try clear p2); obtain ⟨x5_1, x12_1, rfl, rfl, HA, HK1, HB⟩ := hrel
  cases gk with
  | zero => exact absurd HA.out (by simp [ref16_Until.l0])
  | succ k1 =>
   have H := HA.out; clear HA; simp only [ref16_Until.l0] at H
   by_cases c3 : x12_1 < (l0.length : Int)
   ·rw [if_pos c3] at H
    have c3b0 : decide (x12_1 < (l0.length : Int)) = true := decide_eq_true c3; clear c3
    by_cases c4 : 0 ≤ x12_1
    ·rw [if_pos c4] at H
     have c4b0 : decide (0 ≤ x12_1) = true := decide_eq_true c4; clear c4
     by_cases c5 : x12_1 < (l0.length : Int)
     ·rw [if_pos c5] at H
      have c5b0 : decide (x12_1 < (l0.length : Int)) = true := decide_eq_true c5; clear c5; have H' := As H; clear H; have p244 : 0 ≤ (x12_1 : Int) := of_decide_eq_true (by first | (with_reducible assumption) | assumption); have q244 : x12_1 < (l0.length : Int) := of_decide_eq_true (by first | (with_reducible assumption) | assumption); obtain ⟨ad244, A244_0, c244_0, e244, hx244_0, hl244_0, hi244_0⟩ := at_L5 HR0.out x12_1 p244 q244; cases e244; replace hx244_0 := (HB.out.cell (World.block_lt_of_cell? w _ hx244_0)).trans hx244_0; have HR244_0 := As hi244_0; have HC244_0 := As hl244_0; clear hi244_0 hl244_0; replace p244 := eq_true p244; replace q244 := eq_true q244; go_wp2; go_loopg [5, 18] k1 (fun kq v5 v18 w' => ∃ (x5_2 : Int) (x18_2 : Int), v5 = .int .i64 x5_2 ∧ v18 = .int .i64 x18_2 ∧ Aside0 (ref16_Until.l1 kq a1 x5_2 l0 (l0.length : Int) x12_1 (rd_L5 l0 x12_1) ((rd_L5 l0 x12_1).length : Int) x18_2 = some r) ∧ Aside0 (kq ≤ k1) ∧ Aside0 (Below w.heap.size w w'))
      case atStart => exact ⟨(x5_1), (0), (by first | rfl | (simp; done) | (simp [*]; done)), (by first | rfl | (simp; done) | (simp [*]; done)), H', ⟨Nat.le_refl _⟩, ⟨hBq⟩⟩
      case round =>
       clear H'; (try clear c2); (try clear p2); (try clear q2); (try clear hx2); (try clear c3); (try clear c3b0); (try clear c4); (try clear c4b0); (try clear c5); (try clear c5b0); (try clear hx244_0); (try clear p2); (try clear p244); (try clear q244); obtain ⟨x5_2, x18_2, rfl, rfl, HA, HK2, HB⟩ := hrel
       cases gk with
       | zero => exact absurd HA.out (by simp [ref16_Until.l1])
       | succ k2 =>
        have H := HA.out; clear HA; simp only [ref16_Until.l1] at H
        by_cases c6 : x18_2 < ((rd_L5 l0 x12_1).length : Int)
        ·rw [if_pos c6] at H
         have c6b0 : decide (x18_2 < ((rd_L5 l0 x12_1).length : Int)) = true := decide_eq_true c6; clear c6
         by_cases c7 : 0 ≤ x18_2
         ·rw [if_pos c7] at H
          have c7b0 : decide (0 ≤ x18_2) = true := decide_eq_true c7; clear c7
          by_cases c8 : x18_2 < ((rd_L5 l0 x12_1).length : Int)
          ·rw [if_pos c8] at H
           have c8b0 : decide (x18_2 < ((rd_L5 l0 x12_1).length : Int)) = true := decide_eq_true c8; clear c8; replace H := Option.bind_eq_some_iff.mp H; obtain ⟨t247, A90, H⟩ := H; (try dsimp only at H); have A9 := As A90; clear A90
           by_cases c10 : t247 = true
           ·subst c10
            rw [if_pos rfl] at H
            by_cases c11 : ((rd_T51 (rd_L5 l0 x12_1) x18_2).f6) = a1
            ·rw [if_pos c11] at H
             have c11b0 : (((rd_T51 (rd_L5 l0 x12_1) x18_2).f6) == a1) = true := beq_iff_eq.mpr c11; have c11b1 : (((rd_T51 (rd_L5 l0 x12_1) x18_2).f6) != a1) = false := bne_eq_false_iff_eq.mpr c11; clear c11; obtain ⟨ji12, hji12⟩ : ∃ j_ : Int, (mx x5_2 ((rd_T51 (rd_L5 l0 x12_1) x18_2).f9)) = j_ := ⟨_, rfl⟩; (replace H : (ref16_Until.l1 k2 a1 ji12 l0 (l0.length : Int) x12_1 (rd_L5 l0 x12_1) ((rd_L5 l0 x12_1).length : Int) (wrap64 (x18_2 + 1))) = some r := by first | (rw [hji12] at H; exact H) | (simp only [hji12] at H ⊢; exact H)); (try rw [hji12] at A9); have hji12_ : (if x5_2 < ((rd_T51 (rd_L5 l0 x12_1) x18_2).f9) then ((rd_T51 (rd_L5 l0 x12_1) x18_2).f9) else x5_2) = ji12 := hji12; have H' := As H; clear H; have p245 : 0 ≤ (x18_2 : Int) := of_decide_eq_true (by first | (with_reducible assumption) | assumption); have q245 : x18_2 < ((rd_L5 l0 x12_1).length : Int) := of_decide_eq_true (by first | (with_reducible assumption) | assumption); obtain ⟨ad245, e245, hx245_0, hx245_1, hx245_2, hx245_3, hx245_4, hx245_5, hx245_6, hx245_7, hx245_8, hx245_9, hx245_10⟩ := at_T51 (Kd.C_below HR244_0.out HB.out) x18_2 p245 q245; cases e245; replace p245 := eq_true p245; replace q245 := eq_true q245
             go_wp2_with (first | ((with_reducible refine gate_dst (N := 9) rfl ?_); refine box_event ?hg (N := 9) ?hd (cs := #[.int .i64 0, .int .i64 0, .int .i64 0, .int .i64 0, .int .i64 0, .int .i64 0, .int .i64 0, .int .i64 0, .int .i64 0, .int .i64 0, .int .i64 0]) (t := 51) ?hr ?_; (case hd => rfl); (case hg => rfl); (case hr => first | (go_simp; done) | (go_simp; rfl)); intro gb246 hg w13 hbox hb; have BK246 := As (hbox); have GW246 := As (by rw [hg]; exact (below_size hBq) : w.heap.size ≤ gb246); replace HB := sBq hb; have GE246 := GW246; clear hb hbox hg; obtain ⟨hcz14_0, hcz14_1, hcz14_2, hcz14_3, hcz14_4, hcz14_5, hcz14_6, hcz14_7, hcz14_8, hcz14_9, hcz14_10, hfz14_0, hfz14_1, hfz14_2, hfz14_3, hfz14_4, hfz14_5, hfz14_6, hfz14_7, hfz14_8, hfz14_9, hfz14_10⟩ := cf11 BK246.out) | ((with_reducible refine gate_callee (f := 87) rfl ?_); refine goesL_ (some 23) rfl rfl Tryd.func87 (by kernel_rfl) rfl #[.agg #[.int .i64 ((rd_T51 (rd_L5 l0 x12_1) x18_2).f0), .int .i64 ((rd_T51 (rd_L5 l0 x12_1) x18_2).f1), .int .i64 ((rd_T51 (rd_L5 l0 x12_1) x18_2).f2), .int .i64 ((rd_T51 (rd_L5 l0 x12_1) x18_2).f3), .int .i64 ((rd_T51 (rd_L5 l0 x12_1) x18_2).f4), .int .i64 ((rd_T51 (rd_L5 l0 x12_1) x18_2).f5), .int .i64 ((rd_T51 (rd_L5 l0 x12_1) x18_2).f6), .int .i64 ((rd_T51 (rd_L5 l0 x12_1) x18_2).f7), .int .i64 ((rd_T51 (rd_L5 l0 x12_1) x18_2).f8), .int .i64 ((rd_T51 (rd_L5 l0 x12_1) x18_2).f9), .int .i64 ((rd_T51 (rd_L5 l0 x12_1) x18_2).f10)]] rfl (by (try simp only [m1, m2, m3]); first | done | rfl | (simp only [m4, m5]; rfl)) ?_; (with_reducible refine (ref16_term.calls k2 ((rd_T51 (rd_L5 l0 x12_1) x18_2).f0) ((rd_T51 (rd_L5 l0 x12_1) x18_2).f1) ((rd_T51 (rd_L5 l0 x12_1) x18_2).f2) ((rd_T51 (rd_L5 l0 x12_1) x18_2).f3) ((rd_T51 (rd_L5 l0 x12_1) x18_2).f4) ((rd_T51 (rd_L5 l0 x12_1) x18_2).f5) ((rd_T51 (rd_L5 l0 x12_1) x18_2).f6) ((rd_T51 (rd_L5 l0 x12_1) x18_2).f7) ((rd_T51 (rd_L5 l0 x12_1) x18_2).f8) ((rd_T51 (rd_L5 l0 x12_1) x18_2).f9) ((rd_T51 (rd_L5 l0 x12_1) x18_2).f10) true _ A9.out).mono ?_); rintro e w15 ⟨rfl, hb⟩; refine ⟨_, rfl, ?_⟩; replace BK246 := As (blk_below (g := gb246) (o := .cells #[.int .i64 ((rd_T51 (rd_L5 l0 x12_1) x18_2).f0), .int .i64 ((rd_T51 (rd_L5 l0 x12_1) x18_2).f1), .int .i64 ((rd_T51 (rd_L5 l0 x12_1) x18_2).f2), .int .i64 ((rd_T51 (rd_L5 l0 x12_1) x18_2).f3), .int .i64 ((rd_T51 (rd_L5 l0 x12_1) x18_2).f4), .int .i64 ((rd_T51 (rd_L5 l0 x12_1) x18_2).f5), .int .i64 ((rd_T51 (rd_L5 l0 x12_1) x18_2).f6), .int .i64 ((rd_T51 (rd_L5 l0 x12_1) x18_2).f7), .int .i64 ((rd_T51 (rd_L5 l0 x12_1) x18_2).f8), .int .i64 ((rd_T51 (rd_L5 l0 x12_1) x18_2).f9), .int .i64 ((rd_T51 (rd_L5 l0 x12_1) x18_2).f10)] 51 (0, 0)) (by (with_reducible repeat (first | apply bN | apply bD | apply bA)); apply puts11; (with_reducible repeat (first | apply bN | apply bD | apply bA)); exact BK246.out) hb); replace HB := sBq hb; (try clear hb); (try clear hb2); (try clear hk); (try clear hi); obtain ⟨hcz16_0, hcz16_1, hcz16_2, hcz16_3, hcz16_4, hcz16_5, hcz16_6, hcz16_7, hcz16_8, hcz16_9, hcz16_10, hfz16_0, hfz16_1, hfz16_2, hfz16_3, hfz16_4, hfz16_5, hfz16_6, hfz16_7, hfz16_8, hfz16_9, hfz16_10⟩ := cf11 BK246.out))
             go_roundg k2
             case measure => have := HK1.out; have := HK2.out; omega
             case rel => exact ⟨(ji12), (wrap64 (x18_2 + 1)), (by first | rfl | (simp; done) | (simp only [← hji12] <;> (first | rfl | simp)) | (simp [*]; done)), (by first | rfl | (simp; done) | (simp [*]; done)), H', ⟨by have := HK1.out; have := HK2.out; omega⟩, ⟨hBq⟩⟩
            ·rw [if_neg c11] at H
             have c11b0 : (((rd_T51 (rd_L5 l0 x12_1) x18_2).f6) == a1) = false := beq_eq_false_iff_ne.mpr c11; have c11b1 : (((rd_T51 (rd_L5 l0 x12_1) x18_2).f6) != a1) = true := bne_iff_ne.mpr c11; have H' := As H; clear H; have p245 : 0 ≤ (x18_2 : Int) := of_decide_eq_true (by first | (with_reducible assumption) | assumption); have q245 : x18_2 < ((rd_L5 l0 x12_1).length : Int) := of_decide_eq_true (by first | (with_reducible assumption) | assumption); obtain ⟨ad245, e245, hx245_0, hx245_1, hx245_2, hx245_3, hx245_4, hx245_5, hx245_6, hx245_7, hx245_8, hx245_9, hx245_10⟩ := at_T51 (Kd.C_below HR244_0.out HB.out) x18_2 p245 q245; cases e245; replace p245 := eq_true p245; replace q245 := eq_true q245
             go_wp2_with (first | ((with_reducible refine gate_dst (N := 9) rfl ?_); refine box_event ?hg (N := 9) ?hd (cs := #[.int .i64 0, .int .i64 0, .int .i64 0, .int .i64 0, .int .i64 0, .int .i64 0, .int .i64 0, .int .i64 0, .int .i64 0, .int .i64 0, .int .i64 0]) (t := 51) ?hr ?_; (case hd => rfl); (case hg => rfl); (case hr => first | (go_simp; done) | (go_simp; rfl)); intro gb246 hg w17 hbox hb; have BK246 := As (hbox); have GW246 := As (by rw [hg]; exact (below_size hBq) : w.heap.size ≤ gb246); replace HB := sBq hb; have GE246 := GW246; clear hb hbox hg; obtain ⟨hcz18_0, hcz18_1, hcz18_2, hcz18_3, hcz18_4, hcz18_5, hcz18_6, hcz18_7, hcz18_8, hcz18_9, hcz18_10, hfz18_0, hfz18_1, hfz18_2, hfz18_3, hfz18_4, hfz18_5, hfz18_6, hfz18_7, hfz18_8, hfz18_9, hfz18_10⟩ := cf11 BK246.out) | ((with_reducible refine gate_callee (f := 87) rfl ?_); refine goesL_ (some 23) rfl rfl Tryd.func87 (by kernel_rfl) rfl #[.agg #[.int .i64 ((rd_T51 (rd_L5 l0 x12_1) x18_2).f0), .int .i64 ((rd_T51 (rd_L5 l0 x12_1) x18_2).f1), .int .i64 ((rd_T51 (rd_L5 l0 x12_1) x18_2).f2), .int .i64 ((rd_T51 (rd_L5 l0 x12_1) x18_2).f3), .int .i64 ((rd_T51 (rd_L5 l0 x12_1) x18_2).f4), .int .i64 ((rd_T51 (rd_L5 l0 x12_1) x18_2).f5), .int .i64 ((rd_T51 (rd_L5 l0 x12_1) x18_2).f6), .int .i64 ((rd_T51 (rd_L5 l0 x12_1) x18_2).f7), .int .i64 ((rd_T51 (rd_L5 l0 x12_1) x18_2).f8), .int .i64 ((rd_T51 (rd_L5 l0 x12_1) x18_2).f9), .int .i64 ((rd_T51 (rd_L5 l0 x12_1) x18_2).f10)]] rfl (by (try simp only [m1, m2, m3]); first | done | rfl | (simp only [m4, m5]; rfl)) ?_; (with_reducible refine (ref16_term.calls k2 ((rd_T51 (rd_L5 l0 x12_1) x18_2).f0) ((rd_T51 (rd_L5 l0 x12_1) x18_2).f1) ((rd_T51 (rd_L5 l0 x12_1) x18_2).f2) ((rd_T51 (rd_L5 l0 x12_1) x18_2).f3) ((rd_T51 (rd_L5 l0 x12_1) x18_2).f4) ((rd_T51 (rd_L5 l0 x12_1) x18_2).f5) ((rd_T51 (rd_L5 l0 x12_1) x18_2).f6) ((rd_T51 (rd_L5 l0 x12_1) x18_2).f7) ((rd_T51 (rd_L5 l0 x12_1) x18_2).f8) ((rd_T51 (rd_L5 l0 x12_1) x18_2).f9) ((rd_T51 (rd_L5 l0 x12_1) x18_2).f10) true _ A9.out).mono ?_); rintro e w19 ⟨rfl, hb⟩; refine ⟨_, rfl, ?_⟩; replace BK246 := As (blk_below (g := gb246) (o := .cells #[.int .i64 ((rd_T51 (rd_L5 l0 x12_1) x18_2).f0), .int .i64 ((rd_T51 (rd_L5 l0 x12_1) x18_2).f1), .int .i64 ((rd_T51 (rd_L5 l0 x12_1) x18_2).f2), .int .i64 ((rd_T51 (rd_L5 l0 x12_1) x18_2).f3), .int .i64 ((rd_T51 (rd_L5 l0 x12_1) x18_2).f4), .int .i64 ((rd_T51 (rd_L5 l0 x12_1) x18_2).f5), .int .i64 ((rd_T51 (rd_L5 l0 x12_1) x18_2).f6), .int .i64 ((rd_T51 (rd_L5 l0 x12_1) x18_2).f7), .int .i64 ((rd_T51 (rd_L5 l0 x12_1) x18_2).f8), .int .i64 ((rd_T51 (rd_L5 l0 x12_1) x18_2).f9), .int .i64 ((rd_T51 (rd_L5 l0 x12_1) x18_2).f10)] 51 (0, 0)) (by (with_reducible repeat (first | apply bN | apply bD | apply bA)); apply puts11; (with_reducible repeat (first | apply bN | apply bD | apply bA)); exact BK246.out) hb); replace HB := sBq hb; (try clear hb); (try clear hb2); (try clear hk); (try clear hi); obtain ⟨hcz20_0, hcz20_1, hcz20_2, hcz20_3, hcz20_4, hcz20_5, hcz20_6, hcz20_7, hcz20_8, hcz20_9, hcz20_10, hfz20_0, hfz20_1, hfz20_2, hfz20_3, hfz20_4, hfz20_5, hfz20_6, hfz20_7, hfz20_8, hfz20_9, hfz20_10⟩ := cf11 BK246.out))
             go_roundg k2
             case measure => have := HK1.out; have := HK2.out; omega
             case rel => exact ⟨(x5_2), (wrap64 (x18_2 + 1)), (by first | rfl | (simp; done) | (simp [*]; done)), (by first | rfl | (simp; done) | (simp [*]; done)), H', ⟨by have := HK1.out; have := HK2.out; omega⟩, ⟨hBq⟩⟩
           ·replace c10 := Bool.eq_false_iff.mpr c10
            subst c10; rw [if_neg nft] at H; have H' := As H; clear H; have p245 : 0 ≤ (x18_2 : Int) := of_decide_eq_true (by first | (with_reducible assumption) | assumption); have q245 : x18_2 < ((rd_L5 l0 x12_1).length : Int) := of_decide_eq_true (by first | (with_reducible assumption) | assumption); obtain ⟨ad245, e245, hx245_0, hx245_1, hx245_2, hx245_3, hx245_4, hx245_5, hx245_6, hx245_7, hx245_8, hx245_9, hx245_10⟩ := at_T51 (Kd.C_below HR244_0.out HB.out) x18_2 p245 q245; cases e245; replace p245 := eq_true p245; replace q245 := eq_true q245
            go_wp2_with (first | ((with_reducible refine gate_dst (N := 9) rfl ?_); refine box_event ?hg (N := 9) ?hd (cs := #[.int .i64 0, .int .i64 0, .int .i64 0, .int .i64 0, .int .i64 0, .int .i64 0, .int .i64 0, .int .i64 0, .int .i64 0, .int .i64 0, .int .i64 0]) (t := 51) ?hr ?_; (case hd => rfl); (case hg => rfl); (case hr => first | (go_simp; done) | (go_simp; rfl)); intro gb246 hg w21 hbox hb; have BK246 := As (hbox); have GW246 := As (by rw [hg]; exact (below_size hBq) : w.heap.size ≤ gb246); replace HB := sBq hb; have GE246 := GW246; clear hb hbox hg; obtain ⟨hcz22_0, hcz22_1, hcz22_2, hcz22_3, hcz22_4, hcz22_5, hcz22_6, hcz22_7, hcz22_8, hcz22_9, hcz22_10, hfz22_0, hfz22_1, hfz22_2, hfz22_3, hfz22_4, hfz22_5, hfz22_6, hfz22_7, hfz22_8, hfz22_9, hfz22_10⟩ := cf11 BK246.out) | ((with_reducible refine gate_callee (f := 87) rfl ?_); refine goesL_ (some 23) rfl rfl Tryd.func87 (by kernel_rfl) rfl #[.agg #[.int .i64 ((rd_T51 (rd_L5 l0 x12_1) x18_2).f0), .int .i64 ((rd_T51 (rd_L5 l0 x12_1) x18_2).f1), .int .i64 ((rd_T51 (rd_L5 l0 x12_1) x18_2).f2), .int .i64 ((rd_T51 (rd_L5 l0 x12_1) x18_2).f3), .int .i64 ((rd_T51 (rd_L5 l0 x12_1) x18_2).f4), .int .i64 ((rd_T51 (rd_L5 l0 x12_1) x18_2).f5), .int .i64 ((rd_T51 (rd_L5 l0 x12_1) x18_2).f6), .int .i64 ((rd_T51 (rd_L5 l0 x12_1) x18_2).f7), .int .i64 ((rd_T51 (rd_L5 l0 x12_1) x18_2).f8), .int .i64 ((rd_T51 (rd_L5 l0 x12_1) x18_2).f9), .int .i64 ((rd_T51 (rd_L5 l0 x12_1) x18_2).f10)]] rfl (by (try simp only [m1, m2, m3]); first | done | rfl | (simp only [m4, m5]; rfl)) ?_; (with_reducible refine (ref16_term.calls k2 ((rd_T51 (rd_L5 l0 x12_1) x18_2).f0) ((rd_T51 (rd_L5 l0 x12_1) x18_2).f1) ((rd_T51 (rd_L5 l0 x12_1) x18_2).f2) ((rd_T51 (rd_L5 l0 x12_1) x18_2).f3) ((rd_T51 (rd_L5 l0 x12_1) x18_2).f4) ((rd_T51 (rd_L5 l0 x12_1) x18_2).f5) ((rd_T51 (rd_L5 l0 x12_1) x18_2).f6) ((rd_T51 (rd_L5 l0 x12_1) x18_2).f7) ((rd_T51 (rd_L5 l0 x12_1) x18_2).f8) ((rd_T51 (rd_L5 l0 x12_1) x18_2).f9) ((rd_T51 (rd_L5 l0 x12_1) x18_2).f10) false _ A9.out).mono ?_); rintro e w23 ⟨rfl, hb⟩; refine ⟨_, rfl, ?_⟩; replace BK246 := As (blk_below (g := gb246) (o := .cells #[.int .i64 ((rd_T51 (rd_L5 l0 x12_1) x18_2).f0), .int .i64 ((rd_T51 (rd_L5 l0 x12_1) x18_2).f1), .int .i64 ((rd_T51 (rd_L5 l0 x12_1) x18_2).f2), .int .i64 ((rd_T51 (rd_L5 l0 x12_1) x18_2).f3), .int .i64 ((rd_T51 (rd_L5 l0 x12_1) x18_2).f4), .int .i64 ((rd_T51 (rd_L5 l0 x12_1) x18_2).f5), .int .i64 ((rd_T51 (rd_L5 l0 x12_1) x18_2).f6), .int .i64 ((rd_T51 (rd_L5 l0 x12_1) x18_2).f7), .int .i64 ((rd_T51 (rd_L5 l0 x12_1) x18_2).f8), .int .i64 ((rd_T51 (rd_L5 l0 x12_1) x18_2).f9), .int .i64 ((rd_T51 (rd_L5 l0 x12_1) x18_2).f10)] 51 (0, 0)) (by (with_reducible repeat (first | apply bN | apply bD | apply bA)); apply puts11; (with_reducible repeat (first | apply bN | apply bD | apply bA)); exact BK246.out) hb); replace HB := sBq hb; (try clear hb); (try clear hb2); (try clear hk); (try clear hi)))
            go_roundg k2
            case measure => have := HK1.out; have := HK2.out; omega
            case rel => exact ⟨(x5_2), (wrap64 (x18_2 + 1)), (by first | rfl | (simp; done) | (simp [*]; done)), (by first | rfl | (simp; done) | (simp [*]; done)), H', ⟨by have := HK1.out; have := HK2.out; omega⟩, ⟨hBq⟩⟩
          ·rw [if_neg c8] at H
           exact absurd H (by simp)
         ·rw [if_neg c7] at H
          exact absurd H (by simp)
        ·rw [if_neg c6] at H
         have c6b0 : decide (x18_2 < ((rd_L5 l0 x12_1).length : Int)) = false := decide_eq_false c6; clear c6; have H' := As H; clear H; go_wp2; go_roundg k2
         case measure => have := HK1.out; have := HK2.out; omega
         case rel => exact ⟨(x5_2), (wrap64 (x12_1 + 1)), (by first | rfl | (simp; done) | (simp [*]; done)), (by first | rfl | (simp; done) | (simp [*]; done)), H', ⟨by have := HK1.out; have := HK2.out; omega⟩, ⟨hBq⟩⟩
     ·rw [if_neg c5] at H
      exact absurd H (by simp)
    ·rw [if_neg c4] at H
     exact absurd H (by simp)
   ·rw [if_neg c3] at H
    have c3b0 : decide (x12_1 < (l0.length : Int)) = false := decide_eq_false c3; clear c3; obtain rfl := Option.some.inj H; go_wp2; go_ret; exact ⟨erq, hBq⟩
def ref16_Free.l0 : Nat → List (List (S51)) → Int → Int → Int → Option (Int × Bool)
 | 0, _, _, _, _ => none
 | k + 1, x0, x1, x2, x8 => if x8 < x1 then ((ref16_Until.f k x0 x8).bind fun t248 => (if t248 < x2 then (some (x8, true)) else (ref16_Free.l0 k x0 x1 x2 (wrap64 (x8 + 1))))) else (some (0, false))
def ref16_Free.f (k : Nat) (l0 : List (List (S51))) (a1 : Int) (a2 : Int) : Option (Int × Bool) := if a1 > 64 then (some (0, false)) else (ref16_Free.l0 k l0 a1 a2 0)
set_option maxHeartbeats 8000000 in
set_option maxRecDepth 100000 in
theorem ref16_Free.calls (k : Nat) (A0 : Option Addr) (c0 : Nat) (l0 : List (List (S51))) (a1 : Int) (a2 : Int) (r1 : Int) (r2 : Bool) (w : World) (hr0 : Kd.C (Kd.slice 51 k51) w A0 l0.length l0) (hc0 : l0.length ≤ c0) (h : ref16_Free.f k l0 a1 a2 = some (r1, r2)) :
  Calls Tryd.prog 65 #[.slice A0 l0.length c0, .int .i64 a1, .int .i64 a2] w fun e w' => e = .returned (.tuple #[.int .i64 r1, .bool r2]) ∧ Below w.heap.size w w' := by
 have HR0 := As hr0; have HC0 := As hc0; clear hr0 hc0; have HB := As (Below.refl w.heap.size w); have H : (if a1 > 64 then (some (0, false)) else (ref16_Free.l0 k l0 a1 a2 0)) = some (r1, r2) := h; clear h
 by_cases c4 : a1 > 64
 ·rw [if_pos c4] at H
  have c4b0 : decide (64 < a1) = true := decide_eq_true c4; clear c4; simp only [Option.some.injEq, Prod.mk.injEq] at H; obtain ⟨rfl, rfl⟩ := H; go_enter Tryd.func65, Tryd.ntmps65; go_wp2; go_ret2; exact ⟨erq, hBq⟩
 ·rw [if_neg c4] at H
  have c4b0 : decide (64 < a1) = false := decide_eq_false c4; clear c4; have H' := As H; clear H; go_enter Tryd.func65, Tryd.ntmps65; go_wp2; go_loopg [8] k (fun kq v8 w' => ∃ (x8_1 : Int), v8 = .int .i64 x8_1 ∧ Aside0 (ref16_Free.l0 kq l0 a1 a2 x8_1 = some (r1, r2)) ∧ Aside0 (kq ≤ k) ∧ Aside0 (Below w.heap.size w w'))
  case atStart => exact ⟨(0), (by first | rfl | (simp; done) | (simp [*]; done)), H', ⟨Nat.le_refl _⟩, ⟨hBq⟩⟩
  case round =>
   clear H'; (try clear p2); (try clear c4); (try clear c4b0); obtain ⟨x8_1, rfl, HA, HK1, HB⟩ := hrel
   cases gk with
   | zero => exact absurd HA.out (by simp [ref16_Free.l0])
   | succ k1 =>
    have H := HA.out; clear HA; simp only [ref16_Free.l0] at H
    by_cases c5 : x8_1 < a1
    ·rw [if_pos c5] at H
     have c5b0 : decide (x8_1 < a1) = true := decide_eq_true c5; clear c5; replace H := Option.bind_eq_some_iff.mp H; obtain ⟨t248, A60, H⟩ := H; (try dsimp only at H); have A6 := As A60; clear A60
     by_cases c7 : t248 < a2
     ·rw [if_pos c7] at H
      have c7b0 : decide (t248 < a2) = true := decide_eq_true c7; clear c7; simp only [Option.some.injEq, Prod.mk.injEq] at H; obtain ⟨rfl, rfl⟩ := H; go_wp2_with (first | ((with_reducible refine gate_callee (f := 80) rfl ?_); refine goesL_ (some 18) rfl rfl Tryd.func80 (by kernel_rfl) rfl #[.slice A0 l0.length c0, .int .i64 x8_1] rfl (by (try simp only [m1, m2, m3]); first | done | rfl | (simp only [m4, m5]; rfl)) ?_; (with_reducible refine (ref16_Until.calls k1 _ _ l0 x8_1 t248 _ ?side1 ?side2 A6.out).mono ?_); (case side1 => repeat (first | exact (Kd.C_below HR0.out HB.out) | (with_reducible refine Kd.C_alloc ?_ _) | (with_reducible refine Kd.C_drewN ?_ _) | (with_reducible refine Kd.C_drew ?_))); (case side2 => exact HC0.out); rintro e w8 ⟨rfl, hb⟩; refine ⟨_, rfl, ?_⟩; replace HB := sBq hb; (try clear hb); (try clear hb2); (try clear hk); (try clear hi))); go_ret2; exact ⟨erq, hBq⟩
     ·rw [if_neg c7] at H
      have c7b0 : decide (t248 < a2) = false := decide_eq_false c7; clear c7; have H' := As H; clear H; go_wp2_with (first | ((with_reducible refine gate_callee (f := 80) rfl ?_); refine goesL_ (some 18) rfl rfl Tryd.func80 (by kernel_rfl) rfl #[.slice A0 l0.length c0, .int .i64 x8_1] rfl (by (try simp only [m1, m2, m3]); first | done | rfl | (simp only [m4, m5]; rfl)) ?_; (with_reducible refine (ref16_Until.calls k1 _ _ l0 x8_1 t248 _ ?side1 ?side2 A6.out).mono ?_); (case side1 => repeat (first | exact (Kd.C_below HR0.out HB.out) | (with_reducible refine Kd.C_alloc ?_ _) | (with_reducible refine Kd.C_drewN ?_ _) | (with_reducible refine Kd.C_drew ?_))); (case side2 => exact HC0.out); rintro e w9 ⟨rfl, hb⟩; refine ⟨_, rfl, ?_⟩; replace HB := sBq hb; (try clear hb); (try clear hb2); (try clear hk); (try clear hi))); go_roundg k1
      case measure => have := HK1.out; omega
      case rel => exact ⟨(wrap64 (x8_1 + 1)), (by first | rfl | (simp; done) | (simp [*]; done)), H', ⟨by have := HK1.out; omega⟩, ⟨hBq⟩⟩
    ·rw [if_neg c5] at H
     have c5b0 : decide (x8_1 < a1) = false := decide_eq_false c5; clear c5; simp only [Option.some.injEq, Prod.mk.injEq] at H; obtain ⟨rfl, rfl⟩ := H; go_wp2; go_ret2; exact ⟨erq, hBq⟩
def make_Deck_Next.f (s0_0 : List Int) (s0_1 : Int) (a1 : Int) : Option (Int × Int) := if a1 < 1 then (some (0, s0_1)) else (if s0_1 ≥ (s0_0.length : Int) then (some (0, s0_1)) else (if 0 ≤ s0_1 then (if s0_1 < (s0_0.length : Int) then ((make_Mod.f (rd s0_0 s0_1) a1).bind fun t175 => (some (t175, wrap64 (s0_1 + 1)))) else (none)) else (none)))
set_option maxHeartbeats 8000000 in
set_option maxRecDepth 100000 in
theorem make_Deck_Next.calls (g : Nat) (s0_0 : List Int) (s0_1 : Int) (a1 : Int) (r1 : Int) (r2 : Int) (w0 w : World) (hI : IsS69 w0 w g s0_0 s0_1) (hB : Below w0.heap.size w0 w) (h : make_Deck_Next.f s0_0 s0_1 a1 = some (r1, r2)) :
  Calls Tryd.prog 23 #[.pointer (some ⟨g, 0, none⟩), .int .i64 a1] w fun e w' => e = .returned (.int .i64 r1) ∧ IsS69 w0 w' g s0_0 r2 ∧ Below w0.heap.size w0 w' ∧ KeepBut w w' g none := by
 have HI0 := As hI; have HK := As (KeepBut.refl w g none); have HL := As hB.size; clear hI; have HW0 := As hB.size; have HB := As hB; clear hB; have H : (if a1 < 1 then (some (0, s0_1)) else (if s0_1 ≥ (s0_0.length : Int) then (some (0, s0_1)) else (if 0 ≤ s0_1 then (if s0_1 < (s0_0.length : Int) then ((make_Mod.f (rd s0_0 s0_1) a1).bind fun t175 => (some (t175, wrap64 (s0_1 + 1)))) else (none)) else (none)))) = some (r1, r2) := h; clear h
 by_cases c3 : a1 < 1
 ·rw [if_pos c3] at H
  have c3b0 : decide (a1 < 1) = true := decide_eq_true c3; clear c3; simp only [Option.some.injEq, Prod.mk.injEq] at H; obtain ⟨rfl, rfl⟩ := H; go_enter Tryd.func23, Tryd.ntmps23; go_wp2; (repeat (go_quiet (fail); try go_wp2)); go_ret; exact ⟨erq, by repeat (first | (with_reducible first | exact HI0.out | apply IsS69.alloc | apply IsS69.drewN | apply IsS69.drew | apply IsS69.set_1) | exact HI0.out), by repeat (first | (with_reducible first | exact HB.out | apply uA | apply uN | apply uD | refine uS ?_ (IsS69.ge HI0.out)) | exact HB.out), hKq⟩
 ·rw [if_neg c3] at H
  have c3b0 : decide (a1 < 1) = false := decide_eq_false c3; clear c3
  by_cases c4 : s0_1 ≥ (s0_0.length : Int)
  ·rw [if_pos c4] at H
   have c4b0 : decide ((s0_0.length : Int) ≤ s0_1) = true := decide_eq_true c4; clear c4; simp only [Option.some.injEq, Prod.mk.injEq] at H; obtain ⟨rfl, rfl⟩ := H; obtain ⟨ASz5_0, cSz5_0, HGz5, hgz5, HSz5_0⟩ := HI0.out; have hcz5_0 := cellS69_0 HGz5; have hcz5_1 := cellS69_1 HGz5; have hfz5_1 := blk_frozen HGz5 1; clear HGz5 hgz5; go_enter Tryd.func23, Tryd.ntmps23; go_wp2; (repeat (go_quiet (fail); try go_wp2)); go_ret; exact ⟨erq, by repeat (first | (with_reducible first | exact HI0.out | apply IsS69.alloc | apply IsS69.drewN | apply IsS69.drew | apply IsS69.set_1) | exact HI0.out), by repeat (first | (with_reducible first | exact HB.out | apply uA | apply uN | apply uD | refine uS ?_ (IsS69.ge HI0.out)) | exact HB.out), hKq⟩
  ·rw [if_neg c4] at H
   have c4b0 : decide ((s0_0.length : Int) ≤ s0_1) = false := decide_eq_false c4; clear c4
   by_cases c6 : 0 ≤ s0_1
   ·rw [if_pos c6] at H
    have c6b0 : decide (0 ≤ s0_1) = true := decide_eq_true c6; clear c6
    by_cases c7 : s0_1 < (s0_0.length : Int)
    ·rw [if_pos c7] at H
     have c7b0 : decide (s0_1 < (s0_0.length : Int)) = true := decide_eq_true c7; clear c7; replace H := Option.bind_eq_some_iff.mp H; obtain ⟨t175, A80, H⟩ := H; (try dsimp only at H); have A8 := As A80; clear A80; simp only [Option.some.injEq, Prod.mk.injEq] at H; obtain ⟨rfl, rfl⟩ := H; obtain ⟨ASz9_0, cSz9_0, HGz9, hgz9, HSz9_0⟩ := HI0.out; have hcz9_0 := cellS69_0 HGz9; have hcz9_1 := cellS69_1 HGz9; have hfz9_1 := blk_frozen HGz9 1; clear HGz9 hgz9; have p174 : 0 ≤ (s0_1 : Int) := of_decide_eq_true (by first | (with_reducible assumption) | assumption); have q174 : s0_1 < (s0_0.length : Int) := of_decide_eq_true (by first | (with_reducible assumption) | assumption); obtain ⟨ad174, e174, hx174_0⟩ := Kd.at_int HSz9_0 s0_1 p174 q174; cases e174; replace hx174_0 := pw_cell_below HB.out hx174_0; replace p174 := eq_true p174; replace q174 := eq_true q174; go_enter Tryd.func23, Tryd.ntmps23; go_wp2_with (first | (go_at_call 27; (with_reducible refine (make_Mod.calls (rd s0_0 s0_1) a1 t175 _ A8.out).mono ?_); rintro e w' ⟨rfl, ⟨nd, rfl⟩⟩; (try first | exact ⟨rfl, _, World.drewN_drewN _ _ _⟩ | exact ⟨rfl, _, Eq.trans (World.drewN_drewN _ _ _) (congrArg (World.drewN _) (Nat.add_assoc _ _ _))⟩)))
     (repeat (go_quiet (first | (go_at_call 27; (with_reducible refine (make_Mod.calls (rd s0_0 s0_1) a1 t175 _ A8.out).mono ?_); rintro e w' ⟨rfl, ⟨nd, rfl⟩⟩; (try first | exact ⟨rfl, _, World.drewN_drewN _ _ _⟩ | exact ⟨rfl, _, Eq.trans (World.drewN_drewN _ _ _) (congrArg (World.drewN _) (Nat.add_assoc _ _ _))⟩))); try go_wp2_with (first | (go_at_call 27; (with_reducible refine (make_Mod.calls (rd s0_0 s0_1) a1 t175 _ A8.out).mono ?_); rintro e w' ⟨rfl, ⟨nd, rfl⟩⟩; (try first | exact ⟨rfl, _, World.drewN_drewN _ _ _⟩ | exact ⟨rfl, _, Eq.trans (World.drewN_drewN _ _ _) (congrArg (World.drewN _) (Nat.add_assoc _ _ _))⟩))))); go_ret; exact ⟨erq, by repeat (first | (with_reducible first | exact HI0.out | apply IsS69.alloc | apply IsS69.drewN | apply IsS69.drew | apply IsS69.set_1) | exact HI0.out), by repeat (first | (with_reducible first | exact HB.out | apply uA | apply uN | apply uD | refine uS ?_ (IsS69.ge HI0.out)) | exact HB.out), hKq⟩
    ·rw [if_neg c7] at H
     exact absurd H (by simp)
   ·rw [if_neg c6] at H
    exact absurd H (by simp)
def ref16_At.l0 : Nat → Int → List (S41) → Int → Int → Option (Int × Int × Int × Int × Int × Int × Int × Bool × Bool)
 | 0, _, _, _, _ => none
 | k + 1, x1, x18, x19, x20 => if x20 < x19 then (if 0 ≤ x20 then (if x20 < (x18.length : Int) then (if ((rd_T41 x18 x20).f2) = x1 then (some ((rd_T41 x18 x20).f0, (rd_T41 x18 x20).f1, (rd_T41 x18 x20).f2, (rd_T41 x18 x20).f3, (rd_T41 x18 x20).f4, (rd_T41 x18 x20).f5, (rd_T41 x18 x20).f6, (rd_T41 x18 x20).f7, true)) else (ref16_At.l0 k x1 x18 x19 (wrap64 (x20 + 1)))) else (none)) else (none)) else (some (0, 0, 0, 0, 0, 0, 0, false, false))
def ref16_At.f (k : Nat) (l0 : List (S51)) (a1 : Int) (a2 : Int) : Option (Int × Int × Int × Int × Int × Int × Int × Bool × Bool) := (ref16_Leases.f l0 a2).bind fun bt200 => (ref16_At.l0 k a1 bt200.1 (bt200.1.length : Int) 0)
set_option maxHeartbeats 8000000 in
set_option maxRecDepth 100000 in
theorem ref16_At.calls (k : Nat) (A0 : Option Addr) (c0 : Nat) (l0 : List (S51)) (a1 : Int) (a2 : Int) (r1 : Int) (r2 : Int) (r3 : Int) (r4 : Int) (r5 : Int) (r6 : Int) (r7 : Int) (r8 : Bool) (r9 : Bool) (w : World) (hr0 : Kd.C k51 w A0 l0.length l0) (hc0 : l0.length ≤ c0) (h : ref16_At.f k l0 a1 a2 = some (r1, r2, r3, r4, r5, r6, r7, r8, r9)) :
  Calls Tryd.prog 19 #[.slice A0 l0.length c0, .int .i64 a1, .int .i64 a2] w fun e w' => e = .returned (.tuple #[.agg #[.int .i64 r1, .int .i64 r2, .int .i64 r3, .int .i64 r4, .int .i64 r5, .int .i64 r6, .int .i64 r7, .bool r8], .bool r9]) ∧ Below w.heap.size w w' := by
 have hu41 := Tryd.underlying41; have HR0 := As hr0; have HC0 := As hc0; clear hr0 hc0; have HB := As (Below.refl w.heap.size w); have H : ((ref16_Leases.f l0 a2).bind fun bt200 => (ref16_At.l0 k a1 bt200.1 (bt200.1.length : Int) 0)) = some (r1, r2, r3, r4, r5, r6, r7, r8, r9) := h; clear h; replace H := Option.bind_eq_some_iff.mp H; obtain ⟨⟨t200, t201⟩, A40, H⟩ := H; (try dsimp only at H); have A4 := As A40; clear A40; have H' := As H; clear H; go_enter Tryd.func19, Tryd.ntmps19
 go_wp2_with (first | ((with_reducible refine gate_dst (N := 6) rfl ?_); refine box_event ?hg (N := 6) ?hd (cs := #[.int .i64 0, .int .i64 0, .int .i64 0, .int .i64 0, .int .i64 0, .int .i64 0, .int .i64 0, .bool false]) (t := 41) ?hr ?_; (case hd => rfl); (case hg => rfl); (case hr => first | (go_simp; done) | (go_simp; rfl)); intro gb199 hg w5 hbox hb; have BK199 := As (hbox); have GW199 := As (by rw [hg]; exact (below_size hBq) : w.heap.size ≤ gb199); replace HB := sBq hb; have GE199 := GW199; clear hb hbox hg) | ((with_reducible refine gate_callee (f := 15) rfl ?_); refine goesL_ (some 15) rfl rfl Tryd.func15 (by kernel_rfl) rfl #[.slice A0 l0.length c0, .int .i64 a2] rfl (by (try simp only [m1, m2, m3]); first | done | rfl | (simp only [m4, m5]; rfl)) ?_; (with_reducible refine (ref16_Leases.calls _ _ l0 a2 t200 t201 _ ?side1 ?side2 A4.out).mono ?_); (case side1 => repeat (first | exact (Kd.C_below HR0.out HB.out) | (with_reducible refine Kd.C_alloc ?_ _) | (with_reducible refine Kd.C_drewN ?_ _) | (with_reducible refine Kd.C_drew ?_))); (case side2 => exact HC0.out); rintro e w6 ⟨v202, rfl, ho0, hb⟩; refine ⟨_, rfl, ?_⟩; have HO203 := As (Kd.R_lower (Kd.R_newB ho0 (g := gb199) (o := .cells #[.int .i64 0, .int .i64 0, .int .i64 0, .int .i64 0, .int .i64 0, .int .i64 0, .int .i64 0, .bool false] 41 (0, 0)) (by (with_reducible repeat (first | apply bN | apply bD | apply bA)); exact BK199.out)) (below_size hBq)); replace BK199 := As (blk_below (g := gb199) (plq BK199.out) hb); replace HB := sBq hb; (try clear hb); (try clear hb2); (try clear hk); (try clear hi); (try clear ho0); obtain ⟨Ao7, co7, eo7⟩ := Kd.R_slice HO203.out; subst eo7))
 go_loopg [20] k (fun kq v20 w' => ∃ (x20_1 : Int) (x200000_1 : Int) (x200001_1 : Int) (x200002_1 : Int) (x200003_1 : Int) (x200004_1 : Int) (x200005_1 : Int) (x200006_1 : Int) (x200007_1 : Bool), v20 = .int .i64 x20_1 ∧ Aside0 (ref16_At.l0 kq a1 t200 (t200.length : Int) x20_1 = some (r1, r2, r3, r4, r5, r6, r7, r8, r9)) ∧ Aside0 (kq ≤ k) ∧ Aside0 (Kd.R k41 41 w' w.heap.size (fun k_ => k_ ≠ gb199) (.slice Ao7 t200.length co7) t200) ∧ Aside0 (w'.heap[gb199]? = some (.cells #[.int .i64 x200000_1, .int .i64 x200001_1, .int .i64 x200002_1, .int .i64 x200003_1, .int .i64 x200004_1, .int .i64 x200005_1, .int .i64 x200006_1, .bool x200007_1] 41 (0, 0))) ∧ Aside0 (Below w.heap.size w w'))
 case atStart => exact ⟨(0), (0), (0), (0), (0), (0), (0), (0), (false), (by first | rfl | (simp; done) | (simp [*]; done)), H', ⟨Nat.le_refl _⟩, ⟨by (with_reducible repeat (first | apply Kd.R_alloc | apply Kd.R_drewN | apply Kd.R_drew)); exact Kd.R_mono HO203.out (fun _ hk => hk.2)⟩, ⟨by (with_reducible repeat (first | apply bN | apply bD | apply bA)); exact BK199.out⟩, ⟨hBq⟩⟩
 case round =>
  clear H'; (try clear c1); (try clear p2); obtain ⟨x20_1, x200000_1, x200001_1, x200002_1, x200003_1, x200004_1, x200005_1, x200006_1, x200007_1, rfl, HA, HK1, HO_18, BK199, HB⟩ := hrel
  cases gk with
  | zero => exact absurd HA.out (by simp [ref16_At.l0])
  | succ k1 =>
   have H := HA.out; clear HA; simp only [ref16_At.l0] at H
   by_cases c8 : x20_1 < (t200.length : Int)
   ·rw [if_pos c8] at H
    have c8b0 : decide (x20_1 < (t200.length : Int)) = true := decide_eq_true c8; clear c8
    by_cases c9 : 0 ≤ x20_1
    ·rw [if_pos c9] at H
     have c9b0 : decide (0 ≤ x20_1) = true := decide_eq_true c9; clear c9
     by_cases c10 : x20_1 < (t200.length : Int)
     ·rw [if_pos c10] at H
      have c10b0 : decide (x20_1 < (t200.length : Int)) = true := decide_eq_true c10; clear c10
      by_cases c11 : ((rd_T41 t200 x20_1).f2) = a1
      ·rw [if_pos c11] at H
       have c11b0 : (((rd_T41 t200 x20_1).f2) == a1) = true := beq_iff_eq.mpr c11; have c11b1 : (((rd_T41 t200 x20_1).f2) != a1) = false := bne_eq_false_iff_eq.mpr c11; clear c11; simp only [Option.some.injEq, Prod.mk.injEq] at H; obtain ⟨rfl, rfl, rfl, rfl, rfl, rfl, rfl, rfl, rfl⟩ := H; have p204 : 0 ≤ (x20_1 : Int) := of_decide_eq_true (by first | (with_reducible assumption) | assumption); have q204 : x20_1 < (t200.length : Int) := of_decide_eq_true (by first | (with_reducible assumption) | assumption); obtain ⟨ad204, e204, hx204_0, hx204_1, hx204_2, hx204_3, hx204_4, hx204_5, hx204_6, hx204_7⟩ := at_T41 (Kd.R_reads' HO_18.out).2.2 x20_1 p204 q204; cases e204; replace p204 := eq_true p204; replace q204 := eq_true q204
       go_wp2_with (first | ((with_reducible refine gate_dst (N := 11) rfl ?_); refine box_event ?hg (N := 11) ?hd (cs := #[.int .i64 0, .int .i64 0, .int .i64 0, .int .i64 0, .int .i64 0, .int .i64 0, .int .i64 0, .bool false]) (t := 41) ?hr ?_; (case hd => rfl); (case hg => rfl); (case hr => first | (go_simp; done) | (go_simp; rfl)); intro gb205 hg w12 hbox hb; replace HO_18 := As (Kd.R_below (Kd.R_elderB (by (with_reducible repeat (first | apply Kd.R_alloc | apply Kd.R_drewN | apply Kd.R_drew)); exact HO_18.out) gb205 (Nat.le_of_eq hg.symm)) hb); have BK205 := As (hbox); have GW205 := As (by rw [hg]; exact (below_size hBq) : w.heap.size ≤ gb205); replace HB := sBq hb; have GE205 := GW205; have NB199_205 := As (by rw [hg]; exact Nat.ne_of_lt (blk_lt (g := gb199) (plq BK199.out)) : gb199 ≠ gb205); replace BK199 := As (blk_below (g := gb199) (plq BK199.out) hb); have NB205_199 := As NB199_205.out.symm; clear hb hbox hg; have hnb13 := NB205_199.out; have hnc13 := NB199_205.out; obtain ⟨hcz14_0, hcz14_1, hcz14_2, hcz14_3, hcz14_4, hcz14_5, hcz14_6, hcz14_7, hfz14_0, hfz14_1, hfz14_2, hfz14_3, hfz14_4, hfz14_5, hfz14_6, hfz14_7⟩ := cf8 BK205.out; obtain ⟨hcz15_0, hcz15_1, hcz15_2, hcz15_3, hcz15_4, hcz15_5, hcz15_6, hcz15_7, hfz15_0, hfz15_1, hfz15_2, hfz15_3, hfz15_4, hfz15_5, hfz15_6, hfz15_7⟩ := cf8 BK199.out))
       refine bodyPost_ret (results_ct rfl _ _ gb199 41 #[.int .i64 ((rd_T41 t200 x20_1).f0), .int .i64 ((rd_T41 t200 x20_1).f1), .int .i64 ((rd_T41 t200 x20_1).f2), .int .i64 ((rd_T41 t200 x20_1).f3), .int .i64 ((rd_T41 t200 x20_1).f4), .int .i64 ((rd_T41 t200 x20_1).f5), .int .i64 ((rd_T41 t200 x20_1).f6), .bool ((rd_T41 t200 x20_1).f7)] (0, 0) _ rfl (by (with_reducible repeat (first | apply bN | apply bD | apply bA)); apply puts8; (iterate 8 ((with_reducible repeat (first | apply bN | apply bD | apply bA)); refine blk_far ?_ NB199_205.out _)); (with_reducible repeat (first | apply bN | apply bD | apply bA)); exact BK199.out) Tryd.underlying41 rfl (by kernel_rfl)) rfl ?_
       exact ⟨erq, hBq⟩
      ·rw [if_neg c11] at H
       have c11b0 : (((rd_T41 t200 x20_1).f2) == a1) = false := beq_eq_false_iff_ne.mpr c11; have c11b1 : (((rd_T41 t200 x20_1).f2) != a1) = true := bne_iff_ne.mpr c11; have H' := As H; clear H; have p204 : 0 ≤ (x20_1 : Int) := of_decide_eq_true (by first | (with_reducible assumption) | assumption); have q204 : x20_1 < (t200.length : Int) := of_decide_eq_true (by first | (with_reducible assumption) | assumption); obtain ⟨ad204, e204, hx204_0, hx204_1, hx204_2, hx204_3, hx204_4, hx204_5, hx204_6, hx204_7⟩ := at_T41 (Kd.R_reads' HO_18.out).2.2 x20_1 p204 q204; cases e204; replace p204 := eq_true p204; replace q204 := eq_true q204
       go_wp2_with (first | ((with_reducible refine gate_dst (N := 11) rfl ?_); refine box_event ?hg (N := 11) ?hd (cs := #[.int .i64 0, .int .i64 0, .int .i64 0, .int .i64 0, .int .i64 0, .int .i64 0, .int .i64 0, .bool false]) (t := 41) ?hr ?_; (case hd => rfl); (case hg => rfl); (case hr => first | (go_simp; done) | (go_simp; rfl)); intro gb205 hg w16 hbox hb; replace HO_18 := As (Kd.R_below (Kd.R_elderB (by (with_reducible repeat (first | apply Kd.R_alloc | apply Kd.R_drewN | apply Kd.R_drew)); exact HO_18.out) gb205 (Nat.le_of_eq hg.symm)) hb); have BK205 := As (hbox); have GW205 := As (by rw [hg]; exact (below_size hBq) : w.heap.size ≤ gb205); replace HB := sBq hb; have GE205 := GW205; have NB199_205 := As (by rw [hg]; exact Nat.ne_of_lt (blk_lt (g := gb199) (plq BK199.out)) : gb199 ≠ gb205); replace BK199 := As (blk_below (g := gb199) (plq BK199.out) hb); have NB205_199 := As NB199_205.out.symm; clear hb hbox hg; have hnb17 := NB205_199.out; have hnc17 := NB199_205.out; obtain ⟨hcz18_0, hcz18_1, hcz18_2, hcz18_3, hcz18_4, hcz18_5, hcz18_6, hcz18_7, hfz18_0, hfz18_1, hfz18_2, hfz18_3, hfz18_4, hfz18_5, hfz18_6, hfz18_7⟩ := cf8 BK205.out))
       go_roundg k1
       case measure => have := HK1.out; omega
       case rel => exact ⟨(wrap64 (x20_1 + 1)), (x200000_1), (x200001_1), (x200002_1), (x200003_1), (x200004_1), (x200005_1), (x200006_1), (x200007_1), (by first | rfl | (simp; done) | (simp [*]; done)), H', ⟨by have := HK1.out; omega⟩, ⟨by (with_reducible repeat (first | apply Kd.R_alloc | apply Kd.R_drewN | apply Kd.R_drew)); exact Kd.R_mono (Kd.R_far (p := ⟨gb205, 7, none⟩) (Kd.R_far (p := ⟨gb205, 6, none⟩) (Kd.R_far (p := ⟨gb205, 5, none⟩) (Kd.R_far (p := ⟨gb205, 4, none⟩) (Kd.R_far (p := ⟨gb205, 3, none⟩) (Kd.R_far (p := ⟨gb205, 2, none⟩) (Kd.R_far (p := ⟨gb205, 1, none⟩) (Kd.R_far (p := ⟨gb205, 0, none⟩) (Kd.R_mono HO_18.out (fun k_ hk => (⟨hk, hk.2⟩ : _ ∧ k_ ≠ gb205))) (fun _ hk => hk.2) (.int .i64 ((rd_T41 t200 x20_1).f0))) (fun _ hk => hk.2) (.int .i64 ((rd_T41 t200 x20_1).f1))) (fun _ hk => hk.2) (.int .i64 ((rd_T41 t200 x20_1).f2))) (fun _ hk => hk.2) (.int .i64 ((rd_T41 t200 x20_1).f3))) (fun _ hk => hk.2) (.int .i64 ((rd_T41 t200 x20_1).f4))) (fun _ hk => hk.2) (.int .i64 ((rd_T41 t200 x20_1).f5))) (fun _ hk => hk.2) (.int .i64 ((rd_T41 t200 x20_1).f6))) (fun _ hk => hk.2) (.bool ((rd_T41 t200 x20_1).f7))) (fun _ hk => hk.1.1)⟩, ⟨by (iterate 8 ((with_reducible repeat (first | apply bN | apply bD | apply bA)); refine blk_far ?_ NB199_205.out _)); (with_reducible repeat (first | apply bN | apply bD | apply bA)); exact BK199.out⟩, ⟨hBq⟩⟩
     ·rw [if_neg c10] at H
      exact absurd H (by simp)
    ·rw [if_neg c9] at H
     exact absurd H (by simp)
   ·rw [if_neg c8] at H
    have c8b0 : decide (x20_1 < (t200.length : Int)) = false := decide_eq_false c8; clear c8; simp only [Option.some.injEq, Prod.mk.injEq] at H; obtain ⟨rfl, rfl, rfl, rfl, rfl, rfl, rfl, rfl, rfl⟩ := H; obtain ⟨hcz19_0, hcz19_1, hcz19_2, hcz19_3, hcz19_4, hcz19_5, hcz19_6, hcz19_7, hfz19_0, hfz19_1, hfz19_2, hfz19_3, hfz19_4, hfz19_5, hfz19_6, hfz19_7⟩ := cf8 BK199.out; go_wp2
    refine bodyPost_ret (results_ct rfl _ _ gb199 41 #[.int .i64 0, .int .i64 0, .int .i64 0, .int .i64 0, .int .i64 0, .int .i64 0, .int .i64 0, .bool false] (0, 0) _ rfl (by (with_reducible repeat (first | apply bN | apply bD | apply bA)); apply puts8; (with_reducible repeat (first | apply bN | apply bD | apply bA)); exact BK199.out) Tryd.underlying41 rfl (by kernel_rfl)) rfl ?_
    exact ⟨erq, hBq⟩
def make_People.l0 : Nat → Int → List (S49) → Int → Int → List Int → Int → Option ((List (S49)) × Int)
 | 0, _, _, _, _, _, _ => none
 | k + 1, x1, x5, x6, x7, x1000, x1001 => if x7 ≤ x1 then ((make_Deck_Next.f x1000 x1001 50).bind fun bt410 => (if x5.length < 8796093022208 then (make_People.l0 k x1 (x5 ++ [(⟨x7, wrap64 (x6 + (wrap64 (1 + bt410.1)))⟩ : S49)]) (wrap64 (x6 + (wrap64 (1 + bt410.1)))) (wrap64 (x7 + 1)) x1000 bt410.2) else (none))) else (some (x5, x1001))
def make_People.f (k : Nat) (s0_0 : List Int) (s0_1 : Int) (a1 : Int) : Option ((List (S49)) × Int) := make_People.l0 k a1 ([] : List (S49)) 0 1 s0_0 s0_1
set_option maxHeartbeats 8000000 in
set_option maxRecDepth 100000 in
theorem make_People.calls (k : Nat) (g : Nat) (s0_0 : List Int) (s0_1 : Int) (a1 : Int) (r1 : List (S49)) (r2 : Int) (w0 w : World) (hI : IsS69 w0 w g s0_0 s0_1) (hB : Below w0.heap.size w0 w) (h : make_People.f k s0_0 s0_1 a1 = some (r1, r2)) :
  Calls Tryd.prog 13 #[.pointer (some ⟨g, 0, none⟩), .int .i64 a1] w fun e w' => ∃ v0_ : Value, e = .returned (v0_) ∧ Kd.R k49 49 w' w.heap.size (fun _ => True) v0_ r1 ∧ IsS69 w0 w' g s0_0 r2 ∧ Below w0.heap.size w0 w' ∧ KeepBut w w' g none := by
 have hu49 := Tryd.underlying49; have HI0 := As hI; have HK := As (KeepBut.refl w g none); have HL := As hB.size; clear hI; have HW0 := As hB.size; have HB := As hB; clear hB; have H : (make_People.l0 k a1 ([] : List (S49)) 0 1 s0_0 s0_1) = some (r1, r2) := h; clear h; have H' := As H; clear H; go_enter Tryd.func13, Tryd.ntmps13; go_wp2; go_loopg [5, 6, 7] k (fun kq v5 v6 v7 w' => ∃ (x5_1 : List (S49)) (x6_1 : Int) (x7_1 : Int) (x1001_1 : Int), v6 = .int .i64 x6_1 ∧ v7 = .int .i64 x7_1 ∧ Aside0 (make_People.l0 kq a1 x5_1 x6_1 x7_1 s0_0 x1001_1 = some (r1, r2)) ∧ Aside0 (kq ≤ k) ∧ Aside0 (Kd.R k49 49 w' w.heap.size (fun _ => True) v5 x5_1) ∧ Aside0 (IsS69 w0 w' g s0_0 x1001_1) ∧ Aside0 (KeepBut w w' g none) ∧ Aside0 (Below w0.heap.size w0 w'))
 case atStart => exact ⟨(([] : List (S49))), (0), (1), (s0_1), (by first | rfl | (simp; done) | (simp [*]; done)), (by first | rfl | (simp; done) | (simp [*]; done)), H', ⟨Nat.le_refl _⟩, ⟨by first | exact Kd.R_nil _ _ _ _ _ | exact Kd.N_nil _ _ _ _ _ | exact Kd.V_nil _ _ _ _ _ | exact Kd.Q_nil _ _ _ _ _ | exact Kd.S_nil _ _ _ _ _⟩, ⟨by repeat (first | (with_reducible first | exact HI0.out | apply IsS69.alloc | apply IsS69.drewN | apply IsS69.drew | apply IsS69.set_1) | exact HI0.out)⟩, ⟨hKq⟩, ⟨by repeat (first | (with_reducible first | exact HB.out | apply uA | apply uN | apply uD | refine uS ?_ (IsS69.ge HI0.out)) | exact HB.out)⟩⟩
 case round =>
  clear H'; (try clear c1); (try clear p2); obtain ⟨x5_1, x6_1, x7_1, x1001_1, rfl, rfl, HA, HK1, HO_5, HI0, HK, HB⟩ := hrel
  cases gk with
  | zero => exact absurd HA.out (by simp [make_People.l0])
  | succ k1 =>
   have H := HA.out; clear HA; simp only [make_People.l0] at H
   by_cases c3 : x7_1 ≤ a1
   ·rw [if_pos c3] at H
    have c3b0 : decide (x7_1 ≤ a1) = true := decide_eq_true c3; clear c3; replace H := Option.bind_eq_some_iff.mp H; obtain ⟨⟨t410, t411⟩, A40, H⟩ := H; (try dsimp only at H); have A4 := As A40; clear A40
    by_cases c5 : x5_1.length < 8796093022208
    ·rw [if_pos c5] at H
     have LMc5 := As c5; clear c5; obtain ⟨y412, hy412⟩ : ∃ y_ : List (S49), y_ = (x5_1 ++ [(⟨x7_1, wrap64 (x6_1 + (wrap64 (1 + t410)))⟩ : S49)]) := ⟨_, rfl⟩; (replace H : (make_People.l0 k1 a1 y412 (wrap64 (x6_1 + (wrap64 (1 + t410)))) (wrap64 (x7_1 + 1)) s0_0 t411) = some (r1, r2) := by first | (rw [hy412]; with_reducible exact H) | (have H2_ := (Option.bind_some _ _).symm.trans H; rw [hy412]; with_reducible exact H2_) | (have H2_ := (Option.bind_some _ _).symm.trans H; with_reducible exact H2_) | with_reducible exact H | (rw [hy412]; exact H) | exact H); have Ny412 := As hy412; clear hy412; have H' := As H; clear H
     go_wp2_with (first | ((with_reducible refine gate_callee (f := 23) rfl ?_); refine goesL_ (some 15) rfl rfl Tryd.func23 (by kernel_rfl) rfl #[.pointer (some ⟨g, 0, none⟩), .int .i64 50] rfl (by (try simp only [m1, m2, m3]); first | done | rfl | (simp only [m4, m5]; rfl)) ?_; (with_reducible refine (make_Deck_Next.calls g s0_0 x1001_1 50 t410 t411 w0 _ ?side1 ?side2 A4.out).mono ?_); (case side1 => repeat (first | (with_reducible first | exact HI0.out | apply IsS69.alloc | apply IsS69.drewN | apply IsS69.drew | apply IsS69.set_1) | exact HI0.out)); (case side2 => repeat (first | (with_reducible first | exact HB.out | apply uA | apply uN | apply uD | refine uS ?_ (IsS69.ge HI0.out)) | exact HB.out)); rintro e w6 ⟨rfl, hi, hb, hk⟩; refine ⟨_, rfl, ?_⟩; replace HO_5 := As (Kd.R_mono (Kd.R_keep (IsS69.apart (show IsS69 w0 _ g s0_0 x1001_1 from by repeat (first | (with_reducible first | exact HI0.out | apply IsS69.alloc | apply IsS69.drewN | apply IsS69.drew | apply IsS69.set_1) | exact HI0.out)) (by (with_reducible repeat (first | apply Kd.R_alloc | apply Kd.R_drewN | apply Kd.R_drew)); exact HO_5.out) (by decide)) hk (fun _ h => h.2)) (fun _ h => h.1)); replace HK := As (KeepBut.trans hKq hk (.inl rfl)); replace HB := As (hb); replace HI0 := As (hi); (try clear hb); (try clear hb2); (try clear hk); (try clear hi)) | ((with_reducible refine gate_builtin (b := .append) (xs := #[.tmp 18, .tmp 22]) rfl ?_); at_builtin; refine Kd.R_append k49 w.heap.size rfl (.tmp 18) (.tmp 22) 30 49 (.agg #[(.int .i64 0), (.int .i64 0)]) 16 rfl Tryd.underlying30 info49 rfl (by decide) (by omega) u5 x5_1 (⟨x7_1, wrap64 (x6_1 + (wrap64 (1 + t410)))⟩ : S49) [.int .i64 x7_1, .int .i64 (wrap64 (x6_1 + (wrap64 (1 + t410))))] (fun _ => True) (fun _ => False) rfl rfl ?aP (fun _ hk => hk.elim) ?aF ?aO (Below.refl _ _) ?aS ?aL ?_; (case aP => exact k49_mkM _ _ _ (⟨x7_1, wrap64 (x6_1 + (wrap64 (1 + t410)))⟩ : S49)); (case aF => exact (fun _ _ => trivial)); (case aO => exact (by (with_reducible repeat (first | apply Kd.R_alloc | apply Kd.R_drewN | apply Kd.R_drew)); exact HO_5.out)); (case aS => exact (keep_size (w := w) (g := g) (row := none) hKq)); (case aL => have := LMc5.out; omega); intro v413 w7 ho hb hg hat; rw [← Ny412.out] at ho; replace HB := As (below_weaken (by repeat (first | (with_reducible first | exact HB.out | apply uA | apply uN | apply uD | refine uS ?_ (IsS69.ge HI0.out)) | exact HB.out)) HL.out hb); replace HI0 := As (IsS69.grown (show IsS69 w0 _ g s0_0 t411 from by repeat (first | (with_reducible first | exact HI0.out | apply IsS69.alloc | apply IsS69.drewN | apply IsS69.drew | apply IsS69.set_1) | exact HI0.out)) hg (IsS69.own_ne HI0.out HO_5.out (by decide))); replace HK := As (KeepBut.trans hKq (KeepBut.of_grown hg g) (Kd.R_base2 HO_5.out)); have HO414 := As (ho); clear HO_5; clear ho hb hg hat))
     go_roundg k1
     case measure => have := HK1.out; omega
     case rel => exact ⟨(y412), (wrap64 (x6_1 + (wrap64 (1 + t410)))), (wrap64 (x7_1 + 1)), (t411), (by first | rfl | (simp; done) | (simp [*]; done)), (by first | rfl | (simp; done) | (simp [*]; done)), H', ⟨by have := HK1.out; omega⟩, ⟨by (with_reducible repeat (first | apply Kd.R_alloc | apply Kd.R_drewN | apply Kd.R_drew)); exact HO414.out⟩, ⟨by repeat (first | (with_reducible first | exact HI0.out | apply IsS69.alloc | apply IsS69.drewN | apply IsS69.drew | apply IsS69.set_1) | exact HI0.out)⟩, ⟨hKq⟩, ⟨by repeat (first | (with_reducible first | exact HB.out | apply uA | apply uN | apply uD | refine uS ?_ (IsS69.ge HI0.out)) | exact HB.out)⟩⟩
    ·rw [if_neg c5] at H
     exact absurd H (by simp)
   ·rw [if_neg c3] at H
    have c3b0 : decide (x7_1 ≤ a1) = false := decide_eq_false c3; clear c3; simp only [Option.some.injEq, Prod.mk.injEq] at H; obtain ⟨rfl, rfl⟩ := H; go_wp2; go_ret; exact ⟨_, erq, by (with_reducible repeat (first | apply Kd.R_alloc | apply Kd.R_drewN | apply Kd.R_drew)); exact HO_5.out, by repeat (first | (with_reducible first | exact HI0.out | apply IsS69.alloc | apply IsS69.drewN | apply IsS69.drew | apply IsS69.set_1) | exact HI0.out), by repeat (first | (with_reducible first | exact HB.out | apply uA | apply uN | apply uD | refine uS ?_ (IsS69.ge HI0.out)) | exact HB.out), hKq⟩
def ref15_Bytes.l0 : Nat → ByteArray → List Int → Int → Int → Option (ByteArray)
 | 0, _, _, _, _ => none
 | k + 1, x3, x26, x27, x28 => if x28 < x27 then (if 0 ≤ x28 then (if x28 < (x26.length : Int) then ((ref01_PutInt.f k x3 (rd x26 x28)).bind fun t217 => (ref15_Bytes.l0 k t217 x26 x27 (wrap64 (x28 + 1)))) else (none)) else (none)) else (some x3)
def ref15_Bytes.f (k : Nat) (a0_0 : Int) (a0_1 : Int) (a0_2 : Int) (a0_3 : Int) (a0_4 : Int) (a0_5 : Int) (a0_6 : Int) (a0_7 : Int) (a0_8 : Int) (a0_9 : Int) (a0_10 : Int) : Option (ByteArray) := (some (([a0_0, a0_1, a0_2, a0_3, a0_4, a0_5, a0_6, a0_7, a0_8, a0_9] : List Int) : List Int)).bind fun y213 => (ref15_Bytes.l0 k (⟨#[]⟩ : ByteArray) y213 (y213.length : Int) 0)
set_option maxHeartbeats 8000000 in
set_option maxRecDepth 100000 in
theorem ref15_Bytes.calls (k : Nat) (a0_0 : Int) (a0_1 : Int) (a0_2 : Int) (a0_3 : Int) (a0_4 : Int) (a0_5 : Int) (a0_6 : Int) (a0_7 : Int) (a0_8 : Int) (a0_9 : Int) (a0_10 : Int) (r : ByteArray) (w : World) (h : ref15_Bytes.f k a0_0 a0_1 a0_2 a0_3 a0_4 a0_5 a0_6 a0_7 a0_8 a0_9 a0_10 = some r) :
  Calls Tryd.prog 45 #[.agg #[.int .i64 a0_0, .int .i64 a0_1, .int .i64 a0_2, .int .i64 a0_3, .int .i64 a0_4, .int .i64 a0_5, .int .i64 a0_6, .int .i64 a0_7, .int .i64 a0_8, .int .i64 a0_9, .int .i64 a0_10]] w fun e w' => e = .returned (.string r) ∧ Below w.heap.size w w' := by
 have hu51 := Tryd.underlying51; have HB := As (Below.refl w.heap.size w); have H : ((some (([a0_0, a0_1, a0_2, a0_3, a0_4, a0_5, a0_6, a0_7, a0_8, a0_9] : List Int) : List Int)).bind fun y213 => (ref15_Bytes.l0 k (⟨#[]⟩ : ByteArray) y213 (y213.length : Int) 0)) = some r := h; clear h; obtain ⟨y213, hy213⟩ : ∃ y_ : List Int, y_ = (([a0_0, a0_1, a0_2, a0_3, a0_4, a0_5, a0_6, a0_7, a0_8, a0_9] : List Int)) := ⟨_, rfl⟩; (replace H : (ref15_Bytes.l0 k (⟨#[]⟩ : ByteArray) y213 (y213.length : Int) 0) = some r := by first | (rw [hy213]; with_reducible exact H) | (have H2_ := (Option.bind_some _ _).symm.trans H; rw [hy213]; with_reducible exact H2_) | (have H2_ := (Option.bind_some _ _).symm.trans H; with_reducible exact H2_) | with_reducible exact H | (rw [hy213]; exact H) | exact H); have Ny213 := As hy213; clear hy213; have H' := As H; clear H; go_enter Tryd.func45, Tryd.ntmps45
 go_wp2_with (first | ((with_reducible refine gate_dst (N := 1) rfl ?_); refine box_event ?hg (N := 1) ?hd (cs := #[.int .i64 a0_0, .int .i64 a0_1, .int .i64 a0_2, .int .i64 a0_3, .int .i64 a0_4, .int .i64 a0_5, .int .i64 a0_6, .int .i64 a0_7, .int .i64 a0_8, .int .i64 a0_9, .int .i64 a0_10]) (t := 51) ?hr ?_; (case hd => rfl); (case hg => rfl); (case hr => first | (go_simp; done) | (go_simp; rfl)); intro gb212 hg w2 hbox hb; have BK212 := As (hbox); have GW212 := As (by rw [hg]; exact (below_size hBq) : w.heap.size ≤ gb212); replace HB := sBq hb; have GE212 := GW212; clear hb hbox hg; obtain ⟨hcz3_0, hcz3_1, hcz3_2, hcz3_3, hcz3_4, hcz3_5, hcz3_6, hcz3_7, hcz3_8, hcz3_9, hcz3_10, hfz3_0, hfz3_1, hfz3_2, hfz3_3, hfz3_4, hfz3_5, hfz3_6, hfz3_7, hfz3_8, hfz3_9, hfz3_10⟩ := cf11 BK212.out) | ((with_reducible refine gate_dst (N := 26) rfl ?_); refine Kd.R_lit (Kd.int .i64) _ 3 ?hg (N := 26) ?hd (xs := ([a0_0, a0_1, a0_2, a0_3, a0_4, a0_5, a0_6, a0_7, a0_8, a0_9] : List Int)) (inner := [.int .i64 a0_0, .int .i64 a0_1, .int .i64 a0_2, .int .i64 a0_3, .int .i64 a0_4, .int .i64 a0_5, .int .i64 a0_6, .int .i64 a0_7, .int .i64 a0_8, .int .i64 a0_9]) (ok := fun _ => True) (okp := fun _ => True) ?hr ?hp (fun _ hk => hk) trivial (Below.refl _ _) (Nat.le_refl _) (by simp) ?_; (case hd => rfl); (case hg => rfl); (case hr => first | (go_simp; done) | (go_simp; rfl)); (case hp => exact (Reps.one (show Kd.M (Kd.int .i64) _ _ _ a0_0 [.int .i64 a0_0] from rfl) (Reps.one (show Kd.M (Kd.int .i64) _ _ _ a0_1 [.int .i64 a0_1] from rfl) (Reps.one (show Kd.M (Kd.int .i64) _ _ _ a0_2 [.int .i64 a0_2] from rfl) (Reps.one (show Kd.M (Kd.int .i64) _ _ _ a0_3 [.int .i64 a0_3] from rfl) (Reps.one (show Kd.M (Kd.int .i64) _ _ _ a0_4 [.int .i64 a0_4] from rfl) (Reps.one (show Kd.M (Kd.int .i64) _ _ _ a0_5 [.int .i64 a0_5] from rfl) (Reps.one (show Kd.M (Kd.int .i64) _ _ _ a0_6 [.int .i64 a0_6] from rfl) (Reps.one (show Kd.M (Kd.int .i64) _ _ _ a0_7 [.int .i64 a0_7] from rfl) (Reps.one (show Kd.M (Kd.int .i64) _ _ _ a0_8 [.int .i64 a0_8] from rfl) (Reps.one (show Kd.M (Kd.int .i64) _ _ _ a0_9 [.int .i64 a0_9] from rfl) (Reps.none _ _)))))))))))); intro v214 w4 ho5 hb hg_ hnew_; clear hg_ hnew_; (first | rw [← Ny213.out] at ho5 | (simp only [Int.reduceToNat] at ho5; rw [← Ny213.out] at ho5)); have HO215 := As (Kd.R_lower ho5 (below_size hBq)); replace BK212 := As (blk_below (g := gb212) (plq BK212.out) hb); replace HB := sBq hb; clear hb ho5; obtain ⟨Ao6, co6, eo6⟩ := Kd.R_slice HO215.out; subst eo6))
 go_loopg [3, 28] k (fun kq v3 v28 w' => ∃ (x3_1 : ByteArray) (x28_1 : Int), v3 = .string x3_1 ∧ v28 = .int .i64 x28_1 ∧ Aside0 (ref15_Bytes.l0 kq x3_1 y213 (y213.length : Int) x28_1 = some r) ∧ Aside0 (kq ≤ k) ∧ Aside0 (Kd.R (Kd.int .i64) 3 w' w.heap.size (fun _ => True) (.slice Ao6 y213.length co6) y213) ∧ Aside0 (w'.heap[gb212]? = some (.cells #[.int .i64 a0_0, .int .i64 a0_1, .int .i64 a0_2, .int .i64 a0_3, .int .i64 a0_4, .int .i64 a0_5, .int .i64 a0_6, .int .i64 a0_7, .int .i64 a0_8, .int .i64 a0_9, .int .i64 a0_10] 51 (0, 0))) ∧ Aside0 (Below w.heap.size w w'))
 case atStart => exact ⟨((⟨#[]⟩ : ByteArray)), (0), (by first | rfl | (simp; done) | (simp [*]; done)), (by first | rfl | (simp; done) | (simp [*]; done)), H', ⟨Nat.le_refl _⟩, ⟨by (with_reducible repeat (first | apply Kd.R_alloc | apply Kd.R_drewN | apply Kd.R_drew)); exact HO215.out⟩, ⟨by (with_reducible repeat (first | apply bN | apply bD | apply bA)); exact BK212.out⟩, ⟨hBq⟩⟩
 case round =>
  clear H'; (try clear p2); (try clear c4); (try clear hcz3_0 hcz3_1 hcz3_10 hcz3_2 hcz3_3 hcz3_4 hcz3_5 hcz3_6 hcz3_7 hcz3_8 hcz3_9); (try clear hfz3_0 hfz3_1 hfz3_10 hfz3_2 hfz3_3 hfz3_4 hfz3_5 hfz3_6 hfz3_7 hfz3_8 hfz3_9); obtain ⟨x3_1, x28_1, rfl, rfl, HA, HK1, HO_26, BK212, HB⟩ := hrel
  cases gk with
  | zero => exact absurd HA.out (by simp [ref15_Bytes.l0])
  | succ k1 =>
   have H := HA.out; clear HA; simp only [ref15_Bytes.l0] at H
   by_cases c7 : x28_1 < (y213.length : Int)
   ·rw [if_pos c7] at H
    have c7b0 : decide (x28_1 < (y213.length : Int)) = true := decide_eq_true c7; clear c7
    by_cases c8 : 0 ≤ x28_1
    ·rw [if_pos c8] at H
     have c8b0 : decide (0 ≤ x28_1) = true := decide_eq_true c8; clear c8
     by_cases c9 : x28_1 < (y213.length : Int)
     ·rw [if_pos c9] at H
      have c9b0 : decide (x28_1 < (y213.length : Int)) = true := decide_eq_true c9; clear c9; replace H := Option.bind_eq_some_iff.mp H; obtain ⟨t217, A100, H⟩ := H; (try dsimp only at H); have A10 := As A100; clear A100; have H' := As H; clear H; have p216 : 0 ≤ (x28_1 : Int) := of_decide_eq_true (by first | (with_reducible assumption) | assumption); have q216 : x28_1 < (y213.length : Int) := of_decide_eq_true (by first | (with_reducible assumption) | assumption); obtain ⟨ad216, e216, hx216_0⟩ := Kd.at_int (Kd.R_reads' HO_26.out).2.2 x28_1 p216 q216; cases e216; replace p216 := eq_true p216; replace q216 := eq_true q216
      go_wp2_with (first | ((with_reducible refine gate_callee (f := 60) rfl ?_); refine goesL_ (some 34) rfl rfl Tryd.func60 (by kernel_rfl) rfl #[.string x3_1, .int .i64 (rd y213 x28_1)] rfl (by (try simp only [m1, m2, m3]); first | done | rfl | (simp only [m4, m5]; rfl)) ?_; (with_reducible refine (ref01_PutInt.calls k1 x3_1 (rd y213 x28_1) t217 _ A10.out).mono ?_); rintro e w11 ⟨rfl, hb⟩; refine ⟨_, rfl, ?_⟩; replace HO_26 := As (Kd.R_below (by (with_reducible repeat (first | apply Kd.R_alloc | apply Kd.R_drewN | apply Kd.R_drew)); exact HO_26.out) hb); replace BK212 := As (blk_below (g := gb212) (plq BK212.out) hb); replace HB := sBq hb; (try clear hb); (try clear hb2); (try clear hk); (try clear hi))); go_roundg k1
      case measure => have := HK1.out; omega
      case rel => exact ⟨(t217), (wrap64 (x28_1 + 1)), (by first | rfl | (simp; done) | (simp [*]; done)), (by first | rfl | (simp; done) | (simp [*]; done)), H', ⟨by have := HK1.out; omega⟩, ⟨by (with_reducible repeat (first | apply Kd.R_alloc | apply Kd.R_drewN | apply Kd.R_drew)); exact HO_26.out⟩, ⟨by (with_reducible repeat (first | apply bN | apply bD | apply bA)); exact BK212.out⟩, ⟨hBq⟩⟩
     ·rw [if_neg c9] at H
      exact absurd H (by simp)
    ·rw [if_neg c8] at H
     exact absurd H (by simp)
   ·rw [if_neg c7] at H
    have c7b0 : decide (x28_1 < (y213.length : Int)) = false := decide_eq_false c7; clear c7; obtain rfl := Option.some.inj H; go_wp2; go_ret; exact ⟨erq, hBq⟩
end Go.Proofs.YtcgpbmafkgbbdaaDoor.PM
