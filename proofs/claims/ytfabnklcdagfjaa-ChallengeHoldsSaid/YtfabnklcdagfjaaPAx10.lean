-- Written by a program of this claim's own (hookprint.py), after the pattern of the kit's print. Lean checks it.
import Derived.Test.YtfabnklcdagfjaaPAx0
import Derived.Test.YtfabnklcdagfjaaPAx4
import Derived.Test.YtfabnklcdagfjaaSets
namespace Go.Proofs.Ytfabnklcdagfjaa.PA
open Go.RowKit Go.Proofs.YtfabnklcdagfjaaW.PrintWords Go.Proofs.YtfabnklcdagfjaaW.PrintLast Go.Proofs.YtfabnklcdagfjaaW.PrintMore
attribute [local go_sem ↓] some_setCell
attribute [local go_sem] max2_int min2_int max_two min_two max_three min_three max_four min_four   -- for this text's walks alone
set_option linter.unusedVariables false
set_option linter.unusedSimpArgs false

def challenge_valid.keys (l : List S52) (i : Nat) : List Value := ((l.take i).map (·.f0)).map (Value.int .i64)
/-- Is row i right behind those before it? -/
def challenge_valid.okAt (l : List S52) (i : Nat) : Bool :=
 if ¬ (2 ≤ (rd_T52 l i).f0 ∧ (rd_T52 l i).f0 < 2147483647) then false
 else if (rd_T52 l i).f0 ∈ (l.take i).map (·.f0) then false
 else if (rd_T52 l i).f1 < 0 then false
 else if 2147483647 ≤ (rd_T52 l i).f1 then false
 else if (rd_T52 l i).f2 < 0 then false
 else if 1048577 < (rd_T52 l i).f2 then false
 else if ¬ i = 0 ∧ 0 < (rd_T52 l i).f2 ∧ ((rd_T52 l ((i : Int) - 1)).f2 = 0 ∨ (rd_T52 l i).f2 < (rd_T52 l ((i : Int) - 1)).f2) then false
 else true
def challenge_valid.okB (a0_0 : Int) (a0_1 : Int) (l : List S52) : Bool :=
 if a0_0 < 0 then false else if 2147483647 ≤ a0_0 then false else if a0_1 < 1 then false else if 65536 < a0_1 then false else if 64 < (l.length : Int) then false
 else (List.range l.length).all (challenge_valid.okAt l)
def challenge_valid.f (a0_0 : Int) (a0_1 : Int) (l0_2 : List (S52)) : Option (Bool) := some (challenge_valid.okB a0_0 a0_1 l0_2)
theorem challenge_valid.zeroB (w : World) : (zeroValue 4).run Try.prog w = .ok (.bool false) w := by kernel_rfl
theorem challenge_valid.keys_int (l : List S52) (i : Nat) : ∀ x ∈ challenge_valid.keys l i, Go.MapKept.IsKey (.int .i64) x := by
 intro x hx; obtain ⟨y, _, rfl⟩ := List.mem_map.mp hx; rfl
theorem challenge_valid.keys_mem {l : List S52} {i : Nat} {x : Int} : (Value.int .i64 x) ∈ challenge_valid.keys l i ↔ x ∈ (l.take i).map (·.f0) := by
 unfold challenge_valid.keys
 constructor
 ·intro h
  obtain ⟨y, hy, e⟩ := List.mem_map.mp h; injection e with _ e; exact e ▸ hy
 ·exact fun h => List.mem_map.mpr ⟨x, h, rfl⟩
theorem challenge_valid.keys_no {l : List S52} {i : Nat} {x : Int} (h : x ∉ (l.take i).map (·.f0)) : (Value.int .i64 x) ∉ challenge_valid.keys l i := fun h' => h (challenge_valid.keys_mem.mp h')
theorem challenge_valid.keys_snoc (l : List S52) (i : Nat) (x : Int) (e : x = (rd_T52 l i).f0) (h : i < l.length) : challenge_valid.keys l (i + 1) = challenge_valid.keys l i ++ [.int .i64 x] := by
 unfold challenge_valid.keys; rw [List.take_succ_eq_append_getElem h, List.map_append, List.map_append, e]; unfold rd_T52; simp [List.getD_eq_getElem?_getD, List.getElem?_eq_getElem h]
theorem challenge_valid.look_yes {W : World} {b : Nat} {l : List S52} {i : Nat} {x : Int} (h : SetIs W b (challenge_valid.keys l i)) (hx : x ∈ (l.take i).map (·.f0)) :
  ∀ cs nd, (Instr.lookup 72 (.map (some b)) (.int .i64 x) false).run Try.prog ((W.alloc (.cells cs 52)).drewN nd) = .ok (.bool true) ((W.alloc (.cells cs 52)).drewN nd) :=
 fun cs nd => (((h.alloc _).drewN nd).look (d := .int .i64) Try.underlying72 Try.underlying3 (challenge_valid.zeroB _) (by rfl) (challenge_valid.keys_int l i)).1 (challenge_valid.keys_mem.mpr hx)
theorem challenge_valid.look_no {W : World} {b : Nat} {l : List S52} {i : Nat} {x : Int} (h : SetIs W b (challenge_valid.keys l i)) (hx : x ∉ (l.take i).map (·.f0)) :
  ∀ cs nd, (Instr.lookup 72 (.map (some b)) (.int .i64 x) false).run Try.prog ((W.alloc (.cells cs 52)).drewN nd) = .ok (.bool false) ((W.alloc (.cells cs 52)).drewN nd) :=
 fun cs nd => (((h.alloc _).drewN nd).look (d := .int .i64) Try.underlying72 Try.underlying3 (challenge_valid.zeroB _) (by rfl) (challenge_valid.keys_int l i)).2 (challenge_valid.keys_no hx)
theorem challenge_valid.below {w W w9 : World} {cs : Array Value} {n : Nat} (h : Below w.heap.size w W) (hg : ((W.alloc (.cells cs 52)).drewN n).grownBy w9 (some (w.heap.size + 1))) : Below w.heap.size w w9 := by
 have hb := pw_below_drewN (below_alloc h (.cells cs 52)) n; exact pw_below_grown hb _ hb.size hg (by intro k hk; cases hk; omega)
theorem challenge_valid.next (i : Nat) : (Value.int .i64 ((i : Int) + 1)) = .int .i64 ((i + 1 : Nat) : Int) := by simp
theorem challenge_valid.put {W : World} {ops : Array Oper} {rest : List Oper} {o : Oper} {a : Act} {Q : Exit → Act → World → Prop} {b : Nat} {l : List S52} {i : Nat} {x : Int} {cs : Array Value} {n : Nat}
  (hg : o.guard = none) (m y v : Operand) (hop : o.op = Op.mapUpdate 72 m y v) (hm : a.eval m = .map (some b)) (hx : a.eval y = .int .i64 x) (hv : a.eval v = .bool true) (h : SetIs W b (challenge_valid.keys l i)) (hn : x ∉ (l.take i).map (·.f0))
  (hnext : ∀ w', SetIs w' b (challenge_valid.keys l i ++ [.int .i64 x]) → ((W.alloc (.cells cs 52)).drewN n).grownBy w' (some b) → wpList Try.prog ops Q rest (a.put o.dst undef) w') : wpList Try.prog ops Q (o :: rest) a ((W.alloc (.cells cs 52)).drewN n) :=
 wpList_put_set (d := .int .i64) _ hg m y v 72 3 4 hop Try.underlying72 Try.underlying3 hm (.int .i64 x) hx hv ((h.alloc _).drewN n) (by rfl) (challenge_valid.keys_int l i) (challenge_valid.keys_no hn) hnext
set_option maxHeartbeats 8000000 in
set_option maxRecDepth 100000 in
theorem challenge_valid.loop (a0_0 : Int) (a0_1 : Int) (A0_2 : Option Addr) (c0_2 : Nat) (l0_2 : List (S52)) (r : Bool) (w : World) (hr0_2 : Kd.C k52 w A0_2 l0_2.length l0_2) (hc0_2 : l0_2.length ≤ c0_2)
  (b1 : decide (a0_0 < 0) = false) (b2 : decide (2147483647 ≤ a0_0) = false) (b3 : decide (a0_1 < 1) = false) (b4 : decide (65536 < a0_1) = false) (b5 : decide (64 < (l0_2.length : Int)) = false)
  (h : (List.range l0_2.length).all (challenge_valid.okAt l0_2) = r) :
  Calls Try.prog 35 #[.agg #[.int .i64 a0_0, .int .i64 a0_1, .slice A0_2 l0_2.length c0_2]] w fun e w' => e = .returned (.bool r) ∧ Below w.heap.size w w' := by
 have R1 : ∀ (i : Nat), ∀ {q : Nat}, i + (q + 1) = l0_2.length → challenge_valid.okAt l0_2 i = false → false = r := by
  intro i q hi hk; rw [← h]
  symm
  rw [List.all_eq_false]; exact ⟨i, List.mem_range.mpr (by omega), by simp [hk]⟩
 have R2 : (∀ j, j < l0_2.length → challenge_valid.okAt l0_2 j = true) → true = r := by
  intro hk; rw [← h]
  symm
  rw [List.all_eq_true]; (exact fun j hj => hk j (List.mem_range.mp hj))
 clear h; have HR0_2 := As hr0_2; have HC0_2 := As hc0_2; have HLEN : Aside0 (l0_2.length ≤ 64) := ⟨by have := of_decide_eq_false b5; omega⟩; clear hr0_2 hc0_2; have hmm := @run_makeMap Try.prog; go_enter Try.func35, Try.ntmps35; go_wp2; clear hmm; go_loopg [34] l0_2.length (fun kq v34 w' => ∃ i : Nat, v34 = .int .i64 i ∧ Aside0 (i + kq = l0_2.length) ∧ Aside0 (w'.heap[w.heap.size]? = some (.cells #[.int .i64 a0_0, .int .i64 a0_1, .slice A0_2 l0_2.length c0_2] 32 (0, 0))) ∧ Aside0 (SetIs w' (w.heap.size + 1) (challenge_valid.keys l0_2 i)) ∧ Aside0 (Below w.heap.size w w') ∧ Aside0 (∀ j, j < i → challenge_valid.okAt l0_2 j = true))
 case atStart =>
  refine ⟨0, rfl, ⟨by omega⟩, ⟨?_⟩, ⟨?_⟩, ⟨below_alloc (below_alloc (Below.refl _ _) _) _⟩, ⟨fun j hj => by omega⟩⟩
  ·rw [Below.heap_alloc _ _ _ (by simp)]
   exact heap_alloc_new w _
  ·have hk0 : challenge_valid.keys l0_2 0 = [] := rfl
   have hs0 := SetIs.made (w.alloc (.cells #[.int .i64 a0_0, .int .i64 a0_1, .slice A0_2 l0_2.length c0_2] 32)); (have hz0 : (w.alloc (.cells #[.int .i64 a0_0, .int .i64 a0_1, .slice A0_2 l0_2.length c0_2] 32)).heap.size = w.heap.size + 1 := by simp); rw [hz0] at hs0; rw [hk0]; exact hs0
 case round =>
  obtain ⟨i, rfl, HI, BK, HS, HBr, HO⟩ := hrel; have hcz0 : wr.cell? ⟨w.heap.size, 0, none⟩ = some (.int .i64 a0_0) := (blk_cell BK.out 0).trans rfl; have hcz1 : wr.cell? ⟨w.heap.size, 1, none⟩ = some (.int .i64 a0_1) := (blk_cell BK.out 1).trans rfl; have hcz2 : wr.cell? ⟨w.heap.size, 2, none⟩ = some (.slice A0_2 l0_2.length c0_2) := (blk_cell BK.out 2).trans rfl; have hfz0 := blk_frozen BK.out 0; have hfz1 := blk_frozen BK.out 1; have hfz2 := blk_frozen BK.out 2
  have BLK : ∀ {w9 : World} {cs : Array Value} {n1 : Nat}, ((wr.alloc (.cells cs 52)).drewN n1).grownBy w9 (some (w.heap.size + 1)) → w9.heap[w.heap.size]? = some (.cells #[.int .i64 a0_0, .int .i64 a0_1, .slice A0_2 l0_2.length c0_2] 32 (0, 0)) := by
   intro w9 cs n1 hg; have hlt := blk_lt BK.out; rw [hg.block _ (by simp; omega) (by simp)]; exact (Below.heap_alloc _ _ _ hlt).trans BK.out
  cases gk with
  | zero =>
   have c4b0 : decide ((i : Int) < (l0_2.length : Int)) = false := decide_eq_false (by have := HI.out; omega); have c4b1 : decide (i < l0_2.length) = false := decide_eq_false (by have := HI.out; omega); have hr := R2 (fun j hj => HO.out j (by have := HI.out; omega)); subst hr; clear R1 R2 BLK; go_wp2; go_ret
   exact ⟨rfl, HBr.out⟩
  | succ k1 =>
   have c4b0 : decide ((i : Int) < (l0_2.length : Int)) = true := decide_eq_true (by have := HI.out; omega); (have p1 : 0 ≤ (i : Int) := by omega); have q1 : (i : Int) < (l0_2.length : Int) := of_decide_eq_true c4b0; obtain ⟨ad, e1, hx0, hx1, hx2⟩ := at_T52 HR0_2.out i p1 q1; cases e1; replace hx0 := (HBr.out.cell (World.block_lt_of_cell? w _ hx0)).trans hx0; replace hx1 := (HBr.out.cell (World.block_lt_of_cell? w _ hx1)).trans hx1; replace hx2 := (HBr.out.cell (World.block_lt_of_cell? w _ hx2)).trans hx2; rw [Int.toNat_natCast] at hx0 hx1 hx2; (have hi64 : (i : Int) ≤ 64 := by have := HLEN.out; omega); clear p1; replace q1 := eq_true q1; obtain ⟨x0, hx0e⟩ : ∃ x0, x0 = (rd_T52 l0_2 i).f0 := ⟨_, rfl⟩; obtain ⟨x1, hx1e⟩ : ∃ x0, x0 = (rd_T52 l0_2 i).f1 := ⟨_, rfl⟩; obtain ⟨x2, hx2e⟩ : ∃ x0, x0 = (rd_T52 l0_2 i).f2 := ⟨_, rfl⟩; rw [← hx0e] at hx0; rw [← hx1e] at hx1; rw [← hx2e] at hx2; have E0 := As hx0e; have E1 := As hx1e; have E2 := As hx2e; clear hx0e hx1e hx2e; (have hczA : ∀ cs, (wr.alloc (.cells cs 52)).cell? ⟨w.heap.size, 2, none⟩ = some (.slice (some ad) l0_2.length c0_2) := fun cs => (Below.cell (below_alloc (Below.refl wr.heap.size wr) _) (World.block_lt_of_cell? wr _ hcz2)).trans hcz2)
   by_cases t1 : ¬ (2 ≤ x0 ∧ x0 < 2147483647)
   ·have Pt1 := As t1
    have A3 : Aside0 (challenge_proper.f x0 = some false) := ⟨by unfold challenge_proper.f; have := Pt1.out; split <;> simp <;> omega⟩; clear t1
    have hk : challenge_valid.okAt l0_2 i = false := by
     unfold challenge_valid.okAt; rw [← E0.out, ← E1.out, ← E2.out, if_pos Pt1.out]
    have hr := R1 i HI.out hk; subst hr; clear hk R1 R2 BLK; go_wp2_with (first | (go_at_call 32; (with_reducible refine (challenge_proper.calls x0 false _ A3.out).mono ?_); rintro e w' ⟨rfl, ⟨nd, rfl⟩⟩)); go_ret; exact ⟨rfl, by repeat (first | exact HBr.out | apply uA | apply uN | apply uD)⟩
   ·have Pt1 := As t1
    have A3 : Aside0 (challenge_proper.f x0 = some true) := ⟨by unfold challenge_proper.f; have := Pt1.out; rw [if_pos (by omega)]; simp; omega⟩; clear t1
    by_cases t2 : x0 ∈ (l0_2.take i).map (·.f0)
    ·have Pt2 := As t2
     have hlook := challenge_valid.look_yes HS.out Pt2.out; clear t2
     have hk : challenge_valid.okAt l0_2 i = false := by
      unfold challenge_valid.okAt; rw [← E0.out, ← E1.out, ← E2.out, if_neg Pt1.out, if_pos Pt2.out]
     have hr := R1 i HI.out hk; subst hr; clear hk R1 R2 BLK; go_wp2_with (first | (go_at_call 32; (with_reducible refine (challenge_proper.calls x0 true _ A3.out).mono ?_); rintro e w' ⟨rfl, ⟨nd, rfl⟩⟩)); go_ret; exact ⟨rfl, by repeat (first | exact HBr.out | apply uA | apply uN | apply uD)⟩
    ·have Pt2 := As t2
     have hlook := challenge_valid.look_no HS.out Pt2.out; clear t2
     by_cases t3 : x1 < 0
     ·have Pt3 := As t3
      have dt3 : decide (x1 < 0) = true := decide_eq_true (by have := Pt3.out; omega); clear t3
      have hk : challenge_valid.okAt l0_2 i = false := by
       unfold challenge_valid.okAt; rw [← E0.out, ← E1.out, ← E2.out, if_neg Pt1.out, if_neg Pt2.out, if_pos Pt3.out]
      have hr := R1 i HI.out hk; subst hr; clear hk R1 R2 BLK; go_wp2_with (first | (go_at_call 32; (with_reducible refine (challenge_proper.calls x0 true _ A3.out).mono ?_); rintro e w' ⟨rfl, ⟨nd, rfl⟩⟩)); go_ret; exact ⟨rfl, by repeat (first | exact HBr.out | apply uA | apply uN | apply uD)⟩
     ·have Pt3 := As t3
      have dt3 : decide (x1 < 0) = false := decide_eq_false (by have := Pt3.out; omega); clear t3
      by_cases t4 : 2147483647 ≤ x1
      ·have Pt4 := As t4
       have dt4 : decide (2147483647 ≤ x1) = true := decide_eq_true (by have := Pt4.out; omega); clear t4
       have hk : challenge_valid.okAt l0_2 i = false := by
        unfold challenge_valid.okAt; rw [← E0.out, ← E1.out, ← E2.out, if_neg Pt1.out, if_neg Pt2.out, if_neg Pt3.out, if_pos Pt4.out]
       have hr := R1 i HI.out hk; subst hr; clear hk R1 R2 BLK; go_wp2_with (first | (go_at_call 32; (with_reducible refine (challenge_proper.calls x0 true _ A3.out).mono ?_); rintro e w' ⟨rfl, ⟨nd, rfl⟩⟩)); go_ret; exact ⟨rfl, by repeat (first | exact HBr.out | apply uA | apply uN | apply uD)⟩
      ·have Pt4 := As t4
       have dt4 : decide (2147483647 ≤ x1) = false := decide_eq_false (by have := Pt4.out; omega); clear t4
       by_cases t5 : x2 < 0
       ·have Pt5 := As t5
        have dt5 : decide (x2 < 0) = true := decide_eq_true (by have := Pt5.out; omega); clear t5
        have hk : challenge_valid.okAt l0_2 i = false := by
         unfold challenge_valid.okAt; rw [← E0.out, ← E1.out, ← E2.out, if_neg Pt1.out, if_neg Pt2.out, if_neg Pt3.out, if_neg Pt4.out, if_pos Pt5.out]
        have hr := R1 i HI.out hk; subst hr; clear hk R1 R2 BLK; go_wp2_with (first | (go_at_call 32; (with_reducible refine (challenge_proper.calls x0 true _ A3.out).mono ?_); rintro e w' ⟨rfl, ⟨nd, rfl⟩⟩)); go_ret; exact ⟨rfl, by repeat (first | exact HBr.out | apply uA | apply uN | apply uD)⟩
       ·have Pt5 := As t5
        have dt5 : decide (x2 < 0) = false := decide_eq_false (by have := Pt5.out; omega); clear t5
        by_cases t6 : 1048577 < x2
        ·have Pt6 := As t6
         have dt6 : decide (1048577 < x2) = true := decide_eq_true (by have := Pt6.out; omega); clear t6
         have hk : challenge_valid.okAt l0_2 i = false := by
          unfold challenge_valid.okAt; rw [← E0.out, ← E1.out, ← E2.out, if_neg Pt1.out, if_neg Pt2.out, if_neg Pt3.out, if_neg Pt4.out, if_neg Pt5.out, if_pos Pt6.out]
         have hr := R1 i HI.out hk; subst hr; clear hk R1 R2 BLK; go_wp2_with (first | (go_at_call 32; (with_reducible refine (challenge_proper.calls x0 true _ A3.out).mono ?_); rintro e w' ⟨rfl, ⟨nd, rfl⟩⟩)); go_ret; exact ⟨rfl, by repeat (first | exact HBr.out | apply uA | apply uN | apply uD)⟩
        ·have Pt6 := As t6
         have dt6 : decide (1048577 < x2) = false := decide_eq_false (by have := Pt6.out; omega); clear t6
         by_cases t7 : i = 0
         ·have Pt7 := As t7
          have d7 : decide (0 < (i : Int)) = false := decide_eq_false (by omega); have d7n : decide (0 < i) = false := decide_eq_false (by omega); clear t7
          have hk : Aside0 (challenge_valid.okAt l0_2 i = true) := ⟨by
           unfold challenge_valid.okAt; rw [← E0.out, ← E1.out, ← E2.out, if_neg Pt1.out, if_neg Pt2.out, if_neg Pt3.out, if_neg Pt4.out, if_neg Pt5.out, if_neg Pt6.out, if_neg (fun h => h.1 Pt7.out)]⟩
          go_wp2_with (first | (go_at_call 32; (with_reducible refine (challenge_proper.calls x0 true _ A3.out).mono ?_); rintro e w' ⟨rfl, ⟨nd, rfl⟩⟩)); go_quiet (fail); go_wp2_with (at_mapUpdate; refine challenge_valid.put rfl _ _ _ rfl rfl rfl rfl HS.out Pt2.out ?_; intro w9 HS9 HG9; clear hlook); have hb0 := challenge_valid.below HBr.out HG9; have hs0 := challenge_valid.keys_snoc l0_2 i x0 E0.out (by have := HI.out; omega); have hblk := As (BLK HG9); have HB9 := As hb0; have HK9 := As hs0; clear hb0 hs0 HG9 BLK; go_roundg k1
          case measure => omega
          case rel =>
           refine ⟨i + 1, challenge_valid.next i, ⟨by have := HI.out; omega⟩, hblk, ⟨?_⟩, HB9, ⟨?_⟩⟩
           ·rw [HK9.out]
            exact HS9
           ·intro j hj
            (rcases Nat.lt_or_ge j i with h | h)
            ·exact HO.out j h
            ·obtain rfl : j = i := by omega
             exact hk.out
         ·have Pt7 := As t7
          have d7 : decide (0 < (i : Int)) = true := decide_eq_true (by omega); have d7n : decide (0 < i) = true := decide_eq_true (by omega); clear t7
          by_cases t8 : 0 < x2
          ·have Pt8 := As t8
           have d8 : decide (0 < x2) = true := decide_eq_true t8; clear t8; (have p2 : 0 ≤ (i : Int) - 1 := by have := Pt7.out; omega); (have q2 : (i : Int) - 1 < (l0_2.length : Int) := by have := HI.out; omega); obtain ⟨ad2, e2, hy0, hy1, hy2⟩ := at_T52 HR0_2.out ((i : Int) - 1) p2 q2; cases e2; clear hy0 hy1; replace hy2 := (HBr.out.cell (World.block_lt_of_cell? w _ hy2)).trans hy2; obtain ⟨y2, hy2e⟩ : ∃ y2, y2 = (rd_T52 l0_2 ((i : Int) - 1)).f2 := ⟨_, rfl⟩; rw [← hy2e] at hy2; have E3 := As hy2e; clear hy2e; (have hyA : ∀ cs, (wr.alloc (.cells cs 52)).cell? _ = some _ := fun cs => (Below.cell (below_alloc (Below.refl wr.heap.size wr) _) (World.block_lt_of_cell? wr _ hy2)).trans hy2); (have ht2 : ((i : Int) - 1).toNat = i - 1 := by omega); rw [ht2] at hy2 hyA; have hw2 : IntKind.i64.wrap ((i : Int) - 1) = (i : Int) - 1 := IntWalk.i64_in _ (by omega); have p2a := p2; replace p2 := eq_true p2; replace q2 := eq_true q2
           by_cases t9 : y2 = 0
           ·have Pt9 := As t9
            (have d9 : (y2 == 0) = true := by simp [Pt9.out]); clear t9
            have hk : challenge_valid.okAt l0_2 i = false := by
             unfold challenge_valid.okAt; rw [← E0.out, ← E1.out, ← E2.out, ← E3.out, if_neg Pt1.out, if_neg Pt2.out, if_neg Pt3.out, if_neg Pt4.out, if_neg Pt5.out, if_neg Pt6.out, if_pos ⟨Pt7.out, Pt8.out, .inl Pt9.out⟩]
            have hr := R1 i HI.out hk; subst hr; clear hk R1 R2 BLK; go_wp2_with (first | (go_at_call 32; (with_reducible refine (challenge_proper.calls x0 true _ A3.out).mono ?_); rintro e w' ⟨rfl, ⟨nd, rfl⟩⟩)); go_quiet (fail); go_wp2; go_ret; exact ⟨rfl, by repeat (first | exact HBr.out | apply uA | apply uN | apply uD)⟩
           ·have Pt9 := As t9
            (have d9 : (y2 == 0) = false := by simp [Pt9.out]); clear t9
            by_cases t10 : x2 < y2
            ·have Pt10 := As t10
             have d10 : decide (x2 < y2) = true := decide_eq_true Pt10.out; clear t10
             have hk : challenge_valid.okAt l0_2 i = false := by
              unfold challenge_valid.okAt; rw [← E0.out, ← E1.out, ← E2.out, ← E3.out, if_neg Pt1.out, if_neg Pt2.out, if_neg Pt3.out, if_neg Pt4.out, if_neg Pt5.out, if_neg Pt6.out, if_pos ⟨Pt7.out, Pt8.out, .inr Pt10.out⟩]
             have hr := R1 i HI.out hk; subst hr; clear hk R1 R2 BLK; go_wp2_with (first | (go_at_call 32; (with_reducible refine (challenge_proper.calls x0 true _ A3.out).mono ?_); rintro e w' ⟨rfl, ⟨nd, rfl⟩⟩)); go_quiet (fail); go_wp2; go_ret; exact ⟨rfl, by repeat (first | exact HBr.out | apply uA | apply uN | apply uD)⟩
            ·have Pt10 := As t10
             have d10 : decide (x2 < y2) = false := decide_eq_false Pt10.out; clear t10
             have hk : Aside0 (challenge_valid.okAt l0_2 i = true) := ⟨by
              unfold challenge_valid.okAt; rw [← E0.out, ← E1.out, ← E2.out, if_neg Pt1.out, if_neg Pt2.out, if_neg Pt3.out, if_neg Pt4.out, if_neg Pt5.out, if_neg Pt6.out, if_neg (fun h => h.2.2.elim (fun h => Pt9.out (E3.out.trans h)) (fun h => Pt10.out (by rw [E3.out]; exact h)))]⟩
             go_wp2_with (first | (go_at_call 32; (with_reducible refine (challenge_proper.calls x0 true _ A3.out).mono ?_); rintro e w' ⟨rfl, ⟨nd, rfl⟩⟩)); go_quiet (fail); go_wp2_with (at_mapUpdate; refine challenge_valid.put rfl _ _ _ rfl rfl rfl rfl HS.out Pt2.out ?_; intro w9 HS9 HG9; clear hlook); have hb0 := challenge_valid.below HBr.out HG9; have hs0 := challenge_valid.keys_snoc l0_2 i x0 E0.out (by have := HI.out; omega); have hblk := As (BLK HG9); have HB9 := As hb0; have HK9 := As hs0; clear hb0 hs0 HG9 BLK; go_roundg k1
             case measure => omega
             case rel =>
              refine ⟨i + 1, challenge_valid.next i, ⟨by have := HI.out; omega⟩, hblk, ⟨?_⟩, HB9, ⟨?_⟩⟩
              ·rw [HK9.out]
               exact HS9
              ·intro j hj
               (rcases Nat.lt_or_ge j i with h | h)
               ·exact HO.out j h
               ·obtain rfl : j = i := by omega
                exact hk.out
          ·have Pt8 := As t8
           have d8 : decide (0 < x2) = false := decide_eq_false t8; clear t8
           have hk : Aside0 (challenge_valid.okAt l0_2 i = true) := ⟨by
            unfold challenge_valid.okAt; rw [← E0.out, ← E1.out, ← E2.out, if_neg Pt1.out, if_neg Pt2.out, if_neg Pt3.out, if_neg Pt4.out, if_neg Pt5.out, if_neg Pt6.out, if_neg (fun h => Pt8.out h.2.1)]⟩
           go_wp2_with (first | (go_at_call 32; (with_reducible refine (challenge_proper.calls x0 true _ A3.out).mono ?_); rintro e w' ⟨rfl, ⟨nd, rfl⟩⟩)); go_quiet (fail); go_wp2_with (at_mapUpdate; refine challenge_valid.put rfl _ _ _ rfl rfl rfl rfl HS.out Pt2.out ?_; intro w9 HS9 HG9; clear hlook); have hb0 := challenge_valid.below HBr.out HG9; have hs0 := challenge_valid.keys_snoc l0_2 i x0 E0.out (by have := HI.out; omega); have hblk := As (BLK HG9); have HB9 := As hb0; have HK9 := As hs0; clear hb0 hs0 HG9 BLK; go_roundg k1
           case measure => omega
           case rel =>
            refine ⟨i + 1, challenge_valid.next i, ⟨by have := HI.out; omega⟩, hblk, ⟨?_⟩, HB9, ⟨?_⟩⟩
            ·rw [HK9.out]
             exact HS9
            ·intro j hj
             (rcases Nat.lt_or_ge j i with h | h)
             ·exact HO.out j h
             ·obtain rfl : j = i := by omega
              exact hk.out
set_option maxHeartbeats 8000000 in
set_option maxRecDepth 100000 in
theorem challenge_valid.calls (a0_0 : Int) (a0_1 : Int) (A0_2 : Option Addr) (c0_2 : Nat) (l0_2 : List (S52)) (r : Bool) (w : World) (hr0_2 : Kd.C k52 w A0_2 l0_2.length l0_2) (hc0_2 : l0_2.length ≤ c0_2) (h : challenge_valid.f a0_0 a0_1 l0_2 = some r) :
  Calls Try.prog 35 #[.agg #[.int .i64 a0_0, .int .i64 a0_1, .slice A0_2 l0_2.length c0_2]] w fun e w' => e = .returned (.bool r) ∧ Below w.heap.size w w' := by
 have H : challenge_valid.okB a0_0 a0_1 l0_2 = r := Option.some.inj h; clear h; unfold challenge_valid.okB at H; have HB := As (Below.refl w.heap.size w)
 by_cases c1 : a0_0 < 0
 ·rw [if_pos c1] at H
  subst H; have b1 : decide (a0_0 < 0) = true := decide_eq_true c1; clear c1 hr0_2 hc0_2; go_enter Try.func35, Try.ntmps35; go_wp2; go_ret; exact ⟨rfl, below_alloc HB.out _⟩
 rw [if_neg c1] at H; have b1 : decide (a0_0 < 0) = false := decide_eq_false c1; clear c1
 by_cases c1 : 2147483647 ≤ a0_0
 ·rw [if_pos c1] at H
  subst H; have b2 : decide (2147483647 ≤ a0_0) = true := decide_eq_true c1; clear c1 hr0_2 hc0_2; go_enter Try.func35, Try.ntmps35; go_wp2; go_ret; exact ⟨rfl, below_alloc HB.out _⟩
 rw [if_neg c1] at H; have b2 : decide (2147483647 ≤ a0_0) = false := decide_eq_false c1; clear c1
 by_cases c1 : a0_1 < 1
 ·rw [if_pos c1] at H
  subst H; have b3 : decide (a0_1 < 1) = true := decide_eq_true c1; clear c1 hr0_2 hc0_2; go_enter Try.func35, Try.ntmps35; go_wp2; go_ret; exact ⟨rfl, below_alloc HB.out _⟩
 rw [if_neg c1] at H; have b3 : decide (a0_1 < 1) = false := decide_eq_false c1; clear c1
 by_cases c1 : 65536 < a0_1
 ·rw [if_pos c1] at H
  subst H; have b4 : decide (65536 < a0_1) = true := decide_eq_true c1; clear c1 hr0_2 hc0_2; go_enter Try.func35, Try.ntmps35; go_wp2; go_ret; exact ⟨rfl, below_alloc HB.out _⟩
 rw [if_neg c1] at H; have b4 : decide (65536 < a0_1) = false := decide_eq_false c1; clear c1
 by_cases c1 : 64 < (l0_2.length : Int)
 ·rw [if_pos c1] at H
  subst H; have b5 : decide (64 < (l0_2.length : Int)) = true := decide_eq_true c1; clear c1 hr0_2 hc0_2; go_enter Try.func35, Try.ntmps35; go_wp2; go_ret; exact ⟨rfl, below_alloc HB.out _⟩
 rw [if_neg c1] at H; have b5 : decide (64 < (l0_2.length : Int)) = false := decide_eq_false c1; clear c1; exact challenge_valid.loop a0_0 a0_1 A0_2 c0_2 l0_2 r w hr0_2 hc0_2 b1 b2 b3 b4 b5 H

end Go.Proofs.Ytfabnklcdagfjaa.PA
