-- Written by a program of this claim's own (hookprint.py), after the pattern of the kit's print. Lean checks it.
import Derived.Test.YtpifbgkppfginaaPAx0
namespace Go.Proofs.Ytpifbgkppfginaa.PA
open Go.RowKit Go.Proofs.YtpifbgkppfginaaW.PrintWords Go.Proofs.YtpifbgkppfginaaW.PrintLast Go.Proofs.YtpifbgkppfginaaW.PrintMore
attribute [local go_sem ↓] some_setCell
attribute [local go_sem] max2_int min2_int max_two min_two max_three min_three max_four min_four   -- for this text's walks alone
set_option linter.unusedVariables false
set_option linter.unusedSimpArgs false

/-! ### refs_find: function 30, by hand -/
def refs_find.ren : Go.Shelf.Ren := ⟨fun | 16 => 38 | n => n, fun | 35 => 64 | 38 => 66 | n => n, fun n => n⟩
theorem refs_find.laid : Go.Proofs.SlLaysO.n16 Try.prog refs_find.ren :=
 { mixed := by kernel_rfl, f16 := by kernel_rfl, t3 := by kernel_rfl, a3 := fun _ => by kernel_rfl, z3 := fun _ => by kernel_rfl, v3 := fun _ => by kernel_rfl, t4 := by kernel_rfl, a4 := fun _ => by kernel_rfl, z4 := fun _ => by kernel_rfl, v4 := fun _ => by kernel_rfl, t35 := by kernel_rfl, a35 := fun _ => by kernel_rfl, z35 := fun _ => by kernel_rfl, v35 := fun _ => by kernel_rfl, t38 := by kernel_rfl, a38 := fun _ => by kernel_rfl, z38 := fun _ => by kernel_rfl, v38 := fun _ => by kernel_rfl }
set_option maxHeartbeats 2000000 in
theorem refs_find.closure (ba bx c0 : Nat) (A0 : Option Addr) (l0 : List S33) (x : Int) (i : Nat) (W : World) (hi : i < l0.length)
  (ha : W.cell? ⟨ba, 0, none⟩ = some (.slice A0 l0.length c0)) (hx : W.cell? ⟨bx, 0, none⟩ = some (.int .i64 x)) (hr : Kd.C k33 W A0 l0.length l0) :
  Calls Try.prog 39 (#[.int .i64 i] ++ #[.pointer (some ⟨ba, 0, none⟩), .pointer (some ⟨bx, 0, none⟩)]) W fun e w' => e = .returned (.bool (decide (x ≤ (rd_T33 l0 i).f0))) ∧ ∃ q, w' = W.drewN q := by
 obtain ⟨ad, rfl, hc, _, _⟩ := at_T33 hr (i : Int) (by omega) (by omega); rw [Int.toNat_natCast] at hc; clear hr; generalize (rd_T33 l0 i).f0 = y at hc ⊢; (have hiz : (i : Int) < (l0.length : Int) := by omega); go_enter Try.func39, Try.ntmps39; go_wp2; go_region
 all_goals go_wp2
 all_goals go_ret
 all_goals exact ⟨by first | rfl | simp, 1, rfl⟩
def refs_find.cnt (l0 : List S33) (d : Int) : Nat := (List.range l0.length).countP (fun i => !decide (d ≤ (rd_T33 l0 (i : Nat)).f0))
/-- Where rows below d come first: how many they are, and whether the next one's is d. -/
def refs_find.f (l0 : List S33) (a1 : Int) : Option (Int × Bool) :=
 if l0.length < 4611686018427387904 ∧ (List.range l0.length).all (fun i => decide (i < refs_find.cnt l0 a1) == !decide (a1 ≤ (rd_T33 l0 (i : Nat)).f0)) = true then
  some ((refs_find.cnt l0 a1 : Int), decide (refs_find.cnt l0 a1 < l0.length) && ((rd_T33 l0 (refs_find.cnt l0 a1 : Nat)).f0 == a1)) else none
set_option maxHeartbeats 4000000 in
theorem refs_find.calls (A0 : Option Addr) (c0 : Nat) (l0 : List (S33)) (a1 : Int) (r1 : Int) (r2 : Bool) (w : World) (hr0 : Kd.C k33 w A0 l0.length l0) (hc0 : l0.length ≤ c0) (h : refs_find.f l0 a1 = some (r1, r2)) :
  Calls Try.prog 30 #[.slice A0 l0.length c0, .int .i64 a1] w fun e w' => e = .returned (.tuple #[.int .i64 r1, .bool r2]) ∧ Below w.heap.size w w' := by
 unfold refs_find.f at h; obtain ⟨n, hn⟩ : ∃ n, n = refs_find.cnt l0 a1 := ⟨_, rfl⟩; rw [← hn] at h
 have hN : n ≤ l0.length := by
  rw [hn]; unfold refs_find.cnt; have := List.countP_le_length (p := fun i => !decide (a1 ≤ (rd_T33 l0 (i : Nat)).f0)) (l := List.range l0.length)
  rwa [List.length_range] at this
 split at h
 ·rename_i hif
  obtain ⟨hmax, hall⟩ := hif; injection h with h; injection h with h1 h2; subst h1
  have hp : ∀ i, i < l0.length → (decide (a1 ≤ (rd_T33 l0 (i : Nat)).f0) = true ↔ ¬ i < n) := by
   intro i hi; have := List.all_eq_true.mp hall i (List.mem_range.mpr hi)
   by_cases c : i < n <;> by_cases c2 : a1 ≤ (rd_T33 l0 (i : Nat)).f0
   ·rw [decide_eq_true c, decide_eq_true c2] at this
    exact absurd this (by decide)
   ·simp [c, c2]
   ·simp [c, c2]
   ·rw [decide_eq_false c, decide_eq_false c2] at this
    exact absurd this (by decide)
  obtain ⟨W0, hW0⟩ : ∃ W0, W0 = (w.alloc (.cells #[.slice A0 l0.length c0] 23)).alloc (.cells #[.int .i64 a1] 3) := ⟨_, rfl⟩; (have hsize : W0.heap.size = w.heap.size + 1 + 1 := by rw [hW0]; simp); (have ca : W0.cell? ⟨w.heap.size, 0, none⟩ = some (.slice A0 l0.length c0) := by rw [hW0]; exact cell_alloc_sl _ (cell_new_sl w _ _)); (have cx : W0.cell? ⟨w.heap.size + 1, 0, none⟩ = some (.int .i64 a1) := by rw [hW0]; have := cell_new_sl (w.alloc (.cells #[.slice A0 l0.length c0] 23)) (.int .i64 a1) 3; rwa [World.size_alloc] at this); (have hB0 : Below w.heap.size w W0 := by rw [hW0]; exact ((Below.refl _ w).alloc (Nat.le_refl _) _).alloc (by simp) _)
  have hr1 : Kd.C k33 W0 A0 l0.length l0 := by
   rw [hW0]; exact Kd.C_alloc (Kd.C_alloc hr0 _) _
  have eg : ∀ args w, (callFunc 39 args).run Try.prog w = .ok (.enter 39 args) w := enters_of Try.func39 (by kernel_rfl) rfl
  have hS := Any.sort_Search refs_find.laid 39 #[.pointer (some ⟨w.heap.size, 0, none⟩), .pointer (some ⟨w.heap.size + 1, 0, none⟩)] l0.length (fun i => decide (a1 ≤ (rd_T33 l0 (i : Nat)).f0)) W0 eg hmax
   (fun m os i hi => (refs_find.closure w.heap.size (w.heap.size + 1) c0 A0 l0 a1 i _ hi (cell_grown (by simp [hsize]; omega) ca m os) (cell_grown (by simp [hsize]) cx m os) (Kd.C_below hr1 (below_grown_sl W0.heap.size W0 m os (Nat.le_refl _)))).mono
    fun _ _ ⟨he, q, hq⟩ => ⟨he, q, #[], by rw [hq, Go.Sort.grow_empty]⟩) (fun a b hab hb h => by
     have ha := hp a (by omega); have hb' := hp b hb; rw [hb']; rw [ha] at h; omega)
  have hcnt : (List.range l0.length).countP (fun i => !decide (a1 ≤ (rd_T33 l0 (i : Nat)).f0)) = n := hn.symm; rw [hcnt] at hS
  change Calls Try.prog 38 _ _ _ at hS
  clear hp hall hcnt
  by_cases c : n < l0.length
  ·obtain ⟨ad, e1, hc, _, _⟩ := at_T33 hr1 (n : Int) (by omega) (by omega)
   subst e1; rw [Int.toNat_natCast] at hc; (have h2' : ((rd_T33 l0 (n : Nat)).f0 == a1) = r2 := by rw [← h2, decide_eq_true c]; rfl); clear h2 hr0 hr1 hn; generalize (rd_T33 l0 (n : Nat)).f0 = y at hc h2'; (have hiz : (n : Int) < (l0.length : Int) := by omega); subst h2'; go_enter Try.func30, Try.ntmps30; go_wp2_with (go_at_call 38; rw [← hW0]; refine hS.mono ?_; rintro e w' ⟨rfl, q, os, rfl⟩); have ca1 := cell_grown (by simp [hsize]; omega) ca q os; have cx1 := cell_grown (by simp [hsize]) cx q os; have hc1 := cell_grown (World.block_lt_of_cell? _ _ hc) hc q os; have hB1 := hB0.trans (below_grown_sl w.heap.size W0 q os (by omega)); have hd1 : decide ((n : Int) < (l0.length : Int)) = true := decide_eq_true hiz; have hd2 : decide (n < l0.length) = true := decide_eq_true c; rw [← hW0]; generalize Go.Sort.grow (W0.drewN q) os = W1 at ca1 cx1 hc1 hB1 ⊢; have HB1 := Aside0.mk hB1; clear hB1 hB0 ca cx hc eg hsize hW0 hS c; go_quiet (fail); go_wp2; go_ret2; exact ⟨rfl, by repeat (first | exact HB1.out | apply uA | apply uN | apply uD)⟩
  ·obtain rfl : n = l0.length := by omega
   (have h2' : false = r2 := by rw [← h2, decide_eq_false (by omega)]; rfl); clear h2 hr0 hr1 hn; (have hiz : ¬ (l0.length : Int) < (l0.length : Int) := by omega); subst h2'; go_enter Try.func30, Try.ntmps30; go_wp2_with (go_at_call 38; rw [← hW0]; refine hS.mono ?_; rintro e w' ⟨rfl, q, os, rfl⟩); have ca1 := cell_grown (by simp [hsize]; omega) ca q os; have cx1 := cell_grown (by simp [hsize]) cx q os; have hB1 := hB0.trans (below_grown_sl w.heap.size W0 q os (by omega)); have hd1 : decide ((l0.length : Int) < (l0.length : Int)) = false := decide_eq_false (by omega); have hd2 : decide (l0.length < l0.length) = false := decide_eq_false (by omega); rw [← hW0]; generalize Go.Sort.grow (W0.drewN q) os = W1 at ca1 cx1 hB1 ⊢; have HB1 := Aside0.mk hB1; clear hB1 hB0 ca cx eg hsize hW0 hS c; go_quiet (fail); go_wp2; go_ret2; exact ⟨rfl, by repeat (first | exact HB1.out | apply uA | apply uN | apply uD)⟩
 ·cases h

end Go.Proofs.Ytpifbgkppfginaa.PA
