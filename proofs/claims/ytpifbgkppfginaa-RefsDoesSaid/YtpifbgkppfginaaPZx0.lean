-- Printed by this claim's own program.
import Derived.Test.YtpifbgkppfginaaProg
import Derived.Below
import Derived.Deep.Draws
import Derived.Deep.AppendLies
import Derived.Maps.AppendAt
import Derived.OwnWalk
import Derived.Laws.BytesArg
import Derived.Laws.MakeOwn
import Derived.Laws.OwnMore
import Derived.Deep.OwnRows
import Derived.Tactics
import Derived.Lib.ConvBytes
import Derived.Laws.Slices
import Derived.WalkKit
import Derived.KernelRfl
import Derived.RowKit3
import Derived.Deep.LoopGhost
import Derived.Deep.QuietTactic
import Derived.BigQuiet
import Derived.WideLaws
import Derived.Deep.DeepCutAuto
import Derived.Deep.CutBlock
import Derived.Laws.Rows
import Derived.Lib.AppendStr
import Derived.ArgAppend
import Derived.Laws.IdiomCopy
import Derived.OrdersHeld
import Derived.Laws.BitsLemmas
import Derived.RowKit
import Derived.Test.YtpifbgkppfginaaMine
import Derived.Test.YtpifbgkppfginaaCells
import Derived.Shelf.SlSorted.Search
import Derived.Test.YtpifbgkppfginaaWWords
import Derived.Test.YtpifbgkppfginaaWLast
import Derived.Test.YtpifbgkppfginaaWTab
import Derived.Test.YtpifbgkppfginaaWQPut
import Derived.Test.YtpifbgkppfginaaWApart
import Derived.Test.YtpifbgkppfginaaWArr
import Derived.Test.YtpifbgkppfginaaWZeros
import Derived.Test.YtpifbgkppfginaaWFoot
import Derived.Test.YtpifbgkppfginaaWKept
import Derived.Test.YtpifbgkppfginaaWShare
import Derived.Test.YtpifbgkppfginaaWN
import Derived.Test.YtpifbgkppfginaaWEqStruct
import Derived.Test.YtpifbgkppfginaaWRepsOne
import Derived.Test.YtpifbgkppfginaaWGuard
import Derived.Test.YtpifbgkppfginaaWNEv
import Derived.Test.YtpifbgkppfginaaWMore
import Derived.Test.YtpifbgkppfginaaRow
namespace Go.Proofs.Ytpifbgkppfginaa.PZ
open Go.RowKit Go.Proofs.YtpifbgkppfginaaW.PrintWords Go.Proofs.YtpifbgkppfginaaW.PrintLast Go.Proofs.YtpifbgkppfginaaW.PrintMore
attribute [local go_sem ↓] some_setCell
attribute [local go_sem] max2_int min2_int max_two min_two max_three min_three max_four min_four
set_option linter.unusedVariables false
set_option linter.unusedSimpArgs false
def errW : Option Int → Value
 | none => .nilIface
 | some c => .iface 0 (.int .i64 c)
theorem errW_none : errW none = .nilIface := rfl
theorem errW_some (c : Int) : errW (some c) = .iface 0 (.int .i64 c) := rfl
theorem info3 : (Try.prog.info? 3).map (fun i => (i.zero, i.size, i.bytes)) = some (some (.int .i64 0), 1, 8) := by kernel_rfl
theorem info5 : (Try.prog.info? 5).map (fun i => (i.zero, i.size, i.bytes)) = some (some (.int .u8 0), 1, 1) := by kernel_rfl
theorem info9 : (Try.prog.info? 9).map (fun i => (i.zero, i.size, i.bytes)) = some (some (.string ⟨#[]⟩), 1, 16) := by kernel_rfl
theorem info33 : (Try.prog.info? 33).map (fun i => (i.zero, i.size, i.bytes)) = some (some (.agg #[(.int .i64 0), (.int .i64 0), (.string ⟨#[]⟩)]), 3, 32) := by kernel_rfl
structure S33 where
 f0 : Int
 f1 : Int
 f2 : ByteArray
def z33 : S33 := ⟨(0 : Int), (0 : Int), (⟨#[]⟩ : ByteArray)⟩
def k33 : Kd S33 := Kd.iso (Kd.pair (Kd.int .i64) (Kd.pair (Kd.int .i64) Kd.string)) (fun x : S33 => (x.f0, x.f1, x.f2))
theorem k33_open {w : World} {x : S33} {cs : List Value} (h : k33.K w x cs) : cs = [.int .i64 x.f0, .int .i64 x.f1, .string x.f2] := by
 obtain ⟨_, _, rfl, rfl, ⟨_, _, rfl, rfl, rfl⟩⟩ := h
 exact rfl
theorem k33_openM {w : World} {base : Nat} {ok : Nat → Prop} {x : S33} {cs : List Value} (h : k33.M w base ok x cs) : cs = [.int .i64 x.f0, .int .i64 x.f1, .string x.f2] := by
 obtain ⟨_, _, rfl, rfl, ⟨_, _, rfl, rfl, rfl⟩⟩ := h
 exact rfl
theorem k33_mk (w : World) (x : S33)  : k33.K w x [.int .i64 x.f0, .int .i64 x.f1, .string x.f2] := ⟨[.int .i64 x.f0], [.int .i64 x.f1, .string x.f2], rfl, rfl, ⟨[.int .i64 x.f1], [.string x.f2], rfl, rfl, rfl⟩⟩
theorem k33_mkM (w : World) (base : Nat) (ok : Nat → Prop) (x : S33)  : k33.M w base ok x [.int .i64 x.f0, .int .i64 x.f1, .string x.f2] := ⟨[.int .i64 x.f0], [.int .i64 x.f1, .string x.f2], rfl, rfl, ⟨[.int .i64 x.f1], [.string x.f2], rfl, rfl, rfl⟩⟩
def rd_T33 (xs : List S33) (i : Int) : S33 := xs.getD i.toNat z33
theorem at_T33 {w : World} {A : Option Addr} {n : Nat} {xs : List S33} (h : Kd.C k33 w A n xs) (i : Int) (h0 : 0 ≤ i) (h1 : i < n) : ∃ ad , A = some ad ∧ w.cell? (ad.add (i.toNat * 3)) = some (.int .i64 (rd_T33 xs i).f0) ∧ w.cell? ⟨(ad.add (i.toNat * 3)).block, (ad.add (i.toNat * 3)).off + 1, none⟩ = some (.int .i64 (rd_T33 xs i).f1) ∧ w.cell? ⟨(ad.add (i.toNat * 3)).block, (ad.add (i.toNat * 3)).off + 2, none⟩ = some (.string (rd_T33 xs i).f2) := by
 obtain ⟨ad, c, e, _, hK, hc0⟩ := Kd.C_get h z33 i h0 h1
 have hc : ∀ j u, c[j]? = some u → w.cell? (ad.add (i.toNat * 3 + j)) = some u := hc0
 obtain rfl := k33_open hK
 exact ⟨ad, e, hc 0 _ rfl, by rw [← add_field _ _ 1 (by omega)]; exact hc 1 _ rfl, by rw [← add_field _ _ 2 (by omega)]; exact hc 2 _ rfl⟩
def rd_L4 (xs : List (List S33)) (i : Int) : (List S33) := xs.getD i.toNat ([] : List S33)
structure S25 where
 f0 : (List S33)
def z25 : S25 := ⟨([] : List S33)⟩
def k25 : Kd S25 := Kd.iso (Kd.slice 33 k33) (fun x : S25 => x.f0)
theorem k25_open {w : World} {x : S25} {cs : List Value} (h : k25.K w x cs) : ∃ A0 c0, cs = [.slice A0 x.f0.length c0] ∧ x.f0.length ≤ c0 ∧ k33.C w A0 x.f0.length x.f0 := by
 obtain ⟨A0, c0, rfl, l0, g0⟩ := h
 exact ⟨A0, c0, rfl, l0, g0⟩
theorem k25_mk (w : World) (x : S25) {A0 : Option Addr} {c0 : Nat} (l0 : x.f0.length ≤ c0) (g0 : k33.C w A0 x.f0.length x.f0) : k25.K w x [.slice A0 x.f0.length c0] := ⟨A0, c0, rfl, l0, g0⟩
theorem k25_openF {W : World} {ok : Nat → Prop} {x : S25} {cs : List Value} (h : Kd.FK k25 W ok x cs) : ∃ A0 c0, cs = [.slice A0 x.f0.length c0] ∧ x.f0.length ≤ c0 ∧ Kd.F k33 W ok A0 x.f0.length x.f0 := by
 obtain ⟨A0, c0, rfl, l0, _⟩ := k25_open (Kd.FK_now h)
 exact ⟨A0, c0, rfl, l0, (fun W' hW => by obtain ⟨A0_, c0_, he, l0_, g0_⟩ := k25_open (h W' hW); injection (Option.some.inj (show some (Value.slice A0 x.f0.length c0) = some (Value.slice A0_ x.f0.length c0_) from congrArg (fun l => l[0]?) he)) with ha_ _ _; rw [ha_]; exact g0_)⟩
theorem k25_mkF (W : World) (ok : Nat → Prop) (x : S25) {A0 : Option Addr} {c0 : Nat} (l0 : x.f0.length ≤ c0) (g0 : Kd.F k33 W ok A0 x.f0.length x.f0) : Kd.FK k25 W ok x [.slice A0 x.f0.length c0] := fun W2 hW => k25_mk W2 x l0 (g0 W2 hW)
def rd_T25 (xs : List S25) (i : Int) : S25 := xs.getD i.toNat z25
theorem at_T25 {w : World} {A : Option Addr} {n : Nat} {xs : List S25} (h : Kd.C k25 w A n xs) (i : Int) (h0 : 0 ≤ i) (h1 : i < n) : ∃ ad A0 c0, A = some ad ∧ w.cell? (ad.add i.toNat) = some (.slice A0 (rd_T25 xs i).f0.length c0) ∧ (rd_T25 xs i).f0.length ≤ c0 ∧ k33.C w A0 (rd_T25 xs i).f0.length (rd_T25 xs i).f0 := by
 obtain ⟨ad, c, e, _, hK, hc0⟩ := Kd.C_get h z25 i h0 h1
 have hc : ∀ j u, c[j]? = some u → w.cell? (ad.add (i.toNat * 1 + j)) = some u := hc0
 obtain ⟨A0, c0, rfl, l0, g0⟩ := k25_open hK
 exact ⟨ad, A0, c0, e, by have hq := hc 0 _ rfl; rwa [Nat.mul_one, Nat.add_zero] at hq, l0, g0⟩
def refs_find.ren : Go.Shelf.Ren := ⟨fun | 16 => 38 | n => n, fun | 35 => 64 | 38 => 66 | n => n, fun n => n⟩
theorem refs_find.laid : Go.Proofs.SlLaysO.n16 Try.prog refs_find.ren :=
 { mixed := by kernel_rfl, f16 := by kernel_rfl, t3 := by kernel_rfl, a3 := fun _ => by kernel_rfl, z3 := fun _ => by kernel_rfl, v3 := fun _ => by kernel_rfl, t4 := by kernel_rfl, a4 := fun _ => by kernel_rfl, z4 := fun _ => by kernel_rfl, v4 := fun _ => by kernel_rfl, t35 := by kernel_rfl, a35 := fun _ => by kernel_rfl, z35 := fun _ => by kernel_rfl, v35 := fun _ => by kernel_rfl, t38 := by kernel_rfl, a38 := fun _ => by kernel_rfl, z38 := fun _ => by kernel_rfl, v38 := fun _ => by kernel_rfl }
set_option maxHeartbeats 2000000 in
theorem refs_find.closure (ba bx c0 : Nat) (A0 : Option Addr) (l0 : List S33) (x : Int) (i : Nat) (W : World) (hi : i < l0.length)
 (ha : W.cell? ⟨ba, 0, none⟩ = some (.slice A0 l0.length c0)) (hx : W.cell? ⟨bx, 0, none⟩ = some (.int .i64 x)) (hr : Kd.C k33 W A0 l0.length l0) :
 Calls Try.prog 39 (#[.int .i64 i] ++ #[.pointer (some ⟨ba, 0, none⟩), .pointer (some ⟨bx, 0, none⟩)]) W fun e w' => e = .returned (.bool (decide (x ≤ (rd_T33 l0 i).f0))) ∧ ∃ q, w' = W.drewN q := by
 obtain ⟨ad, rfl, hc, _, _⟩ := at_T33 hr (i : Int) (by omega) (by omega); rw [Int.toNat_natCast] at hc; clear hr; generalize (rd_T33 l0 i).f0 = y at hc ⊢; (have hiz : (i : Int) < (l0.length : Int) := by omega); go_enter Try.func39, Try.ntmps39; go_wp2; go_region
 all_goals go_wp2
 all_goals go_ret
 all_goals exact ⟨by first | rfl | simp, 1, rfl⟩
def refs_find.cnt (l0 : List S33) (d : Int) : Nat := (List.range l0.length).countP (fun i => !decide (d ≤ (rd_T33 l0 (i : Nat)).f0))
def refs_find.f (l0 : List S33) (a1 : Int) : Option (Int × Bool) :=
 if l0.length < 4611686018427387904 ∧ (List.range l0.length).all (fun i => decide (i < refs_find.cnt l0 a1) == !decide (a1 ≤ (rd_T33 l0 (i : Nat)).f0)) = true then
  some ((refs_find.cnt l0 a1 : Int), decide (refs_find.cnt l0 a1 < l0.length) && ((rd_T33 l0 (refs_find.cnt l0 a1 : Nat)).f0 == a1)) else none
set_option maxHeartbeats 4000000 in
theorem refs_find.calls (A0 : Option Addr) (c0 : Nat) (l0 : List (S33)) (a1 : Int) (r1 : Int) (r2 : Bool) (w : World) (hr0 : Kd.C k33 w A0 l0.length l0) (hc0 : l0.length ≤ c0) (h : refs_find.f l0 a1 = some (r1, r2)) :
 Calls Try.prog 30 #[.slice A0 l0.length c0, .int .i64 a1] w fun e w' => e = .returned (.tuple #[.int .i64 r1, .bool r2]) ∧ Below w.heap.size w w' := by
 unfold refs_find.f at h; obtain ⟨n, hn⟩ : ∃ n, n = refs_find.cnt l0 a1 := ⟨_, rfl⟩; rw [← hn] at h
 have hN : n ≤ l0.length := by
  rw [hn]; unfold refs_find.cnt; have := List.countP_le_length (p := fun i => !decide (a1 ≤ (rd_T33 l0 (i : Nat)).f0)) (l := List.range l0.length)
  rwa [List.length_range] at this
 split at h
 ·rename_i hif
  obtain ⟨hmax, hall⟩ := hif; injection h with h; injection h with h1 h2; subst h1
  have hp : ∀ i, i < l0.length → (decide (a1 ≤ (rd_T33 l0 (i : Nat)).f0) = true ↔ ¬ i < n) := by
   intro i hi; have := List.all_eq_true.mp hall i (List.mem_range.mpr hi)
   by_cases c : i < n <;> by_cases c2 : a1 ≤ (rd_T33 l0 (i : Nat)).f0
   ·rw [decide_eq_true c, decide_eq_true c2] at this
    exact absurd this (by decide)
   ·simp [c, c2]
   ·simp [c, c2]
   ·rw [decide_eq_false c, decide_eq_false c2] at this
    exact absurd this (by decide)
  obtain ⟨W0, hW0⟩ : ∃ W0, W0 = (w.alloc (.cells #[.slice A0 l0.length c0] 23)).alloc (.cells #[a1] 3) := ⟨_, rfl⟩; (have hsize : W0.heap.size = w.heap.size + 1 + 1 := by rw [hW0]; simp); (have ca : W0.cell? ⟨w.heap.size, 0, none⟩ = some (.slice A0 l0.length c0) := by rw [hW0]; exact cell_alloc_sl _ (cell_new_sl w _ _)); (have cx : W0.cell? ⟨w.heap.size + 1, 0, none⟩ = some (.int .i64 a1) := by rw [hW0]; have := cell_new_sl (w.alloc (.cells #[.slice A0 l0.length c0] 23)) (a1) 3; rwa [World.size_alloc] at this); (have hB0 : Below w.heap.size w W0 := by rw [hW0]; exact ((Below.refl _ w).alloc (Nat.le_refl _) _).alloc (by simp) _)
  have hr1 : Kd.C k33 W0 A0 l0.length l0 := by
   rw [hW0]; exact Kd.C_alloc (Kd.C_alloc hr0 _) _
  have eg : ∀ args w, (callFunc 39 args).run Try.prog w = .ok (.enter 39 args) w := enters_of Try.func39 (by kernel_rfl) rfl
  have hS := Any.sort_Search refs_find.laid 39 #[.pointer (some ⟨w.heap.size, 0, none⟩), .pointer (some ⟨w.heap.size + 1, 0, none⟩)] l0.length (fun i => decide (a1 ≤ (rd_T33 l0 (i : Nat)).f0)) W0 eg hmax
   (fun m os i hi => (refs_find.closure w.heap.size (w.heap.size + 1) c0 A0 l0 a1 i _ hi (cell_grown (by simp [hsize]; omega) ca m os) (cell_grown (by simp [hsize]) cx m os) (Kd.C_below hr1 (below_grown_sl W0.heap.size W0 m os (Nat.le_refl _)))).mono
    fun _ _ ⟨he, q, hq⟩ => ⟨he, q, #[], by rw [hq, Go.Sort.grow_empty]⟩) (fun a b hab hb h => by
     have ha := hp a (by omega); have hb' := hp b hb; rw [hb']; rw [ha] at h; omega)
  have hcnt : (List.range l0.length).countP (fun i => !decide (a1 ≤ (rd_T33 l0 (i : Nat)).f0)) = n := hn.symm; rw [hcnt] at hS
  change Calls Try.prog 38 _ _ _ at hS
  clear hp hall hcnt
  by_cases c : n < l0.length
  ·obtain ⟨ad, e1, hc, _, _⟩ := at_T33 hr1 (n : Int) (by omega) (by omega)
   subst e1; rw [Int.toNat_natCast] at hc; (have h2' : ((rd_T33 l0 (n : Nat)).f0 == a1) = r2 := by rw [← h2, decide_eq_true c]; rfl); clear h2 hr0 hr1 hn; generalize (rd_T33 l0 (n : Nat)).f0 = y at hc h2'; (have hiz : (n : Int) < (l0.length : Int) := by omega); subst h2'; go_enter Try.func30, Try.ntmps30; go_wp2_with (go_at_call 38; rw [← hW0]; refine hS.mono ?_; rintro e w' ⟨rfl, q, os, rfl⟩); have ca1 := cell_grown (by simp [hsize]; omega) ca q os; have cx1 := cell_grown (by simp [hsize]) cx q os; have hc1 := cell_grown (World.block_lt_of_cell? _ _ hc) hc q os; have hB1 := hB0.trans (below_grown_sl w.heap.size W0 q os (by omega)); have hd1 : decide ((n : Int) < (l0.length : Int)) = true := decide_eq_true hiz; have hd2 : decide (n < l0.length) = true := decide_eq_true c; rw [← hW0]; generalize Go.Sort.grow (W0.drewN q) os = W1 at ca1 cx1 hc1 hB1 ⊢; have HB1 := As hB1; clear hB1 hB0 ca cx hc eg hsize hW0 hS c; go_quiet (fail); go_wp2; go_ret2; exact ⟨rfl, by repeat (first | exact HB1.out | apply uA | apply uN | apply uD)⟩
  ·obtain rfl : n = l0.length := by omega
   (have h2' : false = r2 := by rw [← h2, decide_eq_false (by omega)]; rfl); clear h2 hr0 hr1 hn; (have hiz : ¬ (l0.length : Int) < (l0.length : Int) := by omega); subst h2'; go_enter Try.func30, Try.ntmps30; go_wp2_with (go_at_call 38; rw [← hW0]; refine hS.mono ?_; rintro e w' ⟨rfl, q, os, rfl⟩); have ca1 := cell_grown (by simp [hsize]; omega) ca q os; have cx1 := cell_grown (by simp [hsize]) cx q os; have hB1 := hB0.trans (below_grown_sl w.heap.size W0 q os (by omega)); have hd1 : decide ((l0.length : Int) < (l0.length : Int)) = false := decide_eq_false (by omega); have hd2 : decide (l0.length < l0.length) = false := decide_eq_false (by omega); rw [← hW0]; generalize Go.Sort.grow (W0.drewN q) os = W1 at ca1 cx1 hB1 ⊢; have HB1 := As hB1; clear hB1 hB0 ca cx eg hsize hW0 hS c; go_quiet (fail); go_wp2; go_ret2; exact ⟨rfl, by repeat (first | exact HB1.out | apply uA | apply uN | apply uD)⟩
 ·cases h
def ref09_find.l0 : Nat → Int → List (S33) → Int → Int → List (S33) → Option (Int × Bool)
 | 0, _, _, _, _, _ => none
 | k + 1, x1, x9, x10, x11, x192000 => if x11 < x10 then (if 0 ≤ x11 then (if x11 < (x9.length : Int) then (if ((rd_T33 x9 x11).f0) ≥ x1 then (some (x11, (((rd_T33 x9 x11).f0) == x1))) else (ref09_find.l0 k x1 x9 x10 (wrap64 (x11 + 1)) x192000)) else (none)) else (none)) else (some ((x192000.length : Int), false))
def ref09_find.f (k : Nat) (l0_0 : List (S33)) (a1 : Int) : Option (Int × Bool) := ref09_find.l0 k a1 l0_0 (l0_0.length : Int) 0 l0_0
set_option maxHeartbeats 8000000 in
set_option maxRecDepth 100000 in
theorem ref09_find.calls (k : Nat) (A0_0 : Option Addr) (c0_0 : Nat) (l0_0 : List (S33)) (a1 : Int) (r1 : Int) (r2 : Bool) (w : World) (hr0_0 : Kd.C k33 w A0_0 l0_0.length l0_0) (hc0_0 : l0_0.length ≤ c0_0) (h : ref09_find.f k l0_0 a1 = some (r1, r2)) :
 Calls Try.prog 37 #[.agg #[.slice A0_0 l0_0.length c0_0], .int .i64 a1] w fun e w' => e = .returned (.tuple #[.int .i64 r1, .bool r2]) ∧ Below w.heap.size w w' := by
 have hu25 := Try.underlying25; have hu33 := Try.underlying33; have HR0_0 := As hr0_0; have HC0_0 := As hc0_0; clear hr0_0 hc0_0; have HB := As (Below.refl w.heap.size w); have H : (ref09_find.l0 k a1 l0_0 (l0_0.length : Int) 0 l0_0) = some (r1, r2) := h; clear h; have H' := As H; clear H; go_enter Try.func37, Try.ntmps37; go_wp2_with (first | ((with_reducible refine gate_dst (N := 2) rfl ?_); refine bxE 2 #[.slice A0_0 l0_0.length c0_0] 25 ?_; intro a2_ hg w3 hbox hb; have a1_ := As (hbox); have b0_ := As (by rw [hg]; exact (below_size hBq) : w.heap.size ≤ a2_); replace HB := sBq hb; have b5_ := b0_; clear hb hbox hg; have b2_ : w3.cell? ⟨a2_, 0, none⟩ = some (.slice A0_0 l0_0.length c0_0) := (blk_cell a1_.out 0).trans rfl; have b3_ := blk_frozen a1_.out 0))
 (repeat (go_quiet (first | ((with_reducible refine gate_dst (N := 2) rfl ?_); refine bxE 2 #[.slice A0_0 l0_0.length c0_0] 25 ?_; intro a2_ hg w3 hbox hb; have a1_ := As (hbox); have b0_ := As (by rw [hg]; exact (below_size hBq) : w.heap.size ≤ a2_); replace HB := sBq hb; have b5_ := b0_; clear hb hbox hg; have b2_ : w3.cell? ⟨a2_, 0, none⟩ = some (.slice A0_0 l0_0.length c0_0) := (blk_cell a1_.out 0).trans rfl; have b3_ := blk_frozen a1_.out 0)); try go_wp2_with (first | ((with_reducible refine gate_dst (N := 2) rfl ?_); refine bxE 2 #[.slice A0_0 l0_0.length c0_0] 25 ?_; intro a2_ hg w3 hbox hb; have a1_ := As (hbox); have b0_ := As (by rw [hg]; exact (below_size hBq) : w.heap.size ≤ a2_); replace HB := sBq hb; have b5_ := b0_; clear hb hbox hg; have b2_ : w3.cell? ⟨a2_, 0, none⟩ = some (.slice A0_0 l0_0.length c0_0) := (blk_cell a1_.out 0).trans rfl; have b3_ := blk_frozen a1_.out 0))))
 go_loopg [11] k (fun kq v11 w' => ∃ (a4_ : Int), v11 = .int .i64 a4_ ∧ Aside0 (ref09_find.l0 kq a1 l0_0 (l0_0.length : Int) a4_ l0_0 = some (r1, r2)) ∧ Aside0 (kq ≤ k) ∧ Aside0 (w'.heap[a2_]? = some (.cells #[(.slice A0_0 l0_0.length c0_0)] 25 (0, 0))) ∧ Aside0 (Below w.heap.size w w'))
 case atStart => exact ⟨(0), (by first | rfl | (simp; done) | (simp [*]; done)), H', ⟨Nat.le_refl _⟩, ⟨by refine plT ?_; exact a1_.out⟩, ⟨hBq⟩⟩
 case round =>
  clear H'; (try clear p2); (try clear c3); (try clear b2_); (try clear b3_); obtain ⟨a4_, rfl, HA, HK1, a1_, HB⟩ := hrel
  cases gk with
  | zero => exact absurd HA.out (by simp [ref09_find.l0])
  | succ k1 =>
   have H := HA.out; clear HA; simp only [ref09_find.l0] at H
   by_cases c5 : a4_ < (l0_0.length : Int)
   ·rw [if_pos c5] at H
    have c1_ : decide (a4_ < (l0_0.length : Int)) = true := decide_eq_true c5; clear c5
    by_cases c6 : 0 ≤ a4_
    ·rw [if_pos c6] at H
     have c5_ : decide (0 ≤ a4_) = true := decide_eq_true c6; clear c6
     by_cases c7 : a4_ < (l0_0.length : Int)
     ·rw [if_pos c7] at H
      have c6_ : decide (a4_ < (l0_0.length : Int)) = true := decide_eq_true c7; clear c7
      by_cases c8 : ((rd_T33 l0_0 a4_).f0) ≥ a1
      ·rw [if_pos c8] at H
       have c2_ : decide (a1 ≤ ((rd_T33 l0_0 a4_).f0)) = true := decide_eq_true c8; clear c8; simp only [Option.some.injEq, Prod.mk.injEq] at H; obtain ⟨rfl, rfl⟩ := H; have a8_ : 0 ≤ (a4_ : Int) := dq; have a9_ : a4_ < (l0_0.length : Int) := dq; obtain ⟨c0_, b4_, _, _, _⟩ := at_T33 (Kd.C_below HR0_0.out HB.out) a4_ a8_ a9_; cases b4_; replace a8_ := eq_true a8_; replace a9_ := eq_true a9_
       go_wp2_with (first | ((with_reducible refine gate_dst (N := 7) rfl ?_); refine bxE 7 #[.int .i64 0, .int .i64 0, .string (⟨#[]⟩ : ByteArray)] 33 ?_; intro a5_ hg w9 hbox hb; have a6_ := As (hbox); have a7_ := As (by rw [hg]; exact (below_size hBq) : w.heap.size ≤ a5_); replace HB := sBq hb; have b1_ := a7_; have a0_ := As (by rw [hg]; exact Nat.ne_of_lt (blk_lt (g := a2_) (plq a1_.out)) : a2_ ≠ a5_); replace a1_ := As (blk_below (plq a1_.out) hb); have a3_ := As a0_.out.symm; clear hb hbox hg; have b6_ := a3_.out; have b7_ := a0_.out; have := cf3 a6_.out))
       (repeat (go_quiet (first | ((with_reducible refine gate_dst (N := 7) rfl ?_); refine bxE 7 #[.int .i64 0, .int .i64 0, .string (⟨#[]⟩ : ByteArray)] 33 ?_; intro a5_ hg w9 hbox hb; have a6_ := As (hbox); have a7_ := As (by rw [hg]; exact (below_size hBq) : w.heap.size ≤ a5_); replace HB := sBq hb; have b1_ := a7_; have a0_ := As (by rw [hg]; exact Nat.ne_of_lt (blk_lt (g := a2_) (plq a1_.out)) : a2_ ≠ a5_); replace a1_ := As (blk_below (plq a1_.out) hb); have a3_ := As a0_.out.symm; clear hb hbox hg; have b6_ := a3_.out; have b7_ := a0_.out; have := cf3 a6_.out)); try go_wp2_with (first | ((with_reducible refine gate_dst (N := 7) rfl ?_); refine bxE 7 #[.int .i64 0, .int .i64 0, .string (⟨#[]⟩ : ByteArray)] 33 ?_; intro a5_ hg w9 hbox hb; have a6_ := As (hbox); have a7_ := As (by rw [hg]; exact (below_size hBq) : w.heap.size ≤ a5_); replace HB := sBq hb; have b1_ := a7_; have a0_ := As (by rw [hg]; exact Nat.ne_of_lt (blk_lt (g := a2_) (plq a1_.out)) : a2_ ≠ a5_); replace a1_ := As (blk_below (plq a1_.out) hb); have a3_ := As a0_.out.symm; clear hb hbox hg; have b6_ := a3_.out; have b7_ := a0_.out; have := cf3 a6_.out))))
       go_ret2; exact ⟨erq, hBq⟩
      ·rw [if_neg c8] at H
       have c2_ : decide (a1 ≤ ((rd_T33 l0_0 a4_).f0)) = false := decide_eq_false c8; clear c8; have H' := As H; clear H; have a8_ : 0 ≤ (a4_ : Int) := dq; have a9_ : a4_ < (l0_0.length : Int) := dq; obtain ⟨c0_, b4_, _, _, _⟩ := at_T33 (Kd.C_below HR0_0.out HB.out) a4_ a8_ a9_; cases b4_; replace a8_ := eq_true a8_; replace a9_ := eq_true a9_
       go_wp2_with (first | ((with_reducible refine gate_dst (N := 7) rfl ?_); refine bxE 7 #[.int .i64 0, .int .i64 0, .string (⟨#[]⟩ : ByteArray)] 33 ?_; intro a5_ hg w12 hbox hb; have a6_ := As (hbox); have a7_ := As (by rw [hg]; exact (below_size hBq) : w.heap.size ≤ a5_); replace HB := sBq hb; have b1_ := a7_; have a0_ := As (by rw [hg]; exact Nat.ne_of_lt (blk_lt (g := a2_) (plq a1_.out)) : a2_ ≠ a5_); replace a1_ := As (blk_below (plq a1_.out) hb); have a3_ := As a0_.out.symm; clear hb hbox hg; have b8_ := a3_.out; have b9_ := a0_.out; have := cf3 a6_.out))
       (repeat (go_quiet (first | ((with_reducible refine gate_dst (N := 7) rfl ?_); refine bxE 7 #[.int .i64 0, .int .i64 0, .string (⟨#[]⟩ : ByteArray)] 33 ?_; intro a5_ hg w12 hbox hb; have a6_ := As (hbox); have a7_ := As (by rw [hg]; exact (below_size hBq) : w.heap.size ≤ a5_); replace HB := sBq hb; have b1_ := a7_; have a0_ := As (by rw [hg]; exact Nat.ne_of_lt (blk_lt (g := a2_) (plq a1_.out)) : a2_ ≠ a5_); replace a1_ := As (blk_below (plq a1_.out) hb); have a3_ := As a0_.out.symm; clear hb hbox hg; have b8_ := a3_.out; have b9_ := a0_.out; have := cf3 a6_.out)); try go_wp2_with (first | ((with_reducible refine gate_dst (N := 7) rfl ?_); refine bxE 7 #[.int .i64 0, .int .i64 0, .string (⟨#[]⟩ : ByteArray)] 33 ?_; intro a5_ hg w12 hbox hb; have a6_ := As (hbox); have a7_ := As (by rw [hg]; exact (below_size hBq) : w.heap.size ≤ a5_); replace HB := sBq hb; have b1_ := a7_; have a0_ := As (by rw [hg]; exact Nat.ne_of_lt (blk_lt (g := a2_) (plq a1_.out)) : a2_ ≠ a5_); replace a1_ := As (blk_below (plq a1_.out) hb); have a3_ := As a0_.out.symm; clear hb hbox hg; have b8_ := a3_.out; have b9_ := a0_.out; have := cf3 a6_.out))))
       go_roundg k1
       case measure => have := HK1.out; omega
       case rel => exact ⟨(wrap64 (a4_ + 1)), (by first | rfl | (simp; done) | (simp [*]; done)), H', ⟨by have := HK1.out; omega⟩, ⟨by (iterate 3 (refine plT ?_; refine blk_far ?_ a0_.out _)); refine plT ?_; exact a1_.out⟩, ⟨hBq⟩⟩
     ·rw [if_neg c7] at H
      exact absurd H (by simp)
    ·rw [if_neg c6] at H
     exact absurd H (by simp)
   ·rw [if_neg c5] at H
    have c1_ : decide (a4_ < (l0_0.length : Int)) = false := decide_eq_false c5; clear c5; simp only [Option.some.injEq, Prod.mk.injEq] at H; obtain ⟨rfl, rfl⟩ := H; have c3_ : wr.cell? ⟨a2_, 0, none⟩ = some (.slice A0_0 l0_0.length c0_0) := (blk_cell a1_.out 0).trans rfl; have c4_ := blk_frozen a1_.out 0; go_wp2; (repeat (go_quiet (fail); try go_wp2)); go_ret2; exact ⟨erq, hBq⟩
def api_Row_33.enc (x : S33) : List Value := [.int .i64 x.f0, .int .i64 x.f1, .string x.f2]
theorem api_Row_33.isFlat : Flat k33 api_Row_33.enc := ⟨fun _ => rfl, fun h => k33_openM h, fun w base ok x => k33_mkM w base ok x, by decide⟩
theorem api_Row_33.encK {W : World} {x : S33} {cs : List Value} (h : k33.K W x cs) : cs = api_Row_33.enc x := k33_open h
def api_Row_33.f (l0 : List (S33)) (a1 : Int) (a2 : Int) : Option (List (S33)) := if 0 ≤ a1 ∧ a1 ≤ a2 ∧ a2 ≤ (l0.length : Int) then some (l0.take a1.toNat ++ l0.drop a2.toNat) else none
theorem api_Row_33.zero (W : World) : (zeroValue 33).run Try.prog W = .ok (.agg #[(.int .i64 0), (.int .i64 0), (.string ⟨#[]⟩)]) W := by kernel_rfl
set_option maxHeartbeats 8000000 in
set_option maxRecDepth 100000 in
theorem api_Row_33.same (u : Value) (n i : Nat) (g : Option Nat) (cap : Nat) (w : World) (hi : i ≤ n) (hc : n ≤ cap) (hcm : cap ≤ 9223372036854775807) (hu : u = .slice (g.map fun b => ⟨b, 0, none⟩) n cap) (h0 : g = none → n = 0 ∧ cap = 0) :
 Calls Try.prog 33 #[u, .int .i64 i, .int .i64 i] w fun e w' => e = .returned u ∧ w = w' := by
 subst hu; (have hic : i ≤ cap := by omega)
 cases g with
 | none =>
  obtain ⟨rfl, rfl⟩ := h0 rfl; (obtain rfl : i = 0 := by omega); clear h0; go_enter Try.func33, Try.ntmps33; go_wp2; go_ret
  exact ⟨rfl, rfl⟩
 | some b =>
  clear h0; go_enter Try.func33, Try.ntmps33; go_wp2
  all_goals (go_ret; exact ⟨rfl, rfl⟩)
set_option maxHeartbeats 8000000 in
set_option maxRecDepth 100000 in
theorem api_Row_33.shift (g n cap i j : Nat) (cur news : List Value) (w : World) (hH : w.heap[g]? = some (.cells cur.toArray 33 (0, 0))) (hcap : n ≤ cap) (hm : cap ≤ 9223372036854775807) (hij : i < j) (hj : j ≤ n) (hl : cur.length = cap * 3)
 (hnews : news = (cur.drop (j * 3)).take ((n - j) * 3)) (hone : ∀ u ∈ news, u.oneCell' = true) :
 Calls Try.prog 33 #[.slice (some ⟨g, 0, none⟩) n cap, .int .i64 i, .int .i64 j] w fun e w' => e = .returned (.slice (some ⟨g, 0, none⟩) (i + (n - j)) cap) ∧ Aside0 (w.grownBy w' (some g) ∧ ∃ cur' : List Value, w'.heap[g]? = some (.cells cur'.toArray 33 (0, 0)) ∧ cur'.length = cap * 3 ∧ cur'.take ((i + (n - j)) * 3) = cur.take (i * 3) ++ news) := by
 obtain ⟨i0, hi, hz0, hz1, hz2⟩ := info_parts info33; (have hlen : news.length = (n - j) * 3 := by rw [hnews, List.length_take, List.length_drop, hl]; omega)
 obtain ⟨A, hA, hsrc⟩ : ∃ A : Addr, (if cap = j then some (⟨g, 0, none⟩ : Addr) else some ⟨g, j * 3, none⟩) = some A ∧ Hid (∀ t u, news[t]? = some u → w.drew.cell? (A.add t) = some u) := by
  by_cases h : cap = j
  ·refine ⟨⟨g, 0, none⟩, by simp [h], fun t u hu => ?_⟩
   (have h0 : news.length = 0 := by rw [hlen]; omega); rw [List.length_eq_zero_iff.1 h0] at hu; simp at hu
  ·refine ⟨⟨g, j * 3, none⟩, by simp [h], fun t u hu => ?_⟩
   have ht : t < (n - j) * 3 := by
    have := (List.getElem?_eq_some_iff.1 hu).1
    rwa [hlen] at this
   rw [hnews, List.getElem?_take_of_lt ht, List.getElem?_drop] at hu; obtain ⟨hlt, hv⟩ := List.getElem?_eq_some_iff.1 hu; rw [Addr.add_lit]
   show w.cell? ⟨g, j * 3 + t, none⟩ = some u
   rw [cellAt hH _ hlt, hv]
 have s1 : Hid (news.length = (n - j) * 3) := hlen; have s2 : Hid (∀ u ∈ news, u.oneCell' = true) := hone
 have s3 : Hid (∀ t, t < news.length → (w.drew.cell? ⟨g, 0 + i * 3 + t, none⟩).isSome = true ∧ w.drew.frozen? ⟨g, 0 + i * 3 + t, none⟩ = false) := by
  intro t ht; rw [hlen] at ht; refine ⟨?_, frozenAt (w := w) hH _⟩
  show (w.cell? _).isSome = true
  rw [cellAt hH _ (by rw [hl]; omega)]; rfl
 obtain ⟨W1, hW1⟩ : ∃ W1, W1 = w.drew.setCells g (0 + i * 3) news := ⟨_, rfl⟩; (have hfit : i * 3 + news.length ≤ cur.length := by rw [hlen, hl]; omega)
 have hH1 : W1.heap[g]? = some (.cells (over cur (i * 3) news).toArray 33 (0, 0)) := by
  rw [hW1, Nat.zero_add]; exact setCells_heap (w := w.drew) hH _ _ hfit
 have hG1 : w.grownBy W1 (some g) := by
  rw [hW1, Nat.zero_add]; exact grown2 (grown_drew w _) (setCells_grown (w := w.drew) hH _ _ hfit)
 (have hl1 : (over cur (i * 3) news).length = cap * 3 := by rw [over_len _ _ _ hfit, hl]); have hzs : ((.agg #[(.int .i64 0), (.int .i64 0), (.string ⟨#[]⟩)]) : Value).cells.size = 3 := rfl; obtain ⟨zs, hzl, hcl⟩ := run_clear_row (P := Try.prog) hH1 23 33 (.agg #[(.int .i64 0), (.int .i64 0), (.string ⟨#[]⟩)]) Try.underlying23 (api_Row_33.zero W1) (by decide) ((i + (n - j)) * 3) (n - (i + (n - j))) (cap - (i + (n - j))) (by rw [hzs, hl1]; omega); rw [hzs] at hzl; (have hfit2 : (i + (n - j)) * 3 + zs.length ≤ (over cur (i * 3) news).length := by rw [hzl, hl1]; omega)
 have fin : Aside0 (w.grownBy (W1.setCells g ((i + (n - j)) * 3) zs) (some g) ∧ ∃ cur' : List Value, (W1.setCells g ((i + (n - j)) * 3) zs).heap[g]? = some (.cells cur'.toArray 33 (0, 0)) ∧ cur'.length = cap * 3 ∧ cur'.take ((i + (n - j)) * 3) = cur.take (i * 3) ++ news) := by
  refine ⟨grown2 hG1 (setCells_grown hH1 _ _ hfit2), _, setCells_heap hH1 _ _ hfit2, by rw [over_len _ _ _ hfit2, hl1], ?_⟩; rw [over_take _ _ _ (by rw [hl1]; omega), over_take2 _ _ _ _ (by rw [hl]; omega) (by rw [hlen]; omega)]
 have hW : Hid (W1 = w.drew.setCells g (0 + i * 3) news) := hW1; (have hic : i ≤ cap := by omega); (have hjc : j ≤ cap := by omega); (have hmc : i + (n - j) < cap := by omega); (have hmn : i + (n - j) ≤ n := by omega); clear hW1 hH1 hG1 hH hnews hlen hl hl1 hfit hfit2 hzl hzs hone hz0 hz2
 skip
 go_enter Try.func33, Try.ntmps33; go_wp2_with fail; go_region_law (refine step_append_room rfl (.tmp 22) (.tmp 25) 23 rfl 33 i0 3 Try.underlying23 hi hz1 g 0 i cap (by simp [Act.eval, Act.put]) A (n - j) (cap - j) news (by simp [Act.eval, Act.put]) s1.out hsrc.out s2.out (by omega) s3.out ?_; rw [← hW.out]); go_wp2; go_ret; exact ⟨rfl, fin⟩
set_option maxHeartbeats 8000000 in
theorem api_Row_33.calls (P0_ : Nat → Prop) (u9000_ : Value) (l0 : List (S33)) (a1 : Int) (a2 : Int) (r : List (S33)) (w0 w : World) (hB : Below w0.heap.size w0 w) (ho0 : Kd.R k33 33 w w0.heap.size P0_ u9000_ l0) (h : api_Row_33.f l0 a1 a2 = some r) :
 Calls Try.prog 33 #[u9000_, .int .i64 a1, .int .i64 a2] w fun e w' => ∃ v0_ : Value, e = .returned (v0_) ∧ Kd.R k33 33 w' w0.heap.size (fun k_ => (P0_ k_ ∨ w.heap.size ≤ k_)) v0_ r ∧ Below w0.heap.size w0 w' ∧ Kept w w' (fun k_ => P0_ k_) := by
 unfold api_Row_33.f at h
 by_cases hc : 0 ≤ a1 ∧ a1 ≤ a2 ∧ a2 ≤ (l0.length : Int)
 ·rw [if_pos hc] at h
  obtain rfl := Option.some.inj h; obtain ⟨h1, h2, h3⟩ := hc; obtain ⟨i, rfl⟩ := Int.eq_ofNat_of_zero_le h1; obtain ⟨j, rfl⟩ := Int.eq_ofNat_of_zero_le (Int.le_trans h1 h2); rw [Int.toNat_natCast, Int.toNat_natCast]; (have hij : i ≤ j := by omega); (have hj : j ≤ l0.length := by omega); have wide : Kd.R k33 33 w w0.heap.size (fun k_ => (P0_ k_ ∨ w.heap.size ≤ k_)) u9000_ l0 := Kd.R_mono ho0 (fun k hk => .inl hk); (rcases api_Row_33.isFlat.block ho0 with ⟨rfl, rfl⟩ | ⟨g, cap, cur, rfl, hg, hok, hH, hnc, hcm, hl, htk⟩)
  ·obtain rfl : j = 0 := by simpa using hj
   (obtain rfl : i = 0 := by omega); refine (api_Row_33.same (.slice none 0 0) 0 0 none 0 w (by omega) (by omega) (by omega) rfl (fun _ => ⟨rfl, rfl⟩)).mono ?_; rintro e w' ⟨rfl, rfl⟩; exact ⟨_, rfl, wide, hB, Kept.refl _ _⟩
  ·have hcm' : cap ≤ 9223372036854775807 := by simpa [maxLen] using hcm
   by_cases he : i = j
   ·subst he
    refine (api_Row_33.same (.slice (some ⟨g, 0, none⟩) l0.length cap) l0.length i (some g) cap w (by omega) hnc hcm' rfl (fun h => by cases h)).mono ?_; rintro e w' ⟨rfl, rfl⟩; rw [List.take_append_drop]; exact ⟨_, rfl, wide, hB, Kept.refl _ _⟩
   ·have hnews : flat api_Row_33.enc (l0.drop j) = (cur.drop (j * 3)).take ((l0.length - j) * 3) := by
     have e1 := api_Row_33.isFlat.flat_drop l0 j; rw [← e1, ← htk]
     show ((cur.take (l0.length * 3)).drop (j * 3)) = _
     rw [List.drop_take]
     congr 1
     omega
    refine (api_Row_33.shift g l0.length cap i j cur (flat api_Row_33.enc (l0.drop j)) w hH hnc hcm' (by omega) hj hl hnews (api_Row_33.isFlat.one w _)).mono ?_; rintro e w' ⟨rfl, ⟨hgr, cur', hH', hl', ht'⟩⟩; refine ⟨_, rfl, ?_, below_grown hB hgr hg, kept_grown hgr hok⟩; refine api_Row_33.isFlat.own (by rw [List.length_append, List.length_take, List.length_drop]; omega) hg (.inl hok) hH' (by omega) hcm hl' ?_
    have e2 : cur.take (i * 3) = flat api_Row_33.enc (l0.take i) := by
     rw [← api_Row_33.isFlat.flat_take l0 i, ← htk]
     show _ = ((cur.take (l0.length * 3)).take (i * 3))
     rw [List.take_take]
     congr 1
     omega
    rw [flat_append, ← e2]; exact ht'
 ·rw [if_neg hc] at h
  exact absurd h (by simp)
def law09_small.l0 : Nat → Int → List (S33) → Int → Int → Option (Bool)
 | 0, _, _, _, _ => none
 | k + 1, x3, x7, x8, x9 => if x9 < x8 then (if 0 ≤ x9 then (if x9 < (x7.length : Int) then (law09_small.l0 k (wrap64 (x3 + (wrap64 (1 + (((rd_T33 x7 x9).f2).size : Int))))) x7 x8 (wrap64 (x9 + 1))) else (none)) else (none)) else (some (decide (x3 < 3000)))
def law09_small.f (k : Nat) (l0_0 : List (S33)) : Option (Bool) := law09_small.l0 k 0 l0_0 (l0_0.length : Int) 0
set_option maxHeartbeats 8000000 in
set_option maxRecDepth 100000 in
theorem law09_small.calls (k : Nat) (A0_0 : Option Addr) (c0_0 : Nat) (l0_0 : List (S33)) (r : Bool) (w : World) (hr0_0 : Kd.C k33 w A0_0 l0_0.length l0_0) (hc0_0 : l0_0.length ≤ c0_0) (h : law09_small.f k l0_0 = some r) :
 Calls Try.prog 22 #[.agg #[.slice A0_0 l0_0.length c0_0]] w fun e w' => e = .returned (.bool r) ∧ Below w.heap.size w w' := by
 have hu25 := Try.underlying25; have hu33 := Try.underlying33; have HR0_0 := As hr0_0; have HC0_0 := As hc0_0; clear hr0_0 hc0_0; have HB := As (Below.refl w.heap.size w); have H : (law09_small.l0 k 0 l0_0 (l0_0.length : Int) 0) = some r := h; clear h; have H' := As H; clear H; go_enter Try.func22, Try.ntmps22; go_wp2_with (first | ((with_reducible refine gate_dst (N := 1) rfl ?_); refine bxE 1 #[.slice A0_0 l0_0.length c0_0] 25 ?_; intro a3_ hg w2 hbox hb; have a1_ := As (hbox); have b1_ := As (by rw [hg]; exact (below_size hBq) : w.heap.size ≤ a3_); replace HB := sBq hb; have b6_ := b1_; clear hb hbox hg; have a9_ : w2.cell? ⟨a3_, 0, none⟩ = some (.slice A0_0 l0_0.length c0_0) := (blk_cell a1_.out 0).trans rfl; have b0_ := blk_frozen a1_.out 0))
 go_loopg [3, 9] k (fun kq v3 v9 w' => ∃ (a4_ : Int) (a0_ : Int), v3 = .int .i64 a4_ ∧ v9 = .int .i64 a0_ ∧ Aside0 (law09_small.l0 kq a4_ l0_0 (l0_0.length : Int) a0_ = some r) ∧ Aside0 (kq ≤ k) ∧ Aside0 (w'.heap[a3_]? = some (.cells #[(.slice A0_0 l0_0.length c0_0)] 25 (0, 0))) ∧ Aside0 (Below w.heap.size w w'))
 case atStart => exact ⟨(0), (0), (by first | rfl | (simp; done) | (simp [*]; done)), (by first | rfl | (simp; done) | (simp [*]; done)), H', ⟨Nat.le_refl _⟩, ⟨by refine plT ?_; exact a1_.out⟩, ⟨hBq⟩⟩
 case round =>
  clear H'; (try clear c2); (try clear p2); (try clear a9_); (try clear b0_); obtain ⟨a4_, a0_, rfl, rfl, HA, HK1, a1_, HB⟩ := hrel
  cases gk with
  | zero => exact absurd HA.out (by simp [law09_small.l0])
  | succ k1 =>
   have H := HA.out; clear HA; simp only [law09_small.l0] at H
   by_cases c4 : a0_ < (l0_0.length : Int)
   ·rw [if_pos c4] at H
    have b4_ : decide (a0_ < (l0_0.length : Int)) = true := decide_eq_true c4; clear c4
    by_cases c5 : 0 ≤ a0_
    ·rw [if_pos c5] at H
     have b9_ : decide (0 ≤ a0_) = true := decide_eq_true c5; clear c5
     by_cases c6 : a0_ < (l0_0.length : Int)
     ·rw [if_pos c6] at H
      have c0_ : decide (a0_ < (l0_0.length : Int)) = true := decide_eq_true c6; clear c6; have H' := As H; clear H; have a6_ : 0 ≤ (a0_ : Int) := dq; have a7_ : a0_ < (l0_0.length : Int) := dq; obtain ⟨b7_, b5_, _, _, _⟩ := at_T33 (Kd.C_below HR0_0.out HB.out) a0_ a6_ a7_; cases b5_; replace a6_ := eq_true a6_; replace a7_ := eq_true a7_
      go_wp2_with (first | ((with_reducible refine gate_dst (N := 5) rfl ?_); refine bxE 5 #[.int .i64 0, .int .i64 0, .string (⟨#[]⟩ : ByteArray)] 33 ?_; intro a8_ hg w7 hbox hb; have b2_ := As (hbox); have b3_ := As (by rw [hg]; exact (below_size hBq) : w.heap.size ≤ a8_); replace HB := sBq hb; have b8_ := b3_; have a2_ := As (by rw [hg]; exact Nat.ne_of_lt (blk_lt (g := a3_) (plq a1_.out)) : a3_ ≠ a8_); replace a1_ := As (blk_below (plq a1_.out) hb); have a5_ := As a2_.out.symm; clear hb hbox hg; have c1_ := a5_.out; have c2_ := a2_.out; have := cf3 b2_.out))
      go_roundg k1
      case measure => have := HK1.out; omega
      case rel => exact ⟨(wrap64 (a4_ + (wrap64 (1 + (((rd_T33 l0_0 a0_).f2).size : Int))))), (wrap64 (a0_ + 1)), (by first | rfl | (simp; done) | (simp [*]; done)), (by first | rfl | (simp; done) | (simp [*]; done)), H', ⟨by have := HK1.out; omega⟩, ⟨by (iterate 3 (refine plT ?_; refine blk_far ?_ a2_.out _)); refine plT ?_; exact a1_.out⟩, ⟨hBq⟩⟩
     ·rw [if_neg c6] at H
      exact absurd H (by simp)
    ·rw [if_neg c5] at H
     exact absurd H (by simp)
   ·rw [if_neg c4] at H
    have b4_ : decide (a0_ < (l0_0.length : Int)) = false := decide_eq_false c4; clear c4; obtain rfl := Option.some.inj H; go_wp2; go_ret; exact ⟨erq, hBq⟩
def ref02_Sum.l0 : Nat → ByteArray → Int → Int → Option (Int)
 | 0, _, _, _ => none
 | k + 1, x0, x3, x4 => if x4 < (x0.size : Int) then (if 0 ≤ x4 then (ref02_Sum.l0 k x0 (Int.tmod (wrap64 ((wrap64 ((wrap64 (x3 * 1000003)) + (wrap64 (bt x0 x4)))) + 1)) 2147483647) (wrap64 (x4 + 1))) else (none)) else (some x3)
def ref02_Sum.f (k : Nat) (a0 : ByteArray) : Option (Int) := ref02_Sum.l0 k a0 1 0
set_option maxHeartbeats 8000000 in
set_option maxRecDepth 100000 in
theorem ref02_Sum.calls (k : Nat) (a0 : ByteArray) (r : Int) (w : World) (h : ref02_Sum.f k a0 = some r) :
 Calls Try.prog 36 #[.string a0] w fun e w' => e = .returned (.int .i64 r) ∧ Drawn0 w w' := by
 have H : (ref02_Sum.l0 k a0 1 0) = some r := h; clear h; have H' := As H; clear H; go_enter Try.func36, Try.ntmps36; go_wp2; go_loopg [3, 4] k (fun kq v3 v4 w' => ∃ (a1_ : Int) (a0_ : Int), v3 = .int .i64 a1_ ∧ v4 = .int .i64 a0_ ∧ Aside0 (ref02_Sum.l0 kq a0 a1_ a0_ = some r) ∧ Aside0 (kq ≤ k) ∧ Drawn0 w w')
 case atStart => exact ⟨(1), (0), (by first | rfl | (simp; done) | (simp [*]; done)), (by first | rfl | (simp; done) | (simp [*]; done)), H', ⟨Nat.le_refl _⟩, by repeat (first | exact Drawn0.refl _ | apply Drawn0.step)⟩
 case round =>
  clear H'; obtain ⟨a1_, a0_, rfl, rfl, HA, HK1, ⟨m1, rfl⟩⟩ := hrel
  cases gk with
  | zero => exact absurd HA.out (by simp [ref02_Sum.l0])
  | succ k1 =>
   have H := HA.out; clear HA; simp only [ref02_Sum.l0] at H
   by_cases c2 : a0_ < (a0.size : Int)
   ·rw [if_pos c2] at H
    have a2_ : decide (a0_ < (a0.size : Int)) = true := decide_eq_true c2; clear c2
    by_cases c3 : 0 ≤ a0_
    ·rw [if_pos c3] at H
     have a3_ : decide (0 ≤ a0_) = true := decide_eq_true c3; clear c3; have H' := As H; clear H; have p4 : 0 ≤ (a0_ : Int) := dq; have q4 : a0_ < (a0.size : Int) := dq; have hx4 := bt_at a0 a0_; replace p4 := eq_true p4; replace q4 := eq_true q4; go_wp2; go_roundg k1
     case measure => have := HK1.out; omega
     case rel => exact ⟨(Int.tmod (wrap64 ((wrap64 ((wrap64 (a1_ * 1000003)) + (wrap64 (bt a0 a0_)))) + 1)) 2147483647), (wrap64 (a0_ + 1)), (by first | rfl | (simp; done) | (simp [*]; done)), (by first | rfl | (simp; done) | (simp [*]; done)), H', ⟨by have := HK1.out; omega⟩, by repeat (first | exact Drawn0.refl _ | apply Drawn0.step)⟩
    ·rw [if_neg c3] at H
     exact absurd H (by simp)
   ·rw [if_neg c2] at H
    have a2_ : decide (a0_ < (a0.size : Int)) = false := decide_eq_false c2; clear c2; obtain rfl := Option.some.inj H; go_wp2; go_ret; exact ⟨by first | rfl | (simp; done) | (simp [*]; done), by repeat (first | exact Drawn0.refl _ | apply Drawn0.step)⟩
def make_Mod.f (a0 : Int) (a1 : Int) : Option (Int) := if a1 = 0 then (none) else (some (Int.tmod (wrap64 ((Int.tmod a0 a1) + a1)) a1))
set_option maxHeartbeats 8000000 in
set_option maxRecDepth 100000 in
theorem make_Mod.calls (a0 : Int) (a1 : Int) (r : Int) (w : World) (h : make_Mod.f a0 a1 = some r) :
 Calls Try.prog 35 #[.int .i64 a0, .int .i64 a1] w fun e w' => e = .returned (.int .i64 r) ∧ Drawn0 w w' := by
 have H : (if a1 = 0 then (none) else (some (Int.tmod (wrap64 ((Int.tmod a0 a1) + a1)) a1))) = some r := h; clear h
 by_cases c3 : a1 = 0
 ·rw [if_pos c3] at H
  exact absurd H (by simp)
 ·rw [if_neg c3] at H
  have a0_ : (a1 == 0) = false := beq_eq_false_iff_ne.mpr c3; have a1_ : (a1 != 0) = true := bne_iff_ne.mpr c3; obtain rfl := Option.some.inj H; go_enter Try.func35, Try.ntmps35; go_wp2; go_ret; exact ⟨by first | rfl | (simp; done) | (simp [*]; done), by repeat (first | exact Drawn0.refl _ | apply Drawn0.step)⟩
def make_Few.f (l0 : List Int) : Option (Bool) := some (decide ((l0.length : Int) ≤ 500))
set_option maxHeartbeats 8000000 in
set_option maxRecDepth 100000 in
theorem make_Few.calls (A0 : Option Addr) (c0 : Nat) (l0 : List Int) (r : Bool) (w : World) (hr0 : Kd.C (Kd.int .i64) w A0 l0.length l0) (hc0 : l0.length ≤ c0) (h : make_Few.f l0 = some r) :
 Calls Try.prog 13 #[.slice A0 l0.length c0] w fun e w' => e = .returned (.bool r) ∧ Drawn0 w w' := by
 have HR0 := As hr0; have HC0 := As hc0; clear hr0 hc0; have H : (some (decide ((l0.length : Int) ≤ 500))) = some r := h; clear h; obtain rfl := Option.some.inj H; go_enter Try.func13, Try.ntmps13; go_wp2; go_ret; exact ⟨by first | rfl | (simp; done) | (simp [*]; done), by repeat (first | exact Drawn0.refl _ | apply Drawn0.step)⟩
theorem eqA33 (d : Nat) (w : World) (x0 y0 : Int) (x1 y1 : Int) (x2 y2 : ByteArray) :
 (Op.equalIn (d + 2) 33 (.agg #[.int .i64 x0, .int .i64 x1, .string x2]) (.agg #[.int .i64 y0, .int .i64 y1, .string y2])).run Try.prog w = .ok (x0 == y0 && (x1 == y1 && (x2.toList == y2.toList))) w := by
 refine eqA_of Try.underlying33 (by kernel_rfl) ?_
 refine eqf_cons (by rfl) (by go_simp; rfl) (by go_simp; rfl) (by go_simp) ?_
 refine eqf_cons (by rfl) (by go_simp; rfl) (by go_simp; rfl) (by go_simp) ?_
 exact eqf_last (by rfl) (by go_simp; rfl) (by go_simp; rfl) (by go_simp)
def IsS57 (w0 W : World) (g : Nat) (f0 : List Int) (f1 : Int) : Prop := ∃ A0 c0, W.heap[g]? = some (.cells #[.slice A0 f0.length c0, .int .i64 f1] 57 (0, 0)) ∧ w0.heap.size ≤ g ∧ Kd.C (Kd.int .i64) w0 A0 f0.length f0
theorem IsS57.grown {w0 W : World} {g : Nat} {f0 : List Int} {f1 : Int} {W1 : World} {row : Option Nat} (h : IsS57 w0 W g f0 f1) (hw : W.grownBy W1 row) (hne : some g ≠ row) : IsS57 w0 W1 g f0 f1 := by
 obtain ⟨A0, c0, hb, hg, hr0⟩ := h; exact ⟨A0, c0, blk_grown hb hw hne, hg, hr0⟩
theorem IsS57.own_neN {w0 W : World} {g : Nat} {f0 : List Int} {f1 : Int} {α : Type} {d : Kd α} {e : Nat} {base : Nat} {ok : Nat → Prop} {v : Value} {xs : List α} (h : IsS57 w0 W g f0 f1) (ho : Kd.N d e W base ok v xs) (ht : e ≠ 57) : some g ≠ v.ownBlock := by
 obtain ⟨A0, c0, hb, hg, hr0⟩ := h; exact Kd.N_ne ho hb ht
theorem IsS57.fresh {w0 W : World} {g : Nat} {f0 : List Int} {f1 : Int} (h : IsS57 w0 W g f0 f1) : ∀ k, W.heap.size ≤ k → k ≠ g := by
 obtain ⟨A0, c0, hb, hg, hr0⟩ := h; exact Kd.freshB hb
theorem IsS57.kept {w0 W : World} {g : Nat} {f0 : List Int} {f1 : Int} {W1 : World} {S : Nat → Prop} (h : IsS57 w0 W g f0 f1) (hk : Kept W W1 S) (hne : ¬ S g) : IsS57 w0 W1 g f0 f1 := by
 obtain ⟨A0, c0, hb, hg, hr0⟩ := h; exact ⟨A0, c0, blk_kept hb hk hne, hg, hr0⟩
theorem IsS57.below {w0 W : World} {g : Nat} {f0 : List Int} {f1 : Int} {W1 : World} (h : IsS57 w0 W g f0 f1) (hw : Below W.heap.size W W1) : IsS57 w0 W1 g f0 f1 := h.grown (grown_of_below hw none) (by simp)
theorem IsS57.alloc {w0 W : World} {g : Nat} {f0 : List Int} {f1 : Int} (h : IsS57 w0 W g f0 f1) (o : Obj) : IsS57 w0 (W.alloc o) g f0 f1 := h.below (below_alloc (Below.refl _ _) o)
theorem IsS57.drewN {w0 W : World} {g : Nat} {f0 : List Int} {f1 : Int} (h : IsS57 w0 W g f0 f1) (m : Nat) : IsS57 w0 (W.drewN m) g f0 f1 := h
theorem IsS57.drew {w0 W : World} {g : Nat} {f0 : List Int} {f1 : Int} (h : IsS57 w0 W g f0 f1) : IsS57 w0 W.drew g f0 f1 := h
theorem IsS57.at_ {w0 W : World} {g : Nat} {f0 : List Int} {f1 : Int} {w' : World} {m : Nat} (hq : W.drewN m = w') (h : IsS57 w0 W g f0 f1) : IsS57 w0 w' g f0 f1 := by subst hq; exact IsS57.drewN h m
theorem IsS57.apart {w0 W : World} {g : Nat} {f0 : List Int} {f1 : Int} {α : Type} {d : Kd α} {e : Nat} {base : Nat} {ok : Nat → Prop} {v : Value} {xs : List α} (h : IsS57 w0 W g f0 f1) (ho : d.R e W base ok v xs) (ht : ∀ q, q ∈ e :: d.E → q ≠ 57) : d.R e W base (fun k => ok k ∧ k ≠ g) v xs := by
 obtain ⟨A0, c0, hb, hg, hr0⟩ := h; exact Kd.R_types ho hb ht
theorem IsS57.own_ne {w0 W : World} {g : Nat} {f0 : List Int} {f1 : Int} {α : Type} {d : Kd α} {e : Nat} {base : Nat} {ok : Nat → Prop} {v : Value} {xs : List α} (h : IsS57 w0 W g f0 f1) (ho : d.R e W base ok v xs) (ht : e ≠ 57) : some g ≠ v.ownBlock := by
 obtain ⟨A0, c0, hb, hg, hr0⟩ := h; exact Kd.R_ne ho hb ht
theorem IsS57.apartQ {w0 W : World} {g : Nat} {f0 : List Int} {f1 : Int} {α : Type} {d : Kd α} {e : Nat} {base : Nat} {ok : Nat → Prop} {v : Value} {xs : List α} (h : IsS57 w0 W g f0 f1) (ho : d.Q e W base ok v xs) (ht : ∀ q, q ∈ e :: d.E → q ≠ 57) : d.Q e W base (fun k => ok k ∧ k ≠ g) v xs := by
 obtain ⟨A0, c0, hb, hg, hr0⟩ := h; exact Kd.Q_types ho hb ht
theorem IsS57.own_neQ {w0 W : World} {g : Nat} {f0 : List Int} {f1 : Int} {α : Type} {d : Kd α} {e : Nat} {base : Nat} {ok : Nat → Prop} {v : Value} {xs : List α} (h : IsS57 w0 W g f0 f1) (ho : d.Q e W base ok v xs) (ht : e ≠ 57) : some g ≠ v.ownBlock := by
 obtain ⟨A0, c0, hb, hg, hr0⟩ := h; exact Kd.Q_ne ho hb ht
theorem IsS57.apartS {w0 W : World} {g : Nat} {f0 : List Int} {f1 : Int} {α : Type} {d : Kd α} {e : Nat} {base : Nat} {ok : Nat → Prop} {v : Value} {xs : List α} (h : IsS57 w0 W g f0 f1) (ho : d.S e W base ok v xs) (ht : ∀ q, q ∈ e :: d.E → q ≠ 57) : d.S e W base (fun k => ok k ∧ k ≠ g) v xs := by
 obtain ⟨A0, c0, hb, hg, hr0⟩ := h; exact Kd.S_types ho hb ht
theorem IsS57.own_neS {w0 W : World} {g : Nat} {f0 : List Int} {f1 : Int} {α : Type} {d : Kd α} {e : Nat} {base : Nat} {ok : Nat → Prop} {v : Value} {xs : List α} (h : IsS57 w0 W g f0 f1) (ho : d.S e W base ok v xs) (ht : e ≠ 57) : some g ≠ v.ownBlock := by
 obtain ⟨A0, c0, hb, hg, hr0⟩ := h; exact Kd.S_ne ho hb ht
theorem IsS57.lt {w0 W : World} {g : Nat} {f0 : List Int} {f1 : Int} (h : IsS57 w0 W g f0 f1) : g < W.heap.size := by
 obtain ⟨A0, c0, hb, hg, hr0⟩ := h; exact blk_lt hb
theorem IsS57.ge {w0 W : World} {g : Nat} {f0 : List Int} {f1 : Int} (h : IsS57 w0 W g f0 f1) : w0.heap.size ≤ g := by
 obtain ⟨A0, c0, hb, hg, hr0⟩ := h; exact hg
theorem IsS57.ne_blk {w0 W : World} {g : Nat} {f0 : List Int} {f1 : Int} {a : Nat} {cs : Array Value} {t : TypeId} {fr : Nat × Nat} (h : IsS57 w0 W g f0 f1) (hb2 : W.heap[a]? = some (.cells cs t fr)) (ht : t ≠ 57) : g ≠ a := by
 obtain ⟨A0, c0, hb, hg, hr0⟩ := h; rintro rfl; rw [hb] at hb2; injection hb2 with hb2; injection hb2 with _ ht2; exact ht ht2.symm
theorem IsS57.far {w0 W : World} {g : Nat} {f0 : List Int} {f1 : Int} {p : Addr} (h : IsS57 w0 W g f0 f1) (hne : g ≠ p.block) (u : Value) : IsS57 w0 (W.setCell p u) g f0 f1 := by
 obtain ⟨A0, c0, hb, hg, hr0⟩ := h; exact ⟨A0, c0, blk_far hb hne u, hg, hr0⟩
theorem cellS57_0 {W : World} {g : Nat} {A0 : Option Addr} {c0 : Nat} {f0 : List Int} {f1 : Int} (h : W.heap[g]? = some (.cells #[.slice A0 f0.length c0, .int .i64 f1] 57 (0, 0))) : W.cell? ⟨g, 0, none⟩ = some (.slice A0 f0.length c0) := (blk_cell h 0).trans rfl
theorem cellS57_1 {W : World} {g : Nat} {A0 : Option Addr} {c0 : Nat} {f0 : List Int} {f1 : Int} (h : W.heap[g]? = some (.cells #[.slice A0 f0.length c0, .int .i64 f1] 57 (0, 0))) : W.cell? ⟨g, 1, none⟩ = some (.int .i64 f1) := (blk_cell h 1).trans rfl
theorem IsS57.set_1 {w0 W : World} {g : Nat} {f0 : List Int} {f1 : Int} (h : IsS57 w0 W g f0 f1) (x : Int) : IsS57 w0 (W.setCell ⟨g, 1, none⟩ (.int .i64 x)) g f0 x := by
 obtain ⟨A0, c0, hb, hg, hr0⟩ := h; exact ⟨A0, c0, by simpa using blk_set hb 1 (.int .i64 x), hg, hr0⟩
theorem IsS57.new (w0 W : World) (A0 : Option Addr) (c0 : Nat) (f0 : List Int) (f1 : Int) (hB : Below w0.heap.size w0 W) (hr0 : Kd.C (Kd.int .i64) w0 A0 f0.length f0) : IsS57 w0 (W.alloc (.cells #[.slice A0 f0.length c0, .int .i64 f1] 57)) W.heap.size f0 f1 := ⟨A0, c0, by simpa using heap_alloc_new W _, hB.size, hr0⟩
def make_Deck_Next.f (s0_0 : List Int) (s0_1 : Int) (a1 : Int) : Option (Int × Int) := if a1 < 1 then (some (0, s0_1)) else (if s0_1 ≥ (s0_0.length : Int) then (some (0, s0_1)) else (if 0 ≤ s0_1 then (if s0_1 < (s0_0.length : Int) then ((make_Mod.f (rd s0_0 s0_1) a1).bind fun a0_ => (some (a0_, wrap64 (s0_1 + 1)))) else (none)) else (none)))
theorem make_Deck_Next.iq0F {w0 W : World} {g h j : Nat} {f0 : List Int} {f1 : Int} (h0 : IsS57 w0 W g f0 f1) (hne : Aside0 (g ≠ h)) (u : Value) : IsS57 w0 (W.setCell ⟨h, j, none⟩ u) g f0 f1 := IsS57.far h0 hne.out u
theorem make_Deck_Next.iq0 {w0 W : World} {g : Nat} {f0 : List Int} {f1 : Int} (h : IsS57 w0 W g f0 f1 := by repeat (first | (with_reducible first | exact HI0.out | apply IsS57.alloc | apply IsS57.drewN | apply IsS57.drew | apply IsS57.set_1 | refine make_Deck_Next.iq0F ?_ ‹_› _) | exact HI0.out)) : IsS57 w0 W g f0 f1 := h
theorem make_Deck_Next.bq0 {w W : World} (h : Below w.heap.size w W := by repeat (first | (with_reducible first | exact HB.out | apply uA | apply uN | apply uD | refine uS ?_ (IsS57.ge HI0.out) | refine uS2 ?_ ‹_›) | exact HB.out)) : Below w.heap.size w W := h
set_option maxHeartbeats 8000000 in
set_option maxRecDepth 100000 in
theorem make_Deck_Next.calls (g : Nat) (s0_0 : List Int) (s0_1 : Int) (a1 : Int) (r1 : Int) (r2 : Int) (w0 w : World) (hI : IsS57 w0 w g s0_0 s0_1) (hB : Below w0.heap.size w0 w) (h : make_Deck_Next.f s0_0 s0_1 a1 = some (r1, r2)) :
 Calls Try.prog 18 #[.pointer (some ⟨g, 0, none⟩), .int .i64 a1] w fun e w' => e = .returned (.int .i64 r1) ∧ IsS57 w0 w' g s0_0 r2 ∧ Below w0.heap.size w0 w' ∧ KeepBut w w' g none := by
 have HI0 := As hI; have HK := As (KeepBut.refl w g none); have HL := As hB.size; clear hI; have HW0 := As hB.size; have HB := As hB; clear hB; have H : (if a1 < 1 then (some (0, s0_1)) else (if s0_1 ≥ (s0_0.length : Int) then (some (0, s0_1)) else (if 0 ≤ s0_1 then (if s0_1 < (s0_0.length : Int) then ((make_Mod.f (rd s0_0 s0_1) a1).bind fun a0_ => (some (a0_, wrap64 (s0_1 + 1)))) else (none)) else (none)))) = some (r1, r2) := h; clear h
 by_cases c3 : a1 < 1
 ·rw [if_pos c3] at H
  have a4_ : decide (a1 < 1) = true := decide_eq_true c3; clear c3; simp only [Option.some.injEq, Prod.mk.injEq] at H; obtain ⟨rfl, rfl⟩ := H; go_enter Try.func18, Try.ntmps18; go_wp2; (repeat (go_quiet (fail); try go_wp2)); go_ret; exact ⟨erq, make_Deck_Next.iq0, make_Deck_Next.bq0, hKq⟩
 ·rw [if_neg c3] at H
  have a4_ : decide (a1 < 1) = false := decide_eq_false c3; clear c3
  by_cases c4 : s0_1 ≥ (s0_0.length : Int)
  ·rw [if_pos c4] at H
   have a5_ : decide ((s0_0.length : Int) ≤ s0_1) = true := decide_eq_true c4; clear c4; simp only [Option.some.injEq, Prod.mk.injEq] at H; obtain ⟨rfl, rfl⟩ := H; obtain ⟨ASz5_0, cSz5_0, HGz5, hgz5, HSz5_0⟩ := HI0.out; have a7_ := cellS57_0 HGz5; have a8_ := cellS57_1 HGz5; have a9_ := blk_frozen HGz5 1; clear HGz5 hgz5; go_enter Try.func18, Try.ntmps18; go_wp2; (repeat (go_quiet (fail); try go_wp2)); go_ret; exact ⟨erq, make_Deck_Next.iq0, make_Deck_Next.bq0, hKq⟩
  ·rw [if_neg c4] at H
   have a5_ : decide ((s0_0.length : Int) ≤ s0_1) = false := decide_eq_false c4; clear c4
   by_cases c6 : 0 ≤ s0_1
   ·rw [if_pos c6] at H
    have b4_ : decide (0 ≤ s0_1) = true := decide_eq_true c6; clear c6
    by_cases c7 : s0_1 < (s0_0.length : Int)
    ·rw [if_pos c7] at H
     have b5_ : decide (s0_1 < (s0_0.length : Int)) = true := decide_eq_true c7; clear c7; obtain ⟨a0_, A8, H⟩ := bnd H; (try dsimp only at H); simp only [Option.some.injEq, Prod.mk.injEq] at H; obtain ⟨rfl, rfl⟩ := H; obtain ⟨ASz9_0, cSz9_0, HGz9, hgz9, HSz9_0⟩ := HI0.out; have b0_ := cellS57_0 HGz9; have b1_ := cellS57_1 HGz9; have b2_ := blk_frozen HGz9 1; clear HGz9 hgz9; have a2_ : 0 ≤ (s0_1 : Int) := dq; have a3_ : s0_1 < (s0_0.length : Int) := dq; obtain ⟨b3_, a6_, a1_⟩ := Kd.at_int HSz9_0 s0_1 a2_ a3_; cases a6_; replace a1_ := pw_cell_below HB.out a1_; replace a2_ := eq_true a2_; replace a3_ := eq_true a3_; go_enter Try.func18, Try.ntmps18; go_wp2_with (first | (go_at_call 35; (with_reducible refine (make_Mod.calls (rd s0_0 s0_1) a1 a0_ _ A8.out).mono ?_); rintro e w' ⟨rfl, ⟨nd, rfl⟩⟩; (try first | exact ⟨rfl, _, World.drewN_drewN _ _ _⟩ | exact ⟨rfl, _, Eq.trans (World.drewN_drewN _ _ _) (congrArg (World.drewN _) (Nat.add_assoc _ _ _))⟩)))
     (repeat (go_quiet (first | (go_at_call 35; (with_reducible refine (make_Mod.calls (rd s0_0 s0_1) a1 a0_ _ A8.out).mono ?_); rintro e w' ⟨rfl, ⟨nd, rfl⟩⟩; (try first | exact ⟨rfl, _, World.drewN_drewN _ _ _⟩ | exact ⟨rfl, _, Eq.trans (World.drewN_drewN _ _ _) (congrArg (World.drewN _) (Nat.add_assoc _ _ _))⟩))); try go_wp2_with (first | (go_at_call 35; (with_reducible refine (make_Mod.calls (rd s0_0 s0_1) a1 a0_ _ A8.out).mono ?_); rintro e w' ⟨rfl, ⟨nd, rfl⟩⟩; (try first | exact ⟨rfl, _, World.drewN_drewN _ _ _⟩ | exact ⟨rfl, _, Eq.trans (World.drewN_drewN _ _ _) (congrArg (World.drewN _) (Nat.add_assoc _ _ _))⟩))))); go_ret; exact ⟨erq, make_Deck_Next.iq0, make_Deck_Next.bq0, hKq⟩
    ·rw [if_neg c7] at H
     exact absurd H (by simp)
   ·rw [if_neg c6] at H
    exact absurd H (by simp)
def api_Row_32.enc (x : S33) : List Value := [.int .i64 x.f0, .int .i64 x.f1, .string x.f2]
theorem api_Row_32.isFlat : Flat k33 api_Row_32.enc := ⟨fun _ => rfl, fun h => k33_openM h, fun w base ok x => k33_mkM w base ok x, by decide⟩
theorem api_Row_32.encK {W : World} {x : S33} {cs : List Value} (h : k33.K W x cs) : cs = api_Row_32.enc x := k33_open h
def api_Row_32.f (l0 : List (S33)) (a1 : Int) (l2 : List (S33)) : Option (List (S33)) := if 0 ≤ a1 ∧ a1 ≤ (l0.length : Int) ∧ 1 ≤ l2.length ∧ l0.length + l2.length < 4398046511104 then some (l0.take a1.toNat ++ l2 ++ l0.drop a1.toNat) else none
set_option maxHeartbeats 8000000 in
set_option maxRecDepth 100000 in
theorem api_Row_32.room (g n cap i m g2 cap2 : Nat) (cur cur2 cs news : List Value) (w : World) (hH : w.heap[g]? = some (.cells cur.toArray 33 (0, 0))) (hH2 : w.heap[g2]? = some (.cells cur2.toArray 33 (0, 0))) (hne : g2 ≠ g) (hnm : n + m ≤ cap) (hm : cap ≤ 9223372036854775807) (hi : i < n) (hm1 : 1 ≤ m)
 (hl : cur.length = cap * 3) (hl2 : m * 3 ≤ cur2.length) (hcs : cs = (cur.drop (i * 3)).take ((n - i) * 3)) (hnews : news = cur2.take (m * 3)) (h1c : ∀ u ∈ cs, u.oneCell' = true) (h1v : ∀ u ∈ news, u.oneCell' = true) :
 Calls Try.prog 32 #[.slice (some ⟨g, 0, none⟩) n cap, .int .i64 i, .slice (some ⟨g2, 0, none⟩) m cap2] w fun e w' => e = .returned (.slice (some ⟨g, 0, none⟩) (n + m) cap) ∧ Aside0 (w.grownBy w' (some g) ∧ ∃ cur' : List Value, w'.heap[g]? = some (.cells cur'.toArray 33 (0, 0)) ∧ cur'.length = cap * 3 ∧ cur'.take ((n + m) * 3) = cur.take (i * 3) ++ news ++ cs) := by
 obtain ⟨i0, hi0, hz0, hz1, hz2⟩ := info_parts info33; (have hsz : (Try.prog.info? 33).map (·.size) = some 3 := by rw [hi0]; simp [hz1]); (have hzo : ∀ w, (Go.sizeOf 33).run Try.prog w = .ok 3 w := fun W => by simp [Go.sizeOf, typeInfo, hi0, hz1]); (have hcl : cs.length = (n - i) * 3 := by rw [hcs, List.length_take, List.length_drop, hl]; omega); (have hvl : news.length = m * 3 := by rw [hnews, List.length_take]; omega)
 have hov : ∀ lb cb, (callFunc 40 #[.slice (some ⟨g2, 0, none⟩) m cap2, .slice (some ⟨g, (i + m) * 3, none⟩) lb cb]).run Try.prog w = .ok (.value (.bool false)) w := fun lb cb => by
  rw [run_callFunc_extern Try.func40 (by kernel_rfl) (by kernel_rfl) (by kernel_rfl) (e := Extern.SlicesOverlaps.overlaps #[23, 23] #[4]) (by kernel_rfl),
   Lib.run_overlaps_apart w 23 4 33 Try.underlying23 3 hzo ⟨g2, 0, none⟩ ⟨g, (i + m) * 3, none⟩ m cap2 lb cb hne 33 33 cur2.length cur.length (shapeAt hH2) (shapeAt hH) (by rw [hl]; omega) (frozenAt hH2 _) (frozenAt hH2 _)]
  rfl
 (have hfit1 : (i + m) * 3 + cs.length ≤ cur.length := by rw [hcl, hl]; omega)
 have hcp1 : ∀ ty dc sc, (Builtin.copy_ #[23, 23] ty #[.slice (some ⟨g, (i + m) * 3, none⟩) (n + m - (i + m)) dc, .slice (some ⟨g, i * 3, none⟩) (n + m - i) sc]).run Try.prog w.drew = .ok (goInt ((n - i : Nat) : Int)) (w.drew.setCells g ((i + m) * 3) cs) := fun ty dc sc => by
  (have hmin : Nat.min (n + m - i) (n + m - (i + m)) = n - i := by simp only [Nat.min_def]; split <;> omega)
  have := run_copy_rows (P := Try.prog) (w := w.drew) hH 23 23 ty 33 3 Try.underlying23 hsz ((i + m) * 3) (n + m - (i + m)) dc ⟨g, i * 3, none⟩ (n + m - i) sc cs (by rw [hmin, hcl]) (fun j v hj => by
   rw [Addr.add_lit]; (have ht : j < (n - i) * 3 := by rw [← hcl]; exact (List.getElem?_eq_some_iff.1 hj).1); rw [hcs, List.getElem?_take_of_lt ht, List.getElem?_drop] at hj; obtain ⟨hlt, hv⟩ := List.getElem?_eq_some_iff.1 hj
   show w.cell? ⟨g, i * 3 + j, none⟩ = some v
   rw [cellAt hH _ hlt, hv]) hfit1 h1c
  rw [hmin] at this; exact this
 obtain ⟨W1, hW1⟩ : ∃ W1, W1 = w.drew.setCells g ((i + m) * 3) cs := ⟨_, rfl⟩; (have hH1 : W1.heap[g]? = some (.cells (over cur ((i + m) * 3) cs).toArray 33 (0, 0)) := by rw [hW1]; exact setCells_heap (w := w.drew) hH _ _ hfit1); (have hG1 : w.grownBy W1 (some g) := by rw [hW1]; exact grown2 (grown_drew w _) (setCells_grown (w := w.drew) hH _ _ hfit1)); have hH12 : W1.heap[g2]? = some (.cells cur2.toArray 33 (0, 0)) := (hG1.block g2 (blk_lt hH2) (fun e => hne (by injection e))).trans hH2; (have hl1 : (over cur ((i + m) * 3) cs).length = cap * 3 := by rw [over_len _ _ _ hfit1, hl]); (have hfit2 : i * 3 + news.length ≤ (over cur ((i + m) * 3) cs).length := by rw [hvl, hl1]; omega)
 have hcp2 : ∀ ty dc, (Builtin.copy_ #[23, 23] ty #[.slice (some ⟨g, i * 3, none⟩) (n + m - i) dc, .slice (some ⟨g2, 0, none⟩) m cap2]).run Try.prog W1 = .ok (goInt m) (W1.setCells g (i * 3) news) := fun ty dc => by
  (have hmin : Nat.min m (n + m - i) = m := by simp only [Nat.min_def]; split <;> omega)
  have := run_copy_rows (P := Try.prog) hH1 23 23 ty 33 3 Try.underlying23 hsz (i * 3) (n + m - i) dc ⟨g2, 0, none⟩ m cap2 news (by rw [hmin, hvl]) (fun j v hj => by
   rw [Addr.add_lit]; (have ht : j < m * 3 := by rw [← hvl]; exact (List.getElem?_eq_some_iff.1 hj).1); rw [hnews, List.getElem?_take_of_lt ht] at hj; obtain ⟨hlt, hv⟩ := List.getElem?_eq_some_iff.1 hj; rw [Nat.zero_add, cellAt hH12 _ hlt, hv]) hfit2 h1v
  rw [hmin] at this; exact this
 have fin : Aside0 (w.grownBy (W1.setCells g (i * 3) news) (some g) ∧ ∃ cur' : List Value, (W1.setCells g (i * 3) news).heap[g]? = some (.cells cur'.toArray 33 (0, 0)) ∧ cur'.length = cap * 3 ∧ cur'.take ((n + m) * 3) = cur.take (i * 3) ++ news ++ cs) := by
  refine ⟨grown2 hG1 (setCells_grown hH1 _ _ hfit2), _, setCells_heap hH1 _ _ hfit2, by rw [over_len _ _ _ hfit2, hl1], ?_⟩
  have e1 : (over cur ((i + m) * 3) cs).take (i * 3) = cur.take (i * 3) := by
   unfold over; rw [List.append_assoc, List.take_append_of_le_length (by rw [List.length_take, hl]; omega), List.take_take]
   congr 1
   omega
  have e2 : ((over cur ((i + m) * 3) cs).drop (i * 3 + news.length)).take (cs.length) = cs := by
   unfold over; (have hx : i * 3 + news.length = (cur.take ((i + m) * 3)).length := by rw [List.length_take, hvl, hl]; omega); rw [List.append_assoc, hx, List.drop_left, List.take_left]
  unfold over at *; rw [e1, List.take_append, List.take_of_length_le (by rw [List.length_append, List.length_take, hvl, hl]; omega)]
  congr 1
  rw [List.length_append, List.length_take, hvl, hl]; (have hx : (n + m) * 3 - (min (i * 3) (cap * 3) + m * 3) = cs.length := by rw [hcl]; omega); rw [hx, ← hvl]; exact e2
 rw [← hW1] at hcp1; have hcm : cap ≤ 9223372036854775807 := hm; (have hic : i ≤ cap := by omega); (have him : i + m < cap := by omega); (have himn : i + m < n + m := by omega); (have hz1' : ¬ ((m : Int) = 0) := by omega); (have hz2' : ¬ ((i : Int) = (n : Int)) := by omega); (have hw1 : IntKind.i64.wrap ((i : Int) + (m : Int)) = (i : Int) + (m : Int) := by rw [IntKind.wrap_i64]; omega); (have hb1 : (0 : Int) ≤ (i : Int) + (m : Int) := by omega); (have hin : i ≤ n := by omega); (have htn : ((i : Int) + (m : Int)).toNat = i + m := by omega); (have hb2 : ¬ (cap = i + m) := by omega); (have hb3 : (i : Int) ≤ (n : Int) + (m : Int) := by omega); (have hb4 : ¬ (cap = i) := by omega); clear hW1 hH hH1 hG1 hH12 hH2 hl hl1 hl2 hfit1 hfit2 hcl hvl hcs hnews h1c h1v hz0 hz1 hz2 hsz hzo hne
 skip
 go_enter Try.func32, Try.ntmps32; go_wp2_with (simp only [hov]); go_region_law (refine step_copy_is rfl _ _ 23 23 rfl _ _ (by simp [Act.eval, Act.put]) (by simp [Act.eval, Act.put]) (hcp1 _ _ _) ?_); go_wp2_with (at_builtin; refine wpList_copy_is rfl _ _ 23 23 rfl _ _ rfl rfl (hcp2 _ _) ?_); go_ret; exact ⟨rfl, fin⟩
set_option maxHeartbeats 8000000 in
set_option maxRecDepth 100000 in
theorem api_Row_32.grow (g n cap i m g2 cap2 : Nat) (cur cur2 cs news : List Value) (w : World) (hH : w.heap[g]? = some (.cells cur.toArray 33 (0, 0))) (hH2 : w.heap[g2]? = some (.cells cur2.toArray 33 (0, 0))) (hnc : n ≤ cap) (hroom : cap < n + m) (hbig : (n + m) * 32 ≤ 140737488355328) (hi : i < n) (hm1 : 1 ≤ m)
 (hl : cur.length = cap * 3) (hl2 : m * 3 ≤ cur2.length) (hcs : cs = (cur.drop (i * 3)).take ((n - i) * 3)) (hnews : news = cur2.take (m * 3)) (h1c : ∀ u ∈ cs, u.oneCell' = true) (h1v : ∀ u ∈ news, u.oneCell' = true) :
 Calls Try.prog 32 #[.slice (some ⟨g, 0, none⟩) n cap, .int .i64 i, .slice (some ⟨g2, 0, none⟩) m cap2] w fun e w' => ∃ N G : Nat, e = .returned (.slice (some ⟨N, 0, none⟩) (n + m) G) ∧ Aside0 (Below w.heap.size w w' ∧ w.heap.size ≤ N ∧ n + m ≤ G ∧ G ≤ maxLen ∧ ∃ cur' : List Value, w'.heap[N]? = some (.cells cur'.toArray 33 (0, 0)) ∧ cur'.length = G * 3 ∧ cur'.take ((n + m) * 3) = cur.take (i * 3) ++ news ++ cs) := by
 obtain ⟨i0, hi0, hz0, hz1, hz2⟩ := info_parts info33; (have hsz : (Try.prog.info? 33).map (·.size) = some 3 := by rw [hi0]; simp [hz1]); (have hcl : cs.length = (n - i) * 3 := by rw [hcs, List.length_take, List.length_drop, hl]; omega); (have hvl : news.length = m * 3 := by rw [hnews, List.length_take]; omega); have hgw : g < w.heap.size := blk_lt hH; have hg2w : g2 < w.heap.size := blk_lt hH2; obtain ⟨N, hN⟩ : ∃ N, N = w.heap.size := ⟨_, rfl⟩; obtain ⟨G, hG⟩ : ∃ G, G = grownCap w (n + m) cap 33 := ⟨_, rfl⟩; (have hGn : n + m ≤ G := by rw [hG]; exact grownCap_ge w _ _ _)
 have hG63 : G ≤ maxLen := by
  have := grownCap_le_maxLen w (n + m) cap 33 (by unfold maxLen; omega); rw [hG]; exact this
 (have hik : i + (n + m - i) = n + m := by omega); (have hkk : (n : Int) + (m : Int) - (i : Int) = ((n + m - i : Nat) : Int) := by omega); obtain ⟨olds, holds⟩ : ∃ olds, olds = cur.take (i * 3) := ⟨_, rfl⟩; (have hol : olds.length = i * 3 := by rw [holds, List.length_take, hl]; omega)
 have hold : (Builtin.firstCells i0.size i (.slice (some ⟨g, 0, none⟩) i cap)).run Try.prog w.drew = .ok olds.toArray w.drew := by
  rw [hz1]
  exact run_firstCells_some w.drew 3 i ⟨g, 0, none⟩ i cap olds (by rw [hol]) (fun j v hj => by
   rw [Addr.add_lit]; (have ht : j < i * 3 := by rw [← hol]; exact (List.getElem?_eq_some_iff.1 hj).1); rw [holds, List.getElem?_take_of_lt ht] at hj; obtain ⟨hlt, hv⟩ := List.getElem?_eq_some_iff.1 hj
   show w.cell? ⟨g, 0 + j, none⟩ = some v
   rw [Nat.zero_add, cellAt hH _ hlt, hv])
 obtain ⟨row, hrow⟩ : ∃ row : List Value, row.toArray = olds.toArray ++ Builtin.zeroCells ((.agg #[(.int .i64 0), (.int .i64 0), (.string ⟨#[]⟩)]) : Value).cells (n + m - i) ++ Builtin.zeroCells ((.agg #[(.int .i64 0), (.int .i64 0), (.string ⟨#[]⟩)]) : Value).cells (G - (n + m)) := ⟨(olds.toArray ++ Builtin.zeroCells ((.agg #[(.int .i64 0), (.int .i64 0), (.string ⟨#[]⟩)]) : Value).cells (n + m - i) ++ Builtin.zeroCells ((.agg #[(.int .i64 0), (.int .i64 0), (.string ⟨#[]⟩)]) : Value).cells (G - (n + m))).toList, by simp⟩; have hzs : ((.agg #[(.int .i64 0), (.int .i64 0), (.string ⟨#[]⟩)]) : Value).cells.size = 3 := rfl
 have hrl : row.length = G * 3 := by
  have := congrArg Array.size hrow; simp only [Array.size_append, List.size_toArray, Builtin.zeroCells, Array.size_map, Array.size_range, hzs, hol] at this; omega
 have hrt : row.take (i * 3) = olds := by
  have := congrArg Array.toList hrow; simp only [Array.toList_append] at this; rw [this, List.append_assoc, ← hol, List.take_left]
 obtain ⟨W1, hW1⟩ : ∃ W1, W1 = w.drew.alloc (.cells row.toArray 33) := ⟨_, rfl⟩
 have hrz : ∀ ty, (Builtin.append_ #[23, 3] ty #[.slice (some ⟨g, 0, none⟩) i cap, .int .i64 ((n : Int) + (m : Int) - (i : Int))]).run Try.prog w = .ok (.slice (some ⟨N, 0, none⟩) (n + m) G) W1 := fun ty => by
  have h := Lib.run_append_grow_zeros w 23 3 ty 33 i0 (.agg #[(.int .i64 0), (.int .i64 0), (.string ⟨#[]⟩)]) .i64 .i64 Try.underlying23 Try.underlying3 hi0 hz0 (some ⟨g, 0, none⟩) i cap olds hold (n + m - i) (by omega) (by rw [hz1]; omega) (by omega) (by omega) (by rw [hz2]; omega) (by rw [hz2, hik]; exact growslice_fits hroom hbig); rw [hik] at h; rw [hkk, h, hW1, hrow, hN, hG]
 (have hH1 : W1.heap[N]? = some (.cells row.toArray 33 (0, 0)) := by rw [hW1, hN]; exact heap_alloc_new w.drew _); (have hB1 : Below w.heap.size w W1 := by rw [hW1]; exact below_alloc (below_drew (Below.refl _ _)) _); have hH21 : W1.heap[g2]? = some (.cells cur2.toArray 33 (0, 0)) := (hB1.block g2 hg2w).trans hH2; have hHg1 : W1.heap[g]? = some (.cells cur.toArray 33 (0, 0)) := (hB1.block g hgw).trans hH; (have hfit1 : i * 3 + news.length ≤ row.length := by rw [hvl, hrl]; omega)
 have hcpA : ∀ ty dc, (Builtin.copy_ #[23, 23] ty #[.slice (some ⟨N, i * 3, none⟩) (n + m - i) dc, .slice (some ⟨g2, 0, none⟩) m cap2]).run Try.prog W1 = .ok (goInt m) (W1.setCells N (i * 3) news) := fun ty dc => by
  (have hmin : Nat.min m (n + m - i) = m := by simp only [Nat.min_def]; split <;> omega)
  have := run_copy_rows (P := Try.prog) hH1 23 23 ty 33 3 Try.underlying23 hsz (i * 3) (n + m - i) dc ⟨g2, 0, none⟩ m cap2 news (by rw [hmin, hvl]) (fun j v hj => by
   rw [Addr.add_lit]; (have ht : j < m * 3 := by rw [← hvl]; exact (List.getElem?_eq_some_iff.1 hj).1); rw [hnews, List.getElem?_take_of_lt ht] at hj; obtain ⟨hlt, hv⟩ := List.getElem?_eq_some_iff.1 hj; rw [Nat.zero_add, cellAt hH21 _ hlt, hv]) hfit1 h1v
  rw [hmin] at this; exact this
 obtain ⟨W2, hW2⟩ : ∃ W2, W2 = W1.setCells N (i * 3) news := ⟨_, rfl⟩; (have hG2 : W1.grownBy W2 (some N) := by rw [hW2]; exact setCells_grown hH1 _ _ hfit1); (have hH2N : W2.heap[N]? = some (.cells (over row (i * 3) news).toArray 33 (0, 0)) := by rw [hW2]; exact setCells_heap hH1 _ _ hfit1); have hHg2 : W2.heap[g]? = some (.cells cur.toArray 33 (0, 0)) := (hG2.block g (blk_lt hHg1) (fun e => by injection e with e; omega)).trans hHg1; (have hl1 : (over row (i * 3) news).length = G * 3 := by rw [over_len _ _ _ hfit1, hrl]); (have hfit2 : (i + m) * 3 + cs.length ≤ (over row (i * 3) news).length := by rw [hcl, hl1]; omega)
 have hcpB : ∀ ty dc sc, (Builtin.copy_ #[23, 23] ty #[.slice (some ⟨N, (i + m) * 3, none⟩) (n + m - (i + m)) dc, .slice (some ⟨g, i * 3, none⟩) (n - i) sc]).run Try.prog W2.drew = .ok (goInt ((n - i : Nat) : Int)) (W2.drew.setCells N ((i + m) * 3) cs) := fun ty dc sc => by
  (have hmin : Nat.min (n - i) (n + m - (i + m)) = n - i := by simp only [Nat.min_def]; split <;> omega)
  have := run_copy_rows (P := Try.prog) (w := W2.drew) hH2N 23 23 ty 33 3 Try.underlying23 hsz ((i + m) * 3) (n + m - (i + m)) dc ⟨g, i * 3, none⟩ (n - i) sc cs (by rw [hmin, hcl]) (fun j v hj => by
   rw [Addr.add_lit]; (have ht : j < (n - i) * 3 := by rw [← hcl]; exact (List.getElem?_eq_some_iff.1 hj).1); rw [hcs, List.getElem?_take_of_lt ht, List.getElem?_drop] at hj; obtain ⟨hlt, hv⟩ := List.getElem?_eq_some_iff.1 hj
   show W2.cell? ⟨g, i * 3 + j, none⟩ = some v
   rw [cellAt hHg2 _ hlt, hv]) hfit2 h1c
  rw [hmin] at this; exact this
 have fin : Aside0 (Below w.heap.size w (W2.drew.setCells N ((i + m) * 3) cs) ∧ w.heap.size ≤ N ∧ n + m ≤ G ∧ G ≤ maxLen ∧ ∃ cur' : List Value, (W2.drew.setCells N ((i + m) * 3) cs).heap[N]? = some (.cells cur'.toArray 33 (0, 0)) ∧ cur'.length = G * 3 ∧ cur'.take ((n + m) * 3) = cur.take (i * 3) ++ news ++ cs) := by
  have hg3 : W1.grownBy (W2.drew.setCells N ((i + m) * 3) cs) (some N) := grown2 hG2 (grown2 (grown_drew W2 _) (setCells_grown (w := W2.drew) hH2N _ _ hfit2)); refine ⟨below_grown hB1 hg3 (by omega), by omega, hGn, hG63, _, setCells_heap (w := W2.drew) hH2N _ _ hfit2, by rw [over_len _ _ _ hfit2, hl1], ?_⟩; rw [over_take2 _ _ _ _ (by rw [hl1]; omega) (by rw [hcl]; omega), over_take2 _ _ _ _ (by rw [hrl]; omega) (by rw [hvl]; omega), hrt, holds]
 rw [← hW2] at hcpA; (have hz1' : ¬ ((m : Int) = 0) := by omega); (have hz2' : ¬ ((i : Int) = (n : Int)) := by omega); (have hz3' : (cap : Int) < (n : Int) + (m : Int) := by omega); (have hic : i ≤ cap := by omega); (have hGi : ¬ (G = i) := by omega); (have hGim : ¬ (G = i + m) := by omega); (have hci : ¬ (cap = i) := by omega); (have hG' : G ≤ 9223372036854775807 := by simpa [maxLen] using hG63); (have hw1 : IntKind.i64.wrap ((i : Int) + (m : Int)) = (i : Int) + (m : Int) := by rw [IntKind.wrap_i64]; omega); (have hb1 : (0 : Int) ≤ (i : Int) + (m : Int) := by omega); (have hin : i ≤ n := by omega); (have htn : ((i : Int) + (m : Int)).toNat = i + m := by omega); (have hb3 : (i : Int) ≤ (n : Int) := by omega); clear hW1 hW2 hH hH1 hG2 hH2N hHg2 hHg1 hH21 hB1 hH2 hl hl1 hl2 hfit1 hfit2 hcl hvl hcs hnews h1c h1v hz0 hz1 hz2 hsz hrow hrl hrt hold hol holds hG hN hkk hik hzs hG63
 skip
 go_enter Try.func32, Try.ntmps32; go_wp2_with (first | (at_builtin; refine Lib.wpList_append_run _ rfl _ _ _ _ rfl _ _ rfl rfl _ _ (hrz _) ?_) | (at_builtin; refine wpList_copy_is rfl _ _ 23 23 rfl _ _ rfl rfl (hcpA _ _) ?_)); go_region_law (refine step_copy_is rfl _ _ 23 23 rfl _ _ (by simp [Act.eval, Act.put]) (by simp [Act.eval, Act.put]) (hcpB _ _ _) ?_); go_wp2; go_ret; exact ⟨N, G, rfl, fin⟩
set_option maxHeartbeats 8000000 in
set_option maxRecDepth 100000 in
theorem api_Row_32.tail (P0_ P2_ : Nat → Prop) (u9000_ : Value) (l0 l2 : List (S33)) (g2 cap2 : Nat) (w0 w : World) (hB : Below w0.heap.size w0 w) (ho0 : Kd.R k33 33 w w0.heap.size P0_ u9000_ l0) (ho2 : Kd.R k33 33 w w0.heap.size P2_ (.slice (some ⟨g2, 0, none⟩) l2.length cap2) l2) (h1 : 1 ≤ l2.length) (hlim : l0.length + l2.length < 4398046511104) :
 Calls Try.prog 32 #[u9000_, .int .i64 (l0.length : Int), .slice (some ⟨g2, 0, none⟩) l2.length cap2] w fun e w' => ∃ v0_ : Value, e = .returned (v0_) ∧ Kd.R k33 33 w' w0.heap.size (fun k_ => (P0_ k_ ∨ w.heap.size ≤ k_)) v0_ (l0 ++ l2) ∧ Below w0.heap.size w0 w' ∧ Kept w w' (fun k_ => P0_ k_) := by
 have HL := As hlim; have HB := As hB; have HR := As (Kd.R_reads' ho2).2.2; have HO := As (Kd.R_mono (ok' := fun k_ => (P0_ k_ ∨ w.heap.size ≤ k_)) ho0 (fun k hk => .inl hk)); have HK := As ho0.1; (have hz1' : ¬ ((l2.length : Int) = 0) := by omega); have hbl := api_Row_32.isFlat.block ho0; clear hB ho2 hlim ho0; (rcases hbl with ⟨rfl, rfl⟩ | ⟨g, cap, cur, rfl, hg, hok, hH, hnc, hcm, hl, htk⟩)
 ·go_enter Try.func32, Try.ntmps32
  go_wp2_with (at_builtin; refine Kd.R_append_rows k33 (w0 := w0) w0.heap.size rfl (.tmp 23) (.tmp 24) 23 33 (.agg #[(.int .i64 0), (.int .i64 0), (.string ⟨#[]⟩)]) 32 rfl Try.underlying23 info33 rfl (by decide) (by omega) (.slice none 0 0) [] l2 (some ⟨g2, 0, none⟩) l2.length cap2 (fun k_ => (P0_ k_ ∨ w.heap.size ≤ k_)) (fun _ => False) rfl rfl HO.out HR.out (fun _ _ h => h) (fun _ h => h.elim) (fun _ h => .inr h) HB.out HB.out.size (by have := HL.out; simp at this ⊢; omega) ?_; intro v2 w2 h2a h2b h2c h2d); go_ret; exact ⟨_, rfl, h2a, h2b, Kept.of_grown h2c (Kept.refl _ _) (fun k hk => .inl (HK.out k hk))⟩
 ·have hcm' : cap ≤ 9223372036854775807 := by simpa [maxLen] using hcm
  clear hg hok hH hcm hl htk; go_enter Try.func32, Try.ntmps32; go_wp2_with (at_builtin; refine Kd.R_append_rows k33 (w0 := w0) w0.heap.size rfl (.tmp 23) (.tmp 24) 23 33 (.agg #[(.int .i64 0), (.int .i64 0), (.string ⟨#[]⟩)]) 32 rfl Try.underlying23 info33 rfl (by decide) (by omega) (.slice (some ⟨g, 0, none⟩) l0.length cap) l0 l2 (some ⟨g2, 0, none⟩) l2.length cap2 (fun k_ => (P0_ k_ ∨ w.heap.size ≤ k_)) (fun _ => False) rfl rfl HO.out HR.out (fun _ _ h => h) (fun _ h => h.elim) (fun _ h => .inr h) HB.out HB.out.size (by have := HL.out; omega) ?_; intro v2 w2 h2a h2b h2c h2d)
  all_goals (go_ret; exact ⟨_, rfl, h2a, h2b, Kept.of_grown h2c (Kept.refl _ _) (fun k hk => .inl (HK.out k hk))⟩)
set_option maxHeartbeats 8000000 in
theorem api_Row_32.calls (P0_ : Nat → Prop) (u9000_ : Value) (l0 : List (S33)) (a1 : Int) (P2_ : Nat → Prop) (u9001_ : Value) (l2 : List (S33)) (r : List (S33)) (w0 w : World) (hB : Below w0.heap.size w0 w) (ho0 : Kd.R k33 33 w w0.heap.size P0_ u9000_ l0) (hp0_2 : ∀ k_, P0_ k_ → ¬ P2_ k_) (ho2 : Kd.R k33 33 w w0.heap.size P2_ u9001_ l2) (hp2_0 : ∀ k_, P2_ k_ → ¬ P0_ k_) (h : api_Row_32.f l0 a1 l2 = some r) :
 Calls Try.prog 32 #[u9000_, .int .i64 a1, u9001_] w fun e w' => ∃ v0_ : Value, e = .returned (v0_) ∧ Kd.R k33 33 w' w0.heap.size (fun k_ => ((P0_ k_ ∨ P2_ k_) ∨ w.heap.size ≤ k_)) v0_ r ∧ Below w0.heap.size w0 w' ∧ Kept w w' (fun k_ => P0_ k_ ∨ P2_ k_) := by
 unfold api_Row_32.f at h
 by_cases hc : 0 ≤ a1 ∧ a1 ≤ (l0.length : Int) ∧ 1 ≤ l2.length ∧ l0.length + l2.length < 4398046511104
 ·rw [if_pos hc] at h
  obtain rfl := Option.some.inj h; obtain ⟨h1, h2, h3, h4⟩ := hc; obtain ⟨i, rfl⟩ := Int.eq_ofNat_of_zero_le h1; rw [Int.toNat_natCast]; (have hi : i ≤ l0.length := by omega); (rcases api_Row_32.isFlat.block ho2 with ⟨rfl, rfl⟩ | ⟨g2, cap2, cur2, rfl, hg2, hok2, hH2, a0_, hcm2, hl2, htk2⟩)
  ·simp at h3
  by_cases he : i = l0.length
  ·subst he
   refine (api_Row_32.tail P0_ P2_ u9000_ l0 l2 g2 cap2 w0 w hB ho0 ho2 h3 h4).mono ?_; rintro e w' ⟨v, rfl, hr, hb, hk⟩; rw [List.take_of_length_le (Nat.le_refl _), List.drop_of_length_le (Nat.le_refl _), List.append_nil]; exact ⟨_, rfl, Kd.R_mono hr (fun k hk => hk.elim (fun h => .inl (.inl h)) .inr), hb, hk.mono (fun k hk => .inl hk)⟩
  ·rcases api_Row_32.isFlat.block ho0 with ⟨rfl, rfl⟩ | ⟨g, cap, cur, rfl, hg, hok, hH, hnc, hcm, hl, htk⟩
   ·exact absurd (by simpa using hi : i = 0) (fun h => he (by simpa using h))
   have hcs : flat api_Row_32.enc (l0.drop i) = (cur.drop (i * 3)).take ((l0.length - i) * 3) := by
    have e1 := api_Row_32.isFlat.flat_drop l0 i; rw [← e1, ← htk]
    show ((cur.take (l0.length * 3)).drop (i * 3)) = _
    rw [List.drop_take]
    congr 1
    omega
   have e2 : cur.take (i * 3) = flat api_Row_32.enc (l0.take i) := by
    rw [← api_Row_32.isFlat.flat_take l0 i, ← htk]
    show _ = ((cur.take (l0.length * 3)).take (i * 3))
    rw [List.take_take]
    congr 1
    omega
   (have hl2' : l2.length * 3 ≤ cur2.length := by rw [hl2]; exact Nat.mul_le_mul_right _ a0_); (have hgg : g2 ≠ g := fun e => hp0_2 g hok (e ▸ hok2)); (have hlen : (l0.take i ++ l2 ++ l0.drop i).length = l0.length + l2.length := by rw [List.length_append, List.length_append, List.length_take, List.length_drop]; omega)
   by_cases hroom : l0.length + l2.length ≤ cap
   ·refine (api_Row_32.room g l0.length cap i l2.length g2 cap2 cur cur2 (flat api_Row_32.enc (l0.drop i)) (flat api_Row_32.enc l2) w hH hH2 hgg hroom (by simpa [maxLen] using hcm) (by omega) h3 hl hl2' hcs htk2.symm (api_Row_32.isFlat.one w _) (api_Row_32.isFlat.one w _)).mono ?_
    rintro e w' ⟨rfl, ⟨hgr, cur', hH', hl', ht'⟩⟩; refine ⟨_, rfl, ?_, below_grown hB hgr hg, (kept_grown hgr hok).mono (fun k hk => .inl hk)⟩; refine api_Row_32.isFlat.own hlen hg (.inl (.inl hok)) hH' hroom hcm hl' ?_; rw [flat_append, flat_append, ← e2]; exact ht'
   ·refine (api_Row_32.grow g l0.length cap i l2.length g2 cap2 cur cur2 (flat api_Row_32.enc (l0.drop i)) (flat api_Row_32.enc l2) w hH hH2 hnc (by omega) (by omega) (by omega) h3 hl hl2' hcs htk2.symm (api_Row_32.isFlat.one w _) (api_Row_32.isFlat.one w _)).mono ?_
    rintro e w' ⟨N, G, rfl, ⟨hbw, hN, hGn, hGm, cur', hH', hl', ht'⟩⟩; refine ⟨_, rfl, ?_, below_then hB hB.size hbw, Kept.of_below hbw _⟩; refine api_Row_32.isFlat.own hlen (Nat.le_trans hB.size hN) (.inr hN) hH' hGn hGm hl' ?_; rw [flat_append, flat_append, ← e2]; exact ht'
 ·rw [if_neg hc] at h
  exact absurd h (by simp)
def ref09_Check.l0 : Nat → List (S33) → Int → Int → List (S33) → Option (Int)
 | 0, _, _, _, _ => none
 | k + 1, x10, x11, x12, x187000 => if x12 < x11 then (if 0 ≤ x12 then (if x12 < (x10.length : Int) then (if (((rd_T33 x10 x12).f2).size : Int) > 16384 then (some 2) else ((ref02_Sum.f k ((rd_T33 x10 x12).f2)).bind fun b5_ => (if ((rd_T33 x10 x12).f0) = b5_ then (if x12 > 0 then (if 0 ≤ (wrap64 (x12 - 1)) then (if (wrap64 (x12 - 1)) < (x187000.length : Int) then (if ((rd_T33 x10 x12).f0) ≤ ((rd_T33 x187000 (wrap64 (x12 - 1))).f0) then (some 2) else (if ((rd_T33 x10 x12).f1) < 1 then (some 2) else (if ((rd_T33 x10 x12).f1) ≥ 2147483647 then (some 2) else (ref09_Check.l0 k x10 x11 (wrap64 (x12 + 1)) x187000)))) else (none)) else (none)) else (if ((rd_T33 x10 x12).f1) < 1 then (some 2) else (if ((rd_T33 x10 x12).f1) ≥ 2147483647 then (some 2) else (ref09_Check.l0 k x10 x11 (wrap64 (x12 + 1)) x187000)))) else (some 2)))) else (none)) else (none)) else (some 0)
def ref09_Check.f (k : Nat) (l0_0 : List (S33)) : Option (Int) := if (l0_0.length : Int) > 1024 then (some 2) else (ref09_Check.l0 k l0_0 (l0_0.length : Int) 0 l0_0)
def ref09_Check.T6 : Bool × List (List Nat × List Nat) := (true, [([], []), ([0], [0]), ([1], [1]), ([2], [2]), ([3], [3]), ([4], [4]), ([5, 4], [4, 5]), ([4], [4]), ([7, 4], [4, 7]), ([8, 4, 4], [4, 8]), ([6, 9, 4], [4, 6, 9]), ([4, 10], [4, 10]), ([11, 9], [11]), ([12], [12]), ([13, 12], [12, 13]), ([14, 12, 12], [12, 14]), ([15], [15]), ([16, 15], [15, 16]), ([15], [15]), ([18, 15], [15, 18]), ([15], [15]), ([20, 15], [15, 20]), ([19, 21, 15], [15, 19, 21]), ([22, 15], [15, 22]), ([23, 15], [15, 23]), ([17, 24, 15], [15, 17, 24]), ([15, 25, 12], [12, 15, 25]), ([12, 26], [12, 26]), ([27, 15], [27]), ([28], [28]), ([29, 28], [28, 29]), ([30, 28], [28, 30]), ([28, 31], [28, 31]), ([32, 28], [32]), ([33], [33]), ([34, 33], [33, 34]), ([35, 33], [33, 35]), ([33, 36], [33, 36])])
def ref09_Check.B6 : List Nat := [0, 1, 3, 7, 15, 31, 63, 31, 159, 415, 1023, 2047, 4095, 8191, 16383, 32767, 65535, 131071, 65535, 327679, 65535, 1114111, 3997695, 8191999, 16580607, 33554431, 67108863, 134217727, 268435455, 536870911, 1073741823, 2147483647, 4294967295, 8589934591, 17179869183, 34359738367, 68719476735, 137438953471]
theorem ref09_Check.tab6 : rtab .any (opsOf Try.f24 6) = ref09_Check.T6 := by kernel_rfl
theorem ref09_Check.bits6 : waitsOk ref09_Check.T6.2 ref09_Check.B6 = true := by kernel_rfl
set_option maxHeartbeats 8000000 in
set_option maxRecDepth 100000 in
theorem ref09_Check.calls (k : Nat) (A0_0 : Option Addr) (c0_0 : Nat) (l0_0 : List (S33)) (r : Int) (w : World) (hr0_0 : Kd.C k33 w A0_0 l0_0.length l0_0) (hc0_0 : l0_0.length ≤ c0_0) (h : ref09_Check.f k l0_0 = some r) :
 Calls Try.prog 24 #[.agg #[.slice A0_0 l0_0.length c0_0]] w fun e w' => e = .returned (.int .i64 r) ∧ Below w.heap.size w w' := by
 have hu25 := Try.underlying25; have hu33 := Try.underlying33; have HR0_0 := As hr0_0; have HC0_0 := As hc0_0; clear hr0_0 hc0_0; have HB := As (Below.refl w.heap.size w); have H : (if (l0_0.length : Int) > 1024 then (some 2) else (ref09_Check.l0 k l0_0 (l0_0.length : Int) 0 l0_0)) = some r := h; clear h
 by_cases c2 : (l0_0.length : Int) > 1024
 ·rw [if_pos c2] at H
  have c2_ : decide (1024 < (l0_0.length : Int)) = true := decide_eq_true c2; have c3_ : decide (1024 < l0_0.length) = true := decide_eq_true (by omega); clear c2; obtain rfl := Option.some.inj H; go_enter Try.func24, Try.ntmps24; go_wp2_with (first | ((with_reducible refine gate_dst (N := 1) rfl ?_); refine bxE 1 #[.slice A0_0 l0_0.length c0_0] 25 ?_; intro a6_ hg w3 hbox hb; have a3_ := As (hbox); have c1_ := As (by rw [hg]; exact (below_size hBq) : w.heap.size ≤ a6_); replace HB := sBq hb; have c8_ := c1_; clear hb hbox hg; have c4_ : w3.cell? ⟨a6_, 0, none⟩ = some (.slice A0_0 l0_0.length c0_0) := (blk_cell a3_.out 0).trans rfl; have c5_ := blk_frozen a3_.out 0)); go_ret; exact ⟨by first | rfl | (simp [errW_none, errW_some] <;> rfl) | (simp [*, errW_none, errW_some] <;> rfl), hBq⟩
 ·rw [if_neg c2] at H
  have c2_ : decide (1024 < (l0_0.length : Int)) = false := decide_eq_false c2; have c3_ : decide (1024 < l0_0.length) = false := decide_eq_false (by omega); clear c2; have H' := As H; clear H; go_enter Try.func24, Try.ntmps24; go_wp2_with (first | ((with_reducible refine gate_dst (N := 1) rfl ?_); refine bxE 1 #[.slice A0_0 l0_0.length c0_0] 25 ?_; intro a6_ hg w5 hbox hb; have a3_ := As (hbox); have c1_ := As (by rw [hg]; exact (below_size hBq) : w.heap.size ≤ a6_); replace HB := sBq hb; have c8_ := c1_; clear hb hbox hg; have c6_ : w5.cell? ⟨a6_, 0, none⟩ = some (.slice A0_0 l0_0.length c0_0) := (blk_cell a3_.out 0).trans rfl; have c7_ := blk_frozen a3_.out 0)); go_loopg [12] k (fun kq v12 w' => ∃ (a0_ : Int), v12 = .int .i64 a0_ ∧ Aside0 (ref09_Check.l0 kq l0_0 (l0_0.length : Int) a0_ l0_0 = some r) ∧ Aside0 (kq ≤ k) ∧ Aside0 (w'.heap[a6_]? = some (.cells #[(.slice A0_0 l0_0.length c0_0)] 25 (0, 0))) ∧ Aside0 (Below w.heap.size w w'))
  case atStart => exact ⟨(0), (by first | rfl | (simp; done) | (simp [*]; done)), H', ⟨Nat.le_refl _⟩, ⟨by refine plT ?_; exact a3_.out⟩, ⟨hBq⟩⟩
  case round =>
   clear H'; (try clear c2); (try clear c2_); (try clear c3_); (try clear p2); (try clear c4_); (try clear c6_); (try clear c5_); (try clear c7_); obtain ⟨a0_, rfl, HA, HK1, a3_, HB⟩ := hrel
   cases gk with
   | zero => exact absurd HA.out (by simp [ref09_Check.l0])
   | succ k1 =>
    have H := HA.out; clear HA; simp only [ref09_Check.l0] at H
    by_cases c7 : a0_ < (l0_0.length : Int)
    ·rw [if_pos c7] at H
     have d9_ : decide (a0_ < (l0_0.length : Int)) = true := decide_eq_true c7; clear c7
     by_cases c8 : 0 ≤ a0_
     ·rw [if_pos c8] at H
      have g0_ : decide (0 ≤ a0_) = true := decide_eq_true c8; clear c8
      by_cases c9 : a0_ < (l0_0.length : Int)
      ·rw [if_pos c9] at H
       have g1_ : decide (a0_ < (l0_0.length : Int)) = true := decide_eq_true c9; clear c9
       by_cases c10 : (((rd_T33 l0_0 a0_).f2).size : Int) > 16384
       ·rw [if_pos c10] at H
        have c9_ : decide (16384 < (((rd_T33 l0_0 a0_).f2).size : Int)) = true := decide_eq_true c10; have d0_ : decide (16384 < ((rd_T33 l0_0 a0_).f2).size) = true := decide_eq_true (by omega); clear c10; obtain rfl := Option.some.inj H; have b1_ : 0 ≤ (a0_ : Int) := dq; have b2_ : a0_ < (l0_0.length : Int) := dq; obtain ⟨a5_, b4_, _, _, _⟩ := at_T33 (Kd.C_below HR0_0.out HB.out) a0_ b1_ b2_; cases b4_; replace b1_ := eq_true b1_; replace b2_ := eq_true b2_
        (try go_wp2_with (first | ((with_reducible refine gate_dst (N := 4) rfl ?_); refine bxE 4 #[.int .i64 0, .int .i64 0, .string (⟨#[]⟩ : ByteArray)] 33 ?_; intro a1_ hg w11 hbox hb; have a2_ := As (hbox); have b3_ := As (by rw [hg]; exact (below_size hBq) : w.heap.size ≤ a1_); replace HB := sBq hb; have b8_ := b3_; have a4_ := As (by rw [hg]; exact Nat.ne_of_lt (blk_lt (g := a6_) (plq a3_.out)) : a6_ ≠ a1_); replace a3_ := As (blk_below (plq a3_.out) hb); have b0_ := As a4_.out.symm; clear hb hbox hg; have e0_ := b0_.out; have e1_ := a4_.out; have := cf3 a2_.out)))
        have n0_ : Aside0 ((((w11.setCell ⟨a1_, 0, none⟩ (((rd_T33 l0_0 a0_).f0))).setCell ⟨a1_, 1, none⟩ (((rd_T33 l0_0 a0_).f1))).setCell ⟨a1_, 2, none⟩ (.string ((rd_T33 l0_0 a0_).f2))).heap[a6_]? = some (.cells #[.slice (some a5_) l0_0.length c0_0] 25 (0, 0))) := ⟨by (iterate 3 (refine blk_far ?_ a4_.out _)); exact a3_.out⟩; have n1_ : Aside0 ((((w11.setCell ⟨a1_, 0, none⟩ (((rd_T33 l0_0 a0_).f0))).setCell ⟨a1_, 1, none⟩ (((rd_T33 l0_0 a0_).f1))).setCell ⟨a1_, 2, none⟩ (.string ((rd_T33 l0_0 a0_).f2))).heap[a1_]? = some (.cells #[((rd_T33 l0_0 a0_).f0), ((rd_T33 l0_0 a0_).f1), .string ((rd_T33 l0_0 a0_).f2)] 33 (0, 0))) := ⟨by apply puts3; exact a2_.out⟩
        have n2_ : Aside0 (Below w.heap.size w (((w11.setCell ⟨a1_, 0, none⟩ (((rd_T33 l0_0 a0_).f0))).setCell ⟨a1_, 1, none⟩ (((rd_T33 l0_0 a0_).f1))).setCell ⟨a1_, 2, none⟩ (.string ((rd_T33 l0_0 a0_).f2)))) := ⟨hBq⟩; (try clear a3_); (try clear a2_); (try clear HB); generalize (((w11.setCell ⟨a1_, 0, none⟩ (((rd_T33 l0_0 a0_).f0))).setCell ⟨a1_, 1, none⟩ (((rd_T33 l0_0 a0_).f1))).setCell ⟨a1_, 2, none⟩ (.string ((rd_T33 l0_0 a0_).f2))) = w14 at n0_ n1_ n2_ ⊢; have a3_ := n0_; have a2_ := n1_; have HB := n2_; clear n0_ n1_ n2_; replace a3_ := As (blk_drew a3_.out); replace a2_ := As (blk_drew a2_.out); replace HB := As (below_drew1 HB.out)
        refine start_ (n := 38) (S := fun w' => w'.cell? ⟨a1_, 0, none⟩ = some (.int .i64 ((rd_T33 l0_0 a0_).f0)) ∧ w'.cell? ⟨a1_, 1, none⟩ = some (.int .i64 ((rd_T33 l0_0 a0_).f1)) ∧ w'.cell? ⟨a1_, 2, none⟩ = some (.string ((rd_T33 l0_0 a0_).f2))) (ds := []) (marksOf 38 0) (by kernel_rfl) rfl rfl ⟨bc a2_ 0, bc a2_ 1, bc a2_ 2⟩ (fun hHeld => ?_); refine with_tabW ref09_Check.tab6 ref09_Check.bits6 (fun HT_ HW_ => ?_); generalize w14.drew = w15 at a3_ a2_ HB hHeld ⊢; refine pv_ 0 17 38 1 ?_; (refine ta_ 1 18 38 3 ?_ rfl rfl (take_ofW HT_.out HW_.out (by kernel_rfl)) (fun _ _ _ h => h) (by rfl) ?_ hHeld ?_ ?_ ?_; rotate_left; rintro w' ⟨s0, s1, s2⟩; go_simp; with_reducible rfl; rotate_left; simp only [Act.put, q1, q2, q3, i64_w, i32_w]; rfl); refine pv_ 2 19 38 7 ?_
        refine pv_ 3 20 38 15 ?_; refine pv_ 4 21 38 31 ?_; refine pure_ (i := 5) (N := some 22) (v := undef) (a' := ?_) (marksOf 38 63) rfl rfl (any_of HT_.out (by kernel_rfl)) (fun _ _ _ h => h) (Or.inr ⟨by rfl, rfl⟩) ?_ ?_; rotate_left
        ·simp only [Act.put, q1, q2, q3, i64_w, i32_w]
         rfl
        refine pure_ (i := 6) (N := some 23) (v := undef) (a' := ?_) (marksOf 38 127) rfl rfl (any_of HT_.out (by kernel_rfl)) (fun _ _ _ h => h) (Or.inr ⟨by rfl, rfl⟩) ?_ ?_; rotate_left
        ·simp only [Act.put, q1, q2, q3, i64_w, i32_w]
         rfl
        refine pure_ (i := 7) (N := some 24) (v := undef) (a' := ?_) (marksOf 38 255) rfl rfl (any_of HT_.out (by kernel_rfl)) (fun _ _ _ h => h) (Or.inr ⟨by rfl, rfl⟩) ?_ ?_; rotate_left
        ·simp only [Act.put, q1, q2, q3, i64_w, i32_w]
         rfl
        refine pure_ (i := 8) (N := some 25) (v := undef) (a' := ?_) (marksOf 38 511) rfl rfl (any_of HT_.out (by kernel_rfl)) (fun _ _ _ h => h) (Or.inr ⟨by rfl, rfl⟩) ?_ ?_; rotate_left
        ·simp only [Act.put, q1, q2, q3, i64_w, i32_w]
         rfl
        refine pure_ (i := 9) (N := some 26) (v := undef) (a' := ?_) (marksOf 38 1023) rfl rfl (any_of HT_.out (by kernel_rfl)) (fun _ _ _ h => h) (Or.inr ⟨by rfl, rfl⟩) ?_ ?_; rotate_left
        ·simp only [Act.put, q1, q2, q3, i64_w, i32_w]
         rfl
        refine pure_ (i := 10) (N := some 27) (v := undef) (a' := ?_) (marksOf 38 2047) rfl rfl (any_of HT_.out (by kernel_rfl)) (fun _ _ _ h => h) (Or.inr ⟨by rfl, rfl⟩) ?_ ?_; rotate_left
        ·simp only [Act.put, q1, q2, q3, i64_w, i32_w]
         rfl
        refine pv_ 11 28 38 4095 ?_; refine pv_ 12 29 38 8191 ?_; refine pure_ (i := 13) (N := some 30) (v := undef) (a' := ?_) (marksOf 38 16383) rfl rfl (any_of HT_.out (by kernel_rfl)) (fun _ _ _ h => h) (Or.inr ⟨by rfl, rfl⟩) ?_ ?_; rotate_left
        ·simp only [Act.put, q1, q2, q3, i64_w, i32_w]
         rfl
        refine pure_ (i := 14) (N := some 31) (v := undef) (a' := ?_) (marksOf 38 32767) rfl rfl (any_of HT_.out (by kernel_rfl)) (fun _ _ _ h => h) (Or.inr ⟨by rfl, rfl⟩) ?_ ?_; rotate_left
        ·simp only [Act.put, q1, q2, q3, i64_w, i32_w]
         rfl
        refine pure_ (i := 15) (N := some 32) (v := undef) (a' := ?_) (marksOf 38 65535) rfl rfl (any_of HT_.out (by kernel_rfl)) (fun _ _ _ h => h) (Or.inr ⟨by rfl, rfl⟩) ?_ ?_; rotate_left
        ·simp only [Act.put, q1, q2, q3, i64_w, i32_w]
         rfl
        refine pure_ (i := 16) (N := some 33) (v := undef) (a' := ?_) (marksOf 38 131071) rfl rfl (any_of HT_.out (by kernel_rfl)) (fun _ _ _ h => h) (Or.inr ⟨by rfl, rfl⟩) ?_ ?_; rotate_left
        ·simp only [Act.put, q1, q2, q3, i64_w, i32_w]
         rfl
        refine pure_ (i := 17) (N := some 34) (v := undef) (a' := ?_) (marksOf 38 262143) rfl rfl (any_of HT_.out (by kernel_rfl)) (fun _ _ _ h => h) (Or.inr ⟨by rfl, rfl⟩) ?_ ?_; rotate_left
        ·simp only [Act.put, q1, q2, q3, i64_w, i32_w]
         rfl
        refine pure_ (i := 18) (N := some 35) (v := undef) (a' := ?_) (marksOf 38 524287) rfl rfl (any_of HT_.out (by kernel_rfl)) (fun _ _ _ h => h) (Or.inr ⟨by rfl, rfl⟩) ?_ ?_; rotate_left
        ·simp only [Act.put, q1, q2, q3, i64_w, i32_w]
         rfl
        refine pure_ (i := 19) (N := some 36) (v := undef) (a' := ?_) (marksOf 38 1048575) rfl rfl (any_of HT_.out (by kernel_rfl)) (fun _ _ _ h => h) (Or.inr ⟨by rfl, rfl⟩) ?_ ?_; rotate_left
        ·simp only [Act.put, q1, q2, q3, i64_w, i32_w]
         rfl
        refine pure_ (i := 20) (N := some 37) (v := undef) (a' := ?_) (marksOf 38 2097151) rfl rfl (any_of HT_.out (by kernel_rfl)) (fun _ _ _ h => h) (Or.inr ⟨by rfl, rfl⟩) ?_ ?_; rotate_left
        ·simp only [Act.put, q1, q2, q3, i64_w, i32_w]
         rfl
        refine pure_ (i := 21) (N := some 38) (v := undef) (a' := ?_) (marksOf 38 4194303) rfl rfl (any_of HT_.out (by kernel_rfl)) (fun _ _ _ h => h) (Or.inr ⟨by rfl, rfl⟩) ?_ ?_; rotate_left
        ·simp only [Act.put, q1, q2, q3, i64_w, i32_w]
         rfl
        refine pure_ (i := 22) (N := some 39) (v := undef) (a' := ?_) (marksOf 38 8388607) rfl rfl (any_of HT_.out (by kernel_rfl)) (fun _ _ _ h => h) (Or.inr ⟨by rfl, rfl⟩) ?_ ?_; rotate_left
        ·simp only [Act.put, q1, q2, q3, i64_w, i32_w]
         rfl
        refine pure_ (i := 23) (N := some 40) (v := undef) (a' := ?_) (marksOf 38 16777215) rfl rfl (any_of HT_.out (by kernel_rfl)) (fun _ _ _ h => h) (Or.inr ⟨by rfl, rfl⟩) ?_ ?_; rotate_left
        ·simp only [Act.put, q1, q2, q3, i64_w, i32_w]
         rfl
        refine pure_ (i := 24) (N := some 41) (v := undef) (a' := ?_) (marksOf 38 33554431) rfl rfl (any_of HT_.out (by kernel_rfl)) (fun _ _ _ h => h) (Or.inr ⟨by rfl, rfl⟩) ?_ ?_; rotate_left
        ·simp only [Act.put, q1, q2, q3, i64_w, i32_w]
         rfl
        refine pure_ (i := 25) (N := some 42) (v := undef) (a' := ?_) (marksOf 38 67108863) rfl rfl (any_of HT_.out (by kernel_rfl)) (fun _ _ _ h => h) (Or.inr ⟨by rfl, rfl⟩) ?_ ?_; rotate_left
        ·simp only [Act.put, q1, q2, q3, i64_w, i32_w]
         rfl
        refine pure_ (i := 26) (N := some 43) (v := undef) (a' := ?_) (marksOf 38 134217727) rfl rfl (any_of HT_.out (by kernel_rfl)) (fun _ _ _ h => h) (Or.inr ⟨by rfl, rfl⟩) ?_ ?_; rotate_left
        ·simp only [Act.put, q1, q2, q3, i64_w, i32_w]
         rfl
        refine pv_ 27 44 38 268435455 ?_; refine pv_ 28 45 38 536870911 ?_; refine pure_ (i := 29) (N := some 46) (v := undef) (a' := ?_) (marksOf 38 1073741823) rfl rfl (any_of HT_.out (by kernel_rfl)) (fun _ _ _ h => h) (Or.inr ⟨by rfl, rfl⟩) ?_ ?_; rotate_left
        ·simp only [Act.put, q1, q2, q3, i64_w, i32_w]
         rfl
        refine pure_ (i := 30) (N := some 47) (v := undef) (a' := ?_) (marksOf 38 2147483647) rfl rfl (any_of HT_.out (by kernel_rfl)) (fun _ _ _ h => h) (Or.inr ⟨by rfl, rfl⟩) ?_ ?_; rotate_left
        ·simp only [Act.put, q1, q2, q3, i64_w, i32_w]
         rfl
        refine pure_ (i := 31) (N := some 48) (v := undef) (a' := ?_) (marksOf 38 4294967295) rfl rfl (any_of HT_.out (by kernel_rfl)) (fun _ _ _ h => h) (Or.inr ⟨by rfl, rfl⟩) ?_ ?_; rotate_left
        ·simp only [Act.put, q1, q2, q3, i64_w, i32_w]
         rfl
        refine pv_ 32 49 38 8589934591 ?_; refine pv_ 33 50 38 17179869183 ?_; refine pure_ (i := 34) (N := some 51) (v := undef) (a' := ?_) (marksOf 38 34359738367) rfl rfl (any_of HT_.out (by kernel_rfl)) (fun _ _ _ h => h) (Or.inr ⟨by rfl, rfl⟩) ?_ ?_; rotate_left
        ·simp only [Act.put, q1, q2, q3, i64_w, i32_w]
         rfl
        refine pure_ (i := 35) (N := some 52) (v := undef) (a' := ?_) (marksOf 38 68719476735) rfl rfl (any_of HT_.out (by kernel_rfl)) (fun _ _ _ h => h) (Or.inr ⟨by rfl, rfl⟩) ?_ ?_; rotate_left
        ·simp only [Act.put, q1, q2, q3, i64_w, i32_w]
         rfl
        refine pure_ (i := 36) (N := some 53) (v := undef) (a' := ?_) (marksOf 38 137438953471) rfl rfl (any_of HT_.out (by kernel_rfl)) (fun _ _ _ h => h) (Or.inr ⟨by rfl, rfl⟩) ?_ ?_; rotate_left
        ·simp only [Act.put, q1, q2, q3, i64_w, i32_w]
         rfl
        refine pv_ 37 54 38 274877906943 ?_; refine done_ (done_of HT_.out (by kernel_rfl)) ?_; (try go_wp2); go_ret; exact ⟨by first | rfl | (simp [errW_none, errW_some] <;> rfl) | (simp [*, errW_none, errW_some] <;> rfl), hBq⟩
       ·rw [if_neg c10] at H
        have c9_ : decide (16384 < (((rd_T33 l0_0 a0_).f2).size : Int)) = false := decide_eq_false c10; have d0_ : decide (16384 < ((rd_T33 l0_0 a0_).f2).size) = false := decide_eq_false (by omega); clear c10; obtain ⟨b5_, A16, H⟩ := bnd H; (try dsimp only at H)
        by_cases c17 : ((rd_T33 l0_0 a0_).f0) = b5_
        ·rw [if_pos c17] at H
         have d1_ : (((rd_T33 l0_0 a0_).f0) == b5_) = true := beq_iff_eq.mpr c17; have d2_ : (((rd_T33 l0_0 a0_).f0) != b5_) = false := bne_eq_false_iff_eq.mpr c17; clear c17
         by_cases c18 : a0_ > 0
         ·rw [if_pos c18] at H
          have d3_ : decide (0 < a0_) = true := decide_eq_true c18; clear c18; obtain ⟨ji19, hji19⟩ : ∃ j_ : Int, (wrap64 (a0_ - 1)) = j_ := ⟨_, rfl⟩; (replace H : (if 0 ≤ (ji19) then (if (ji19) < (l0_0.length : Int) then (if ((rd_T33 l0_0 a0_).f0) ≤ ((rd_T33 l0_0 (ji19)).f0) then (some 2) else (if ((rd_T33 l0_0 a0_).f1) < 1 then (some 2) else (if ((rd_T33 l0_0 a0_).f1) ≥ 2147483647 then (some 2) else (ref09_Check.l0 k1 l0_0 (l0_0.length : Int) (wrap64 (a0_ + 1)) l0_0)))) else (none)) else (none)) = some r := by first | (rw [hji19] at H; exact H) | (simp only [hji19] at H ⊢; exact H)); (try rw [hji19] at A16); have hji19w : (IntKind.i64.wrap (a0_ - 1)) = ji19 := (i64_w _).trans hji19
          by_cases c20 : 0 ≤ (ji19)
          ·rw [if_pos c20] at H
           have e2_ : decide (0 ≤ (ji19)) = true := decide_eq_true c20; clear c20
           by_cases c21 : (ji19) < (l0_0.length : Int)
           ·rw [if_pos c21] at H
            have e3_ : decide ((ji19) < (l0_0.length : Int)) = true := decide_eq_true c21; clear c21
            by_cases c22 : ((rd_T33 l0_0 a0_).f0) ≤ ((rd_T33 l0_0 (ji19)).f0)
            ·rw [if_pos c22] at H
             have d4_ : decide (((rd_T33 l0_0 a0_).f0) ≤ ((rd_T33 l0_0 (ji19)).f0)) = true := decide_eq_true c22; clear c22; obtain rfl := Option.some.inj H; have b1_ : 0 ≤ (a0_ : Int) := dq; have b2_ : a0_ < (l0_0.length : Int) := dq; obtain ⟨a5_, b4_, _, _, _⟩ := at_T33 (Kd.C_below HR0_0.out HB.out) a0_ b1_ b2_; cases b4_; replace b1_ := eq_true b1_; replace b2_ := eq_true b2_
             (try go_wp2_with (first | ((with_reducible refine gate_dst (N := 4) rfl ?_); refine bxE 4 #[.int .i64 0, .int .i64 0, .string (⟨#[]⟩ : ByteArray)] 33 ?_; intro a1_ hg w23 hbox hb; have a2_ := As (hbox); have b3_ := As (by rw [hg]; exact (below_size hBq) : w.heap.size ≤ a1_); replace HB := sBq hb; have b8_ := b3_; have a4_ := As (by rw [hg]; exact Nat.ne_of_lt (blk_lt (g := a6_) (plq a3_.out)) : a6_ ≠ a1_); replace a3_ := As (blk_below (plq a3_.out) hb); have b0_ := As a4_.out.symm; clear hb hbox hg; have e4_ := b0_.out; have e5_ := a4_.out; have := cf3 a2_.out)))
             have n0_ : Aside0 ((((w23.setCell ⟨a1_, 0, none⟩ (((rd_T33 l0_0 a0_).f0))).setCell ⟨a1_, 1, none⟩ (((rd_T33 l0_0 a0_).f1))).setCell ⟨a1_, 2, none⟩ (.string ((rd_T33 l0_0 a0_).f2))).heap[a6_]? = some (.cells #[.slice (some a5_) l0_0.length c0_0] 25 (0, 0))) := ⟨by (iterate 3 (refine blk_far ?_ a4_.out _)); exact a3_.out⟩; have n1_ : Aside0 ((((w23.setCell ⟨a1_, 0, none⟩ (((rd_T33 l0_0 a0_).f0))).setCell ⟨a1_, 1, none⟩ (((rd_T33 l0_0 a0_).f1))).setCell ⟨a1_, 2, none⟩ (.string ((rd_T33 l0_0 a0_).f2))).heap[a1_]? = some (.cells #[((rd_T33 l0_0 a0_).f0), ((rd_T33 l0_0 a0_).f1), .string ((rd_T33 l0_0 a0_).f2)] 33 (0, 0))) := ⟨by apply puts3; exact a2_.out⟩
             have n2_ : Aside0 (Below w.heap.size w (((w23.setCell ⟨a1_, 0, none⟩ (((rd_T33 l0_0 a0_).f0))).setCell ⟨a1_, 1, none⟩ (((rd_T33 l0_0 a0_).f1))).setCell ⟨a1_, 2, none⟩ (.string ((rd_T33 l0_0 a0_).f2)))) := ⟨hBq⟩; (try clear a3_); (try clear a2_); (try clear HB); generalize (((w23.setCell ⟨a1_, 0, none⟩ (((rd_T33 l0_0 a0_).f0))).setCell ⟨a1_, 1, none⟩ (((rd_T33 l0_0 a0_).f1))).setCell ⟨a1_, 2, none⟩ (.string ((rd_T33 l0_0 a0_).f2))) = w26 at n0_ n1_ n2_ ⊢; have a3_ := n0_; have a2_ := n1_; have HB := n2_; clear n0_ n1_ n2_; replace a3_ := As (blk_drew a3_.out); replace a2_ := As (blk_drew a2_.out); replace HB := As (below_drew1 HB.out); have b6_ : 0 ≤ ((ji19) : Int) := dq; have b7_ : (ji19) < (l0_0.length : Int) := dq; obtain ⟨b9_, c0_, a7_, a8_, a9_⟩ := at_T33 HR0_0.out (ji19) b6_ b7_; have hw190_2 := a9_; have hw190_1 := a8_; have hw190_0 := a7_; obtain rfl : a5_ = b9_ := (by injection c0_)
             replace a7_ := (HB.out.cell (World.block_lt_of_cell? w _ a7_)).trans a7_; replace a8_ := (HB.out.cell (World.block_lt_of_cell? w _ a8_)).trans a8_; replace a9_ := (HB.out.cell (World.block_lt_of_cell? w _ a9_)).trans a9_; replace b6_ := eq_true b6_; replace b7_ := eq_true b7_
             refine start_ (n := 38) (S := fun w' => w'.cell? ⟨a1_, 0, none⟩ = some (.int .i64 ((rd_T33 l0_0 a0_).f0)) ∧ w'.cell? ⟨a1_, 1, none⟩ = some (.int .i64 ((rd_T33 l0_0 a0_).f1)) ∧ w'.cell? ⟨a1_, 2, none⟩ = some (.string ((rd_T33 l0_0 a0_).f2)) ∧ w'.cell? ⟨a6_, 0, none⟩ = some (.slice (some a5_) l0_0.length c0_0) ∧ w'.cell? (a5_.add (((ji19)).toNat * 3)) = some (.int .i64 ((rd_T33 l0_0 (ji19)).f0)) ∧ w'.cell? ⟨(a5_.add (((ji19)).toNat * 3)).block, (a5_.add (((ji19)).toNat * 3)).off + 1, none⟩ = some (.int .i64 ((rd_T33 l0_0 (ji19)).f1)) ∧ w'.cell? ⟨(a5_.add (((ji19)).toNat * 3)).block, (a5_.add (((ji19)).toNat * 3)).off + 2, none⟩ = some (.string ((rd_T33 l0_0 (ji19)).f2))) (ds := []) (marksOf 38 0) (by kernel_rfl) rfl rfl ⟨bc a2_ 0, bc a2_ 1, bc a2_ 2, bc a3_ 0, ((HB.out.cell (World.block_lt_of_cell? w _ hw190_0)).trans hw190_0), ((HB.out.cell (World.block_lt_of_cell? w _ hw190_1)).trans hw190_1), ((HB.out.cell (World.block_lt_of_cell? w _ hw190_2)).trans hw190_2)⟩ (fun hHeld => ?_); refine with_tabW ref09_Check.tab6 ref09_Check.bits6 (fun HT_ HW_ => ?_); generalize w26.drew = w27 at a3_ a2_ HB a7_ a8_ a9_ hHeld ⊢
             refine pv_ 0 17 38 1 ?_; (refine ta_ 1 18 38 3 ?_ rfl rfl (take_ofW HT_.out HW_.out (by kernel_rfl)) (fun _ _ _ h => h) (by rfl) ?_ hHeld ?_ ?_ ?_; rotate_left; rintro w' ⟨s0, s1, s2, s3, s4, s5, s6⟩; go_simp; with_reducible rfl; rotate_left; simp only [Act.put, q1, q2, q3, i64_w, i32_w]; rfl); refine pv_ 2 19 38 7 ?_; refine pv_ 3 20 38 15 ?_; refine pv_ 4 21 38 31 ?_; refine pv_ 5 22 38 63 ?_
             refine pv_ 7 24 38 191 ?_; (refine ta_ 6 23 38 255 ?_ rfl rfl (take_ofW HT_.out HW_.out (by kernel_rfl)) (fun _ _ _ h => h) (by rfl) ?_ hHeld ?_ ?_ ?_; rotate_left; rintro w' ⟨s0, s1, s2, s3, s4, s5, s6⟩; go_simp; with_reducible rfl; rotate_left; simp only [Act.put, q1, q2, q3, i64_w, i32_w]; rfl); (refine ta_ 8 25 38 511 ?_ rfl rfl (take_ofW HT_.out HW_.out (by kernel_rfl)) (fun _ _ _ h => h) (by rfl) ?_ hHeld ?_ ?_ ?_; rotate_left; rintro w' ⟨s0, s1, s2, s3, s4, s5, s6⟩; go_simp; with_reducible rfl; rotate_left; simp only [Act.put, q1, q2, q3, i64_w, i32_w]; rfl); refine one_ (i := 9) (N := some 26) (marksOf 38 1023) rfl rfl (one_of HT_.out (by kernel_rfl)) (by decide) (fun K hK => ?_); refine goes_ Try.func36 (by kernel_rfl) rfl #[.string ((rd_T33 l0_0 a0_).f2)] (by rfl) rfl rfl gq ?_
             with_reducible refine (ref02_Sum.calls k1 ((rd_T33 l0_0 a0_).f2) b5_ _ A16.out).mono ?_
             rintro e w' ⟨rfl, ⟨nd, rfl⟩⟩; refine ⟨_, rfl, ?_⟩; refine hK.out _ _ ⟨bc a2_ 0, bc a2_ 1, bc a2_ 2, bc a3_ 0, ((HB.out.cell (World.block_lt_of_cell? w _ hw190_0)).trans hw190_0), ((HB.out.cell (World.block_lt_of_cell? w _ hw190_1)).trans hw190_1), ((HB.out.cell (World.block_lt_of_cell? w _ hw190_2)).trans hw190_2)⟩ (fun hHeld => ?_); clear hK K; refine norm_ (a' := ?_) ?_ ?_; rotate_left
             ·show Act.put _ (some 26) _ = _
              simp only [Act.put, q1, q2, q3, i64_w, i32_w]; rfl
             refine pv_ 10 27 38 2047 ?_; refine pv_ 11 28 38 4095 ?_; refine pv_ 12 29 38 8191 ?_; refine pv_ 13 30 38 16383 ?_; refine pv_ 14 31 38 32767 ?_; refine pv_ 15 32 38 65535 ?_
             refine pv_ 16 33 38 131071 ?_; refine pv_ 18 35 38 393215 ?_; refine pv_ 20 37 38 1441791 ?_; refine pv_ 21 38 38 3538943 ?_; (refine ta_ 17 34 38 3670015 ?_ rfl rfl (take_ofW HT_.out HW_.out (by kernel_rfl)) (fun _ _ _ h => h) (by rfl) ?_ hHeld ?_ ?_ ?_; rotate_left; rintro w' ⟨s0, s1, s2, s3, s4, s5, s6⟩; go_simp; with_reducible rfl; rotate_left; simp only [Act.put, q1, q2, q3, i64_w, i32_w]; rfl); (refine ta_ 19 36 38 4194303 ?_ rfl rfl (take_ofW HT_.out HW_.out (by kernel_rfl)) (fun _ _ _ h => h) (by rfl) ?_ hHeld ?_ ?_ ?_; rotate_left; rintro w' ⟨s0, s1, s2, s3, s4, s5, s6⟩; go_simp; with_reducible rfl; rotate_left; simp only [Act.put, q1, q2, q3, i64_w, i32_w]; rfl)
             refine pv_ 22 39 38 8388607 ?_; refine pv_ 23 40 38 16777215 ?_; (refine ta_ 24 41 38 33554431 ?_ rfl rfl (take_ofW HT_.out HW_.out (by kernel_rfl)) (fun _ _ _ h => h) (by rfl) ?_ hHeld ?_ ?_ ?_; rotate_left; rintro w' ⟨s0, s1, s2, s3, s4, s5, s6⟩; go_simp; with_reducible rfl; rotate_left; simp only [Act.put, q1, q2, q3, i64_w, i32_w]; rfl); refine pv_ 25 42 38 67108863 ?_; refine pv_ 26 43 38 134217727 ?_; refine pv_ 27 44 38 268435455 ?_
             refine pv_ 28 45 38 536870911 ?_; refine pure_ (i := 29) (N := some 46) (v := undef) (a' := ?_) (marksOf 38 1073741823) rfl rfl (any_of HT_.out (by kernel_rfl)) (fun _ _ _ h => h) (Or.inr ⟨by rfl, rfl⟩) ?_ ?_; rotate_left
             ·simp only [Act.put, q1, q2, q3, i64_w, i32_w]
              rfl
             refine pure_ (i := 30) (N := some 47) (v := undef) (a' := ?_) (marksOf 38 2147483647) rfl rfl (any_of HT_.out (by kernel_rfl)) (fun _ _ _ h => h) (Or.inr ⟨by rfl, rfl⟩) ?_ ?_; rotate_left
             ·simp only [Act.put, q1, q2, q3, i64_w, i32_w]
              rfl
             refine pure_ (i := 31) (N := some 48) (v := undef) (a' := ?_) (marksOf 38 4294967295) rfl rfl (any_of HT_.out (by kernel_rfl)) (fun _ _ _ h => h) (Or.inr ⟨by rfl, rfl⟩) ?_ ?_; rotate_left
             ·simp only [Act.put, q1, q2, q3, i64_w, i32_w]
              rfl
             refine pv_ 32 49 38 8589934591 ?_; refine pv_ 33 50 38 17179869183 ?_; refine pure_ (i := 34) (N := some 51) (v := undef) (a' := ?_) (marksOf 38 34359738367) rfl rfl (any_of HT_.out (by kernel_rfl)) (fun _ _ _ h => h) (Or.inr ⟨by rfl, rfl⟩) ?_ ?_; rotate_left
             ·simp only [Act.put, q1, q2, q3, i64_w, i32_w]
              rfl
             refine pure_ (i := 35) (N := some 52) (v := undef) (a' := ?_) (marksOf 38 68719476735) rfl rfl (any_of HT_.out (by kernel_rfl)) (fun _ _ _ h => h) (Or.inr ⟨by rfl, rfl⟩) ?_ ?_; rotate_left
             ·simp only [Act.put, q1, q2, q3, i64_w, i32_w]
              rfl
             refine pure_ (i := 36) (N := some 53) (v := undef) (a' := ?_) (marksOf 38 137438953471) rfl rfl (any_of HT_.out (by kernel_rfl)) (fun _ _ _ h => h) (Or.inr ⟨by rfl, rfl⟩) ?_ ?_; rotate_left
             ·simp only [Act.put, q1, q2, q3, i64_w, i32_w]
              rfl
             refine pv_ 37 54 38 274877906943 ?_; refine done_ (done_of HT_.out (by kernel_rfl)) ?_; (try go_wp2); go_ret; exact ⟨by first | rfl | (simp [errW_none, errW_some] <;> rfl) | (simp only [← hji19]; first | rfl | (simp [errW_none, errW_some] <;> rfl)) | (simp [*, errW_none, errW_some] <;> rfl), hBq⟩
            ·rw [if_neg c22] at H
             have d4_ : decide (((rd_T33 l0_0 a0_).f0) ≤ ((rd_T33 l0_0 (ji19)).f0)) = false := decide_eq_false c22; clear c22
             by_cases c28 : ((rd_T33 l0_0 a0_).f1) < 1
             ·rw [if_pos c28] at H
              have d5_ : decide (((rd_T33 l0_0 a0_).f1) < 1) = true := decide_eq_true c28; clear c28; obtain rfl := Option.some.inj H; have b1_ : 0 ≤ (a0_ : Int) := dq; have b2_ : a0_ < (l0_0.length : Int) := dq; obtain ⟨a5_, b4_, _, _, _⟩ := at_T33 (Kd.C_below HR0_0.out HB.out) a0_ b1_ b2_; cases b4_; replace b1_ := eq_true b1_; replace b2_ := eq_true b2_
              (try go_wp2_with (first | ((with_reducible refine gate_dst (N := 4) rfl ?_); refine bxE 4 #[.int .i64 0, .int .i64 0, .string (⟨#[]⟩ : ByteArray)] 33 ?_; intro a1_ hg w29 hbox hb; have a2_ := As (hbox); have b3_ := As (by rw [hg]; exact (below_size hBq) : w.heap.size ≤ a1_); replace HB := sBq hb; have b8_ := b3_; have a4_ := As (by rw [hg]; exact Nat.ne_of_lt (blk_lt (g := a6_) (plq a3_.out)) : a6_ ≠ a1_); replace a3_ := As (blk_below (plq a3_.out) hb); have b0_ := As a4_.out.symm; clear hb hbox hg; have e6_ := b0_.out; have e7_ := a4_.out; have := cf3 a2_.out)))
              have n0_ : Aside0 ((((w29.setCell ⟨a1_, 0, none⟩ (((rd_T33 l0_0 a0_).f0))).setCell ⟨a1_, 1, none⟩ (((rd_T33 l0_0 a0_).f1))).setCell ⟨a1_, 2, none⟩ (.string ((rd_T33 l0_0 a0_).f2))).heap[a6_]? = some (.cells #[.slice (some a5_) l0_0.length c0_0] 25 (0, 0))) := ⟨by (iterate 3 (refine blk_far ?_ a4_.out _)); exact a3_.out⟩; have n1_ : Aside0 ((((w29.setCell ⟨a1_, 0, none⟩ (((rd_T33 l0_0 a0_).f0))).setCell ⟨a1_, 1, none⟩ (((rd_T33 l0_0 a0_).f1))).setCell ⟨a1_, 2, none⟩ (.string ((rd_T33 l0_0 a0_).f2))).heap[a1_]? = some (.cells #[((rd_T33 l0_0 a0_).f0), ((rd_T33 l0_0 a0_).f1), .string ((rd_T33 l0_0 a0_).f2)] 33 (0, 0))) := ⟨by apply puts3; exact a2_.out⟩
              have n2_ : Aside0 (Below w.heap.size w (((w29.setCell ⟨a1_, 0, none⟩ (((rd_T33 l0_0 a0_).f0))).setCell ⟨a1_, 1, none⟩ (((rd_T33 l0_0 a0_).f1))).setCell ⟨a1_, 2, none⟩ (.string ((rd_T33 l0_0 a0_).f2)))) := ⟨hBq⟩; (try clear a3_); (try clear a2_); (try clear HB); generalize (((w29.setCell ⟨a1_, 0, none⟩ (((rd_T33 l0_0 a0_).f0))).setCell ⟨a1_, 1, none⟩ (((rd_T33 l0_0 a0_).f1))).setCell ⟨a1_, 2, none⟩ (.string ((rd_T33 l0_0 a0_).f2))) = w32 at n0_ n1_ n2_ ⊢; have a3_ := n0_; have a2_ := n1_; have HB := n2_; clear n0_ n1_ n2_; replace a3_ := As (blk_drew a3_.out); replace a2_ := As (blk_drew a2_.out); replace HB := As (below_drew1 HB.out); have b6_ : 0 ≤ ((ji19) : Int) := dq; have b7_ : (ji19) < (l0_0.length : Int) := dq; obtain ⟨b9_, c0_, a7_, a8_, a9_⟩ := at_T33 HR0_0.out (ji19) b6_ b7_; have hw190_2 := a9_; have hw190_1 := a8_; have hw190_0 := a7_; obtain rfl : a5_ = b9_ := (by injection c0_)
              replace a7_ := (HB.out.cell (World.block_lt_of_cell? w _ a7_)).trans a7_; replace a8_ := (HB.out.cell (World.block_lt_of_cell? w _ a8_)).trans a8_; replace a9_ := (HB.out.cell (World.block_lt_of_cell? w _ a9_)).trans a9_; replace b6_ := eq_true b6_; replace b7_ := eq_true b7_
              refine start_ (n := 38) (S := fun w' => w'.cell? ⟨a1_, 0, none⟩ = some (.int .i64 ((rd_T33 l0_0 a0_).f0)) ∧ w'.cell? ⟨a1_, 1, none⟩ = some (.int .i64 ((rd_T33 l0_0 a0_).f1)) ∧ w'.cell? ⟨a1_, 2, none⟩ = some (.string ((rd_T33 l0_0 a0_).f2)) ∧ w'.cell? ⟨a6_, 0, none⟩ = some (.slice (some a5_) l0_0.length c0_0) ∧ w'.cell? (a5_.add (((ji19)).toNat * 3)) = some (.int .i64 ((rd_T33 l0_0 (ji19)).f0)) ∧ w'.cell? ⟨(a5_.add (((ji19)).toNat * 3)).block, (a5_.add (((ji19)).toNat * 3)).off + 1, none⟩ = some (.int .i64 ((rd_T33 l0_0 (ji19)).f1)) ∧ w'.cell? ⟨(a5_.add (((ji19)).toNat * 3)).block, (a5_.add (((ji19)).toNat * 3)).off + 2, none⟩ = some (.string ((rd_T33 l0_0 (ji19)).f2))) (ds := []) (marksOf 38 0) (by kernel_rfl) rfl rfl ⟨bc a2_ 0, bc a2_ 1, bc a2_ 2, bc a3_ 0, ((HB.out.cell (World.block_lt_of_cell? w _ hw190_0)).trans hw190_0), ((HB.out.cell (World.block_lt_of_cell? w _ hw190_1)).trans hw190_1), ((HB.out.cell (World.block_lt_of_cell? w _ hw190_2)).trans hw190_2)⟩ (fun hHeld => ?_); refine with_tabW ref09_Check.tab6 ref09_Check.bits6 (fun HT_ HW_ => ?_); generalize w32.drew = w33 at a3_ a2_ HB a7_ a8_ a9_ hHeld ⊢
              refine pv_ 0 17 38 1 ?_; (refine ta_ 1 18 38 3 ?_ rfl rfl (take_ofW HT_.out HW_.out (by kernel_rfl)) (fun _ _ _ h => h) (by rfl) ?_ hHeld ?_ ?_ ?_; rotate_left; rintro w' ⟨s0, s1, s2, s3, s4, s5, s6⟩; go_simp; with_reducible rfl; rotate_left; simp only [Act.put, q1, q2, q3, i64_w, i32_w]; rfl); refine pv_ 2 19 38 7 ?_; refine pv_ 3 20 38 15 ?_; refine pv_ 4 21 38 31 ?_; refine pv_ 5 22 38 63 ?_
              refine pv_ 7 24 38 191 ?_; (refine ta_ 6 23 38 255 ?_ rfl rfl (take_ofW HT_.out HW_.out (by kernel_rfl)) (fun _ _ _ h => h) (by rfl) ?_ hHeld ?_ ?_ ?_; rotate_left; rintro w' ⟨s0, s1, s2, s3, s4, s5, s6⟩; go_simp; with_reducible rfl; rotate_left; simp only [Act.put, q1, q2, q3, i64_w, i32_w]; rfl); (refine ta_ 8 25 38 511 ?_ rfl rfl (take_ofW HT_.out HW_.out (by kernel_rfl)) (fun _ _ _ h => h) (by rfl) ?_ hHeld ?_ ?_ ?_; rotate_left; rintro w' ⟨s0, s1, s2, s3, s4, s5, s6⟩; go_simp; with_reducible rfl; rotate_left; simp only [Act.put, q1, q2, q3, i64_w, i32_w]; rfl); refine one_ (i := 9) (N := some 26) (marksOf 38 1023) rfl rfl (one_of HT_.out (by kernel_rfl)) (by decide) (fun K hK => ?_); refine goes_ Try.func36 (by kernel_rfl) rfl #[.string ((rd_T33 l0_0 a0_).f2)] (by rfl) rfl rfl gq ?_
              with_reducible refine (ref02_Sum.calls k1 ((rd_T33 l0_0 a0_).f2) b5_ _ A16.out).mono ?_
              rintro e w' ⟨rfl, ⟨nd, rfl⟩⟩; refine ⟨_, rfl, ?_⟩; refine hK.out _ _ ⟨bc a2_ 0, bc a2_ 1, bc a2_ 2, bc a3_ 0, ((HB.out.cell (World.block_lt_of_cell? w _ hw190_0)).trans hw190_0), ((HB.out.cell (World.block_lt_of_cell? w _ hw190_1)).trans hw190_1), ((HB.out.cell (World.block_lt_of_cell? w _ hw190_2)).trans hw190_2)⟩ (fun hHeld => ?_); clear hK K; refine norm_ (a' := ?_) ?_ ?_; rotate_left
              ·show Act.put _ (some 26) _ = _
               simp only [Act.put, q1, q2, q3, i64_w, i32_w]; rfl
              refine pv_ 10 27 38 2047 ?_; refine pv_ 11 28 38 4095 ?_; refine pv_ 12 29 38 8191 ?_; refine pv_ 13 30 38 16383 ?_; refine pv_ 14 31 38 32767 ?_; refine pv_ 15 32 38 65535 ?_
              refine pv_ 16 33 38 131071 ?_; refine pv_ 18 35 38 393215 ?_; refine pv_ 20 37 38 1441791 ?_; refine pv_ 21 38 38 3538943 ?_; (refine ta_ 17 34 38 3670015 ?_ rfl rfl (take_ofW HT_.out HW_.out (by kernel_rfl)) (fun _ _ _ h => h) (by rfl) ?_ hHeld ?_ ?_ ?_; rotate_left; rintro w' ⟨s0, s1, s2, s3, s4, s5, s6⟩; go_simp; with_reducible rfl; rotate_left; simp only [Act.put, q1, q2, q3, i64_w, i32_w]; rfl); (refine ta_ 19 36 38 4194303 ?_ rfl rfl (take_ofW HT_.out HW_.out (by kernel_rfl)) (fun _ _ _ h => h) (by rfl) ?_ hHeld ?_ ?_ ?_; rotate_left; rintro w' ⟨s0, s1, s2, s3, s4, s5, s6⟩; go_simp; with_reducible rfl; rotate_left; simp only [Act.put, q1, q2, q3, i64_w, i32_w]; rfl)
              refine pv_ 22 39 38 8388607 ?_; refine pv_ 23 40 38 16777215 ?_; (refine ta_ 24 41 38 33554431 ?_ rfl rfl (take_ofW HT_.out HW_.out (by kernel_rfl)) (fun _ _ _ h => h) (by rfl) ?_ hHeld ?_ ?_ ?_; rotate_left; rintro w' ⟨s0, s1, s2, s3, s4, s5, s6⟩; go_simp; with_reducible rfl; rotate_left; simp only [Act.put, q1, q2, q3, i64_w, i32_w]; rfl); refine pv_ 25 42 38 67108863 ?_; refine pv_ 26 43 38 134217727 ?_; refine pv_ 27 44 38 268435455 ?_
              refine pv_ 28 45 38 536870911 ?_; refine pv_ 29 46 38 1073741823 ?_; (refine ta_ 30 47 38 2147483647 ?_ rfl rfl (take_ofW HT_.out HW_.out (by kernel_rfl)) (fun _ _ _ h => h) (by rfl) ?_ hHeld ?_ ?_ ?_; rotate_left; rintro w' ⟨s0, s1, s2, s3, s4, s5, s6⟩; go_simp; with_reducible rfl; rotate_left; simp only [Act.put, q1, q2, q3, i64_w, i32_w]; rfl); refine pv_ 31 48 38 4294967295 ?_; refine pv_ 32 49 38 8589934591 ?_; refine pv_ 33 50 38 17179869183 ?_
              refine pure_ (i := 34) (N := some 51) (v := undef) (a' := ?_) (marksOf 38 34359738367) rfl rfl (any_of HT_.out (by kernel_rfl)) (fun _ _ _ h => h) (Or.inr ⟨by rfl, rfl⟩) ?_ ?_; rotate_left
              ·simp only [Act.put, q1, q2, q3, i64_w, i32_w]
               rfl
              refine pure_ (i := 35) (N := some 52) (v := undef) (a' := ?_) (marksOf 38 68719476735) rfl rfl (any_of HT_.out (by kernel_rfl)) (fun _ _ _ h => h) (Or.inr ⟨by rfl, rfl⟩) ?_ ?_; rotate_left
              ·simp only [Act.put, q1, q2, q3, i64_w, i32_w]
               rfl
              refine pure_ (i := 36) (N := some 53) (v := undef) (a' := ?_) (marksOf 38 137438953471) rfl rfl (any_of HT_.out (by kernel_rfl)) (fun _ _ _ h => h) (Or.inr ⟨by rfl, rfl⟩) ?_ ?_; rotate_left
              ·simp only [Act.put, q1, q2, q3, i64_w, i32_w]
               rfl
              refine pv_ 37 54 38 274877906943 ?_; refine done_ (done_of HT_.out (by kernel_rfl)) ?_; (try go_wp2); go_ret; exact ⟨by first | rfl | (simp [errW_none, errW_some] <;> rfl) | (simp only [← hji19]; first | rfl | (simp [errW_none, errW_some] <;> rfl)) | (simp [*, errW_none, errW_some] <;> rfl), hBq⟩
             ·rw [if_neg c28] at H
              have d5_ : decide (((rd_T33 l0_0 a0_).f1) < 1) = false := decide_eq_false c28; clear c28
              by_cases c34 : ((rd_T33 l0_0 a0_).f1) ≥ 2147483647
              ·rw [if_pos c34] at H
               have d6_ : decide (2147483647 ≤ ((rd_T33 l0_0 a0_).f1)) = true := decide_eq_true c34; clear c34; obtain rfl := Option.some.inj H; have b1_ : 0 ≤ (a0_ : Int) := dq; have b2_ : a0_ < (l0_0.length : Int) := dq; obtain ⟨a5_, b4_, _, _, _⟩ := at_T33 (Kd.C_below HR0_0.out HB.out) a0_ b1_ b2_; cases b4_; replace b1_ := eq_true b1_; replace b2_ := eq_true b2_
               (try go_wp2_with (first | ((with_reducible refine gate_dst (N := 4) rfl ?_); refine bxE 4 #[.int .i64 0, .int .i64 0, .string (⟨#[]⟩ : ByteArray)] 33 ?_; intro a1_ hg w35 hbox hb; have a2_ := As (hbox); have b3_ := As (by rw [hg]; exact (below_size hBq) : w.heap.size ≤ a1_); replace HB := sBq hb; have b8_ := b3_; have a4_ := As (by rw [hg]; exact Nat.ne_of_lt (blk_lt (g := a6_) (plq a3_.out)) : a6_ ≠ a1_); replace a3_ := As (blk_below (plq a3_.out) hb); have b0_ := As a4_.out.symm; clear hb hbox hg; have e8_ := b0_.out; have e9_ := a4_.out; have := cf3 a2_.out)))
               have n0_ : Aside0 ((((w35.setCell ⟨a1_, 0, none⟩ (((rd_T33 l0_0 a0_).f0))).setCell ⟨a1_, 1, none⟩ (((rd_T33 l0_0 a0_).f1))).setCell ⟨a1_, 2, none⟩ (.string ((rd_T33 l0_0 a0_).f2))).heap[a6_]? = some (.cells #[.slice (some a5_) l0_0.length c0_0] 25 (0, 0))) := ⟨by (iterate 3 (refine blk_far ?_ a4_.out _)); exact a3_.out⟩; have n1_ : Aside0 ((((w35.setCell ⟨a1_, 0, none⟩ (((rd_T33 l0_0 a0_).f0))).setCell ⟨a1_, 1, none⟩ (((rd_T33 l0_0 a0_).f1))).setCell ⟨a1_, 2, none⟩ (.string ((rd_T33 l0_0 a0_).f2))).heap[a1_]? = some (.cells #[((rd_T33 l0_0 a0_).f0), ((rd_T33 l0_0 a0_).f1), .string ((rd_T33 l0_0 a0_).f2)] 33 (0, 0))) := ⟨by apply puts3; exact a2_.out⟩
               have n2_ : Aside0 (Below w.heap.size w (((w35.setCell ⟨a1_, 0, none⟩ (((rd_T33 l0_0 a0_).f0))).setCell ⟨a1_, 1, none⟩ (((rd_T33 l0_0 a0_).f1))).setCell ⟨a1_, 2, none⟩ (.string ((rd_T33 l0_0 a0_).f2)))) := ⟨hBq⟩; (try clear a3_); (try clear a2_); (try clear HB); generalize (((w35.setCell ⟨a1_, 0, none⟩ (((rd_T33 l0_0 a0_).f0))).setCell ⟨a1_, 1, none⟩ (((rd_T33 l0_0 a0_).f1))).setCell ⟨a1_, 2, none⟩ (.string ((rd_T33 l0_0 a0_).f2))) = w38 at n0_ n1_ n2_ ⊢; have a3_ := n0_; have a2_ := n1_; have HB := n2_; clear n0_ n1_ n2_; replace a3_ := As (blk_drew a3_.out); replace a2_ := As (blk_drew a2_.out); replace HB := As (below_drew1 HB.out); have b6_ : 0 ≤ ((ji19) : Int) := dq; have b7_ : (ji19) < (l0_0.length : Int) := dq; obtain ⟨b9_, c0_, a7_, a8_, a9_⟩ := at_T33 HR0_0.out (ji19) b6_ b7_; have hw190_2 := a9_; have hw190_1 := a8_; have hw190_0 := a7_; obtain rfl : a5_ = b9_ := (by injection c0_)
               replace a7_ := (HB.out.cell (World.block_lt_of_cell? w _ a7_)).trans a7_; replace a8_ := (HB.out.cell (World.block_lt_of_cell? w _ a8_)).trans a8_; replace a9_ := (HB.out.cell (World.block_lt_of_cell? w _ a9_)).trans a9_; replace b6_ := eq_true b6_; replace b7_ := eq_true b7_
               refine start_ (n := 38) (S := fun w' => w'.cell? ⟨a1_, 0, none⟩ = some (.int .i64 ((rd_T33 l0_0 a0_).f0)) ∧ w'.cell? ⟨a1_, 1, none⟩ = some (.int .i64 ((rd_T33 l0_0 a0_).f1)) ∧ w'.cell? ⟨a1_, 2, none⟩ = some (.string ((rd_T33 l0_0 a0_).f2)) ∧ w'.cell? ⟨a6_, 0, none⟩ = some (.slice (some a5_) l0_0.length c0_0) ∧ w'.cell? (a5_.add (((ji19)).toNat * 3)) = some (.int .i64 ((rd_T33 l0_0 (ji19)).f0)) ∧ w'.cell? ⟨(a5_.add (((ji19)).toNat * 3)).block, (a5_.add (((ji19)).toNat * 3)).off + 1, none⟩ = some (.int .i64 ((rd_T33 l0_0 (ji19)).f1)) ∧ w'.cell? ⟨(a5_.add (((ji19)).toNat * 3)).block, (a5_.add (((ji19)).toNat * 3)).off + 2, none⟩ = some (.string ((rd_T33 l0_0 (ji19)).f2))) (ds := []) (marksOf 38 0) (by kernel_rfl) rfl rfl ⟨bc a2_ 0, bc a2_ 1, bc a2_ 2, bc a3_ 0, ((HB.out.cell (World.block_lt_of_cell? w _ hw190_0)).trans hw190_0), ((HB.out.cell (World.block_lt_of_cell? w _ hw190_1)).trans hw190_1), ((HB.out.cell (World.block_lt_of_cell? w _ hw190_2)).trans hw190_2)⟩ (fun hHeld => ?_); refine with_tabW ref09_Check.tab6 ref09_Check.bits6 (fun HT_ HW_ => ?_); generalize w38.drew = w39 at a3_ a2_ HB a7_ a8_ a9_ hHeld ⊢
               refine pv_ 0 17 38 1 ?_; (refine ta_ 1 18 38 3 ?_ rfl rfl (take_ofW HT_.out HW_.out (by kernel_rfl)) (fun _ _ _ h => h) (by rfl) ?_ hHeld ?_ ?_ ?_; rotate_left; rintro w' ⟨s0, s1, s2, s3, s4, s5, s6⟩; go_simp; with_reducible rfl; rotate_left; simp only [Act.put, q1, q2, q3, i64_w, i32_w]; rfl); refine pv_ 2 19 38 7 ?_; refine pv_ 3 20 38 15 ?_; refine pv_ 4 21 38 31 ?_; refine pv_ 5 22 38 63 ?_
               refine pv_ 7 24 38 191 ?_; (refine ta_ 6 23 38 255 ?_ rfl rfl (take_ofW HT_.out HW_.out (by kernel_rfl)) (fun _ _ _ h => h) (by rfl) ?_ hHeld ?_ ?_ ?_; rotate_left; rintro w' ⟨s0, s1, s2, s3, s4, s5, s6⟩; go_simp; with_reducible rfl; rotate_left; simp only [Act.put, q1, q2, q3, i64_w, i32_w]; rfl); (refine ta_ 8 25 38 511 ?_ rfl rfl (take_ofW HT_.out HW_.out (by kernel_rfl)) (fun _ _ _ h => h) (by rfl) ?_ hHeld ?_ ?_ ?_; rotate_left; rintro w' ⟨s0, s1, s2, s3, s4, s5, s6⟩; go_simp; with_reducible rfl; rotate_left; simp only [Act.put, q1, q2, q3, i64_w, i32_w]; rfl); refine one_ (i := 9) (N := some 26) (marksOf 38 1023) rfl rfl (one_of HT_.out (by kernel_rfl)) (by decide) (fun K hK => ?_); refine goes_ Try.func36 (by kernel_rfl) rfl #[.string ((rd_T33 l0_0 a0_).f2)] (by rfl) rfl rfl gq ?_
               with_reducible refine (ref02_Sum.calls k1 ((rd_T33 l0_0 a0_).f2) b5_ _ A16.out).mono ?_
               rintro e w' ⟨rfl, ⟨nd, rfl⟩⟩; refine ⟨_, rfl, ?_⟩; refine hK.out _ _ ⟨bc a2_ 0, bc a2_ 1, bc a2_ 2, bc a3_ 0, ((HB.out.cell (World.block_lt_of_cell? w _ hw190_0)).trans hw190_0), ((HB.out.cell (World.block_lt_of_cell? w _ hw190_1)).trans hw190_1), ((HB.out.cell (World.block_lt_of_cell? w _ hw190_2)).trans hw190_2)⟩ (fun hHeld => ?_); clear hK K; refine norm_ (a' := ?_) ?_ ?_; rotate_left
               ·show Act.put _ (some 26) _ = _
                simp only [Act.put, q1, q2, q3, i64_w, i32_w]; rfl
               refine pv_ 10 27 38 2047 ?_; refine pv_ 11 28 38 4095 ?_; refine pv_ 12 29 38 8191 ?_; refine pv_ 13 30 38 16383 ?_; refine pv_ 14 31 38 32767 ?_; refine pv_ 15 32 38 65535 ?_
               refine pv_ 16 33 38 131071 ?_; refine pv_ 18 35 38 393215 ?_; refine pv_ 20 37 38 1441791 ?_; refine pv_ 21 38 38 3538943 ?_; (refine ta_ 17 34 38 3670015 ?_ rfl rfl (take_ofW HT_.out HW_.out (by kernel_rfl)) (fun _ _ _ h => h) (by rfl) ?_ hHeld ?_ ?_ ?_; rotate_left; rintro w' ⟨s0, s1, s2, s3, s4, s5, s6⟩; go_simp; with_reducible rfl; rotate_left; simp only [Act.put, q1, q2, q3, i64_w, i32_w]; rfl); (refine ta_ 19 36 38 4194303 ?_ rfl rfl (take_ofW HT_.out HW_.out (by kernel_rfl)) (fun _ _ _ h => h) (by rfl) ?_ hHeld ?_ ?_ ?_; rotate_left; rintro w' ⟨s0, s1, s2, s3, s4, s5, s6⟩; go_simp; with_reducible rfl; rotate_left; simp only [Act.put, q1, q2, q3, i64_w, i32_w]; rfl)
               refine pv_ 22 39 38 8388607 ?_; refine pv_ 23 40 38 16777215 ?_; (refine ta_ 24 41 38 33554431 ?_ rfl rfl (take_ofW HT_.out HW_.out (by kernel_rfl)) (fun _ _ _ h => h) (by rfl) ?_ hHeld ?_ ?_ ?_; rotate_left; rintro w' ⟨s0, s1, s2, s3, s4, s5, s6⟩; go_simp; with_reducible rfl; rotate_left; simp only [Act.put, q1, q2, q3, i64_w, i32_w]; rfl); refine pv_ 25 42 38 67108863 ?_; refine pv_ 26 43 38 134217727 ?_; refine pv_ 27 44 38 268435455 ?_
               refine pv_ 28 45 38 536870911 ?_; refine pv_ 29 46 38 1073741823 ?_; (refine ta_ 30 47 38 2147483647 ?_ rfl rfl (take_ofW HT_.out HW_.out (by kernel_rfl)) (fun _ _ _ h => h) (by rfl) ?_ hHeld ?_ ?_ ?_; rotate_left; rintro w' ⟨s0, s1, s2, s3, s4, s5, s6⟩; go_simp; with_reducible rfl; rotate_left; simp only [Act.put, q1, q2, q3, i64_w, i32_w]; rfl); refine pv_ 31 48 38 4294967295 ?_; refine pv_ 32 49 38 8589934591 ?_; refine pv_ 33 50 38 17179869183 ?_
               refine pv_ 34 51 38 34359738367 ?_; (refine ta_ 35 52 38 68719476735 ?_ rfl rfl (take_ofW HT_.out HW_.out (by kernel_rfl)) (fun _ _ _ h => h) (by rfl) ?_ hHeld ?_ ?_ ?_; rotate_left; rintro w' ⟨s0, s1, s2, s3, s4, s5, s6⟩; go_simp; with_reducible rfl; rotate_left; simp only [Act.put, q1, q2, q3, i64_w, i32_w]; rfl); refine pv_ 36 53 38 137438953471 ?_; refine pv_ 37 54 38 274877906943 ?_; refine done_ (done_of HT_.out (by kernel_rfl)) ?_; (try go_wp2); go_ret; exact ⟨by first | rfl | (simp [errW_none, errW_some] <;> rfl) | (simp only [← hji19]; first | rfl | (simp [errW_none, errW_some] <;> rfl)) | (simp [*, errW_none, errW_some] <;> rfl), hBq⟩
              ·rw [if_neg c34] at H
               have d6_ : decide (2147483647 ≤ ((rd_T33 l0_0 a0_).f1)) = false := decide_eq_false c34; clear c34; have H' := As H; clear H; have b1_ : 0 ≤ (a0_ : Int) := dq; have b2_ : a0_ < (l0_0.length : Int) := dq; obtain ⟨a5_, b4_, _, _, _⟩ := at_T33 (Kd.C_below HR0_0.out HB.out) a0_ b1_ b2_; cases b4_; replace b1_ := eq_true b1_; replace b2_ := eq_true b2_
               (try go_wp2_with (first | ((with_reducible refine gate_dst (N := 4) rfl ?_); refine bxE 4 #[.int .i64 0, .int .i64 0, .string (⟨#[]⟩ : ByteArray)] 33 ?_; intro a1_ hg w40 hbox hb; have a2_ := As (hbox); have b3_ := As (by rw [hg]; exact (below_size hBq) : w.heap.size ≤ a1_); replace HB := sBq hb; have b8_ := b3_; have a4_ := As (by rw [hg]; exact Nat.ne_of_lt (blk_lt (g := a6_) (plq a3_.out)) : a6_ ≠ a1_); replace a3_ := As (blk_below (plq a3_.out) hb); have b0_ := As a4_.out.symm; clear hb hbox hg; have f0_ := b0_.out; have f1_ := a4_.out; have := cf3 a2_.out)))
               have n0_ : Aside0 ((((w40.setCell ⟨a1_, 0, none⟩ (((rd_T33 l0_0 a0_).f0))).setCell ⟨a1_, 1, none⟩ (((rd_T33 l0_0 a0_).f1))).setCell ⟨a1_, 2, none⟩ (.string ((rd_T33 l0_0 a0_).f2))).heap[a6_]? = some (.cells #[.slice (some a5_) l0_0.length c0_0] 25 (0, 0))) := ⟨by (iterate 3 (refine blk_far ?_ a4_.out _)); exact a3_.out⟩; have n1_ : Aside0 ((((w40.setCell ⟨a1_, 0, none⟩ (((rd_T33 l0_0 a0_).f0))).setCell ⟨a1_, 1, none⟩ (((rd_T33 l0_0 a0_).f1))).setCell ⟨a1_, 2, none⟩ (.string ((rd_T33 l0_0 a0_).f2))).heap[a1_]? = some (.cells #[((rd_T33 l0_0 a0_).f0), ((rd_T33 l0_0 a0_).f1), .string ((rd_T33 l0_0 a0_).f2)] 33 (0, 0))) := ⟨by apply puts3; exact a2_.out⟩
               have n2_ : Aside0 (Below w.heap.size w (((w40.setCell ⟨a1_, 0, none⟩ (((rd_T33 l0_0 a0_).f0))).setCell ⟨a1_, 1, none⟩ (((rd_T33 l0_0 a0_).f1))).setCell ⟨a1_, 2, none⟩ (.string ((rd_T33 l0_0 a0_).f2)))) := ⟨hBq⟩; (try clear a3_); (try clear a2_); (try clear HB); generalize (((w40.setCell ⟨a1_, 0, none⟩ (((rd_T33 l0_0 a0_).f0))).setCell ⟨a1_, 1, none⟩ (((rd_T33 l0_0 a0_).f1))).setCell ⟨a1_, 2, none⟩ (.string ((rd_T33 l0_0 a0_).f2))) = w43 at n0_ n1_ n2_ ⊢; have a3_ := n0_; have a2_ := n1_; have HB := n2_; clear n0_ n1_ n2_; replace a3_ := As (blk_drew a3_.out); replace a2_ := As (blk_drew a2_.out); replace HB := As (below_drew1 HB.out); have b6_ : 0 ≤ ((ji19) : Int) := dq; have b7_ : (ji19) < (l0_0.length : Int) := dq; obtain ⟨b9_, c0_, a7_, a8_, a9_⟩ := at_T33 HR0_0.out (ji19) b6_ b7_; have hw190_2 := a9_; have hw190_1 := a8_; have hw190_0 := a7_; obtain rfl : a5_ = b9_ := (by injection c0_)
               replace a7_ := (HB.out.cell (World.block_lt_of_cell? w _ a7_)).trans a7_; replace a8_ := (HB.out.cell (World.block_lt_of_cell? w _ a8_)).trans a8_; replace a9_ := (HB.out.cell (World.block_lt_of_cell? w _ a9_)).trans a9_; replace b6_ := eq_true b6_; replace b7_ := eq_true b7_
               refine start_ (n := 38) (S := fun w' => w'.cell? ⟨a1_, 0, none⟩ = some (.int .i64 ((rd_T33 l0_0 a0_).f0)) ∧ w'.cell? ⟨a1_, 1, none⟩ = some (.int .i64 ((rd_T33 l0_0 a0_).f1)) ∧ w'.cell? ⟨a1_, 2, none⟩ = some (.string ((rd_T33 l0_0 a0_).f2)) ∧ w'.cell? ⟨a6_, 0, none⟩ = some (.slice (some a5_) l0_0.length c0_0) ∧ w'.cell? (a5_.add (((ji19)).toNat * 3)) = some (.int .i64 ((rd_T33 l0_0 (ji19)).f0)) ∧ w'.cell? ⟨(a5_.add (((ji19)).toNat * 3)).block, (a5_.add (((ji19)).toNat * 3)).off + 1, none⟩ = some (.int .i64 ((rd_T33 l0_0 (ji19)).f1)) ∧ w'.cell? ⟨(a5_.add (((ji19)).toNat * 3)).block, (a5_.add (((ji19)).toNat * 3)).off + 2, none⟩ = some (.string ((rd_T33 l0_0 (ji19)).f2))) (ds := []) (marksOf 38 0) (by kernel_rfl) rfl rfl ⟨bc a2_ 0, bc a2_ 1, bc a2_ 2, bc a3_ 0, ((HB.out.cell (World.block_lt_of_cell? w _ hw190_0)).trans hw190_0), ((HB.out.cell (World.block_lt_of_cell? w _ hw190_1)).trans hw190_1), ((HB.out.cell (World.block_lt_of_cell? w _ hw190_2)).trans hw190_2)⟩ (fun hHeld => ?_); refine with_tabW ref09_Check.tab6 ref09_Check.bits6 (fun HT_ HW_ => ?_); generalize w43.drew = w44 at a3_ a2_ HB a7_ a8_ a9_ hHeld ⊢
               refine pv_ 0 17 38 1 ?_; (refine ta_ 1 18 38 3 ?_ rfl rfl (take_ofW HT_.out HW_.out (by kernel_rfl)) (fun _ _ _ h => h) (by rfl) ?_ hHeld ?_ ?_ ?_; rotate_left; rintro w' ⟨s0, s1, s2, s3, s4, s5, s6⟩; go_simp; with_reducible rfl; rotate_left; simp only [Act.put, q1, q2, q3, i64_w, i32_w]; rfl); refine pv_ 2 19 38 7 ?_; refine pv_ 3 20 38 15 ?_; refine pv_ 4 21 38 31 ?_; refine pv_ 5 22 38 63 ?_
               refine pv_ 7 24 38 191 ?_; (refine ta_ 6 23 38 255 ?_ rfl rfl (take_ofW HT_.out HW_.out (by kernel_rfl)) (fun _ _ _ h => h) (by rfl) ?_ hHeld ?_ ?_ ?_; rotate_left; rintro w' ⟨s0, s1, s2, s3, s4, s5, s6⟩; go_simp; with_reducible rfl; rotate_left; simp only [Act.put, q1, q2, q3, i64_w, i32_w]; rfl); (refine ta_ 8 25 38 511 ?_ rfl rfl (take_ofW HT_.out HW_.out (by kernel_rfl)) (fun _ _ _ h => h) (by rfl) ?_ hHeld ?_ ?_ ?_; rotate_left; rintro w' ⟨s0, s1, s2, s3, s4, s5, s6⟩; go_simp; with_reducible rfl; rotate_left; simp only [Act.put, q1, q2, q3, i64_w, i32_w]; rfl); refine one_ (i := 9) (N := some 26) (marksOf 38 1023) rfl rfl (one_of HT_.out (by kernel_rfl)) (by decide) (fun K hK => ?_); refine goes_ Try.func36 (by kernel_rfl) rfl #[.string ((rd_T33 l0_0 a0_).f2)] (by rfl) rfl rfl gq ?_
               with_reducible refine (ref02_Sum.calls k1 ((rd_T33 l0_0 a0_).f2) b5_ _ A16.out).mono ?_
               rintro e w' ⟨rfl, ⟨nd, rfl⟩⟩; refine ⟨_, rfl, ?_⟩; refine hK.out _ _ ⟨bc a2_ 0, bc a2_ 1, bc a2_ 2, bc a3_ 0, ((HB.out.cell (World.block_lt_of_cell? w _ hw190_0)).trans hw190_0), ((HB.out.cell (World.block_lt_of_cell? w _ hw190_1)).trans hw190_1), ((HB.out.cell (World.block_lt_of_cell? w _ hw190_2)).trans hw190_2)⟩ (fun hHeld => ?_); clear hK K; refine norm_ (a' := ?_) ?_ ?_; rotate_left
               ·show Act.put _ (some 26) _ = _
                simp only [Act.put, q1, q2, q3, i64_w, i32_w]; rfl
               refine pv_ 10 27 38 2047 ?_; refine pv_ 11 28 38 4095 ?_; refine pv_ 12 29 38 8191 ?_; refine pv_ 13 30 38 16383 ?_; refine pv_ 14 31 38 32767 ?_; refine pv_ 15 32 38 65535 ?_
               refine pv_ 16 33 38 131071 ?_; refine pv_ 18 35 38 393215 ?_; refine pv_ 20 37 38 1441791 ?_; refine pv_ 21 38 38 3538943 ?_; (refine ta_ 17 34 38 3670015 ?_ rfl rfl (take_ofW HT_.out HW_.out (by kernel_rfl)) (fun _ _ _ h => h) (by rfl) ?_ hHeld ?_ ?_ ?_; rotate_left; rintro w' ⟨s0, s1, s2, s3, s4, s5, s6⟩; go_simp; with_reducible rfl; rotate_left; simp only [Act.put, q1, q2, q3, i64_w, i32_w]; rfl); (refine ta_ 19 36 38 4194303 ?_ rfl rfl (take_ofW HT_.out HW_.out (by kernel_rfl)) (fun _ _ _ h => h) (by rfl) ?_ hHeld ?_ ?_ ?_; rotate_left; rintro w' ⟨s0, s1, s2, s3, s4, s5, s6⟩; go_simp; with_reducible rfl; rotate_left; simp only [Act.put, q1, q2, q3, i64_w, i32_w]; rfl)
               refine pv_ 22 39 38 8388607 ?_; refine pv_ 23 40 38 16777215 ?_; (refine ta_ 24 41 38 33554431 ?_ rfl rfl (take_ofW HT_.out HW_.out (by kernel_rfl)) (fun _ _ _ h => h) (by rfl) ?_ hHeld ?_ ?_ ?_; rotate_left; rintro w' ⟨s0, s1, s2, s3, s4, s5, s6⟩; go_simp; with_reducible rfl; rotate_left; simp only [Act.put, q1, q2, q3, i64_w, i32_w]; rfl); refine pv_ 25 42 38 67108863 ?_; refine pv_ 26 43 38 134217727 ?_; refine pv_ 27 44 38 268435455 ?_
               refine pv_ 28 45 38 536870911 ?_; refine pv_ 29 46 38 1073741823 ?_; (refine ta_ 30 47 38 2147483647 ?_ rfl rfl (take_ofW HT_.out HW_.out (by kernel_rfl)) (fun _ _ _ h => h) (by rfl) ?_ hHeld ?_ ?_ ?_; rotate_left; rintro w' ⟨s0, s1, s2, s3, s4, s5, s6⟩; go_simp; with_reducible rfl; rotate_left; simp only [Act.put, q1, q2, q3, i64_w, i32_w]; rfl); refine pv_ 31 48 38 4294967295 ?_; refine pv_ 32 49 38 8589934591 ?_; refine pv_ 33 50 38 17179869183 ?_
               refine pv_ 34 51 38 34359738367 ?_; (refine ta_ 35 52 38 68719476735 ?_ rfl rfl (take_ofW HT_.out HW_.out (by kernel_rfl)) (fun _ _ _ h => h) (by rfl) ?_ hHeld ?_ ?_ ?_; rotate_left; rintro w' ⟨s0, s1, s2, s3, s4, s5, s6⟩; go_simp; with_reducible rfl; rotate_left; simp only [Act.put, q1, q2, q3, i64_w, i32_w]; rfl); refine pv_ 36 53 38 137438953471 ?_; refine pv_ 37 54 38 274877906943 ?_; refine done_ (done_of HT_.out (by kernel_rfl)) ?_; (try go_wp2); go_roundg k1
               case measure => have := HK1.out; omega
               case rel => exact ⟨(wrap64 (a0_ + 1)), (by first | rfl | (simp; done) | (simp [*]; done)), H', ⟨by have := HK1.out; omega⟩, ⟨by refine plT ?_; exact a3_.out⟩, ⟨hBq⟩⟩
           ·rw [if_neg c21] at H
            exact absurd H (by simp)
          ·rw [if_neg c20] at H
           exact absurd H (by simp)
         ·rw [if_neg c18] at H
          have d3_ : decide (0 < a0_) = false := decide_eq_false c18; clear c18
          by_cases c45 : ((rd_T33 l0_0 a0_).f1) < 1
          ·rw [if_pos c45] at H
           have d7_ : decide (((rd_T33 l0_0 a0_).f1) < 1) = true := decide_eq_true c45; clear c45; obtain rfl := Option.some.inj H; have b1_ : 0 ≤ (a0_ : Int) := dq; have b2_ : a0_ < (l0_0.length : Int) := dq; obtain ⟨a5_, b4_, _, _, _⟩ := at_T33 (Kd.C_below HR0_0.out HB.out) a0_ b1_ b2_; cases b4_; replace b1_ := eq_true b1_; replace b2_ := eq_true b2_
           (try go_wp2_with (first | ((with_reducible refine gate_dst (N := 4) rfl ?_); refine bxE 4 #[.int .i64 0, .int .i64 0, .string (⟨#[]⟩ : ByteArray)] 33 ?_; intro a1_ hg w46 hbox hb; have a2_ := As (hbox); have b3_ := As (by rw [hg]; exact (below_size hBq) : w.heap.size ≤ a1_); replace HB := sBq hb; have b8_ := b3_; have a4_ := As (by rw [hg]; exact Nat.ne_of_lt (blk_lt (g := a6_) (plq a3_.out)) : a6_ ≠ a1_); replace a3_ := As (blk_below (plq a3_.out) hb); have b0_ := As a4_.out.symm; clear hb hbox hg; have f2_ := b0_.out; have f3_ := a4_.out; have := cf3 a2_.out)))
           have n0_ : Aside0 ((((w46.setCell ⟨a1_, 0, none⟩ (((rd_T33 l0_0 a0_).f0))).setCell ⟨a1_, 1, none⟩ (((rd_T33 l0_0 a0_).f1))).setCell ⟨a1_, 2, none⟩ (.string ((rd_T33 l0_0 a0_).f2))).heap[a6_]? = some (.cells #[.slice (some a5_) l0_0.length c0_0] 25 (0, 0))) := ⟨by (iterate 3 (refine blk_far ?_ a4_.out _)); exact a3_.out⟩; have n1_ : Aside0 ((((w46.setCell ⟨a1_, 0, none⟩ (((rd_T33 l0_0 a0_).f0))).setCell ⟨a1_, 1, none⟩ (((rd_T33 l0_0 a0_).f1))).setCell ⟨a1_, 2, none⟩ (.string ((rd_T33 l0_0 a0_).f2))).heap[a1_]? = some (.cells #[((rd_T33 l0_0 a0_).f0), ((rd_T33 l0_0 a0_).f1), .string ((rd_T33 l0_0 a0_).f2)] 33 (0, 0))) := ⟨by apply puts3; exact a2_.out⟩
           have n2_ : Aside0 (Below w.heap.size w (((w46.setCell ⟨a1_, 0, none⟩ (((rd_T33 l0_0 a0_).f0))).setCell ⟨a1_, 1, none⟩ (((rd_T33 l0_0 a0_).f1))).setCell ⟨a1_, 2, none⟩ (.string ((rd_T33 l0_0 a0_).f2)))) := ⟨hBq⟩; (try clear a3_); (try clear a2_); (try clear HB); generalize (((w46.setCell ⟨a1_, 0, none⟩ (((rd_T33 l0_0 a0_).f0))).setCell ⟨a1_, 1, none⟩ (((rd_T33 l0_0 a0_).f1))).setCell ⟨a1_, 2, none⟩ (.string ((rd_T33 l0_0 a0_).f2))) = w49 at n0_ n1_ n2_ ⊢; have a3_ := n0_; have a2_ := n1_; have HB := n2_; clear n0_ n1_ n2_; replace a3_ := As (blk_drew a3_.out); replace a2_ := As (blk_drew a2_.out); replace HB := As (below_drew1 HB.out)
           refine start_ (n := 38) (S := fun w' => w'.cell? ⟨a1_, 0, none⟩ = some (.int .i64 ((rd_T33 l0_0 a0_).f0)) ∧ w'.cell? ⟨a1_, 1, none⟩ = some (.int .i64 ((rd_T33 l0_0 a0_).f1)) ∧ w'.cell? ⟨a1_, 2, none⟩ = some (.string ((rd_T33 l0_0 a0_).f2))) (ds := []) (marksOf 38 0) (by kernel_rfl) rfl rfl ⟨bc a2_ 0, bc a2_ 1, bc a2_ 2⟩ (fun hHeld => ?_); refine with_tabW ref09_Check.tab6 ref09_Check.bits6 (fun HT_ HW_ => ?_); generalize w49.drew = w50 at a3_ a2_ HB hHeld ⊢; refine pv_ 0 17 38 1 ?_; (refine ta_ 1 18 38 3 ?_ rfl rfl (take_ofW HT_.out HW_.out (by kernel_rfl)) (fun _ _ _ h => h) (by rfl) ?_ hHeld ?_ ?_ ?_; rotate_left; rintro w' ⟨s0, s1, s2⟩; go_simp; with_reducible rfl; rotate_left; simp only [Act.put, q1, q2, q3, i64_w, i32_w]; rfl); refine pv_ 2 19 38 7 ?_
           refine pv_ 3 20 38 15 ?_; refine pv_ 4 21 38 31 ?_; refine pv_ 5 22 38 63 ?_; refine pv_ 7 24 38 191 ?_; (refine ta_ 6 23 38 255 ?_ rfl rfl (take_ofW HT_.out HW_.out (by kernel_rfl)) (fun _ _ _ h => h) (by rfl) ?_ hHeld ?_ ?_ ?_; rotate_left; rintro w' ⟨s0, s1, s2⟩; go_simp; with_reducible rfl; rotate_left; simp only [Act.put, q1, q2, q3, i64_w, i32_w]; rfl); (refine ta_ 8 25 38 511 ?_ rfl rfl (take_ofW HT_.out HW_.out (by kernel_rfl)) (fun _ _ _ h => h) (by rfl) ?_ hHeld ?_ ?_ ?_; rotate_left; rintro w' ⟨s0, s1, s2⟩; go_simp; with_reducible rfl; rotate_left; simp only [Act.put, q1, q2, q3, i64_w, i32_w]; rfl)
           refine one_ (i := 9) (N := some 26) (marksOf 38 1023) rfl rfl (one_of HT_.out (by kernel_rfl)) (by decide) (fun K hK => ?_); refine goes_ Try.func36 (by kernel_rfl) rfl #[.string ((rd_T33 l0_0 a0_).f2)] (by rfl) rfl rfl gq ?_
           with_reducible refine (ref02_Sum.calls k1 ((rd_T33 l0_0 a0_).f2) b5_ _ A16.out).mono ?_
           rintro e w' ⟨rfl, ⟨nd, rfl⟩⟩; refine ⟨_, rfl, ?_⟩; refine hK.out _ _ ⟨bc a2_ 0, bc a2_ 1, bc a2_ 2⟩ (fun hHeld => ?_); clear hK K; refine norm_ (a' := ?_) ?_ ?_; rotate_left
           ·show Act.put _ (some 26) _ = _
            simp only [Act.put, q1, q2, q3, i64_w, i32_w]; rfl
           refine pv_ 10 27 38 2047 ?_; refine pv_ 11 28 38 4095 ?_; refine pv_ 12 29 38 8191 ?_; refine pv_ 13 30 38 16383 ?_; refine pv_ 14 31 38 32767 ?_; refine pv_ 15 32 38 65535 ?_
           refine pure_ (i := 16) (N := some 33) (v := undef) (a' := ?_) (marksOf 38 131071) rfl rfl (any_of HT_.out (by kernel_rfl)) (fun _ _ _ h => h) (Or.inr ⟨by rfl, rfl⟩) ?_ ?_; rotate_left
           ·simp only [Act.put, q1, q2, q3, i64_w, i32_w]
            rfl
           refine pure_ (i := 17) (N := some 34) (v := undef) (a' := ?_) (marksOf 38 262143) rfl rfl (any_of HT_.out (by kernel_rfl)) (fun _ _ _ h => h) (Or.inr ⟨by rfl, rfl⟩) ?_ ?_; rotate_left
           ·simp only [Act.put, q1, q2, q3, i64_w, i32_w]
            rfl
           refine pure_ (i := 18) (N := some 35) (v := undef) (a' := ?_) (marksOf 38 524287) rfl rfl (any_of HT_.out (by kernel_rfl)) (fun _ _ _ h => h) (Or.inr ⟨by rfl, rfl⟩) ?_ ?_; rotate_left
           ·simp only [Act.put, q1, q2, q3, i64_w, i32_w]
            rfl
           refine pure_ (i := 19) (N := some 36) (v := undef) (a' := ?_) (marksOf 38 1048575) rfl rfl (any_of HT_.out (by kernel_rfl)) (fun _ _ _ h => h) (Or.inr ⟨by rfl, rfl⟩) ?_ ?_; rotate_left
           ·simp only [Act.put, q1, q2, q3, i64_w, i32_w]
            rfl
           refine pure_ (i := 20) (N := some 37) (v := undef) (a' := ?_) (marksOf 38 2097151) rfl rfl (any_of HT_.out (by kernel_rfl)) (fun _ _ _ h => h) (Or.inr ⟨by rfl, rfl⟩) ?_ ?_; rotate_left
           ·simp only [Act.put, q1, q2, q3, i64_w, i32_w]
            rfl
           refine pure_ (i := 21) (N := some 38) (v := undef) (a' := ?_) (marksOf 38 4194303) rfl rfl (any_of HT_.out (by kernel_rfl)) (fun _ _ _ h => h) (Or.inr ⟨by rfl, rfl⟩) ?_ ?_; rotate_left
           ·simp only [Act.put, q1, q2, q3, i64_w, i32_w]
            rfl
           refine pure_ (i := 22) (N := some 39) (v := undef) (a' := ?_) (marksOf 38 8388607) rfl rfl (any_of HT_.out (by kernel_rfl)) (fun _ _ _ h => h) (Or.inr ⟨by rfl, rfl⟩) ?_ ?_; rotate_left
           ·simp only [Act.put, q1, q2, q3, i64_w, i32_w]
            rfl
           refine pure_ (i := 23) (N := some 40) (v := undef) (a' := ?_) (marksOf 38 16777215) rfl rfl (any_of HT_.out (by kernel_rfl)) (fun _ _ _ h => h) (Or.inr ⟨by rfl, rfl⟩) ?_ ?_; rotate_left
           ·simp only [Act.put, q1, q2, q3, i64_w, i32_w]
            rfl
           refine pure_ (i := 24) (N := some 41) (v := undef) (a' := ?_) (marksOf 38 33554431) rfl rfl (any_of HT_.out (by kernel_rfl)) (fun _ _ _ h => h) (Or.inr ⟨by rfl, rfl⟩) ?_ ?_; rotate_left
           ·simp only [Act.put, q1, q2, q3, i64_w, i32_w]
            rfl
           refine pure_ (i := 25) (N := some 42) (v := undef) (a' := ?_) (marksOf 38 67108863) rfl rfl (any_of HT_.out (by kernel_rfl)) (fun _ _ _ h => h) (Or.inr ⟨by rfl, rfl⟩) ?_ ?_; rotate_left
           ·simp only [Act.put, q1, q2, q3, i64_w, i32_w]
            rfl
           refine pv_ 26 43 38 134217727 ?_; refine pv_ 27 44 38 268435455 ?_; refine pv_ 28 45 38 536870911 ?_; refine pv_ 29 46 38 1073741823 ?_; (refine ta_ 30 47 38 2147483647 ?_ rfl rfl (take_ofW HT_.out HW_.out (by kernel_rfl)) (fun _ _ _ h => h) (by rfl) ?_ hHeld ?_ ?_ ?_; rotate_left; rintro w' ⟨s0, s1, s2⟩; go_simp; with_reducible rfl; rotate_left; simp only [Act.put, q1, q2, q3, i64_w, i32_w]; rfl); refine pv_ 31 48 38 4294967295 ?_
           refine pv_ 32 49 38 8589934591 ?_; refine pv_ 33 50 38 17179869183 ?_; refine pure_ (i := 34) (N := some 51) (v := undef) (a' := ?_) (marksOf 38 34359738367) rfl rfl (any_of HT_.out (by kernel_rfl)) (fun _ _ _ h => h) (Or.inr ⟨by rfl, rfl⟩) ?_ ?_; rotate_left
           ·simp only [Act.put, q1, q2, q3, i64_w, i32_w]
            rfl
           refine pure_ (i := 35) (N := some 52) (v := undef) (a' := ?_) (marksOf 38 68719476735) rfl rfl (any_of HT_.out (by kernel_rfl)) (fun _ _ _ h => h) (Or.inr ⟨by rfl, rfl⟩) ?_ ?_; rotate_left
           ·simp only [Act.put, q1, q2, q3, i64_w, i32_w]
            rfl
           refine pure_ (i := 36) (N := some 53) (v := undef) (a' := ?_) (marksOf 38 137438953471) rfl rfl (any_of HT_.out (by kernel_rfl)) (fun _ _ _ h => h) (Or.inr ⟨by rfl, rfl⟩) ?_ ?_; rotate_left
           ·simp only [Act.put, q1, q2, q3, i64_w, i32_w]
            rfl
           refine pv_ 37 54 38 274877906943 ?_; refine done_ (done_of HT_.out (by kernel_rfl)) ?_; (try go_wp2); go_ret; exact ⟨by first | rfl | (simp [errW_none, errW_some] <;> rfl) | (simp [*, errW_none, errW_some] <;> rfl), hBq⟩
          ·rw [if_neg c45] at H
           have d7_ : decide (((rd_T33 l0_0 a0_).f1) < 1) = false := decide_eq_false c45; clear c45
           by_cases c51 : ((rd_T33 l0_0 a0_).f1) ≥ 2147483647
           ·rw [if_pos c51] at H
            have d8_ : decide (2147483647 ≤ ((rd_T33 l0_0 a0_).f1)) = true := decide_eq_true c51; clear c51; obtain rfl := Option.some.inj H; have b1_ : 0 ≤ (a0_ : Int) := dq; have b2_ : a0_ < (l0_0.length : Int) := dq; obtain ⟨a5_, b4_, _, _, _⟩ := at_T33 (Kd.C_below HR0_0.out HB.out) a0_ b1_ b2_; cases b4_; replace b1_ := eq_true b1_; replace b2_ := eq_true b2_
            (try go_wp2_with (first | ((with_reducible refine gate_dst (N := 4) rfl ?_); refine bxE 4 #[.int .i64 0, .int .i64 0, .string (⟨#[]⟩ : ByteArray)] 33 ?_; intro a1_ hg w52 hbox hb; have a2_ := As (hbox); have b3_ := As (by rw [hg]; exact (below_size hBq) : w.heap.size ≤ a1_); replace HB := sBq hb; have b8_ := b3_; have a4_ := As (by rw [hg]; exact Nat.ne_of_lt (blk_lt (g := a6_) (plq a3_.out)) : a6_ ≠ a1_); replace a3_ := As (blk_below (plq a3_.out) hb); have b0_ := As a4_.out.symm; clear hb hbox hg; have f4_ := b0_.out; have f5_ := a4_.out; have := cf3 a2_.out)))
            have n0_ : Aside0 ((((w52.setCell ⟨a1_, 0, none⟩ (((rd_T33 l0_0 a0_).f0))).setCell ⟨a1_, 1, none⟩ (((rd_T33 l0_0 a0_).f1))).setCell ⟨a1_, 2, none⟩ (.string ((rd_T33 l0_0 a0_).f2))).heap[a6_]? = some (.cells #[.slice (some a5_) l0_0.length c0_0] 25 (0, 0))) := ⟨by (iterate 3 (refine blk_far ?_ a4_.out _)); exact a3_.out⟩; have n1_ : Aside0 ((((w52.setCell ⟨a1_, 0, none⟩ (((rd_T33 l0_0 a0_).f0))).setCell ⟨a1_, 1, none⟩ (((rd_T33 l0_0 a0_).f1))).setCell ⟨a1_, 2, none⟩ (.string ((rd_T33 l0_0 a0_).f2))).heap[a1_]? = some (.cells #[((rd_T33 l0_0 a0_).f0), ((rd_T33 l0_0 a0_).f1), .string ((rd_T33 l0_0 a0_).f2)] 33 (0, 0))) := ⟨by apply puts3; exact a2_.out⟩
            have n2_ : Aside0 (Below w.heap.size w (((w52.setCell ⟨a1_, 0, none⟩ (((rd_T33 l0_0 a0_).f0))).setCell ⟨a1_, 1, none⟩ (((rd_T33 l0_0 a0_).f1))).setCell ⟨a1_, 2, none⟩ (.string ((rd_T33 l0_0 a0_).f2)))) := ⟨hBq⟩; (try clear a3_); (try clear a2_); (try clear HB); generalize (((w52.setCell ⟨a1_, 0, none⟩ (((rd_T33 l0_0 a0_).f0))).setCell ⟨a1_, 1, none⟩ (((rd_T33 l0_0 a0_).f1))).setCell ⟨a1_, 2, none⟩ (.string ((rd_T33 l0_0 a0_).f2))) = w55 at n0_ n1_ n2_ ⊢; have a3_ := n0_; have a2_ := n1_; have HB := n2_; clear n0_ n1_ n2_; replace a3_ := As (blk_drew a3_.out); replace a2_ := As (blk_drew a2_.out); replace HB := As (below_drew1 HB.out)
            refine start_ (n := 38) (S := fun w' => w'.cell? ⟨a1_, 0, none⟩ = some (.int .i64 ((rd_T33 l0_0 a0_).f0)) ∧ w'.cell? ⟨a1_, 1, none⟩ = some (.int .i64 ((rd_T33 l0_0 a0_).f1)) ∧ w'.cell? ⟨a1_, 2, none⟩ = some (.string ((rd_T33 l0_0 a0_).f2))) (ds := []) (marksOf 38 0) (by kernel_rfl) rfl rfl ⟨bc a2_ 0, bc a2_ 1, bc a2_ 2⟩ (fun hHeld => ?_); refine with_tabW ref09_Check.tab6 ref09_Check.bits6 (fun HT_ HW_ => ?_); generalize w55.drew = w56 at a3_ a2_ HB hHeld ⊢; refine pv_ 0 17 38 1 ?_; (refine ta_ 1 18 38 3 ?_ rfl rfl (take_ofW HT_.out HW_.out (by kernel_rfl)) (fun _ _ _ h => h) (by rfl) ?_ hHeld ?_ ?_ ?_; rotate_left; rintro w' ⟨s0, s1, s2⟩; go_simp; with_reducible rfl; rotate_left; simp only [Act.put, q1, q2, q3, i64_w, i32_w]; rfl); refine pv_ 2 19 38 7 ?_
            refine pv_ 3 20 38 15 ?_; refine pv_ 4 21 38 31 ?_; refine pv_ 5 22 38 63 ?_; refine pv_ 7 24 38 191 ?_; (refine ta_ 6 23 38 255 ?_ rfl rfl (take_ofW HT_.out HW_.out (by kernel_rfl)) (fun _ _ _ h => h) (by rfl) ?_ hHeld ?_ ?_ ?_; rotate_left; rintro w' ⟨s0, s1, s2⟩; go_simp; with_reducible rfl; rotate_left; simp only [Act.put, q1, q2, q3, i64_w, i32_w]; rfl); (refine ta_ 8 25 38 511 ?_ rfl rfl (take_ofW HT_.out HW_.out (by kernel_rfl)) (fun _ _ _ h => h) (by rfl) ?_ hHeld ?_ ?_ ?_; rotate_left; rintro w' ⟨s0, s1, s2⟩; go_simp; with_reducible rfl; rotate_left; simp only [Act.put, q1, q2, q3, i64_w, i32_w]; rfl)
            refine one_ (i := 9) (N := some 26) (marksOf 38 1023) rfl rfl (one_of HT_.out (by kernel_rfl)) (by decide) (fun K hK => ?_); refine goes_ Try.func36 (by kernel_rfl) rfl #[.string ((rd_T33 l0_0 a0_).f2)] (by rfl) rfl rfl gq ?_
            with_reducible refine (ref02_Sum.calls k1 ((rd_T33 l0_0 a0_).f2) b5_ _ A16.out).mono ?_
            rintro e w' ⟨rfl, ⟨nd, rfl⟩⟩; refine ⟨_, rfl, ?_⟩; refine hK.out _ _ ⟨bc a2_ 0, bc a2_ 1, bc a2_ 2⟩ (fun hHeld => ?_); clear hK K; refine norm_ (a' := ?_) ?_ ?_; rotate_left
            ·show Act.put _ (some 26) _ = _
             simp only [Act.put, q1, q2, q3, i64_w, i32_w]; rfl
            refine pv_ 10 27 38 2047 ?_; refine pv_ 11 28 38 4095 ?_; refine pv_ 12 29 38 8191 ?_; refine pv_ 13 30 38 16383 ?_; refine pv_ 14 31 38 32767 ?_; refine pv_ 15 32 38 65535 ?_
            refine pure_ (i := 16) (N := some 33) (v := undef) (a' := ?_) (marksOf 38 131071) rfl rfl (any_of HT_.out (by kernel_rfl)) (fun _ _ _ h => h) (Or.inr ⟨by rfl, rfl⟩) ?_ ?_; rotate_left
            ·simp only [Act.put, q1, q2, q3, i64_w, i32_w]
             rfl
            refine pure_ (i := 17) (N := some 34) (v := undef) (a' := ?_) (marksOf 38 262143) rfl rfl (any_of HT_.out (by kernel_rfl)) (fun _ _ _ h => h) (Or.inr ⟨by rfl, rfl⟩) ?_ ?_; rotate_left
            ·simp only [Act.put, q1, q2, q3, i64_w, i32_w]
             rfl
            refine pure_ (i := 18) (N := some 35) (v := undef) (a' := ?_) (marksOf 38 524287) rfl rfl (any_of HT_.out (by kernel_rfl)) (fun _ _ _ h => h) (Or.inr ⟨by rfl, rfl⟩) ?_ ?_; rotate_left
            ·simp only [Act.put, q1, q2, q3, i64_w, i32_w]
             rfl
            refine pure_ (i := 19) (N := some 36) (v := undef) (a' := ?_) (marksOf 38 1048575) rfl rfl (any_of HT_.out (by kernel_rfl)) (fun _ _ _ h => h) (Or.inr ⟨by rfl, rfl⟩) ?_ ?_; rotate_left
            ·simp only [Act.put, q1, q2, q3, i64_w, i32_w]
             rfl
            refine pure_ (i := 20) (N := some 37) (v := undef) (a' := ?_) (marksOf 38 2097151) rfl rfl (any_of HT_.out (by kernel_rfl)) (fun _ _ _ h => h) (Or.inr ⟨by rfl, rfl⟩) ?_ ?_; rotate_left
            ·simp only [Act.put, q1, q2, q3, i64_w, i32_w]
             rfl
            refine pure_ (i := 21) (N := some 38) (v := undef) (a' := ?_) (marksOf 38 4194303) rfl rfl (any_of HT_.out (by kernel_rfl)) (fun _ _ _ h => h) (Or.inr ⟨by rfl, rfl⟩) ?_ ?_; rotate_left
            ·simp only [Act.put, q1, q2, q3, i64_w, i32_w]
             rfl
            refine pure_ (i := 22) (N := some 39) (v := undef) (a' := ?_) (marksOf 38 8388607) rfl rfl (any_of HT_.out (by kernel_rfl)) (fun _ _ _ h => h) (Or.inr ⟨by rfl, rfl⟩) ?_ ?_; rotate_left
            ·simp only [Act.put, q1, q2, q3, i64_w, i32_w]
             rfl
            refine pure_ (i := 23) (N := some 40) (v := undef) (a' := ?_) (marksOf 38 16777215) rfl rfl (any_of HT_.out (by kernel_rfl)) (fun _ _ _ h => h) (Or.inr ⟨by rfl, rfl⟩) ?_ ?_; rotate_left
            ·simp only [Act.put, q1, q2, q3, i64_w, i32_w]
             rfl
            refine pure_ (i := 24) (N := some 41) (v := undef) (a' := ?_) (marksOf 38 33554431) rfl rfl (any_of HT_.out (by kernel_rfl)) (fun _ _ _ h => h) (Or.inr ⟨by rfl, rfl⟩) ?_ ?_; rotate_left
            ·simp only [Act.put, q1, q2, q3, i64_w, i32_w]
             rfl
            refine pure_ (i := 25) (N := some 42) (v := undef) (a' := ?_) (marksOf 38 67108863) rfl rfl (any_of HT_.out (by kernel_rfl)) (fun _ _ _ h => h) (Or.inr ⟨by rfl, rfl⟩) ?_ ?_; rotate_left
            ·simp only [Act.put, q1, q2, q3, i64_w, i32_w]
             rfl
            refine pv_ 26 43 38 134217727 ?_; refine pv_ 27 44 38 268435455 ?_; refine pv_ 28 45 38 536870911 ?_; refine pv_ 29 46 38 1073741823 ?_; (refine ta_ 30 47 38 2147483647 ?_ rfl rfl (take_ofW HT_.out HW_.out (by kernel_rfl)) (fun _ _ _ h => h) (by rfl) ?_ hHeld ?_ ?_ ?_; rotate_left; rintro w' ⟨s0, s1, s2⟩; go_simp; with_reducible rfl; rotate_left; simp only [Act.put, q1, q2, q3, i64_w, i32_w]; rfl); refine pv_ 31 48 38 4294967295 ?_
            refine pv_ 32 49 38 8589934591 ?_; refine pv_ 33 50 38 17179869183 ?_; refine pv_ 34 51 38 34359738367 ?_; (refine ta_ 35 52 38 68719476735 ?_ rfl rfl (take_ofW HT_.out HW_.out (by kernel_rfl)) (fun _ _ _ h => h) (by rfl) ?_ hHeld ?_ ?_ ?_; rotate_left; rintro w' ⟨s0, s1, s2⟩; go_simp; with_reducible rfl; rotate_left; simp only [Act.put, q1, q2, q3, i64_w, i32_w]; rfl); refine pv_ 36 53 38 137438953471 ?_; refine pv_ 37 54 38 274877906943 ?_
            refine done_ (done_of HT_.out (by kernel_rfl)) ?_; (try go_wp2); go_ret; exact ⟨by first | rfl | (simp [errW_none, errW_some] <;> rfl) | (simp [*, errW_none, errW_some] <;> rfl), hBq⟩
           ·rw [if_neg c51] at H
            have d8_ : decide (2147483647 ≤ ((rd_T33 l0_0 a0_).f1)) = false := decide_eq_false c51; clear c51; have H' := As H; clear H; have b1_ : 0 ≤ (a0_ : Int) := dq; have b2_ : a0_ < (l0_0.length : Int) := dq; obtain ⟨a5_, b4_, _, _, _⟩ := at_T33 (Kd.C_below HR0_0.out HB.out) a0_ b1_ b2_; cases b4_; replace b1_ := eq_true b1_; replace b2_ := eq_true b2_
            (try go_wp2_with (first | ((with_reducible refine gate_dst (N := 4) rfl ?_); refine bxE 4 #[.int .i64 0, .int .i64 0, .string (⟨#[]⟩ : ByteArray)] 33 ?_; intro a1_ hg w57 hbox hb; have a2_ := As (hbox); have b3_ := As (by rw [hg]; exact (below_size hBq) : w.heap.size ≤ a1_); replace HB := sBq hb; have b8_ := b3_; have a4_ := As (by rw [hg]; exact Nat.ne_of_lt (blk_lt (g := a6_) (plq a3_.out)) : a6_ ≠ a1_); replace a3_ := As (blk_below (plq a3_.out) hb); have b0_ := As a4_.out.symm; clear hb hbox hg; have f6_ := b0_.out; have f7_ := a4_.out; have := cf3 a2_.out)))
            have n0_ : Aside0 ((((w57.setCell ⟨a1_, 0, none⟩ (((rd_T33 l0_0 a0_).f0))).setCell ⟨a1_, 1, none⟩ (((rd_T33 l0_0 a0_).f1))).setCell ⟨a1_, 2, none⟩ (.string ((rd_T33 l0_0 a0_).f2))).heap[a6_]? = some (.cells #[.slice (some a5_) l0_0.length c0_0] 25 (0, 0))) := ⟨by (iterate 3 (refine blk_far ?_ a4_.out _)); exact a3_.out⟩; have n1_ : Aside0 ((((w57.setCell ⟨a1_, 0, none⟩ (((rd_T33 l0_0 a0_).f0))).setCell ⟨a1_, 1, none⟩ (((rd_T33 l0_0 a0_).f1))).setCell ⟨a1_, 2, none⟩ (.string ((rd_T33 l0_0 a0_).f2))).heap[a1_]? = some (.cells #[((rd_T33 l0_0 a0_).f0), ((rd_T33 l0_0 a0_).f1), .string ((rd_T33 l0_0 a0_).f2)] 33 (0, 0))) := ⟨by apply puts3; exact a2_.out⟩
            have n2_ : Aside0 (Below w.heap.size w (((w57.setCell ⟨a1_, 0, none⟩ (((rd_T33 l0_0 a0_).f0))).setCell ⟨a1_, 1, none⟩ (((rd_T33 l0_0 a0_).f1))).setCell ⟨a1_, 2, none⟩ (.string ((rd_T33 l0_0 a0_).f2)))) := ⟨hBq⟩; (try clear a3_); (try clear a2_); (try clear HB); generalize (((w57.setCell ⟨a1_, 0, none⟩ (((rd_T33 l0_0 a0_).f0))).setCell ⟨a1_, 1, none⟩ (((rd_T33 l0_0 a0_).f1))).setCell ⟨a1_, 2, none⟩ (.string ((rd_T33 l0_0 a0_).f2))) = w60 at n0_ n1_ n2_ ⊢; have a3_ := n0_; have a2_ := n1_; have HB := n2_; clear n0_ n1_ n2_; replace a3_ := As (blk_drew a3_.out); replace a2_ := As (blk_drew a2_.out); replace HB := As (below_drew1 HB.out)
            refine start_ (n := 38) (S := fun w' => w'.cell? ⟨a1_, 0, none⟩ = some (.int .i64 ((rd_T33 l0_0 a0_).f0)) ∧ w'.cell? ⟨a1_, 1, none⟩ = some (.int .i64 ((rd_T33 l0_0 a0_).f1)) ∧ w'.cell? ⟨a1_, 2, none⟩ = some (.string ((rd_T33 l0_0 a0_).f2))) (ds := []) (marksOf 38 0) (by kernel_rfl) rfl rfl ⟨bc a2_ 0, bc a2_ 1, bc a2_ 2⟩ (fun hHeld => ?_); refine with_tabW ref09_Check.tab6 ref09_Check.bits6 (fun HT_ HW_ => ?_); generalize w60.drew = w61 at a3_ a2_ HB hHeld ⊢; refine pv_ 0 17 38 1 ?_; (refine ta_ 1 18 38 3 ?_ rfl rfl (take_ofW HT_.out HW_.out (by kernel_rfl)) (fun _ _ _ h => h) (by rfl) ?_ hHeld ?_ ?_ ?_; rotate_left; rintro w' ⟨s0, s1, s2⟩; go_simp; with_reducible rfl; rotate_left; simp only [Act.put, q1, q2, q3, i64_w, i32_w]; rfl); refine pv_ 2 19 38 7 ?_
            refine pv_ 3 20 38 15 ?_; refine pv_ 4 21 38 31 ?_; refine pv_ 5 22 38 63 ?_; refine pv_ 7 24 38 191 ?_; (refine ta_ 6 23 38 255 ?_ rfl rfl (take_ofW HT_.out HW_.out (by kernel_rfl)) (fun _ _ _ h => h) (by rfl) ?_ hHeld ?_ ?_ ?_; rotate_left; rintro w' ⟨s0, s1, s2⟩; go_simp; with_reducible rfl; rotate_left; simp only [Act.put, q1, q2, q3, i64_w, i32_w]; rfl); (refine ta_ 8 25 38 511 ?_ rfl rfl (take_ofW HT_.out HW_.out (by kernel_rfl)) (fun _ _ _ h => h) (by rfl) ?_ hHeld ?_ ?_ ?_; rotate_left; rintro w' ⟨s0, s1, s2⟩; go_simp; with_reducible rfl; rotate_left; simp only [Act.put, q1, q2, q3, i64_w, i32_w]; rfl)
            refine one_ (i := 9) (N := some 26) (marksOf 38 1023) rfl rfl (one_of HT_.out (by kernel_rfl)) (by decide) (fun K hK => ?_); refine goes_ Try.func36 (by kernel_rfl) rfl #[.string ((rd_T33 l0_0 a0_).f2)] (by rfl) rfl rfl gq ?_
            with_reducible refine (ref02_Sum.calls k1 ((rd_T33 l0_0 a0_).f2) b5_ _ A16.out).mono ?_
            rintro e w' ⟨rfl, ⟨nd, rfl⟩⟩; refine ⟨_, rfl, ?_⟩; refine hK.out _ _ ⟨bc a2_ 0, bc a2_ 1, bc a2_ 2⟩ (fun hHeld => ?_); clear hK K; refine norm_ (a' := ?_) ?_ ?_; rotate_left
            ·show Act.put _ (some 26) _ = _
             simp only [Act.put, q1, q2, q3, i64_w, i32_w]; rfl
            refine pv_ 10 27 38 2047 ?_; refine pv_ 11 28 38 4095 ?_; refine pv_ 12 29 38 8191 ?_; refine pv_ 13 30 38 16383 ?_; refine pv_ 14 31 38 32767 ?_; refine pv_ 15 32 38 65535 ?_
            refine pure_ (i := 16) (N := some 33) (v := undef) (a' := ?_) (marksOf 38 131071) rfl rfl (any_of HT_.out (by kernel_rfl)) (fun _ _ _ h => h) (Or.inr ⟨by rfl, rfl⟩) ?_ ?_; rotate_left
            ·simp only [Act.put, q1, q2, q3, i64_w, i32_w]
             rfl
            refine pure_ (i := 17) (N := some 34) (v := undef) (a' := ?_) (marksOf 38 262143) rfl rfl (any_of HT_.out (by kernel_rfl)) (fun _ _ _ h => h) (Or.inr ⟨by rfl, rfl⟩) ?_ ?_; rotate_left
            ·simp only [Act.put, q1, q2, q3, i64_w, i32_w]
             rfl
            refine pure_ (i := 18) (N := some 35) (v := undef) (a' := ?_) (marksOf 38 524287) rfl rfl (any_of HT_.out (by kernel_rfl)) (fun _ _ _ h => h) (Or.inr ⟨by rfl, rfl⟩) ?_ ?_; rotate_left
            ·simp only [Act.put, q1, q2, q3, i64_w, i32_w]
             rfl
            refine pure_ (i := 19) (N := some 36) (v := undef) (a' := ?_) (marksOf 38 1048575) rfl rfl (any_of HT_.out (by kernel_rfl)) (fun _ _ _ h => h) (Or.inr ⟨by rfl, rfl⟩) ?_ ?_; rotate_left
            ·simp only [Act.put, q1, q2, q3, i64_w, i32_w]
             rfl
            refine pure_ (i := 20) (N := some 37) (v := undef) (a' := ?_) (marksOf 38 2097151) rfl rfl (any_of HT_.out (by kernel_rfl)) (fun _ _ _ h => h) (Or.inr ⟨by rfl, rfl⟩) ?_ ?_; rotate_left
            ·simp only [Act.put, q1, q2, q3, i64_w, i32_w]
             rfl
            refine pure_ (i := 21) (N := some 38) (v := undef) (a' := ?_) (marksOf 38 4194303) rfl rfl (any_of HT_.out (by kernel_rfl)) (fun _ _ _ h => h) (Or.inr ⟨by rfl, rfl⟩) ?_ ?_; rotate_left
            ·simp only [Act.put, q1, q2, q3, i64_w, i32_w]
             rfl
            refine pure_ (i := 22) (N := some 39) (v := undef) (a' := ?_) (marksOf 38 8388607) rfl rfl (any_of HT_.out (by kernel_rfl)) (fun _ _ _ h => h) (Or.inr ⟨by rfl, rfl⟩) ?_ ?_; rotate_left
            ·simp only [Act.put, q1, q2, q3, i64_w, i32_w]
             rfl
            refine pure_ (i := 23) (N := some 40) (v := undef) (a' := ?_) (marksOf 38 16777215) rfl rfl (any_of HT_.out (by kernel_rfl)) (fun _ _ _ h => h) (Or.inr ⟨by rfl, rfl⟩) ?_ ?_; rotate_left
            ·simp only [Act.put, q1, q2, q3, i64_w, i32_w]
             rfl
            refine pure_ (i := 24) (N := some 41) (v := undef) (a' := ?_) (marksOf 38 33554431) rfl rfl (any_of HT_.out (by kernel_rfl)) (fun _ _ _ h => h) (Or.inr ⟨by rfl, rfl⟩) ?_ ?_; rotate_left
            ·simp only [Act.put, q1, q2, q3, i64_w, i32_w]
             rfl
            refine pure_ (i := 25) (N := some 42) (v := undef) (a' := ?_) (marksOf 38 67108863) rfl rfl (any_of HT_.out (by kernel_rfl)) (fun _ _ _ h => h) (Or.inr ⟨by rfl, rfl⟩) ?_ ?_; rotate_left
            ·simp only [Act.put, q1, q2, q3, i64_w, i32_w]
             rfl
            refine pv_ 26 43 38 134217727 ?_; refine pv_ 27 44 38 268435455 ?_; refine pv_ 28 45 38 536870911 ?_; refine pv_ 29 46 38 1073741823 ?_; (refine ta_ 30 47 38 2147483647 ?_ rfl rfl (take_ofW HT_.out HW_.out (by kernel_rfl)) (fun _ _ _ h => h) (by rfl) ?_ hHeld ?_ ?_ ?_; rotate_left; rintro w' ⟨s0, s1, s2⟩; go_simp; with_reducible rfl; rotate_left; simp only [Act.put, q1, q2, q3, i64_w, i32_w]; rfl); refine pv_ 31 48 38 4294967295 ?_
            refine pv_ 32 49 38 8589934591 ?_; refine pv_ 33 50 38 17179869183 ?_; refine pv_ 34 51 38 34359738367 ?_; (refine ta_ 35 52 38 68719476735 ?_ rfl rfl (take_ofW HT_.out HW_.out (by kernel_rfl)) (fun _ _ _ h => h) (by rfl) ?_ hHeld ?_ ?_ ?_; rotate_left; rintro w' ⟨s0, s1, s2⟩; go_simp; with_reducible rfl; rotate_left; simp only [Act.put, q1, q2, q3, i64_w, i32_w]; rfl); refine pv_ 36 53 38 137438953471 ?_; refine pv_ 37 54 38 274877906943 ?_
            refine done_ (done_of HT_.out (by kernel_rfl)) ?_; (try go_wp2); go_roundg k1
            case measure => have := HK1.out; omega
            case rel => exact ⟨(wrap64 (a0_ + 1)), (by first | rfl | (simp; done) | (simp [*]; done)), H', ⟨by have := HK1.out; omega⟩, ⟨by refine plT ?_; exact a3_.out⟩, ⟨hBq⟩⟩
        ·rw [if_neg c17] at H
         have d1_ : (((rd_T33 l0_0 a0_).f0) == b5_) = false := beq_eq_false_iff_ne.mpr c17; have d2_ : (((rd_T33 l0_0 a0_).f0) != b5_) = true := bne_iff_ne.mpr c17; obtain rfl := Option.some.inj H; have b1_ : 0 ≤ (a0_ : Int) := dq; have b2_ : a0_ < (l0_0.length : Int) := dq; obtain ⟨a5_, b4_, _, _, _⟩ := at_T33 (Kd.C_below HR0_0.out HB.out) a0_ b1_ b2_; cases b4_; replace b1_ := eq_true b1_; replace b2_ := eq_true b2_
         (try go_wp2_with (first | ((with_reducible refine gate_dst (N := 4) rfl ?_); refine bxE 4 #[.int .i64 0, .int .i64 0, .string (⟨#[]⟩ : ByteArray)] 33 ?_; intro a1_ hg w62 hbox hb; have a2_ := As (hbox); have b3_ := As (by rw [hg]; exact (below_size hBq) : w.heap.size ≤ a1_); replace HB := sBq hb; have b8_ := b3_; have a4_ := As (by rw [hg]; exact Nat.ne_of_lt (blk_lt (g := a6_) (plq a3_.out)) : a6_ ≠ a1_); replace a3_ := As (blk_below (plq a3_.out) hb); have b0_ := As a4_.out.symm; clear hb hbox hg; have f8_ := b0_.out; have f9_ := a4_.out; have := cf3 a2_.out)))
         have n0_ : Aside0 ((((w62.setCell ⟨a1_, 0, none⟩ (((rd_T33 l0_0 a0_).f0))).setCell ⟨a1_, 1, none⟩ (((rd_T33 l0_0 a0_).f1))).setCell ⟨a1_, 2, none⟩ (.string ((rd_T33 l0_0 a0_).f2))).heap[a6_]? = some (.cells #[.slice (some a5_) l0_0.length c0_0] 25 (0, 0))) := ⟨by (iterate 3 (refine blk_far ?_ a4_.out _)); exact a3_.out⟩; have n1_ : Aside0 ((((w62.setCell ⟨a1_, 0, none⟩ (((rd_T33 l0_0 a0_).f0))).setCell ⟨a1_, 1, none⟩ (((rd_T33 l0_0 a0_).f1))).setCell ⟨a1_, 2, none⟩ (.string ((rd_T33 l0_0 a0_).f2))).heap[a1_]? = some (.cells #[((rd_T33 l0_0 a0_).f0), ((rd_T33 l0_0 a0_).f1), .string ((rd_T33 l0_0 a0_).f2)] 33 (0, 0))) := ⟨by apply puts3; exact a2_.out⟩
         have n2_ : Aside0 (Below w.heap.size w (((w62.setCell ⟨a1_, 0, none⟩ (((rd_T33 l0_0 a0_).f0))).setCell ⟨a1_, 1, none⟩ (((rd_T33 l0_0 a0_).f1))).setCell ⟨a1_, 2, none⟩ (.string ((rd_T33 l0_0 a0_).f2)))) := ⟨hBq⟩; (try clear a3_); (try clear a2_); (try clear HB); generalize (((w62.setCell ⟨a1_, 0, none⟩ (((rd_T33 l0_0 a0_).f0))).setCell ⟨a1_, 1, none⟩ (((rd_T33 l0_0 a0_).f1))).setCell ⟨a1_, 2, none⟩ (.string ((rd_T33 l0_0 a0_).f2))) = w65 at n0_ n1_ n2_ ⊢; have a3_ := n0_; have a2_ := n1_; have HB := n2_; clear n0_ n1_ n2_; replace a3_ := As (blk_drew a3_.out); replace a2_ := As (blk_drew a2_.out); replace HB := As (below_drew1 HB.out)
         refine start_ (n := 38) (S := fun w' => w'.cell? ⟨a1_, 0, none⟩ = some (.int .i64 ((rd_T33 l0_0 a0_).f0)) ∧ w'.cell? ⟨a1_, 1, none⟩ = some (.int .i64 ((rd_T33 l0_0 a0_).f1)) ∧ w'.cell? ⟨a1_, 2, none⟩ = some (.string ((rd_T33 l0_0 a0_).f2))) (ds := []) (marksOf 38 0) (by kernel_rfl) rfl rfl ⟨bc a2_ 0, bc a2_ 1, bc a2_ 2⟩ (fun hHeld => ?_); refine with_tabW ref09_Check.tab6 ref09_Check.bits6 (fun HT_ HW_ => ?_); generalize w65.drew = w66 at a3_ a2_ HB hHeld ⊢; refine pv_ 0 17 38 1 ?_; (refine ta_ 1 18 38 3 ?_ rfl rfl (take_ofW HT_.out HW_.out (by kernel_rfl)) (fun _ _ _ h => h) (by rfl) ?_ hHeld ?_ ?_ ?_; rotate_left; rintro w' ⟨s0, s1, s2⟩; go_simp; with_reducible rfl; rotate_left; simp only [Act.put, q1, q2, q3, i64_w, i32_w]; rfl); refine pv_ 2 19 38 7 ?_
         refine pv_ 3 20 38 15 ?_; refine pv_ 4 21 38 31 ?_; refine pv_ 5 22 38 63 ?_; refine pv_ 7 24 38 191 ?_; (refine ta_ 6 23 38 255 ?_ rfl rfl (take_ofW HT_.out HW_.out (by kernel_rfl)) (fun _ _ _ h => h) (by rfl) ?_ hHeld ?_ ?_ ?_; rotate_left; rintro w' ⟨s0, s1, s2⟩; go_simp; with_reducible rfl; rotate_left; simp only [Act.put, q1, q2, q3, i64_w, i32_w]; rfl); (refine ta_ 8 25 38 511 ?_ rfl rfl (take_ofW HT_.out HW_.out (by kernel_rfl)) (fun _ _ _ h => h) (by rfl) ?_ hHeld ?_ ?_ ?_; rotate_left; rintro w' ⟨s0, s1, s2⟩; go_simp; with_reducible rfl; rotate_left; simp only [Act.put, q1, q2, q3, i64_w, i32_w]; rfl)
         refine one_ (i := 9) (N := some 26) (marksOf 38 1023) rfl rfl (one_of HT_.out (by kernel_rfl)) (by decide) (fun K hK => ?_); refine goes_ Try.func36 (by kernel_rfl) rfl #[.string ((rd_T33 l0_0 a0_).f2)] (by rfl) rfl rfl gq ?_
         with_reducible refine (ref02_Sum.calls k1 ((rd_T33 l0_0 a0_).f2) b5_ _ A16.out).mono ?_
         rintro e w' ⟨rfl, ⟨nd, rfl⟩⟩; refine ⟨_, rfl, ?_⟩; refine hK.out _ _ ⟨bc a2_ 0, bc a2_ 1, bc a2_ 2⟩ (fun hHeld => ?_); clear hK K; refine norm_ (a' := ?_) ?_ ?_; rotate_left
         ·show Act.put _ (some 26) _ = _
          simp only [Act.put, q1, q2, q3, i64_w, i32_w]; rfl
         refine pv_ 10 27 38 2047 ?_; refine pv_ 11 28 38 4095 ?_; refine pv_ 12 29 38 8191 ?_; refine pure_ (i := 13) (N := some 30) (v := undef) (a' := ?_) (marksOf 38 16383) rfl rfl (any_of HT_.out (by kernel_rfl)) (fun _ _ _ h => h) (Or.inr ⟨by rfl, rfl⟩) ?_ ?_; rotate_left
         ·simp only [Act.put, q1, q2, q3, i64_w, i32_w]
          rfl
         refine pure_ (i := 14) (N := some 31) (v := undef) (a' := ?_) (marksOf 38 32767) rfl rfl (any_of HT_.out (by kernel_rfl)) (fun _ _ _ h => h) (Or.inr ⟨by rfl, rfl⟩) ?_ ?_; rotate_left
         ·simp only [Act.put, q1, q2, q3, i64_w, i32_w]
          rfl
         refine pure_ (i := 15) (N := some 32) (v := undef) (a' := ?_) (marksOf 38 65535) rfl rfl (any_of HT_.out (by kernel_rfl)) (fun _ _ _ h => h) (Or.inr ⟨by rfl, rfl⟩) ?_ ?_; rotate_left
         ·simp only [Act.put, q1, q2, q3, i64_w, i32_w]
          rfl
         refine pure_ (i := 16) (N := some 33) (v := undef) (a' := ?_) (marksOf 38 131071) rfl rfl (any_of HT_.out (by kernel_rfl)) (fun _ _ _ h => h) (Or.inr ⟨by rfl, rfl⟩) ?_ ?_; rotate_left
         ·simp only [Act.put, q1, q2, q3, i64_w, i32_w]
          rfl
         refine pure_ (i := 17) (N := some 34) (v := undef) (a' := ?_) (marksOf 38 262143) rfl rfl (any_of HT_.out (by kernel_rfl)) (fun _ _ _ h => h) (Or.inr ⟨by rfl, rfl⟩) ?_ ?_; rotate_left
         ·simp only [Act.put, q1, q2, q3, i64_w, i32_w]
          rfl
         refine pure_ (i := 18) (N := some 35) (v := undef) (a' := ?_) (marksOf 38 524287) rfl rfl (any_of HT_.out (by kernel_rfl)) (fun _ _ _ h => h) (Or.inr ⟨by rfl, rfl⟩) ?_ ?_; rotate_left
         ·simp only [Act.put, q1, q2, q3, i64_w, i32_w]
          rfl
         refine pure_ (i := 19) (N := some 36) (v := undef) (a' := ?_) (marksOf 38 1048575) rfl rfl (any_of HT_.out (by kernel_rfl)) (fun _ _ _ h => h) (Or.inr ⟨by rfl, rfl⟩) ?_ ?_; rotate_left
         ·simp only [Act.put, q1, q2, q3, i64_w, i32_w]
          rfl
         refine pure_ (i := 20) (N := some 37) (v := undef) (a' := ?_) (marksOf 38 2097151) rfl rfl (any_of HT_.out (by kernel_rfl)) (fun _ _ _ h => h) (Or.inr ⟨by rfl, rfl⟩) ?_ ?_; rotate_left
         ·simp only [Act.put, q1, q2, q3, i64_w, i32_w]
          rfl
         refine pure_ (i := 21) (N := some 38) (v := undef) (a' := ?_) (marksOf 38 4194303) rfl rfl (any_of HT_.out (by kernel_rfl)) (fun _ _ _ h => h) (Or.inr ⟨by rfl, rfl⟩) ?_ ?_; rotate_left
         ·simp only [Act.put, q1, q2, q3, i64_w, i32_w]
          rfl
         refine pure_ (i := 22) (N := some 39) (v := undef) (a' := ?_) (marksOf 38 8388607) rfl rfl (any_of HT_.out (by kernel_rfl)) (fun _ _ _ h => h) (Or.inr ⟨by rfl, rfl⟩) ?_ ?_; rotate_left
         ·simp only [Act.put, q1, q2, q3, i64_w, i32_w]
          rfl
         refine pure_ (i := 23) (N := some 40) (v := undef) (a' := ?_) (marksOf 38 16777215) rfl rfl (any_of HT_.out (by kernel_rfl)) (fun _ _ _ h => h) (Or.inr ⟨by rfl, rfl⟩) ?_ ?_; rotate_left
         ·simp only [Act.put, q1, q2, q3, i64_w, i32_w]
          rfl
         refine pure_ (i := 24) (N := some 41) (v := undef) (a' := ?_) (marksOf 38 33554431) rfl rfl (any_of HT_.out (by kernel_rfl)) (fun _ _ _ h => h) (Or.inr ⟨by rfl, rfl⟩) ?_ ?_; rotate_left
         ·simp only [Act.put, q1, q2, q3, i64_w, i32_w]
          rfl
         refine pure_ (i := 25) (N := some 42) (v := undef) (a' := ?_) (marksOf 38 67108863) rfl rfl (any_of HT_.out (by kernel_rfl)) (fun _ _ _ h => h) (Or.inr ⟨by rfl, rfl⟩) ?_ ?_; rotate_left
         ·simp only [Act.put, q1, q2, q3, i64_w, i32_w]
          rfl
         refine pure_ (i := 26) (N := some 43) (v := undef) (a' := ?_) (marksOf 38 134217727) rfl rfl (any_of HT_.out (by kernel_rfl)) (fun _ _ _ h => h) (Or.inr ⟨by rfl, rfl⟩) ?_ ?_; rotate_left
         ·simp only [Act.put, q1, q2, q3, i64_w, i32_w]
          rfl
         refine pv_ 27 44 38 268435455 ?_; refine pv_ 28 45 38 536870911 ?_; refine pure_ (i := 29) (N := some 46) (v := undef) (a' := ?_) (marksOf 38 1073741823) rfl rfl (any_of HT_.out (by kernel_rfl)) (fun _ _ _ h => h) (Or.inr ⟨by rfl, rfl⟩) ?_ ?_; rotate_left
         ·simp only [Act.put, q1, q2, q3, i64_w, i32_w]
          rfl
         refine pure_ (i := 30) (N := some 47) (v := undef) (a' := ?_) (marksOf 38 2147483647) rfl rfl (any_of HT_.out (by kernel_rfl)) (fun _ _ _ h => h) (Or.inr ⟨by rfl, rfl⟩) ?_ ?_; rotate_left
         ·simp only [Act.put, q1, q2, q3, i64_w, i32_w]
          rfl
         refine pure_ (i := 31) (N := some 48) (v := undef) (a' := ?_) (marksOf 38 4294967295) rfl rfl (any_of HT_.out (by kernel_rfl)) (fun _ _ _ h => h) (Or.inr ⟨by rfl, rfl⟩) ?_ ?_; rotate_left
         ·simp only [Act.put, q1, q2, q3, i64_w, i32_w]
          rfl
         refine pv_ 32 49 38 8589934591 ?_; refine pv_ 33 50 38 17179869183 ?_; refine pure_ (i := 34) (N := some 51) (v := undef) (a' := ?_) (marksOf 38 34359738367) rfl rfl (any_of HT_.out (by kernel_rfl)) (fun _ _ _ h => h) (Or.inr ⟨by rfl, rfl⟩) ?_ ?_; rotate_left
         ·simp only [Act.put, q1, q2, q3, i64_w, i32_w]
          rfl
         refine pure_ (i := 35) (N := some 52) (v := undef) (a' := ?_) (marksOf 38 68719476735) rfl rfl (any_of HT_.out (by kernel_rfl)) (fun _ _ _ h => h) (Or.inr ⟨by rfl, rfl⟩) ?_ ?_; rotate_left
         ·simp only [Act.put, q1, q2, q3, i64_w, i32_w]
          rfl
         refine pure_ (i := 36) (N := some 53) (v := undef) (a' := ?_) (marksOf 38 137438953471) rfl rfl (any_of HT_.out (by kernel_rfl)) (fun _ _ _ h => h) (Or.inr ⟨by rfl, rfl⟩) ?_ ?_; rotate_left
         ·simp only [Act.put, q1, q2, q3, i64_w, i32_w]
          rfl
         refine pv_ 37 54 38 274877906943 ?_; refine done_ (done_of HT_.out (by kernel_rfl)) ?_; (try go_wp2); go_ret; exact ⟨by first | rfl | (simp [errW_none, errW_some] <;> rfl) | (simp [*, errW_none, errW_some] <;> rfl), hBq⟩
      ·rw [if_neg c9] at H
       exact absurd H (by simp)
     ·rw [if_neg c8] at H
      exact absurd H (by simp)
    ·rw [if_neg c7] at H
     have d9_ : decide (a0_ < (l0_0.length : Int)) = false := decide_eq_false c7; clear c7; obtain rfl := Option.some.inj H; go_wp2; go_ret; exact ⟨by first | rfl | (simp [errW_none, errW_some] <;> rfl) | (simp [*, errW_none, errW_some] <;> rfl), hBq⟩
def ref09_Drop.f (k : Nat) (l0_0 : List (S33)) (a1 : Int) : Option ((List (S33)) × Bool × Int) := (ref09_Check.f k l0_0).bind fun b3_ => (if b3_ = 0 then ((ref09_find.f k l0_0 a1).bind fun a9_ => (if a9_.2 = true then (if ([] : List (S33)).length + l0_0.length < 4398046511104 then ((some (([] : List (S33)) ++ l0_0 : List (S33))).bind fun a1_ => (if 0 ≤ a9_.1 then (if a9_.1 < (a1_.length : Int) then ((some (a1_.set (a9_.1 : Int).toNat (⟨(rd_T33 a1_ a9_.1).f0, wrap64 (((rd_T33 a1_ a9_.1).f1) - 1), (rd_T33 a1_ a9_.1).f2⟩ : S33) : List (S33))).bind fun a5_ => (if ((rd_T33 a5_ a9_.1).f1) > 0 then (some (a5_, false, 0)) else (if a9_.1 ≤ (a1_.length : Int) then (if 0 ≤ (wrap64 (a9_.1 + 1)) then (if (wrap64 (a9_.1 + 1)) ≤ (a1_.length : Int) then (some ((a5_.eraseIdx (a9_.1 : Int).toNat), true, 0)) else (none)) else (none)) else (none)))) else (none)) else (none))) else (none)) else (some (([] : List (S33)), false, 6)))) else (some (([] : List (S33)), false, 2)))
def ref09_Drop.T10 : Bool × List (List Nat × List Nat) := (true, [([], []), ([], []), ([0, 1], [0, 1]), ([], []), ([], []), ([4], [4]), ([3, 5], [3, 5]), ([2, 6], [2, 6]), ([7], [7]), ([8, 7, 0, 1, 2, 3, 4, 5, 6, 7, 8], [8]), ([9, 0, 1, 2, 3, 4, 5, 6, 7, 8, 9], []), ([10, 0, 1, 2, 3, 4, 5, 6, 7, 8, 9, 10], [])])
def ref09_Drop.B10 : List Nat := [0, 0, 3, 0, 0, 16, 56, 127, 255, 511, 1023, 2047]
theorem ref09_Drop.tab10 : rtab .any (opsOf Try.f27 10) = ref09_Drop.T10 := by kernel_rfl
theorem ref09_Drop.bits10 : waitsOk ref09_Drop.T10.2 ref09_Drop.B10 = true := by kernel_rfl
set_option maxHeartbeats 8000000 in
set_option maxRecDepth 100000 in
theorem ref09_Drop.calls (k : Nat) (A0_0 : Option Addr) (c0_0 : Nat) (l0_0 : List (S33)) (a1 : Int) (r1 : List (S33)) (r2 : Bool) (r3 : Int) (w : World) (hr0_0 : Kd.C k33 w A0_0 l0_0.length l0_0) (hc0_0 : l0_0.length ≤ c0_0) (h : ref09_Drop.f k l0_0 a1 = some (r1, r2, r3)) :
 Calls Try.prog 27 #[.agg #[.slice A0_0 l0_0.length c0_0], .int .i64 a1] w fun e w' => ∃ v0_ : Value, e = .returned (.tuple #[.agg #[v0_], .bool r2, .int .i64 r3]) ∧ Kd.R k33 33 w' w.heap.size (fun _ => True) v0_ r1 ∧ Below w.heap.size w w' := by
 have hu25 := Try.underlying25; have HR0_0 := As hr0_0; have HC0_0 := As hc0_0; clear hr0_0 hc0_0; have HB := As (Below.refl w.heap.size w); have H : ((ref09_Check.f k l0_0).bind fun b3_ => (if b3_ = 0 then ((ref09_find.f k l0_0 a1).bind fun a9_ => (if a9_.2 = true then (if ([] : List (S33)).length + l0_0.length < 4398046511104 then ((some (([] : List (S33)) ++ l0_0 : List (S33))).bind fun a1_ => (if 0 ≤ a9_.1 then (if a9_.1 < (a1_.length : Int) then ((some (a1_.set (a9_.1 : Int).toNat (⟨(rd_T33 a1_ a9_.1).f0, wrap64 (((rd_T33 a1_ a9_.1).f1) - 1), (rd_T33 a1_ a9_.1).f2⟩ : S33) : List (S33))).bind fun a5_ => (if ((rd_T33 a5_ a9_.1).f1) > 0 then (some (a5_, false, 0)) else (if a9_.1 ≤ (a1_.length : Int) then (if 0 ≤ (wrap64 (a9_.1 + 1)) then (if (wrap64 (a9_.1 + 1)) ≤ (a1_.length : Int) then (some ((a5_.eraseIdx (a9_.1 : Int).toNat), true, 0)) else (none)) else (none)) else (none)))) else (none)) else (none))) else (none)) else (some (([] : List (S33)), false, 6)))) else (some (([] : List (S33)), false, 2)))) = some (r1, r2, r3) := h; clear h; replace H := Option.bind_eq_some_iff.mp H; obtain ⟨b3_, A30, H⟩ := H
 (try dsimp only at H); have A3 := As A30; clear A30
 by_cases c4 : b3_ = 0
 ·rw [if_pos c4] at H
  have f1_ : (b3_ == 0) = true := beq_iff_eq.mpr c4; have f2_ : (b3_ != 0) = false := bne_eq_false_iff_eq.mpr c4; clear c4; replace H := Option.bind_eq_some_iff.mp H; obtain ⟨⟨a0_, f3_⟩, A50, H⟩ := H; (try dsimp only at H); have A5 := As A50; clear A50
  by_cases c6 : f3_ = true
  ·subst c6
   rw [if_pos rfl] at H
   by_cases c7 : ([] : List (S33)).length + l0_0.length < 4398046511104
   ·rw [if_pos c7] at H
    have LMc7 := As c7; clear c7; obtain ⟨a1_, hy259⟩ : ∃ y_ : List (S33), y_ = (([] : List (S33)) ++ l0_0) := ⟨_, rfl⟩; (replace H : (if 0 ≤ a0_ then (if a0_ < (a1_.length : Int) then ((some (a1_.set (a0_ : Int).toNat (⟨(rd_T33 a1_ a0_).f0, wrap64 (((rd_T33 a1_ a0_).f1) - 1), (rd_T33 a1_ a0_).f2⟩ : S33) : List (S33))).bind fun a5_ => (if ((rd_T33 a5_ a0_).f1) > 0 then (some (a5_, false, 0)) else (if a0_ ≤ (a1_.length : Int) then (if 0 ≤ (wrap64 (a0_ + 1)) then (if (wrap64 (a0_ + 1)) ≤ (a1_.length : Int) then (some ((a5_.eraseIdx (a0_ : Int).toNat), true, 0)) else (none)) else (none)) else (none)))) else (none)) else (none)) = some (r1, r2, r3) := by first | (rw [hy259]; with_reducible exact H) | (have H2_ := (Option.bind_some _ _).symm.trans H; rw [hy259]; with_reducible exact H2_) | (have H2_ := (Option.bind_some _ _).symm.trans H; with_reducible exact H2_) | with_reducible exact H | (rw [hy259]; exact H) | exact H); have Ny259 := As hy259; clear hy259
    by_cases c8 : 0 ≤ a0_
    ·rw [if_pos c8] at H
     have l7_ : decide (0 ≤ a0_) = true := decide_eq_true c8; clear c8
     by_cases c9 : a0_ < (a1_.length : Int)
     ·rw [if_pos c9] at H
      have l8_ : decide (a0_ < (a1_.length : Int)) = true := decide_eq_true c9; clear c9; obtain ⟨a5_, hy263⟩ : ∃ y_ : List (S33), y_ = (a1_.set (a0_ : Int).toNat (⟨(rd_T33 a1_ a0_).f0, wrap64 (((rd_T33 a1_ a0_).f1) - 1), (rd_T33 a1_ a0_).f2⟩ : S33)) := ⟨_, rfl⟩; (replace H : (if ((rd_T33 a5_ a0_).f1) > 0 then (some (a5_, false, 0)) else (if a0_ ≤ (a1_.length : Int) then (if 0 ≤ (wrap64 (a0_ + 1)) then (if (wrap64 (a0_ + 1)) ≤ (a1_.length : Int) then (some ((a5_.eraseIdx (a0_ : Int).toNat), true, 0)) else (none)) else (none)) else (none))) = some (r1, r2, r3) := by first | (rw [hy263]; with_reducible exact H) | (have H2_ := (Option.bind_some _ _).symm.trans H; rw [hy263]; with_reducible exact H2_) | (have H2_ := (Option.bind_some _ _).symm.trans H; with_reducible exact H2_) | with_reducible exact H | (rw [hy263]; exact H) | exact H); have Ny263 := As hy263; clear hy263
      by_cases c11 : ((rd_T33 a5_ a0_).f1) > 0
      ·rw [if_pos c11] at H
       have e9_ : decide (0 < ((rd_T33 a5_ a0_).f1)) = true := decide_eq_true c11; clear c11; simp only [Option.some.injEq, Prod.mk.injEq] at H; obtain ⟨rfl, rfl, rfl⟩ := H; go_enter Try.func27, Try.ntmps27
       go_wp2_with (first | ((with_reducible refine gate_dst (N := 2) rfl ?_); refine bxE 2 #[.slice A0_0 l0_0.length c0_0] 25 ?_; intro a6_ hg w12 hbox hb; have a2_ := As (hbox); have b7_ := As (by rw [hg]; exact (below_size hBq) : w.heap.size ≤ a6_); replace HB := sBq hb; have c9_ := b7_; clear hb hbox hg) | ((with_reducible refine gate_dst (N := 4) rfl ?_); refine bxE 4 #[.slice none 0 0] 25 ?_; intro a8_ hg w13 hbox hb; have a3_ := As (hbox); have b8_ := As (by rw [hg]; exact (below_size hBq) : w.heap.size ≤ a8_); replace HB := sBq hb; have d0_ := b8_; have b0_ := As (by rw [hg]; exact Nat.ne_of_lt (blk_lt (g := a6_) (plq a2_.out)) : a6_ ≠ a8_); replace a2_ := As (blk_below (plq a2_.out) hb); have b1_ := As b0_.out.symm; clear hb hbox hg; have j1_ := b0_.out; have j2_ := b1_.out; have g4_ : w13.cell? ⟨a6_, 0, none⟩ = some (.slice A0_0 l0_0.length c0_0) := (blk_cell a2_.out 0).trans rfl; have g5_ := blk_frozen a2_.out 0) | ((with_reducible refine gate_callee (f := 24) rfl ?_); refine gL (some 11) Try.func24 #[.agg #[.slice A0_0 l0_0.length c0_0]] ?_; (with_reducible refine (ref09_Check.calls k _ _ l0_0 b3_ _ ?side1 ?side2 A3.out).mono ?_); (case side1 => exact cq ⟨Kd.C_below HR0_0.out HB.out⟩); (case side2 => exact HC0_0.out); rintro e w16 ⟨rfl, hb⟩; refine ⟨_, rfl, ?_⟩; replace a2_ := As (blk_below (plq a2_.out) hb); replace a3_ := As (blk_below (plq a3_.out) hb); replace HB := sBq hb; (try clear hb); have g6_ : w16.cell? ⟨a6_, 0, none⟩ = some (.slice A0_0 l0_0.length c0_0) := (blk_cell a2_.out 0).trans rfl; have g7_ := blk_frozen a2_.out 0) | ((with_reducible refine gate_callee (f := 37) rfl ?_); refine gL (some 17) Try.func37 #[.agg #[.slice A0_0 l0_0.length c0_0], a1] ?_; (with_reducible refine (ref09_find.calls k _ _ l0_0 a1 a0_ true _ ?side1 ?side2 A5.out).mono ?_); (case side1 => exact cq ⟨Kd.C_below HR0_0.out HB.out⟩); (case side2 => exact HC0_0.out); rintro e w18 ⟨rfl, hb⟩; refine ⟨_, rfl, ?_⟩; replace a2_ := As (blk_below (plq a2_.out) hb); replace a3_ := As (blk_below (plq a3_.out) hb); replace HB := sBq hb; (try clear hb); have g8_ : w18.cell? ⟨a6_, 0, none⟩ = some (.slice A0_0 l0_0.length c0_0) := (blk_cell a2_.out 0).trans rfl; have g9_ := blk_frozen a2_.out 0) | ((with_reducible refine gate_builtin (b := .append) (xs := #[.const (.slice none 0 0), .tmp 24]) rfl ?_); at_builtin; refine Kd.R_append_rows k33 (w0 := w) w.heap.size rfl (.const (.slice none 0 0)) (.tmp 24) 23 33 (.agg #[(.int .i64 0), (.int .i64 0), (.string ⟨#[]⟩)]) 32 rfl Try.underlying23 info33 rfl (by decide) (by omega) (.slice none 0 0) ([] : List (S33)) l0_0 _ _ _ (fun _ => True) (fun _ => False) rfl rfl ?aO ?aR (fun _ _ h => h) (fun _ h => h.elim) ?aF ?aB ?aS ?aL ?_; (case aR => repeat (first | exact (Kd.C_below HR0_0.out HB.out) | (with_reducible refine Kd.C_alloc ?_ _) | (with_reducible refine Kd.C_drewN ?_ _) | (with_reducible refine Kd.C_drew ?_))); (case aB => exact hBq); (case aF => exact (fun _ _ => trivial)); (case aO => exact ((Kd.R_nil _ _ _ _ (fun _ => True)))); (case aS => exact (below_size hBq)); (case aL => have := LMc7.out; omega); intro f4_ w20 ho hb hg hat; rw [← Ny259.out] at ho; replace a2_ := As (blk_grown (g := a6_) (o := .cells #[.slice A0_0 l0_0.length c0_0] 25 (0, 0)) (plq a2_.out) hg (by simp [Value.ownBlock])); replace a3_ := As (blk_grown (g := a8_) (o := .cells #[.slice none 0 0] 25 (0, 0)) (plq a3_.out) hg (by simp [Value.ownBlock])); replace HB := As (hb); have a4_ := As (ho); clear ho hb hg hat; obtain ⟨l9_, d1_, f5_⟩ := Kd.R_slice a4_.out; subst f5_; have b9_ : 0 ≤ (a0_ : Int) := dq; have c0_ : a0_ < (a1_.length : Int) := dq; obtain ⟨f0_, d5_, c3_, c4_, c5_⟩ := at_T33 (Kd.R_reads' a4_.out).2.2 a0_ b9_ c0_; cases d5_; replace b9_ := eq_true b9_; replace c0_ := eq_true c0_; have p10 : 0 ≤ (a0_ : Int) := dq; have q10 : (a0_ : Int) < ((a1_.length : Int) : Int) := dq; obtain ⟨a7_, f6_, c6_, c7_, d6_, f7_, HG10⟩ := Kd.R_form a4_.out (by omega); (first | cases c6_ | (injection c6_ with ea_ en_ ec_; (first | subst ea_ | (injection ea_ with ea_; subst ea_)); subst ec_; clear en_)); have d7_ := As c7_; have f8_ := As HG10; clear c7_ d6_ HG10; (first | simp only [add_plain] at c3_ | skip); (first | simp only [add_plain] at c4_ | skip); (first | simp only [add_plain] at c5_ | skip); obtain ⟨ce10, hcl10, hM10, hcc10, hfr10⟩ := Kd.R_elem a4_.out z33 (a0_ : Int) p10 q10; obtain rfl := k33_openM hM10; have e1_ : w20.cell? ⟨a7_, (a0_ : Int).toNat * 3, none⟩ = some (.int .i64 ((rd_T33 a1_ a0_).f0)) := hcc10 0 _ rfl; have e2_ : w20.cell? ⟨a7_, (a0_ : Int).toNat * 3 + 1, none⟩ = some (.int .i64 ((rd_T33 a1_ a0_).f1)) := hcc10 1 _ rfl; have e3_ : w20.cell? ⟨a7_, (a0_ : Int).toNat * 3 + 2, none⟩ = some (.string ((rd_T33 a1_ a0_).f2)) := hcc10 2 _ rfl; have hf10_0 : w20.frozen? ⟨a7_, (a0_ : Int).toNat * 3, none⟩ = false := hfr10 0; have hf10_1 : w20.frozen? ⟨a7_, (a0_ : Int).toNat * 3 + 1, none⟩ = false := hfr10 1; have hf10_2 : w20.frozen? ⟨a7_, (a0_ : Int).toNat * 3 + 2, none⟩ = false := hfr10 2; clear hcl10 hcc10 hfr10 hM10; replace p10 := eq_true p10; replace q10 := eq_true q10; have e4_ := As (show Kd.R k33 33 w20 w.heap.size (fun _ => True) (.slice (some ⟨a7_, 0, none⟩) a1_.length d1_) a1_ from (rqR a4_)); obtain ⟨ce22, hcl22, hM22, hcc22, hfr22⟩ := Kd.R_elem e4_.out z33 (a0_ : Int) (dq) (by have h_ : (a0_ : Int) < ((a1_.length : Int) : Int) := dq; first | exact h_ | (have e_ := (Kd.R_reads' a4_.out).1; omega) | simpa using h_); obtain rfl := k33_openM hM22; have HP22 := Kd.R_seg e4_.out (a0_ : Int) (dq) (by have h_ : (a0_ : Int) < ((a1_.length : Int) : Int) := dq; first | exact h_ | (have e_ := (Kd.R_reads' a4_.out).1; omega) | simpa using h_) (seg := [(wrap64 (((rd_T33 a1_ a0_).f1) - 1))]) (j := 1) hcl22 hcc22 (show 2 ≤ 3 from by decide) (x' := (⟨(rd_T33 a1_ a0_).f0, wrap64 (((rd_T33 a1_ a0_).f1) - 1), (rd_T33 a1_ a0_).f2⟩ : S33)) (k33_mkM _ _ _ (⟨(rd_T33 a1_ a0_).f0, wrap64 (((rd_T33 a1_ a0_).f1) - 1), (rd_T33 a1_ a0_).f2⟩ : S33) ) (fun _ hk => hk); have e5_ := hcc22 1 _ rfl; (try simp only [show (k33).sz = 3 from rfl, Nat.mul_one, Nat.add_zero] at e5_); have hf22_1 := hfr22 1; (try simp only [show (k33).sz = 3 from rfl, Nat.mul_one, Nat.add_zero] at hf22_1); clear hcl22 hcc22 hfr22 hM22) | ((with_reducible refine gate_store (t := 3) (p := 33) rfl ?_); refine store_event (t := 3) (p := 33) (v := ?vo_w23) (w1 := (w20.setCell ⟨a7_, (a0_ : Int).toNat * 3 + 1, none⟩ ((wrap64 (((rd_T33 a1_ a0_).f1) - 1))))) ?hg ?ho ?hn ?hr ?_; (case ho => rfl); (case hg => rfl); (case hn => rfl); (case hr => first | (go_simp; done) | (go_simp; rfl)); intro w23 hw; have hg : w20.grownBy w23 (some a7_) := (by rw [hw]; exact HP22.2); have hp_ : Kd.R k33 33 w23 w.heap.size (fun _ => True) (.slice (some ⟨a7_, 0, none⟩) a1_.length d1_) a5_ := (by rw [hw, Ny263.out]; exact HP22.1); clear HP22; replace a2_ := As (blk_grown (g := a6_) (o := .cells #[.slice A0_0 l0_0.length c0_0] 25 (0, 0)) (plq a2_.out) hg (Kd.R_ne a4_.out a2_.out (by decide))); replace a3_ := As (blk_grown (g := a8_) (o := .cells #[.slice none 0 0] 25 (0, 0)) (plq a3_.out) hg (Kd.R_ne a4_.out a3_.out (by decide))); replace a4_ := As (hp_); replace HB := As ((by rw [hw]; exact below_set (HB.out) d7_.out : Below w.heap.size w w23)); clear hg hw hp_; have c1_ : 0 ≤ (a0_ : Int) := dq; have c2_ : a0_ < (a5_.length : Int) := (by have h_ : (a0_ : Int) < ((a1_.length : Int) : Int) := dq; first | (have e_ := (Kd.R_reads' a4_.out).1; omega) | simpa only [Ny263.out, List.length_set] using h_); have ql264 : ((a0_ : Int) < ((a1_.length : Int) : Int)) = True := eq_true (dq); obtain ⟨d2_, d8_, b4_, b5_, b6_⟩ := at_T33 (Kd.R_reads' a4_.out).2.2 a0_ c1_ c2_; obtain rfl : (⟨a7_, 0, none⟩ : Addr) = d2_ := (by injection d8_); (first | simp only [add_plain] at b4_ | simp only [add_at] at b4_ | simp only [Addr.add, Nat.zero_add] at b4_ | skip); (first | simp only [add_plain] at b5_ | simp only [add_at] at b5_ | simp only [Addr.add, Nat.zero_add] at b5_ | skip); (first | simp only [add_plain] at b6_ | simp only [add_at] at b6_ | simp only [Addr.add, Nat.zero_add] at b6_ | skip); replace c1_ := eq_true c1_; replace c2_ := eq_true c2_; have h1_ : w23.cell? ⟨a8_, 0, none⟩ = some (.slice none 0 0) := (blk_cell a3_.out 0).trans rfl; have h2_ := blk_frozen a3_.out 0))
       refine bodyPost_ret (results_ctt rfl _ _ a8_ 25 #[.slice (some ⟨a7_, 0, none⟩) a1_.length d1_] (0, 0) _ rfl (by refine plT ?_; refine blk_put (cs := #[.slice none 0 0]) ?_ 0 _ rfl; refine plT ?_; exact a3_.out) Try.underlying25 rfl (by kernel_rfl)) rfl ?_; exact ⟨_, by first | rfl | (simp [errW_none, errW_some] <;> rfl) | (simp [*, errW_none, errW_some] <;> rfl), by (with_reducible repeat (first | apply Kd.R_alloc | apply Kd.R_drewN | apply Kd.R_drew)); exact Kd.R_mono (Kd.R_far (p := ⟨a8_, 0, none⟩) (Kd.R_types a4_.out a3_.out (by decide)) (fun _ hk => hk.2) (.slice (some ⟨a7_, 0, none⟩) a1_.length d1_)) (fun _ hk => trivial), hBq⟩
      ·rw [if_neg c11] at H
       have e9_ : decide (0 < ((rd_T33 a5_ a0_).f1)) = false := decide_eq_false c11; clear c11; have j3_ := eq_true (dq : 0 ≤ a0_)
       by_cases c26 : a0_ ≤ (a1_.length : Int)
       ·rw [if_pos c26] at H
        have j4_ := eq_true c26; have j5_ : decide (a0_ ≤ (a1_.length : Int)) = true := decide_eq_true c26; clear c26; obtain ⟨d3_, hy265⟩ : ∃ y_ : List (S33), y_ = (a5_.take (a0_ : Int).toNat) := ⟨_, rfl⟩; (replace H : (if 0 ≤ (wrap64 (a0_ + 1)) then (if (wrap64 (a0_ + 1)) ≤ (a1_.length : Int) then (some ((a5_.eraseIdx (a0_ : Int).toNat), true, 0)) else (none)) else (none)) = some (r1, r2, r3) := by first | (rw [hy265]; with_reducible exact H) | (have H2_ := (Option.bind_some _ _).symm.trans H; rw [hy265]; with_reducible exact H2_) | (have H2_ := (Option.bind_some _ _).symm.trans H; with_reducible exact H2_) | with_reducible exact H | (rw [hy265]; exact H) | exact H); have Ny265 := As hy265; clear hy265; obtain ⟨ji27, hji27⟩ : ∃ j_ : Int, (wrap64 (a0_ + 1)) = j_ := ⟨_, rfl⟩; (replace H : (if 0 ≤ (ji27) then (if (ji27) ≤ (a1_.length : Int) then (some ((a5_.eraseIdx (a0_ : Int).toNat), true, 0)) else (none)) else (none)) = some (r1, r2, r3) := by first | (rw [hji27] at H; exact H) | (simp only [hji27] at H ⊢; exact H)); (try rw [hji27] at A3); (try rw [hji27] at A5); have hji27w : (IntKind.i64.wrap (a0_ + 1)) = ji27 := (i64_w _).trans hji27
        by_cases c28 : 0 ≤ (ji27)
        ·rw [if_pos c28] at H
         have j6_ := eq_true c28; have j7_ : decide (0 ≤ (ji27)) = true := decide_eq_true c28; clear c28
         by_cases c29 : (ji27) ≤ (a1_.length : Int)
         ·rw [if_pos c29] at H
          have j8_ := eq_true c29; have j9_ : decide ((ji27) ≤ (a1_.length : Int)) = true := decide_eq_true c29; clear c29; obtain ⟨c8_, hy269⟩ : ∃ y_ : List (S33), y_ = (a5_.drop ((ji27) : Int).toNat) := ⟨_, rfl⟩; (replace H : (some ((a5_.eraseIdx (a0_ : Int).toNat), true, 0)) = some (r1, r2, r3) := by first | (rw [hy269]; with_reducible exact H) | (have H2_ := (Option.bind_some _ _).symm.trans H; rw [hy269]; with_reducible exact H2_) | (have H2_ := (Option.bind_some _ _).symm.trans H; with_reducible exact H2_) | with_reducible exact H | (rw [hy269]; exact H) | exact H); have Ny269 := As hy269; clear hy269; obtain ⟨d4_, hy273⟩ : ∃ y_ : List (S33), y_ = (a5_.eraseIdx (a0_ : Int).toNat) := ⟨_, rfl⟩; (replace H : (some (d4_, true, 0)) = some (r1, r2, r3) := by first | (rw [hy273]; with_reducible exact H) | (have H2_ := (Option.bind_some _ _).symm.trans H; rw [hy273]; with_reducible exact H2_) | (have H2_ := (Option.bind_some _ _).symm.trans H; with_reducible exact H2_) | with_reducible exact H | (rw [hy273]; exact H) | exact H); have Ny273 := As hy273; clear hy273; simp only [Option.some.injEq, Prod.mk.injEq] at H; obtain ⟨rfl, rfl, rfl⟩ := H; go_enter Try.func27, Try.ntmps27
          (try go_wp2_with (first | ((with_reducible refine gate_dst (N := 2) rfl ?_); refine bxE 2 #[.slice A0_0 l0_0.length c0_0] 25 ?_; intro a6_ hg w30 hbox hb; have a2_ := As (hbox); have b7_ := As (by rw [hg]; exact (below_size hBq) : w.heap.size ≤ a6_); replace HB := sBq hb; have c9_ := b7_; clear hb hbox hg) | ((with_reducible refine gate_dst (N := 4) rfl ?_); refine bxE 4 #[.slice none 0 0] 25 ?_; intro a8_ hg w31 hbox hb; have a3_ := As (hbox); have b8_ := As (by rw [hg]; exact (below_size hBq) : w.heap.size ≤ a8_); replace HB := sBq hb; have d0_ := b8_; have b0_ := As (by rw [hg]; exact Nat.ne_of_lt (blk_lt (g := a6_) (plq a2_.out)) : a6_ ≠ a8_); replace a2_ := As (blk_below (plq a2_.out) hb); have b1_ := As b0_.out.symm; clear hb hbox hg; have l0_ := b0_.out; have l1_ := b1_.out; have h3_ : w31.cell? ⟨a6_, 0, none⟩ = some (.slice A0_0 l0_0.length c0_0) := (blk_cell a2_.out 0).trans rfl; have h4_ := blk_frozen a2_.out 0) | ((with_reducible refine gate_callee (f := 24) rfl ?_); refine gL (some 11) Try.func24 #[.agg #[.slice A0_0 l0_0.length c0_0]] ?_; (with_reducible refine (ref09_Check.calls k _ _ l0_0 b3_ _ ?side1 ?side2 A3.out).mono ?_); (case side1 => exact cq ⟨Kd.C_below HR0_0.out HB.out⟩); (case side2 => exact HC0_0.out); rintro e w34 ⟨rfl, hb⟩; refine ⟨_, rfl, ?_⟩; replace a2_ := As (blk_below (plq a2_.out) hb); replace a3_ := As (blk_below (plq a3_.out) hb); replace HB := sBq hb; (try clear hb); have h5_ : w34.cell? ⟨a6_, 0, none⟩ = some (.slice A0_0 l0_0.length c0_0) := (blk_cell a2_.out 0).trans rfl; have h6_ := blk_frozen a2_.out 0) | ((with_reducible refine gate_callee (f := 37) rfl ?_); refine gL (some 17) Try.func37 #[.agg #[.slice A0_0 l0_0.length c0_0], a1] ?_; (with_reducible refine (ref09_find.calls k _ _ l0_0 a1 a0_ true _ ?side1 ?side2 A5.out).mono ?_); (case side1 => exact cq ⟨Kd.C_below HR0_0.out HB.out⟩); (case side2 => exact HC0_0.out); rintro e w36 ⟨rfl, hb⟩; refine ⟨_, rfl, ?_⟩; replace a2_ := As (blk_below (plq a2_.out) hb); replace a3_ := As (blk_below (plq a3_.out) hb); replace HB := sBq hb; (try clear hb); have h7_ : w36.cell? ⟨a6_, 0, none⟩ = some (.slice A0_0 l0_0.length c0_0) := (blk_cell a2_.out 0).trans rfl; have h8_ := blk_frozen a2_.out 0) | ((with_reducible refine gate_builtin (b := .append) (xs := #[.const (.slice none 0 0), .tmp 24]) rfl ?_); at_builtin; refine Kd.R_append_rows k33 (w0 := w) w.heap.size rfl (.const (.slice none 0 0)) (.tmp 24) 23 33 (.agg #[(.int .i64 0), (.int .i64 0), (.string ⟨#[]⟩)]) 32 rfl Try.underlying23 info33 rfl (by decide) (by omega) (.slice none 0 0) ([] : List (S33)) l0_0 _ _ _ (fun _ => True) (fun _ => False) rfl rfl ?aO ?aR (fun _ _ h => h) (fun _ h => h.elim) ?aF ?aB ?aS ?aL ?_; (case aR => repeat (first | exact (Kd.C_below HR0_0.out HB.out) | (with_reducible refine Kd.C_alloc ?_ _) | (with_reducible refine Kd.C_drewN ?_ _) | (with_reducible refine Kd.C_drew ?_))); (case aB => exact hBq); (case aF => exact (fun _ _ => trivial)); (case aO => exact ((Kd.R_nil _ _ _ _ (fun _ => True)))); (case aS => exact (below_size hBq)); (case aL => have := LMc7.out; omega); intro f4_ w38 ho hb hg hat; rw [← Ny259.out] at ho; replace a2_ := As (blk_grown (g := a6_) (o := .cells #[.slice A0_0 l0_0.length c0_0] 25 (0, 0)) (plq a2_.out) hg (by simp [Value.ownBlock])); replace a3_ := As (blk_grown (g := a8_) (o := .cells #[.slice none 0 0] 25 (0, 0)) (plq a3_.out) hg (by simp [Value.ownBlock])); replace HB := As (hb); have a4_ := As (ho); clear ho hb hg hat; obtain ⟨m0_, b2_, f9_⟩ := Kd.R_slice a4_.out; subst f9_; have b9_ : 0 ≤ (a0_ : Int) := dq; have c0_ : a0_ < (a1_.length : Int) := dq; obtain ⟨f0_, d5_, c3_, c4_, c5_⟩ := at_T33 (Kd.R_reads' a4_.out).2.2 a0_ b9_ c0_; cases d5_; replace b9_ := eq_true b9_; replace c0_ := eq_true c0_; have p10 : 0 ≤ (a0_ : Int) := dq; have q10 : (a0_ : Int) < ((a1_.length : Int) : Int) := dq; obtain ⟨a7_, f6_, c6_, c7_, d6_, f7_, HG10⟩ := Kd.R_form a4_.out (by omega); (first | cases c6_ | (injection c6_ with ea_ en_ ec_; (first | subst ea_ | (injection ea_ with ea_; subst ea_)); subst ec_; clear en_)); have d7_ := As c7_; have f8_ := As HG10; clear c7_ d6_ HG10; (first | simp only [add_plain] at c3_ | skip); (first | simp only [add_plain] at c4_ | skip); (first | simp only [add_plain] at c5_ | skip); obtain ⟨ce10, hcl10, hM10, hcc10, hfr10⟩ := Kd.R_elem a4_.out z33 (a0_ : Int) p10 q10; obtain rfl := k33_openM hM10; have e1_ : w38.cell? ⟨a7_, (a0_ : Int).toNat * 3, none⟩ = some (.int .i64 ((rd_T33 a1_ a0_).f0)) := hcc10 0 _ rfl; have e2_ : w38.cell? ⟨a7_, (a0_ : Int).toNat * 3 + 1, none⟩ = some (.int .i64 ((rd_T33 a1_ a0_).f1)) := hcc10 1 _ rfl; have e3_ : w38.cell? ⟨a7_, (a0_ : Int).toNat * 3 + 2, none⟩ = some (.string ((rd_T33 a1_ a0_).f2)) := hcc10 2 _ rfl; have hf10_0 : w38.frozen? ⟨a7_, (a0_ : Int).toNat * 3, none⟩ = false := hfr10 0; have hf10_1 : w38.frozen? ⟨a7_, (a0_ : Int).toNat * 3 + 1, none⟩ = false := hfr10 1; have hf10_2 : w38.frozen? ⟨a7_, (a0_ : Int).toNat * 3 + 2, none⟩ = false := hfr10 2; clear hcl10 hcc10 hfr10 hM10; replace p10 := eq_true p10; replace q10 := eq_true q10; have e6_ := As (show Kd.R k33 33 w38 w.heap.size (fun _ => True) (.slice (some ⟨a7_, 0, none⟩) a1_.length b2_) a1_ from (rqR a4_)); obtain ⟨ce40, hcl40, hM40, hcc40, hfr40⟩ := Kd.R_elem e6_.out z33 (a0_ : Int) (dq) (by have h_ : (a0_ : Int) < ((a1_.length : Int) : Int) := dq; first | exact h_ | (have e_ := (Kd.R_reads' a4_.out).1; omega) | simpa using h_); obtain rfl := k33_openM hM40; have HP40 := Kd.R_seg e6_.out (a0_ : Int) (dq) (by have h_ : (a0_ : Int) < ((a1_.length : Int) : Int) := dq; first | exact h_ | (have e_ := (Kd.R_reads' a4_.out).1; omega) | simpa using h_) (seg := [(wrap64 (((rd_T33 a1_ a0_).f1) - 1))]) (j := 1) hcl40 hcc40 (show 2 ≤ 3 from by decide) (x' := (⟨(rd_T33 a1_ a0_).f0, wrap64 (((rd_T33 a1_ a0_).f1) - 1), (rd_T33 a1_ a0_).f2⟩ : S33)) (k33_mkM _ _ _ (⟨(rd_T33 a1_ a0_).f0, wrap64 (((rd_T33 a1_ a0_).f1) - 1), (rd_T33 a1_ a0_).f2⟩ : S33) ) (fun _ hk => hk); have e7_ := hcc40 1 _ rfl; (try simp only [show (k33).sz = 3 from rfl, Nat.mul_one, Nat.add_zero] at e7_); have hf40_1 := hfr40 1; (try simp only [show (k33).sz = 3 from rfl, Nat.mul_one, Nat.add_zero] at hf40_1); clear hcl40 hcc40 hfr40 hM40) | ((with_reducible refine gate_store (t := 3) (p := 33) rfl ?_); refine store_event (t := 3) (p := 33) (v := ?vo_w41) (w1 := (w38.setCell ⟨a7_, (a0_ : Int).toNat * 3 + 1, none⟩ ((wrap64 (((rd_T33 a1_ a0_).f1) - 1))))) ?hg ?ho ?hn ?hr ?_; (case ho => rfl); (case hg => rfl); (case hn => rfl); (case hr => first | (go_simp; done) | (go_simp; rfl)); intro w41 hw; have hg : w38.grownBy w41 (some a7_) := (by rw [hw]; exact HP40.2); have hp_ : Kd.R k33 33 w41 w.heap.size (fun _ => True) (.slice (some ⟨a7_, 0, none⟩) a1_.length b2_) a5_ := (by rw [hw, Ny263.out]; exact HP40.1); clear HP40; replace a2_ := As (blk_grown (g := a6_) (o := .cells #[.slice A0_0 l0_0.length c0_0] 25 (0, 0)) (plq a2_.out) hg (Kd.R_ne a4_.out a2_.out (by decide))); replace a3_ := As (blk_grown (g := a8_) (o := .cells #[.slice none 0 0] 25 (0, 0)) (plq a3_.out) hg (Kd.R_ne a4_.out a3_.out (by decide))); replace a4_ := As (hp_); replace HB := As ((by rw [hw]; exact below_set (HB.out) d7_.out : Below w.heap.size w w41)); clear hg hw hp_; have c1_ : 0 ≤ (a0_ : Int) := dq; have c2_ : a0_ < (a5_.length : Int) := (by have h_ : (a0_ : Int) < ((a1_.length : Int) : Int) := dq; first | (have e_ := (Kd.R_reads' a4_.out).1; omega) | simpa only [Ny263.out, List.length_set] using h_); have ql264 : ((a0_ : Int) < ((a1_.length : Int) : Int)) = True := eq_true (dq); obtain ⟨d2_, d8_, b4_, b5_, b6_⟩ := at_T33 (Kd.R_reads' a4_.out).2.2 a0_ c1_ c2_; obtain rfl : (⟨a7_, 0, none⟩ : Addr) = d2_ := (by injection d8_); (first | simp only [add_plain] at b4_ | simp only [add_at] at b4_ | simp only [Addr.add, Nat.zero_add] at b4_ | skip); (first | simp only [add_plain] at b5_ | simp only [add_at] at b5_ | simp only [Addr.add, Nat.zero_add] at b5_ | skip); (first | simp only [add_plain] at b6_ | simp only [add_at] at b6_ | simp only [Addr.add, Nat.zero_add] at b6_ | skip); replace c1_ := eq_true c1_; replace c2_ := eq_true c2_)))
          replace a4_ := As (Kd.R_drew a4_.out); replace a2_ := As (blk_drew a2_.out); replace a3_ := As (blk_drew a3_.out); replace HB := As (below_drew1 HB.out); have hlx43 := (Kd.R_reads' a4_.out).1; have q43 : (a0_ : Int) ≤ ((a1_.length : Int) : Int) := dq; obtain ⟨i043, d9_, _, hsz43, _⟩ := info_parts info33; have hroom43 : a1_.length ≤ b2_ := (Kd.R_reads' a4_.out).2.1; have hroomc43 : a5_.length ≤ b2_ := (by rw [← hlx43]; exact hroom43); have hC43 : Kd.C k33 _ (some ⟨a7_, 0, none⟩) a5_.length a5_ := (Kd.R_reads' a4_.out).2.2; have hcut43 := cut_to (P := Try.prog) 23 33 .i64 Try.underlying23 d9_ (some ⟨a7_, 0, none⟩) a1_.length b2_ a0_ (dq) q43 hroom43; have hr43 := Kd.C_take (m := (a0_ : Int).toNat) hC43 (by omega); have hy43 : d3_.length = (a0_ : Int).toNat := (by rw [Ny265.out, List.length_take]; omega); rw [← Ny265.out] at hr43; rw [← hy43] at hcut43; have HR268 := As hr43; have HC268 := As (show d3_.length ≤ b2_ from by omega); clear hr43 hC43 hroom43 d9_ hsz43 hroomc43; have g0_ := As hy43; clear hy43; have KE43 := As hlx43; have m1_ := As (show (a0_ : Int).toNat ≤ a5_.length from by omega)
          clear hlx43; replace q43 := eq_true q43; have hlx44 := (Kd.R_reads' a4_.out).1; have q44 : ((ji27) : Int) ≤ ((a1_.length : Int) : Int) := dq; obtain ⟨i044, e0_, _, hsz44, _⟩ := info_parts info33; have hroom44 : a1_.length ≤ b2_ := (Kd.R_reads' a4_.out).2.1; have hroomc44 : a5_.length ≤ b2_ := (by rw [← hlx44]; exact hroom44); have hC44 : Kd.C k33 _ (some ⟨a7_, 0, none⟩) a5_.length a5_ := (Kd.R_reads' a4_.out).2.2; have g1_ : (0 : Int) ≤ ((ji27) : Int) := dq; have hcut44 := cut_from (P := Try.prog) 23 33 .i64 Try.underlying23 e0_ 3 hsz44 (some ⟨a7_, 0, none⟩) a1_.length b2_ (ji27) g1_ q44; have hr44 := Kd.C_drop (m := ((ji27) : Int).toNat) (c := b2_) hC44 (by omega) hroomc44; obtain ⟨A44, hA44⟩ : ∃ A1, A1 = (if b2_ = ((ji27) : Int).toNat then (some ⟨a7_, 0, none⟩) else ((some ⟨a7_, 0, none⟩) : Option Addr).map (·.add (((ji27) : Int).toNat * 3))) := ⟨_, rfl⟩; obtain ⟨c44, hc44⟩ : ∃ c1, c1 = b2_ - ((ji27) : Int).toNat := ⟨_, rfl⟩; have hy44 : c8_.length = a1_.length - ((ji27) : Int).toNat := (by rw [Ny269.out, List.length_drop] <;> omega); rw [show (a5_).drop ((ji27) : Int).toNat = c8_ from Ny269.out.symm] at hr44; replace hr44 : Kd.C k33 _ A44 c8_.length c8_ := (by rw [hA44]; exact hr44); rw [← hy44, ← hA44, ← hc44] at hcut44; have HR272 := As hr44
          have HC272 := As (show c8_.length ≤ c44 from by rw [hy44, hc44]; exact Nat.sub_le_sub_right hroom44 _); clear hr44 hC44 hroom44 e0_ hsz44 hc44 hroomc44; have g2_ := As hy44; have g3_ := As hA44; clear hy44 hA44; have KE44 := As hlx44; have m2_ := As (show ((ji27) : Int).toNat ≤ a5_.length from by omega); clear hlx44; replace q44 := eq_true q44; refine start_ (n := 12) (S := fun w' => True) (ds := []) (marksOf 12 0) (by kernel_rfl) rfl rfl trivial (fun hHeld => ?_); refine with_tabW ref09_Drop.tab10 ref09_Drop.bits10 (fun HT_ HW_ => ?_); generalize w41.drew = w42 at a4_ a2_ a3_ HB HR268 HR272 hHeld ⊢; refine pv_ 0 42 12 1 ?_; refine pv_ 1 43 12 3 ?_; refine pv_ 2 44 12 7 ?_
          refine pv_ 3 45 12 15 ?_; refine pv_ 4 46 12 31 ?_; refine pv_ 5 47 12 63 ?_; refine pv_ 6 48 12 127 ?_; refine one_ (i := 7) (N := some 49) (marksOf 12 255) rfl rfl (one_of HT_.out (by kernel_rfl)) (by decide) (fun K hK => ?_); have hj_ : 0 ≤ (a0_ : Int) := dq; have hl_ : (ji27 : Int) ≤ (a1_.length : Int) := dq; have hh_ : (a0_ : Int) ≤ (a1_.length : Int) := dq; have hb_ := (Kd.R_reads' a4_.out).2.2.2.1; have hn1_ := (Kd.R_reads' a4_.out).1
          have h0_ : (0 : Int) ≤ (ji27 : Int) := dq; have e8_ := g0_.out; have hk_ : (ji27 : Int).toNat = d3_.length + 1 := (by have hw_ : (ji27 : Int) = a0_ + 1 := (by have h00_ := h0_; rw [← hji27] at h00_ ⊢; unfold wrap64 at h00_ ⊢; omega); rw [hw_]; omega); refine Kd.R_delete_step k33 (w0 := w) w.heap.size (by rfl) (.tmp 44) (.tmp 48) 23 33 rfl Try.underlying23 (by kernel_rfl) (g := a7_) (n := a1_.length) (c := b2_) (k := d3_.length) rfl rfl ?hA ?hm (rqR a4_) ?hk hBq (below_size hBq) ?_; (case hA => have ha_ := g3_.out; rw [hk_] at ha_; exact ha_); (case hm => have ha_ := g2_.out; omega); (case hk => omega); intro w45 ho hb hg; clear hj_ hl_ hh_ hb_ hk_ h0_ hn1_; rw [e8_, ← Ny273.out] at ho; clear e8_; have hn_ : a1_.length - 1 = d4_.length := (by have := (Kd.R_reads' ho).1; omega); rw [hn_] at ho ⊢; clear hn_
          replace a2_ := As (blk_grown (g := a6_) (o := .cells #[.slice A0_0 l0_0.length c0_0] 25 (0, 0)) (plq a2_.out) hg (Kd.R_ne a4_.out a2_.out (by decide))); replace a3_ := As (blk_grown (g := a8_) (o := .cells #[.slice none 0 0] 25 (0, 0)) (plq a3_.out) hg (Kd.R_ne a4_.out a3_.out (by decide))); replace a4_ := As (ho); replace HB := As (hb); clear ho hb hg; refine hK.out _ _ trivial (fun hHeld => ?_); clear hK K; refine norm_ (a' := ?_) ?_ ?_; rotate_left
          ·show Act.put _ (some 49) _ = _
           simp only [Act.put, q1, q2, q3, i64_w, i32_w]; rfl
          refine pv_ 8 50 12 511 ?_; refine one_ (i := 9) (N := none) (marksOf 12 1023) rfl rfl (one_of HT_.out (by kernel_rfl)) (by decide) (fun K hK => ?_); have m3_ : w45.cell? ⟨a8_, 0, none⟩ = some (.slice none 0 0) := (blk_cell a3_.out 0).trans rfl; have l2_ := blk_frozen a3_.out 0; have h9_ := b0_.out; have i0_ := b1_.out; refine skip_ (w1 := ?_) (by rfl) rfl ?_ ?_; rotate_left
          ·go_simp
           rfl
          refine hK.out _ _ trivial (fun hHeld => ?_); clear hK K; refine pv_ 10 5 12 2047 ?_; refine pv_ 11 6 12 4095 ?_; refine done_ (done_of HT_.out (by kernel_rfl)) ?_; (try go_wp2); refine bodyPost_ret (results_ctt rfl _ _ a8_ 25 #[.slice (some ⟨a7_, 0, none⟩) d4_.length b2_] (0, 0) _ rfl (by refine plT ?_; refine blk_put (cs := #[.slice none 0 0]) ?_ 0 _ rfl; refine plT ?_; exact a3_.out) Try.underlying25 rfl (by kernel_rfl)) rfl ?_
          exact ⟨_, by first | rfl | (simp [errW_none, errW_some] <;> rfl) | (simp only [← hji27]; first | rfl | (simp [errW_none, errW_some] <;> rfl)) | (simp [*, errW_none, errW_some] <;> rfl), by (with_reducible repeat (first | apply Kd.R_alloc | apply Kd.R_drewN | apply Kd.R_drew)); exact Kd.R_mono (Kd.R_far (p := ⟨a8_, 0, none⟩) (Kd.R_types a4_.out a3_.out (by decide)) (fun _ hk => hk.2) (.slice (some ⟨a7_, 0, none⟩) d4_.length b2_)) (fun _ hk => trivial), hBq⟩
         ·rw [if_neg c29] at H
          exact absurd H (by simp)
        ·rw [if_neg c28] at H
         exact absurd H (by simp)
       ·rw [if_neg c26] at H
        exact absurd H (by simp)
     ·rw [if_neg c9] at H
      exact absurd H (by simp)
    ·rw [if_neg c8] at H
     exact absurd H (by simp)
   ·rw [if_neg c7] at H
    exact absurd H (by simp)
  ·replace c6 := Bool.eq_false_iff.mpr c6
   subst c6; rw [if_neg nft] at H; simp only [Option.some.injEq, Prod.mk.injEq] at H; obtain ⟨rfl, rfl, rfl⟩ := H; go_enter Try.func27, Try.ntmps27
   go_wp2_with (first | ((with_reducible refine gate_dst (N := 2) rfl ?_); refine bxE 2 #[.slice A0_0 l0_0.length c0_0] 25 ?_; intro a6_ hg w48 hbox hb; have a2_ := As (hbox); have b7_ := As (by rw [hg]; exact (below_size hBq) : w.heap.size ≤ a6_); replace HB := sBq hb; have c9_ := b7_; clear hb hbox hg) | ((with_reducible refine gate_dst (N := 4) rfl ?_); refine bxE 4 #[.slice none 0 0] 25 ?_; intro a8_ hg w49 hbox hb; have a3_ := As (hbox); have b8_ := As (by rw [hg]; exact (below_size hBq) : w.heap.size ≤ a8_); replace HB := sBq hb; have d0_ := b8_; have b0_ := As (by rw [hg]; exact Nat.ne_of_lt (blk_lt (g := a6_) (plq a2_.out)) : a6_ ≠ a8_); replace a2_ := As (blk_below (plq a2_.out) hb); have b1_ := As b0_.out.symm; clear hb hbox hg; have l3_ := b0_.out; have l4_ := b1_.out; have i1_ : w49.cell? ⟨a6_, 0, none⟩ = some (.slice A0_0 l0_0.length c0_0) := (blk_cell a2_.out 0).trans rfl; have i2_ := blk_frozen a2_.out 0) | ((with_reducible refine gate_callee (f := 24) rfl ?_); refine gL (some 11) Try.func24 #[.agg #[.slice A0_0 l0_0.length c0_0]] ?_; (with_reducible refine (ref09_Check.calls k _ _ l0_0 b3_ _ ?side1 ?side2 A3.out).mono ?_); (case side1 => exact cq ⟨Kd.C_below HR0_0.out HB.out⟩); (case side2 => exact HC0_0.out); rintro e w52 ⟨rfl, hb⟩; refine ⟨_, rfl, ?_⟩; replace a2_ := As (blk_below (plq a2_.out) hb); replace a3_ := As (blk_below (plq a3_.out) hb); replace HB := sBq hb; (try clear hb); have i3_ : w52.cell? ⟨a6_, 0, none⟩ = some (.slice A0_0 l0_0.length c0_0) := (blk_cell a2_.out 0).trans rfl; have i4_ := blk_frozen a2_.out 0) | ((with_reducible refine gate_callee (f := 37) rfl ?_); refine gL (some 17) Try.func37 #[.agg #[.slice A0_0 l0_0.length c0_0], a1] ?_; (with_reducible refine (ref09_find.calls k _ _ l0_0 a1 a0_ false _ ?side1 ?side2 A5.out).mono ?_); (case side1 => exact cq ⟨Kd.C_below HR0_0.out HB.out⟩); (case side2 => exact HC0_0.out); rintro e w54 ⟨rfl, hb⟩; refine ⟨_, rfl, ?_⟩; replace a2_ := As (blk_below (plq a2_.out) hb); replace a3_ := As (blk_below (plq a3_.out) hb); replace HB := sBq hb; (try clear hb); have i5_ : w54.cell? ⟨a8_, 0, none⟩ = some (.slice none 0 0) := (blk_cell a3_.out 0).trans rfl; have i6_ := blk_frozen a3_.out 0))
   refine bodyPost_ret (results_ctt rfl _ _ a8_ 25 #[.slice none 0 0] (0, 0) _ rfl (by refine plT ?_; refine blk_put (cs := #[.slice none 0 0]) ?_ 0 _ rfl; refine plT ?_; exact a3_.out) Try.underlying25 rfl (by kernel_rfl)) rfl ?_; exact ⟨_, by first | rfl | (simp [errW_none, errW_some] <;> rfl) | (simp [*, errW_none, errW_some] <;> rfl), by first | exact Kd.R_nil _ _ _ _ _ | exact Kd.N_nil _ _ _ _ _ | exact Kd.V_nil _ _ _ _ _ | exact Kd.Q_nil _ _ _ _ _ | exact Kd.S_nil _ _ _ _ _, hBq⟩
 ·rw [if_neg c4] at H
  have f1_ : (b3_ == 0) = false := beq_eq_false_iff_ne.mpr c4; have f2_ : (b3_ != 0) = true := bne_iff_ne.mpr c4; simp only [Option.some.injEq, Prod.mk.injEq] at H; obtain ⟨rfl, rfl, rfl⟩ := H; go_enter Try.func27, Try.ntmps27
  go_wp2_with (first | ((with_reducible refine gate_dst (N := 2) rfl ?_); refine bxE 2 #[.slice A0_0 l0_0.length c0_0] 25 ?_; intro a6_ hg w56 hbox hb; have a2_ := As (hbox); have b7_ := As (by rw [hg]; exact (below_size hBq) : w.heap.size ≤ a6_); replace HB := sBq hb; have c9_ := b7_; clear hb hbox hg) | ((with_reducible refine gate_dst (N := 4) rfl ?_); refine bxE 4 #[.slice none 0 0] 25 ?_; intro a8_ hg w57 hbox hb; have a3_ := As (hbox); have b8_ := As (by rw [hg]; exact (below_size hBq) : w.heap.size ≤ a8_); replace HB := sBq hb; have d0_ := b8_; have b0_ := As (by rw [hg]; exact Nat.ne_of_lt (blk_lt (g := a6_) (plq a2_.out)) : a6_ ≠ a8_); replace a2_ := As (blk_below (plq a2_.out) hb); have b1_ := As b0_.out.symm; clear hb hbox hg; have l5_ := b0_.out; have l6_ := b1_.out; have i7_ : w57.cell? ⟨a6_, 0, none⟩ = some (.slice A0_0 l0_0.length c0_0) := (blk_cell a2_.out 0).trans rfl; have i8_ := blk_frozen a2_.out 0) | ((with_reducible refine gate_callee (f := 24) rfl ?_); refine gL (some 11) Try.func24 #[.agg #[.slice A0_0 l0_0.length c0_0]] ?_; (with_reducible refine (ref09_Check.calls k _ _ l0_0 b3_ _ ?side1 ?side2 A3.out).mono ?_); (case side1 => exact cq ⟨Kd.C_below HR0_0.out HB.out⟩); (case side2 => exact HC0_0.out); rintro e w60 ⟨rfl, hb⟩; refine ⟨_, rfl, ?_⟩; replace a2_ := As (blk_below (plq a2_.out) hb); replace a3_ := As (blk_below (plq a3_.out) hb); replace HB := sBq hb; (try clear hb); have i9_ : w60.cell? ⟨a8_, 0, none⟩ = some (.slice none 0 0) := (blk_cell a3_.out 0).trans rfl; have j0_ := blk_frozen a3_.out 0))
  refine bodyPost_ret (results_ctt rfl _ _ a8_ 25 #[.slice none 0 0] (0, 0) _ rfl (by refine plT ?_; refine blk_put (cs := #[.slice none 0 0]) ?_ 0 _ rfl; refine plT ?_; exact a3_.out) Try.underlying25 rfl (by kernel_rfl)) rfl ?_; exact ⟨_, by first | rfl | (simp [errW_none, errW_some] <;> rfl) | (simp [*, errW_none, errW_some] <;> rfl), by first | exact Kd.R_nil _ _ _ _ _ | exact Kd.N_nil _ _ _ _ _ | exact Kd.V_nil _ _ _ _ _ | exact Kd.Q_nil _ _ _ _ _ | exact Kd.S_nil _ _ _ _ _, hBq⟩
attribute [local go_sem high] eqA33
def ref09_Same.l0 : Nat → Int → Int → List (S33) → List (S33) → Option (Bool)
 | 0, _, _, _, _ => none
 | k + 1, x15, x16, x251000, x252000 => if x16 < x15 then (if 0 ≤ x16 then (if x16 < (x251000.length : Int) then (if x16 < (x252000.length : Int) then (if (!(((rd_T33 x251000 x16).f0) == ((rd_T33 x252000 x16).f0)) || (!(((rd_T33 x251000 x16).f1) == ((rd_T33 x252000 x16).f1)) || (!((((rd_T33 x251000 x16).f2).toList) == (((rd_T33 x252000 x16).f2).toList))))) = true then (some false) else (ref09_Same.l0 k x15 (wrap64 (x16 + 1)) x251000 x252000)) else (none)) else (none)) else (none)) else (some true)
def ref09_Same.f (k : Nat) (l0_0 : List (S33)) (l1_0 : List (S33)) : Option (Bool) := if (l0_0.length : Int) = (l1_0.length : Int) then (ref09_Same.l0 k (l0_0.length : Int) 0 l0_0 l1_0) else (some false)
set_option maxHeartbeats 8000000 in
set_option maxRecDepth 100000 in
theorem ref09_Same.calls (k : Nat) (A0_0 : Option Addr) (c0_0 : Nat) (l0_0 : List (S33)) (A1_0 : Option Addr) (c1_0 : Nat) (l1_0 : List (S33)) (r : Bool) (w : World) (hr0_0 : Kd.C k33 w A0_0 l0_0.length l0_0) (hc0_0 : l0_0.length ≤ c0_0) (hr1_0 : Kd.C k33 w A1_0 l1_0.length l1_0) (hc1_0 : l1_0.length ≤ c1_0) (h : ref09_Same.f k l0_0 l1_0 = some r) :
 Calls Try.prog 25 #[.agg #[.slice A0_0 l0_0.length c0_0], .agg #[.slice A1_0 l1_0.length c1_0]] w fun e w' => e = .returned (.bool r) ∧ Below w.heap.size w w' := by
 have hu25 := Try.underlying25; have hu33 := Try.underlying33; have HR0_0 := As hr0_0; have HC0_0 := As hc0_0; clear hr0_0 hc0_0; have HR1_0 := As hr1_0; have HC1_0 := As hc1_0; clear hr1_0 hc1_0; have HB := As (Below.refl w.heap.size w); have H : (if (l0_0.length : Int) = (l1_0.length : Int) then (ref09_Same.l0 k (l0_0.length : Int) 0 l0_0 l1_0) else (some false)) = some r := h; clear h
 by_cases c3 : (l0_0.length : Int) = (l1_0.length : Int)
 ·rw [if_pos c3] at H
  have c7_ : ((l0_0.length : Int) == (l1_0.length : Int)) = true := beq_iff_eq.mpr c3; have c8_ : ((l0_0.length : Int) != (l1_0.length : Int)) = false := bne_eq_false_iff_eq.mpr c3; (have c9_ : (l0_0.length == l1_0.length) = true := by first | simpa using c3 | (simp at c3 ⊢; omega)); clear c3; have H' := As H; clear H; go_enter Try.func25, Try.ntmps25
  go_wp2_with (first | ((with_reducible refine gate_dst (N := 2) rfl ?_); refine bxE 2 #[.slice A0_0 l0_0.length c0_0] 25 ?_; intro a3_ hg w4 hbox hb; have a1_ := As (hbox); have a7_ := As (by rw [hg]; exact (below_size hBq) : w.heap.size ≤ a3_); replace HB := sBq hb; have b3_ := a7_; clear hb hbox hg) | ((with_reducible refine gate_dst (N := 3) rfl ?_); refine bxE 3 #[.slice A1_0 l1_0.length c1_0] 25 ?_; intro a4_ hg w5 hbox hb; have a6_ := As (hbox); have a8_ := As (by rw [hg]; exact (below_size hBq) : w.heap.size ≤ a4_); replace HB := sBq hb; have b4_ := a8_; have a2_ := As (by rw [hg]; exact Nat.ne_of_lt (blk_lt (g := a3_) (plq a1_.out)) : a3_ ≠ a4_); replace a1_ := As (blk_below (plq a1_.out) hb); have a5_ := As a2_.out.symm; clear hb hbox hg; have d0_ := a2_.out; have d1_ := a5_.out; have b5_ : w5.cell? ⟨a3_, 0, none⟩ = some (.slice A0_0 l0_0.length c0_0) := (blk_cell a1_.out 0).trans rfl; have b6_ := blk_frozen a1_.out 0; have b7_ : w5.cell? ⟨a4_, 0, none⟩ = some (.slice A1_0 l1_0.length c1_0) := (blk_cell a6_.out 0).trans rfl; have b8_ := blk_frozen a6_.out 0))
  (repeat (go_quiet (first | ((with_reducible refine gate_dst (N := 2) rfl ?_); refine bxE 2 #[.slice A0_0 l0_0.length c0_0] 25 ?_; intro a3_ hg w4 hbox hb; have a1_ := As (hbox); have a7_ := As (by rw [hg]; exact (below_size hBq) : w.heap.size ≤ a3_); replace HB := sBq hb; have b3_ := a7_; clear hb hbox hg) | ((with_reducible refine gate_dst (N := 3) rfl ?_); refine bxE 3 #[.slice A1_0 l1_0.length c1_0] 25 ?_; intro a4_ hg w5 hbox hb; have a6_ := As (hbox); have a8_ := As (by rw [hg]; exact (below_size hBq) : w.heap.size ≤ a4_); replace HB := sBq hb; have b4_ := a8_; have a2_ := As (by rw [hg]; exact Nat.ne_of_lt (blk_lt (g := a3_) (plq a1_.out)) : a3_ ≠ a4_); replace a1_ := As (blk_below (plq a1_.out) hb); have a5_ := As a2_.out.symm; clear hb hbox hg; have d0_ := a2_.out; have d1_ := a5_.out; have b5_ : w5.cell? ⟨a3_, 0, none⟩ = some (.slice A0_0 l0_0.length c0_0) := (blk_cell a1_.out 0).trans rfl; have b6_ := blk_frozen a1_.out 0; have b7_ : w5.cell? ⟨a4_, 0, none⟩ = some (.slice A1_0 l1_0.length c1_0) := (blk_cell a6_.out 0).trans rfl; have b8_ := blk_frozen a6_.out 0)); try go_wp2_with (first | ((with_reducible refine gate_dst (N := 2) rfl ?_); refine bxE 2 #[.slice A0_0 l0_0.length c0_0] 25 ?_; intro a3_ hg w4 hbox hb; have a1_ := As (hbox); have a7_ := As (by rw [hg]; exact (below_size hBq) : w.heap.size ≤ a3_); replace HB := sBq hb; have b3_ := a7_; clear hb hbox hg) | ((with_reducible refine gate_dst (N := 3) rfl ?_); refine bxE 3 #[.slice A1_0 l1_0.length c1_0] 25 ?_; intro a4_ hg w5 hbox hb; have a6_ := As (hbox); have a8_ := As (by rw [hg]; exact (below_size hBq) : w.heap.size ≤ a4_); replace HB := sBq hb; have b4_ := a8_; have a2_ := As (by rw [hg]; exact Nat.ne_of_lt (blk_lt (g := a3_) (plq a1_.out)) : a3_ ≠ a4_); replace a1_ := As (blk_below (plq a1_.out) hb); have a5_ := As a2_.out.symm; clear hb hbox hg; have d0_ := a2_.out; have d1_ := a5_.out; have b5_ : w5.cell? ⟨a3_, 0, none⟩ = some (.slice A0_0 l0_0.length c0_0) := (blk_cell a1_.out 0).trans rfl; have b6_ := blk_frozen a1_.out 0; have b7_ : w5.cell? ⟨a4_, 0, none⟩ = some (.slice A1_0 l1_0.length c1_0) := (blk_cell a6_.out 0).trans rfl; have b8_ := blk_frozen a6_.out 0))))
  go_loopg [16] k (fun kq v16 w' => ∃ (a0_ : Int), v16 = .int .i64 a0_ ∧ Aside0 (ref09_Same.l0 kq (l0_0.length : Int) a0_ l0_0 l1_0 = some r) ∧ Aside0 (kq ≤ k) ∧ Aside0 (w'.heap[a3_]? = some (.cells #[(.slice A0_0 l0_0.length c0_0)] 25 (0, 0))) ∧ Aside0 (w'.heap[a4_]? = some (.cells #[(.slice A1_0 l1_0.length c1_0)] 25 (0, 0))) ∧ Aside0 (Below w.heap.size w w'))
  case atStart => exact ⟨(0), (by first | rfl | (simp; done) | (simp [*]; done)), H', ⟨Nat.le_refl _⟩, ⟨by refine plT ?_; exact a1_.out⟩, ⟨by refine plT ?_; exact a6_.out⟩, ⟨hBq⟩⟩
  case round =>
   clear H'; (try clear c1); (try clear c2); (try clear p2); (try clear c3); (try clear c7_); (try clear c8_); (try clear c9_); (try clear c6); (try clear b5_); (try clear b7_); (try clear b6_); (try clear b8_); obtain ⟨a0_, rfl, HA, HK1, a1_, a6_, HB⟩ := hrel
   cases gk with
   | zero => exact absurd HA.out (by simp [ref09_Same.l0])
   | succ k1 =>
    have H := HA.out; clear HA; simp only [ref09_Same.l0] at H
    by_cases c9 : a0_ < (l0_0.length : Int)
    ·rw [if_pos c9] at H
     have d5_ : decide (a0_ < (l0_0.length : Int)) = true := decide_eq_true c9; clear c9
     by_cases c10 : 0 ≤ a0_
     ·rw [if_pos c10] at H
      have e4_ : decide (0 ≤ a0_) = true := decide_eq_true c10; clear c10
      by_cases c11 : a0_ < (l0_0.length : Int)
      ·rw [if_pos c11] at H
       have e5_ : decide (a0_ < (l0_0.length : Int)) = true := decide_eq_true c11; clear c11
       by_cases c12 : a0_ < (l1_0.length : Int)
       ·rw [if_pos c12] at H
        have e6_ : decide (a0_ < (l1_0.length : Int)) = true := decide_eq_true c12; clear c12
        by_cases c13 : (!(((rd_T33 l0_0 a0_).f0) == ((rd_T33 l1_0 a0_).f0)) || (!(((rd_T33 l0_0 a0_).f1) == ((rd_T33 l1_0 a0_).f1)) || (!((((rd_T33 l0_0 a0_).f2).toList) == (((rd_T33 l1_0 a0_).f2).toList))))) = true
        ·rw [if_pos c13] at H
         have d2_ : (!(((rd_T33 l0_0 a0_).f0) == ((rd_T33 l1_0 a0_).f0)) || (!(((rd_T33 l0_0 a0_).f1) == ((rd_T33 l1_0 a0_).f1)) || (!((((rd_T33 l0_0 a0_).f2).toList) == (((rd_T33 l1_0 a0_).f2).toList))))) = true := c13; clear c13; obtain rfl := Option.some.inj H; have e7_ := a2_.out; have e8_ := a5_.out; have d6_ : wr.cell? ⟨a3_, 0, none⟩ = some (.slice A0_0 l0_0.length c0_0) := (blk_cell a1_.out 0).trans rfl; have d7_ := blk_frozen a1_.out 0; have a9_ : 0 ≤ (a0_ : Int) := dq; have b0_ : a0_ < (l0_0.length : Int) := dq; obtain ⟨d3_, c3_, _, _, _⟩ := at_T33 (Kd.C_below HR0_0.out HB.out) a0_ a9_ b0_; cases c3_; replace a9_ := eq_true a9_; replace b0_ := eq_true b0_; have d8_ : wr.cell? ⟨a4_, 0, none⟩ = some (.slice A1_0 l1_0.length c1_0) := (blk_cell a6_.out 0).trans rfl; have d9_ := blk_frozen a6_.out 0; have b1_ : 0 ≤ (a0_ : Int) := dq
         have b2_ : a0_ < (l1_0.length : Int) := dq; obtain ⟨d4_, c4_, _, _, _⟩ := at_T33 (Kd.C_below HR1_0.out HB.out) a0_ b1_ b2_; cases c4_; replace b1_ := eq_true b1_; replace b2_ := eq_true b2_; go_wp2; (repeat (go_quiet (fail); try go_wp2)); go_ret; exact ⟨erq, hBq⟩
        ·rw [if_neg c13] at H
         (have d2_ : (!(((rd_T33 l0_0 a0_).f0) == ((rd_T33 l1_0 a0_).f0)) || (!(((rd_T33 l0_0 a0_).f1) == ((rd_T33 l1_0 a0_).f1)) || (!((((rd_T33 l0_0 a0_).f2).toList) == (((rd_T33 l1_0 a0_).f2).toList))))) = false := by simpa using c13); clear c13; have H' := As H; clear H; have e9_ := a2_.out; have f0_ := a5_.out; have e0_ : wr.cell? ⟨a3_, 0, none⟩ = some (.slice A0_0 l0_0.length c0_0) := (blk_cell a1_.out 0).trans rfl; have e1_ := blk_frozen a1_.out 0; have a9_ : 0 ≤ (a0_ : Int) := dq; have b0_ : a0_ < (l0_0.length : Int) := dq; obtain ⟨d3_, c3_, _, _, _⟩ := at_T33 (Kd.C_below HR0_0.out HB.out) a0_ a9_ b0_; cases c3_; replace a9_ := eq_true a9_; replace b0_ := eq_true b0_; have e2_ : wr.cell? ⟨a4_, 0, none⟩ = some (.slice A1_0 l1_0.length c1_0) := (blk_cell a6_.out 0).trans rfl; have e3_ := blk_frozen a6_.out 0; have b1_ : 0 ≤ (a0_ : Int) := dq
         have b2_ : a0_ < (l1_0.length : Int) := dq; obtain ⟨d4_, c4_, _, _, _⟩ := at_T33 (Kd.C_below HR1_0.out HB.out) a0_ b1_ b2_; cases c4_; replace b1_ := eq_true b1_; replace b2_ := eq_true b2_; go_wp2; (repeat (go_quiet (fail); try go_wp2)); go_roundg k1
         case measure => have := HK1.out; omega
         case rel => exact ⟨(wrap64 (a0_ + 1)), (by first | rfl | (simp; done) | (simp [*]; done)), H', ⟨by have := HK1.out; omega⟩, ⟨by refine plT ?_; exact a1_.out⟩, ⟨by refine plT ?_; exact a6_.out⟩, ⟨hBq⟩⟩
       ·rw [if_neg c12] at H
        exact absurd H (by simp)
      ·rw [if_neg c11] at H
       exact absurd H (by simp)
     ·rw [if_neg c10] at H
      exact absurd H (by simp)
    ·rw [if_neg c9] at H
     have d5_ : decide (a0_ < (l0_0.length : Int)) = false := decide_eq_false c9; clear c9; obtain rfl := Option.some.inj H; go_wp2; (repeat (go_quiet (fail); try go_wp2)); go_ret; exact ⟨erq, hBq⟩
 ·rw [if_neg c3] at H
  have c7_ : ((l0_0.length : Int) == (l1_0.length : Int)) = false := beq_eq_false_iff_ne.mpr c3; have c8_ : ((l0_0.length : Int) != (l1_0.length : Int)) = true := bne_iff_ne.mpr c3; (have c9_ : (l0_0.length == l1_0.length) = false := by first | simpa using c3 | (simp at c3 ⊢; omega)); obtain rfl := Option.some.inj H; go_enter Try.func25, Try.ntmps25
  go_wp2_with (first | ((with_reducible refine gate_dst (N := 2) rfl ?_); refine bxE 2 #[.slice A0_0 l0_0.length c0_0] 25 ?_; intro a3_ hg w20 hbox hb; have a1_ := As (hbox); have a7_ := As (by rw [hg]; exact (below_size hBq) : w.heap.size ≤ a3_); replace HB := sBq hb; have b3_ := a7_; clear hb hbox hg) | ((with_reducible refine gate_dst (N := 3) rfl ?_); refine bxE 3 #[.slice A1_0 l1_0.length c1_0] 25 ?_; intro a4_ hg w21 hbox hb; have a6_ := As (hbox); have a8_ := As (by rw [hg]; exact (below_size hBq) : w.heap.size ≤ a4_); replace HB := sBq hb; have b4_ := a8_; have a2_ := As (by rw [hg]; exact Nat.ne_of_lt (blk_lt (g := a3_) (plq a1_.out)) : a3_ ≠ a4_); replace a1_ := As (blk_below (plq a1_.out) hb); have a5_ := As a2_.out.symm; clear hb hbox hg; have c5_ := a2_.out; have c6_ := a5_.out; have b9_ : w21.cell? ⟨a3_, 0, none⟩ = some (.slice A0_0 l0_0.length c0_0) := (blk_cell a1_.out 0).trans rfl; have c0_ := blk_frozen a1_.out 0; have c1_ : w21.cell? ⟨a4_, 0, none⟩ = some (.slice A1_0 l1_0.length c1_0) := (blk_cell a6_.out 0).trans rfl; have c2_ := blk_frozen a6_.out 0))
  (repeat (go_quiet (first | ((with_reducible refine gate_dst (N := 2) rfl ?_); refine bxE 2 #[.slice A0_0 l0_0.length c0_0] 25 ?_; intro a3_ hg w20 hbox hb; have a1_ := As (hbox); have a7_ := As (by rw [hg]; exact (below_size hBq) : w.heap.size ≤ a3_); replace HB := sBq hb; have b3_ := a7_; clear hb hbox hg) | ((with_reducible refine gate_dst (N := 3) rfl ?_); refine bxE 3 #[.slice A1_0 l1_0.length c1_0] 25 ?_; intro a4_ hg w21 hbox hb; have a6_ := As (hbox); have a8_ := As (by rw [hg]; exact (below_size hBq) : w.heap.size ≤ a4_); replace HB := sBq hb; have b4_ := a8_; have a2_ := As (by rw [hg]; exact Nat.ne_of_lt (blk_lt (g := a3_) (plq a1_.out)) : a3_ ≠ a4_); replace a1_ := As (blk_below (plq a1_.out) hb); have a5_ := As a2_.out.symm; clear hb hbox hg; have c5_ := a2_.out; have c6_ := a5_.out; have b9_ : w21.cell? ⟨a3_, 0, none⟩ = some (.slice A0_0 l0_0.length c0_0) := (blk_cell a1_.out 0).trans rfl; have c0_ := blk_frozen a1_.out 0; have c1_ : w21.cell? ⟨a4_, 0, none⟩ = some (.slice A1_0 l1_0.length c1_0) := (blk_cell a6_.out 0).trans rfl; have c2_ := blk_frozen a6_.out 0)); try go_wp2_with (first | ((with_reducible refine gate_dst (N := 2) rfl ?_); refine bxE 2 #[.slice A0_0 l0_0.length c0_0] 25 ?_; intro a3_ hg w20 hbox hb; have a1_ := As (hbox); have a7_ := As (by rw [hg]; exact (below_size hBq) : w.heap.size ≤ a3_); replace HB := sBq hb; have b3_ := a7_; clear hb hbox hg) | ((with_reducible refine gate_dst (N := 3) rfl ?_); refine bxE 3 #[.slice A1_0 l1_0.length c1_0] 25 ?_; intro a4_ hg w21 hbox hb; have a6_ := As (hbox); have a8_ := As (by rw [hg]; exact (below_size hBq) : w.heap.size ≤ a4_); replace HB := sBq hb; have b4_ := a8_; have a2_ := As (by rw [hg]; exact Nat.ne_of_lt (blk_lt (g := a3_) (plq a1_.out)) : a3_ ≠ a4_); replace a1_ := As (blk_below (plq a1_.out) hb); have a5_ := As a2_.out.symm; clear hb hbox hg; have c5_ := a2_.out; have c6_ := a5_.out; have b9_ : w21.cell? ⟨a3_, 0, none⟩ = some (.slice A0_0 l0_0.length c0_0) := (blk_cell a1_.out 0).trans rfl; have c0_ := blk_frozen a1_.out 0; have c1_ : w21.cell? ⟨a4_, 0, none⟩ = some (.slice A1_0 l1_0.length c1_0) := (blk_cell a6_.out 0).trans rfl; have c2_ := blk_frozen a6_.out 0))))
  go_ret; exact ⟨erq, hBq⟩
def api_Row_34.l0 : Nat → List (S33) → List (S33) → Int → Int → Option (Bool)
 | 0, _, _, _, _ => none
 | k + 1, x0, x1, x12, x13 => if x13 < x12 then (if 0 ≤ x13 then (if x13 < (x0.length : Int) then (if x13 < (x1.length : Int) then (if (!(((rd_T33 x0 x13).f0) == ((rd_T33 x1 x13).f0)) || (!(((rd_T33 x0 x13).f1) == ((rd_T33 x1 x13).f1)) || (!((((rd_T33 x0 x13).f2).toList) == (((rd_T33 x1 x13).f2).toList))))) = true then (some false) else (api_Row_34.l0 k x0 x1 x12 (wrap64 (x13 + 1)))) else (none)) else (none)) else (none)) else (some true)
def api_Row_34.f (k : Nat) (l0 : List (S33)) (l1 : List (S33)) : Option (Bool) := if (l0.length : Int) = (l1.length : Int) then (api_Row_34.l0 k l0 l1 (l0.length : Int) 0) else (some false)
set_option maxHeartbeats 8000000 in
set_option maxRecDepth 100000 in
theorem api_Row_34.calls (k : Nat) (A0 : Option Addr) (c0 : Nat) (l0 : List (S33)) (A1 : Option Addr) (c1 : Nat) (l1 : List (S33)) (r : Bool) (w : World) (hr0 : Kd.C k33 w A0 l0.length l0) (hc0 : l0.length ≤ c0) (hr1 : Kd.C k33 w A1 l1.length l1) (hc1 : l1.length ≤ c1) (h : api_Row_34.f k l0 l1 = some r) :
 Calls Try.prog 34 #[.slice A0 l0.length c0, .slice A1 l1.length c1] w fun e w' => e = .returned (.bool r) ∧ Drawn0 w w' := by
 have hu33 := Try.underlying33; have HR0 := As hr0; have HC0 := As hc0; clear hr0 hc0; have HR1 := As hr1; have HC1 := As hc1; clear hr1 hc1; have H : (if (l0.length : Int) = (l1.length : Int) then (api_Row_34.l0 k l0 l1 (l0.length : Int) 0) else (some false)) = some r := h; clear h
 by_cases c3 : (l0.length : Int) = (l1.length : Int)
 ·rw [if_pos c3] at H
  have a7_ : ((l0.length : Int) == (l1.length : Int)) = true := beq_iff_eq.mpr c3; have a8_ : ((l0.length : Int) != (l1.length : Int)) = false := bne_eq_false_iff_eq.mpr c3; (have a9_ : (l0.length == l1.length) = true := by first | simpa using c3 | (simp at c3 ⊢; omega)); clear c3; have H' := As H; clear H; go_enter Try.func34, Try.ntmps34; go_wp2; (repeat (go_quiet (fail); try go_wp2)); go_loopg [13] k (fun kq v13 w' => ∃ (a0_ : Int), v13 = .int .i64 a0_ ∧ Aside0 (api_Row_34.l0 kq l0 l1 (l0.length : Int) a0_ = some r) ∧ Aside0 (kq ≤ k) ∧ Drawn0 w w')
  case atStart => exact ⟨(0), (by first | rfl | (simp; done) | (simp [*]; done)), H', ⟨Nat.le_refl _⟩, by repeat (first | exact Drawn0.refl _ | apply Drawn0.step)⟩
  case round =>
   clear H'; (try clear c1); (try clear p2); (try clear c3); (try clear a7_); (try clear a8_); (try clear a9_); obtain ⟨a0_, rfl, HA, HK1, ⟨m1, rfl⟩⟩ := hrel
   cases gk with
   | zero => exact absurd HA.out (by simp [api_Row_34.l0])
   | succ k1 =>
    have H := HA.out; clear HA; simp only [api_Row_34.l0] at H
    by_cases c4 : a0_ < (l0.length : Int)
    ·rw [if_pos c4] at H
     have b2_ : decide (a0_ < (l0.length : Int)) = true := decide_eq_true c4; clear c4
     by_cases c5 : 0 ≤ a0_
     ·rw [if_pos c5] at H
      have b4_ : decide (0 ≤ a0_) = true := decide_eq_true c5; clear c5
      by_cases c6 : a0_ < (l0.length : Int)
      ·rw [if_pos c6] at H
       have b5_ : decide (a0_ < (l0.length : Int)) = true := decide_eq_true c6; clear c6
       by_cases c7 : a0_ < (l1.length : Int)
       ·rw [if_pos c7] at H
        have b6_ : decide (a0_ < (l1.length : Int)) = true := decide_eq_true c7; clear c7
        by_cases c8 : (!(((rd_T33 l0 a0_).f0) == ((rd_T33 l1 a0_).f0)) || (!(((rd_T33 l0 a0_).f1) == ((rd_T33 l1 a0_).f1)) || (!((((rd_T33 l0 a0_).f2).toList) == (((rd_T33 l1 a0_).f2).toList))))) = true
        ·rw [if_pos c8] at H
         have b3_ : (!(((rd_T33 l0 a0_).f0) == ((rd_T33 l1 a0_).f0)) || (!(((rd_T33 l0 a0_).f1) == ((rd_T33 l1 a0_).f1)) || (!((((rd_T33 l0 a0_).f2).toList) == (((rd_T33 l1 a0_).f2).toList))))) = true := c8; clear c8; obtain rfl := Option.some.inj H; have a1_ : 0 ≤ (a0_ : Int) := dq; have a2_ : a0_ < (l0.length : Int) := dq; obtain ⟨b0_, a5_, _, _, _⟩ := at_T33 HR0.out a0_ a1_ a2_; cases a5_; replace a1_ := eq_true a1_; replace a2_ := eq_true a2_; have a3_ : 0 ≤ (a0_ : Int) := dq; have a4_ : a0_ < (l1.length : Int) := dq; obtain ⟨b1_, a6_, _, _, _⟩ := at_T33 HR1.out a0_ a3_ a4_; cases a6_; replace a3_ := eq_true a3_; replace a4_ := eq_true a4_; go_wp2; (repeat (go_quiet (fail); try go_wp2)); go_ret; exact ⟨by first | rfl | (simp; done) | (simp [*]; done), by repeat (first | exact Drawn0.refl _ | apply Drawn0.step)⟩
        ·rw [if_neg c8] at H
         (have b3_ : (!(((rd_T33 l0 a0_).f0) == ((rd_T33 l1 a0_).f0)) || (!(((rd_T33 l0 a0_).f1) == ((rd_T33 l1 a0_).f1)) || (!((((rd_T33 l0 a0_).f2).toList) == (((rd_T33 l1 a0_).f2).toList))))) = false := by simpa using c8); clear c8; have H' := As H; clear H; have a1_ : 0 ≤ (a0_ : Int) := dq; have a2_ : a0_ < (l0.length : Int) := dq; obtain ⟨b0_, a5_, _, _, _⟩ := at_T33 HR0.out a0_ a1_ a2_; cases a5_; replace a1_ := eq_true a1_; replace a2_ := eq_true a2_; have a3_ : 0 ≤ (a0_ : Int) := dq; have a4_ : a0_ < (l1.length : Int) := dq; obtain ⟨b1_, a6_, _, _, _⟩ := at_T33 HR1.out a0_ a3_ a4_; cases a6_; replace a3_ := eq_true a3_; replace a4_ := eq_true a4_; go_wp2; (repeat (go_quiet (fail); try go_wp2)); go_roundg k1
         case measure => have := HK1.out; omega
         case rel => exact ⟨(wrap64 (a0_ + 1)), (by first | rfl | (simp; done) | (simp [*]; done)), H', ⟨by have := HK1.out; omega⟩, by repeat (first | exact Drawn0.refl _ | apply Drawn0.step)⟩
       ·rw [if_neg c7] at H
        exact absurd H (by simp)
      ·rw [if_neg c6] at H
       exact absurd H (by simp)
     ·rw [if_neg c5] at H
      exact absurd H (by simp)
    ·rw [if_neg c4] at H
     have b2_ : decide (a0_ < (l0.length : Int)) = false := decide_eq_false c4; clear c4; obtain rfl := Option.some.inj H; go_wp2; (repeat (go_quiet (fail); try go_wp2)); go_ret; exact ⟨by first | rfl | (simp; done) | (simp [*]; done), by repeat (first | exact Drawn0.refl _ | apply Drawn0.step)⟩
 ·rw [if_neg c3] at H
  have a7_ : ((l0.length : Int) == (l1.length : Int)) = false := beq_eq_false_iff_ne.mpr c3; have a8_ : ((l0.length : Int) != (l1.length : Int)) = true := bne_iff_ne.mpr c3; (have a9_ : (l0.length == l1.length) = false := by first | simpa using c3 | (simp at c3 ⊢; omega)); obtain rfl := Option.some.inj H; go_enter Try.func34, Try.ntmps34; go_wp2; (repeat (go_quiet (fail); try go_wp2)); go_ret; exact ⟨by first | rfl | (simp; done) | (simp [*]; done), by repeat (first | exact Drawn0.refl _ | apply Drawn0.step)⟩
def refs_Same.f (k : Nat) (l0_0 : List (S33)) (l1_0 : List (S33)) : Option (Bool) := (api_Row_34.f k l0_0 l1_0).bind fun a3_ => (some a3_)
set_option maxHeartbeats 8000000 in
set_option maxRecDepth 100000 in
theorem refs_Same.calls (k : Nat) (A0_0 : Option Addr) (c0_0 : Nat) (l0_0 : List (S33)) (A1_0 : Option Addr) (c1_0 : Nat) (l1_0 : List (S33)) (r : Bool) (w : World) (hr0_0 : Kd.C k33 w A0_0 l0_0.length l0_0) (hc0_0 : l0_0.length ≤ c0_0) (hr1_0 : Kd.C k33 w A1_0 l1_0.length l1_0) (hc1_0 : l1_0.length ≤ c1_0) (h : refs_Same.f k l0_0 l1_0 = some r) :
 Calls Try.prog 17 #[.agg #[.slice A0_0 l0_0.length c0_0], .agg #[.slice A1_0 l1_0.length c1_0]] w fun e w' => e = .returned (.bool r) ∧ Below w.heap.size w w' := by
 have hu25 := Try.underlying25; have HR0_0 := As hr0_0; have HC0_0 := As hc0_0; clear hr0_0 hc0_0; have HR1_0 := As hr1_0; have HC1_0 := As hc1_0; clear hr1_0 hc1_0; have HB := As (Below.refl w.heap.size w); have H : ((api_Row_34.f k l0_0 l1_0).bind fun a3_ => (some a3_)) = some r := h; clear h; obtain ⟨a3_, A3, H⟩ := bnd H; (try dsimp only at H); obtain rfl := Option.some.inj H; go_enter Try.func17, Try.ntmps17
 go_wp2_with (first | ((with_reducible refine gate_dst (N := 2) rfl ?_); refine bxE 2 #[.slice A0_0 l0_0.length c0_0] 25 ?_; intro a2_ hg w4 hbox hb; have a0_ := As (hbox); have a7_ := As (by rw [hg]; exact (below_size hBq) : w.heap.size ≤ a2_); replace HB := sBq hb; have b3_ := a7_; clear hb hbox hg) | ((with_reducible refine gate_dst (N := 3) rfl ?_); refine bxE 3 #[.slice A1_0 l1_0.length c1_0] 25 ?_; intro a4_ hg w5 hbox hb; have a6_ := As (hbox); have a8_ := As (by rw [hg]; exact (below_size hBq) : w.heap.size ≤ a4_); replace HB := sBq hb; have b4_ := a8_; have a1_ := As (by rw [hg]; exact Nat.ne_of_lt (blk_lt (g := a2_) (plq a0_.out)) : a2_ ≠ a4_); replace a0_ := As (blk_below (plq a0_.out) hb); have a5_ := As a1_.out.symm; clear hb hbox hg; have b5_ := a1_.out; have b6_ := a5_.out; have a9_ : w5.cell? ⟨a2_, 0, none⟩ = some (.slice A0_0 l0_0.length c0_0) := (blk_cell a0_.out 0).trans rfl; have b0_ := blk_frozen a0_.out 0; have b1_ : w5.cell? ⟨a4_, 0, none⟩ = some (.slice A1_0 l1_0.length c1_0) := (blk_cell a6_.out 0).trans rfl; have b2_ := blk_frozen a6_.out 0) | ((with_reducible refine gate_callee (f := 34) rfl ?_); refine gL (some 9) Try.func34 #[.slice A0_0 l0_0.length c0_0, .slice A1_0 l1_0.length c1_0] ?_; (with_reducible refine (api_Row_34.calls k _ _ l0_0 _ _ l1_0 a3_ _ ?side1 ?side2 ?side3 ?side4 A3.out).mono ?_); (case side1 => exact cq ⟨Kd.C_below HR0_0.out HB.out⟩); (case side2 => exact HC0_0.out); (case side3 => exact cq ⟨Kd.C_below HR1_0.out HB.out⟩); (case side4 => exact HC1_0.out); rintro e w' ⟨rfl, ⟨nd, rfl⟩⟩; refine ⟨_, rfl, ?_⟩))
 go_ret; exact ⟨erq, hBq⟩
def digest_Sum.l0 : Nat → ByteArray → Int → Int → Int → Option (Int)
 | 0, _, _, _, _ => none
 | k + 1, x0, x3, x6, x7 => if x7 < x6 then (if 0 ≤ x7 then (if x7 < (x0.size : Int) then (digest_Sum.l0 k x0 (Int.tmod (wrap64 ((wrap64 ((wrap64 (x3 * 1000003)) + (wrap64 (bt x0 x7)))) + 1)) 2147483647) x6 (wrap64 (x7 + 1))) else (none)) else (none)) else (some x3)
def digest_Sum.f (k : Nat) (a0 : ByteArray) : Option (Int) := digest_Sum.l0 k a0 1 (a0.size : Int) 0
set_option maxHeartbeats 8000000 in
set_option maxRecDepth 100000 in
theorem digest_Sum.calls (k : Nat) (a0 : ByteArray) (r : Int) (w : World) (h : digest_Sum.f k a0 = some r) :
 Calls Try.prog 10 #[.string a0] w fun e w' => e = .returned (.int .i64 r) ∧ Drawn0 w w' := by
 have H : (digest_Sum.l0 k a0 1 (a0.size : Int) 0) = some r := h; clear h; have H' := As H; clear H; go_enter Try.func10, Try.ntmps10; go_wp2; go_loopg [3, 7] k (fun kq v3 v7 w' => ∃ (a1_ : Int) (a0_ : Int), v3 = .int .i64 a1_ ∧ v7 = .int .i64 a0_ ∧ Aside0 (digest_Sum.l0 kq a0 a1_ (a0.size : Int) a0_ = some r) ∧ Aside0 (kq ≤ k) ∧ Drawn0 w w')
 case atStart => exact ⟨(1), (0), (by first | rfl | (simp; done) | (simp [*]; done)), (by first | rfl | (simp; done) | (simp [*]; done)), H', ⟨Nat.le_refl _⟩, by repeat (first | exact Drawn0.refl _ | apply Drawn0.step)⟩
 case round =>
  clear H'; (try clear c1); obtain ⟨a1_, a0_, rfl, rfl, HA, HK1, ⟨m1, rfl⟩⟩ := hrel
  cases gk with
  | zero => exact absurd HA.out (by simp [digest_Sum.l0])
  | succ k1 =>
   have H := HA.out; clear HA; simp only [digest_Sum.l0] at H
   by_cases c2 : a0_ < (a0.size : Int)
   ·rw [if_pos c2] at H
    have a2_ : decide (a0_ < (a0.size : Int)) = true := decide_eq_true c2; clear c2
    by_cases c3 : 0 ≤ a0_
    ·rw [if_pos c3] at H
     have a3_ : decide (0 ≤ a0_) = true := decide_eq_true c3; clear c3
     by_cases c4 : a0_ < (a0.size : Int)
     ·rw [if_pos c4] at H
      have a4_ : decide (a0_ < (a0.size : Int)) = true := decide_eq_true c4; clear c4; have H' := As H; clear H; have p5 : 0 ≤ (a0_ : Int) := dq; have q5 : a0_ < (a0.size : Int) := dq; have hx5 := bt_at a0 a0_; replace p5 := eq_true p5; replace q5 := eq_true q5; go_wp2; go_roundg k1
      case measure => have := HK1.out; omega
      case rel => exact ⟨(Int.tmod (wrap64 ((wrap64 ((wrap64 (a1_ * 1000003)) + (wrap64 (bt a0 a0_)))) + 1)) 2147483647), (wrap64 (a0_ + 1)), (by first | rfl | (simp; done) | (simp [*]; done)), (by first | rfl | (simp; done) | (simp [*]; done)), H', ⟨by have := HK1.out; omega⟩, by repeat (first | exact Drawn0.refl _ | apply Drawn0.step)⟩
     ·rw [if_neg c4] at H
      exact absurd H (by simp)
    ·rw [if_neg c3] at H
     exact absurd H (by simp)
   ·rw [if_neg c2] at H
    have a2_ : decide (a0_ < (a0.size : Int)) = false := decide_eq_false c2; clear c2; obtain rfl := Option.some.inj H; go_wp2; go_ret; exact ⟨by first | rfl | (simp; done) | (simp [*]; done), by repeat (first | exact Drawn0.refl _ | apply Drawn0.step)⟩
end Go.Proofs.Ytpifbgkppfginaa.PZ
