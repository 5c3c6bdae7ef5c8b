-- Printed by this claim's own program.
import Derived.Test.YtghepgcbciikmaaPAx0
import Derived.Test.YtghepgcbciikmaaDelF
import Derived.Test.YtghepgcbciikmaaRow
import Derived.Test.YtghepgcbciikmaaSets
import Derived.Test.YtghepgcbciikmaaSetsR
namespace Go.Proofs.Ytghepgcbciikmaa.PA
open Go.RowKit Go.Proofs.YtghepgcbciikmaaW.PrintWords Go.Proofs.YtghepgcbciikmaaW.PrintLast Go.Proofs.YtghepgcbciikmaaW.PrintMore
attribute [local go_sem ↓] some_setCell
attribute [local go_sem] max2_int min2_int max_two min_two max_three min_three max_four min_four
set_option linter.unusedVariables false
set_option linter.unusedSimpArgs false
theorem trace_find.eqA (d : Nat) (w : World) (x0 y0 : Int) (x1 y1 : Int) (x2 y2 : Int) (x3 y3 : Int) :
 (Op.equalIn (d + 2) 56 (.agg #[.int .i64 x0, .int .i64 x1, .int .i64 x2, .int .i64 x3]) (.agg #[.int .i64 y0, .int .i64 y1, .int .i64 y2, .int .i64 y3])).run Try.prog w = .ok (x0 == y0 && (x1 == y1 && (x2 == y2 && (x3 == y3)))) w := by
 refine eqA_of Try.underlying56 (by kernel_rfl) ?_; refine eqf_cons (by rfl) (by go_simp; rfl) (by go_simp; rfl) (by go_simp) ?_; refine eqf_cons (by rfl) (by go_simp; rfl) (by go_simp; rfl) (by go_simp) ?_; refine eqf_cons (by rfl) (by go_simp; rfl) (by go_simp; rfl) (by go_simp) ?_; exact eqf_last (by rfl) (by go_simp; rfl) (by go_simp; rfl) (by go_simp)
attribute [local go_sem high] trace_find.eqA in
set_option maxHeartbeats 4000000 in
theorem trace_find.closure (b m0 m1 m2 m3 : Int) (B : Nat) (x : S35) (W : World) (hb : B < W.heap.size)
 (h0 : W.heap[B]? = some (.cells #[.int .i64 m0, .int .i64 m1, .int .i64 m2, .int .i64 m3] 56 (0, 0))) :
 Calls Try.prog 46 (#[.agg #[.int .i64 x.f0, .int .i64 x.f1, .int .i64 x.f2, .int .i64 x.f3, .int .i64 x.f4, .int .i64 x.f5]] ++ #[.pointer (some ⟨B, 0, none⟩)]) W fun e w' => e = .returned (.bool (x.f0 == m0 && (x.f1 == m1 && (x.f2 == m2 && (x.f3 == m3))))) ∧ Below W.heap.size W w' := by
 have hcon : ∀ w, Calls Try.prog 31 #[.agg #[.int .i64 x.f0, .int .i64 x.f1, .int .i64 x.f2, .int .i64 x.f3, .int .i64 x.f4, .int .i64 x.f5]] w fun e w' => e = .returned (.agg #[.int .i64 x.f0, .int .i64 x.f1, .int .i64 x.f2, .int .i64 x.f3]) ∧ Below w.heap.size w w' :=
  fun w => trace_of.calls x.f0 x.f1 x.f2 x.f3 x.f4 x.f5 x.f0 x.f1 x.f2 x.f3 w rfl
 have hu_e := Try.underlying35; have hu_m := Try.underlying56; have HB := As (Below.refl W.heap.size W); have HH := As h0; clear h0; go_enter Try.func46, Try.ntmps46; go_wp2_with fail; have hE : (W.alloc (.cells #[.int .i64 x.f0, .int .i64 x.f1, .int .i64 x.f2, .int .i64 x.f3, .int .i64 x.f4, .int .i64 x.f5] 35)).heap[W.heap.size]? = some (.cells #[.int .i64 x.f0, .int .i64 x.f1, .int .i64 x.f2, .int .i64 x.f3, .int .i64 x.f4, .int .i64 x.f5] 35 (0, 0)) := heap_alloc_new W _; have hM : (W.alloc (.cells #[.int .i64 x.f0, .int .i64 x.f1, .int .i64 x.f2, .int .i64 x.f3, .int .i64 x.f4, .int .i64 x.f5] 35)).heap[B]? = some (.cells #[.int .i64 m0, .int .i64 m1, .int .i64 m2, .int .i64 m3] 56 (0, 0)) := blk_alloc HH.out _; have hbl := below_alloc HB.out (.cells #[.int .i64 x.f0, .int .i64 x.f1, .int .i64 x.f2, .int .i64 x.f3, .int .i64 x.f4, .int .i64 x.f5] 35); generalize W.alloc (.cells #[.int .i64 x.f0, .int .i64 x.f1, .int .i64 x.f2, .int .i64 x.f3, .int .i64 x.f4, .int .i64 x.f5] 35) = W1 at hE hM hbl ⊢; have HE := As hE; have HM := As hM; have HL := As hbl; clear hE hM hbl
 refine start_ (n := 5) (S := fun w' => w'.cell? ⟨W.heap.size, 0, none⟩ = some (.int .i64 x.f0) ∧ w'.cell? ⟨W.heap.size, 1, none⟩ = some (.int .i64 x.f1) ∧ w'.cell? ⟨W.heap.size, 2, none⟩ = some (.int .i64 x.f2) ∧ w'.cell? ⟨W.heap.size, 3, none⟩ = some (.int .i64 x.f3) ∧ w'.cell? ⟨W.heap.size, 4, none⟩ = some (.int .i64 x.f4) ∧ w'.cell? ⟨W.heap.size, 5, none⟩ = some (.int .i64 x.f5) ∧ w'.cell? ⟨B, 0, none⟩ = some (.int .i64 m0) ∧ w'.cell? ⟨B, 1, none⟩ = some (.int .i64 m1) ∧ w'.cell? ⟨B, 2, none⟩ = some (.int .i64 m2) ∧ w'.cell? ⟨B, 3, none⟩ = some (.int .i64 m3)) (ds := []) (marksOf 5 0) (by kernel_rfl) rfl rfl ⟨(blk_cell (blk_drew HE.out) 0).trans rfl, (blk_cell (blk_drew HE.out) 1).trans rfl, (blk_cell (blk_drew HE.out) 2).trans rfl, (blk_cell (blk_drew HE.out) 3).trans rfl, (blk_cell (blk_drew HE.out) 4).trans rfl, (blk_cell (blk_drew HE.out) 5).trans rfl, (blk_cell (blk_drew HM.out) 0).trans rfl, (blk_cell (blk_drew HM.out) 1).trans rfl, (blk_cell (blk_drew HM.out) 2).trans rfl, (blk_cell (blk_drew HM.out) 3).trans rfl⟩ (fun hHeld => ?_); (refine ta_ 0 4 5 1 ?_ rfl rfl (by kernel_rfl) (fun _ _ _ h => h) (by rfl) ?_ hHeld ?_ ?_ ?_; rotate_left; rintro w' ⟨s0, s1, s2, s3, s4, s5, s6, s7, s8, s9⟩; go_simp; with_reducible rfl; rotate_left; simp only [Act.put, q1, q2, q3, i64_w, i32_w]; rfl)
 (refine ta_ 2 6 5 5 ?_ rfl rfl (by kernel_rfl) (fun _ _ _ h => h) (by rfl) ?_ hHeld ?_ ?_ ?_; rotate_left; rintro w' ⟨s0, s1, s2, s3, s4, s5, s6, s7, s8, s9⟩; go_simp; with_reducible rfl; rotate_left; simp only [Act.put, q1, q2, q3, i64_w, i32_w]; rfl); refine one_ (i := 1) (N := some 5) (marksOf 5 7) rfl rfl (by kernel_rfl) (by decide) (fun K hK => ?_); refine goes_ Try.func31 (by kernel_rfl) rfl #[.agg #[.int .i64 x.f0, .int .i64 x.f1, .int .i64 x.f2, .int .i64 x.f3, .int .i64 x.f4, .int .i64 x.f5]] (by rfl) rfl rfl (by (try simp only [List.map_toArray, List.map_cons, List.map_nil]); first | done | rfl) ?_; refine (hcon _).mono ?_; rintro e w' ⟨rfl, hb'⟩; refine ⟨_, rfl, ?_⟩; have HE2 := As (blk_below (blk_drew HE.out) hb'); have HM2 := As (blk_below (blk_drew HM.out) hb'); have HL2 := As (below_step (below_drew1 HL.out) hb'); refine hK.out _ _ ⟨bc HE2 0, bc HE2 1, bc HE2 2, bc HE2 3, bc HE2 4, bc HE2 5, bc HM2 0, bc HM2 1, bc HM2 2, bc HM2 3⟩ (fun hHeld => ?_); refine norm_ (a' := ?_) ?_ ?_; rotate_left
 ·show Act.put _ (some 5) _ = _
  simp only [Act.put, q1, q2, q3, i64_w, i32_w]; rfl
 (refine pu_ 3 7 5 15 ?_ rfl rfl (by kernel_rfl) (fun _ _ _ h => h) (by rfl) ?_ ?_ ?_ ?_; rotate_left; intro w'; go_simp; with_reducible rfl; rotate_left; simp only [Act.put, q1, q2, q3, i64_w, i32_w]; rfl); (refine pu_ 4 3 5 31 ?_ rfl rfl (by kernel_rfl) (fun _ _ _ h => h) (by rfl) ?_ ?_ ?_ ?_; rotate_left; intro w'; go_simp; with_reducible rfl; rotate_left; simp only [Act.put, q1, q2, q3, i64_w, i32_w]; rfl); refine done_ (by kernel_rfl) ?_; go_wp2; go_ret; exact ⟨rfl, HL2.out⟩
def trace_find.idx {α : Type} (p : α → Bool) : List α → Nat → Int
 | [], _ => -1
 | x :: l, i => if p x = true then (i : Int) else trace_find.idx p l (i + 1)
theorem trace_find.idxAt {α : Type} (p : α → Bool) (l : List α) (i : Nat) (h : i < l.length) : trace_find.idx p (l.drop i) i = if p l[i] = true then (i : Int) else trace_find.idx p (l.drop (i + 1)) (i + 1) := by
 rw [List.drop_eq_getElem_cons h]; rfl
def trace_find.Tells (P : Program) (g : Nat) (lb : Array Value) (enc : S35 → Value) (p : S35 → Bool) (w : World) : Prop :=
 ∀ (W : World) (x : S35), Below w.heap.size w W → Calls P g (#[enc x] ++ lb) W fun e w' => e = .returned (.bool (p x)) ∧ Below w.heap.size w w'
def trace_find.enc (x : S35) : Value := .agg #[x.f0, x.f1, x.f2, x.f3, x.f4, x.f5]
set_option maxHeartbeats 4000000 in
theorem trace_find.index (A0 : Option Addr) (c0 : Nat) (l0 : List S35) (g : Nat) (lb : Array Value) (p : S35 → Bool) (w : World) (hr0 : Kd.C k35 w A0 l0.length l0) (hc0 : l0.length ≤ c0)
 (eg : ∀ args w, (callFunc g args).run Try.prog w = .ok (.enter g args) w) (hp : trace_find.Tells Try.prog g lb trace_find.enc p w) :
 Calls Try.prog 45 #[.slice A0 l0.length c0, .func (.func g) #[] lb] w fun e w' => e = .returned ((trace_find.idx p l0 0)) ∧ Below w.heap.size w w' := by
 obtain ⟨r, hr⟩ : ∃ r, trace_find.idx p l0 0 = r := ⟨_, rfl⟩; rw [hr]; have HR := As hr0; have HP := As hp; have HE := As hr; have HLM : Aside0 (l0.length ≤ 9223372036854775807) := ⟨hr0.2.1⟩; clear hr0 hp hr; go_enter Try.func45, Try.ntmps45; go_wp2; go_loopg [8] l0.length (fun kq v8 w' => ∃ i : Nat, v8 = .int .i64 i ∧ Aside0 (i + kq = l0.length) ∧ Aside0 (trace_find.idx p (l0.drop i) i = r) ∧ Aside0 (Below w.heap.size w w'))
 case atStart => exact ⟨0, rfl, ⟨by omega⟩, ⟨by rw [List.drop_zero]; exact HE.out⟩, ⟨Below.refl _ _⟩⟩
 case round =>
  obtain ⟨i, rfl, HI, HX, HBr⟩ := hrel
  cases gk with
  | zero =>
   have a0_ : decide ((i : Int) < (l0.length : Int)) = false := decide_eq_false (by have := HI.out; omega); have a1_ : decide (i < l0.length) = false := decide_eq_false (by have := HI.out; omega)
   have hr : (-1 : Int) = r := by
    rw [← HX.out, List.drop_eq_nil_of_le (by have := HI.out; omega)]; rfl
   subst hr; go_wp2; go_ret
   exact ⟨rfl, HBr.out⟩
  | succ k1 =>
   (have hil : i < l0.length := by have := HI.out; omega); have a0_ : decide ((i : Int) < (l0.length : Int)) = true := decide_eq_true (by omega); have a1_ : decide (i < l0.length) = true := decide_eq_true hil; (have a2_ : (i : Int) ≤ 9223372036854775806 := by have := HLM.out; omega); (have p1 : 0 ≤ (i : Int) := by omega); (have q1 : (i : Int) < (l0.length : Int) := by omega); obtain ⟨ad, e1, hx0, hx1, hx2, hx3, hx4, hx5⟩ := at_T35 HR.out i p1 q1; cases e1; replace hx0 := (HBr.out.cell (World.block_lt_of_cell? w _ hx0)).trans hx0; replace hx1 := (HBr.out.cell (World.block_lt_of_cell? w _ hx1)).trans hx1; replace hx2 := (HBr.out.cell (World.block_lt_of_cell? w _ hx2)).trans hx2; replace hx3 := (HBr.out.cell (World.block_lt_of_cell? w _ hx3)).trans hx3; replace hx4 := (HBr.out.cell (World.block_lt_of_cell? w _ hx4)).trans hx4; replace hx5 := (HBr.out.cell (World.block_lt_of_cell? w _ hx5)).trans hx5; have eX := trace_find.idxAt p l0 i hil; (have ex : rd_T35 l0 (i : Int) = l0[i] := by unfold rd_T35; rw [Int.toNat_natCast, List.getD_eq_getElem?_getD, List.getElem?_eq_getElem hil]; rfl); rw [HX.out, ← ex] at eX; have EX := As eX; clear eX ex HX; have hc := HP.out wr (rd_T35 l0 (i : Int)) HBr.out; rw [Int.toNat_natCast] at hx0 hx1 hx2 hx3 hx4 hx5; generalize rd_T35 l0 (i : Int) = x at hx0 hx1 hx2 hx3 hx4 hx5 hc EX; unfold trace_find.enc at hc
   cases hpx : p x with
   | true =>
    rw [hpx] at hc; (have hr : r = (i : Int) := by rw [EX.out, if_pos hpx]); subst hr; clear hpx EX; go_wp2_with (go_at_fn g; refine hc.mono ?_; rintro e w' ⟨rfl, hb'⟩); go_ret
    exact ⟨rfl, hb'⟩
   | false =>
    rw [hpx] at hc; (have hr : trace_find.idx p (l0.drop (i + 1)) (i + 1) = r := by rw [EX.out, if_neg (by rw [hpx]; decide)]); have HR2 := As hr; clear hr hpx EX; go_wp2_with (go_at_fn g; refine hc.mono ?_; rintro e w' ⟨rfl, hb'⟩); go_roundg k1
    case measure => omega
    case rel => exact ⟨i + 1, by simp, ⟨by have := HI.out; omega⟩, HR2, ⟨hb'⟩⟩
def trace_find.f (l0 : List S35) (m0 m1 m2 m3 : Int) : Option Int := some (trace_find.idx (fun x => (x.f0 == m0 && (x.f1 == m1 && (x.f2 == m2 && (x.f3 == m3))))) l0 0)
set_option maxHeartbeats 4000000 in
theorem trace_find.calls (A0_0 : Option Addr) (c0_0 : Nat) (l0_0 : List S35) (a1_0 a1_1 a1_2 a1_3 : Int) (r : Int) (w : World) (hr0_0 : Kd.C k35 w A0_0 l0_0.length l0_0) (hc0_0 : l0_0.length ≤ c0_0) (h : trace_find.f l0_0 a1_0 a1_1 a1_2 a1_3 = some r) :
 Calls Try.prog 30 #[.agg #[.slice A0_0 l0_0.length c0_0], .agg #[a1_0, a1_1, a1_2, a1_3]] w fun e w' => e = .returned (r) ∧ Below w.heap.size w w' := by
 have hr := Option.some.inj h; clear h; obtain ⟨W0, hW0⟩ : ∃ W0, W0 = (w.alloc (.cells #[.slice A0_0 l0_0.length c0_0] 29)).alloc (.cells #[a1_0, a1_1, a1_2, a1_3] 56) := ⟨_, rfl⟩; (have hB0 : Below w.heap.size w W0 := by rw [hW0]; exact below_alloc (below_alloc (Below.refl _ _) _) _); (have hsz : W0.heap.size = w.heap.size + 1 + 1 := by rw [hW0]; simp)
 have hM : W0.heap[w.heap.size + 1]? = some (.cells #[a1_0, a1_1, a1_2, a1_3] 56 (0, 0)) := by
  rw [hW0]; have := heap_alloc_new (w.alloc (.cells #[.slice A0_0 l0_0.length c0_0] 29)) (.cells #[a1_0, a1_1, a1_2, a1_3] 56)
  rwa [World.size_alloc] at this
 (have hr1 : Kd.C k35 W0 A0_0 l0_0.length l0_0 := by rw [hW0]; exact Kd.C_alloc (Kd.C_alloc hr0_0 _) _); have eg : ∀ args w, (callFunc 46 args).run Try.prog w = .ok (.enter 46 args) w := enters_of Try.func46 (by kernel_rfl) rfl
 have hS := trace_find.index A0_0 c0_0 l0_0 46 #[.pointer (some ⟨w.heap.size + 1, 0, none⟩)] (fun x => (x.f0 == a1_0 && (x.f1 == a1_1 && (x.f2 == a1_2 && (x.f3 == a1_3))))) W0 hr1 hc0_0 eg
  (fun W x hb => (trace_find.closure 0 a1_0 a1_1 a1_2 a1_3 (w.heap.size + 1) x W (by have := hb.size; omega) ((hb.block _ (by omega)).trans hM)).mono fun _ _ ⟨he, hb2⟩ => ⟨he, hb.trans (hb2.mono hb.size)⟩)
 rw [hr] at hS; clear hM hr1 hr0_0 hsz hr; go_enter Try.func30, Try.ntmps30; go_wp2_with (go_at_call 45; rw [← hW0]; refine hS.mono ?_; rintro e w' ⟨rfl, hb'⟩); go_ret; exact ⟨rfl, hB0.trans (hb'.mono hB0.size)⟩
def trace_proper.f (a0_0 : Int) (a0_1 : Int) (a0_2 : Int) (a0_3 : Int) (a0_4 : Int) (a0_5 : Int) : Option (Bool) := (trace_person.f a0_0).bind fun a4_ => (if a4_ = true then ((trace_person.f a0_1).bind fun a5_ => (if a5_ = true then (if a0_0 = a0_1 then (some false) else (if a0_2 ≥ 1 then (if a0_2 ≤ 64 then (if a0_3 ≥ 0 then (if a0_3 < 2147483647 then (if a0_4 ≥ 0 then (if a0_4 ≤ 1048576 then (if a0_5 ≥ 0 then (some (decide (a0_5 ≤ 1048577))) else (some false)) else (some false)) else (some false)) else (some false)) else (some false)) else (some false)) else (some false))) else (some false))) else (some false))
set_option maxHeartbeats 8000000 in
set_option maxRecDepth 100000 in
theorem trace_proper.calls (a0_0 : Int) (a0_1 : Int) (a0_2 : Int) (a0_3 : Int) (a0_4 : Int) (a0_5 : Int) (r : Bool) (w : World) (h : trace_proper.f a0_0 a0_1 a0_2 a0_3 a0_4 a0_5 = some r) :
 Calls Try.prog 29 #[.agg #[.int .i64 a0_0, .int .i64 a0_1, .int .i64 a0_2, .int .i64 a0_3, .int .i64 a0_4, .int .i64 a0_5]] w fun e w' => e = .returned (.bool r) ∧ Below w.heap.size w w' := by
 have hu35 := Try.underlying35; have HB := As (Below.refl w.heap.size w); have H : ((trace_person.f a0_0).bind fun a4_ => (if a4_ = true then ((trace_person.f a0_1).bind fun a5_ => (if a5_ = true then (if a0_0 = a0_1 then (some false) else (if a0_2 ≥ 1 then (if a0_2 ≤ 64 then (if a0_3 ≥ 0 then (if a0_3 < 2147483647 then (if a0_4 ≥ 0 then (if a0_4 ≤ 1048576 then (if a0_5 ≥ 0 then (some (decide (a0_5 ≤ 1048577))) else (some false)) else (some false)) else (some false)) else (some false)) else (some false)) else (some false)) else (some false))) else (some false))) else (some false))) = some r := h; clear h; obtain ⟨a4_, A2, H⟩ := bnd H; (try dsimp only at H)
 by_cases c3 : a4_ = true
 ·subst c3
  rw [if_pos rfl] at H; obtain ⟨a5_, A4, H⟩ := bnd H; (try dsimp only at H)
  by_cases c5 : a5_ = true
  ·subst c5
   rw [if_pos rfl] at H
   by_cases c6 : a0_0 = a0_1
   ·rw [if_pos c6] at H
    have b2_ : (a0_0 == a0_1) = true := beq_iff_eq.mpr c6; have b3_ : (a0_0 != a0_1) = false := bne_eq_false_iff_eq.mpr c6; clear c6; obtain rfl := Option.some.inj H; go_enter Try.func29, Try.ntmps29
    go_wp2_with (first | ((with_reducible refine gate_dst (N := 1) rfl ?_); refine bxE 1 #[a0_0, a0_1, a0_2, a0_3, a0_4, a0_5] 35 ?_; intro a0_ hg w7 hbox hb; have a1_ := As (hbox); have a2_ := As (by rw [hg]; exact (below_size hBq) : w.heap.size ≤ a0_); replace HB := sBq hb; have a3_ := a2_; clear hb hbox hg; have := cf6 a1_.out) | ((with_reducible refine gate_callee (f := 44) rfl ?_); refine gL (some 5) Try.func44 #[a0_0] ?_; (with_reducible refine (trace_person.calls a0_0 true _ A2.out).mono ?_); rintro e w' ⟨rfl, ⟨nd, rfl⟩⟩; refine ⟨_, rfl, ?_⟩) | (go_at_call 44; (with_reducible refine (trace_person.calls a0_1 true _ A4.out).mono ?_); rintro e w' ⟨rfl, ⟨nd, rfl⟩⟩))
    go_ret; exact ⟨erq, hBq⟩
   ·rw [if_neg c6] at H
    have b2_ : (a0_0 == a0_1) = false := beq_eq_false_iff_ne.mpr c6; have b3_ : (a0_0 != a0_1) = true := bne_iff_ne.mpr c6
    by_cases c9 : a0_2 ≥ 1
    ·rw [if_pos c9] at H
     have b4_ : decide (1 ≤ a0_2) = true := decide_eq_true c9; clear c9
     by_cases c10 : a0_2 ≤ 64
     ·rw [if_pos c10] at H
      have a6_ : decide (a0_2 ≤ 64) = true := decide_eq_true c10; clear c10
      by_cases c11 : a0_3 ≥ 0
      ·rw [if_pos c11] at H
       have a7_ : decide (0 ≤ a0_3) = true := decide_eq_true c11; clear c11
       by_cases c12 : a0_3 < 2147483647
       ·rw [if_pos c12] at H
        have a8_ : decide (a0_3 < 2147483647) = true := decide_eq_true c12; clear c12
        by_cases c13 : a0_4 ≥ 0
        ·rw [if_pos c13] at H
         have a9_ : decide (0 ≤ a0_4) = true := decide_eq_true c13; clear c13
         by_cases c14 : a0_4 ≤ 1048576
         ·rw [if_pos c14] at H
          have b0_ : decide (a0_4 ≤ 1048576) = true := decide_eq_true c14; clear c14
          by_cases c15 : a0_5 ≥ 0
          ·rw [if_pos c15] at H
           have b1_ : decide (0 ≤ a0_5) = true := decide_eq_true c15; clear c15; obtain rfl := Option.some.inj H; go_enter Try.func29, Try.ntmps29
           go_wp2_with (first | ((with_reducible refine gate_dst (N := 1) rfl ?_); refine bxE 1 #[a0_0, a0_1, a0_2, a0_3, a0_4, a0_5] 35 ?_; intro a0_ hg w16 hbox hb; have a1_ := As (hbox); have a2_ := As (by rw [hg]; exact (below_size hBq) : w.heap.size ≤ a0_); replace HB := sBq hb; have a3_ := a2_; clear hb hbox hg; have := cf6 a1_.out) | ((with_reducible refine gate_callee (f := 44) rfl ?_); refine gL (some 5) Try.func44 #[a0_0] ?_; (with_reducible refine (trace_person.calls a0_0 true _ A2.out).mono ?_); rintro e w' ⟨rfl, ⟨nd, rfl⟩⟩; refine ⟨_, rfl, ?_⟩) | (go_at_call 44; (with_reducible refine (trace_person.calls a0_1 true _ A4.out).mono ?_); rintro e w' ⟨rfl, ⟨nd, rfl⟩⟩))
           go_ret; exact ⟨erq, hBq⟩
          ·rw [if_neg c15] at H
           have b1_ : decide (0 ≤ a0_5) = false := decide_eq_false c15; clear c15; obtain rfl := Option.some.inj H; go_enter Try.func29, Try.ntmps29
           go_wp2_with (first | ((with_reducible refine gate_dst (N := 1) rfl ?_); refine bxE 1 #[a0_0, a0_1, a0_2, a0_3, a0_4, a0_5] 35 ?_; intro a0_ hg w18 hbox hb; have a1_ := As (hbox); have a2_ := As (by rw [hg]; exact (below_size hBq) : w.heap.size ≤ a0_); replace HB := sBq hb; have a3_ := a2_; clear hb hbox hg; have := cf6 a1_.out) | ((with_reducible refine gate_callee (f := 44) rfl ?_); refine gL (some 5) Try.func44 #[a0_0] ?_; (with_reducible refine (trace_person.calls a0_0 true _ A2.out).mono ?_); rintro e w' ⟨rfl, ⟨nd, rfl⟩⟩; refine ⟨_, rfl, ?_⟩) | (go_at_call 44; (with_reducible refine (trace_person.calls a0_1 true _ A4.out).mono ?_); rintro e w' ⟨rfl, ⟨nd, rfl⟩⟩))
           go_ret; exact ⟨erq, hBq⟩
         ·rw [if_neg c14] at H
          have b0_ : decide (a0_4 ≤ 1048576) = false := decide_eq_false c14; clear c14; obtain rfl := Option.some.inj H; go_enter Try.func29, Try.ntmps29
          go_wp2_with (first | ((with_reducible refine gate_dst (N := 1) rfl ?_); refine bxE 1 #[a0_0, a0_1, a0_2, a0_3, a0_4, a0_5] 35 ?_; intro a0_ hg w20 hbox hb; have a1_ := As (hbox); have a2_ := As (by rw [hg]; exact (below_size hBq) : w.heap.size ≤ a0_); replace HB := sBq hb; have a3_ := a2_; clear hb hbox hg; have := cf6 a1_.out) | ((with_reducible refine gate_callee (f := 44) rfl ?_); refine gL (some 5) Try.func44 #[a0_0] ?_; (with_reducible refine (trace_person.calls a0_0 true _ A2.out).mono ?_); rintro e w' ⟨rfl, ⟨nd, rfl⟩⟩; refine ⟨_, rfl, ?_⟩) | (go_at_call 44; (with_reducible refine (trace_person.calls a0_1 true _ A4.out).mono ?_); rintro e w' ⟨rfl, ⟨nd, rfl⟩⟩))
          go_ret; exact ⟨erq, hBq⟩
        ·rw [if_neg c13] at H
         have a9_ : decide (0 ≤ a0_4) = false := decide_eq_false c13; clear c13; obtain rfl := Option.some.inj H; go_enter Try.func29, Try.ntmps29
         go_wp2_with (first | ((with_reducible refine gate_dst (N := 1) rfl ?_); refine bxE 1 #[a0_0, a0_1, a0_2, a0_3, a0_4, a0_5] 35 ?_; intro a0_ hg w22 hbox hb; have a1_ := As (hbox); have a2_ := As (by rw [hg]; exact (below_size hBq) : w.heap.size ≤ a0_); replace HB := sBq hb; have a3_ := a2_; clear hb hbox hg; have := cf6 a1_.out) | ((with_reducible refine gate_callee (f := 44) rfl ?_); refine gL (some 5) Try.func44 #[a0_0] ?_; (with_reducible refine (trace_person.calls a0_0 true _ A2.out).mono ?_); rintro e w' ⟨rfl, ⟨nd, rfl⟩⟩; refine ⟨_, rfl, ?_⟩) | (go_at_call 44; (with_reducible refine (trace_person.calls a0_1 true _ A4.out).mono ?_); rintro e w' ⟨rfl, ⟨nd, rfl⟩⟩))
         go_ret; exact ⟨erq, hBq⟩
       ·rw [if_neg c12] at H
        have a8_ : decide (a0_3 < 2147483647) = false := decide_eq_false c12; clear c12; obtain rfl := Option.some.inj H; go_enter Try.func29, Try.ntmps29
        go_wp2_with (first | ((with_reducible refine gate_dst (N := 1) rfl ?_); refine bxE 1 #[a0_0, a0_1, a0_2, a0_3, a0_4, a0_5] 35 ?_; intro a0_ hg w24 hbox hb; have a1_ := As (hbox); have a2_ := As (by rw [hg]; exact (below_size hBq) : w.heap.size ≤ a0_); replace HB := sBq hb; have a3_ := a2_; clear hb hbox hg; have := cf6 a1_.out) | ((with_reducible refine gate_callee (f := 44) rfl ?_); refine gL (some 5) Try.func44 #[a0_0] ?_; (with_reducible refine (trace_person.calls a0_0 true _ A2.out).mono ?_); rintro e w' ⟨rfl, ⟨nd, rfl⟩⟩; refine ⟨_, rfl, ?_⟩) | (go_at_call 44; (with_reducible refine (trace_person.calls a0_1 true _ A4.out).mono ?_); rintro e w' ⟨rfl, ⟨nd, rfl⟩⟩))
        go_ret; exact ⟨erq, hBq⟩
      ·rw [if_neg c11] at H
       have a7_ : decide (0 ≤ a0_3) = false := decide_eq_false c11; clear c11; obtain rfl := Option.some.inj H; go_enter Try.func29, Try.ntmps29
       go_wp2_with (first | ((with_reducible refine gate_dst (N := 1) rfl ?_); refine bxE 1 #[a0_0, a0_1, a0_2, a0_3, a0_4, a0_5] 35 ?_; intro a0_ hg w26 hbox hb; have a1_ := As (hbox); have a2_ := As (by rw [hg]; exact (below_size hBq) : w.heap.size ≤ a0_); replace HB := sBq hb; have a3_ := a2_; clear hb hbox hg; have := cf6 a1_.out) | ((with_reducible refine gate_callee (f := 44) rfl ?_); refine gL (some 5) Try.func44 #[a0_0] ?_; (with_reducible refine (trace_person.calls a0_0 true _ A2.out).mono ?_); rintro e w' ⟨rfl, ⟨nd, rfl⟩⟩; refine ⟨_, rfl, ?_⟩) | (go_at_call 44; (with_reducible refine (trace_person.calls a0_1 true _ A4.out).mono ?_); rintro e w' ⟨rfl, ⟨nd, rfl⟩⟩))
       go_ret; exact ⟨erq, hBq⟩
     ·rw [if_neg c10] at H
      have a6_ : decide (a0_2 ≤ 64) = false := decide_eq_false c10; clear c10; obtain rfl := Option.some.inj H; go_enter Try.func29, Try.ntmps29
      go_wp2_with (first | ((with_reducible refine gate_dst (N := 1) rfl ?_); refine bxE 1 #[a0_0, a0_1, a0_2, a0_3, a0_4, a0_5] 35 ?_; intro a0_ hg w28 hbox hb; have a1_ := As (hbox); have a2_ := As (by rw [hg]; exact (below_size hBq) : w.heap.size ≤ a0_); replace HB := sBq hb; have a3_ := a2_; clear hb hbox hg; have := cf6 a1_.out) | ((with_reducible refine gate_callee (f := 44) rfl ?_); refine gL (some 5) Try.func44 #[a0_0] ?_; (with_reducible refine (trace_person.calls a0_0 true _ A2.out).mono ?_); rintro e w' ⟨rfl, ⟨nd, rfl⟩⟩; refine ⟨_, rfl, ?_⟩) | (go_at_call 44; (with_reducible refine (trace_person.calls a0_1 true _ A4.out).mono ?_); rintro e w' ⟨rfl, ⟨nd, rfl⟩⟩))
      go_ret; exact ⟨erq, hBq⟩
    ·rw [if_neg c9] at H
     have b4_ : decide (1 ≤ a0_2) = false := decide_eq_false c9; clear c9; obtain rfl := Option.some.inj H; go_enter Try.func29, Try.ntmps29
     go_wp2_with (first | ((with_reducible refine gate_dst (N := 1) rfl ?_); refine bxE 1 #[a0_0, a0_1, a0_2, a0_3, a0_4, a0_5] 35 ?_; intro a0_ hg w30 hbox hb; have a1_ := As (hbox); have a2_ := As (by rw [hg]; exact (below_size hBq) : w.heap.size ≤ a0_); replace HB := sBq hb; have a3_ := a2_; clear hb hbox hg; have := cf6 a1_.out) | ((with_reducible refine gate_callee (f := 44) rfl ?_); refine gL (some 5) Try.func44 #[a0_0] ?_; (with_reducible refine (trace_person.calls a0_0 true _ A2.out).mono ?_); rintro e w' ⟨rfl, ⟨nd, rfl⟩⟩; refine ⟨_, rfl, ?_⟩) | (go_at_call 44; (with_reducible refine (trace_person.calls a0_1 true _ A4.out).mono ?_); rintro e w' ⟨rfl, ⟨nd, rfl⟩⟩))
     go_ret; exact ⟨erq, hBq⟩
  ·replace c5 := Bool.eq_false_iff.mpr c5
   subst c5; rw [if_neg nft] at H; obtain rfl := Option.some.inj H; go_enter Try.func29, Try.ntmps29
   go_wp2_with (first | ((with_reducible refine gate_dst (N := 1) rfl ?_); refine bxE 1 #[a0_0, a0_1, a0_2, a0_3, a0_4, a0_5] 35 ?_; intro a0_ hg w32 hbox hb; have a1_ := As (hbox); have a2_ := As (by rw [hg]; exact (below_size hBq) : w.heap.size ≤ a0_); replace HB := sBq hb; have a3_ := a2_; clear hb hbox hg; have := cf6 a1_.out) | ((with_reducible refine gate_callee (f := 44) rfl ?_); refine gL (some 5) Try.func44 #[a0_0] ?_; (with_reducible refine (trace_person.calls a0_0 true _ A2.out).mono ?_); rintro e w' ⟨rfl, ⟨nd, rfl⟩⟩; refine ⟨_, rfl, ?_⟩) | (go_at_call 44; (with_reducible refine (trace_person.calls a0_1 false _ A4.out).mono ?_); rintro e w' ⟨rfl, ⟨nd, rfl⟩⟩))
   go_ret; exact ⟨erq, hBq⟩
 ·replace c3 := Bool.eq_false_iff.mpr c3
  subst c3; rw [if_neg nft] at H; obtain rfl := Option.some.inj H; go_enter Try.func29, Try.ntmps29
  go_wp2_with (first | ((with_reducible refine gate_dst (N := 1) rfl ?_); refine bxE 1 #[a0_0, a0_1, a0_2, a0_3, a0_4, a0_5] 35 ?_; intro a0_ hg w34 hbox hb; have a1_ := As (hbox); have a2_ := As (by rw [hg]; exact (below_size hBq) : w.heap.size ≤ a0_); replace HB := sBq hb; have a3_ := a2_; clear hb hbox hg; have := cf6 a1_.out) | ((with_reducible refine gate_callee (f := 44) rfl ?_); refine gL (some 5) Try.func44 #[a0_0] ?_; (with_reducible refine (trace_person.calls a0_0 false _ A2.out).mono ?_); rintro e w' ⟨rfl, ⟨nd, rfl⟩⟩; refine ⟨_, rfl, ?_⟩))
  go_ret; exact ⟨erq, hBq⟩
def api_Expectation_32.enc (x : S35) : List Value := [.int .i64 x.f0, .int .i64 x.f1, .int .i64 x.f2, .int .i64 x.f3, .int .i64 x.f4, .int .i64 x.f5]
theorem api_Expectation_32.isFlat : Flat k35 api_Expectation_32.enc := ⟨fun _ => rfl, fun h => k35_openM h, fun w base ok x => k35_mkM w base ok x, by decide⟩
theorem api_Expectation_32.encK {W : World} {x : S35} {cs : List Value} (h : k35.K W x cs) : cs = api_Expectation_32.enc x := k35_open h
def api_Expectation_32.f (l0 : List (S35)) (a1 : Int) (l2 : List (S35)) : Option (List (S35)) := if 0 ≤ a1 ∧ a1 ≤ (l0.length : Int) ∧ 1 ≤ l2.length ∧ l0.length + l2.length < 2932031007402 then some (l0.take a1.toNat ++ l2 ++ l0.drop a1.toNat) else none
set_option maxHeartbeats 8000000 in
set_option maxRecDepth 100000 in
theorem api_Expectation_32.room (g n cap i m g2 cap2 : Nat) (cur cur2 cs news : List Value) (w : World) (hH : w.heap[g]? = some (.cells cur.toArray 35 (0, 0))) (hH2 : w.heap[g2]? = some (.cells cur2.toArray 35 (0, 0))) (hne : g2 ≠ g) (hnm : n + m ≤ cap) (hm : cap ≤ 9223372036854775807) (hi : i < n) (hm1 : 1 ≤ m)
 (hl : cur.length = cap * 6) (hl2 : m * 6 ≤ cur2.length) (hcs : cs = (cur.drop (i * 6)).take ((n - i) * 6)) (hnews : news = cur2.take (m * 6)) (h1c : ∀ u ∈ cs, u.oneCell' = true) (h1v : ∀ u ∈ news, u.oneCell' = true) :
 Calls Try.prog 32 #[.slice (some ⟨g, 0, none⟩) n cap, .int .i64 i, .slice (some ⟨g2, 0, none⟩) m cap2] w fun e w' => e = .returned (.slice (some ⟨g, 0, none⟩) (n + m) cap) ∧ Aside0 (w.grownBy w' (some g) ∧ ∃ cur' : List Value, w'.heap[g]? = some (.cells cur'.toArray 35 (0, 0)) ∧ cur'.length = cap * 6 ∧ cur'.take ((n + m) * 6) = cur.take (i * 6) ++ news ++ cs) := by
 obtain ⟨i0, hi0, hz0, hz1, hz2⟩ := info_parts info35; (have hsz : (Try.prog.info? 35).map (·.size) = some 6 := by rw [hi0]; simp [hz1]); (have hzo : ∀ w, (Go.sizeOf 35).run Try.prog w = .ok 6 w := fun W => by simp [Go.sizeOf, typeInfo, hi0, hz1]); (have hcl : cs.length = (n - i) * 6 := by rw [hcs, List.length_take, List.length_drop, hl]; omega); (have hvl : news.length = m * 6 := by rw [hnews, List.length_take]; omega)
 have hov : ∀ lb cb, (callFunc 47 #[.slice (some ⟨g2, 0, none⟩) m cap2, .slice (some ⟨g, (i + m) * 6, none⟩) lb cb]).run Try.prog w = .ok (.value (.bool false)) w := fun lb cb => by
  rw [run_callFunc_extern Try.func47 (by kernel_rfl) (by kernel_rfl) (by kernel_rfl) (e := Extern.SlicesOverlaps.overlaps #[27, 27] #[4]) (by kernel_rfl),
   Lib.run_overlaps_apart w 27 4 35 Try.underlying27 6 hzo ⟨g2, 0, none⟩ ⟨g, (i + m) * 6, none⟩ m cap2 lb cb hne 35 35 cur2.length cur.length (shapeAt hH2) (shapeAt hH) (by rw [hl]; omega) (frozenAt hH2 _) (frozenAt hH2 _)]
  rfl
 (have hfit1 : (i + m) * 6 + cs.length ≤ cur.length := by rw [hcl, hl]; omega)
 have hcp1 : ∀ ty dc sc, (Builtin.copy_ #[27, 27] ty #[.slice (some ⟨g, (i + m) * 6, none⟩) (n + m - (i + m)) dc, .slice (some ⟨g, i * 6, none⟩) (n + m - i) sc]).run Try.prog w.drew = .ok (goInt ((n - i : Nat) : Int)) (w.drew.setCells g ((i + m) * 6) cs) := fun ty dc sc => by
  (have hmin : Nat.min (n + m - i) (n + m - (i + m)) = n - i := by simp only [Nat.min_def]; split <;> omega)
  have := run_copy_rows (P := Try.prog) (w := w.drew) hH 27 27 ty 35 6 Try.underlying27 hsz ((i + m) * 6) (n + m - (i + m)) dc ⟨g, i * 6, none⟩ (n + m - i) sc cs (by rw [hmin, hcl]) (fun j v hj => by
   rw [Addr.add_lit]; (have ht : j < (n - i) * 6 := by rw [← hcl]; exact (List.getElem?_eq_some_iff.1 hj).1); rw [hcs, List.getElem?_take_of_lt ht, List.getElem?_drop] at hj; obtain ⟨hlt, hv⟩ := List.getElem?_eq_some_iff.1 hj
   show w.cell? ⟨g, i * 6 + j, none⟩ = some v
   rw [cellAt hH _ hlt, hv]) hfit1 h1c
  rw [hmin] at this; exact this
 obtain ⟨W1, hW1⟩ : ∃ W1, W1 = w.drew.setCells g ((i + m) * 6) cs := ⟨_, rfl⟩; (have hH1 : W1.heap[g]? = some (.cells (over cur ((i + m) * 6) cs).toArray 35 (0, 0)) := by rw [hW1]; exact setCells_heap (w := w.drew) hH _ _ hfit1); (have hG1 : w.grownBy W1 (some g) := by rw [hW1]; exact grown2 (grown_drew w _) (setCells_grown (w := w.drew) hH _ _ hfit1)); have hH12 : W1.heap[g2]? = some (.cells cur2.toArray 35 (0, 0)) := (hG1.block g2 (blk_lt hH2) (fun e => hne (by injection e))).trans hH2; (have hl1 : (over cur ((i + m) * 6) cs).length = cap * 6 := by rw [over_len _ _ _ hfit1, hl]); (have hfit2 : i * 6 + news.length ≤ (over cur ((i + m) * 6) cs).length := by rw [hvl, hl1]; omega)
 have hcp2 : ∀ ty dc, (Builtin.copy_ #[27, 27] ty #[.slice (some ⟨g, i * 6, none⟩) (n + m - i) dc, .slice (some ⟨g2, 0, none⟩) m cap2]).run Try.prog W1 = .ok (goInt m) (W1.setCells g (i * 6) news) := fun ty dc => by
  (have hmin : Nat.min m (n + m - i) = m := by simp only [Nat.min_def]; split <;> omega)
  have := run_copy_rows (P := Try.prog) hH1 27 27 ty 35 6 Try.underlying27 hsz (i * 6) (n + m - i) dc ⟨g2, 0, none⟩ m cap2 news (by rw [hmin, hvl]) (fun j v hj => by
   rw [Addr.add_lit]; (have ht : j < m * 6 := by rw [← hvl]; exact (List.getElem?_eq_some_iff.1 hj).1); rw [hnews, List.getElem?_take_of_lt ht] at hj; obtain ⟨hlt, hv⟩ := List.getElem?_eq_some_iff.1 hj; rw [Nat.zero_add, cellAt hH12 _ hlt, hv]) hfit2 h1v
  rw [hmin] at this; exact this
 have fin : Aside0 (w.grownBy (W1.setCells g (i * 6) news) (some g) ∧ ∃ cur' : List Value, (W1.setCells g (i * 6) news).heap[g]? = some (.cells cur'.toArray 35 (0, 0)) ∧ cur'.length = cap * 6 ∧ cur'.take ((n + m) * 6) = cur.take (i * 6) ++ news ++ cs) := by
  refine ⟨grown2 hG1 (setCells_grown hH1 _ _ hfit2), _, setCells_heap hH1 _ _ hfit2, by rw [over_len _ _ _ hfit2, hl1], ?_⟩
  have e1 : (over cur ((i + m) * 6) cs).take (i * 6) = cur.take (i * 6) := by
   unfold over; rw [List.append_assoc, List.take_append_of_le_length (by rw [List.length_take, hl]; omega), List.take_take]
   congr 1
   omega
  have e2 : ((over cur ((i + m) * 6) cs).drop (i * 6 + news.length)).take (cs.length) = cs := by
   unfold over; (have hx : i * 6 + news.length = (cur.take ((i + m) * 6)).length := by rw [List.length_take, hvl, hl]; omega); rw [List.append_assoc, hx, List.drop_left, List.take_left]
  unfold over at *; rw [e1, List.take_append, List.take_of_length_le (by rw [List.length_append, List.length_take, hvl, hl]; omega)]
  congr 1
  rw [List.length_append, List.length_take, hvl, hl]; (have hx : (n + m) * 6 - (min (i * 6) (cap * 6) + m * 6) = cs.length := by rw [hcl]; omega); rw [hx, ← hvl]; exact e2
 rw [← hW1] at hcp1; have hcm : cap ≤ 9223372036854775807 := hm; (have hic : i ≤ cap := by omega); (have him : i + m < cap := by omega); (have himn : i + m < n + m := by omega); (have hz1' : ¬ ((m : Int) = 0) := by omega); (have hz2' : ¬ ((i : Int) = (n : Int)) := by omega); (have hw1 : IntKind.i64.wrap ((i : Int) + (m : Int)) = (i : Int) + (m : Int) := by rw [IntKind.wrap_i64]; omega); (have hb1 : (0 : Int) ≤ (i : Int) + (m : Int) := by omega); (have hin : i ≤ n := by omega); (have htn : ((i : Int) + (m : Int)).toNat = i + m := by omega); (have hb2 : ¬ (cap = i + m) := by omega); (have hb3 : (i : Int) ≤ (n : Int) + (m : Int) := by omega); (have hb4 : ¬ (cap = i) := by omega); clear hW1 hH hH1 hG1 hH12 hH2 hl hl1 hl2 hfit1 hfit2 hcl hvl hcs hnews h1c h1v hz0 hz1 hz2 hsz hzo hne
 skip
 go_enter Try.func32, Try.ntmps32; go_wp2_with (simp only [hov]); go_region_law (refine step_copy_is rfl _ _ 27 27 rfl _ _ (by simp [Act.eval, Act.put]) (by simp [Act.eval, Act.put]) (hcp1 _ _ _) ?_); go_wp2_with (at_builtin; refine wpList_copy_is rfl _ _ 27 27 rfl _ _ rfl rfl (hcp2 _ _) ?_); go_ret; exact ⟨rfl, fin⟩
set_option maxHeartbeats 8000000 in
set_option maxRecDepth 100000 in
theorem api_Expectation_32.grow (g n cap i m g2 cap2 : Nat) (cur cur2 cs news : List Value) (w : World) (hH : w.heap[g]? = some (.cells cur.toArray 35 (0, 0))) (hH2 : w.heap[g2]? = some (.cells cur2.toArray 35 (0, 0))) (hnc : n ≤ cap) (hroom : cap < n + m) (hbig : (n + m) * 48 ≤ 140737488355328) (hi : i < n) (hm1 : 1 ≤ m)
 (hl : cur.length = cap * 6) (hl2 : m * 6 ≤ cur2.length) (hcs : cs = (cur.drop (i * 6)).take ((n - i) * 6)) (hnews : news = cur2.take (m * 6)) (h1c : ∀ u ∈ cs, u.oneCell' = true) (h1v : ∀ u ∈ news, u.oneCell' = true) :
 Calls Try.prog 32 #[.slice (some ⟨g, 0, none⟩) n cap, .int .i64 i, .slice (some ⟨g2, 0, none⟩) m cap2] w fun e w' => ∃ N G : Nat, e = .returned (.slice (some ⟨N, 0, none⟩) (n + m) G) ∧ Aside0 (Below w.heap.size w w' ∧ w.heap.size ≤ N ∧ n + m ≤ G ∧ G ≤ maxLen ∧ ∃ cur' : List Value, w'.heap[N]? = some (.cells cur'.toArray 35 (0, 0)) ∧ cur'.length = G * 6 ∧ cur'.take ((n + m) * 6) = cur.take (i * 6) ++ news ++ cs) := by
 obtain ⟨i0, hi0, hz0, hz1, hz2⟩ := info_parts info35; (have hsz : (Try.prog.info? 35).map (·.size) = some 6 := by rw [hi0]; simp [hz1]); (have hcl : cs.length = (n - i) * 6 := by rw [hcs, List.length_take, List.length_drop, hl]; omega); (have hvl : news.length = m * 6 := by rw [hnews, List.length_take]; omega); have hgw : g < w.heap.size := blk_lt hH; have hg2w : g2 < w.heap.size := blk_lt hH2; obtain ⟨N, hN⟩ : ∃ N, N = w.heap.size := ⟨_, rfl⟩; obtain ⟨G, hG⟩ : ∃ G, G = grownCap w (n + m) cap 35 := ⟨_, rfl⟩; (have hGn : n + m ≤ G := by rw [hG]; exact grownCap_ge w _ _ _)
 have hG63 : G ≤ maxLen := by
  have := grownCap_le_maxLen w (n + m) cap 35 (by unfold maxLen; omega); rw [hG]; exact this
 (have hik : i + (n + m - i) = n + m := by omega); (have hkk : (n : Int) + (m : Int) - (i : Int) = ((n + m - i : Nat) : Int) := by omega); obtain ⟨olds, holds⟩ : ∃ olds, olds = cur.take (i * 6) := ⟨_, rfl⟩; (have hol : olds.length = i * 6 := by rw [holds, List.length_take, hl]; omega)
 have hold : (Builtin.firstCells i0.size i (.slice (some ⟨g, 0, none⟩) i cap)).run Try.prog w.drew = .ok olds.toArray w.drew := by
  rw [hz1]
  exact run_firstCells_some w.drew 6 i ⟨g, 0, none⟩ i cap olds (by rw [hol]) (fun j v hj => by
   rw [Addr.add_lit]; (have ht : j < i * 6 := by rw [← hol]; exact (List.getElem?_eq_some_iff.1 hj).1); rw [holds, List.getElem?_take_of_lt ht] at hj; obtain ⟨hlt, hv⟩ := List.getElem?_eq_some_iff.1 hj
   show w.cell? ⟨g, 0 + j, none⟩ = some v
   rw [Nat.zero_add, cellAt hH _ hlt, hv])
 obtain ⟨row, hrow⟩ : ∃ row : List Value, row.toArray = olds.toArray ++ Builtin.zeroCells ((.agg #[(.int .i64 0), (.int .i64 0), (.int .i64 0), (.int .i64 0), (.int .i64 0), (.int .i64 0)]) : Value).cells (n + m - i) ++ Builtin.zeroCells ((.agg #[(.int .i64 0), (.int .i64 0), (.int .i64 0), (.int .i64 0), (.int .i64 0), (.int .i64 0)]) : Value).cells (G - (n + m)) := ⟨(olds.toArray ++ Builtin.zeroCells ((.agg #[(.int .i64 0), (.int .i64 0), (.int .i64 0), (.int .i64 0), (.int .i64 0), (.int .i64 0)]) : Value).cells (n + m - i) ++ Builtin.zeroCells ((.agg #[(.int .i64 0), (.int .i64 0), (.int .i64 0), (.int .i64 0), (.int .i64 0), (.int .i64 0)]) : Value).cells (G - (n + m))).toList, by simp⟩; have hzs : ((.agg #[(.int .i64 0), (.int .i64 0), (.int .i64 0), (.int .i64 0), (.int .i64 0), (.int .i64 0)]) : Value).cells.size = 6 := rfl
 have hrl : row.length = G * 6 := by
  have := congrArg Array.size hrow; simp only [Array.size_append, List.size_toArray, Builtin.zeroCells, Array.size_map, Array.size_range, hzs, hol] at this; omega
 have hrt : row.take (i * 6) = olds := by
  have := congrArg Array.toList hrow; simp only [Array.toList_append] at this; rw [this, List.append_assoc, ← hol, List.take_left]
 obtain ⟨W1, hW1⟩ : ∃ W1, W1 = w.drew.alloc (.cells row.toArray 35) := ⟨_, rfl⟩
 have hrz : ∀ ty, (Builtin.append_ #[27, 3] ty #[.slice (some ⟨g, 0, none⟩) i cap, .int .i64 ((n : Int) + (m : Int) - (i : Int))]).run Try.prog w = .ok (.slice (some ⟨N, 0, none⟩) (n + m) G) W1 := fun ty => by
  have h := Lib.run_append_grow_zeros w 27 3 ty 35 i0 (.agg #[(.int .i64 0), (.int .i64 0), (.int .i64 0), (.int .i64 0), (.int .i64 0), (.int .i64 0)]) .i64 .i64 Try.underlying27 Try.underlying3 hi0 hz0 (some ⟨g, 0, none⟩) i cap olds hold (n + m - i) (by omega) (by rw [hz1]; omega) (by omega) (by omega) (by rw [hz2]; omega) (by rw [hz2, hik]; exact growslice_fits hroom hbig); rw [hik] at h; rw [hkk, h, hW1, hrow, hN, hG]
 (have hH1 : W1.heap[N]? = some (.cells row.toArray 35 (0, 0)) := by rw [hW1, hN]; exact heap_alloc_new w.drew _); (have hB1 : Below w.heap.size w W1 := by rw [hW1]; exact below_alloc (below_drew (Below.refl _ _)) _); have hH21 : W1.heap[g2]? = some (.cells cur2.toArray 35 (0, 0)) := (hB1.block g2 hg2w).trans hH2; have hHg1 : W1.heap[g]? = some (.cells cur.toArray 35 (0, 0)) := (hB1.block g hgw).trans hH; (have hfit1 : i * 6 + news.length ≤ row.length := by rw [hvl, hrl]; omega)
 have hcpA : ∀ ty dc, (Builtin.copy_ #[27, 27] ty #[.slice (some ⟨N, i * 6, none⟩) (n + m - i) dc, .slice (some ⟨g2, 0, none⟩) m cap2]).run Try.prog W1 = .ok (goInt m) (W1.setCells N (i * 6) news) := fun ty dc => by
  (have hmin : Nat.min m (n + m - i) = m := by simp only [Nat.min_def]; split <;> omega)
  have := run_copy_rows (P := Try.prog) hH1 27 27 ty 35 6 Try.underlying27 hsz (i * 6) (n + m - i) dc ⟨g2, 0, none⟩ m cap2 news (by rw [hmin, hvl]) (fun j v hj => by
   rw [Addr.add_lit]; (have ht : j < m * 6 := by rw [← hvl]; exact (List.getElem?_eq_some_iff.1 hj).1); rw [hnews, List.getElem?_take_of_lt ht] at hj; obtain ⟨hlt, hv⟩ := List.getElem?_eq_some_iff.1 hj; rw [Nat.zero_add, cellAt hH21 _ hlt, hv]) hfit1 h1v
  rw [hmin] at this; exact this
 obtain ⟨W2, hW2⟩ : ∃ W2, W2 = W1.setCells N (i * 6) news := ⟨_, rfl⟩; (have hG2 : W1.grownBy W2 (some N) := by rw [hW2]; exact setCells_grown hH1 _ _ hfit1); (have hH2N : W2.heap[N]? = some (.cells (over row (i * 6) news).toArray 35 (0, 0)) := by rw [hW2]; exact setCells_heap hH1 _ _ hfit1); have hHg2 : W2.heap[g]? = some (.cells cur.toArray 35 (0, 0)) := (hG2.block g (blk_lt hHg1) (fun e => by injection e with e; omega)).trans hHg1; (have hl1 : (over row (i * 6) news).length = G * 6 := by rw [over_len _ _ _ hfit1, hrl]); (have hfit2 : (i + m) * 6 + cs.length ≤ (over row (i * 6) news).length := by rw [hcl, hl1]; omega)
 have hcpB : ∀ ty dc sc, (Builtin.copy_ #[27, 27] ty #[.slice (some ⟨N, (i + m) * 6, none⟩) (n + m - (i + m)) dc, .slice (some ⟨g, i * 6, none⟩) (n - i) sc]).run Try.prog W2.drew = .ok (goInt ((n - i : Nat) : Int)) (W2.drew.setCells N ((i + m) * 6) cs) := fun ty dc sc => by
  (have hmin : Nat.min (n - i) (n + m - (i + m)) = n - i := by simp only [Nat.min_def]; split <;> omega)
  have := run_copy_rows (P := Try.prog) (w := W2.drew) hH2N 27 27 ty 35 6 Try.underlying27 hsz ((i + m) * 6) (n + m - (i + m)) dc ⟨g, i * 6, none⟩ (n - i) sc cs (by rw [hmin, hcl]) (fun j v hj => by
   rw [Addr.add_lit]; (have ht : j < (n - i) * 6 := by rw [← hcl]; exact (List.getElem?_eq_some_iff.1 hj).1); rw [hcs, List.getElem?_take_of_lt ht, List.getElem?_drop] at hj; obtain ⟨hlt, hv⟩ := List.getElem?_eq_some_iff.1 hj
   show W2.cell? ⟨g, i * 6 + j, none⟩ = some v
   rw [cellAt hHg2 _ hlt, hv]) hfit2 h1c
  rw [hmin] at this; exact this
 have fin : Aside0 (Below w.heap.size w (W2.drew.setCells N ((i + m) * 6) cs) ∧ w.heap.size ≤ N ∧ n + m ≤ G ∧ G ≤ maxLen ∧ ∃ cur' : List Value, (W2.drew.setCells N ((i + m) * 6) cs).heap[N]? = some (.cells cur'.toArray 35 (0, 0)) ∧ cur'.length = G * 6 ∧ cur'.take ((n + m) * 6) = cur.take (i * 6) ++ news ++ cs) := by
  have hg3 : W1.grownBy (W2.drew.setCells N ((i + m) * 6) cs) (some N) := grown2 hG2 (grown2 (grown_drew W2 _) (setCells_grown (w := W2.drew) hH2N _ _ hfit2)); refine ⟨below_grown hB1 hg3 (by omega), by omega, hGn, hG63, _, setCells_heap (w := W2.drew) hH2N _ _ hfit2, by rw [over_len _ _ _ hfit2, hl1], ?_⟩; rw [over_take2 _ _ _ _ (by rw [hl1]; omega) (by rw [hcl]; omega), over_take2 _ _ _ _ (by rw [hrl]; omega) (by rw [hvl]; omega), hrt, holds]
 rw [← hW2] at hcpA; (have hz1' : ¬ ((m : Int) = 0) := by omega); (have hz2' : ¬ ((i : Int) = (n : Int)) := by omega); (have hz3' : (cap : Int) < (n : Int) + (m : Int) := by omega); (have hic : i ≤ cap := by omega); (have hGi : ¬ (G = i) := by omega); (have hGim : ¬ (G = i + m) := by omega); (have hci : ¬ (cap = i) := by omega); (have hG' : G ≤ 9223372036854775807 := by simpa [maxLen] using hG63); (have hw1 : IntKind.i64.wrap ((i : Int) + (m : Int)) = (i : Int) + (m : Int) := by rw [IntKind.wrap_i64]; omega); (have hb1 : (0 : Int) ≤ (i : Int) + (m : Int) := by omega); (have hin : i ≤ n := by omega); (have htn : ((i : Int) + (m : Int)).toNat = i + m := by omega); (have hb3 : (i : Int) ≤ (n : Int) := by omega); clear hW1 hW2 hH hH1 hG2 hH2N hHg2 hHg1 hH21 hB1 hH2 hl hl1 hl2 hfit1 hfit2 hcl hvl hcs hnews h1c h1v hz0 hz1 hz2 hsz hrow hrl hrt hold hol holds hG hN hkk hik hzs hG63
 skip
 go_enter Try.func32, Try.ntmps32; go_wp2_with (first | (at_builtin; refine Lib.wpList_append_run _ rfl _ _ _ _ rfl _ _ rfl rfl _ _ (hrz _) ?_) | (at_builtin; refine wpList_copy_is rfl _ _ 27 27 rfl _ _ rfl rfl (hcpA _ _) ?_)); go_region_law (refine step_copy_is rfl _ _ 27 27 rfl _ _ (by simp [Act.eval, Act.put]) (by simp [Act.eval, Act.put]) (hcpB _ _ _) ?_); go_wp2; go_ret; exact ⟨N, G, rfl, fin⟩
set_option maxHeartbeats 8000000 in
set_option maxRecDepth 100000 in
theorem api_Expectation_32.tail (P0_ P2_ : Nat → Prop) (u9000_ : Value) (l0 l2 : List (S35)) (g2 cap2 : Nat) (w0 w : World) (hB : Below w0.heap.size w0 w) (ho0 : Kd.R k35 35 w w0.heap.size P0_ u9000_ l0) (ho2 : Kd.R k35 35 w w0.heap.size P2_ (.slice (some ⟨g2, 0, none⟩) l2.length cap2) l2) (h1 : 1 ≤ l2.length) (hlim : l0.length + l2.length < 2932031007402) :
 Calls Try.prog 32 #[u9000_, .int .i64 (l0.length : Int), .slice (some ⟨g2, 0, none⟩) l2.length cap2] w fun e w' => ∃ v0_ : Value, e = .returned (v0_) ∧ Kd.R k35 35 w' w0.heap.size (fun k_ => (P0_ k_ ∨ w.heap.size ≤ k_)) v0_ (l0 ++ l2) ∧ Below w0.heap.size w0 w' ∧ Kept w w' (fun k_ => P0_ k_) := by
 have HL := As hlim; have HB := As hB; have HR := As (Kd.R_reads' ho2).2.2; have HO := As (Kd.R_mono (ok' := fun k_ => (P0_ k_ ∨ w.heap.size ≤ k_)) ho0 (fun k hk => .inl hk)); have HK := As ho0.1; (have hz1' : ¬ ((l2.length : Int) = 0) := by omega); have hbl := api_Expectation_32.isFlat.block ho0; clear hB ho2 hlim ho0; (rcases hbl with ⟨rfl, rfl⟩ | ⟨g, cap, cur, rfl, hg, hok, hH, hnc, hcm, hl, htk⟩)
 ·go_enter Try.func32, Try.ntmps32
  go_wp2_with (at_builtin; refine Kd.R_append_rows k35 (w0 := w0) w0.heap.size rfl (.tmp 23) (.tmp 24) 27 35 (.agg #[(.int .i64 0), (.int .i64 0), (.int .i64 0), (.int .i64 0), (.int .i64 0), (.int .i64 0)]) 48 rfl Try.underlying27 info35 rfl (by decide) (by omega) (.slice none 0 0) [] l2 (some ⟨g2, 0, none⟩) l2.length cap2 (fun k_ => (P0_ k_ ∨ w.heap.size ≤ k_)) (fun _ => False) rfl rfl HO.out HR.out (fun _ _ h => h) (fun _ h => h.elim) (fun _ h => .inr h) HB.out HB.out.size (by have := HL.out; simp at this ⊢; omega) ?_; intro v2 w2 h2a h2b h2c h2d); go_ret; exact ⟨_, rfl, h2a, h2b, Kept.of_grown h2c (Kept.refl _ _) (fun k hk => .inl (HK.out k hk))⟩
 ·have hcm' : cap ≤ 9223372036854775807 := by simpa [maxLen] using hcm
  clear hg hok hH hcm hl htk; go_enter Try.func32, Try.ntmps32; go_wp2_with (at_builtin; refine Kd.R_append_rows k35 (w0 := w0) w0.heap.size rfl (.tmp 23) (.tmp 24) 27 35 (.agg #[(.int .i64 0), (.int .i64 0), (.int .i64 0), (.int .i64 0), (.int .i64 0), (.int .i64 0)]) 48 rfl Try.underlying27 info35 rfl (by decide) (by omega) (.slice (some ⟨g, 0, none⟩) l0.length cap) l0 l2 (some ⟨g2, 0, none⟩) l2.length cap2 (fun k_ => (P0_ k_ ∨ w.heap.size ≤ k_)) (fun _ => False) rfl rfl HO.out HR.out (fun _ _ h => h) (fun _ h => h.elim) (fun _ h => .inr h) HB.out HB.out.size (by have := HL.out; omega) ?_; intro v2 w2 h2a h2b h2c h2d)
  all_goals (go_ret; exact ⟨_, rfl, h2a, h2b, Kept.of_grown h2c (Kept.refl _ _) (fun k hk => .inl (HK.out k hk))⟩)
set_option maxHeartbeats 8000000 in
theorem api_Expectation_32.calls (P0_ : Nat → Prop) (u9000_ : Value) (l0 : List (S35)) (a1 : Int) (P2_ : Nat → Prop) (u9001_ : Value) (l2 : List (S35)) (r : List (S35)) (w0 w : World) (hB : Below w0.heap.size w0 w) (ho0 : Kd.R k35 35 w w0.heap.size P0_ u9000_ l0) (hp0_2 : ∀ k_, P0_ k_ → ¬ P2_ k_) (ho2 : Kd.R k35 35 w w0.heap.size P2_ u9001_ l2) (hp2_0 : ∀ k_, P2_ k_ → ¬ P0_ k_) (h : api_Expectation_32.f l0 a1 l2 = some r) :
 Calls Try.prog 32 #[u9000_, .int .i64 a1, u9001_] w fun e w' => ∃ v0_ : Value, e = .returned (v0_) ∧ Kd.R k35 35 w' w0.heap.size (fun k_ => ((P0_ k_ ∨ P2_ k_) ∨ w.heap.size ≤ k_)) v0_ r ∧ Below w0.heap.size w0 w' ∧ Kept w w' (fun k_ => P0_ k_ ∨ P2_ k_) := by
 unfold api_Expectation_32.f at h
 by_cases hc : 0 ≤ a1 ∧ a1 ≤ (l0.length : Int) ∧ 1 ≤ l2.length ∧ l0.length + l2.length < 2932031007402
 ·rw [if_pos hc] at h
  obtain rfl := Option.some.inj h; obtain ⟨h1, h2, h3, h4⟩ := hc; obtain ⟨i, rfl⟩ := Int.eq_ofNat_of_zero_le h1; rw [Int.toNat_natCast]; (have hi : i ≤ l0.length := by omega); (rcases api_Expectation_32.isFlat.block ho2 with ⟨rfl, rfl⟩ | ⟨g2, cap2, cur2, rfl, hg2, hok2, hH2, a0_, hcm2, hl2, htk2⟩)
  ·simp at h3
  by_cases he : i = l0.length
  ·subst he
   refine (api_Expectation_32.tail P0_ P2_ u9000_ l0 l2 g2 cap2 w0 w hB ho0 ho2 h3 h4).mono ?_; rintro e w' ⟨v, rfl, hr, hb, hk⟩; rw [List.take_of_length_le (Nat.le_refl _), List.drop_of_length_le (Nat.le_refl _), List.append_nil]; exact ⟨_, rfl, Kd.R_mono hr (fun k hk => hk.elim (fun h => .inl (.inl h)) .inr), hb, hk.mono (fun k hk => .inl hk)⟩
  ·rcases api_Expectation_32.isFlat.block ho0 with ⟨rfl, rfl⟩ | ⟨g, cap, cur, rfl, hg, hok, hH, hnc, hcm, hl, htk⟩
   ·exact absurd (by simpa using hi : i = 0) (fun h => he (by simpa using h))
   have hcs : flat api_Expectation_32.enc (l0.drop i) = (cur.drop (i * 6)).take ((l0.length - i) * 6) := by
    have e1 := api_Expectation_32.isFlat.flat_drop l0 i; rw [← e1, ← htk]
    show ((cur.take (l0.length * 6)).drop (i * 6)) = _
    rw [List.drop_take]
    congr 1
    omega
   have e2 : cur.take (i * 6) = flat api_Expectation_32.enc (l0.take i) := by
    rw [← api_Expectation_32.isFlat.flat_take l0 i, ← htk]
    show _ = ((cur.take (l0.length * 6)).take (i * 6))
    rw [List.take_take]
    congr 1
    omega
   (have hl2' : l2.length * 6 ≤ cur2.length := by rw [hl2]; exact Nat.mul_le_mul_right _ a0_); (have hgg : g2 ≠ g := fun e => hp0_2 g hok (e ▸ hok2)); (have hlen : (l0.take i ++ l2 ++ l0.drop i).length = l0.length + l2.length := by rw [List.length_append, List.length_append, List.length_take, List.length_drop]; omega)
   by_cases hroom : l0.length + l2.length ≤ cap
   ·refine (api_Expectation_32.room g l0.length cap i l2.length g2 cap2 cur cur2 (flat api_Expectation_32.enc (l0.drop i)) (flat api_Expectation_32.enc l2) w hH hH2 hgg hroom (by simpa [maxLen] using hcm) (by omega) h3 hl hl2' hcs htk2.symm (api_Expectation_32.isFlat.one w _) (api_Expectation_32.isFlat.one w _)).mono ?_
    rintro e w' ⟨rfl, ⟨hgr, cur', hH', hl', ht'⟩⟩; refine ⟨_, rfl, ?_, below_grown hB hgr hg, (kept_grown hgr hok).mono (fun k hk => .inl hk)⟩; refine api_Expectation_32.isFlat.own hlen hg (.inl (.inl hok)) hH' hroom hcm hl' ?_; rw [flat_append, flat_append, ← e2]; exact ht'
   ·refine (api_Expectation_32.grow g l0.length cap i l2.length g2 cap2 cur cur2 (flat api_Expectation_32.enc (l0.drop i)) (flat api_Expectation_32.enc l2) w hH hH2 hnc (by omega) (by omega) (by omega) h3 hl hl2' hcs htk2.symm (api_Expectation_32.isFlat.one w _) (api_Expectation_32.isFlat.one w _)).mono ?_
    rintro e w' ⟨N, G, rfl, ⟨hbw, hN, hGn, hGm, cur', hH', hl', ht'⟩⟩; refine ⟨_, rfl, ?_, below_then hB hB.size hbw, Kept.of_below hbw _⟩; refine api_Expectation_32.isFlat.own hlen (Nat.le_trans hB.size hN) (.inr hN) hH' hGn hGm hl' ?_; rw [flat_append, flat_append, ← e2]; exact ht'
 ·rw [if_neg hc] at h
  exact absurd h (by simp)
def trace_valid.key (x : S35) : Int × Int × Int × Int := (x.f0, x.f1, x.f2, x.f3)
def trace_valid.enc (k : Int × Int × Int × Int) : Value := .agg #[.int .i64 k.1, .int .i64 k.2.1, .int .i64 k.2.2.1, .int .i64 k.2.2.2]
def trace_valid.keys (l : List S35) (i : Nat) : List Value := ((l.take i).map trace_valid.key).map trace_valid.enc
def trace_valid.IsK (v : Value) : Prop := ∃ k, v = trace_valid.enc k
theorem trace_valid.enc_inj {a b : Int × Int × Int × Int} (h : trace_valid.enc a = trace_valid.enc b) : a = b := by
 obtain ⟨a0, a1, a2, a3⟩ := a; obtain ⟨b0, b1, b2, b3⟩ := b; unfold trace_valid.enc at h; injection h with h; have h' := congrArg Array.toList h; simp at h'; obtain ⟨h0, h1, h2, h3⟩ := h'; rw [h0, h1, h2, h3]
theorem trace_valid.eqK (d : Nat) (w : World) (x0 y0 : Int) (x1 y1 : Int) (x2 y2 : Int) (x3 y3 : Int) :
 (Op.equalIn (d + 2) 56 (.agg #[.int .i64 x0, .int .i64 x1, .int .i64 x2, .int .i64 x3]) (.agg #[.int .i64 y0, .int .i64 y1, .int .i64 y2, .int .i64 y3])).run Try.prog w = .ok (x0 == y0 && (x1 == y1 && (x2 == y2 && (x3 == y3)))) w := by
 refine eqA_of Try.underlying56 (by kernel_rfl) ?_; refine eqf_cons (by rfl) (by go_simp; rfl) (by go_simp; rfl) (by go_simp) ?_; refine eqf_cons (by rfl) (by go_simp; rfl) (by go_simp; rfl) (by go_simp) ?_; refine eqf_cons (by rfl) (by go_simp; rfl) (by go_simp; rfl) (by go_simp) ?_; exact eqf_last (by rfl) (by go_simp; rfl) (by go_simp; rfl) (by go_simp)
theorem trace_valid.hEq (a b : Value) (w : World) (ha : trace_valid.IsK a) (hb : trace_valid.IsK b) : ∃ r, (Op.equal 56 a b).run Try.prog w = .ok r w ∧ (r = true ↔ a = b) := by
 obtain ⟨⟨x0, x1, x2, x3⟩, rfl⟩ := ha; obtain ⟨⟨y0, y1, y2, y3⟩, rfl⟩ := hb; refine ⟨_, trace_valid.eqK _ w x0 y0 x1 y1 x2 y2 x3 y3, ?_⟩
 constructor
 ·intro h
  simp only [Bool.and_eq_true, beq_iff_eq] at h; obtain ⟨rfl, rfl, rfl, rfl⟩ := h; rfl
 ·intro h
  have := trace_valid.enc_inj h; simp only [Prod.mk.injEq] at this; obtain ⟨rfl, rfl, rfl, rfl⟩ := this; simp
theorem trace_valid.hCk (k : Value) (w : World) (e : Bool) (hk : trace_valid.IsK k) : (Instr.checkKey e 10000 56 k).run Try.prog w = .ok () w := by
 obtain ⟨⟨x0, x1, x2, x3⟩, rfl⟩ := hk
 kernel_rfl
theorem trace_valid.proper_some (x0 x1 x2 x3 x4 x5 : Int) : ∃ b, trace_proper.f x0 x1 x2 x3 x4 x5 = some b := by
 have hp : ∀ n, ∃ b, trace_person.f n = some b := by
  intro n; unfold trace_person.f
  split
  ·exact ⟨_, rfl⟩
  ·exact ⟨_, rfl⟩
 have two : ∀ (c : Prop) [Decidable c] (a : Option Bool), (∃ b, a = some b) → ∃ b, (if c then a else some false) = some b := by
  intro c _ a h
  split
  ·exact h
  ·exact ⟨_, rfl⟩
 have two' : ∀ (c : Prop) [Decidable c] (a : Option Bool), (∃ b, a = some b) → ∃ b, (if c then some false else a) = some b := by
  intro c _ a h
  split
  ·exact ⟨_, rfl⟩
  ·exact h
 unfold trace_proper.f; obtain ⟨b1, h1⟩ := hp x0; obtain ⟨b2, h2⟩ := hp x1; rw [h1, h2]; simp only [Option.bind_some]; exact two _ _ (two _ _ (two' _ _ (two _ _ (two _ _ (two _ _ (two _ _ (two _ _ (two _ _ (two _ _ ⟨_, rfl⟩)))))))))
def trace_valid.okAt (l : List S35) (i : Nat) : Bool :=
 if trace_proper.f (rd_T35 l i).f0 (rd_T35 l i).f1 (rd_T35 l i).f2 (rd_T35 l i).f3 (rd_T35 l i).f4 (rd_T35 l i).f5 = some false then false
 else if ((rd_T35 l i).f0, (rd_T35 l i).f1, (rd_T35 l i).f2, (rd_T35 l i).f3) ∈ (l.take i).map trace_valid.key then false
 else if ¬ i = 0 ∧ (rd_T35 l i).f4 < (rd_T35 l ((i : Int) - 1)).f4 then false
 else true
def trace_valid.okB (l : List S35) : Bool := if 256 < (l.length : Int) then false else (List.range l.length).all (trace_valid.okAt l)
def trace_valid.f (l0_0 : List (S35)) : Option (Bool) := some (trace_valid.okB l0_0)
theorem trace_valid.zeroB (w : World) : (zeroValue 4).run Try.prog w = .ok (.bool false) w := by kernel_rfl
theorem trace_valid.keys_is (l : List S35) (i : Nat) : ∀ x ∈ trace_valid.keys l i, trace_valid.IsK x := by
 intro x hx; obtain ⟨y, _, rfl⟩ := List.mem_map.mp hx; exact ⟨y, rfl⟩
theorem trace_valid.keys_mem {l : List S35} {i : Nat} {k : Int × Int × Int × Int} : trace_valid.enc k ∈ trace_valid.keys l i ↔ k ∈ (l.take i).map trace_valid.key := by
 unfold trace_valid.keys
 constructor
 ·intro h
  obtain ⟨y, hy, e⟩ := List.mem_map.mp h; exact trace_valid.enc_inj e ▸ hy
 ·exact fun h => List.mem_map.mpr ⟨k, h, rfl⟩
theorem trace_valid.keys_snoc (l : List S35) (i : Nat) (x0 x1 x2 x3 : Int) (e0 : x0 = (rd_T35 l i).f0) (e1 : x1 = (rd_T35 l i).f1) (e2 : x2 = (rd_T35 l i).f2) (e3 : x3 = (rd_T35 l i).f3) (h : i < l.length) : trace_valid.keys l (i + 1) = trace_valid.keys l i ++ [trace_valid.enc (x0, x1, x2, x3)] := by
 unfold trace_valid.keys; rw [List.take_succ_eq_append_getElem h, List.map_append, List.map_append, e0, e1, e2, e3]; unfold rd_T35; simp [List.getD_eq_getElem?_getD, List.getElem?_eq_getElem h, trace_valid.key]
theorem trace_valid.look_yes {W : World} {b : Nat} {l : List S35} {i : Nat} {x0 x1 x2 x3 : Int} (h : SetIs W b (trace_valid.keys l i)) (hx : (x0, x1, x2, x3) ∈ (l.take i).map trace_valid.key) :
 (Instr.lookup 65 (.map (some b)) (.agg #[.int .i64 x0, .int .i64 x1, .int .i64 x2, .int .i64 x3]) false).run Try.prog W = .ok (.bool true) W :=
 (h.lookR (IsK := trace_valid.IsK) Try.underlying65 Try.underlying56 (trace_valid.zeroB _) (fun _ _ => rfl) trace_valid.hEq trace_valid.hCk ⟨(x0, x1, x2, x3), rfl⟩ (trace_valid.keys_is l i)).1 (trace_valid.keys_mem.mpr hx)
theorem trace_valid.look_no {W : World} {b : Nat} {l : List S35} {i : Nat} {x0 x1 x2 x3 : Int} (h : SetIs W b (trace_valid.keys l i)) (hx : (x0, x1, x2, x3) ∉ (l.take i).map trace_valid.key) :
 (Instr.lookup 65 (.map (some b)) (.agg #[.int .i64 x0, .int .i64 x1, .int .i64 x2, .int .i64 x3]) false).run Try.prog W = .ok (.bool false) W :=
 (h.lookR (IsK := trace_valid.IsK) Try.underlying65 Try.underlying56 (trace_valid.zeroB _) (fun _ _ => rfl) trace_valid.hEq trace_valid.hCk ⟨(x0, x1, x2, x3), rfl⟩ (trace_valid.keys_is l i)).2 (fun h' => hx (trace_valid.keys_mem.mp h'))
theorem trace_valid.below {w W w9 : World} (h : Below w.heap.size w W) (hg : W.grownBy w9 (some (w.heap.size + 1))) : Below w.heap.size w w9 :=
 pw_below_grown h _ h.size hg (by intro k hk; cases hk; omega)
theorem trace_valid.next (i : Nat) : (Value.int .i64 ((i : Int) + 1)) = .int .i64 ((i + 1 : Nat) : Int) := by simp
theorem trace_valid.put {W : World} {ops : Array Oper} {rest : List Oper} {o : Oper} {a : Act} {Q : Exit → Act → World → Prop} {b : Nat} {l : List S35} {i : Nat} {x0 x1 x2 x3 : Int}
 (hg : o.guard = none) (m y v : Operand) (hop : o.op = Op.mapUpdate 65 m y v) (hm : a.eval m = .map (some b)) (hx : a.eval y = .agg #[.int .i64 x0, .int .i64 x1, .int .i64 x2, .int .i64 x3]) (hv : a.eval v = .bool true) (h : SetIs W b (trace_valid.keys l i)) (hn : (x0, x1, x2, x3) ∉ (l.take i).map trace_valid.key)
 (hnext : ∀ w', SetIs w' b (trace_valid.keys l i ++ [trace_valid.enc (x0, x1, x2, x3)]) → W.grownBy w' (some b) → wpList Try.prog ops Q rest (a.put o.dst undef) w') : wpList Try.prog ops Q (o :: rest) a W :=
 wpList_put_setR (IsK := trace_valid.IsK) _ hg m y v 65 56 4 hop Try.underlying65 Try.underlying56 (fun _ _ => rfl) trace_valid.hEq trace_valid.hCk hm (trace_valid.enc (x0, x1, x2, x3)) hx hv h ⟨_, rfl⟩ (trace_valid.keys_is l i) (fun h' => hn (trace_valid.keys_mem.mp h')) hnext
def trace_valid.T7 : Bool × List (List Nat × List Nat) := (true, [([], []), ([0], [0]), ([1], [1]), ([2, 1], [2]), ([3], [3]), ([3], [3]), ([5, 3, 3], [3, 5]), ([4, 6, 3], [3, 4, 6]), ([3, 7], [3, 7]), ([8, 6], [8]), ([9], [9]), ([10, 9], [9, 10]), ([11, 9, 9], [9, 11]), ([12], [12]), ([13, 12], [12, 13]), ([12], [12]), ([15, 12], [12, 15]), ([12], [12]), ([17, 12], [12, 17]), ([16, 18, 12], [12, 16, 18]), ([19, 12], [12, 19]), ([20, 12], [12, 20]), ([14, 21, 12], [12, 14, 21]), ([12, 22, 9], [9, 12, 22]), ([9, 23], [9, 23])])
def trace_valid.B7 : List Nat := [0, 1, 3, 7, 15, 15, 47, 127, 255, 511, 1023, 2047, 4095, 8191, 16383, 8191, 40959, 8191, 139263, 499711, 1023999, 2072575, 4194303, 8388607, 16777215]
theorem trace_valid.tab7 : rtab .any (opsOf Try.f28 7) = trace_valid.T7 := by kernel_rfl
theorem trace_valid.bits7 : waitsOk trace_valid.T7.2 trace_valid.B7 = true := by kernel_rfl
set_option maxHeartbeats 16000000 in
set_option maxRecDepth 100000 in
theorem trace_valid.loop (A0_0 : Option Addr) (c0_0 : Nat) (l0_0 : List (S35)) (r : Bool) (w : World) (hr0_0 : Kd.C k35 w A0_0 l0_0.length l0_0) (hc0_0 : l0_0.length ≤ c0_0)
 (b5 : decide (256 < (l0_0.length : Int)) = false)
 (h : (List.range l0_0.length).all (trace_valid.okAt l0_0) = r) :
 Calls Try.prog 28 #[.agg #[.slice A0_0 l0_0.length c0_0]] w fun e w' => e = .returned (.bool r) ∧ Below w.heap.size w w' := by
 have R1 : ∀ (i : Nat), ∀ {q : Nat}, i + (q + 1) = l0_0.length → trace_valid.okAt l0_0 i = false → false = r := by
  intro i q hi hk; rw [← h]
  symm
  rw [List.all_eq_false]; exact ⟨i, List.mem_range.mpr (by omega), by simp [hk]⟩
 have R2 : (∀ j, j < l0_0.length → trace_valid.okAt l0_0 j = true) → true = r := by
  intro hk; rw [← h]
  symm
  rw [List.all_eq_true]; (exact fun j hj => hk j (List.mem_range.mp hj))
 clear h; have HR0_0 := As hr0_0; have HC0_0 := As hc0_0; have HLEN : Aside0 (l0_0.length ≤ 256) := ⟨by have := of_decide_eq_false b5; omega⟩; clear hr0_0 hc0_0; have hmm := @run_makeMap Try.prog; go_enter Try.func28, Try.ntmps28; go_wp2; clear hmm b5; go_loopg [14] l0_0.length (fun kq v14 w' => ∃ i : Nat, v14 = .int .i64 i ∧ Aside0 (i + kq = l0_0.length) ∧ Aside0 (w'.heap[w.heap.size]? = some (.cells #[.slice A0_0 l0_0.length c0_0] 29 (0, 0))) ∧ Aside0 (SetIs w' (w.heap.size + 1) (trace_valid.keys l0_0 i)) ∧ Aside0 (Below w.heap.size w w') ∧ Aside0 (∀ j, j < i → trace_valid.okAt l0_0 j = true))
 case atStart =>
  refine ⟨0, rfl, ⟨by omega⟩, ⟨?_⟩, ⟨?_⟩, ⟨below_alloc (below_alloc (Below.refl _ _) _) _⟩, ⟨fun j hj => by omega⟩⟩
  ·rw [Below.heap_alloc _ _ _ (by simp)]
   exact heap_alloc_new w _
  ·have hk0 : trace_valid.keys l0_0 0 = [] := rfl
   have hs0 := SetIs.made (w.alloc (.cells #[.slice A0_0 l0_0.length c0_0] 29)); (have hz0 : (w.alloc (.cells #[.slice A0_0 l0_0.length c0_0] 29)).heap.size = w.heap.size + 1 := by simp); rw [hz0] at hs0; rw [hk0]; exact hs0
 case round =>
  obtain ⟨i, rfl, HI, BK, HS, HBr, HO⟩ := hrel
  have BLK : ∀ {W w9 : World}, W.heap[w.heap.size]? = some (.cells #[.slice A0_0 l0_0.length c0_0] 29 (0, 0)) → W.grownBy w9 (some (w.heap.size + 1)) → w9.heap[w.heap.size]? = some (.cells #[.slice A0_0 l0_0.length c0_0] 29 (0, 0)) := by
   intro W w9 hh hg; have hlt := blk_lt hh; rw [hg.block _ hlt (by simp)]; exact hh
  cases gk with
  | zero =>
   have a0_ : decide ((i : Int) < (l0_0.length : Int)) = false := decide_eq_false (by have := HI.out; omega); have a1_ : decide (i < l0_0.length) = false := decide_eq_false (by have := HI.out; omega); have hr := R2 (fun j hj => HO.out j (by have := HI.out; omega)); subst hr; clear R1 R2 BLK; go_wp2; go_ret
   exact ⟨rfl, HBr.out⟩
  | succ k1 =>
   have a0_ : decide ((i : Int) < (l0_0.length : Int)) = true := decide_eq_true (by have := HI.out; omega); (have p1 : 0 ≤ (i : Int) := by omega); have q1 : (i : Int) < (l0_0.length : Int) := of_decide_eq_true a0_; obtain ⟨ad, e1, hx0, hx1, hx2, hx3, hx4, hx5⟩ := at_T35 HR0_0.out i p1 q1; cases e1; replace hx0 := (HBr.out.cell (World.block_lt_of_cell? w _ hx0)).trans hx0; replace hx1 := (HBr.out.cell (World.block_lt_of_cell? w _ hx1)).trans hx1; replace hx2 := (HBr.out.cell (World.block_lt_of_cell? w _ hx2)).trans hx2; replace hx3 := (HBr.out.cell (World.block_lt_of_cell? w _ hx3)).trans hx3; replace hx4 := (HBr.out.cell (World.block_lt_of_cell? w _ hx4)).trans hx4; replace hx5 := (HBr.out.cell (World.block_lt_of_cell? w _ hx5)).trans hx5; rw [Int.toNat_natCast] at hx0 hx1 hx2 hx3 hx4 hx5; (have a2_ : (i : Int) ≤ 256 := by have := HLEN.out; omega); clear p1; replace q1 := eq_true q1; obtain ⟨x0, hx0e⟩ : ∃ x0, x0 = (rd_T35 l0_0 i).f0 := ⟨_, rfl⟩; obtain ⟨x1, hx1e⟩ : ∃ x0, x0 = (rd_T35 l0_0 i).f1 := ⟨_, rfl⟩; obtain ⟨x2, hx2e⟩ : ∃ x0, x0 = (rd_T35 l0_0 i).f2 := ⟨_, rfl⟩; obtain ⟨x3, hx3e⟩ : ∃ x0, x0 = (rd_T35 l0_0 i).f3 := ⟨_, rfl⟩; obtain ⟨x4, hx4e⟩ : ∃ x0, x0 = (rd_T35 l0_0 i).f4 := ⟨_, rfl⟩; obtain ⟨x5, hx5e⟩ : ∃ x0, x0 = (rd_T35 l0_0 i).f5 := ⟨_, rfl⟩; rw [← hx0e] at hx0; rw [← hx1e] at hx1; rw [← hx2e] at hx2; rw [← hx3e] at hx3; rw [← hx4e] at hx4; rw [← hx5e] at hx5; have E0 := As hx0e; have E1 := As hx1e; have E2 := As hx2e
   have E3 := As hx3e; have E4 := As hx4e; have E5 := As hx5e; clear hx0e hx1e hx2e hx3e hx4e hx5e; have hB := below_alloc (Below.refl wr.heap.size wr) (.cells #[.int .i64 x0, .int .i64 x1, .int .i64 x2, .int .i64 x3, .int .i64 x4, .int .i64 x5] 35); have hN := heap_alloc_new wr (.cells #[.int .i64 x0, .int .i64 x1, .int .i64 x2, .int .i64 x3, .int .i64 x4, .int .i64 x5] 35); have hK1 : (wr.alloc (.cells #[.int .i64 x0, .int .i64 x1, .int .i64 x2, .int .i64 x3, .int .i64 x4, .int .i64 x5] 35)).heap[w.heap.size]? = some (.cells #[.slice (some ad) l0_0.length c0_0] 29 (0, 0)) := blk_alloc BK.out _; have hS1 := HS.out.alloc (.cells #[.int .i64 x0, .int .i64 x1, .int .i64 x2, .int .i64 x3, .int .i64 x4, .int .i64 x5] 35); have hB1 := below_alloc HBr.out (.cells #[.int .i64 x0, .int .i64 x1, .int .i64 x2, .int .i64 x3, .int .i64 x4, .int .i64 x5] 35); have hC1 := Kd.C_below HR0_0.out hB1; have HN := As hN; have HK1 := As hK1; have HS1 := As hS1; have HB1 := As hB1; have HC1 := As hC1; clear hB hN hK1 hS1 hB1 hC1; go_wp2_with (fail); generalize wr.alloc (.cells #[.int .i64 x0, .int .i64 x1, .int .i64 x2, .int .i64 x3, .int .i64 x4, .int .i64 x5] 35) = W1 at HN HK1 HS1 HB1 HC1 ⊢; clear hx0 hx1 hx2 hx3 hx4 hx5; have hx0 : W1.cell? ⟨wr.heap.size, 0, none⟩ = some (.int .i64 x0) := (blk_cell HN.out 0).trans rfl; have hx1 : W1.cell? ⟨wr.heap.size, 1, none⟩ = some (.int .i64 x1) := (blk_cell HN.out 1).trans rfl
   have hx2 : W1.cell? ⟨wr.heap.size, 2, none⟩ = some (.int .i64 x2) := (blk_cell HN.out 2).trans rfl; have hx3 : W1.cell? ⟨wr.heap.size, 3, none⟩ = some (.int .i64 x3) := (blk_cell HN.out 3).trans rfl; have hx4 : W1.cell? ⟨wr.heap.size, 4, none⟩ = some (.int .i64 x4) := (blk_cell HN.out 4).trans rfl; have hx5 : W1.cell? ⟨wr.heap.size, 5, none⟩ = some (.int .i64 x5) := (blk_cell HN.out 5).trans rfl; have hz0 : W1.cell? ⟨w.heap.size, 0, none⟩ = some (.slice (some ad) l0_0.length c0_0) := (blk_cell HK1.out 0).trans rfl; have HN1 := HN; have hPP : ∃ b, trace_proper.f x0 x1 x2 x3 x4 x5 = some b := trace_valid.proper_some x0 x1 x2 x3 x4 x5; obtain ⟨b, hb⟩ := hPP; have PP := As hb; clear hb
   cases b with
   | false =>
    have hk : trace_valid.okAt l0_0 i = false := by
     unfold trace_valid.okAt; rw [← E0.out, ← E1.out, ← E2.out, ← E3.out, ← E4.out, ← E5.out, if_pos PP.out]
    have hr := R1 i HI.out hk; subst hr; clear hk R1 R2 BLK; refine start_ (n := 25) (S := fun w' => w'.cell? ⟨wr.heap.size, 0, none⟩ = some (.int .i64 x0) ∧ w'.cell? ⟨wr.heap.size, 1, none⟩ = some (.int .i64 x1) ∧ w'.cell? ⟨wr.heap.size, 2, none⟩ = some (.int .i64 x2) ∧ w'.cell? ⟨wr.heap.size, 3, none⟩ = some (.int .i64 x3) ∧ w'.cell? ⟨wr.heap.size, 4, none⟩ = some (.int .i64 x4) ∧ w'.cell? ⟨wr.heap.size, 5, none⟩ = some (.int .i64 x5) ∧ w'.cell? ⟨w.heap.size, 0, none⟩ = some (.slice (some ad) l0_0.length c0_0) ∧ SetIs w' (w.heap.size + 1) (trace_valid.keys l0_0 i)) (ds := []) (marksOf 25 0) (by kernel_rfl) rfl rfl ⟨(blk_cell (blk_drew HN1.out) 0).trans rfl, (blk_cell (blk_drew HN1.out) 1).trans rfl, (blk_cell (blk_drew HN1.out) 2).trans rfl, (blk_cell (blk_drew HN1.out) 3).trans rfl, (blk_cell (blk_drew HN1.out) 4).trans rfl, (blk_cell (blk_drew HN1.out) 5).trans rfl, (blk_cell (blk_drew HK1.out) 0).trans rfl, HS1.out.drew⟩ (fun hHeld => ?_); refine with_tabW trace_valid.tab7 trace_valid.bits7 (fun HT_ HW_ => ?_); (refine ta_ 0 19 25 1 ?_ rfl rfl (take_ofW HT_.out HW_.out (by kernel_rfl)) (fun _ _ _ h => h) (by rfl) ?_ hHeld ?_ ?_ ?_; rotate_left; rintro w' ⟨s0, s1, s2, s3, s4, s5, s6, s7⟩; go_simp; with_reducible rfl; rotate_left; simp only [Act.put, List.setIfInBounds_toArray, List.set_cons_zero, List.set_cons_succ, q1, q2, q3, i64_w, i32_w]; rfl); refine one_ (i := 1) (N := some 20) (marksOf 25 3) rfl rfl (one_of HT_.out (by kernel_rfl)) (by decide) (fun K hK => ?_)
    refine goes_ Try.func29 (by kernel_rfl) rfl #[.agg #[.int .i64 x0, .int .i64 x1, .int .i64 x2, .int .i64 x3, .int .i64 x4, .int .i64 x5]] (by kernel_rfl) rfl rfl (by kernel_rfl) ?_; refine (trace_proper.calls x0 x1 x2 x3 x4 x5 false _ PP.out).mono ?_; rintro e w2 ⟨rfl, hb2⟩; refine ⟨_, rfl, ?_⟩; have HN2 := As (blk_below (blk_drew HN1.out) hb2); have HK2 := As (blk_below (blk_drew HK1.out) hb2); have HS2 := As (HS1.out.drew.same (hb2.block _ HS1.out.lt)); have HB2 := As (below_step (below_drew1 HB1.out) hb2); clear hb2; refine hK.out _ _ ⟨bc HN2 0, bc HN2 1, bc HN2 2, bc HN2 3, bc HN2 4, bc HN2 5, bc HK2 0, HS2.out⟩ (fun hHeld => ?_); refine norm_ (a' := ?_) ?_ ?_; rotate_left
    ·show Act.put _ (some 20) _ = _
     simp only [Act.put, List.setIfInBounds_toArray, List.set_cons_zero, List.set_cons_succ, q1, q2, q3, i64_w, i32_w]; rfl
    (refine pu_ 2 21 25 7 ?_ rfl rfl (any_of HT_.out (by kernel_rfl)) (fun _ _ _ h => h) (by rfl) ?_ ?_ ?_ ?_; rotate_left; intro w'; go_simp; with_reducible rfl; rotate_left; simp only [Act.put, List.setIfInBounds_toArray, List.set_cons_zero, List.set_cons_succ, q1, q2, q3, i64_w, i32_w]; rfl); (refine pu_ 3 22 25 15 ?_ rfl rfl (any_of HT_.out (by kernel_rfl)) (fun _ _ _ h => h) (by rfl) ?_ ?_ ?_ ?_; rotate_left; intro w'; go_simp; with_reducible rfl; rotate_left; simp only [Act.put, List.setIfInBounds_toArray, List.set_cons_zero, List.set_cons_succ, q1, q2, q3, i64_w, i32_w]; rfl); refine pure_ (i := 4) (N := some 23) (v := undef) (a' := ?_) (marksOf 25 31) rfl rfl (any_of HT_.out (by kernel_rfl)) (fun _ _ _ h => h) (Or.inr ⟨by kernel_rfl, rfl⟩) ?_ ?_; rotate_left
    ·simp only [Act.put, List.setIfInBounds_toArray, List.set_cons_zero, List.set_cons_succ, q1, q2, q3, i64_w, i32_w]
     rfl
    refine pure_ (i := 5) (N := some 24) (v := undef) (a' := ?_) (marksOf 25 63) rfl rfl (any_of HT_.out (by kernel_rfl)) (fun _ _ _ h => h) (Or.inr ⟨by kernel_rfl, rfl⟩) ?_ ?_; rotate_left
    ·simp only [Act.put, List.setIfInBounds_toArray, List.set_cons_zero, List.set_cons_succ, q1, q2, q3, i64_w, i32_w]
     rfl
    refine pure_ (i := 6) (N := some 25) (v := undef) (a' := ?_) (marksOf 25 127) rfl rfl (any_of HT_.out (by kernel_rfl)) (fun _ _ _ h => h) (Or.inr ⟨by kernel_rfl, rfl⟩) ?_ ?_; rotate_left
    ·simp only [Act.put, List.setIfInBounds_toArray, List.set_cons_zero, List.set_cons_succ, q1, q2, q3, i64_w, i32_w]
     rfl
    refine pure_ (i := 7) (N := some 26) (v := undef) (a' := ?_) (marksOf 25 255) rfl rfl (any_of HT_.out (by kernel_rfl)) (fun _ _ _ h => h) (Or.inr ⟨by kernel_rfl, rfl⟩) ?_ ?_; rotate_left
    ·simp only [Act.put, List.setIfInBounds_toArray, List.set_cons_zero, List.set_cons_succ, q1, q2, q3, i64_w, i32_w]
     rfl
    (refine pu_ 8 27 25 511 ?_ rfl rfl (any_of HT_.out (by kernel_rfl)) (fun _ _ _ h => h) (by rfl) ?_ ?_ ?_ ?_; rotate_left; intro w'; go_simp; with_reducible rfl; rotate_left; simp only [Act.put, List.setIfInBounds_toArray, List.set_cons_zero, List.set_cons_succ, q1, q2, q3, i64_w, i32_w]; rfl); (refine pu_ 9 28 25 1023 ?_ rfl rfl (any_of HT_.out (by kernel_rfl)) (fun _ _ _ h => h) (by rfl) ?_ ?_ ?_ ?_; rotate_left; intro w'; go_simp; with_reducible rfl; rotate_left; simp only [Act.put, List.setIfInBounds_toArray, List.set_cons_zero, List.set_cons_succ, q1, q2, q3, i64_w, i32_w]; rfl); refine pure_ (i := 10) (N := some 29) (v := undef) (a' := ?_) (marksOf 25 2047) rfl rfl (any_of HT_.out (by kernel_rfl)) (fun _ _ _ h => h) (Or.inr ⟨by kernel_rfl, rfl⟩) ?_ ?_; rotate_left
    ·simp only [Act.put, List.setIfInBounds_toArray, List.set_cons_zero, List.set_cons_succ, q1, q2, q3, i64_w, i32_w]
     rfl
    refine pure_ (i := 11) (N := some 30) (v := undef) (a' := ?_) (marksOf 25 4095) rfl rfl (any_of HT_.out (by kernel_rfl)) (fun _ _ _ h => h) (Or.inr ⟨by kernel_rfl, rfl⟩) ?_ ?_; rotate_left
    ·simp only [Act.put, List.setIfInBounds_toArray, List.set_cons_zero, List.set_cons_succ, q1, q2, q3, i64_w, i32_w]
     rfl
    refine pure_ (i := 12) (N := some 31) (v := undef) (a' := ?_) (marksOf 25 8191) rfl rfl (any_of HT_.out (by kernel_rfl)) (fun _ _ _ h => h) (Or.inr ⟨by kernel_rfl, rfl⟩) ?_ ?_; rotate_left
    ·simp only [Act.put, List.setIfInBounds_toArray, List.set_cons_zero, List.set_cons_succ, q1, q2, q3, i64_w, i32_w]
     rfl
    refine pure_ (i := 13) (N := some 32) (v := undef) (a' := ?_) (marksOf 25 16383) rfl rfl (any_of HT_.out (by kernel_rfl)) (fun _ _ _ h => h) (Or.inr ⟨by kernel_rfl, rfl⟩) ?_ ?_; rotate_left
    ·simp only [Act.put, List.setIfInBounds_toArray, List.set_cons_zero, List.set_cons_succ, q1, q2, q3, i64_w, i32_w]
     rfl
    refine pure_ (i := 14) (N := some 33) (v := undef) (a' := ?_) (marksOf 25 32767) rfl rfl (any_of HT_.out (by kernel_rfl)) (fun _ _ _ h => h) (Or.inr ⟨by kernel_rfl, rfl⟩) ?_ ?_; rotate_left
    ·simp only [Act.put, List.setIfInBounds_toArray, List.set_cons_zero, List.set_cons_succ, q1, q2, q3, i64_w, i32_w]
     rfl
    refine pure_ (i := 15) (N := some 34) (v := undef) (a' := ?_) (marksOf 25 65535) rfl rfl (any_of HT_.out (by kernel_rfl)) (fun _ _ _ h => h) (Or.inr ⟨by kernel_rfl, rfl⟩) ?_ ?_; rotate_left
    ·simp only [Act.put, List.setIfInBounds_toArray, List.set_cons_zero, List.set_cons_succ, q1, q2, q3, i64_w, i32_w]
     rfl
    refine pure_ (i := 16) (N := some 35) (v := undef) (a' := ?_) (marksOf 25 131071) rfl rfl (any_of HT_.out (by kernel_rfl)) (fun _ _ _ h => h) (Or.inr ⟨by kernel_rfl, rfl⟩) ?_ ?_; rotate_left
    ·simp only [Act.put, List.setIfInBounds_toArray, List.set_cons_zero, List.set_cons_succ, q1, q2, q3, i64_w, i32_w]
     rfl
    refine pure_ (i := 17) (N := some 36) (v := undef) (a' := ?_) (marksOf 25 262143) rfl rfl (any_of HT_.out (by kernel_rfl)) (fun _ _ _ h => h) (Or.inr ⟨by kernel_rfl, rfl⟩) ?_ ?_; rotate_left
    ·simp only [Act.put, List.setIfInBounds_toArray, List.set_cons_zero, List.set_cons_succ, q1, q2, q3, i64_w, i32_w]
     rfl
    refine pure_ (i := 18) (N := some 37) (v := undef) (a' := ?_) (marksOf 25 524287) rfl rfl (any_of HT_.out (by kernel_rfl)) (fun _ _ _ h => h) (Or.inr ⟨by kernel_rfl, rfl⟩) ?_ ?_; rotate_left
    ·simp only [Act.put, List.setIfInBounds_toArray, List.set_cons_zero, List.set_cons_succ, q1, q2, q3, i64_w, i32_w]
     rfl
    refine pure_ (i := 19) (N := some 38) (v := undef) (a' := ?_) (marksOf 25 1048575) rfl rfl (any_of HT_.out (by kernel_rfl)) (fun _ _ _ h => h) (Or.inr ⟨by kernel_rfl, rfl⟩) ?_ ?_; rotate_left
    ·simp only [Act.put, List.setIfInBounds_toArray, List.set_cons_zero, List.set_cons_succ, q1, q2, q3, i64_w, i32_w]
     rfl
    refine pure_ (i := 20) (N := some 39) (v := undef) (a' := ?_) (marksOf 25 2097151) rfl rfl (any_of HT_.out (by kernel_rfl)) (fun _ _ _ h => h) (Or.inr ⟨by kernel_rfl, rfl⟩) ?_ ?_; rotate_left
    ·simp only [Act.put, List.setIfInBounds_toArray, List.set_cons_zero, List.set_cons_succ, q1, q2, q3, i64_w, i32_w]
     rfl
    refine pure_ (i := 21) (N := some 40) (v := undef) (a' := ?_) (marksOf 25 4194303) rfl rfl (any_of HT_.out (by kernel_rfl)) (fun _ _ _ h => h) (Or.inr ⟨by kernel_rfl, rfl⟩) ?_ ?_; rotate_left
    ·simp only [Act.put, List.setIfInBounds_toArray, List.set_cons_zero, List.set_cons_succ, q1, q2, q3, i64_w, i32_w]
     rfl
    refine pure_ (i := 22) (N := some 41) (v := undef) (a' := ?_) (marksOf 25 8388607) rfl rfl (any_of HT_.out (by kernel_rfl)) (fun _ _ _ h => h) (Or.inr ⟨by kernel_rfl, rfl⟩) ?_ ?_; rotate_left
    ·simp only [Act.put, List.setIfInBounds_toArray, List.set_cons_zero, List.set_cons_succ, q1, q2, q3, i64_w, i32_w]
     rfl
    refine pure_ (i := 23) (N := some 42) (v := undef) (a' := ?_) (marksOf 25 16777215) rfl rfl (any_of HT_.out (by kernel_rfl)) (fun _ _ _ h => h) (Or.inr ⟨by kernel_rfl, rfl⟩) ?_ ?_; rotate_left
    ·simp only [Act.put, List.setIfInBounds_toArray, List.set_cons_zero, List.set_cons_succ, q1, q2, q3, i64_w, i32_w]
     rfl
    (refine pu_ 24 43 25 33554431 ?_ rfl rfl (any_of HT_.out (by kernel_rfl)) (fun _ _ _ h => h) (by rfl) ?_ ?_ ?_ ?_; rotate_left; intro w'; go_simp; with_reducible rfl; rotate_left; simp only [Act.put, List.setIfInBounds_toArray, List.set_cons_zero, List.set_cons_succ, q1, q2, q3, i64_w, i32_w]; rfl); refine done_ (done_of HT_.out (by kernel_rfl)) ?_; (try simp only [Act.put, List.setIfInBounds_toArray, List.set_cons_zero, List.set_cons_succ]); go_wp2; go_ret
    exact ⟨rfl, by repeat (first | exact HB2.out | apply pw_below_drewN | apply below_drew1)⟩
   | true =>
    (have hpn : ¬ trace_proper.f x0 x1 x2 x3 x4 x5 = some false := by rw [PP.out]; simp); have HPN := As hpn; clear hpn
    by_cases t2 : (⟨x0, x1, x2, x3⟩ : Int × Int × Int × Int) ∈ (l0_0.take i).map trace_valid.key
    ·have Pt2 := As t2
     clear t2
     have hk : trace_valid.okAt l0_0 i = false := by
      unfold trace_valid.okAt; rw [← E0.out, ← E1.out, ← E2.out, ← E3.out, ← E4.out, ← E5.out, if_neg HPN.out, if_pos Pt2.out]
     have hr := R1 i HI.out hk; subst hr; clear hk R1 R2 BLK; refine start_ (n := 25) (S := fun w' => w'.cell? ⟨wr.heap.size, 0, none⟩ = some (x0) ∧ w'.cell? ⟨wr.heap.size, 1, none⟩ = some (x1) ∧ w'.cell? ⟨wr.heap.size, 2, none⟩ = some (x2) ∧ w'.cell? ⟨wr.heap.size, 3, none⟩ = some (x3) ∧ w'.cell? ⟨wr.heap.size, 4, none⟩ = some (x4) ∧ w'.cell? ⟨wr.heap.size, 5, none⟩ = some (x5) ∧ w'.cell? ⟨w.heap.size, 0, none⟩ = some (.slice (some ad) l0_0.length c0_0) ∧ SetIs w' (w.heap.size + 1) (trace_valid.keys l0_0 i)) (ds := []) (marksOf 25 0) (by kernel_rfl) rfl rfl ⟨(blk_cell (blk_drew HN1.out) 0).trans rfl, (blk_cell (blk_drew HN1.out) 1).trans rfl, (blk_cell (blk_drew HN1.out) 2).trans rfl, (blk_cell (blk_drew HN1.out) 3).trans rfl, (blk_cell (blk_drew HN1.out) 4).trans rfl, (blk_cell (blk_drew HN1.out) 5).trans rfl, (blk_cell (blk_drew HK1.out) 0).trans rfl, HS1.out.drew⟩ (fun hHeld => ?_); refine with_tabW trace_valid.tab7 trace_valid.bits7 (fun HT_ HW_ => ?_); (refine ta_ 0 19 25 1 ?_ rfl rfl (take_ofW HT_.out HW_.out (by kernel_rfl)) (fun _ _ _ h => h) (by rfl) ?_ hHeld ?_ ?_ ?_; rotate_left; rintro w' ⟨s0, s1, s2, s3, s4, s5, s6, s7⟩; go_simp; with_reducible rfl; rotate_left; simp only [Act.put, List.setIfInBounds_toArray, List.set_cons_zero, List.set_cons_succ, q1, q2, q3, i64_w, i32_w]; rfl); refine one_ (i := 1) (N := some 20) (marksOf 25 3) rfl rfl (one_of HT_.out (by kernel_rfl)) (by decide) (fun K hK => ?_)
     refine goes_ Try.func29 (by kernel_rfl) rfl #[.agg #[x0, x1, x2, x3, x4, x5]] (by kernel_rfl) rfl rfl (by kernel_rfl) ?_; refine (trace_proper.calls x0 x1 x2 x3 x4 x5 true _ PP.out).mono ?_; rintro e w2 ⟨rfl, hb2⟩; refine ⟨_, rfl, ?_⟩; have HN2 := As (blk_below (blk_drew HN1.out) hb2); have HK2 := As (blk_below (blk_drew HK1.out) hb2); have HS2 := As (HS1.out.drew.same (hb2.block _ HS1.out.lt)); have HB2 := As (below_step (below_drew1 HB1.out) hb2); clear hb2; refine hK.out _ _ ⟨bc HN2 0, bc HN2 1, bc HN2 2, bc HN2 3, bc HN2 4, bc HN2 5, bc HK2 0, HS2.out⟩ (fun hHeld => ?_); refine norm_ (a' := ?_) ?_ ?_; rotate_left
     ·show Act.put _ (some 20) _ = _
      simp only [Act.put, List.setIfInBounds_toArray, List.set_cons_zero, List.set_cons_succ, q1, q2, q3, i64_w, i32_w]; rfl
     (refine pu_ 2 21 25 7 ?_ rfl rfl (any_of HT_.out (by kernel_rfl)) (fun _ _ _ h => h) (by rfl) ?_ ?_ ?_ ?_; rotate_left; intro w'; go_simp; with_reducible rfl; rotate_left; simp only [Act.put, List.setIfInBounds_toArray, List.set_cons_zero, List.set_cons_succ, q1, q2, q3, i64_w, i32_w]; rfl); (refine pu_ 3 22 25 15 ?_ rfl rfl (any_of HT_.out (by kernel_rfl)) (fun _ _ _ h => h) (by rfl) ?_ ?_ ?_ ?_; rotate_left; intro w'; go_simp; with_reducible rfl; rotate_left; simp only [Act.put, List.setIfInBounds_toArray, List.set_cons_zero, List.set_cons_succ, q1, q2, q3, i64_w, i32_w]; rfl); (refine pu_ 4 23 25 31 ?_ rfl rfl (any_of HT_.out (by kernel_rfl)) (fun _ _ _ h => h) (by rfl) ?_ ?_ ?_ ?_; rotate_left; intro w'; go_simp; with_reducible rfl; rotate_left; simp only [Act.put, List.setIfInBounds_toArray, List.set_cons_zero, List.set_cons_succ, q1, q2, q3, i64_w, i32_w]; rfl); (refine ta_ 5 24 25 63 ?_ rfl rfl (take_ofW HT_.out HW_.out (by kernel_rfl)) (fun _ _ _ h => h) (by rfl) ?_ hHeld ?_ ?_ ?_; rotate_left; rintro w' ⟨s0, s1, s2, s3, s4, s5, s6, s7⟩; go_simp; with_reducible rfl; rotate_left; simp only [Act.put, List.setIfInBounds_toArray, List.set_cons_zero, List.set_cons_succ, q1, q2, q3, i64_w, i32_w]; rfl); refine one_ (i := 6) (N := some 25) (marksOf 25 127) rfl rfl (one_of HT_.out (by kernel_rfl)) (by decide) (fun K hK => ?_)
     refine goes_ Try.func31 (by kernel_rfl) rfl #[.agg #[x0, x1, x2, x3, x4, x5]] (by kernel_rfl) rfl rfl (by kernel_rfl) ?_; refine (trace_of.calls x0 x1 x2 x3 x4 x5 x0 x1 x2 x3 _ rfl).mono ?_; rintro e w3 ⟨rfl, hb3⟩; refine ⟨_, rfl, ?_⟩; have HN3 := As (blk_below (HN2.out) hb3); have HK3 := As (blk_below (HK2.out) hb3); have HS3 := As (HS2.out.same (hb3.block _ HS2.out.lt)); have HB3 := As (below_step (HB2.out) hb3); clear hb3; refine hK.out _ _ ⟨bc HN3 0, bc HN3 1, bc HN3 2, bc HN3 3, bc HN3 4, bc HN3 5, bc HK3 0, HS3.out⟩ (fun hHeld => ?_); refine norm_ (a' := ?_) ?_ ?_; rotate_left
     ·show Act.put _ (some 25) _ = _
      simp only [Act.put, List.setIfInBounds_toArray, List.set_cons_zero, List.set_cons_succ, q1, q2, q3, i64_w, i32_w]; rfl
     refine ta_ 7 26 25 255 ?_ rfl rfl (take_ofW HT_.out HW_.out (by kernel_rfl)) (fun _ _ _ h => h) (by rfl) ?_ hHeld ?_ ?_ ?_; rotate_left
     ·rintro w' ⟨s0, s1, s2, s3, s4, s5, s6, s7⟩
      have hlook := trace_valid.look_yes s7 Pt2.out; go_simp
      with_reducible rfl
     rotate_left
     ·simp only [Act.put, List.setIfInBounds_toArray, List.set_cons_zero, List.set_cons_succ, q1, q2, q3, i64_w, i32_w]
      rfl
     (refine pu_ 8 27 25 511 ?_ rfl rfl (any_of HT_.out (by kernel_rfl)) (fun _ _ _ h => h) (by rfl) ?_ ?_ ?_ ?_; rotate_left; intro w'; go_simp; with_reducible rfl; rotate_left; simp only [Act.put, List.setIfInBounds_toArray, List.set_cons_zero, List.set_cons_succ, q1, q2, q3, i64_w, i32_w]; rfl); (refine pu_ 9 28 25 1023 ?_ rfl rfl (any_of HT_.out (by kernel_rfl)) (fun _ _ _ h => h) (by rfl) ?_ ?_ ?_ ?_; rotate_left; intro w'; go_simp; with_reducible rfl; rotate_left; simp only [Act.put, List.setIfInBounds_toArray, List.set_cons_zero, List.set_cons_succ, q1, q2, q3, i64_w, i32_w]; rfl); refine pure_ (i := 10) (N := some 29) (v := undef) (a' := ?_) (marksOf 25 2047) rfl rfl (any_of HT_.out (by kernel_rfl)) (fun _ _ _ h => h) (Or.inr ⟨by kernel_rfl, rfl⟩) ?_ ?_; rotate_left
     ·simp only [Act.put, List.setIfInBounds_toArray, List.set_cons_zero, List.set_cons_succ, q1, q2, q3, i64_w, i32_w]
      rfl
     refine pure_ (i := 11) (N := some 30) (v := undef) (a' := ?_) (marksOf 25 4095) rfl rfl (any_of HT_.out (by kernel_rfl)) (fun _ _ _ h => h) (Or.inr ⟨by kernel_rfl, rfl⟩) ?_ ?_; rotate_left
     ·simp only [Act.put, List.setIfInBounds_toArray, List.set_cons_zero, List.set_cons_succ, q1, q2, q3, i64_w, i32_w]
      rfl
     refine pure_ (i := 12) (N := some 31) (v := undef) (a' := ?_) (marksOf 25 8191) rfl rfl (any_of HT_.out (by kernel_rfl)) (fun _ _ _ h => h) (Or.inr ⟨by kernel_rfl, rfl⟩) ?_ ?_; rotate_left
     ·simp only [Act.put, List.setIfInBounds_toArray, List.set_cons_zero, List.set_cons_succ, q1, q2, q3, i64_w, i32_w]
      rfl
     refine pure_ (i := 13) (N := some 32) (v := undef) (a' := ?_) (marksOf 25 16383) rfl rfl (any_of HT_.out (by kernel_rfl)) (fun _ _ _ h => h) (Or.inr ⟨by kernel_rfl, rfl⟩) ?_ ?_; rotate_left
     ·simp only [Act.put, List.setIfInBounds_toArray, List.set_cons_zero, List.set_cons_succ, q1, q2, q3, i64_w, i32_w]
      rfl
     refine pure_ (i := 14) (N := some 33) (v := undef) (a' := ?_) (marksOf 25 32767) rfl rfl (any_of HT_.out (by kernel_rfl)) (fun _ _ _ h => h) (Or.inr ⟨by kernel_rfl, rfl⟩) ?_ ?_; rotate_left
     ·simp only [Act.put, List.setIfInBounds_toArray, List.set_cons_zero, List.set_cons_succ, q1, q2, q3, i64_w, i32_w]
      rfl
     refine pure_ (i := 15) (N := some 34) (v := undef) (a' := ?_) (marksOf 25 65535) rfl rfl (any_of HT_.out (by kernel_rfl)) (fun _ _ _ h => h) (Or.inr ⟨by kernel_rfl, rfl⟩) ?_ ?_; rotate_left
     ·simp only [Act.put, List.setIfInBounds_toArray, List.set_cons_zero, List.set_cons_succ, q1, q2, q3, i64_w, i32_w]
      rfl
     refine pure_ (i := 16) (N := some 35) (v := undef) (a' := ?_) (marksOf 25 131071) rfl rfl (any_of HT_.out (by kernel_rfl)) (fun _ _ _ h => h) (Or.inr ⟨by kernel_rfl, rfl⟩) ?_ ?_; rotate_left
     ·simp only [Act.put, List.setIfInBounds_toArray, List.set_cons_zero, List.set_cons_succ, q1, q2, q3, i64_w, i32_w]
      rfl
     refine pure_ (i := 17) (N := some 36) (v := undef) (a' := ?_) (marksOf 25 262143) rfl rfl (any_of HT_.out (by kernel_rfl)) (fun _ _ _ h => h) (Or.inr ⟨by kernel_rfl, rfl⟩) ?_ ?_; rotate_left
     ·simp only [Act.put, List.setIfInBounds_toArray, List.set_cons_zero, List.set_cons_succ, q1, q2, q3, i64_w, i32_w]
      rfl
     refine pure_ (i := 18) (N := some 37) (v := undef) (a' := ?_) (marksOf 25 524287) rfl rfl (any_of HT_.out (by kernel_rfl)) (fun _ _ _ h => h) (Or.inr ⟨by kernel_rfl, rfl⟩) ?_ ?_; rotate_left
     ·simp only [Act.put, List.setIfInBounds_toArray, List.set_cons_zero, List.set_cons_succ, q1, q2, q3, i64_w, i32_w]
      rfl
     refine pure_ (i := 19) (N := some 38) (v := undef) (a' := ?_) (marksOf 25 1048575) rfl rfl (any_of HT_.out (by kernel_rfl)) (fun _ _ _ h => h) (Or.inr ⟨by kernel_rfl, rfl⟩) ?_ ?_; rotate_left
     ·simp only [Act.put, List.setIfInBounds_toArray, List.set_cons_zero, List.set_cons_succ, q1, q2, q3, i64_w, i32_w]
      rfl
     refine pure_ (i := 20) (N := some 39) (v := undef) (a' := ?_) (marksOf 25 2097151) rfl rfl (any_of HT_.out (by kernel_rfl)) (fun _ _ _ h => h) (Or.inr ⟨by kernel_rfl, rfl⟩) ?_ ?_; rotate_left
     ·simp only [Act.put, List.setIfInBounds_toArray, List.set_cons_zero, List.set_cons_succ, q1, q2, q3, i64_w, i32_w]
      rfl
     refine pure_ (i := 21) (N := some 40) (v := undef) (a' := ?_) (marksOf 25 4194303) rfl rfl (any_of HT_.out (by kernel_rfl)) (fun _ _ _ h => h) (Or.inr ⟨by kernel_rfl, rfl⟩) ?_ ?_; rotate_left
     ·simp only [Act.put, List.setIfInBounds_toArray, List.set_cons_zero, List.set_cons_succ, q1, q2, q3, i64_w, i32_w]
      rfl
     refine pure_ (i := 22) (N := some 41) (v := undef) (a' := ?_) (marksOf 25 8388607) rfl rfl (any_of HT_.out (by kernel_rfl)) (fun _ _ _ h => h) (Or.inr ⟨by kernel_rfl, rfl⟩) ?_ ?_; rotate_left
     ·simp only [Act.put, List.setIfInBounds_toArray, List.set_cons_zero, List.set_cons_succ, q1, q2, q3, i64_w, i32_w]
      rfl
     refine pure_ (i := 23) (N := some 42) (v := undef) (a' := ?_) (marksOf 25 16777215) rfl rfl (any_of HT_.out (by kernel_rfl)) (fun _ _ _ h => h) (Or.inr ⟨by kernel_rfl, rfl⟩) ?_ ?_; rotate_left
     ·simp only [Act.put, List.setIfInBounds_toArray, List.set_cons_zero, List.set_cons_succ, q1, q2, q3, i64_w, i32_w]
      rfl
     (refine pu_ 24 43 25 33554431 ?_ rfl rfl (any_of HT_.out (by kernel_rfl)) (fun _ _ _ h => h) (by rfl) ?_ ?_ ?_ ?_; rotate_left; intro w'; go_simp; with_reducible rfl; rotate_left; simp only [Act.put, List.setIfInBounds_toArray, List.set_cons_zero, List.set_cons_succ, q1, q2, q3, i64_w, i32_w]; rfl); refine done_ (done_of HT_.out (by kernel_rfl)) ?_; (try simp only [Act.put, List.setIfInBounds_toArray, List.set_cons_zero, List.set_cons_succ]); go_wp2; go_ret; exact ⟨rfl, by repeat (first | exact HB3.out | apply pw_below_drewN | apply below_drew1)⟩
    ·have Pt2 := As t2
     clear t2
     by_cases t3 : i = 0
     ·have Pt3 := As t3
      have d3 : decide (0 < (i : Int)) = false := decide_eq_false (by omega); have d3n : decide (0 < i) = false := decide_eq_false (by omega); clear t3
      have hk : Aside0 (trace_valid.okAt l0_0 i = true) := ⟨by
       unfold trace_valid.okAt; rw [← E0.out, ← E1.out, ← E2.out, ← E3.out, ← E4.out, ← E5.out, if_neg HPN.out, if_neg Pt2.out, if_neg (fun h => h.1 Pt3.out)]⟩
      refine start_ (n := 25) (S := fun w' => w'.cell? ⟨wr.heap.size, 0, none⟩ = some (x0) ∧ w'.cell? ⟨wr.heap.size, 1, none⟩ = some (x1) ∧ w'.cell? ⟨wr.heap.size, 2, none⟩ = some (x2) ∧ w'.cell? ⟨wr.heap.size, 3, none⟩ = some (x3) ∧ w'.cell? ⟨wr.heap.size, 4, none⟩ = some (x4) ∧ w'.cell? ⟨wr.heap.size, 5, none⟩ = some (x5) ∧ w'.cell? ⟨w.heap.size, 0, none⟩ = some (.slice (some ad) l0_0.length c0_0) ∧ SetIs w' (w.heap.size + 1) (trace_valid.keys l0_0 i)) (ds := []) (marksOf 25 0) (by kernel_rfl) rfl rfl ⟨(blk_cell (blk_drew HN1.out) 0).trans rfl, (blk_cell (blk_drew HN1.out) 1).trans rfl, (blk_cell (blk_drew HN1.out) 2).trans rfl, (blk_cell (blk_drew HN1.out) 3).trans rfl, (blk_cell (blk_drew HN1.out) 4).trans rfl, (blk_cell (blk_drew HN1.out) 5).trans rfl, (blk_cell (blk_drew HK1.out) 0).trans rfl, HS1.out.drew⟩ (fun hHeld => ?_); refine with_tabW trace_valid.tab7 trace_valid.bits7 (fun HT_ HW_ => ?_); (refine ta_ 0 19 25 1 ?_ rfl rfl (take_ofW HT_.out HW_.out (by kernel_rfl)) (fun _ _ _ h => h) (by rfl) ?_ hHeld ?_ ?_ ?_; rotate_left; rintro w' ⟨s0, s1, s2, s3, s4, s5, s6, s7⟩; go_simp; with_reducible rfl; rotate_left; simp only [Act.put, List.setIfInBounds_toArray, List.set_cons_zero, List.set_cons_succ, q1, q2, q3, i64_w, i32_w]; rfl); refine one_ (i := 1) (N := some 20) (marksOf 25 3) rfl rfl (one_of HT_.out (by kernel_rfl)) (by decide) (fun K hK => ?_)
      refine goes_ Try.func29 (by kernel_rfl) rfl #[.agg #[x0, x1, x2, x3, x4, x5]] (by kernel_rfl) rfl rfl (by kernel_rfl) ?_; refine (trace_proper.calls x0 x1 x2 x3 x4 x5 true _ PP.out).mono ?_; rintro e w2 ⟨rfl, hb2⟩; refine ⟨_, rfl, ?_⟩; have HN2 := As (blk_below (blk_drew HN1.out) hb2); have HK2 := As (blk_below (blk_drew HK1.out) hb2); have HS2 := As (HS1.out.drew.same (hb2.block _ HS1.out.lt)); have HB2 := As (below_step (below_drew1 HB1.out) hb2); clear hb2; refine hK.out _ _ ⟨bc HN2 0, bc HN2 1, bc HN2 2, bc HN2 3, bc HN2 4, bc HN2 5, bc HK2 0, HS2.out⟩ (fun hHeld => ?_); refine norm_ (a' := ?_) ?_ ?_; rotate_left
      ·show Act.put _ (some 20) _ = _
       simp only [Act.put, List.setIfInBounds_toArray, List.set_cons_zero, List.set_cons_succ, q1, q2, q3, i64_w, i32_w]; rfl
      (refine pu_ 2 21 25 7 ?_ rfl rfl (any_of HT_.out (by kernel_rfl)) (fun _ _ _ h => h) (by rfl) ?_ ?_ ?_ ?_; rotate_left; intro w'; go_simp; with_reducible rfl; rotate_left; simp only [Act.put, List.setIfInBounds_toArray, List.set_cons_zero, List.set_cons_succ, q1, q2, q3, i64_w, i32_w]; rfl); (refine pu_ 3 22 25 15 ?_ rfl rfl (any_of HT_.out (by kernel_rfl)) (fun _ _ _ h => h) (by rfl) ?_ ?_ ?_ ?_; rotate_left; intro w'; go_simp; with_reducible rfl; rotate_left; simp only [Act.put, List.setIfInBounds_toArray, List.set_cons_zero, List.set_cons_succ, q1, q2, q3, i64_w, i32_w]; rfl); (refine pu_ 4 23 25 31 ?_ rfl rfl (any_of HT_.out (by kernel_rfl)) (fun _ _ _ h => h) (by rfl) ?_ ?_ ?_ ?_; rotate_left; intro w'; go_simp; with_reducible rfl; rotate_left; simp only [Act.put, List.setIfInBounds_toArray, List.set_cons_zero, List.set_cons_succ, q1, q2, q3, i64_w, i32_w]; rfl); (refine ta_ 5 24 25 63 ?_ rfl rfl (take_ofW HT_.out HW_.out (by kernel_rfl)) (fun _ _ _ h => h) (by rfl) ?_ hHeld ?_ ?_ ?_; rotate_left; rintro w' ⟨s0, s1, s2, s3, s4, s5, s6, s7⟩; go_simp; with_reducible rfl; rotate_left; simp only [Act.put, List.setIfInBounds_toArray, List.set_cons_zero, List.set_cons_succ, q1, q2, q3, i64_w, i32_w]; rfl); refine one_ (i := 6) (N := some 25) (marksOf 25 127) rfl rfl (one_of HT_.out (by kernel_rfl)) (by decide) (fun K hK => ?_)
      refine goes_ Try.func31 (by kernel_rfl) rfl #[.agg #[x0, x1, x2, x3, x4, x5]] (by kernel_rfl) rfl rfl (by kernel_rfl) ?_; refine (trace_of.calls x0 x1 x2 x3 x4 x5 x0 x1 x2 x3 _ rfl).mono ?_; rintro e w3 ⟨rfl, hb3⟩; refine ⟨_, rfl, ?_⟩; have HN3 := As (blk_below (HN2.out) hb3); have HK3 := As (blk_below (HK2.out) hb3); have HS3 := As (HS2.out.same (hb3.block _ HS2.out.lt)); have HB3 := As (below_step (HB2.out) hb3); clear hb3; refine hK.out _ _ ⟨bc HN3 0, bc HN3 1, bc HN3 2, bc HN3 3, bc HN3 4, bc HN3 5, bc HK3 0, HS3.out⟩ (fun hHeld => ?_); refine norm_ (a' := ?_) ?_ ?_; rotate_left
      ·show Act.put _ (some 25) _ = _
       simp only [Act.put, List.setIfInBounds_toArray, List.set_cons_zero, List.set_cons_succ, q1, q2, q3, i64_w, i32_w]; rfl
      refine ta_ 7 26 25 255 ?_ rfl rfl (take_ofW HT_.out HW_.out (by kernel_rfl)) (fun _ _ _ h => h) (by rfl) ?_ hHeld ?_ ?_ ?_; rotate_left
      ·rintro w' ⟨s0, s1, s2, s3, s4, s5, s6, s7⟩
       have hlook := trace_valid.look_no s7 Pt2.out; go_simp
       with_reducible rfl
      rotate_left
      ·simp only [Act.put, List.setIfInBounds_toArray, List.set_cons_zero, List.set_cons_succ, q1, q2, q3, i64_w, i32_w]
       rfl
      (refine pu_ 8 27 25 511 ?_ rfl rfl (any_of HT_.out (by kernel_rfl)) (fun _ _ _ h => h) (by rfl) ?_ ?_ ?_ ?_; rotate_left; intro w'; go_simp; with_reducible rfl; rotate_left; simp only [Act.put, List.setIfInBounds_toArray, List.set_cons_zero, List.set_cons_succ, q1, q2, q3, i64_w, i32_w]; rfl); (refine pu_ 9 28 25 1023 ?_ rfl rfl (any_of HT_.out (by kernel_rfl)) (fun _ _ _ h => h) (by rfl) ?_ ?_ ?_ ?_; rotate_left; intro w'; go_simp; with_reducible rfl; rotate_left; simp only [Act.put, List.setIfInBounds_toArray, List.set_cons_zero, List.set_cons_succ, q1, q2, q3, i64_w, i32_w]; rfl); (refine pu_ 10 29 25 2047 ?_ rfl rfl (any_of HT_.out (by kernel_rfl)) (fun _ _ _ h => h) (by rfl) ?_ ?_ ?_ ?_; rotate_left; intro w'; go_simp; with_reducible rfl; rotate_left; simp only [Act.put, List.setIfInBounds_toArray, List.set_cons_zero, List.set_cons_succ, q1, q2, q3, i64_w, i32_w]; rfl); (refine pu_ 11 30 25 4095 ?_ rfl rfl (any_of HT_.out (by kernel_rfl)) (fun _ _ _ h => h) (by rfl) ?_ ?_ ?_ ?_; rotate_left; intro w'; go_simp; with_reducible rfl; rotate_left; simp only [Act.put, List.setIfInBounds_toArray, List.set_cons_zero, List.set_cons_succ, q1, q2, q3, i64_w, i32_w]; rfl); (refine pu_ 12 31 25 8191 ?_ rfl rfl (any_of HT_.out (by kernel_rfl)) (fun _ _ _ h => h) (by rfl) ?_ ?_ ?_ ?_; rotate_left; intro w'; go_simp; with_reducible rfl; rotate_left; simp only [Act.put, List.setIfInBounds_toArray, List.set_cons_zero, List.set_cons_succ, q1, q2, q3, i64_w, i32_w]; rfl)
      refine pure_ (i := 13) (N := some 32) (v := undef) (a' := ?_) (marksOf 25 16383) rfl rfl (any_of HT_.out (by kernel_rfl)) (fun _ _ _ h => h) (Or.inr ⟨by kernel_rfl, rfl⟩) ?_ ?_; rotate_left
      ·simp only [Act.put, List.setIfInBounds_toArray, List.set_cons_zero, List.set_cons_succ, q1, q2, q3, i64_w, i32_w]
       rfl
      refine pure_ (i := 14) (N := some 33) (v := undef) (a' := ?_) (marksOf 25 32767) rfl rfl (any_of HT_.out (by kernel_rfl)) (fun _ _ _ h => h) (Or.inr ⟨by kernel_rfl, rfl⟩) ?_ ?_; rotate_left
      ·simp only [Act.put, List.setIfInBounds_toArray, List.set_cons_zero, List.set_cons_succ, q1, q2, q3, i64_w, i32_w]
       rfl
      refine pure_ (i := 15) (N := some 34) (v := undef) (a' := ?_) (marksOf 25 65535) rfl rfl (any_of HT_.out (by kernel_rfl)) (fun _ _ _ h => h) (Or.inr ⟨by kernel_rfl, rfl⟩) ?_ ?_; rotate_left
      ·simp only [Act.put, List.setIfInBounds_toArray, List.set_cons_zero, List.set_cons_succ, q1, q2, q3, i64_w, i32_w]
       rfl
      refine pure_ (i := 16) (N := some 35) (v := undef) (a' := ?_) (marksOf 25 131071) rfl rfl (any_of HT_.out (by kernel_rfl)) (fun _ _ _ h => h) (Or.inr ⟨by kernel_rfl, rfl⟩) ?_ ?_; rotate_left
      ·simp only [Act.put, List.setIfInBounds_toArray, List.set_cons_zero, List.set_cons_succ, q1, q2, q3, i64_w, i32_w]
       rfl
      refine pure_ (i := 17) (N := some 36) (v := undef) (a' := ?_) (marksOf 25 262143) rfl rfl (any_of HT_.out (by kernel_rfl)) (fun _ _ _ h => h) (Or.inr ⟨by kernel_rfl, rfl⟩) ?_ ?_; rotate_left
      ·simp only [Act.put, List.setIfInBounds_toArray, List.set_cons_zero, List.set_cons_succ, q1, q2, q3, i64_w, i32_w]
       rfl
      refine pure_ (i := 18) (N := some 37) (v := undef) (a' := ?_) (marksOf 25 524287) rfl rfl (any_of HT_.out (by kernel_rfl)) (fun _ _ _ h => h) (Or.inr ⟨by kernel_rfl, rfl⟩) ?_ ?_; rotate_left
      ·simp only [Act.put, List.setIfInBounds_toArray, List.set_cons_zero, List.set_cons_succ, q1, q2, q3, i64_w, i32_w]
       rfl
      refine pure_ (i := 19) (N := some 38) (v := undef) (a' := ?_) (marksOf 25 1048575) rfl rfl (any_of HT_.out (by kernel_rfl)) (fun _ _ _ h => h) (Or.inr ⟨by kernel_rfl, rfl⟩) ?_ ?_; rotate_left
      ·simp only [Act.put, List.setIfInBounds_toArray, List.set_cons_zero, List.set_cons_succ, q1, q2, q3, i64_w, i32_w]
       rfl
      refine pure_ (i := 20) (N := some 39) (v := undef) (a' := ?_) (marksOf 25 2097151) rfl rfl (any_of HT_.out (by kernel_rfl)) (fun _ _ _ h => h) (Or.inr ⟨by kernel_rfl, rfl⟩) ?_ ?_; rotate_left
      ·simp only [Act.put, List.setIfInBounds_toArray, List.set_cons_zero, List.set_cons_succ, q1, q2, q3, i64_w, i32_w]
       rfl
      refine pure_ (i := 21) (N := some 40) (v := undef) (a' := ?_) (marksOf 25 4194303) rfl rfl (any_of HT_.out (by kernel_rfl)) (fun _ _ _ h => h) (Or.inr ⟨by kernel_rfl, rfl⟩) ?_ ?_; rotate_left
      ·simp only [Act.put, List.setIfInBounds_toArray, List.set_cons_zero, List.set_cons_succ, q1, q2, q3, i64_w, i32_w]
       rfl
      refine pure_ (i := 22) (N := some 41) (v := undef) (a' := ?_) (marksOf 25 8388607) rfl rfl (any_of HT_.out (by kernel_rfl)) (fun _ _ _ h => h) (Or.inr ⟨by kernel_rfl, rfl⟩) ?_ ?_; rotate_left
      ·simp only [Act.put, List.setIfInBounds_toArray, List.set_cons_zero, List.set_cons_succ, q1, q2, q3, i64_w, i32_w]
       rfl
      (refine pu_ 23 42 25 16777215 ?_ rfl rfl (any_of HT_.out (by kernel_rfl)) (fun _ _ _ h => h) (by rfl) ?_ ?_ ?_ ?_; rotate_left; intro w'; go_simp; with_reducible rfl; rotate_left; simp only [Act.put, List.setIfInBounds_toArray, List.set_cons_zero, List.set_cons_succ, q1, q2, q3, i64_w, i32_w]; rfl); (refine pu_ 24 43 25 33554431 ?_ rfl rfl (any_of HT_.out (by kernel_rfl)) (fun _ _ _ h => h) (by rfl) ?_ ?_ ?_ ?_; rotate_left; intro w'; go_simp; with_reducible rfl; rotate_left; simp only [Act.put, List.setIfInBounds_toArray, List.set_cons_zero, List.set_cons_succ, q1, q2, q3, i64_w, i32_w]; rfl); refine done_ (done_of HT_.out (by kernel_rfl)) ?_; (try simp only [Act.put, List.setIfInBounds_toArray, List.set_cons_zero, List.set_cons_succ]); have u3_0 : w3.cell? ⟨wr.heap.size, 0, none⟩ = some (x0) := (blk_cell HN3.out 0).trans rfl; have u3_1 : w3.cell? ⟨wr.heap.size, 1, none⟩ = some (x1) := (blk_cell HN3.out 1).trans rfl; have u3_2 : w3.cell? ⟨wr.heap.size, 2, none⟩ = some (x2) := (blk_cell HN3.out 2).trans rfl; have u3_3 : w3.cell? ⟨wr.heap.size, 3, none⟩ = some (x3) := (blk_cell HN3.out 3).trans rfl; have u3_4 : w3.cell? ⟨wr.heap.size, 4, none⟩ = some (x4) := (blk_cell HN3.out 4).trans rfl; have u3_5 : w3.cell? ⟨wr.heap.size, 5, none⟩ = some (x5) := (blk_cell HN3.out 5).trans rfl
      go_wp2_with (first | (go_at_call 31; (with_reducible refine (trace_of.calls x0 x1 x2 x3 x4 x5 x0 x1 x2 x3 _ rfl).mono ?_); rintro e w4 ⟨rfl, hb4⟩; have HK4 := As (blk_below HK3.out hb4); have HS4 := As (HS3.out.same (hb4.block _ HS3.out.lt)); have HB4 := As (HB3.out.trans (hb4.mono HB3.out.size)); clear hb4) | (at_mapUpdate; refine trace_valid.put rfl _ _ _ rfl rfl rfl rfl HS4.out Pt2.out ?_; intro w9 HS9 HG9)); have hb0 := trace_valid.below HB4.out HG9; have hs0 := trace_valid.keys_snoc l0_0 i x0 x1 x2 x3 E0.out E1.out E2.out E3.out (by have := HI.out; omega); have hblk := As (BLK HK4.out HG9); have HB9 := As hb0; have HK9 := As hs0; clear hb0 hs0 HG9 BLK; go_roundg k1
      case measure => omega
      case rel =>
       refine ⟨i + 1, trace_valid.next i, ⟨by have := HI.out; omega⟩, hblk, ⟨?_⟩, HB9, ⟨?_⟩⟩
       ·rw [HK9.out]
        exact HS9
       ·intro j hj
        (rcases Nat.lt_or_ge j i with h | h)
        ·exact HO.out j h
        ·obtain rfl : j = i := by omega
         exact hk.out
     ·have Pt3 := As t3
      have d3 : decide (0 < (i : Int)) = true := decide_eq_true (by omega); have d3n : decide (0 < i) = true := decide_eq_true (by omega); (have p2 : 0 ≤ (i : Int) - 1 := by omega); (have q2 : (i : Int) - 1 < (l0_0.length : Int) := by have := HI.out; omega); clear t3; obtain ⟨ad2, e2, hy0, hy1, hy2, hy3, hy4, hy5⟩ := at_T35 HC1.out ((i : Int) - 1) p2 q2; cases e2; clear hy0 hy1 hy2 hy3 hy5; obtain ⟨y4, hye4⟩ : ∃ y, y = (rd_T35 l0_0 ((i : Int) - 1)).f4 := ⟨_, rfl⟩; rw [← hye4] at hy4; have F4 := As hye4; clear hye4; (have ht2 : ((i : Int) - 1).toNat = i - 1 := by omega); rw [ht2] at hy4; have HY1 := As hy4; have hw2 : IntKind.i64.wrap ((i : Int) - 1) = (i : Int) - 1 := IntWalk.i64_in _ (by omega); have p2a := p2; have p2b : (1 ≤ (i : Int)) = True := eq_true (by omega); replace p2 := eq_true p2; replace q2 := eq_true q2
      by_cases t4 : x4 < y4
      ·have Pt4 := As t4
       have d4 : decide (x4 < y4) = true := decide_eq_true t4; clear t4
       have hk : trace_valid.okAt l0_0 i = false := by
        unfold trace_valid.okAt; rw [← E0.out, ← E1.out, ← E2.out, ← E3.out, ← E4.out, ← E5.out, ← F4.out, if_neg HPN.out, if_neg Pt2.out, if_pos ⟨Pt3.out, Pt4.out⟩]
       have hr := R1 i HI.out hk; subst hr; clear hk R1 R2 BLK; refine start_ (n := 25) (S := fun w' => w'.cell? ⟨wr.heap.size, 0, none⟩ = some (x0) ∧ w'.cell? ⟨wr.heap.size, 1, none⟩ = some (x1) ∧ w'.cell? ⟨wr.heap.size, 2, none⟩ = some (x2) ∧ w'.cell? ⟨wr.heap.size, 3, none⟩ = some (x3) ∧ w'.cell? ⟨wr.heap.size, 4, none⟩ = some (x4) ∧ w'.cell? ⟨wr.heap.size, 5, none⟩ = some (x5) ∧ w'.cell? ⟨w.heap.size, 0, none⟩ = some (.slice (some ad) l0_0.length c0_0) ∧ SetIs w' (w.heap.size + 1) (trace_valid.keys l0_0 i) ∧ w'.cell? ⟨(ad.add ((i - 1) * 6)).block, (ad.add ((i - 1) * 6)).off + 4, none⟩ = some (y4)) (ds := []) (marksOf 25 0) (by kernel_rfl) rfl rfl ⟨(blk_cell (blk_drew HN1.out) 0).trans rfl, (blk_cell (blk_drew HN1.out) 1).trans rfl, (blk_cell (blk_drew HN1.out) 2).trans rfl, (blk_cell (blk_drew HN1.out) 3).trans rfl, (blk_cell (blk_drew HN1.out) 4).trans rfl, (blk_cell (blk_drew HN1.out) 5).trans rfl, (blk_cell (blk_drew HK1.out) 0).trans rfl, HS1.out.drew, HY1.out⟩ (fun hHeld => ?_); refine with_tabW trace_valid.tab7 trace_valid.bits7 (fun HT_ HW_ => ?_); (refine ta_ 0 19 25 1 ?_ rfl rfl (take_ofW HT_.out HW_.out (by kernel_rfl)) (fun _ _ _ h => h) (by rfl) ?_ hHeld ?_ ?_ ?_; rotate_left; rintro w' ⟨s0, s1, s2, s3, s4, s5, s6, s7, s8⟩; go_simp; with_reducible rfl; rotate_left; simp only [Act.put, List.setIfInBounds_toArray, List.set_cons_zero, List.set_cons_succ, q1, q2, q3, i64_w, i32_w]; rfl)
       refine one_ (i := 1) (N := some 20) (marksOf 25 3) rfl rfl (one_of HT_.out (by kernel_rfl)) (by decide) (fun K hK => ?_); refine goes_ Try.func29 (by kernel_rfl) rfl #[.agg #[x0, x1, x2, x3, x4, x5]] (by kernel_rfl) rfl rfl (by kernel_rfl) ?_; refine (trace_proper.calls x0 x1 x2 x3 x4 x5 true _ PP.out).mono ?_; rintro e w2 ⟨rfl, hb2⟩; refine ⟨_, rfl, ?_⟩; have HN2 := As (blk_below (blk_drew HN1.out) hb2); have HK2 := As (blk_below (blk_drew HK1.out) hb2); have HS2 := As (HS1.out.drew.same (hb2.block _ HS1.out.lt)); have HB2 := As (below_step (below_drew1 HB1.out) hb2); have HY2 := As ((hb2.cell (World.block_lt_of_cell? _ _ HY1.out)).trans HY1.out); clear hb2; refine hK.out _ _ ⟨bc HN2 0, bc HN2 1, bc HN2 2, bc HN2 3, bc HN2 4, bc HN2 5, bc HK2 0, HS2.out, HY2.out⟩ (fun hHeld => ?_); refine norm_ (a' := ?_) ?_ ?_; rotate_left
       ·show Act.put _ (some 20) _ = _
        simp only [Act.put, List.setIfInBounds_toArray, List.set_cons_zero, List.set_cons_succ, q1, q2, q3, i64_w, i32_w]; rfl
       (refine pu_ 2 21 25 7 ?_ rfl rfl (any_of HT_.out (by kernel_rfl)) (fun _ _ _ h => h) (by rfl) ?_ ?_ ?_ ?_; rotate_left; intro w'; go_simp; with_reducible rfl; rotate_left; simp only [Act.put, List.setIfInBounds_toArray, List.set_cons_zero, List.set_cons_succ, q1, q2, q3, i64_w, i32_w]; rfl); (refine pu_ 3 22 25 15 ?_ rfl rfl (any_of HT_.out (by kernel_rfl)) (fun _ _ _ h => h) (by rfl) ?_ ?_ ?_ ?_; rotate_left; intro w'; go_simp; with_reducible rfl; rotate_left; simp only [Act.put, List.setIfInBounds_toArray, List.set_cons_zero, List.set_cons_succ, q1, q2, q3, i64_w, i32_w]; rfl); (refine pu_ 4 23 25 31 ?_ rfl rfl (any_of HT_.out (by kernel_rfl)) (fun _ _ _ h => h) (by rfl) ?_ ?_ ?_ ?_; rotate_left; intro w'; go_simp; with_reducible rfl; rotate_left; simp only [Act.put, List.setIfInBounds_toArray, List.set_cons_zero, List.set_cons_succ, q1, q2, q3, i64_w, i32_w]; rfl); (refine ta_ 5 24 25 63 ?_ rfl rfl (take_ofW HT_.out HW_.out (by kernel_rfl)) (fun _ _ _ h => h) (by rfl) ?_ hHeld ?_ ?_ ?_; rotate_left; rintro w' ⟨s0, s1, s2, s3, s4, s5, s6, s7, s8⟩; go_simp; with_reducible rfl; rotate_left; simp only [Act.put, List.setIfInBounds_toArray, List.set_cons_zero, List.set_cons_succ, q1, q2, q3, i64_w, i32_w]; rfl); refine one_ (i := 6) (N := some 25) (marksOf 25 127) rfl rfl (one_of HT_.out (by kernel_rfl)) (by decide) (fun K hK => ?_)
       refine goes_ Try.func31 (by kernel_rfl) rfl #[.agg #[x0, x1, x2, x3, x4, x5]] (by kernel_rfl) rfl rfl (by kernel_rfl) ?_; refine (trace_of.calls x0 x1 x2 x3 x4 x5 x0 x1 x2 x3 _ rfl).mono ?_; rintro e w3 ⟨rfl, hb3⟩; refine ⟨_, rfl, ?_⟩; have HN3 := As (blk_below (HN2.out) hb3); have HK3 := As (blk_below (HK2.out) hb3); have HS3 := As (HS2.out.same (hb3.block _ HS2.out.lt)); have HB3 := As (below_step (HB2.out) hb3); have HY3 := As ((hb3.cell (World.block_lt_of_cell? _ _ HY2.out)).trans HY2.out); clear hb3; refine hK.out _ _ ⟨bc HN3 0, bc HN3 1, bc HN3 2, bc HN3 3, bc HN3 4, bc HN3 5, bc HK3 0, HS3.out, HY3.out⟩ (fun hHeld => ?_); refine norm_ (a' := ?_) ?_ ?_; rotate_left
       ·show Act.put _ (some 25) _ = _
        simp only [Act.put, List.setIfInBounds_toArray, List.set_cons_zero, List.set_cons_succ, q1, q2, q3, i64_w, i32_w]; rfl
       refine ta_ 7 26 25 255 ?_ rfl rfl (take_ofW HT_.out HW_.out (by kernel_rfl)) (fun _ _ _ h => h) (by rfl) ?_ hHeld ?_ ?_ ?_; rotate_left
       ·rintro w' ⟨s0, s1, s2, s3, s4, s5, s6, s7, s8⟩
        have hlook := trace_valid.look_no s7 Pt2.out; go_simp
        with_reducible rfl
       rotate_left
       ·simp only [Act.put, List.setIfInBounds_toArray, List.set_cons_zero, List.set_cons_succ, q1, q2, q3, i64_w, i32_w]
        rfl
       (refine pu_ 8 27 25 511 ?_ rfl rfl (any_of HT_.out (by kernel_rfl)) (fun _ _ _ h => h) (by rfl) ?_ ?_ ?_ ?_; rotate_left; intro w'; go_simp; with_reducible rfl; rotate_left; simp only [Act.put, List.setIfInBounds_toArray, List.set_cons_zero, List.set_cons_succ, q1, q2, q3, i64_w, i32_w]; rfl); (refine pu_ 9 28 25 1023 ?_ rfl rfl (any_of HT_.out (by kernel_rfl)) (fun _ _ _ h => h) (by rfl) ?_ ?_ ?_ ?_; rotate_left; intro w'; go_simp; with_reducible rfl; rotate_left; simp only [Act.put, List.setIfInBounds_toArray, List.set_cons_zero, List.set_cons_succ, q1, q2, q3, i64_w, i32_w]; rfl); (refine pu_ 10 29 25 2047 ?_ rfl rfl (any_of HT_.out (by kernel_rfl)) (fun _ _ _ h => h) (by rfl) ?_ ?_ ?_ ?_; rotate_left; intro w'; go_simp; with_reducible rfl; rotate_left; simp only [Act.put, List.setIfInBounds_toArray, List.set_cons_zero, List.set_cons_succ, q1, q2, q3, i64_w, i32_w]; rfl); (refine pu_ 11 30 25 4095 ?_ rfl rfl (any_of HT_.out (by kernel_rfl)) (fun _ _ _ h => h) (by rfl) ?_ ?_ ?_ ?_; rotate_left; intro w'; go_simp; with_reducible rfl; rotate_left; simp only [Act.put, List.setIfInBounds_toArray, List.set_cons_zero, List.set_cons_succ, q1, q2, q3, i64_w, i32_w]; rfl); (refine pu_ 12 31 25 8191 ?_ rfl rfl (any_of HT_.out (by kernel_rfl)) (fun _ _ _ h => h) (by rfl) ?_ ?_ ?_ ?_; rotate_left; intro w'; go_simp; with_reducible rfl; rotate_left; simp only [Act.put, List.setIfInBounds_toArray, List.set_cons_zero, List.set_cons_succ, q1, q2, q3, i64_w, i32_w]; rfl)
       (refine pu_ 13 32 25 16383 ?_ rfl rfl (any_of HT_.out (by kernel_rfl)) (fun _ _ _ h => h) (by rfl) ?_ ?_ ?_ ?_; rotate_left; intro w'; go_simp; with_reducible rfl; rotate_left; simp only [Act.put, List.setIfInBounds_toArray, List.set_cons_zero, List.set_cons_succ, q1, q2, q3, i64_w, i32_w]; rfl); (refine ta_ 14 33 25 32767 ?_ rfl rfl (take_ofW HT_.out HW_.out (by kernel_rfl)) (fun _ _ _ h => h) (by rfl) ?_ hHeld ?_ ?_ ?_; rotate_left; rintro w' ⟨s0, s1, s2, s3, s4, s5, s6, s7, s8⟩; go_simp; with_reducible rfl; rotate_left; simp only [Act.put, List.setIfInBounds_toArray, List.set_cons_zero, List.set_cons_succ, q1, q2, q3, i64_w, i32_w]; rfl); (refine pu_ 15 34 25 65535 ?_ rfl rfl (any_of HT_.out (by kernel_rfl)) (fun _ _ _ h => h) (by rfl) ?_ ?_ ?_ ?_; rotate_left; intro w'; go_simp; with_reducible rfl; rotate_left; simp only [Act.put, List.setIfInBounds_toArray, List.set_cons_zero, List.set_cons_succ, q1, q2, q3, i64_w, i32_w]; rfl); (refine ta_ 16 35 25 131071 ?_ rfl rfl (take_ofW HT_.out HW_.out (by kernel_rfl)) (fun _ _ _ h => h) (by rfl) ?_ hHeld ?_ ?_ ?_; rotate_left; rintro w' ⟨s0, s1, s2, s3, s4, s5, s6, s7, s8⟩; go_simp; with_reducible rfl; rotate_left; simp only [Act.put, List.setIfInBounds_toArray, List.set_cons_zero, List.set_cons_succ, q1, q2, q3, i64_w, i32_w]; rfl)
       (refine pu_ 17 36 25 262143 ?_ rfl rfl (any_of HT_.out (by kernel_rfl)) (fun _ _ _ h => h) (by rfl) ?_ ?_ ?_ ?_; rotate_left; intro w'; go_simp; with_reducible rfl; rotate_left; simp only [Act.put, List.setIfInBounds_toArray, List.set_cons_zero, List.set_cons_succ, q1, q2, q3, i64_w, i32_w]; rfl); (refine pu_ 18 37 25 524287 ?_ rfl rfl (any_of HT_.out (by kernel_rfl)) (fun _ _ _ h => h) (by rfl) ?_ ?_ ?_ ?_; rotate_left; intro w'; go_simp; with_reducible rfl; rotate_left; simp only [Act.put, List.setIfInBounds_toArray, List.set_cons_zero, List.set_cons_succ, q1, q2, q3, i64_w, i32_w]; rfl); (refine pu_ 19 38 25 1048575 ?_ rfl rfl (any_of HT_.out (by kernel_rfl)) (fun _ _ _ h => h) (by rfl) ?_ ?_ ?_ ?_; rotate_left; intro w'; go_simp; with_reducible rfl; rotate_left; simp only [Act.put, List.setIfInBounds_toArray, List.set_cons_zero, List.set_cons_succ, q1, q2, q3, i64_w, i32_w]; rfl); (refine pu_ 20 39 25 2097151 ?_ rfl rfl (any_of HT_.out (by kernel_rfl)) (fun _ _ _ h => h) (by rfl) ?_ ?_ ?_ ?_; rotate_left; intro w'; go_simp; with_reducible rfl; rotate_left; simp only [Act.put, List.setIfInBounds_toArray, List.set_cons_zero, List.set_cons_succ, q1, q2, q3, i64_w, i32_w]; rfl)
       (refine ta_ 21 40 25 4194303 ?_ rfl rfl (take_ofW HT_.out HW_.out (by kernel_rfl)) (fun _ _ _ h => h) (by rfl) ?_ hHeld ?_ ?_ ?_; rotate_left; rintro w' ⟨s0, s1, s2, s3, s4, s5, s6, s7, s8⟩; go_simp; with_reducible rfl; rotate_left; simp only [Act.put, List.setIfInBounds_toArray, List.set_cons_zero, List.set_cons_succ, q1, q2, q3, i64_w, i32_w]; rfl); (refine pu_ 22 41 25 8388607 ?_ rfl rfl (any_of HT_.out (by kernel_rfl)) (fun _ _ _ h => h) (by rfl) ?_ ?_ ?_ ?_; rotate_left; intro w'; go_simp; with_reducible rfl; rotate_left; simp only [Act.put, List.setIfInBounds_toArray, List.set_cons_zero, List.set_cons_succ, q1, q2, q3, i64_w, i32_w]; rfl); (refine pu_ 23 42 25 16777215 ?_ rfl rfl (any_of HT_.out (by kernel_rfl)) (fun _ _ _ h => h) (by rfl) ?_ ?_ ?_ ?_; rotate_left; intro w'; go_simp; with_reducible rfl; rotate_left; simp only [Act.put, List.setIfInBounds_toArray, List.set_cons_zero, List.set_cons_succ, q1, q2, q3, i64_w, i32_w]; rfl); (refine pu_ 24 43 25 33554431 ?_ rfl rfl (any_of HT_.out (by kernel_rfl)) (fun _ _ _ h => h) (by rfl) ?_ ?_ ?_ ?_; rotate_left; intro w'; go_simp; with_reducible rfl; rotate_left; simp only [Act.put, List.setIfInBounds_toArray, List.set_cons_zero, List.set_cons_succ, q1, q2, q3, i64_w, i32_w]; rfl); refine done_ (done_of HT_.out (by kernel_rfl)) ?_; (try simp only [Act.put, List.setIfInBounds_toArray, List.set_cons_zero, List.set_cons_succ]); go_wp2; go_ret
       exact ⟨rfl, by repeat (first | exact HB3.out | apply pw_below_drewN | apply below_drew1)⟩
      ·have Pt4 := As t4
       have d4 : decide (x4 < y4) = false := decide_eq_false t4; clear t4
       have hk : Aside0 (trace_valid.okAt l0_0 i = true) := ⟨by
        unfold trace_valid.okAt; rw [← E0.out, ← E1.out, ← E2.out, ← E3.out, ← E4.out, ← E5.out, ← F4.out, if_neg HPN.out, if_neg Pt2.out, if_neg (fun h => Pt4.out h.2)]⟩
       refine start_ (n := 25) (S := fun w' => w'.cell? ⟨wr.heap.size, 0, none⟩ = some (x0) ∧ w'.cell? ⟨wr.heap.size, 1, none⟩ = some (x1) ∧ w'.cell? ⟨wr.heap.size, 2, none⟩ = some (x2) ∧ w'.cell? ⟨wr.heap.size, 3, none⟩ = some (x3) ∧ w'.cell? ⟨wr.heap.size, 4, none⟩ = some (x4) ∧ w'.cell? ⟨wr.heap.size, 5, none⟩ = some (x5) ∧ w'.cell? ⟨w.heap.size, 0, none⟩ = some (.slice (some ad) l0_0.length c0_0) ∧ SetIs w' (w.heap.size + 1) (trace_valid.keys l0_0 i) ∧ w'.cell? ⟨(ad.add ((i - 1) * 6)).block, (ad.add ((i - 1) * 6)).off + 4, none⟩ = some (y4)) (ds := []) (marksOf 25 0) (by kernel_rfl) rfl rfl ⟨(blk_cell (blk_drew HN1.out) 0).trans rfl, (blk_cell (blk_drew HN1.out) 1).trans rfl, (blk_cell (blk_drew HN1.out) 2).trans rfl, (blk_cell (blk_drew HN1.out) 3).trans rfl, (blk_cell (blk_drew HN1.out) 4).trans rfl, (blk_cell (blk_drew HN1.out) 5).trans rfl, (blk_cell (blk_drew HK1.out) 0).trans rfl, HS1.out.drew, HY1.out⟩ (fun hHeld => ?_); refine with_tabW trace_valid.tab7 trace_valid.bits7 (fun HT_ HW_ => ?_); (refine ta_ 0 19 25 1 ?_ rfl rfl (take_ofW HT_.out HW_.out (by kernel_rfl)) (fun _ _ _ h => h) (by rfl) ?_ hHeld ?_ ?_ ?_; rotate_left; rintro w' ⟨s0, s1, s2, s3, s4, s5, s6, s7, s8⟩; go_simp; with_reducible rfl; rotate_left; simp only [Act.put, List.setIfInBounds_toArray, List.set_cons_zero, List.set_cons_succ, q1, q2, q3, i64_w, i32_w]; rfl)
       refine one_ (i := 1) (N := some 20) (marksOf 25 3) rfl rfl (one_of HT_.out (by kernel_rfl)) (by decide) (fun K hK => ?_); refine goes_ Try.func29 (by kernel_rfl) rfl #[.agg #[x0, x1, x2, x3, x4, x5]] (by kernel_rfl) rfl rfl (by kernel_rfl) ?_; refine (trace_proper.calls x0 x1 x2 x3 x4 x5 true _ PP.out).mono ?_; rintro e w2 ⟨rfl, hb2⟩; refine ⟨_, rfl, ?_⟩; have HN2 := As (blk_below (blk_drew HN1.out) hb2); have HK2 := As (blk_below (blk_drew HK1.out) hb2); have HS2 := As (HS1.out.drew.same (hb2.block _ HS1.out.lt)); have HB2 := As (below_step (below_drew1 HB1.out) hb2); have HY2 := As ((hb2.cell (World.block_lt_of_cell? _ _ HY1.out)).trans HY1.out); clear hb2; refine hK.out _ _ ⟨bc HN2 0, bc HN2 1, bc HN2 2, bc HN2 3, bc HN2 4, bc HN2 5, bc HK2 0, HS2.out, HY2.out⟩ (fun hHeld => ?_); refine norm_ (a' := ?_) ?_ ?_; rotate_left
       ·show Act.put _ (some 20) _ = _
        simp only [Act.put, List.setIfInBounds_toArray, List.set_cons_zero, List.set_cons_succ, q1, q2, q3, i64_w, i32_w]; rfl
       (refine pu_ 2 21 25 7 ?_ rfl rfl (any_of HT_.out (by kernel_rfl)) (fun _ _ _ h => h) (by rfl) ?_ ?_ ?_ ?_; rotate_left; intro w'; go_simp; with_reducible rfl; rotate_left; simp only [Act.put, List.setIfInBounds_toArray, List.set_cons_zero, List.set_cons_succ, q1, q2, q3, i64_w, i32_w]; rfl); (refine pu_ 3 22 25 15 ?_ rfl rfl (any_of HT_.out (by kernel_rfl)) (fun _ _ _ h => h) (by rfl) ?_ ?_ ?_ ?_; rotate_left; intro w'; go_simp; with_reducible rfl; rotate_left; simp only [Act.put, List.setIfInBounds_toArray, List.set_cons_zero, List.set_cons_succ, q1, q2, q3, i64_w, i32_w]; rfl); (refine pu_ 4 23 25 31 ?_ rfl rfl (any_of HT_.out (by kernel_rfl)) (fun _ _ _ h => h) (by rfl) ?_ ?_ ?_ ?_; rotate_left; intro w'; go_simp; with_reducible rfl; rotate_left; simp only [Act.put, List.setIfInBounds_toArray, List.set_cons_zero, List.set_cons_succ, q1, q2, q3, i64_w, i32_w]; rfl); (refine ta_ 5 24 25 63 ?_ rfl rfl (take_ofW HT_.out HW_.out (by kernel_rfl)) (fun _ _ _ h => h) (by rfl) ?_ hHeld ?_ ?_ ?_; rotate_left; rintro w' ⟨s0, s1, s2, s3, s4, s5, s6, s7, s8⟩; go_simp; with_reducible rfl; rotate_left; simp only [Act.put, List.setIfInBounds_toArray, List.set_cons_zero, List.set_cons_succ, q1, q2, q3, i64_w, i32_w]; rfl); refine one_ (i := 6) (N := some 25) (marksOf 25 127) rfl rfl (one_of HT_.out (by kernel_rfl)) (by decide) (fun K hK => ?_)
       refine goes_ Try.func31 (by kernel_rfl) rfl #[.agg #[x0, x1, x2, x3, x4, x5]] (by kernel_rfl) rfl rfl (by kernel_rfl) ?_; refine (trace_of.calls x0 x1 x2 x3 x4 x5 x0 x1 x2 x3 _ rfl).mono ?_; rintro e w3 ⟨rfl, hb3⟩; refine ⟨_, rfl, ?_⟩; have HN3 := As (blk_below (HN2.out) hb3); have HK3 := As (blk_below (HK2.out) hb3); have HS3 := As (HS2.out.same (hb3.block _ HS2.out.lt)); have HB3 := As (below_step (HB2.out) hb3); have HY3 := As ((hb3.cell (World.block_lt_of_cell? _ _ HY2.out)).trans HY2.out); clear hb3; refine hK.out _ _ ⟨bc HN3 0, bc HN3 1, bc HN3 2, bc HN3 3, bc HN3 4, bc HN3 5, bc HK3 0, HS3.out, HY3.out⟩ (fun hHeld => ?_); refine norm_ (a' := ?_) ?_ ?_; rotate_left
       ·show Act.put _ (some 25) _ = _
        simp only [Act.put, List.setIfInBounds_toArray, List.set_cons_zero, List.set_cons_succ, q1, q2, q3, i64_w, i32_w]; rfl
       refine ta_ 7 26 25 255 ?_ rfl rfl (take_ofW HT_.out HW_.out (by kernel_rfl)) (fun _ _ _ h => h) (by rfl) ?_ hHeld ?_ ?_ ?_; rotate_left
       ·rintro w' ⟨s0, s1, s2, s3, s4, s5, s6, s7, s8⟩
        have hlook := trace_valid.look_no s7 Pt2.out; go_simp
        with_reducible rfl
       rotate_left
       ·simp only [Act.put, List.setIfInBounds_toArray, List.set_cons_zero, List.set_cons_succ, q1, q2, q3, i64_w, i32_w]
        rfl
       (refine pu_ 8 27 25 511 ?_ rfl rfl (any_of HT_.out (by kernel_rfl)) (fun _ _ _ h => h) (by rfl) ?_ ?_ ?_ ?_; rotate_left; intro w'; go_simp; with_reducible rfl; rotate_left; simp only [Act.put, List.setIfInBounds_toArray, List.set_cons_zero, List.set_cons_succ, q1, q2, q3, i64_w, i32_w]; rfl); (refine pu_ 9 28 25 1023 ?_ rfl rfl (any_of HT_.out (by kernel_rfl)) (fun _ _ _ h => h) (by rfl) ?_ ?_ ?_ ?_; rotate_left; intro w'; go_simp; with_reducible rfl; rotate_left; simp only [Act.put, List.setIfInBounds_toArray, List.set_cons_zero, List.set_cons_succ, q1, q2, q3, i64_w, i32_w]; rfl); (refine pu_ 10 29 25 2047 ?_ rfl rfl (any_of HT_.out (by kernel_rfl)) (fun _ _ _ h => h) (by rfl) ?_ ?_ ?_ ?_; rotate_left; intro w'; go_simp; with_reducible rfl; rotate_left; simp only [Act.put, List.setIfInBounds_toArray, List.set_cons_zero, List.set_cons_succ, q1, q2, q3, i64_w, i32_w]; rfl); (refine pu_ 11 30 25 4095 ?_ rfl rfl (any_of HT_.out (by kernel_rfl)) (fun _ _ _ h => h) (by rfl) ?_ ?_ ?_ ?_; rotate_left; intro w'; go_simp; with_reducible rfl; rotate_left; simp only [Act.put, List.setIfInBounds_toArray, List.set_cons_zero, List.set_cons_succ, q1, q2, q3, i64_w, i32_w]; rfl); (refine pu_ 12 31 25 8191 ?_ rfl rfl (any_of HT_.out (by kernel_rfl)) (fun _ _ _ h => h) (by rfl) ?_ ?_ ?_ ?_; rotate_left; intro w'; go_simp; with_reducible rfl; rotate_left; simp only [Act.put, List.setIfInBounds_toArray, List.set_cons_zero, List.set_cons_succ, q1, q2, q3, i64_w, i32_w]; rfl)
       (refine pu_ 13 32 25 16383 ?_ rfl rfl (any_of HT_.out (by kernel_rfl)) (fun _ _ _ h => h) (by rfl) ?_ ?_ ?_ ?_; rotate_left; intro w'; go_simp; with_reducible rfl; rotate_left; simp only [Act.put, List.setIfInBounds_toArray, List.set_cons_zero, List.set_cons_succ, q1, q2, q3, i64_w, i32_w]; rfl); (refine ta_ 14 33 25 32767 ?_ rfl rfl (take_ofW HT_.out HW_.out (by kernel_rfl)) (fun _ _ _ h => h) (by rfl) ?_ hHeld ?_ ?_ ?_; rotate_left; rintro w' ⟨s0, s1, s2, s3, s4, s5, s6, s7, s8⟩; go_simp; with_reducible rfl; rotate_left; simp only [Act.put, List.setIfInBounds_toArray, List.set_cons_zero, List.set_cons_succ, q1, q2, q3, i64_w, i32_w]; rfl); (refine pu_ 15 34 25 65535 ?_ rfl rfl (any_of HT_.out (by kernel_rfl)) (fun _ _ _ h => h) (by rfl) ?_ ?_ ?_ ?_; rotate_left; intro w'; go_simp; with_reducible rfl; rotate_left; simp only [Act.put, List.setIfInBounds_toArray, List.set_cons_zero, List.set_cons_succ, q1, q2, q3, i64_w, i32_w]; rfl); (refine ta_ 16 35 25 131071 ?_ rfl rfl (take_ofW HT_.out HW_.out (by kernel_rfl)) (fun _ _ _ h => h) (by rfl) ?_ hHeld ?_ ?_ ?_; rotate_left; rintro w' ⟨s0, s1, s2, s3, s4, s5, s6, s7, s8⟩; go_simp; with_reducible rfl; rotate_left; simp only [Act.put, List.setIfInBounds_toArray, List.set_cons_zero, List.set_cons_succ, q1, q2, q3, i64_w, i32_w]; rfl)
       (refine pu_ 17 36 25 262143 ?_ rfl rfl (any_of HT_.out (by kernel_rfl)) (fun _ _ _ h => h) (by rfl) ?_ ?_ ?_ ?_; rotate_left; intro w'; go_simp; with_reducible rfl; rotate_left; simp only [Act.put, List.setIfInBounds_toArray, List.set_cons_zero, List.set_cons_succ, q1, q2, q3, i64_w, i32_w]; rfl); (refine pu_ 18 37 25 524287 ?_ rfl rfl (any_of HT_.out (by kernel_rfl)) (fun _ _ _ h => h) (by rfl) ?_ ?_ ?_ ?_; rotate_left; intro w'; go_simp; with_reducible rfl; rotate_left; simp only [Act.put, List.setIfInBounds_toArray, List.set_cons_zero, List.set_cons_succ, q1, q2, q3, i64_w, i32_w]; rfl); (refine pu_ 19 38 25 1048575 ?_ rfl rfl (any_of HT_.out (by kernel_rfl)) (fun _ _ _ h => h) (by rfl) ?_ ?_ ?_ ?_; rotate_left; intro w'; go_simp; with_reducible rfl; rotate_left; simp only [Act.put, List.setIfInBounds_toArray, List.set_cons_zero, List.set_cons_succ, q1, q2, q3, i64_w, i32_w]; rfl); (refine pu_ 20 39 25 2097151 ?_ rfl rfl (any_of HT_.out (by kernel_rfl)) (fun _ _ _ h => h) (by rfl) ?_ ?_ ?_ ?_; rotate_left; intro w'; go_simp; with_reducible rfl; rotate_left; simp only [Act.put, List.setIfInBounds_toArray, List.set_cons_zero, List.set_cons_succ, q1, q2, q3, i64_w, i32_w]; rfl)
       (refine ta_ 21 40 25 4194303 ?_ rfl rfl (take_ofW HT_.out HW_.out (by kernel_rfl)) (fun _ _ _ h => h) (by rfl) ?_ hHeld ?_ ?_ ?_; rotate_left; rintro w' ⟨s0, s1, s2, s3, s4, s5, s6, s7, s8⟩; go_simp; with_reducible rfl; rotate_left; simp only [Act.put, List.setIfInBounds_toArray, List.set_cons_zero, List.set_cons_succ, q1, q2, q3, i64_w, i32_w]; rfl); (refine pu_ 22 41 25 8388607 ?_ rfl rfl (any_of HT_.out (by kernel_rfl)) (fun _ _ _ h => h) (by rfl) ?_ ?_ ?_ ?_; rotate_left; intro w'; go_simp; with_reducible rfl; rotate_left; simp only [Act.put, List.setIfInBounds_toArray, List.set_cons_zero, List.set_cons_succ, q1, q2, q3, i64_w, i32_w]; rfl); (refine pu_ 23 42 25 16777215 ?_ rfl rfl (any_of HT_.out (by kernel_rfl)) (fun _ _ _ h => h) (by rfl) ?_ ?_ ?_ ?_; rotate_left; intro w'; go_simp; with_reducible rfl; rotate_left; simp only [Act.put, List.setIfInBounds_toArray, List.set_cons_zero, List.set_cons_succ, q1, q2, q3, i64_w, i32_w]; rfl); (refine pu_ 24 43 25 33554431 ?_ rfl rfl (any_of HT_.out (by kernel_rfl)) (fun _ _ _ h => h) (by rfl) ?_ ?_ ?_ ?_; rotate_left; intro w'; go_simp; with_reducible rfl; rotate_left; simp only [Act.put, List.setIfInBounds_toArray, List.set_cons_zero, List.set_cons_succ, q1, q2, q3, i64_w, i32_w]; rfl); refine done_ (done_of HT_.out (by kernel_rfl)) ?_; (try simp only [Act.put, List.setIfInBounds_toArray, List.set_cons_zero, List.set_cons_succ])
       have u3_0 : w3.cell? ⟨wr.heap.size, 0, none⟩ = some (x0) := (blk_cell HN3.out 0).trans rfl; have u3_1 : w3.cell? ⟨wr.heap.size, 1, none⟩ = some (x1) := (blk_cell HN3.out 1).trans rfl; have u3_2 : w3.cell? ⟨wr.heap.size, 2, none⟩ = some (x2) := (blk_cell HN3.out 2).trans rfl; have u3_3 : w3.cell? ⟨wr.heap.size, 3, none⟩ = some (x3) := (blk_cell HN3.out 3).trans rfl; have u3_4 : w3.cell? ⟨wr.heap.size, 4, none⟩ = some (x4) := (blk_cell HN3.out 4).trans rfl; have u3_5 : w3.cell? ⟨wr.heap.size, 5, none⟩ = some (x5) := (blk_cell HN3.out 5).trans rfl; go_wp2_with (first | (go_at_call 31; (with_reducible refine (trace_of.calls x0 x1 x2 x3 x4 x5 x0 x1 x2 x3 _ rfl).mono ?_); rintro e w4 ⟨rfl, hb4⟩; have HK4 := As (blk_below HK3.out hb4); have HS4 := As (HS3.out.same (hb4.block _ HS3.out.lt)); have HB4 := As (HB3.out.trans (hb4.mono HB3.out.size)); clear hb4) | (at_mapUpdate; refine trace_valid.put rfl _ _ _ rfl rfl rfl rfl HS4.out Pt2.out ?_; intro w9 HS9 HG9)); have hb0 := trace_valid.below HB4.out HG9; have hs0 := trace_valid.keys_snoc l0_0 i x0 x1 x2 x3 E0.out E1.out E2.out E3.out (by have := HI.out; omega); have hblk := As (BLK HK4.out HG9); have HB9 := As hb0; have HK9 := As hs0; clear hb0 hs0 HG9 BLK; go_roundg k1
       case measure => omega
       case rel =>
        refine ⟨i + 1, trace_valid.next i, ⟨by have := HI.out; omega⟩, hblk, ⟨?_⟩, HB9, ⟨?_⟩⟩
        ·rw [HK9.out]
         exact HS9
        ·intro j hj
         (rcases Nat.lt_or_ge j i with h | h)
         ·exact HO.out j h
         ·obtain rfl : j = i := by omega
          exact hk.out
set_option maxHeartbeats 8000000 in
set_option maxRecDepth 100000 in
theorem trace_valid.calls (A0_0 : Option Addr) (c0_0 : Nat) (l0_0 : List (S35)) (r : Bool) (w : World) (hr0_0 : Kd.C k35 w A0_0 l0_0.length l0_0) (hc0_0 : l0_0.length ≤ c0_0) (h : trace_valid.f l0_0 = some r) :
 Calls Try.prog 28 #[.agg #[.slice A0_0 l0_0.length c0_0]] w fun e w' => e = .returned (.bool r) ∧ Below w.heap.size w w' := by
 have H : trace_valid.okB l0_0 = r := Option.some.inj h; clear h; unfold trace_valid.okB at H; have HB := As (Below.refl w.heap.size w)
 by_cases c1 : 256 < (l0_0.length : Int)
 ·rw [if_pos c1] at H
  subst H; have b5 : decide (256 < (l0_0.length : Int)) = true := decide_eq_true c1; clear c1 hr0_0 hc0_0; go_enter Try.func28, Try.ntmps28; go_wp2; go_ret; exact ⟨rfl, below_alloc HB.out _⟩
 rw [if_neg c1] at H; have b5 : decide (256 < (l0_0.length : Int)) = false := decide_eq_false c1; clear c1; exact trace_valid.loop A0_0 c0_0 l0_0 r w hr0_0 hc0_0 b5 H
def trace_Same.f (k : Nat) (l0_0 : List (S35)) (l1_0 : List (S35)) : Option (Bool) := (api_Expectation_34.f k l0_0 l1_0).bind fun a3_ => (some a3_)
set_option maxHeartbeats 8000000 in
set_option maxRecDepth 100000 in
theorem trace_Same.calls (k : Nat) (A0_0 : Option Addr) (c0_0 : Nat) (l0_0 : List (S35)) (A1_0 : Option Addr) (c1_0 : Nat) (l1_0 : List (S35)) (r : Bool) (w : World) (hr0_0 : Kd.C k35 w A0_0 l0_0.length l0_0) (hc0_0 : l0_0.length ≤ c0_0) (hr1_0 : Kd.C k35 w A1_0 l1_0.length l1_0) (hc1_0 : l1_0.length ≤ c1_0) (h : trace_Same.f k l0_0 l1_0 = some r) :
 Calls Try.prog 13 #[.agg #[.slice A0_0 l0_0.length c0_0], .agg #[.slice A1_0 l1_0.length c1_0]] w fun e w' => e = .returned (.bool r) ∧ Below w.heap.size w w' := by
 have hu29 := Try.underlying29; have HR0_0 := As hr0_0; have HC0_0 := As hc0_0; clear hr0_0 hc0_0; have HR1_0 := As hr1_0; have HC1_0 := As hc1_0; clear hr1_0 hc1_0; have HB := As (Below.refl w.heap.size w); have H : ((api_Expectation_34.f k l0_0 l1_0).bind fun a3_ => (some a3_)) = some r := h; clear h; obtain ⟨a3_, A3, H⟩ := bnd H; (try dsimp only at H); obtain rfl := Option.some.inj H; go_enter Try.func13, Try.ntmps13
 go_wp2_with (first | ((with_reducible refine gate_dst (N := 2) rfl ?_); refine bxE 2 #[.slice A0_0 l0_0.length c0_0] 29 ?_; intro a2_ hg w4 hbox hb; have a0_ := As (hbox); have a7_ := As (by rw [hg]; exact (below_size hBq) : w.heap.size ≤ a2_); replace HB := sBq hb; have b3_ := a7_; clear hb hbox hg) | ((with_reducible refine gate_dst (N := 3) rfl ?_); refine bxE 3 #[.slice A1_0 l1_0.length c1_0] 29 ?_; intro a4_ hg w5 hbox hb; have a6_ := As (hbox); have a8_ := As (by rw [hg]; exact (below_size hBq) : w.heap.size ≤ a4_); replace HB := sBq hb; have b4_ := a8_; have a1_ := As (by rw [hg]; exact Nat.ne_of_lt (blk_lt (g := a2_) (plq a0_.out)) : a2_ ≠ a4_); replace a0_ := As (blk_below (plq a0_.out) hb); have a5_ := As a1_.out.symm; clear hb hbox hg; have b5_ := a1_.out; have b6_ := a5_.out; have a9_ : w5.cell? ⟨a2_, 0, none⟩ = some (.slice A0_0 l0_0.length c0_0) := (blk_cell a0_.out 0).trans rfl; have b0_ := blk_frozen a0_.out 0; have b1_ : w5.cell? ⟨a4_, 0, none⟩ = some (.slice A1_0 l1_0.length c1_0) := (blk_cell a6_.out 0).trans rfl; have b2_ := blk_frozen a6_.out 0) | ((with_reducible refine gate_callee (f := 34) rfl ?_); refine gL (some 9) Try.func34 #[.slice A0_0 l0_0.length c0_0, .slice A1_0 l1_0.length c1_0] ?_; (with_reducible refine (api_Expectation_34.calls k _ _ l0_0 _ _ l1_0 a3_ _ ?side1 ?side2 ?side3 ?side4 A3.out).mono ?_); (case side1 => exact cq ⟨Kd.C_below HR0_0.out HB.out⟩); (case side2 => exact HC0_0.out); (case side3 => exact cq ⟨Kd.C_below HR1_0.out HB.out⟩); (case side4 => exact HC1_0.out); rintro e w' ⟨rfl, ⟨nd, rfl⟩⟩; refine ⟨_, rfl, ?_⟩))
 go_ret; exact ⟨erq, hBq⟩
def api_Expectation_33.f (l0 : List (S35)) : Option (List (S35)) := if l0.length < 2932031007402 then some l0 else none
set_option maxHeartbeats 8000000 in
set_option maxRecDepth 100000 in
theorem api_Expectation_33.calls (A0 : Option Addr) (c0 : Nat) (l0 : List (S35)) (r : List (S35)) (w : World) (hr0 : Kd.C k35 w A0 l0.length l0) (hc0 : l0.length ≤ c0) (h : api_Expectation_33.f l0 = some r) :
 Calls Try.prog 33 #[.slice A0 l0.length c0] w fun e w' => ∃ v0_ : Value, e = .returned (v0_) ∧ Kd.R k35 35 w' w.heap.size (fun _ => True) v0_ r ∧ Below w.heap.size w w' := by
 have H := h; clear h; unfold api_Expectation_33.f at H
 by_cases hlim : l0.length < 2932031007402
 ·rw [if_pos hlim] at H
  obtain rfl := Option.some.inj H; have HB := As (Below.refl w.heap.size w); have HL := As hlim; have HR := As hr0; have heq := Lib.run_eql_slice_nil (P := Try.prog) (t := 27) (e := 35) (a := A0) (n := l0.length) (c := c0) (n' := 0) (c' := 0); (have heq' := fun W => heq W Try.underlying27); clear heq hlim hr0 hc0
  cases A0 with
  | none =>
   have hz : l0.length = 0 := by
    (rcases Nat.eq_zero_or_pos l0.length with h0 | h0)
    ·exact h0
    ·obtain ⟨ad, h, _⟩ := HR.out.2.2 h0
     cases h
   have hl : Aside0 (l0 = []) := ⟨List.eq_nil_of_length_eq_zero hz⟩; clear hz; have hn : (none : Option Addr).isNone = true := rfl; rw [hn] at heq'; go_enter Try.func33, Try.ntmps33; go_wp2; go_ret; rw [hl.out]
   exact ⟨_, rfl, Kd.R_nil _ _ _ _ _, HB.out⟩
  | some ad =>
   have hn : (some ad : Option Addr).isNone = false := rfl; rw [hn] at heq'; go_enter Try.func33, Try.ntmps33; have HE := As (Kd.R_empty k35 35 w); have HA := As (below_alloc (Below.refl w.heap.size w) (.cells #[] 35)); go_wp2_with (at_builtin; refine Kd.R_append_rows k35 (w0 := w) w.heap.size rfl (.tmp 5) (.tmp 6) 27 35 (.agg #[(.int .i64 0), (.int .i64 0), (.int .i64 0), (.int .i64 0), (.int .i64 0), (.int .i64 0)]) 48 rfl Try.underlying27 info35 rfl (by decide) (by omega) (.slice (some ⟨w.heap.size, 0, none⟩) 0 0) [] l0 (some ad) l0.length c0 (fun _ => True) (fun _ => False) rfl rfl HE.out (Kd.C_below HR.out HA.out) (fun _ _ h => h) (fun _ h => h.elim) (fun _ _ => trivial) HA.out HA.out.size (by have := HL.out; simp; omega) ?_; intro v2 w2 h2a h2b h2c h2d; clear HE HA); go_ret; exact ⟨_, rfl, h2a, h2b⟩
 ·rw [if_neg hlim] at H
  exact absurd H (by simp)
def make_Deck_Next.f (s0_0 : List Int) (s0_1 : Int) (a1 : Int) : Option (Int × Int) := if a1 < 1 then (some (0, s0_1)) else (if s0_1 ≥ (s0_0.length : Int) then (some (0, s0_1)) else (if 0 ≤ s0_1 then (if s0_1 < (s0_0.length : Int) then ((make_Mod.f (rd s0_0 s0_1) a1).bind fun a0_ => (some (a0_, wrap64 (s0_1 + 1)))) else (none)) else (none)))
theorem make_Deck_Next.iq0F {w0 W : World} {g h j : Nat} {f0 : List Int} {f1 : Int} (h0 : IsS51 w0 W g f0 f1) (hne : Aside0 (g ≠ h)) (u : Value) : IsS51 w0 (W.setCell ⟨h, j, none⟩ u) g f0 f1 := IsS51.far h0 hne.out u
theorem make_Deck_Next.iq0 {w0 W : World} {g : Nat} {f0 : List Int} {f1 : Int} (h : IsS51 w0 W g f0 f1 := by repeat (first | (with_reducible first | exact HI0.out | apply IsS51.alloc | apply IsS51.drewN | apply IsS51.drew | apply IsS51.set_1 | refine make_Deck_Next.iq0F ?_ ‹_› _) | exact HI0.out)) : IsS51 w0 W g f0 f1 := h
theorem make_Deck_Next.bq0 {w W : World} (h : Below w.heap.size w W := by repeat (first | (with_reducible first | exact HB.out | apply uA | apply uN | apply uD | refine uS ?_ (IsS51.ge HI0.out) | refine uS2 ?_ ‹_›) | exact HB.out)) : Below w.heap.size w W := h
set_option maxHeartbeats 8000000 in
set_option maxRecDepth 100000 in
theorem make_Deck_Next.calls (g : Nat) (s0_0 : List Int) (s0_1 : Int) (a1 : Int) (r1 : Int) (r2 : Int) (w0 w : World) (hI : IsS51 w0 w g s0_0 s0_1) (hB : Below w0.heap.size w0 w) (h : make_Deck_Next.f s0_0 s0_1 a1 = some (r1, r2)) :
 Calls Try.prog 11 #[.pointer (some ⟨g, 0, none⟩), .int .i64 a1] w fun e w' => e = .returned (.int .i64 r1) ∧ IsS51 w0 w' g s0_0 r2 ∧ Below w0.heap.size w0 w' ∧ KeepBut w w' g none := by
 have HI0 := As hI; have HK := As (KeepBut.refl w g none); have HL := As hB.size; clear hI; have HW0 := As hB.size; have HB := As hB; clear hB; have H : (if a1 < 1 then (some (0, s0_1)) else (if s0_1 ≥ (s0_0.length : Int) then (some (0, s0_1)) else (if 0 ≤ s0_1 then (if s0_1 < (s0_0.length : Int) then ((make_Mod.f (rd s0_0 s0_1) a1).bind fun a0_ => (some (a0_, wrap64 (s0_1 + 1)))) else (none)) else (none)))) = some (r1, r2) := h; clear h
 by_cases c3 : a1 < 1
 ·rw [if_pos c3] at H
  have a4_ : decide (a1 < 1) = true := decide_eq_true c3; clear c3; simp only [Option.some.injEq, Prod.mk.injEq] at H; obtain ⟨rfl, rfl⟩ := H; go_enter Try.func11, Try.ntmps11; go_wp2; (repeat (go_quiet (fail); try go_wp2)); go_ret; exact ⟨erq, make_Deck_Next.iq0, make_Deck_Next.bq0, hKq⟩
 ·rw [if_neg c3] at H
  have a4_ : decide (a1 < 1) = false := decide_eq_false c3; clear c3
  by_cases c4 : s0_1 ≥ (s0_0.length : Int)
  ·rw [if_pos c4] at H
   have a5_ : decide ((s0_0.length : Int) ≤ s0_1) = true := decide_eq_true c4; clear c4; simp only [Option.some.injEq, Prod.mk.injEq] at H; obtain ⟨rfl, rfl⟩ := H; obtain ⟨ASz5_0, cSz5_0, HGz5, hgz5, HSz5_0⟩ := HI0.out; have a7_ := cellS51_0 HGz5; have a8_ := cellS51_1 HGz5; have a9_ := blk_frozen HGz5 1; clear HGz5 hgz5; go_enter Try.func11, Try.ntmps11; go_wp2; (repeat (go_quiet (fail); try go_wp2)); go_ret; exact ⟨erq, make_Deck_Next.iq0, make_Deck_Next.bq0, hKq⟩
  ·rw [if_neg c4] at H
   have a5_ : decide ((s0_0.length : Int) ≤ s0_1) = false := decide_eq_false c4; clear c4
   by_cases c6 : 0 ≤ s0_1
   ·rw [if_pos c6] at H
    have b4_ : decide (0 ≤ s0_1) = true := decide_eq_true c6; clear c6
    by_cases c7 : s0_1 < (s0_0.length : Int)
    ·rw [if_pos c7] at H
     have b5_ : decide (s0_1 < (s0_0.length : Int)) = true := decide_eq_true c7; clear c7; obtain ⟨a0_, A8, H⟩ := bnd H; (try dsimp only at H); simp only [Option.some.injEq, Prod.mk.injEq] at H; obtain ⟨rfl, rfl⟩ := H; obtain ⟨ASz9_0, cSz9_0, HGz9, hgz9, HSz9_0⟩ := HI0.out; have b0_ := cellS51_0 HGz9; have b1_ := cellS51_1 HGz9; have b2_ := blk_frozen HGz9 1; clear HGz9 hgz9; have a2_ : 0 ≤ (s0_1 : Int) := dq; have a3_ : s0_1 < (s0_0.length : Int) := dq; obtain ⟨b3_, a6_, a1_⟩ := Kd.at_int HSz9_0 s0_1 a2_ a3_; cases a6_; replace a1_ := pw_cell_below HB.out a1_; replace a2_ := eq_true a2_; replace a3_ := eq_true a3_; go_enter Try.func11, Try.ntmps11; go_wp2_with (first | (go_at_call 20; (with_reducible refine (make_Mod.calls (rd s0_0 s0_1) a1 a0_ _ A8.out).mono ?_); rintro e w' ⟨rfl, ⟨nd, rfl⟩⟩; (try first | exact ⟨rfl, _, World.drewN_drewN _ _ _⟩ | exact ⟨rfl, _, Eq.trans (World.drewN_drewN _ _ _) (congrArg (World.drewN _) (Nat.add_assoc _ _ _))⟩)))
     (repeat (go_quiet (first | (go_at_call 20; (with_reducible refine (make_Mod.calls (rd s0_0 s0_1) a1 a0_ _ A8.out).mono ?_); rintro e w' ⟨rfl, ⟨nd, rfl⟩⟩; (try first | exact ⟨rfl, _, World.drewN_drewN _ _ _⟩ | exact ⟨rfl, _, Eq.trans (World.drewN_drewN _ _ _) (congrArg (World.drewN _) (Nat.add_assoc _ _ _))⟩))); try go_wp2_with (first | (go_at_call 20; (with_reducible refine (make_Mod.calls (rd s0_0 s0_1) a1 a0_ _ A8.out).mono ?_); rintro e w' ⟨rfl, ⟨nd, rfl⟩⟩; (try first | exact ⟨rfl, _, World.drewN_drewN _ _ _⟩ | exact ⟨rfl, _, Eq.trans (World.drewN_drewN _ _ _) (congrArg (World.drewN _) (Nat.add_assoc _ _ _))⟩))))); go_ret; exact ⟨erq, make_Deck_Next.iq0, make_Deck_Next.bq0, hKq⟩
    ·rw [if_neg c7] at H
     exact absurd H (by simp)
   ·rw [if_neg c6] at H
    exact absurd H (by simp)
theorem trace_Missing.by_some (x0 x1 x2 x3 x4 x5 m0 : Int) : ∃ r, trace_by.f x0 x1 x2 x3 x4 x5 m0 = some r := by
 unfold trace_by.f
 split <;> exact ⟨_, rfl⟩
def trace_Missing.out (m0 : Int) (x : S35) : Bool := decide (m0 ≤ x.f4) || (trace_by.f x.f0 x.f1 x.f2 x.f3 x.f4 x.f5 m0).getD false
set_option maxHeartbeats 4000000 in
theorem trace_Missing.closure (m0 : Int) (B0 : Nat) (x : S35) (W : World) (h0 : W.cell? ⟨B0, 0, none⟩ = some (.int .i64 m0)) :
 Calls Try.prog 36 (#[.agg #[.int .i64 x.f0, .int .i64 x.f1, .int .i64 x.f2, .int .i64 x.f3, .int .i64 x.f4, .int .i64 x.f5]] ++ #[.pointer (some ⟨B0, 0, none⟩)]) W fun e w' => e = .returned (.bool (trace_Missing.out m0 x)) ∧ Below W.heap.size W w' := by
 have hu_e := Try.underlying35; obtain ⟨r, hr⟩ := trace_Missing.by_some x.f0 x.f1 x.f2 x.f3 x.f4 x.f5 m0; (have hpr : trace_Missing.out m0 x = (decide (m0 ≤ x.f4) || r) := by unfold trace_Missing.out; rw [hr]; rfl); rw [hpr]; clear hpr; have HY := As hr; have HB := As (Below.refl W.heap.size W); (have hA0 : ∀ cs, (W.alloc (.cells cs 35)).cell? ⟨B0, 0, none⟩ = some (.int .i64 m0) := fun cs => (Below.cell (below_alloc (Below.refl W.heap.size W) _) (World.block_lt_of_cell? W _ h0)).trans h0); clear hr
 by_cases c : m0 ≤ x.f4
 ·have c0 : decide (m0 ≤ x.f4) = true := decide_eq_true c
  rw [c0, Bool.true_or]; clear c; go_enter Try.func36, Try.ntmps36; go_wp2; go_ret; exact ⟨rfl, below_alloc HB.out _⟩
 ·have c0 : decide (m0 ≤ x.f4) = false := decide_eq_false c
  rw [c0, Bool.false_or]; clear c; go_enter Try.func36, Try.ntmps36; go_wp2_with (go_at_call 37; (with_reducible refine (trace_by.calls x.f0 x.f1 x.f2 x.f3 x.f4 x.f5 m0 r _ HY.out).mono ?_); rintro e w2 ⟨rfl, hb2⟩); go_ret; exact ⟨rfl, below_step (below_alloc HB.out _) hb2⟩
def trace_Missing.f (l0_0 : List S35) (a1 : Int) : Option (List S35 × Int) := (trace_valid.f l0_0).bind fun t0 => if t0 = true then (api_Expectation_33.f l0_0).bind fun t1 => some (t1.filter fun x => !(trace_Missing.out a1 x), 0) else some ([], 2)
set_option maxHeartbeats 8000000 in
set_option maxRecDepth 100000 in
theorem trace_Missing.calls (A0_0 : Option Addr) (c0_0 : Nat) (l0_0 : List S35) (a1 : Int) (r1 : List S35) (r2 : Int) (w : World) (hr0_0 : Kd.C k35 w A0_0 l0_0.length l0_0) (hc0_0 : l0_0.length ≤ c0_0) (h : trace_Missing.f l0_0 a1 = some (r1, r2)) :
 Calls Try.prog 15 #[.agg #[.slice A0_0 l0_0.length c0_0], .int .i64 a1] w fun e w' => ∃ v0_ : Value, e = .returned (.tuple #[v0_, .int .i64 r2]) ∧ Kd.R k35 35 w' w.heap.size (fun _ => True) v0_ r1 ∧ Below w.heap.size w w' := by
 unfold trace_Missing.f at h; obtain ⟨t0, e0, h⟩ := Option.bind_eq_some_iff.mp h; have hu := Try.underlying29; obtain ⟨W0, hW0⟩ : ∃ W0, W0 = (w.alloc (.cells #[.slice A0_0 l0_0.length c0_0] 29)).alloc (.cells #[a1] 3) := ⟨_, rfl⟩; (have hB0 : Below w.heap.size w W0 := by rw [hW0]; exact below_alloc (below_alloc (Below.refl _ _) _) _); (have hsz : W0.heap.size = w.heap.size + 1 + 1 := by rw [hW0]; simp)
 have HM0 : Aside0 (W0.heap[w.heap.size]? = some (.cells #[.slice A0_0 l0_0.length c0_0] 29 (0, 0))) := ⟨by
  rw [hW0]; refine (Below.heap_alloc _ _ _ (by simp; try omega)).trans ?_; exact heap_alloc_new w _⟩
 have HM1 : Aside0 (W0.heap[w.heap.size + 1]? = some (.cells #[a1] 3 (0, 0))) := ⟨by
  rw [hW0]; have := heap_alloc_new (w.alloc (.cells #[.slice A0_0 l0_0.length c0_0] 29)) (.cells #[a1] 3)
  rwa [World.size_alloc] at this⟩
 have hr1 : Kd.C k35 W0 A0_0 l0_0.length l0_0 := Kd.C_below hr0_0 hB0; have HC := As hr1; have HCC := As hc0_0; have HB0 := As hB0; have E0 := As e0; have HS := As hsz; have HW0 := As hW0; clear hr1 hr0_0 hc0_0 hB0 e0 hsz; have HV : Aside0 (Calls Try.prog 28 #[.agg #[.slice A0_0 l0_0.length c0_0]] W0 fun e w' => e = .returned (.bool t0) ∧ Below W0.heap.size W0 w') := ⟨trace_valid.calls A0_0 c0_0 l0_0 t0 W0 HC.out HCC.out E0.out⟩
 cases t0 with
 | false =>
  (have h1 : some (([] : List S35), (2 : Int)) = some (r1, r2) := by rw [if_neg (by decide)] at h; exact h); clear h; simp only [Option.some.injEq, Prod.mk.injEq] at h1; obtain ⟨rfl, rfl⟩ := h1; clear hW0; go_enter Try.func15, Try.ntmps15; go_wp2_with (go_at_call 28; rw [← HW0.out]; (with_reducible refine HV.out.mono ?_); rintro e w1 ⟨rfl, hb1⟩); go_ret2
  exact ⟨_, rfl, Kd.R_nil _ _ _ _ _, HB0.out.trans (hb1.mono HB0.out.size)⟩
 | true =>
  (have h1 : ((api_Expectation_33.f l0_0).bind fun t1 => some (t1.filter fun x => !(trace_Missing.out a1 x), (0 : Int))) = some (r1, r2) := by rw [if_pos rfl] at h; exact h); clear h; obtain ⟨l1, e1, h⟩ := Option.bind_eq_some_iff.mp h1; clear h1; simp only [Option.some.injEq, Prod.mk.injEq] at h; obtain ⟨hrr, rfl⟩ := h; have E1 := As e1; have HRR := As hrr; clear e1 hrr; have eg : Aside0 (∀ args w, (callFunc 36 args).run Try.prog w = .ok (.enter 36 args) w) := ⟨enters_of Try.func36 (by kernel_rfl) rfl⟩
  have hD : Aside0 (∀ (v : Value) (W1 W2 : World), Below W0.heap.size W0 W1 → Kd.R k35 35 W2 W1.heap.size (fun _ => True) v l1 → Below W1.heap.size W1 W2 → Calls Try.prog 35 #[v, .func (.func 36) #[] #[.pointer (some ⟨w.heap.size + 1, 0, none⟩)]] W2 fun e w' => ∃ v0_ : Value, e = .returned v0_ ∧ Kd.R k35 35 w' W1.heap.size (fun _ => True) v0_ r1 ∧ Below W1.heap.size W1 w') := ⟨by
   intro v W1 W2 hb1 hv hb2; rw [← HRR.out]; refine DeleteFunc.calls v l1 36 _ (trace_Missing.out a1) W1 W2 _ hv hb2 eg.out ?_; intro g hg W x hgr; have z := HS.out; have z1 := hb1.size; have z2 := hb2.size; have b1 : W.heap[w.heap.size + 1]? = some (.cells #[a1] 3 (0, 0)) := (hgr.block _ (by omega) (by intro e; injection e with e; omega)).trans ((hb2.block _ (by omega)).trans ((hb1.block _ (by omega)).trans HM1.out)); exact trace_Missing.closure a1 (w.heap.size + 1) x W ((blk_cell b1 0).trans rfl)⟩
  clear hW0; go_enter Try.func15, Try.ntmps15; go_wp2_with (first | (go_at_call 28; rw [← HW0.out]; (with_reducible refine HV.out.mono ?_); rintro e w1 ⟨rfl, hb1⟩; have hc1 : w1.cell? ⟨w.heap.size, 0, none⟩ = some (.slice A0_0 l0_0.length c0_0) := (blk_cell (blk_below HM0.out hb1) 0).trans rfl; have HB1 := As hb1; clear hb1) | (go_at_call 33; (with_reducible refine (api_Expectation_33.calls A0_0 c0_0 l0_0 l1 _ (Kd.C_below HC.out HB1.out) HCC.out E1.out).mono ?_); rintro e w2 ⟨v1, rfl, hv1, hb2⟩; have HV1 := As hv1; have HB2 := As hb2; clear hv1 hb2) | (go_at_call 35; (with_reducible refine (hD.out _ _ _ HB1.out HV1.out HB2.out).mono ?_); rintro e w3 ⟨v2, rfl, hv2, hb3⟩)); go_ret2; exact ⟨_, rfl, Kd.R_lower hv2 (Nat.le_trans HB0.out.size HB1.out.size), HB0.out.trans ((HB1.out.trans (hb3.mono HB1.out.size)).mono HB0.out.size)⟩
def trace_Came.j0 : Nat → Int → Int → Int → Int → Int → Bool → List (S35) → Option ((List (S35)) × Int)
 | 0, _, _, _, _, _, _, _ => none
 | k + 1, x1, x2, x3, x4, x5, x25, x144000 => if x25 = true then (some (([] : List (S35)), 1)) else ((trace_find.f x144000 x1 x2 x3 x4).bind fun a0_ => (if a0_ < 0 then (some (([] : List (S35)), 6)) else (if 0 ≤ a0_ then (if a0_ < (x144000.length : Int) then (if ((rd_T35 x144000 a0_).f5) > 0 then (some (([] : List (S35)), 7)) else ((api_Expectation_33.f x144000).bind fun a3_ => (if a0_ < (a3_.length : Int) then (some ((a3_.set (a0_ : Int).toNat (⟨(rd_T35 a3_ a0_).f0, (rd_T35 a3_ a0_).f1, (rd_T35 a3_ a0_).f2, (rd_T35 a3_ a0_).f3, (rd_T35 a3_ a0_).f4, wrap64 (x5 + 1)⟩ : S35)), 0)) else (none)))) else (none)) else (none))))
def trace_Came.f (k : Nat) (l0_0 : List (S35)) (a1 : Int) (a2 : Int) (a3 : Int) (a4 : Int) (a5 : Int) : Option ((List (S35)) × Int) := (trace_valid.f l0_0).bind fun b4_ => (if b4_ = true then (if a5 < 0 then (trace_Came.j0 k a1 a2 a3 a4 a5 true l0_0) else (trace_Came.j0 k a1 a2 a3 a4 a5 (decide (a5 > 1048576)) l0_0)) else (some (([] : List (S35)), 2)))
set_option maxHeartbeats 8000000 in
set_option maxRecDepth 100000 in
theorem trace_Came.calls (k : Nat) (A0_0 : Option Addr) (c0_0 : Nat) (l0_0 : List (S35)) (a1 : Int) (a2 : Int) (a3 : Int) (a4 : Int) (a5 : Int) (r1 : List (S35)) (r2 : Int) (w : World) (hr0_0 : Kd.C k35 w A0_0 l0_0.length l0_0) (hc0_0 : l0_0.length ≤ c0_0) (h : trace_Came.f k l0_0 a1 a2 a3 a4 a5 = some (r1, r2)) :
 Calls Try.prog 12 #[.agg #[.slice A0_0 l0_0.length c0_0], .int .i64 a1, .int .i64 a2, .int .i64 a3, .int .i64 a4, .int .i64 a5] w fun e w' => ∃ v0_ : Value, e = .returned (.tuple #[.agg #[v0_], .int .i64 r2]) ∧ Kd.R k35 35 w' w.heap.size (fun _ => True) v0_ r1 ∧ Below w.heap.size w w' := by
 have hu29 := Try.underlying29; have hu56 := Try.underlying56; have HR0_0 := As hr0_0; have HC0_0 := As hc0_0; clear hr0_0 hc0_0; have HB := As (Below.refl w.heap.size w); have H : ((trace_valid.f l0_0).bind fun b4_ => (if b4_ = true then (if a5 < 0 then (trace_Came.j0 k a1 a2 a3 a4 a5 true l0_0) else (trace_Came.j0 k a1 a2 a3 a4 a5 (decide (a5 > 1048576)) l0_0)) else (some (([] : List (S35)), 2)))) = some (r1, r2) := h; clear h; obtain ⟨b4_, A7, H⟩ := bnd H; (try dsimp only at H)
 by_cases c8 : b4_ = true
 ·subst c8
  rw [if_pos rfl] at H; have HC9 := As H; clear H; go_enter Try.func12, Try.ntmps12
  go_upto_region 3 with (first | ((with_reducible refine gate_dst (N := 6) rfl ?_); refine bxE 6 #[.slice A0_0 l0_0.length c0_0] 29 ?_; intro a6_ hg w10 hbox hb; have a1_ := As (hbox); have b5_ := As (by rw [hg]; exact (below_size hBq) : w.heap.size ≤ a6_); replace HB := sBq hb; have c7_ := b5_; clear hb hbox hg) | ((with_reducible refine gate_dst (N := 12) rfl ?_); refine bxE 12 #[.slice none 0 0] 29 ?_; intro a4_ hg w11 hbox hb; have a2_ := As (hbox); have b6_ := As (by rw [hg]; exact (below_size hBq) : w.heap.size ≤ a4_); replace HB := sBq hb; have c8_ := b6_; have a5_ := As (by rw [hg]; exact Nat.ne_of_lt (blk_lt (g := a6_) (plq a1_.out)) : a6_ ≠ a4_); replace a1_ := As (blk_below (plq a1_.out) hb); have a8_ := As a5_.out.symm; clear hb hbox hg; have g1_ := a5_.out; have g2_ := a8_.out; have c0_ : w11.cell? ⟨a6_, 0, none⟩ = some (.slice A0_0 l0_0.length c0_0) := (blk_cell a1_.out 0).trans rfl; have c1_ := blk_frozen a1_.out 0) | ((with_reducible refine gate_callee (f := 28) rfl ?_); refine gL (some 17) Try.func28 #[.agg #[.slice A0_0 l0_0.length c0_0]] ?_; (with_reducible refine (trace_valid.calls _ _ l0_0 true _ ?side1 ?side2 A7.out).mono ?_); (case side1 => exact cq ⟨Kd.C_below HR0_0.out HB.out⟩); (case side2 => exact HC0_0.out); rintro e w14 ⟨rfl, hb⟩; refine ⟨_, rfl, ?_⟩; replace a1_ := As (blk_below (plq a1_.out) hb); replace a2_ := As (blk_below (plq a2_.out) hb); replace HB := sBq hb; (try clear hb)))
  (try simp only [Act.put, List.setIfInBounds_toArray, List.set_cons_zero, List.set_cons_succ]); go_cut [25] (fun v25 wc => ∃ (kq : Nat) (b3_ : Bool), v25 = .bool b3_ ∧ Aside0 (trace_Came.j0 kq a1 a2 a3 a4 a5 b3_ l0_0 = some (r1, r2)) ∧ Aside0 (kq ≤ k) ∧ Aside0 (wc.heap[a6_]? = some (.cells #[(.slice A0_0 l0_0.length c0_0)] 29 (0, 0))) ∧ Aside0 (wc.heap[a4_]? = some (.cells #[(.slice none 0 0)] 29 (0, 0))) ∧ Aside0 (Below w.heap.size w wc))
  case first =>
   have H := HC9.out; clear HC9
   by_cases c15 : a5 < 0
   ·rw [if_pos c15] at H
    have b0_ : decide (a5 < 0) = true := decide_eq_true c15; clear c15; (first | rw [b0_] | (simp only [i64_w, i32_w]; rw [b0_]) | skip); have H' := As H; clear H; go_wp2; go_meet
    case rel => exact ⟨_, (true), (by first | rfl | (simp; done) | (simp [*]; done)), H', ⟨by first | omega | exact Nat.le_refl _⟩, ⟨by refine plT ?_; exact a1_.out⟩, ⟨by refine plT ?_; exact a2_.out⟩, ⟨hBq⟩⟩
   ·rw [if_neg c15] at H
    have b0_ : decide (a5 < 0) = false := decide_eq_false c15; clear c15; (first | rw [b0_] | (simp only [i64_w, i32_w]; rw [b0_]) | skip); have H' := As H; clear H; go_wp2; go_meet
    case rel => exact ⟨_, (decide (a5 > 1048576)), (by first | rfl | (simp; done) | (simp [*]; done)), H', ⟨by first | omega | exact Nat.le_refl _⟩, ⟨by refine plT ?_; exact a1_.out⟩, ⟨by refine plT ?_; exact a2_.out⟩, ⟨hBq⟩⟩
  case rest =>
   clear HC9; (try clear c1); (try clear c2); (try clear p2); (try clear c8); (try clear c12); (try clear c15); (try clear b0_); (try clear c0_); (try clear c1_); obtain ⟨kq, b3_, rfl, HA, HJ8, a1_, a2_, HB⟩ := hcut
   cases kq with
   | zero => exact absurd HA.out (by simp [trace_Came.j0])
   | succ kj8 =>
    have H := HA.out; clear HA; simp only [trace_Came.j0] at H
    by_cases c16 : b3_ = true
    ·subst c16
     rw [if_pos rfl] at H; simp only [Option.some.injEq, Prod.mk.injEq] at H; obtain ⟨rfl, rfl⟩ := H; have g3_ := a8_.out; have g4_ := a5_.out; have d3_ : wc.cell? ⟨a4_, 0, none⟩ = some (.slice none 0 0) := (blk_cell a2_.out 0).trans rfl; have d4_ := blk_frozen a2_.out 0; go_wp2; refine bodyPost_ret (results_ct rfl _ _ a4_ 29 #[.slice none 0 0] (0, 0) _ rfl (by refine plT ?_; refine blk_put (cs := #[.slice none 0 0]) ?_ 0 _ rfl; refine plT ?_; exact a2_.out) Try.underlying29 rfl (by kernel_rfl)) rfl ?_; exact ⟨_, erq, by first | exact Kd.R_nil _ _ _ _ _ | exact Kd.N_nil _ _ _ _ _ | exact Kd.V_nil _ _ _ _ _ | exact Kd.Q_nil _ _ _ _ _ | exact Kd.S_nil _ _ _ _ _, hBq⟩
    ·replace c16 := Bool.eq_false_iff.mpr c16
     subst c16; rw [if_neg nft] at H; obtain ⟨a0_, A19, H⟩ := bnd H; (try dsimp only at H)
     by_cases c20 : a0_ < 0
     ·rw [if_pos c20] at H
      have c9_ : decide (a0_ < 0) = true := decide_eq_true c20; clear c20; simp only [Option.some.injEq, Prod.mk.injEq] at H; obtain ⟨rfl, rfl⟩ := H; have g5_ := a5_.out; have g6_ := a8_.out; have d5_ : wc.cell? ⟨a6_, 0, none⟩ = some (.slice A0_0 l0_0.length c0_0) := (blk_cell a1_.out 0).trans rfl; have d6_ := blk_frozen a1_.out 0
      go_wp2_with (first | ((with_reducible refine gate_callee (f := 30) rfl ?_); refine gL (some 33) Try.func30 #[.agg #[.slice A0_0 l0_0.length c0_0], .agg #[a1, a2, a3, a4]] ?_; (with_reducible refine (trace_find.calls _ _ l0_0 a1 a2 a3 a4 a0_ _ ?side1 ?side2 A19.out).mono ?_); (case side1 => exact cq ⟨Kd.C_below HR0_0.out HB.out⟩); (case side2 => exact HC0_0.out); rintro e w23 ⟨rfl, hb⟩; refine ⟨_, rfl, ?_⟩; replace a1_ := As (blk_below (plq a1_.out) hb); replace a2_ := As (blk_below (plq a2_.out) hb); replace HB := sBq hb; (try clear hb); have d7_ : w23.cell? ⟨a4_, 0, none⟩ = some (.slice none 0 0) := (blk_cell a2_.out 0).trans rfl; have d8_ := blk_frozen a2_.out 0))
      refine bodyPost_ret (results_ct rfl _ _ a4_ 29 #[.slice none 0 0] (0, 0) _ rfl (by refine plT ?_; refine blk_put (cs := #[.slice none 0 0]) ?_ 0 _ rfl; refine plT ?_; exact a2_.out) Try.underlying29 rfl (by kernel_rfl)) rfl ?_; exact ⟨_, erq, by first | exact Kd.R_nil _ _ _ _ _ | exact Kd.N_nil _ _ _ _ _ | exact Kd.V_nil _ _ _ _ _ | exact Kd.Q_nil _ _ _ _ _ | exact Kd.S_nil _ _ _ _ _, hBq⟩
     ·rw [if_neg c20] at H
      have c9_ : decide (a0_ < 0) = false := decide_eq_false c20; clear c20
      by_cases c25 : 0 ≤ a0_
      ·rw [if_pos c25] at H
       have g7_ : decide (0 ≤ a0_) = true := decide_eq_true c25; clear c25
       by_cases c26 : a0_ < (l0_0.length : Int)
       ·rw [if_pos c26] at H
        have g8_ : decide (a0_ < (l0_0.length : Int)) = true := decide_eq_true c26; clear c26
        by_cases c27 : ((rd_T35 l0_0 a0_).f5) > 0
        ·rw [if_pos c27] at H
         have d0_ : decide (0 < ((rd_T35 l0_0 a0_).f5)) = true := decide_eq_true c27; clear c27; simp only [Option.some.injEq, Prod.mk.injEq] at H; obtain ⟨rfl, rfl⟩ := H; have g9_ := a5_.out; have h0_ := a8_.out; have d9_ : wc.cell? ⟨a6_, 0, none⟩ = some (.slice A0_0 l0_0.length c0_0) := (blk_cell a1_.out 0).trans rfl; have e0_ := blk_frozen a1_.out 0
         go_wp2_with (first | ((with_reducible refine gate_callee (f := 30) rfl ?_); refine gL (some 33) Try.func30 #[.agg #[.slice A0_0 l0_0.length c0_0], .agg #[a1, a2, a3, a4]] ?_; (with_reducible refine (trace_find.calls _ _ l0_0 a1 a2 a3 a4 a0_ _ ?side1 ?side2 A19.out).mono ?_); (case side1 => exact cq ⟨Kd.C_below HR0_0.out HB.out⟩); (case side2 => exact HC0_0.out); rintro e w30 ⟨rfl, hb⟩; refine ⟨_, rfl, ?_⟩; replace a1_ := As (blk_below (plq a1_.out) hb); replace a2_ := As (blk_below (plq a2_.out) hb); replace HB := sBq hb; (try clear hb); have e1_ : w30.cell? ⟨a6_, 0, none⟩ = some (.slice A0_0 l0_0.length c0_0) := (blk_cell a1_.out 0).trans rfl; have e2_ := blk_frozen a1_.out 0; have b1_ : 0 ≤ (a0_ : Int) := dq; have b2_ : a0_ < (l0_0.length : Int) := dq; obtain ⟨b7_, b9_, _, _, _, _, _, _⟩ := at_T35 (Kd.C_below HR0_0.out HB.out) a0_ b1_ b2_; cases b9_; replace b1_ := eq_true b1_; replace b2_ := eq_true b2_; have e3_ : w30.cell? ⟨a4_, 0, none⟩ = some (.slice none 0 0) := (blk_cell a2_.out 0).trans rfl; have e4_ := blk_frozen a2_.out 0))
         refine bodyPost_ret (results_ct rfl _ _ a4_ 29 #[.slice none 0 0] (0, 0) _ rfl (by refine plT ?_; refine blk_put (cs := #[.slice none 0 0]) ?_ 0 _ rfl; refine plT ?_; exact a2_.out) Try.underlying29 rfl (by kernel_rfl)) rfl ?_; exact ⟨_, erq, by first | exact Kd.R_nil _ _ _ _ _ | exact Kd.N_nil _ _ _ _ _ | exact Kd.V_nil _ _ _ _ _ | exact Kd.Q_nil _ _ _ _ _ | exact Kd.S_nil _ _ _ _ _, hBq⟩
        ·rw [if_neg c27] at H
         have d0_ : decide (0 < ((rd_T35 l0_0 a0_).f5)) = false := decide_eq_false c27; clear c27; obtain ⟨a3_, A33, H⟩ := bnd H; (try dsimp only at H)
         by_cases c34 : a0_ < (a3_.length : Int)
         ·rw [if_pos c34] at H
          have h1_ : decide (a0_ < (a3_.length : Int)) = true := decide_eq_true c34; clear c34; obtain ⟨c2_, hy151⟩ : ∃ y_ : List (S35), y_ = (a3_.set (a0_ : Int).toNat (⟨(rd_T35 a3_ a0_).f0, (rd_T35 a3_ a0_).f1, (rd_T35 a3_ a0_).f2, (rd_T35 a3_ a0_).f3, (rd_T35 a3_ a0_).f4, wrap64 (a5 + 1)⟩ : S35)) := ⟨_, rfl⟩; (replace H : (some (c2_, 0)) = some (r1, r2) := by first | (rw [hy151]; with_reducible exact H) | (have H2_ := (Option.bind_some _ _).symm.trans H; rw [hy151]; with_reducible exact H2_) | (have H2_ := (Option.bind_some _ _).symm.trans H; with_reducible exact H2_) | with_reducible exact H | (rw [hy151]; exact H) | exact H); have Ny151 := As hy151; clear hy151; simp only [Option.some.injEq, Prod.mk.injEq] at H; obtain ⟨rfl, rfl⟩ := H; have h2_ := a5_.out; have h3_ := a8_.out; have e5_ : wc.cell? ⟨a6_, 0, none⟩ = some (.slice A0_0 l0_0.length c0_0) := (blk_cell a1_.out 0).trans rfl; have e6_ := blk_frozen a1_.out 0
          go_wp2_with (first | ((with_reducible refine gate_callee (f := 30) rfl ?_); refine gL (some 33) Try.func30 #[.agg #[.slice A0_0 l0_0.length c0_0], .agg #[a1, a2, a3, a4]] ?_; (with_reducible refine (trace_find.calls _ _ l0_0 a1 a2 a3 a4 a0_ _ ?side1 ?side2 A19.out).mono ?_); (case side1 => exact cq ⟨Kd.C_below HR0_0.out HB.out⟩); (case side2 => exact HC0_0.out); rintro e w38 ⟨rfl, hb⟩; refine ⟨_, rfl, ?_⟩; replace a1_ := As (blk_below (plq a1_.out) hb); replace a2_ := As (blk_below (plq a2_.out) hb); replace HB := sBq hb; (try clear hb); have e7_ : w38.cell? ⟨a6_, 0, none⟩ = some (.slice A0_0 l0_0.length c0_0) := (blk_cell a1_.out 0).trans rfl; have e8_ := blk_frozen a1_.out 0; have b1_ : 0 ≤ (a0_ : Int) := dq; have b2_ : a0_ < (l0_0.length : Int) := dq; obtain ⟨b7_, b9_, _, _, _, _, _, _⟩ := at_T35 (Kd.C_below HR0_0.out HB.out) a0_ b1_ b2_; cases b9_; replace b1_ := eq_true b1_; replace b2_ := eq_true b2_) | ((with_reducible refine gate_callee (f := 33) rfl ?_); refine gL (some 47) Try.func33 #[.slice (some b7_) l0_0.length c0_0] ?_; (with_reducible refine (api_Expectation_33.calls _ _ l0_0 a3_ _ ?side1 ?side2 A33.out).mono ?_); (case side1 => exact cq ⟨Kd.C_below HR0_0.out HB.out⟩); (case side2 => exact HC0_0.out); rintro e w40 ⟨h6_, rfl, ho0, hb⟩; refine ⟨_, rfl, ?_⟩; have a9_ := As (Kd.R_lower ho0 (below_size hBq)); replace a1_ := As (blk_below (plq a1_.out) hb); replace a2_ := As (blk_below (plq a2_.out) hb); replace HB := sBq hb; (try clear hb); (try clear ho0); have p35 : 0 ≤ (a0_ : Int) := dq; have q35 : (a0_ : Int) < ((a3_.length : Int) : Int) := dq; obtain ⟨a7_, b8_, c3_, c4_, d1_, h7_, HG35⟩ := Kd.R_form a9_.out (by omega); (first | cases c3_ | (injection c3_ with ea_ en_ ec_; (first | subst ea_ | (injection ea_ with ea_; subst ea_)); subst ec_; clear en_)); have d2_ := As c4_; have h8_ := As HG35; clear c4_ d1_ HG35; obtain ⟨ce35, hcl35, hM35, hcc35, hfr35⟩ := Kd.R_elem a9_.out z35 (a0_ : Int) p35 q35; obtain rfl := k35_openM hM35; have f5_ : w40.cell? ⟨a7_, (a0_ : Int).toNat * 6, none⟩ = some (((rd_T35 a3_ a0_).f0)) := hcc35 0 _ rfl; have f6_ : w40.cell? ⟨a7_, (a0_ : Int).toNat * 6 + 1, none⟩ = some (((rd_T35 a3_ a0_).f1)) := hcc35 1 _ rfl; have f7_ : w40.cell? ⟨a7_, (a0_ : Int).toNat * 6 + 2, none⟩ = some (((rd_T35 a3_ a0_).f2)) := hcc35 2 _ rfl; have f8_ : w40.cell? ⟨a7_, (a0_ : Int).toNat * 6 + 3, none⟩ = some (((rd_T35 a3_ a0_).f3)) := hcc35 3 _ rfl; have f9_ : w40.cell? ⟨a7_, (a0_ : Int).toNat * 6 + 4, none⟩ = some (((rd_T35 a3_ a0_).f4)) := hcc35 4 _ rfl; have g0_ : w40.cell? ⟨a7_, (a0_ : Int).toNat * 6 + 5, none⟩ = some (((rd_T35 a3_ a0_).f5)) := hcc35 5 _ rfl; have hf35_0 : w40.frozen? ⟨a7_, (a0_ : Int).toNat * 6, none⟩ = false := hfr35 0; have hf35_1 : w40.frozen? ⟨a7_, (a0_ : Int).toNat * 6 + 1, none⟩ = false := hfr35 1; have hf35_2 : w40.frozen? ⟨a7_, (a0_ : Int).toNat * 6 + 2, none⟩ = false := hfr35 2; have hf35_3 : w40.frozen? ⟨a7_, (a0_ : Int).toNat * 6 + 3, none⟩ = false := hfr35 3; have hf35_4 : w40.frozen? ⟨a7_, (a0_ : Int).toNat * 6 + 4, none⟩ = false := hfr35 4; have hf35_5 : w40.frozen? ⟨a7_, (a0_ : Int).toNat * 6 + 5, none⟩ = false := hfr35 5; clear hcl35 hcc35 hfr35 hM35; replace p35 := eq_true p35; replace q35 := eq_true q35; have c5_ := As (show Kd.R k35 35 w40 w.heap.size (fun _ => True) (.slice (some ⟨a7_, 0, none⟩) a3_.length b8_) a3_ from (rqR a9_)); obtain ⟨ce41, hcl41, hM41, hcc41, hfr41⟩ := Kd.R_elem c5_.out z35 (a0_ : Int) (dq) (by have h_ : (a0_ : Int) < ((a3_.length : Int) : Int) := dq; first | exact h_ | (have e_ := (Kd.R_reads' a9_.out).1; omega) | simpa using h_); obtain rfl := k35_openM hM41; have HP41 := Kd.R_seg c5_.out (a0_ : Int) (dq) (by have h_ : (a0_ : Int) < ((a3_.length : Int) : Int) := dq; first | exact h_ | (have e_ := (Kd.R_reads' a9_.out).1; omega) | simpa using h_) (seg := [(wrap64 (a5 + 1))]) (j := 5) hcl41 hcc41 (show 6 ≤ 6 from by decide) (x' := (⟨(rd_T35 a3_ a0_).f0, (rd_T35 a3_ a0_).f1, (rd_T35 a3_ a0_).f2, (rd_T35 a3_ a0_).f3, (rd_T35 a3_ a0_).f4, wrap64 (a5 + 1)⟩ : S35)) (k35_mkM _ _ _ (⟨(rd_T35 a3_ a0_).f0, (rd_T35 a3_ a0_).f1, (rd_T35 a3_ a0_).f2, (rd_T35 a3_ a0_).f3, (rd_T35 a3_ a0_).f4, wrap64 (a5 + 1)⟩ : S35) ) (fun _ hk => hk); have c6_ := hcc41 5 _ rfl; (try simp only [show (k35).sz = 6 from rfl, Nat.mul_one, Nat.add_zero] at c6_); have hf41_5 := hfr41 5; (try simp only [show (k35).sz = 6 from rfl, Nat.mul_one, Nat.add_zero] at hf41_5); clear hcl41 hcc41 hfr41 hM41) | ((with_reducible refine gate_store (t := 3) (p := 53) rfl ?_); refine stE 3 53 (w40.setCell ⟨a7_, (a0_ : Int).toNat * 6 + 5, none⟩ ((wrap64 (a5 + 1)))) ?_; intro w42 hw; have hg : w40.grownBy w42 (some a7_) := (by rw [hw]; exact HP41.2); have hp_ : Kd.R k35 35 w42 w.heap.size (fun _ => True) (.slice (some ⟨a7_, 0, none⟩) a3_.length b8_) c2_ := (by rw [hw, Ny151.out]; exact HP41.1); clear HP41; replace a1_ := As (blk_grown (g := a6_) (o := .cells #[.slice (some b7_) l0_0.length c0_0] 29 (0, 0)) (plq a1_.out) hg (Kd.R_ne a9_.out a1_.out (by decide))); replace a2_ := As (blk_grown (g := a4_) (o := .cells #[.slice none 0 0] 29 (0, 0)) (plq a2_.out) hg (Kd.R_ne a9_.out a2_.out (by decide))); replace a9_ := As (hp_); replace HB := As ((by rw [hw]; exact below_set (HB.out) d2_.out : Below w.heap.size w w42)); clear hg hw hp_; have e9_ : w42.cell? ⟨a4_, 0, none⟩ = some (.slice none 0 0) := (blk_cell a2_.out 0).trans rfl; have f0_ := blk_frozen a2_.out 0))
          refine bodyPost_ret (results_ct rfl _ _ a4_ 29 #[.slice (some ⟨a7_, 0, none⟩) a3_.length b8_] (0, 0) _ rfl (by refine plT ?_; refine blk_put (cs := #[.slice none 0 0]) ?_ 0 _ rfl; refine plT ?_; exact a2_.out) Try.underlying29 rfl (by kernel_rfl)) rfl ?_; exact ⟨_, erq, by (with_reducible repeat (first | apply Kd.R_alloc | apply Kd.R_drewN | apply Kd.R_drew)); exact Kd.R_mono (Kd.R_far (p := ⟨a4_, 0, none⟩) (Kd.R_types a9_.out a2_.out (by decide)) (fun _ hk => hk.2) (.slice (some ⟨a7_, 0, none⟩) a3_.length b8_)) (fun _ hk => trivial), hBq⟩
         ·rw [if_neg c34] at H
          exact absurd H (by simp)
       ·rw [if_neg c26] at H
        exact absurd H (by simp)
      ·rw [if_neg c25] at H
       exact absurd H (by simp)
 ·replace c8 := Bool.eq_false_iff.mpr c8
  subst c8; rw [if_neg nft] at H; simp only [Option.some.injEq, Prod.mk.injEq] at H; obtain ⟨rfl, rfl⟩ := H; go_enter Try.func12, Try.ntmps12
  go_wp2_with (first | ((with_reducible refine gate_dst (N := 6) rfl ?_); refine bxE 6 #[.slice A0_0 l0_0.length c0_0] 29 ?_; intro a6_ hg w44 hbox hb; have a1_ := As (hbox); have b5_ := As (by rw [hg]; exact (below_size hBq) : w.heap.size ≤ a6_); replace HB := sBq hb; have c7_ := b5_; clear hb hbox hg) | ((with_reducible refine gate_dst (N := 12) rfl ?_); refine bxE 12 #[.slice none 0 0] 29 ?_; intro a4_ hg w45 hbox hb; have a2_ := As (hbox); have b6_ := As (by rw [hg]; exact (below_size hBq) : w.heap.size ≤ a4_); replace HB := sBq hb; have c8_ := b6_; have a5_ := As (by rw [hg]; exact Nat.ne_of_lt (blk_lt (g := a6_) (plq a1_.out)) : a6_ ≠ a4_); replace a1_ := As (blk_below (plq a1_.out) hb); have a8_ := As a5_.out.symm; clear hb hbox hg; have h4_ := a5_.out; have h5_ := a8_.out; have f1_ : w45.cell? ⟨a6_, 0, none⟩ = some (.slice A0_0 l0_0.length c0_0) := (blk_cell a1_.out 0).trans rfl; have f2_ := blk_frozen a1_.out 0) | ((with_reducible refine gate_callee (f := 28) rfl ?_); refine gL (some 17) Try.func28 #[.agg #[.slice A0_0 l0_0.length c0_0]] ?_; (with_reducible refine (trace_valid.calls _ _ l0_0 false _ ?side1 ?side2 A7.out).mono ?_); (case side1 => exact cq ⟨Kd.C_below HR0_0.out HB.out⟩); (case side2 => exact HC0_0.out); rintro e w48 ⟨rfl, hb⟩; refine ⟨_, rfl, ?_⟩; replace a1_ := As (blk_below (plq a1_.out) hb); replace a2_ := As (blk_below (plq a2_.out) hb); replace HB := sBq hb; (try clear hb); have f3_ : w48.cell? ⟨a4_, 0, none⟩ = some (.slice none 0 0) := (blk_cell a2_.out 0).trans rfl; have f4_ := blk_frozen a2_.out 0))
  refine bodyPost_ret (results_ct rfl _ _ a4_ 29 #[.slice none 0 0] (0, 0) _ rfl (by refine plT ?_; refine blk_put (cs := #[.slice none 0 0]) ?_ 0 _ rfl; refine plT ?_; exact a2_.out) Try.underlying29 rfl (by kernel_rfl)) rfl ?_; exact ⟨_, erq, by first | exact Kd.R_nil _ _ _ _ _ | exact Kd.N_nil _ _ _ _ _ | exact Kd.V_nil _ _ _ _ _ | exact Kd.Q_nil _ _ _ _ _ | exact Kd.S_nil _ _ _ _ _, hBq⟩
end Go.Proofs.Ytghepgcbciikmaa.PA
