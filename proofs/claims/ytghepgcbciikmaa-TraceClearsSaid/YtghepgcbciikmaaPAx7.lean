-- Written by a program of this claim's own (hookprint.py), after the pattern of the kit's print. Lean checks it.
import Derived.Test.YtghepgcbciikmaaPAx0
import Derived.Test.YtghepgcbciikmaaPAx4
import Derived.Test.YtghepgcbciikmaaDelF
namespace Go.Proofs.Ytghepgcbciikmaa.PA
open Go.RowKit Go.Proofs.YtghepgcbciikmaaW.PrintWords Go.Proofs.YtghepgcbciikmaaW.PrintLast Go.Proofs.YtghepgcbciikmaaW.PrintMore
attribute [local go_sem ↓] some_setCell
attribute [local go_sem] max2_int min2_int max_two min_two max_three min_three max_four min_four   -- for this text's walks alone
set_option linter.unusedVariables false
set_option linter.unusedSimpArgs false

theorem trace_find.eqA (d : Nat) (w : World) (x0 y0 : Int) (x1 y1 : Int) (x2 y2 : Int) (x3 y3 : Int) :
  (Op.equalIn (d + 2) 56 (.agg #[.int .i64 x0, .int .i64 x1, .int .i64 x2, .int .i64 x3]) (.agg #[.int .i64 y0, .int .i64 y1, .int .i64 y2, .int .i64 y3])).run Try.prog w = .ok (x0 == y0 && (x1 == y1 && (x2 == y2 && (x3 == y3)))) w := by
 refine eqA_of Try.underlying56 (by kernel_rfl) ?_; refine eqf_cons (by rfl) (by go_simp; rfl) (by go_simp; rfl) (by go_simp) ?_; refine eqf_cons (by rfl) (by go_simp; rfl) (by go_simp; rfl) (by go_simp) ?_; refine eqf_cons (by rfl) (by go_simp; rfl) (by go_simp; rfl) (by go_simp) ?_; exact eqf_last (by rfl) (by go_simp; rfl) (by go_simp; rfl) (by go_simp)
attribute [local go_sem high] trace_find.eqA in
set_option maxHeartbeats 4000000 in
theorem trace_find.closure (b m0 m1 m2 m3 : Int) (B : Nat) (x : S35) (W : World) (hb : B < W.heap.size)
  (h0 : W.heap[B]? = some (.cells #[.int .i64 m0, .int .i64 m1, .int .i64 m2, .int .i64 m3] 56 (0, 0))) :
  Calls Try.prog 46 (#[.agg #[.int .i64 x.f0, .int .i64 x.f1, .int .i64 x.f2, .int .i64 x.f3, .int .i64 x.f4, .int .i64 x.f5]] ++ #[.pointer (some ⟨B, 0, none⟩)]) W fun e w' => e = .returned (.bool (x.f0 == m0 && (x.f1 == m1 && (x.f2 == m2 && (x.f3 == m3))))) ∧ Below W.heap.size W w' := by
 have hcon : ∀ w, Calls Try.prog 31 #[.agg #[.int .i64 x.f0, .int .i64 x.f1, .int .i64 x.f2, .int .i64 x.f3, .int .i64 x.f4, .int .i64 x.f5]] w fun e w' => e = .returned (.agg #[.int .i64 x.f0, .int .i64 x.f1, .int .i64 x.f2, .int .i64 x.f3]) ∧ Below w.heap.size w w' :=
  fun w => trace_of.calls x.f0 x.f1 x.f2 x.f3 x.f4 x.f5 x.f0 x.f1 x.f2 x.f3 w rfl
 have hu_e := Try.underlying35; have hu_m := Try.underlying56; have HB := Aside0.mk (Below.refl W.heap.size W); have HH := Aside0.mk h0; clear h0; go_enter Try.func46, Try.ntmps46; go_wp2_with fail; have hE : (W.alloc (.cells #[.int .i64 x.f0, .int .i64 x.f1, .int .i64 x.f2, .int .i64 x.f3, .int .i64 x.f4, .int .i64 x.f5] 35)).heap[W.heap.size]? = some (.cells #[.int .i64 x.f0, .int .i64 x.f1, .int .i64 x.f2, .int .i64 x.f3, .int .i64 x.f4, .int .i64 x.f5] 35 (0, 0)) := heap_alloc_new W _; have hM : (W.alloc (.cells #[.int .i64 x.f0, .int .i64 x.f1, .int .i64 x.f2, .int .i64 x.f3, .int .i64 x.f4, .int .i64 x.f5] 35)).heap[B]? = some (.cells #[.int .i64 m0, .int .i64 m1, .int .i64 m2, .int .i64 m3] 56 (0, 0)) := blk_alloc HH.out _; have hbl := below_alloc HB.out (.cells #[.int .i64 x.f0, .int .i64 x.f1, .int .i64 x.f2, .int .i64 x.f3, .int .i64 x.f4, .int .i64 x.f5] 35); generalize W.alloc (.cells #[.int .i64 x.f0, .int .i64 x.f1, .int .i64 x.f2, .int .i64 x.f3, .int .i64 x.f4, .int .i64 x.f5] 35) = W1 at hE hM hbl ⊢; have HE := Aside0.mk hE; have HM := Aside0.mk hM; have HL := Aside0.mk hbl; clear hE hM hbl
 refine start_ (n := 5) (S := fun w' => w'.cell? ⟨W.heap.size, 0, none⟩ = some (.int .i64 x.f0) ∧ w'.cell? ⟨W.heap.size, 1, none⟩ = some (.int .i64 x.f1) ∧ w'.cell? ⟨W.heap.size, 2, none⟩ = some (.int .i64 x.f2) ∧ w'.cell? ⟨W.heap.size, 3, none⟩ = some (.int .i64 x.f3) ∧ w'.cell? ⟨W.heap.size, 4, none⟩ = some (.int .i64 x.f4) ∧ w'.cell? ⟨W.heap.size, 5, none⟩ = some (.int .i64 x.f5) ∧ w'.cell? ⟨B, 0, none⟩ = some (.int .i64 m0) ∧ w'.cell? ⟨B, 1, none⟩ = some (.int .i64 m1) ∧ w'.cell? ⟨B, 2, none⟩ = some (.int .i64 m2) ∧ w'.cell? ⟨B, 3, none⟩ = some (.int .i64 m3)) (ds := []) (marksOf 5 0) (by kernel_rfl) rfl rfl ⟨(blk_cell (blk_drew HE.out) 0).trans rfl, (blk_cell (blk_drew HE.out) 1).trans rfl, (blk_cell (blk_drew HE.out) 2).trans rfl, (blk_cell (blk_drew HE.out) 3).trans rfl, (blk_cell (blk_drew HE.out) 4).trans rfl, (blk_cell (blk_drew HE.out) 5).trans rfl, (blk_cell (blk_drew HM.out) 0).trans rfl, (blk_cell (blk_drew HM.out) 1).trans rfl, (blk_cell (blk_drew HM.out) 2).trans rfl, (blk_cell (blk_drew HM.out) 3).trans rfl⟩ (fun hHeld => ?_); (refine ta_ 0 4 5 1 ?_ rfl rfl (by kernel_rfl) (fun _ _ _ h => h) (by rfl) ?_ hHeld ?_ ?_ ?_; rotate_left; rintro w' ⟨s0, s1, s2, s3, s4, s5, s6, s7, s8, s9⟩; go_simp; with_reducible rfl; rotate_left; simp only [Act.put, q1, q2, q3, i64_w, i32_w]; rfl)
 (refine ta_ 2 6 5 5 ?_ rfl rfl (by kernel_rfl) (fun _ _ _ h => h) (by rfl) ?_ hHeld ?_ ?_ ?_; rotate_left; rintro w' ⟨s0, s1, s2, s3, s4, s5, s6, s7, s8, s9⟩; go_simp; with_reducible rfl; rotate_left; simp only [Act.put, q1, q2, q3, i64_w, i32_w]; rfl); refine one_ (i := 1) (N := some 5) (marksOf 5 7) rfl rfl (by kernel_rfl) (by decide) (fun K hK => ?_); refine goes_ Try.func31 (by kernel_rfl) rfl #[.agg #[.int .i64 x.f0, .int .i64 x.f1, .int .i64 x.f2, .int .i64 x.f3, .int .i64 x.f4, .int .i64 x.f5]] (by rfl) rfl rfl (by (try simp only [List.map_toArray, List.map_cons, List.map_nil]); first | done | rfl) ?_; refine (hcon _).mono ?_; rintro e w' ⟨rfl, hb'⟩; refine ⟨_, rfl, ?_⟩; have HE2 := Aside0.mk (blk_below (blk_drew HE.out) hb'); have HM2 := Aside0.mk (blk_below (blk_drew HM.out) hb'); have HL2 := Aside0.mk (below_step (below_drew1 HL.out) hb'); refine hK.out _ _ ⟨(blk_cell HE2.out 0).trans rfl, (blk_cell HE2.out 1).trans rfl, (blk_cell HE2.out 2).trans rfl, (blk_cell HE2.out 3).trans rfl, (blk_cell HE2.out 4).trans rfl, (blk_cell HE2.out 5).trans rfl, (blk_cell HM2.out 0).trans rfl, (blk_cell HM2.out 1).trans rfl, (blk_cell HM2.out 2).trans rfl, (blk_cell HM2.out 3).trans rfl⟩ (fun hHeld => ?_); refine norm_ (a' := ?_) ?_ ?_; rotate_left
 ·show Act.put _ (some 5) _ = _
  simp only [Act.put, q1, q2, q3, i64_w, i32_w]; rfl
 (refine pu_ 3 7 5 15 ?_ rfl rfl (by kernel_rfl) (fun _ _ _ h => h) (by rfl) ?_ ?_ ?_ ?_; rotate_left; intro w'; go_simp; with_reducible rfl; rotate_left; simp only [Act.put, q1, q2, q3, i64_w, i32_w]; rfl); (refine pu_ 4 3 5 31 ?_ rfl rfl (by kernel_rfl) (fun _ _ _ h => h) (by rfl) ?_ ?_ ?_ ?_; rotate_left; intro w'; go_simp; with_reducible rfl; rotate_left; simp only [Act.put, q1, q2, q3, i64_w, i32_w]; rfl); refine done_ (by kernel_rfl) ?_; go_wp2; go_ret; exact ⟨rfl, HL2.out⟩
/-- The first place from i on at which p holds, or -1. -/
def trace_find.idx {α : Type} (p : α → Bool) : List α → Nat → Int
 | [], _ => -1
 | x :: l, i => if p x = true then (i : Int) else trace_find.idx p l (i + 1)
theorem trace_find.idxAt {α : Type} (p : α → Bool) (l : List α) (i : Nat) (h : i < l.length) : trace_find.idx p (l.drop i) i = if p l[i] = true then (i : Int) else trace_find.idx p (l.drop (i + 1)) (i + 1) := by
 rw [List.drop_eq_getElem_cons h]; rfl
/-- A function value that tells p of an element, and makes new memory alone. -/
def trace_find.Tells (P : Program) (g : Nat) (lb : Array Value) (enc : S35 → Value) (p : S35 → Bool) (w : World) : Prop :=
 ∀ (W : World) (x : S35), Below w.heap.size w W → Calls P g (#[enc x] ++ lb) W fun e w' => e = .returned (.bool (p x)) ∧ Below w.heap.size w w'
def trace_find.enc (x : S35) : Value := .agg #[.int .i64 x.f0, .int .i64 x.f1, .int .i64 x.f2, .int .i64 x.f3, .int .i64 x.f4, .int .i64 x.f5]
set_option maxHeartbeats 4000000 in
theorem trace_find.index (A0 : Option Addr) (c0 : Nat) (l0 : List S35) (g : Nat) (lb : Array Value) (p : S35 → Bool) (w : World) (hr0 : Kd.C k35 w A0 l0.length l0) (hc0 : l0.length ≤ c0)
  (eg : ∀ args w, (callFunc g args).run Try.prog w = .ok (.enter g args) w) (hp : trace_find.Tells Try.prog g lb trace_find.enc p w) :
  Calls Try.prog 45 #[.slice A0 l0.length c0, .func (.func g) #[] lb] w fun e w' => e = .returned (.int .i64 (trace_find.idx p l0 0)) ∧ Below w.heap.size w w' := by
 obtain ⟨r, hr⟩ : ∃ r, trace_find.idx p l0 0 = r := ⟨_, rfl⟩; rw [hr]; have HR := Aside0.mk hr0; have HP := Aside0.mk hp; have HE := Aside0.mk hr; have HLM : Aside0 (l0.length ≤ 9223372036854775807) := ⟨hr0.2.1⟩; clear hr0 hp hr; go_enter Try.func45, Try.ntmps45; go_wp2; go_loopg [8] l0.length (fun kq v8 w' => ∃ i : Nat, v8 = .int .i64 i ∧ Aside0 (i + kq = l0.length) ∧ Aside0 (trace_find.idx p (l0.drop i) i = r) ∧ Aside0 (Below w.heap.size w w'))
 case atStart => exact ⟨0, rfl, ⟨by omega⟩, ⟨by rw [List.drop_zero]; exact HE.out⟩, ⟨Below.refl _ _⟩⟩
 case round =>
  obtain ⟨i, rfl, HI, HX, HBr⟩ := hrel
  cases gk with
  | zero =>
   have c4b0 : decide ((i : Int) < (l0.length : Int)) = false := decide_eq_false (by have := HI.out; omega); have c4b1 : decide (i < l0.length) = false := decide_eq_false (by have := HI.out; omega)
   have hr : (-1 : Int) = r := by
    rw [← HX.out, List.drop_eq_nil_of_le (by have := HI.out; omega)]; rfl
   subst hr; go_wp2; go_ret
   exact ⟨rfl, HBr.out⟩
  | succ k1 =>
   (have hil : i < l0.length := by have := HI.out; omega); have c4b0 : decide ((i : Int) < (l0.length : Int)) = true := decide_eq_true (by omega); have c4b1 : decide (i < l0.length) = true := decide_eq_true hil; (have hi64 : (i : Int) ≤ 9223372036854775806 := by have := HLM.out; omega); (have p1 : 0 ≤ (i : Int) := by omega); (have q1 : (i : Int) < (l0.length : Int) := by omega); obtain ⟨ad, e1, hx0, hx1, hx2, hx3, hx4, hx5⟩ := at_T35 HR.out i p1 q1; cases e1; replace hx0 := (HBr.out.cell (World.block_lt_of_cell? w _ hx0)).trans hx0; replace hx1 := (HBr.out.cell (World.block_lt_of_cell? w _ hx1)).trans hx1; replace hx2 := (HBr.out.cell (World.block_lt_of_cell? w _ hx2)).trans hx2; replace hx3 := (HBr.out.cell (World.block_lt_of_cell? w _ hx3)).trans hx3; replace hx4 := (HBr.out.cell (World.block_lt_of_cell? w _ hx4)).trans hx4; replace hx5 := (HBr.out.cell (World.block_lt_of_cell? w _ hx5)).trans hx5; have eX := trace_find.idxAt p l0 i hil; (have ex : rd_T35 l0 (i : Int) = l0[i] := by unfold rd_T35; rw [Int.toNat_natCast, List.getD_eq_getElem?_getD, List.getElem?_eq_getElem hil]; rfl); rw [HX.out, ← ex] at eX; have EX := Aside0.mk eX; clear eX ex HX; have hc := HP.out wr (rd_T35 l0 (i : Int)) HBr.out; rw [Int.toNat_natCast] at hx0 hx1 hx2 hx3 hx4 hx5; generalize rd_T35 l0 (i : Int) = x at hx0 hx1 hx2 hx3 hx4 hx5 hc EX; unfold trace_find.enc at hc
   cases hpx : p x with
   | true =>
    rw [hpx] at hc; (have hr : r = (i : Int) := by rw [EX.out, if_pos hpx]); subst hr; clear hpx EX; go_wp2_with (go_at_fn g; refine hc.mono ?_; rintro e w' ⟨rfl, hb'⟩); go_ret
    exact ⟨rfl, hb'⟩
   | false =>
    rw [hpx] at hc; (have hr : trace_find.idx p (l0.drop (i + 1)) (i + 1) = r := by rw [EX.out, if_neg (by rw [hpx]; decide)]); have HR2 := Aside0.mk hr; clear hr hpx EX; go_wp2_with (go_at_fn g; refine hc.mono ?_; rintro e w' ⟨rfl, hb'⟩); go_roundg k1
    case measure => omega
    case rel => exact ⟨i + 1, by simp, ⟨by have := HI.out; omega⟩, HR2, ⟨hb'⟩⟩

def trace_find.f (l0 : List S35) (m0 m1 m2 m3 : Int) : Option Int := some (trace_find.idx (fun x => (x.f0 == m0 && (x.f1 == m1 && (x.f2 == m2 && (x.f3 == m3))))) l0 0)
set_option maxHeartbeats 4000000 in
theorem trace_find.calls (A0_0 : Option Addr) (c0_0 : Nat) (l0_0 : List S35) (a1_0 a1_1 a1_2 a1_3 : Int) (r : Int) (w : World) (hr0_0 : Kd.C k35 w A0_0 l0_0.length l0_0) (hc0_0 : l0_0.length ≤ c0_0) (h : trace_find.f l0_0 a1_0 a1_1 a1_2 a1_3 = some r) :
  Calls Try.prog 30 #[.agg #[.slice A0_0 l0_0.length c0_0], .agg #[.int .i64 a1_0, .int .i64 a1_1, .int .i64 a1_2, .int .i64 a1_3]] w fun e w' => e = .returned (.int .i64 r) ∧ Below w.heap.size w w' := by
 have hr := Option.some.inj h; clear h; obtain ⟨W0, hW0⟩ : ∃ W0, W0 = (w.alloc (.cells #[.slice A0_0 l0_0.length c0_0] 29)).alloc (.cells #[.int .i64 a1_0, .int .i64 a1_1, .int .i64 a1_2, .int .i64 a1_3] 56) := ⟨_, rfl⟩; (have hB0 : Below w.heap.size w W0 := by rw [hW0]; exact below_alloc (below_alloc (Below.refl _ _) _) _); (have hsz : W0.heap.size = w.heap.size + 1 + 1 := by rw [hW0]; simp)
 have hM : W0.heap[w.heap.size + 1]? = some (.cells #[.int .i64 a1_0, .int .i64 a1_1, .int .i64 a1_2, .int .i64 a1_3] 56 (0, 0)) := by
  rw [hW0]; have := heap_alloc_new (w.alloc (.cells #[.slice A0_0 l0_0.length c0_0] 29)) (.cells #[.int .i64 a1_0, .int .i64 a1_1, .int .i64 a1_2, .int .i64 a1_3] 56)
  rwa [World.size_alloc] at this
 (have hr1 : Kd.C k35 W0 A0_0 l0_0.length l0_0 := by rw [hW0]; exact Kd.C_alloc (Kd.C_alloc hr0_0 _) _); have eg : ∀ args w, (callFunc 46 args).run Try.prog w = .ok (.enter 46 args) w := enters_of Try.func46 (by kernel_rfl) rfl
 have hS := trace_find.index A0_0 c0_0 l0_0 46 #[.pointer (some ⟨w.heap.size + 1, 0, none⟩)] (fun x => (x.f0 == a1_0 && (x.f1 == a1_1 && (x.f2 == a1_2 && (x.f3 == a1_3))))) W0 hr1 hc0_0 eg
  (fun W x hb => (trace_find.closure 0 a1_0 a1_1 a1_2 a1_3 (w.heap.size + 1) x W (by have := hb.size; omega) ((hb.block _ (by omega)).trans hM)).mono fun _ _ ⟨he, hb2⟩ => ⟨he, hb.trans (hb2.mono hb.size)⟩)
 rw [hr] at hS; clear hM hr1 hr0_0 hsz hr; go_enter Try.func30, Try.ntmps30; go_wp2_with (go_at_call 45; rw [← hW0]; refine hS.mono ?_; rintro e w' ⟨rfl, hb'⟩); go_ret; exact ⟨rfl, hB0.trans (hb'.mono hB0.size)⟩

end Go.Proofs.Ytghepgcbciikmaa.PA
