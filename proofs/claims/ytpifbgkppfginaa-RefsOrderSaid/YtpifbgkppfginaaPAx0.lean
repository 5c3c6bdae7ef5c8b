-- Printed by this claim's own program.
import Derived.Test.YtpifbgkppfginaaProg
import Derived.Below
import Derived.Deep.Draws
import Derived.Deep.AppendLies
import Derived.Maps.AppendAt
import Derived.OwnWalk
import Derived.Laws.BytesArg
import Derived.Laws.MakeOwn
import Derived.Laws.OwnMore
import Derived.Deep.OwnRows
import Derived.Tactics
import Derived.Lib.ConvBytes
import Derived.Laws.Slices
import Derived.WalkKit
import Derived.KernelRfl
import Derived.RowKit3
import Derived.Deep.LoopGhost
import Derived.Deep.QuietTactic
import Derived.BigQuiet
import Derived.WideLaws
import Derived.Deep.DeepCutAuto
import Derived.Deep.CutBlock
import Derived.Deep.RegionHeld3
import Derived.Laws.Rows
import Derived.Lib.AppendStr
import Derived.ArgAppend
import Derived.Laws.IdiomCopy
import Derived.OrdersHeld
import Derived.Laws.BitsLemmas
import Derived.RowKit
import Derived.Test.YtpifbgkppfginaaMine
import Derived.Test.YtpifbgkppfginaaCells
import Derived.Shelf.SlSorted.Search
import Derived.Test.YtpifbgkppfginaaWWords
import Derived.Test.YtpifbgkppfginaaWLast
import Derived.Test.YtpifbgkppfginaaWTab
import Derived.Test.YtpifbgkppfginaaWQPut
import Derived.Test.YtpifbgkppfginaaWApart
import Derived.Test.YtpifbgkppfginaaWArr
import Derived.Test.YtpifbgkppfginaaWZeros
import Derived.Test.YtpifbgkppfginaaWFoot
import Derived.Test.YtpifbgkppfginaaWKept
import Derived.Test.YtpifbgkppfginaaWShare
import Derived.Test.YtpifbgkppfginaaWN
import Derived.Test.YtpifbgkppfginaaWEqStruct
import Derived.Test.YtpifbgkppfginaaWRepsOne
import Derived.Test.YtpifbgkppfginaaWGuard
import Derived.Test.YtpifbgkppfginaaWNEv
import Derived.Test.YtpifbgkppfginaaWMore
import Derived.Test.YtpifbgkppfginaaRow
namespace Go.Proofs.Ytpifbgkppfginaa.PA
open Go.RowKit Go.Proofs.YtpifbgkppfginaaW.PrintWords Go.Proofs.YtpifbgkppfginaaW.PrintLast Go.Proofs.YtpifbgkppfginaaW.PrintMore
attribute [local go_sem ↓] some_setCell
attribute [local go_sem] max2_int min2_int max_two min_two max_three min_three max_four min_four
set_option linter.unusedVariables false
set_option linter.unusedSimpArgs false
def errW : Option Int → Value
 | none => .nilIface
 | some c => .iface 0 (.int .i64 c)
theorem errW_none : errW none = .nilIface := rfl
theorem errW_some (c : Int) : errW (some c) = .iface 0 (.int .i64 c) := rfl
theorem info5 : (Try.prog.info? 5).map (fun i => (i.zero, i.size, i.bytes)) = some (some (.int .u8 0), 1, 1) := by kernel_rfl
theorem info9 : (Try.prog.info? 9).map (fun i => (i.zero, i.size, i.bytes)) = some (some (.string ⟨#[]⟩), 1, 16) := by kernel_rfl
theorem info33 : (Try.prog.info? 33).map (fun i => (i.zero, i.size, i.bytes)) = some (some (.agg #[(.int .i64 0), (.int .i64 0), (.string ⟨#[]⟩)]), 3, 32) := by kernel_rfl
structure S33 where
 f0 : Int
 f1 : Int
 f2 : ByteArray
def z33 : S33 := ⟨(0 : Int), (0 : Int), (⟨#[]⟩ : ByteArray)⟩
def k33 : Kd S33 := Kd.iso (Kd.pair (Kd.int .i64) (Kd.pair (Kd.int .i64) Kd.string)) (fun x : S33 => (x.f0, x.f1, x.f2))
theorem k33_open {w : World} {x : S33} {cs : List Value} (h : k33.K w x cs) : cs = [.int .i64 x.f0, .int .i64 x.f1, .string x.f2] := by
 obtain ⟨_, _, rfl, rfl, ⟨_, _, rfl, rfl, rfl⟩⟩ := h
 exact rfl
theorem k33_openM {w : World} {base : Nat} {ok : Nat → Prop} {x : S33} {cs : List Value} (h : k33.M w base ok x cs) : cs = [.int .i64 x.f0, .int .i64 x.f1, .string x.f2] := by
 obtain ⟨_, _, rfl, rfl, ⟨_, _, rfl, rfl, rfl⟩⟩ := h
 exact rfl
theorem k33_mkM (w : World) (base : Nat) (ok : Nat → Prop) (x : S33)  : k33.M w base ok x [.int .i64 x.f0, .int .i64 x.f1, .string x.f2] := ⟨[.int .i64 x.f0], [.int .i64 x.f1, .string x.f2], rfl, rfl, ⟨[.int .i64 x.f1], [.string x.f2], rfl, rfl, rfl⟩⟩
def rd_T33 (xs : List S33) (i : Int) : S33 := xs.getD i.toNat z33
theorem at_T33 {w : World} {A : Option Addr} {n : Nat} {xs : List S33} (h : Kd.C k33 w A n xs) (i : Int) (h0 : 0 ≤ i) (h1 : i < n) : ∃ ad , A = some ad ∧ w.cell? (ad.add (i.toNat * 3)) = some (.int .i64 (rd_T33 xs i).f0) ∧ w.cell? ⟨(ad.add (i.toNat * 3)).block, (ad.add (i.toNat * 3)).off + 1, none⟩ = some (.int .i64 (rd_T33 xs i).f1) ∧ w.cell? ⟨(ad.add (i.toNat * 3)).block, (ad.add (i.toNat * 3)).off + 2, none⟩ = some (.string (rd_T33 xs i).f2) := by
 obtain ⟨ad, c, e, _, hK, hc0⟩ := Kd.C_get h z33 i h0 h1
 have hc : ∀ j u, c[j]? = some u → w.cell? (ad.add (i.toNat * 3 + j)) = some u := hc0
 obtain rfl := k33_open hK
 exact ⟨ad, e, hc 0 _ rfl, by rw [← add_field _ _ 1 (by omega)]; exact hc 1 _ rfl, by rw [← add_field _ _ 2 (by omega)]; exact hc 2 _ rfl⟩
def rd_L4 (xs : List (List S33)) (i : Int) : (List S33) := xs.getD i.toNat ([] : List S33)
structure S25 where
 f0 : (List S33)
def z25 : S25 := ⟨([] : List S33)⟩
def k25 : Kd S25 := Kd.iso (Kd.slice 33 k33) (fun x : S25 => x.f0)
def rd_T25 (xs : List S25) (i : Int) : S25 := xs.getD i.toNat z25
def ref02_Sum.l0 : Nat → ByteArray → Int → Int → Option (Int)
 | 0, _, _, _ => none
 | k + 1, x0, x3, x4 => if x4 < (x0.size : Int) then (if 0 ≤ x4 then (ref02_Sum.l0 k x0 (Int.tmod (wrap64 ((wrap64 ((wrap64 (x3 * 1000003)) + (wrap64 (bt x0 x4)))) + 1)) 2147483647) (wrap64 (x4 + 1))) else (none)) else (some x3)
def ref02_Sum.f (k : Nat) (a0 : ByteArray) : Option (Int) := ref02_Sum.l0 k a0 1 0
set_option maxHeartbeats 8000000 in
set_option maxRecDepth 100000 in
theorem ref02_Sum.calls (k : Nat) (a0 : ByteArray) (r : Int) (w : World) (h : ref02_Sum.f k a0 = some r) :
 Calls Try.prog 36 #[.string a0] w fun e w' => e = .returned (.int .i64 r) ∧ Drawn0 w w' := by
 have H : (ref02_Sum.l0 k a0 1 0) = some r := h; clear h; have H' := As H; clear H; go_enter Try.func36, Try.ntmps36; go_wp2; go_loopg [3, 4] k (fun kq v3 v4 w' => ∃ (a1_ : Int) (a0_ : Int), v3 = .int .i64 a1_ ∧ v4 = .int .i64 a0_ ∧ Aside0 (ref02_Sum.l0 kq a0 a1_ a0_ = some r) ∧ Aside0 (kq ≤ k) ∧ Drawn0 w w')
 case atStart => exact ⟨(1), (0), (by first | rfl | (simp; done) | (simp [*]; done)), (by first | rfl | (simp; done) | (simp [*]; done)), H', ⟨Nat.le_refl _⟩, by repeat (first | exact Drawn0.refl _ | apply Drawn0.step)⟩
 case round =>
  clear H'; obtain ⟨a1_, a0_, rfl, rfl, HA, HK1, ⟨m1, rfl⟩⟩ := hrel
  cases gk with
  | zero => exact absurd HA.out (by simp [ref02_Sum.l0])
  | succ k1 =>
   have H := HA.out; clear HA; simp only [ref02_Sum.l0] at H
   by_cases c2 : a0_ < (a0.size : Int)
   ·rw [if_pos c2] at H
    have a2_ : decide (a0_ < (a0.size : Int)) = true := decide_eq_true c2; clear c2
    by_cases c3 : 0 ≤ a0_
    ·rw [if_pos c3] at H
     have a3_ : decide (0 ≤ a0_) = true := decide_eq_true c3; clear c3; have H' := As H; clear H; have p4 : 0 ≤ (a0_ : Int) := dq; have q4 : a0_ < (a0.size : Int) := dq; have hx4 := bt_at a0 a0_; replace p4 := eq_true p4; replace q4 := eq_true q4; go_wp2; go_roundg k1
     case measure => have := HK1.out; omega
     case rel => exact ⟨(Int.tmod (wrap64 ((wrap64 ((wrap64 (a1_ * 1000003)) + (wrap64 (bt a0 a0_)))) + 1)) 2147483647), (wrap64 (a0_ + 1)), (by first | rfl | (simp; done) | (simp [*]; done)), (by first | rfl | (simp; done) | (simp [*]; done)), H', ⟨by have := HK1.out; omega⟩, by repeat (first | exact Drawn0.refl _ | apply Drawn0.step)⟩
    ·rw [if_neg c3] at H
     exact absurd H (by simp)
   ·rw [if_neg c2] at H
    have a2_ : decide (a0_ < (a0.size : Int)) = false := decide_eq_false c2; clear c2; obtain rfl := Option.some.inj H; go_wp2; go_ret; exact ⟨by first | rfl | (simp; done) | (simp [*]; done), by repeat (first | exact Drawn0.refl _ | apply Drawn0.step)⟩
def make_Mod.f (a0 : Int) (a1 : Int) : Option (Int) := if a1 = 0 then (none) else (some (Int.tmod (wrap64 ((Int.tmod a0 a1) + a1)) a1))
set_option maxHeartbeats 8000000 in
set_option maxRecDepth 100000 in
theorem make_Mod.calls (a0 : Int) (a1 : Int) (r : Int) (w : World) (h : make_Mod.f a0 a1 = some r) :
 Calls Try.prog 35 #[.int .i64 a0, .int .i64 a1] w fun e w' => e = .returned (.int .i64 r) ∧ Drawn0 w w' := by
 have H : (if a1 = 0 then (none) else (some (Int.tmod (wrap64 ((Int.tmod a0 a1) + a1)) a1))) = some r := h; clear h
 by_cases c3 : a1 = 0
 ·rw [if_pos c3] at H
  exact absurd H (by simp)
 ·rw [if_neg c3] at H
  have a0_ : (a1 == 0) = false := beq_eq_false_iff_ne.mpr c3; have a1_ : (a1 != 0) = true := bne_iff_ne.mpr c3; obtain rfl := Option.some.inj H; go_enter Try.func35, Try.ntmps35; go_wp2; go_ret; exact ⟨by first | rfl | (simp; done) | (simp [*]; done), by repeat (first | exact Drawn0.refl _ | apply Drawn0.step)⟩
def make_Few.f (l0 : List Int) : Option (Bool) := some (decide ((l0.length : Int) ≤ 500))
set_option maxHeartbeats 8000000 in
set_option maxRecDepth 100000 in
theorem make_Few.calls (A0 : Option Addr) (c0 : Nat) (l0 : List Int) (r : Bool) (w : World) (hr0 : Kd.C (Kd.int .i64) w A0 l0.length l0) (hc0 : l0.length ≤ c0) (h : make_Few.f l0 = some r) :
 Calls Try.prog 13 #[.slice A0 l0.length c0] w fun e w' => e = .returned (.bool r) ∧ Drawn0 w w' := by
 have HR0 := As hr0; have HC0 := As hc0; clear hr0 hc0; have H : (some (decide ((l0.length : Int) ≤ 500))) = some r := h; clear h; obtain rfl := Option.some.inj H; go_enter Try.func13, Try.ntmps13; go_wp2; go_ret; exact ⟨by first | rfl | (simp; done) | (simp [*]; done), by repeat (first | exact Drawn0.refl _ | apply Drawn0.step)⟩
theorem eqA33 (d : Nat) (w : World) (x0 y0 : Int) (x1 y1 : Int) (x2 y2 : ByteArray) :
 (Op.equalIn (d + 2) 33 (.agg #[.int .i64 x0, .int .i64 x1, .string x2]) (.agg #[.int .i64 y0, .int .i64 y1, .string y2])).run Try.prog w = .ok (x0 == y0 && (x1 == y1 && (x2.toList == y2.toList))) w := by
 refine eqA_of Try.underlying33 (by kernel_rfl) ?_
 refine eqf_cons (by rfl) (by go_simp; rfl) (by go_simp; rfl) (by go_simp) ?_
 refine eqf_cons (by rfl) (by go_simp; rfl) (by go_simp; rfl) (by go_simp) ?_
 exact eqf_last (by rfl) (by go_simp; rfl) (by go_simp; rfl) (by go_simp)
def ref09_find.l0 : Nat → Int → List (S33) → Int → Int → List (S33) → Option (Int × Bool)
 | 0, _, _, _, _, _ => none
 | k + 1, x1, x9, x10, x11, x215000 => if x11 < x10 then (if 0 ≤ x11 then (if x11 < (x9.length : Int) then (if ((rd_T33 x9 x11).f0) ≥ x1 then (some (x11, (((rd_T33 x9 x11).f0) == x1))) else (ref09_find.l0 k x1 x9 x10 (wrap64 (x11 + 1)) x215000)) else (none)) else (none)) else (some ((x215000.length : Int), false))
def ref09_find.f (k : Nat) (l0_0 : List (S33)) (a1 : Int) : Option (Int × Bool) := ref09_find.l0 k a1 l0_0 (l0_0.length : Int) 0 l0_0
set_option maxHeartbeats 8000000 in
set_option maxRecDepth 100000 in
theorem ref09_find.calls (k : Nat) (A0_0 : Option Addr) (c0_0 : Nat) (l0_0 : List (S33)) (a1 : Int) (r1 : Int) (r2 : Bool) (w : World) (hr0_0 : Kd.C k33 w A0_0 l0_0.length l0_0) (hc0_0 : l0_0.length ≤ c0_0) (h : ref09_find.f k l0_0 a1 = some (r1, r2)) :
 Calls Try.prog 37 #[.agg #[.slice A0_0 l0_0.length c0_0], .int .i64 a1] w fun e w' => e = .returned (.tuple #[.int .i64 r1, .bool r2]) ∧ Below w.heap.size w w' := by
 have hu25 := Try.underlying25; have hu33 := Try.underlying33; have HR0_0 := As hr0_0; have HC0_0 := As hc0_0; clear hr0_0 hc0_0; have HB := As (Below.refl w.heap.size w); have H : (ref09_find.l0 k a1 l0_0 (l0_0.length : Int) 0 l0_0) = some (r1, r2) := h; clear h; have H' := As H; clear H; go_enter Try.func37, Try.ntmps37; go_wp2_with (first | ((with_reducible refine gate_dst (N := 2) rfl ?_); refine bxE 2 #[.slice A0_0 l0_0.length c0_0] 25 ?_; intro a2_ hg w3 hbox hb; have a1_ := As (hbox); have b0_ := As (by rw [hg]; exact (below_size hBq) : w.heap.size ≤ a2_); replace HB := sBq hb; have b5_ := b0_; clear hb hbox hg; have b2_ : w3.cell? ⟨a2_, 0, none⟩ = some (.slice A0_0 l0_0.length c0_0) := (blk_cell a1_.out 0).trans rfl; have b3_ := blk_frozen a1_.out 0))
 (repeat (go_quiet (first | ((with_reducible refine gate_dst (N := 2) rfl ?_); refine bxE 2 #[.slice A0_0 l0_0.length c0_0] 25 ?_; intro a2_ hg w3 hbox hb; have a1_ := As (hbox); have b0_ := As (by rw [hg]; exact (below_size hBq) : w.heap.size ≤ a2_); replace HB := sBq hb; have b5_ := b0_; clear hb hbox hg; have b2_ : w3.cell? ⟨a2_, 0, none⟩ = some (.slice A0_0 l0_0.length c0_0) := (blk_cell a1_.out 0).trans rfl; have b3_ := blk_frozen a1_.out 0)); try go_wp2_with (first | ((with_reducible refine gate_dst (N := 2) rfl ?_); refine bxE 2 #[.slice A0_0 l0_0.length c0_0] 25 ?_; intro a2_ hg w3 hbox hb; have a1_ := As (hbox); have b0_ := As (by rw [hg]; exact (below_size hBq) : w.heap.size ≤ a2_); replace HB := sBq hb; have b5_ := b0_; clear hb hbox hg; have b2_ : w3.cell? ⟨a2_, 0, none⟩ = some (.slice A0_0 l0_0.length c0_0) := (blk_cell a1_.out 0).trans rfl; have b3_ := blk_frozen a1_.out 0))))
 go_loopg [11] k (fun kq v11 w' => ∃ (a4_ : Int), v11 = .int .i64 a4_ ∧ Aside0 (ref09_find.l0 kq a1 l0_0 (l0_0.length : Int) a4_ l0_0 = some (r1, r2)) ∧ Aside0 (kq ≤ k) ∧ Aside0 (w'.heap[a2_]? = some (.cells #[(.slice A0_0 l0_0.length c0_0)] 25 (0, 0))) ∧ Aside0 (Below w.heap.size w w'))
 case atStart => exact ⟨(0), (by first | rfl | (simp; done) | (simp [*]; done)), H', ⟨Nat.le_refl _⟩, ⟨by refine plT ?_; exact a1_.out⟩, ⟨hBq⟩⟩
 case round =>
  clear H'; (try clear p2); (try clear c3); (try clear b2_); (try clear b3_); obtain ⟨a4_, rfl, HA, HK1, a1_, HB⟩ := hrel
  cases gk with
  | zero => exact absurd HA.out (by simp [ref09_find.l0])
  | succ k1 =>
   have H := HA.out; clear HA; simp only [ref09_find.l0] at H
   by_cases c5 : a4_ < (l0_0.length : Int)
   ·rw [if_pos c5] at H
    have c1_ : decide (a4_ < (l0_0.length : Int)) = true := decide_eq_true c5; clear c5
    by_cases c6 : 0 ≤ a4_
    ·rw [if_pos c6] at H
     have c5_ : decide (0 ≤ a4_) = true := decide_eq_true c6; clear c6
     by_cases c7 : a4_ < (l0_0.length : Int)
     ·rw [if_pos c7] at H
      have c6_ : decide (a4_ < (l0_0.length : Int)) = true := decide_eq_true c7; clear c7
      by_cases c8 : ((rd_T33 l0_0 a4_).f0) ≥ a1
      ·rw [if_pos c8] at H
       have c2_ : decide (a1 ≤ ((rd_T33 l0_0 a4_).f0)) = true := decide_eq_true c8; clear c8; simp only [Option.some.injEq, Prod.mk.injEq] at H; obtain ⟨rfl, rfl⟩ := H; have a8_ : 0 ≤ (a4_ : Int) := dq; have a9_ : a4_ < (l0_0.length : Int) := dq; obtain ⟨c0_, b4_, _, _, _⟩ := at_T33 (Kd.C_below HR0_0.out HB.out) a4_ a8_ a9_; cases b4_; replace a8_ := eq_true a8_; replace a9_ := eq_true a9_
       go_wp2_with (first | ((with_reducible refine gate_dst (N := 7) rfl ?_); refine bxE 7 #[.int .i64 0, .int .i64 0, .string (⟨#[]⟩ : ByteArray)] 33 ?_; intro a5_ hg w9 hbox hb; have a6_ := As (hbox); have a7_ := As (by rw [hg]; exact (below_size hBq) : w.heap.size ≤ a5_); replace HB := sBq hb; have b1_ := a7_; have a0_ := As (by rw [hg]; exact Nat.ne_of_lt (blk_lt (g := a2_) (plq a1_.out)) : a2_ ≠ a5_); replace a1_ := As (blk_below (plq a1_.out) hb); have a3_ := As a0_.out.symm; clear hb hbox hg; have b6_ := a3_.out; have b7_ := a0_.out; have := cf3 a6_.out))
       (repeat (go_quiet (first | ((with_reducible refine gate_dst (N := 7) rfl ?_); refine bxE 7 #[.int .i64 0, .int .i64 0, .string (⟨#[]⟩ : ByteArray)] 33 ?_; intro a5_ hg w9 hbox hb; have a6_ := As (hbox); have a7_ := As (by rw [hg]; exact (below_size hBq) : w.heap.size ≤ a5_); replace HB := sBq hb; have b1_ := a7_; have a0_ := As (by rw [hg]; exact Nat.ne_of_lt (blk_lt (g := a2_) (plq a1_.out)) : a2_ ≠ a5_); replace a1_ := As (blk_below (plq a1_.out) hb); have a3_ := As a0_.out.symm; clear hb hbox hg; have b6_ := a3_.out; have b7_ := a0_.out; have := cf3 a6_.out)); try go_wp2_with (first | ((with_reducible refine gate_dst (N := 7) rfl ?_); refine bxE 7 #[.int .i64 0, .int .i64 0, .string (⟨#[]⟩ : ByteArray)] 33 ?_; intro a5_ hg w9 hbox hb; have a6_ := As (hbox); have a7_ := As (by rw [hg]; exact (below_size hBq) : w.heap.size ≤ a5_); replace HB := sBq hb; have b1_ := a7_; have a0_ := As (by rw [hg]; exact Nat.ne_of_lt (blk_lt (g := a2_) (plq a1_.out)) : a2_ ≠ a5_); replace a1_ := As (blk_below (plq a1_.out) hb); have a3_ := As a0_.out.symm; clear hb hbox hg; have b6_ := a3_.out; have b7_ := a0_.out; have := cf3 a6_.out))))
       go_ret2; exact ⟨erq, hBq⟩
      ·rw [if_neg c8] at H
       have c2_ : decide (a1 ≤ ((rd_T33 l0_0 a4_).f0)) = false := decide_eq_false c8; clear c8; have H' := As H; clear H; have a8_ : 0 ≤ (a4_ : Int) := dq; have a9_ : a4_ < (l0_0.length : Int) := dq; obtain ⟨c0_, b4_, _, _, _⟩ := at_T33 (Kd.C_below HR0_0.out HB.out) a4_ a8_ a9_; cases b4_; replace a8_ := eq_true a8_; replace a9_ := eq_true a9_
       go_wp2_with (first | ((with_reducible refine gate_dst (N := 7) rfl ?_); refine bxE 7 #[.int .i64 0, .int .i64 0, .string (⟨#[]⟩ : ByteArray)] 33 ?_; intro a5_ hg w12 hbox hb; have a6_ := As (hbox); have a7_ := As (by rw [hg]; exact (below_size hBq) : w.heap.size ≤ a5_); replace HB := sBq hb; have b1_ := a7_; have a0_ := As (by rw [hg]; exact Nat.ne_of_lt (blk_lt (g := a2_) (plq a1_.out)) : a2_ ≠ a5_); replace a1_ := As (blk_below (plq a1_.out) hb); have a3_ := As a0_.out.symm; clear hb hbox hg; have b8_ := a3_.out; have b9_ := a0_.out; have := cf3 a6_.out))
       (repeat (go_quiet (first | ((with_reducible refine gate_dst (N := 7) rfl ?_); refine bxE 7 #[.int .i64 0, .int .i64 0, .string (⟨#[]⟩ : ByteArray)] 33 ?_; intro a5_ hg w12 hbox hb; have a6_ := As (hbox); have a7_ := As (by rw [hg]; exact (below_size hBq) : w.heap.size ≤ a5_); replace HB := sBq hb; have b1_ := a7_; have a0_ := As (by rw [hg]; exact Nat.ne_of_lt (blk_lt (g := a2_) (plq a1_.out)) : a2_ ≠ a5_); replace a1_ := As (blk_below (plq a1_.out) hb); have a3_ := As a0_.out.symm; clear hb hbox hg; have b8_ := a3_.out; have b9_ := a0_.out; have := cf3 a6_.out)); try go_wp2_with (first | ((with_reducible refine gate_dst (N := 7) rfl ?_); refine bxE 7 #[.int .i64 0, .int .i64 0, .string (⟨#[]⟩ : ByteArray)] 33 ?_; intro a5_ hg w12 hbox hb; have a6_ := As (hbox); have a7_ := As (by rw [hg]; exact (below_size hBq) : w.heap.size ≤ a5_); replace HB := sBq hb; have b1_ := a7_; have a0_ := As (by rw [hg]; exact Nat.ne_of_lt (blk_lt (g := a2_) (plq a1_.out)) : a2_ ≠ a5_); replace a1_ := As (blk_below (plq a1_.out) hb); have a3_ := As a0_.out.symm; clear hb hbox hg; have b8_ := a3_.out; have b9_ := a0_.out; have := cf3 a6_.out))))
       go_roundg k1
       case measure => have := HK1.out; omega
       case rel => exact ⟨(wrap64 (a4_ + 1)), (by first | rfl | (simp; done) | (simp [*]; done)), H', ⟨by have := HK1.out; omega⟩, ⟨by (iterate 3 (refine plT ?_; refine blk_far ?_ a0_.out _)); refine plT ?_; exact a1_.out⟩, ⟨hBq⟩⟩
     ·rw [if_neg c7] at H
      exact absurd H (by simp)
    ·rw [if_neg c6] at H
     exact absurd H (by simp)
   ·rw [if_neg c5] at H
    have c1_ : decide (a4_ < (l0_0.length : Int)) = false := decide_eq_false c5; clear c5; simp only [Option.some.injEq, Prod.mk.injEq] at H; obtain ⟨rfl, rfl⟩ := H; have c3_ : wr.cell? ⟨a2_, 0, none⟩ = some (.slice A0_0 l0_0.length c0_0) := (blk_cell a1_.out 0).trans rfl; have c4_ := blk_frozen a1_.out 0; go_wp2; (repeat (go_quiet (fail); try go_wp2)); go_ret2; exact ⟨erq, hBq⟩
attribute [local go_sem high] eqA33
def api_Row_34.l0 : Nat → List (S33) → List (S33) → Int → Int → Option (Bool)
 | 0, _, _, _, _ => none
 | k + 1, x0, x1, x12, x13 => if x13 < x12 then (if 0 ≤ x13 then (if x13 < (x0.length : Int) then (if x13 < (x1.length : Int) then (if (!(((rd_T33 x0 x13).f0) == ((rd_T33 x1 x13).f0)) || (!(((rd_T33 x0 x13).f1) == ((rd_T33 x1 x13).f1)) || (!((((rd_T33 x0 x13).f2).toList) == (((rd_T33 x1 x13).f2).toList))))) = true then (some false) else (api_Row_34.l0 k x0 x1 x12 (wrap64 (x13 + 1)))) else (none)) else (none)) else (none)) else (some true)
def api_Row_34.f (k : Nat) (l0 : List (S33)) (l1 : List (S33)) : Option (Bool) := if (l0.length : Int) = (l1.length : Int) then (api_Row_34.l0 k l0 l1 (l0.length : Int) 0) else (some false)
set_option maxHeartbeats 8000000 in
set_option maxRecDepth 100000 in
theorem api_Row_34.calls (k : Nat) (A0 : Option Addr) (c0 : Nat) (l0 : List (S33)) (A1 : Option Addr) (c1 : Nat) (l1 : List (S33)) (r : Bool) (w : World) (hr0 : Kd.C k33 w A0 l0.length l0) (hc0 : l0.length ≤ c0) (hr1 : Kd.C k33 w A1 l1.length l1) (hc1 : l1.length ≤ c1) (h : api_Row_34.f k l0 l1 = some r) :
 Calls Try.prog 34 #[.slice A0 l0.length c0, .slice A1 l1.length c1] w fun e w' => e = .returned (.bool r) ∧ Drawn0 w w' := by
 have hu33 := Try.underlying33; have HR0 := As hr0; have HC0 := As hc0; clear hr0 hc0; have HR1 := As hr1; have HC1 := As hc1; clear hr1 hc1; have H : (if (l0.length : Int) = (l1.length : Int) then (api_Row_34.l0 k l0 l1 (l0.length : Int) 0) else (some false)) = some r := h; clear h
 by_cases c3 : (l0.length : Int) = (l1.length : Int)
 ·rw [if_pos c3] at H
  have a7_ : ((l0.length : Int) == (l1.length : Int)) = true := beq_iff_eq.mpr c3; have a8_ : ((l0.length : Int) != (l1.length : Int)) = false := bne_eq_false_iff_eq.mpr c3; (have a9_ : (l0.length == l1.length) = true := by first | simpa using c3 | (simp at c3 ⊢; omega)); clear c3; have H' := As H; clear H; go_enter Try.func34, Try.ntmps34; go_wp2; (repeat (go_quiet (fail); try go_wp2)); go_loopg [13] k (fun kq v13 w' => ∃ (a0_ : Int), v13 = .int .i64 a0_ ∧ Aside0 (api_Row_34.l0 kq l0 l1 (l0.length : Int) a0_ = some r) ∧ Aside0 (kq ≤ k) ∧ Drawn0 w w')
  case atStart => exact ⟨(0), (by first | rfl | (simp; done) | (simp [*]; done)), H', ⟨Nat.le_refl _⟩, by repeat (first | exact Drawn0.refl _ | apply Drawn0.step)⟩
  case round =>
   clear H'; (try clear c1); (try clear p2); (try clear c3); (try clear a7_); (try clear a8_); (try clear a9_); obtain ⟨a0_, rfl, HA, HK1, ⟨m1, rfl⟩⟩ := hrel
   cases gk with
   | zero => exact absurd HA.out (by simp [api_Row_34.l0])
   | succ k1 =>
    have H := HA.out; clear HA; simp only [api_Row_34.l0] at H
    by_cases c4 : a0_ < (l0.length : Int)
    ·rw [if_pos c4] at H
     have b2_ : decide (a0_ < (l0.length : Int)) = true := decide_eq_true c4; clear c4
     by_cases c5 : 0 ≤ a0_
     ·rw [if_pos c5] at H
      have b4_ : decide (0 ≤ a0_) = true := decide_eq_true c5; clear c5
      by_cases c6 : a0_ < (l0.length : Int)
      ·rw [if_pos c6] at H
       have b5_ : decide (a0_ < (l0.length : Int)) = true := decide_eq_true c6; clear c6
       by_cases c7 : a0_ < (l1.length : Int)
       ·rw [if_pos c7] at H
        have b6_ : decide (a0_ < (l1.length : Int)) = true := decide_eq_true c7; clear c7
        by_cases c8 : (!(((rd_T33 l0 a0_).f0) == ((rd_T33 l1 a0_).f0)) || (!(((rd_T33 l0 a0_).f1) == ((rd_T33 l1 a0_).f1)) || (!((((rd_T33 l0 a0_).f2).toList) == (((rd_T33 l1 a0_).f2).toList))))) = true
        ·rw [if_pos c8] at H
         have b3_ : (!(((rd_T33 l0 a0_).f0) == ((rd_T33 l1 a0_).f0)) || (!(((rd_T33 l0 a0_).f1) == ((rd_T33 l1 a0_).f1)) || (!((((rd_T33 l0 a0_).f2).toList) == (((rd_T33 l1 a0_).f2).toList))))) = true := c8; clear c8; obtain rfl := Option.some.inj H; have a1_ : 0 ≤ (a0_ : Int) := dq; have a2_ : a0_ < (l0.length : Int) := dq; obtain ⟨b0_, a5_, _, _, _⟩ := at_T33 HR0.out a0_ a1_ a2_; cases a5_; replace a1_ := eq_true a1_; replace a2_ := eq_true a2_; have a3_ : 0 ≤ (a0_ : Int) := dq; have a4_ : a0_ < (l1.length : Int) := dq; obtain ⟨b1_, a6_, _, _, _⟩ := at_T33 HR1.out a0_ a3_ a4_; cases a6_; replace a3_ := eq_true a3_; replace a4_ := eq_true a4_; go_wp2; (repeat (go_quiet (fail); try go_wp2)); go_ret; exact ⟨by first | rfl | (simp; done) | (simp [*]; done), by repeat (first | exact Drawn0.refl _ | apply Drawn0.step)⟩
        ·rw [if_neg c8] at H
         (have b3_ : (!(((rd_T33 l0 a0_).f0) == ((rd_T33 l1 a0_).f0)) || (!(((rd_T33 l0 a0_).f1) == ((rd_T33 l1 a0_).f1)) || (!((((rd_T33 l0 a0_).f2).toList) == (((rd_T33 l1 a0_).f2).toList))))) = false := by simpa using c8); clear c8; have H' := As H; clear H; have a1_ : 0 ≤ (a0_ : Int) := dq; have a2_ : a0_ < (l0.length : Int) := dq; obtain ⟨b0_, a5_, _, _, _⟩ := at_T33 HR0.out a0_ a1_ a2_; cases a5_; replace a1_ := eq_true a1_; replace a2_ := eq_true a2_; have a3_ : 0 ≤ (a0_ : Int) := dq; have a4_ : a0_ < (l1.length : Int) := dq; obtain ⟨b1_, a6_, _, _, _⟩ := at_T33 HR1.out a0_ a3_ a4_; cases a6_; replace a3_ := eq_true a3_; replace a4_ := eq_true a4_; go_wp2; (repeat (go_quiet (fail); try go_wp2)); go_roundg k1
         case measure => have := HK1.out; omega
         case rel => exact ⟨(wrap64 (a0_ + 1)), (by first | rfl | (simp; done) | (simp [*]; done)), H', ⟨by have := HK1.out; omega⟩, by repeat (first | exact Drawn0.refl _ | apply Drawn0.step)⟩
       ·rw [if_neg c7] at H
        exact absurd H (by simp)
      ·rw [if_neg c6] at H
       exact absurd H (by simp)
     ·rw [if_neg c5] at H
      exact absurd H (by simp)
    ·rw [if_neg c4] at H
     have b2_ : decide (a0_ < (l0.length : Int)) = false := decide_eq_false c4; clear c4; obtain rfl := Option.some.inj H; go_wp2; (repeat (go_quiet (fail); try go_wp2)); go_ret; exact ⟨by first | rfl | (simp; done) | (simp [*]; done), by repeat (first | exact Drawn0.refl _ | apply Drawn0.step)⟩
 ·rw [if_neg c3] at H
  have a7_ : ((l0.length : Int) == (l1.length : Int)) = false := beq_eq_false_iff_ne.mpr c3; have a8_ : ((l0.length : Int) != (l1.length : Int)) = true := bne_iff_ne.mpr c3; (have a9_ : (l0.length == l1.length) = false := by first | simpa using c3 | (simp at c3 ⊢; omega)); obtain rfl := Option.some.inj H; go_enter Try.func34, Try.ntmps34; go_wp2; (repeat (go_quiet (fail); try go_wp2)); go_ret; exact ⟨by first | rfl | (simp; done) | (simp [*]; done), by repeat (first | exact Drawn0.refl _ | apply Drawn0.step)⟩
def refs_Same.f (k : Nat) (l0_0 : List (S33)) (l1_0 : List (S33)) : Option (Bool) := (api_Row_34.f k l0_0 l1_0).bind fun a3_ => (some a3_)
set_option maxHeartbeats 8000000 in
set_option maxRecDepth 100000 in
theorem refs_Same.calls (k : Nat) (A0_0 : Option Addr) (c0_0 : Nat) (l0_0 : List (S33)) (A1_0 : Option Addr) (c1_0 : Nat) (l1_0 : List (S33)) (r : Bool) (w : World) (hr0_0 : Kd.C k33 w A0_0 l0_0.length l0_0) (hc0_0 : l0_0.length ≤ c0_0) (hr1_0 : Kd.C k33 w A1_0 l1_0.length l1_0) (hc1_0 : l1_0.length ≤ c1_0) (h : refs_Same.f k l0_0 l1_0 = some r) :
 Calls Try.prog 17 #[.agg #[.slice A0_0 l0_0.length c0_0], .agg #[.slice A1_0 l1_0.length c1_0]] w fun e w' => e = .returned (.bool r) ∧ Below w.heap.size w w' := by
 have hu25 := Try.underlying25; have HR0_0 := As hr0_0; have HC0_0 := As hc0_0; clear hr0_0 hc0_0; have HR1_0 := As hr1_0; have HC1_0 := As hc1_0; clear hr1_0 hc1_0; have HB := As (Below.refl w.heap.size w); have H : ((api_Row_34.f k l0_0 l1_0).bind fun a3_ => (some a3_)) = some r := h; clear h; obtain ⟨a3_, A3, H⟩ := bnd H; (try dsimp only at H); obtain rfl := Option.some.inj H; go_enter Try.func17, Try.ntmps17
 go_wp2_with (first | ((with_reducible refine gate_dst (N := 2) rfl ?_); refine bxE 2 #[.slice A0_0 l0_0.length c0_0] 25 ?_; intro a2_ hg w4 hbox hb; have a0_ := As (hbox); have a7_ := As (by rw [hg]; exact (below_size hBq) : w.heap.size ≤ a2_); replace HB := sBq hb; have b3_ := a7_; clear hb hbox hg) | ((with_reducible refine gate_dst (N := 3) rfl ?_); refine bxE 3 #[.slice A1_0 l1_0.length c1_0] 25 ?_; intro a4_ hg w5 hbox hb; have a6_ := As (hbox); have a8_ := As (by rw [hg]; exact (below_size hBq) : w.heap.size ≤ a4_); replace HB := sBq hb; have b4_ := a8_; have a1_ := As (by rw [hg]; exact Nat.ne_of_lt (blk_lt (g := a2_) (plq a0_.out)) : a2_ ≠ a4_); replace a0_ := As (blk_below (plq a0_.out) hb); have a5_ := As a1_.out.symm; clear hb hbox hg; have b5_ := a1_.out; have b6_ := a5_.out; have a9_ : w5.cell? ⟨a2_, 0, none⟩ = some (.slice A0_0 l0_0.length c0_0) := (blk_cell a0_.out 0).trans rfl; have b0_ := blk_frozen a0_.out 0; have b1_ : w5.cell? ⟨a4_, 0, none⟩ = some (.slice A1_0 l1_0.length c1_0) := (blk_cell a6_.out 0).trans rfl; have b2_ := blk_frozen a6_.out 0) | ((with_reducible refine gate_callee (f := 34) rfl ?_); refine gL (some 9) Try.func34 #[.slice A0_0 l0_0.length c0_0, .slice A1_0 l1_0.length c1_0] ?_; (with_reducible refine (api_Row_34.calls k _ _ l0_0 _ _ l1_0 a3_ _ ?side1 ?side2 ?side3 ?side4 A3.out).mono ?_); (case side1 => exact cq ⟨Kd.C_below HR0_0.out HB.out⟩); (case side2 => exact HC0_0.out); (case side3 => exact cq ⟨Kd.C_below HR1_0.out HB.out⟩); (case side4 => exact HC1_0.out); rintro e w' ⟨rfl, ⟨nd, rfl⟩⟩; refine ⟨_, rfl, ?_⟩))
 go_ret; exact ⟨erq, hBq⟩
def digest_Sum.l0 : Nat → ByteArray → Int → Int → Int → Option (Int)
 | 0, _, _, _, _ => none
 | k + 1, x0, x3, x6, x7 => if x7 < x6 then (if 0 ≤ x7 then (if x7 < (x0.size : Int) then (digest_Sum.l0 k x0 (Int.tmod (wrap64 ((wrap64 ((wrap64 (x3 * 1000003)) + (wrap64 (bt x0 x7)))) + 1)) 2147483647) x6 (wrap64 (x7 + 1))) else (none)) else (none)) else (some x3)
def digest_Sum.f (k : Nat) (a0 : ByteArray) : Option (Int) := digest_Sum.l0 k a0 1 (a0.size : Int) 0
set_option maxHeartbeats 8000000 in
set_option maxRecDepth 100000 in
theorem digest_Sum.calls (k : Nat) (a0 : ByteArray) (r : Int) (w : World) (h : digest_Sum.f k a0 = some r) :
 Calls Try.prog 10 #[.string a0] w fun e w' => e = .returned (.int .i64 r) ∧ Drawn0 w w' := by
 have H : (digest_Sum.l0 k a0 1 (a0.size : Int) 0) = some r := h; clear h; have H' := As H; clear H; go_enter Try.func10, Try.ntmps10; go_wp2; go_loopg [3, 7] k (fun kq v3 v7 w' => ∃ (a1_ : Int) (a0_ : Int), v3 = .int .i64 a1_ ∧ v7 = .int .i64 a0_ ∧ Aside0 (digest_Sum.l0 kq a0 a1_ (a0.size : Int) a0_ = some r) ∧ Aside0 (kq ≤ k) ∧ Drawn0 w w')
 case atStart => exact ⟨(1), (0), (by first | rfl | (simp; done) | (simp [*]; done)), (by first | rfl | (simp; done) | (simp [*]; done)), H', ⟨Nat.le_refl _⟩, by repeat (first | exact Drawn0.refl _ | apply Drawn0.step)⟩
 case round =>
  clear H'; (try clear c1); obtain ⟨a1_, a0_, rfl, rfl, HA, HK1, ⟨m1, rfl⟩⟩ := hrel
  cases gk with
  | zero => exact absurd HA.out (by simp [digest_Sum.l0])
  | succ k1 =>
   have H := HA.out; clear HA; simp only [digest_Sum.l0] at H
   by_cases c2 : a0_ < (a0.size : Int)
   ·rw [if_pos c2] at H
    have a2_ : decide (a0_ < (a0.size : Int)) = true := decide_eq_true c2; clear c2
    by_cases c3 : 0 ≤ a0_
    ·rw [if_pos c3] at H
     have a3_ : decide (0 ≤ a0_) = true := decide_eq_true c3; clear c3
     by_cases c4 : a0_ < (a0.size : Int)
     ·rw [if_pos c4] at H
      have a4_ : decide (a0_ < (a0.size : Int)) = true := decide_eq_true c4; clear c4; have H' := As H; clear H; have p5 : 0 ≤ (a0_ : Int) := dq; have q5 : a0_ < (a0.size : Int) := dq; have hx5 := bt_at a0 a0_; replace p5 := eq_true p5; replace q5 := eq_true q5; go_wp2; go_roundg k1
      case measure => have := HK1.out; omega
      case rel => exact ⟨(Int.tmod (wrap64 ((wrap64 ((wrap64 (a1_ * 1000003)) + (wrap64 (bt a0 a0_)))) + 1)) 2147483647), (wrap64 (a0_ + 1)), (by first | rfl | (simp; done) | (simp [*]; done)), (by first | rfl | (simp; done) | (simp [*]; done)), H', ⟨by have := HK1.out; omega⟩, by repeat (first | exact Drawn0.refl _ | apply Drawn0.step)⟩
     ·rw [if_neg c4] at H
      exact absurd H (by simp)
    ·rw [if_neg c3] at H
     exact absurd H (by simp)
   ·rw [if_neg c2] at H
    have a2_ : decide (a0_ < (a0.size : Int)) = false := decide_eq_false c2; clear c2; obtain rfl := Option.some.inj H; go_wp2; go_ret; exact ⟨by first | rfl | (simp; done) | (simp [*]; done), by repeat (first | exact Drawn0.refl _ | apply Drawn0.step)⟩
def IsS57 (w0 W : World) (g : Nat) (f0 : List Int) (f1 : Int) : Prop := ∃ A0 c0, W.heap[g]? = some (.cells #[.slice A0 f0.length c0, .int .i64 f1] 57 (0, 0)) ∧ w0.heap.size ≤ g ∧ Kd.C (Kd.int .i64) w0 A0 f0.length f0
theorem IsS57.grown {w0 W : World} {g : Nat} {f0 : List Int} {f1 : Int} {W1 : World} {row : Option Nat} (h : IsS57 w0 W g f0 f1) (hw : W.grownBy W1 row) (hne : some g ≠ row) : IsS57 w0 W1 g f0 f1 := by
 obtain ⟨A0, c0, hb, hg, hr0⟩ := h; exact ⟨A0, c0, blk_grown hb hw hne, hg, hr0⟩
theorem IsS57.own_neN {w0 W : World} {g : Nat} {f0 : List Int} {f1 : Int} {α : Type} {d : Kd α} {e : Nat} {base : Nat} {ok : Nat → Prop} {v : Value} {xs : List α} (h : IsS57 w0 W g f0 f1) (ho : Kd.N d e W base ok v xs) (ht : e ≠ 57) : some g ≠ v.ownBlock := by
 obtain ⟨A0, c0, hb, hg, hr0⟩ := h; exact Kd.N_ne ho hb ht
theorem IsS57.fresh {w0 W : World} {g : Nat} {f0 : List Int} {f1 : Int} (h : IsS57 w0 W g f0 f1) : ∀ k, W.heap.size ≤ k → k ≠ g := by
 obtain ⟨A0, c0, hb, hg, hr0⟩ := h; exact Kd.freshB hb
theorem IsS57.kept {w0 W : World} {g : Nat} {f0 : List Int} {f1 : Int} {W1 : World} {S : Nat → Prop} (h : IsS57 w0 W g f0 f1) (hk : Kept W W1 S) (hne : ¬ S g) : IsS57 w0 W1 g f0 f1 := by
 obtain ⟨A0, c0, hb, hg, hr0⟩ := h; exact ⟨A0, c0, blk_kept hb hk hne, hg, hr0⟩
theorem IsS57.below {w0 W : World} {g : Nat} {f0 : List Int} {f1 : Int} {W1 : World} (h : IsS57 w0 W g f0 f1) (hw : Below W.heap.size W W1) : IsS57 w0 W1 g f0 f1 := h.grown (grown_of_below hw none) (by simp)
theorem IsS57.alloc {w0 W : World} {g : Nat} {f0 : List Int} {f1 : Int} (h : IsS57 w0 W g f0 f1) (o : Obj) : IsS57 w0 (W.alloc o) g f0 f1 := h.below (below_alloc (Below.refl _ _) o)
theorem IsS57.drewN {w0 W : World} {g : Nat} {f0 : List Int} {f1 : Int} (h : IsS57 w0 W g f0 f1) (m : Nat) : IsS57 w0 (W.drewN m) g f0 f1 := h
theorem IsS57.drew {w0 W : World} {g : Nat} {f0 : List Int} {f1 : Int} (h : IsS57 w0 W g f0 f1) : IsS57 w0 W.drew g f0 f1 := h
theorem IsS57.at_ {w0 W : World} {g : Nat} {f0 : List Int} {f1 : Int} {w' : World} {m : Nat} (hq : W.drewN m = w') (h : IsS57 w0 W g f0 f1) : IsS57 w0 w' g f0 f1 := by subst hq; exact IsS57.drewN h m
theorem IsS57.apart {w0 W : World} {g : Nat} {f0 : List Int} {f1 : Int} {α : Type} {d : Kd α} {e : Nat} {base : Nat} {ok : Nat → Prop} {v : Value} {xs : List α} (h : IsS57 w0 W g f0 f1) (ho : d.R e W base ok v xs) (ht : ∀ q, q ∈ e :: d.E → q ≠ 57) : d.R e W base (fun k => ok k ∧ k ≠ g) v xs := by
 obtain ⟨A0, c0, hb, hg, hr0⟩ := h; exact Kd.R_types ho hb ht
theorem IsS57.own_ne {w0 W : World} {g : Nat} {f0 : List Int} {f1 : Int} {α : Type} {d : Kd α} {e : Nat} {base : Nat} {ok : Nat → Prop} {v : Value} {xs : List α} (h : IsS57 w0 W g f0 f1) (ho : d.R e W base ok v xs) (ht : e ≠ 57) : some g ≠ v.ownBlock := by
 obtain ⟨A0, c0, hb, hg, hr0⟩ := h; exact Kd.R_ne ho hb ht
theorem IsS57.apartQ {w0 W : World} {g : Nat} {f0 : List Int} {f1 : Int} {α : Type} {d : Kd α} {e : Nat} {base : Nat} {ok : Nat → Prop} {v : Value} {xs : List α} (h : IsS57 w0 W g f0 f1) (ho : d.Q e W base ok v xs) (ht : ∀ q, q ∈ e :: d.E → q ≠ 57) : d.Q e W base (fun k => ok k ∧ k ≠ g) v xs := by
 obtain ⟨A0, c0, hb, hg, hr0⟩ := h; exact Kd.Q_types ho hb ht
theorem IsS57.own_neQ {w0 W : World} {g : Nat} {f0 : List Int} {f1 : Int} {α : Type} {d : Kd α} {e : Nat} {base : Nat} {ok : Nat → Prop} {v : Value} {xs : List α} (h : IsS57 w0 W g f0 f1) (ho : d.Q e W base ok v xs) (ht : e ≠ 57) : some g ≠ v.ownBlock := by
 obtain ⟨A0, c0, hb, hg, hr0⟩ := h; exact Kd.Q_ne ho hb ht
theorem IsS57.apartS {w0 W : World} {g : Nat} {f0 : List Int} {f1 : Int} {α : Type} {d : Kd α} {e : Nat} {base : Nat} {ok : Nat → Prop} {v : Value} {xs : List α} (h : IsS57 w0 W g f0 f1) (ho : d.S e W base ok v xs) (ht : ∀ q, q ∈ e :: d.E → q ≠ 57) : d.S e W base (fun k => ok k ∧ k ≠ g) v xs := by
 obtain ⟨A0, c0, hb, hg, hr0⟩ := h; exact Kd.S_types ho hb ht
theorem IsS57.own_neS {w0 W : World} {g : Nat} {f0 : List Int} {f1 : Int} {α : Type} {d : Kd α} {e : Nat} {base : Nat} {ok : Nat → Prop} {v : Value} {xs : List α} (h : IsS57 w0 W g f0 f1) (ho : d.S e W base ok v xs) (ht : e ≠ 57) : some g ≠ v.ownBlock := by
 obtain ⟨A0, c0, hb, hg, hr0⟩ := h; exact Kd.S_ne ho hb ht
theorem IsS57.lt {w0 W : World} {g : Nat} {f0 : List Int} {f1 : Int} (h : IsS57 w0 W g f0 f1) : g < W.heap.size := by
 obtain ⟨A0, c0, hb, hg, hr0⟩ := h; exact blk_lt hb
theorem IsS57.ge {w0 W : World} {g : Nat} {f0 : List Int} {f1 : Int} (h : IsS57 w0 W g f0 f1) : w0.heap.size ≤ g := by
 obtain ⟨A0, c0, hb, hg, hr0⟩ := h; exact hg
theorem IsS57.ne_blk {w0 W : World} {g : Nat} {f0 : List Int} {f1 : Int} {a : Nat} {cs : Array Value} {t : TypeId} {fr : Nat × Nat} (h : IsS57 w0 W g f0 f1) (hb2 : W.heap[a]? = some (.cells cs t fr)) (ht : t ≠ 57) : g ≠ a := by
 obtain ⟨A0, c0, hb, hg, hr0⟩ := h; rintro rfl; rw [hb] at hb2; injection hb2 with hb2; injection hb2 with _ ht2; exact ht ht2.symm
theorem IsS57.far {w0 W : World} {g : Nat} {f0 : List Int} {f1 : Int} {p : Addr} (h : IsS57 w0 W g f0 f1) (hne : g ≠ p.block) (u : Value) : IsS57 w0 (W.setCell p u) g f0 f1 := by
 obtain ⟨A0, c0, hb, hg, hr0⟩ := h; exact ⟨A0, c0, blk_far hb hne u, hg, hr0⟩
theorem cellS57_0 {W : World} {g : Nat} {A0 : Option Addr} {c0 : Nat} {f0 : List Int} {f1 : Int} (h : W.heap[g]? = some (.cells #[.slice A0 f0.length c0, .int .i64 f1] 57 (0, 0))) : W.cell? ⟨g, 0, none⟩ = some (.slice A0 f0.length c0) := (blk_cell h 0).trans rfl
theorem cellS57_1 {W : World} {g : Nat} {A0 : Option Addr} {c0 : Nat} {f0 : List Int} {f1 : Int} (h : W.heap[g]? = some (.cells #[.slice A0 f0.length c0, .int .i64 f1] 57 (0, 0))) : W.cell? ⟨g, 1, none⟩ = some (.int .i64 f1) := (blk_cell h 1).trans rfl
theorem IsS57.set_1 {w0 W : World} {g : Nat} {f0 : List Int} {f1 : Int} (h : IsS57 w0 W g f0 f1) (x : Int) : IsS57 w0 (W.setCell ⟨g, 1, none⟩ (.int .i64 x)) g f0 x := by
 obtain ⟨A0, c0, hb, hg, hr0⟩ := h; exact ⟨A0, c0, by simpa using blk_set hb 1 (.int .i64 x), hg, hr0⟩
theorem IsS57.new (w0 W : World) (A0 : Option Addr) (c0 : Nat) (f0 : List Int) (f1 : Int) (hB : Below w0.heap.size w0 W) (hr0 : Kd.C (Kd.int .i64) w0 A0 f0.length f0) : IsS57 w0 (W.alloc (.cells #[.slice A0 f0.length c0, .int .i64 f1] 57)) W.heap.size f0 f1 := ⟨A0, c0, by simpa using heap_alloc_new W _, hB.size, hr0⟩
def make_Deck_Next.f (s0_0 : List Int) (s0_1 : Int) (a1 : Int) : Option (Int × Int) := if a1 < 1 then (some (0, s0_1)) else (if s0_1 ≥ (s0_0.length : Int) then (some (0, s0_1)) else (if 0 ≤ s0_1 then (if s0_1 < (s0_0.length : Int) then ((make_Mod.f (rd s0_0 s0_1) a1).bind fun a0_ => (some (a0_, wrap64 (s0_1 + 1)))) else (none)) else (none)))
theorem make_Deck_Next.iq0F {w0 W : World} {g h j : Nat} {f0 : List Int} {f1 : Int} (h0 : IsS57 w0 W g f0 f1) (hne : Aside0 (g ≠ h)) (u : Value) : IsS57 w0 (W.setCell ⟨h, j, none⟩ u) g f0 f1 := IsS57.far h0 hne.out u
theorem make_Deck_Next.iq0 {w0 W : World} {g : Nat} {f0 : List Int} {f1 : Int} (h : IsS57 w0 W g f0 f1 := by repeat (first | (with_reducible first | exact HI0.out | apply IsS57.alloc | apply IsS57.drewN | apply IsS57.drew | apply IsS57.set_1 | refine make_Deck_Next.iq0F ?_ ‹_› _) | exact HI0.out)) : IsS57 w0 W g f0 f1 := h
theorem make_Deck_Next.bq0 {w W : World} (h : Below w.heap.size w W := by repeat (first | (with_reducible first | exact HB.out | apply uA | apply uN | apply uD | refine uS ?_ (IsS57.ge HI0.out) | refine uS2 ?_ ‹_›) | exact HB.out)) : Below w.heap.size w W := h
set_option maxHeartbeats 8000000 in
set_option maxRecDepth 100000 in
theorem make_Deck_Next.calls (g : Nat) (s0_0 : List Int) (s0_1 : Int) (a1 : Int) (r1 : Int) (r2 : Int) (w0 w : World) (hI : IsS57 w0 w g s0_0 s0_1) (hB : Below w0.heap.size w0 w) (h : make_Deck_Next.f s0_0 s0_1 a1 = some (r1, r2)) :
 Calls Try.prog 18 #[.pointer (some ⟨g, 0, none⟩), .int .i64 a1] w fun e w' => e = .returned (.int .i64 r1) ∧ IsS57 w0 w' g s0_0 r2 ∧ Below w0.heap.size w0 w' ∧ KeepBut w w' g none := by
 have HI0 := As hI; have HK := As (KeepBut.refl w g none); have HL := As hB.size; clear hI; have HW0 := As hB.size; have HB := As hB; clear hB; have H : (if a1 < 1 then (some (0, s0_1)) else (if s0_1 ≥ (s0_0.length : Int) then (some (0, s0_1)) else (if 0 ≤ s0_1 then (if s0_1 < (s0_0.length : Int) then ((make_Mod.f (rd s0_0 s0_1) a1).bind fun a0_ => (some (a0_, wrap64 (s0_1 + 1)))) else (none)) else (none)))) = some (r1, r2) := h; clear h
 by_cases c3 : a1 < 1
 ·rw [if_pos c3] at H
  have a4_ : decide (a1 < 1) = true := decide_eq_true c3; clear c3; simp only [Option.some.injEq, Prod.mk.injEq] at H; obtain ⟨rfl, rfl⟩ := H; go_enter Try.func18, Try.ntmps18; go_wp2; (repeat (go_quiet (fail); try go_wp2)); go_ret; exact ⟨erq, make_Deck_Next.iq0, make_Deck_Next.bq0, hKq⟩
 ·rw [if_neg c3] at H
  have a4_ : decide (a1 < 1) = false := decide_eq_false c3; clear c3
  by_cases c4 : s0_1 ≥ (s0_0.length : Int)
  ·rw [if_pos c4] at H
   have a5_ : decide ((s0_0.length : Int) ≤ s0_1) = true := decide_eq_true c4; clear c4; simp only [Option.some.injEq, Prod.mk.injEq] at H; obtain ⟨rfl, rfl⟩ := H; obtain ⟨ASz5_0, cSz5_0, HGz5, hgz5, HSz5_0⟩ := HI0.out; have a7_ := cellS57_0 HGz5; have a8_ := cellS57_1 HGz5; have a9_ := blk_frozen HGz5 1; clear HGz5 hgz5; go_enter Try.func18, Try.ntmps18; go_wp2; (repeat (go_quiet (fail); try go_wp2)); go_ret; exact ⟨erq, make_Deck_Next.iq0, make_Deck_Next.bq0, hKq⟩
  ·rw [if_neg c4] at H
   have a5_ : decide ((s0_0.length : Int) ≤ s0_1) = false := decide_eq_false c4; clear c4
   by_cases c6 : 0 ≤ s0_1
   ·rw [if_pos c6] at H
    have b4_ : decide (0 ≤ s0_1) = true := decide_eq_true c6; clear c6
    by_cases c7 : s0_1 < (s0_0.length : Int)
    ·rw [if_pos c7] at H
     have b5_ : decide (s0_1 < (s0_0.length : Int)) = true := decide_eq_true c7; clear c7; obtain ⟨a0_, A8, H⟩ := bnd H; (try dsimp only at H); simp only [Option.some.injEq, Prod.mk.injEq] at H; obtain ⟨rfl, rfl⟩ := H; obtain ⟨ASz9_0, cSz9_0, HGz9, hgz9, HSz9_0⟩ := HI0.out; have b0_ := cellS57_0 HGz9; have b1_ := cellS57_1 HGz9; have b2_ := blk_frozen HGz9 1; clear HGz9 hgz9; have a2_ : 0 ≤ (s0_1 : Int) := dq; have a3_ : s0_1 < (s0_0.length : Int) := dq; obtain ⟨b3_, a6_, a1_⟩ := Kd.at_int HSz9_0 s0_1 a2_ a3_; cases a6_; replace a1_ := pw_cell_below HB.out a1_; replace a2_ := eq_true a2_; replace a3_ := eq_true a3_; go_enter Try.func18, Try.ntmps18; go_wp2_with (first | (go_at_call 35; (with_reducible refine (make_Mod.calls (rd s0_0 s0_1) a1 a0_ _ A8.out).mono ?_); rintro e w' ⟨rfl, ⟨nd, rfl⟩⟩; (try first | exact ⟨rfl, _, World.drewN_drewN _ _ _⟩ | exact ⟨rfl, _, Eq.trans (World.drewN_drewN _ _ _) (congrArg (World.drewN _) (Nat.add_assoc _ _ _))⟩)))
     (repeat (go_quiet (first | (go_at_call 35; (with_reducible refine (make_Mod.calls (rd s0_0 s0_1) a1 a0_ _ A8.out).mono ?_); rintro e w' ⟨rfl, ⟨nd, rfl⟩⟩; (try first | exact ⟨rfl, _, World.drewN_drewN _ _ _⟩ | exact ⟨rfl, _, Eq.trans (World.drewN_drewN _ _ _) (congrArg (World.drewN _) (Nat.add_assoc _ _ _))⟩))); try go_wp2_with (first | (go_at_call 35; (with_reducible refine (make_Mod.calls (rd s0_0 s0_1) a1 a0_ _ A8.out).mono ?_); rintro e w' ⟨rfl, ⟨nd, rfl⟩⟩; (try first | exact ⟨rfl, _, World.drewN_drewN _ _ _⟩ | exact ⟨rfl, _, Eq.trans (World.drewN_drewN _ _ _) (congrArg (World.drewN _) (Nat.add_assoc _ _ _))⟩))))); go_ret; exact ⟨erq, make_Deck_Next.iq0, make_Deck_Next.bq0, hKq⟩
    ·rw [if_neg c7] at H
     exact absurd H (by simp)
   ·rw [if_neg c6] at H
    exact absurd H (by simp)
def make_Text.l0 : Nat → List Int → Int → List Int → Int → Option (ByteArray × Int)
 | 0, _, _, _, _ => none
 | k + 1, x5, x6, x1000, x1001 => if x6 > 0 then ((make_Deck_Next.f x1000 x1001 5).bind fun a6_ => (if x5.length < 140737488355328 then (make_Text.l0 k (x5 ++ [(wrap64 (a6_.1 * 51)) % 256]) (wrap64 (x6 - 1)) x1000 a6_.2) else (none))) else (some (strOfNums x5, x1001))
def make_Text.f (k : Nat) (s0_0 : List Int) (s0_1 : Int) (a1 : Int) : Option (ByteArray × Int) := (make_Deck_Next.f s0_0 s0_1 (wrap64 (a1 + 1))).bind fun a2_ => (make_Text.l0 k ([] : List Int) a2_.1 s0_0 a2_.2)
theorem make_Text.iq0F {w0 W : World} {g h j : Nat} {f0 : List Int} {f1 : Int} (h0 : IsS57 w0 W g f0 f1) (hne : Aside0 (g ≠ h)) (u : Value) : IsS57 w0 (W.setCell ⟨h, j, none⟩ u) g f0 f1 := IsS57.far h0 hne.out u
theorem make_Text.iq0 {w0 W : World} {g : Nat} {f0 : List Int} {f1 : Int} (h : IsS57 w0 W g f0 f1 := by repeat (first | (with_reducible first | exact HI0.out | apply IsS57.alloc | apply IsS57.drewN | apply IsS57.drew | apply IsS57.set_1 | refine make_Text.iq0F ?_ ‹_› _) | exact HI0.out)) : IsS57 w0 W g f0 f1 := h
theorem make_Text.bq0 {w W : World} (h : Below w.heap.size w W := by repeat (first | (with_reducible first | exact HB.out | apply uA | apply uN | apply uD | refine uS ?_ (IsS57.ge HI0.out) | refine uS2 ?_ ‹_›) | exact HB.out)) : Below w.heap.size w W := h
set_option maxHeartbeats 8000000 in
set_option maxRecDepth 100000 in
theorem make_Text.calls (k : Nat) (g : Nat) (s0_0 : List Int) (s0_1 : Int) (a1 : Int) (r1 : ByteArray) (r2 : Int) (w0 w : World) (hI : IsS57 w0 w g s0_0 s0_1) (hB : Below w0.heap.size w0 w) (h : make_Text.f k s0_0 s0_1 a1 = some (r1, r2)) :
 Calls Try.prog 19 #[.pointer (some ⟨g, 0, none⟩), .int .i64 a1] w fun e w' => e = .returned (.string r1) ∧ IsS57 w0 w' g s0_0 r2 ∧ Below w0.heap.size w0 w' ∧ KeepBut w w' g none := by
 have HI0 := As hI; have HK := As (KeepBut.refl w g none); have HL := As hB.size; clear hI; have HW0 := As hB.size; have HB := As hB; clear hB; have H : ((make_Deck_Next.f s0_0 s0_1 (wrap64 (a1 + 1))).bind fun a2_ => (make_Text.l0 k ([] : List Int) a2_.1 s0_0 a2_.2)) = some (r1, r2) := h; clear h; replace H := Option.bind_eq_some_iff.mp H; obtain ⟨⟨a7_, a8_⟩, A30, H⟩ := H; (try dsimp only at H); have A3 := As A30; clear A30; have H' := As H; clear H; go_enter Try.func19, Try.ntmps19
 go_wp2_with (first | ((with_reducible refine gate_callee (f := 18) rfl ?_); refine gL (some 10) Try.func18 #[.pointer (some ⟨g, 0, none⟩), (wrap64 (a1 + 1))] ?_; (with_reducible refine (make_Deck_Next.calls g s0_0 s0_1 (wrap64 (a1 + 1)) a7_ a8_ w0 _ ?side1 ?side2 A3.out).mono ?_); (case side1 => exact make_Text.iq0); (case side2 => exact make_Text.bq0); rintro e w4 ⟨rfl, hi, hb, hk⟩; refine ⟨_, rfl, ?_⟩; replace HK := As (KeepBut.trans hKq hk (.inl rfl)); replace HB := As (hb); replace HI0 := As (hi); (try clear hb); (try clear hk); (try clear hi)))
 go_loopg [5, 6] k (fun kq v5 v6 w' => ∃ (a3_ : List Int) (a1_ : Int) (a0_ : Int), v6 = .int .i64 a1_ ∧ Aside0 (make_Text.l0 kq a3_ a1_ s0_0 a0_ = some (r1, r2)) ∧ Aside0 (kq ≤ k) ∧ Aside0 (Kd.R (Kd.int .u8) 5 w' w.heap.size (fun _ => True) v5 a3_) ∧ Aside0 (IsS57 w0 w' g s0_0 a0_) ∧ Aside0 (KeepBut w w' g none) ∧ Aside0 (Below w0.heap.size w0 w'))
 case atStart => exact ⟨(([] : List Int)), (a7_), (a8_), (by first | rfl | (simp; done) | (simp [*]; done)), H', ⟨Nat.le_refl _⟩, ⟨by first | exact Kd.R_nil _ _ _ _ _ | exact Kd.N_nil _ _ _ _ _ | exact Kd.V_nil _ _ _ _ _ | exact Kd.Q_nil _ _ _ _ _ | exact Kd.S_nil _ _ _ _ _⟩, ⟨make_Text.iq0⟩, ⟨hKq⟩, ⟨make_Text.bq0⟩⟩
 case round =>
  clear H'; (try clear c1); (try clear p2); obtain ⟨a3_, a1_, a0_, rfl, HA, HK1, HO_5, HI0, HK, HB⟩ := hrel
  cases gk with
  | zero => exact absurd HA.out (by simp [make_Text.l0])
  | succ k1 =>
   have H := HA.out; clear HA; simp only [make_Text.l0] at H
   by_cases c5 : a1_ > 0
   ·rw [if_pos c5] at H
    have b1_ : decide (0 < a1_) = true := decide_eq_true c5; clear c5; replace H := Option.bind_eq_some_iff.mp H; obtain ⟨⟨a4_, a5_⟩, A60, H⟩ := H; (try dsimp only at H); have A6 := As A60; clear A60
    by_cases c7 : a3_.length < 140737488355328
    ·rw [if_pos c7] at H
     have LMc7 := As c7; clear c7; obtain ⟨a9_, hy206⟩ : ∃ y_ : List Int, y_ = (a3_ ++ [(wrap64 (a4_ * 51)) % 256]) := ⟨_, rfl⟩; (replace H : (make_Text.l0 k1 a9_ (wrap64 (a1_ - 1)) s0_0 a5_) = some (r1, r2) := by first | (rw [hy206]; with_reducible exact H) | (have H2_ := (Option.bind_some _ _).symm.trans H; rw [hy206]; with_reducible exact H2_) | (have H2_ := (Option.bind_some _ _).symm.trans H; with_reducible exact H2_) | with_reducible exact H | (rw [hy206]; exact H) | exact H); have Ny206 := As hy206; clear hy206; have H' := As H; clear H
     go_wp2_with (first | ((with_reducible refine gate_callee (f := 18) rfl ?_); refine gL (some 17) Try.func18 #[.pointer (some ⟨g, 0, none⟩), .int .i64 5] ?_; (with_reducible refine (make_Deck_Next.calls g s0_0 a0_ 5 a4_ a5_ w0 _ ?side1 ?side2 A6.out).mono ?_); (case side1 => exact make_Text.iq0); (case side2 => exact make_Text.bq0); rintro e w8 ⟨rfl, hi, hb, hk⟩; refine ⟨_, rfl, ?_⟩; replace HO_5 := As (Kd.R_mono (Kd.R_keep (IsS57.apart (show IsS57 w0 _ g s0_0 a0_ from make_Text.iq0) (rqR HO_5) (by decide)) hk (fun _ h => h.2)) (fun _ h => h.1)); replace HK := As (KeepBut.trans hKq hk (.inl rfl)); replace HB := As (hb); replace HI0 := As (hi); (try clear hb); (try clear hk); (try clear hi)) | ((with_reducible refine gate_builtin (b := .append) (xs := #[.tmp 15, .tmp 20]) rfl ?_); at_builtin; refine Kd.R_append (Kd.int .u8) w.heap.size rfl (.tmp 15) (.tmp 20) 61 5 (.int .u8 0) 1 rfl Try.underlying61 info5 rfl (by decide) (by omega) u5 a3_ ((wrap64 (a4_ * 51)) % 256) [.int .u8 ((wrap64 (a4_ * 51)) % 256)] (fun _ => True) (fun _ => False) rfl rfl ?aP (fun _ hk => hk.elim) ?aF ?aO (Below.refl _ _) ?aS ?aL ?_; (case aP => exact rfl); (case aF => exact (fun _ _ => trivial)); (case aO => exact (rqR HO_5)); (case aS => exact (keep_size (w := w) (g := g) (row := none) hKq)); (case aL => have := LMc7.out; omega); intro b3_ w9 ho hb hg hat; rw [← Ny206.out] at ho; replace HB := As (below_weaken (make_Text.bq0) HL.out hb); replace HI0 := As (IsS57.grown (show IsS57 w0 _ g s0_0 a5_ from make_Text.iq0) hg (IsS57.own_ne HI0.out HO_5.out (by decide))); replace HK := As (KeepBut.trans hKq (KeepBut.of_grown hg g) (Kd.R_base2 HO_5.out)); have b0_ := As (ho); clear HO_5; clear ho hb hg hat))
     go_roundg k1
     case measure => have := HK1.out; omega
     case rel => exact ⟨(a9_), (wrap64 (a1_ - 1)), (a5_), (by first | rfl | (simp; done) | (simp [*]; done)), H', ⟨by have := HK1.out; omega⟩, ⟨by (with_reducible repeat (first | apply Kd.R_alloc | apply Kd.R_drewN | apply Kd.R_drew)); exact b0_.out⟩, ⟨make_Text.iq0⟩, ⟨hKq⟩, ⟨make_Text.bq0⟩⟩
    ·rw [if_neg c7] at H
     exact absurd H (by simp)
   ·rw [if_neg c5] at H
    have b1_ : decide (0 < a1_) = false := decide_eq_false c5; clear c5; simp only [Option.some.injEq, Prod.mk.injEq] at H; obtain ⟨rfl, rfl⟩ := H; have b2_ := own_string (P := Try.prog) Try.underlying61 Try.underlying5 Try.underlying9 (Kd.own_of_R HO_5.out); go_wp2; go_ret; exact ⟨erq, make_Text.iq0, make_Text.bq0, hKq⟩
def api_Row_33.enc (x : S33) : List Value := [.int .i64 x.f0, .int .i64 x.f1, .string x.f2]
theorem api_Row_33.isFlat : Flat k33 api_Row_33.enc := ⟨fun _ => rfl, fun h => k33_openM h, fun w base ok x => k33_mkM w base ok x, by decide⟩
theorem api_Row_33.encK {W : World} {x : S33} {cs : List Value} (h : k33.K W x cs) : cs = api_Row_33.enc x := k33_open h
def api_Row_33.f (l0 : List (S33)) (a1 : Int) (a2 : Int) : Option (List (S33)) := if 0 ≤ a1 ∧ a1 ≤ a2 ∧ a2 ≤ (l0.length : Int) then some (l0.take a1.toNat ++ l0.drop a2.toNat) else none
theorem api_Row_33.zero (W : World) : (zeroValue 33).run Try.prog W = .ok (.agg #[(.int .i64 0), (.int .i64 0), (.string ⟨#[]⟩)]) W := by kernel_rfl
set_option maxHeartbeats 8000000 in
set_option maxRecDepth 100000 in
theorem api_Row_33.same (u : Value) (n i : Nat) (g : Option Nat) (cap : Nat) (w : World) (hi : i ≤ n) (hc : n ≤ cap) (hcm : cap ≤ 9223372036854775807) (hu : u = .slice (g.map fun b => ⟨b, 0, none⟩) n cap) (h0 : g = none → n = 0 ∧ cap = 0) :
 Calls Try.prog 33 #[u, .int .i64 i, .int .i64 i] w fun e w' => e = .returned u ∧ w = w' := by
 subst hu; (have hic : i ≤ cap := by omega)
 cases g with
 | none =>
  obtain ⟨rfl, rfl⟩ := h0 rfl; (obtain rfl : i = 0 := by omega); clear h0; go_enter Try.func33, Try.ntmps33; go_wp2; go_ret
  exact ⟨rfl, rfl⟩
 | some b =>
  clear h0; go_enter Try.func33, Try.ntmps33; go_wp2
  all_goals (go_ret; exact ⟨rfl, rfl⟩)
set_option maxHeartbeats 8000000 in
set_option maxRecDepth 100000 in
theorem api_Row_33.shift (g n cap i j : Nat) (cur news : List Value) (w : World) (hH : w.heap[g]? = some (.cells cur.toArray 33 (0, 0))) (hcap : n ≤ cap) (hm : cap ≤ 9223372036854775807) (hij : i < j) (hj : j ≤ n) (hl : cur.length = cap * 3)
 (hnews : news = (cur.drop (j * 3)).take ((n - j) * 3)) (hone : ∀ u ∈ news, u.oneCell' = true) :
 Calls Try.prog 33 #[.slice (some ⟨g, 0, none⟩) n cap, .int .i64 i, .int .i64 j] w fun e w' => e = .returned (.slice (some ⟨g, 0, none⟩) (i + (n - j)) cap) ∧ Aside0 (w.grownBy w' (some g) ∧ ∃ cur' : List Value, w'.heap[g]? = some (.cells cur'.toArray 33 (0, 0)) ∧ cur'.length = cap * 3 ∧ cur'.take ((i + (n - j)) * 3) = cur.take (i * 3) ++ news) := by
 obtain ⟨i0, hi, hz0, hz1, hz2⟩ := info_parts info33; (have hlen : news.length = (n - j) * 3 := by rw [hnews, List.length_take, List.length_drop, hl]; omega)
 obtain ⟨A, hA, hsrc⟩ : ∃ A : Addr, (if cap = j then some (⟨g, 0, none⟩ : Addr) else some ⟨g, j * 3, none⟩) = some A ∧ Hid (∀ t u, news[t]? = some u → w.drew.cell? (A.add t) = some u) := by
  by_cases h : cap = j
  ·refine ⟨⟨g, 0, none⟩, by simp [h], fun t u hu => ?_⟩
   (have h0 : news.length = 0 := by rw [hlen]; omega); rw [List.length_eq_zero_iff.1 h0] at hu; simp at hu
  ·refine ⟨⟨g, j * 3, none⟩, by simp [h], fun t u hu => ?_⟩
   have ht : t < (n - j) * 3 := by
    have := (List.getElem?_eq_some_iff.1 hu).1
    rwa [hlen] at this
   rw [hnews, List.getElem?_take_of_lt ht, List.getElem?_drop] at hu; obtain ⟨hlt, hv⟩ := List.getElem?_eq_some_iff.1 hu; rw [Addr.add_lit]
   show w.cell? ⟨g, j * 3 + t, none⟩ = some u
   rw [cellAt hH _ hlt, hv]
 have s1 : Hid (news.length = (n - j) * 3) := hlen; have s2 : Hid (∀ u ∈ news, u.oneCell' = true) := hone
 have s3 : Hid (∀ t, t < news.length → (w.drew.cell? ⟨g, 0 + i * 3 + t, none⟩).isSome = true ∧ w.drew.frozen? ⟨g, 0 + i * 3 + t, none⟩ = false) := by
  intro t ht; rw [hlen] at ht; refine ⟨?_, frozenAt (w := w) hH _⟩
  show (w.cell? _).isSome = true
  rw [cellAt hH _ (by rw [hl]; omega)]; rfl
 obtain ⟨W1, hW1⟩ : ∃ W1, W1 = w.drew.setCells g (0 + i * 3) news := ⟨_, rfl⟩; (have hfit : i * 3 + news.length ≤ cur.length := by rw [hlen, hl]; omega)
 have hH1 : W1.heap[g]? = some (.cells (over cur (i * 3) news).toArray 33 (0, 0)) := by
  rw [hW1, Nat.zero_add]; exact setCells_heap (w := w.drew) hH _ _ hfit
 have hG1 : w.grownBy W1 (some g) := by
  rw [hW1, Nat.zero_add]; exact grown2 (grown_drew w _) (setCells_grown (w := w.drew) hH _ _ hfit)
 (have hl1 : (over cur (i * 3) news).length = cap * 3 := by rw [over_len _ _ _ hfit, hl]); have hzs : ((.agg #[(.int .i64 0), (.int .i64 0), (.string ⟨#[]⟩)]) : Value).cells.size = 3 := rfl; obtain ⟨zs, hzl, hcl⟩ := run_clear_row (P := Try.prog) hH1 23 33 (.agg #[(.int .i64 0), (.int .i64 0), (.string ⟨#[]⟩)]) Try.underlying23 (api_Row_33.zero W1) (by decide) ((i + (n - j)) * 3) (n - (i + (n - j))) (cap - (i + (n - j))) (by rw [hzs, hl1]; omega); rw [hzs] at hzl; (have hfit2 : (i + (n - j)) * 3 + zs.length ≤ (over cur (i * 3) news).length := by rw [hzl, hl1]; omega)
 have fin : Aside0 (w.grownBy (W1.setCells g ((i + (n - j)) * 3) zs) (some g) ∧ ∃ cur' : List Value, (W1.setCells g ((i + (n - j)) * 3) zs).heap[g]? = some (.cells cur'.toArray 33 (0, 0)) ∧ cur'.length = cap * 3 ∧ cur'.take ((i + (n - j)) * 3) = cur.take (i * 3) ++ news) := by
  refine ⟨grown2 hG1 (setCells_grown hH1 _ _ hfit2), _, setCells_heap hH1 _ _ hfit2, by rw [over_len _ _ _ hfit2, hl1], ?_⟩; rw [over_take _ _ _ (by rw [hl1]; omega), over_take2 _ _ _ _ (by rw [hl]; omega) (by rw [hlen]; omega)]
 have hW : Hid (W1 = w.drew.setCells g (0 + i * 3) news) := hW1; (have hic : i ≤ cap := by omega); (have hjc : j ≤ cap := by omega); (have hmc : i + (n - j) < cap := by omega); (have hmn : i + (n - j) ≤ n := by omega); clear hW1 hH1 hG1 hH hnews hlen hl hl1 hfit hfit2 hzl hzs hone hz0 hz2
 skip
 go_enter Try.func33, Try.ntmps33; go_wp2_with fail; go_region_law (refine step_append_room rfl (.tmp 22) (.tmp 25) 23 rfl 33 i0 3 Try.underlying23 hi hz1 g 0 i cap (by simp [Act.eval, Act.put]) A (n - j) (cap - j) news (by simp [Act.eval, Act.put]) s1.out hsrc.out s2.out (by omega) s3.out ?_; rw [← hW.out]); go_wp2; go_ret; exact ⟨rfl, fin⟩
set_option maxHeartbeats 8000000 in
theorem api_Row_33.calls (P0_ : Nat → Prop) (u9000_ : Value) (l0 : List (S33)) (a1 : Int) (a2 : Int) (r : List (S33)) (w0 w : World) (hB : Below w0.heap.size w0 w) (ho0 : Kd.R k33 33 w w0.heap.size P0_ u9000_ l0) (h : api_Row_33.f l0 a1 a2 = some r) :
 Calls Try.prog 33 #[u9000_, .int .i64 a1, .int .i64 a2] w fun e w' => ∃ v0_ : Value, e = .returned (v0_) ∧ Kd.R k33 33 w' w0.heap.size (fun k_ => (P0_ k_ ∨ w.heap.size ≤ k_)) v0_ r ∧ Below w0.heap.size w0 w' ∧ Kept w w' (fun k_ => P0_ k_) := by
 unfold api_Row_33.f at h
 by_cases hc : 0 ≤ a1 ∧ a1 ≤ a2 ∧ a2 ≤ (l0.length : Int)
 ·rw [if_pos hc] at h
  obtain rfl := Option.some.inj h; obtain ⟨h1, h2, h3⟩ := hc; obtain ⟨i, rfl⟩ := Int.eq_ofNat_of_zero_le h1; obtain ⟨j, rfl⟩ := Int.eq_ofNat_of_zero_le (Int.le_trans h1 h2); rw [Int.toNat_natCast, Int.toNat_natCast]; (have hij : i ≤ j := by omega); (have hj : j ≤ l0.length := by omega); have wide : Kd.R k33 33 w w0.heap.size (fun k_ => (P0_ k_ ∨ w.heap.size ≤ k_)) u9000_ l0 := Kd.R_mono ho0 (fun k hk => .inl hk); (rcases api_Row_33.isFlat.block ho0 with ⟨rfl, rfl⟩ | ⟨g, cap, cur, rfl, hg, hok, hH, hnc, hcm, hl, htk⟩)
  ·obtain rfl : j = 0 := by simpa using hj
   (obtain rfl : i = 0 := by omega); refine (api_Row_33.same (.slice none 0 0) 0 0 none 0 w (by omega) (by omega) (by omega) rfl (fun _ => ⟨rfl, rfl⟩)).mono ?_; rintro e w' ⟨rfl, rfl⟩; exact ⟨_, rfl, wide, hB, Kept.refl _ _⟩
  ·have hcm' : cap ≤ 9223372036854775807 := by simpa [maxLen] using hcm
   by_cases he : i = j
   ·subst he
    refine (api_Row_33.same (.slice (some ⟨g, 0, none⟩) l0.length cap) l0.length i (some g) cap w (by omega) hnc hcm' rfl (fun h => by cases h)).mono ?_; rintro e w' ⟨rfl, rfl⟩; rw [List.take_append_drop]; exact ⟨_, rfl, wide, hB, Kept.refl _ _⟩
   ·have hnews : flat api_Row_33.enc (l0.drop j) = (cur.drop (j * 3)).take ((l0.length - j) * 3) := by
     have e1 := api_Row_33.isFlat.flat_drop l0 j; rw [← e1, ← htk]
     show ((cur.take (l0.length * 3)).drop (j * 3)) = _
     rw [List.drop_take]
     congr 1
     omega
    refine (api_Row_33.shift g l0.length cap i j cur (flat api_Row_33.enc (l0.drop j)) w hH hnc hcm' (by omega) hj hl hnews (api_Row_33.isFlat.one w _)).mono ?_; rintro e w' ⟨rfl, ⟨hgr, cur', hH', hl', ht'⟩⟩; refine ⟨_, rfl, ?_, below_grown hB hgr hg, kept_grown hgr hok⟩; refine api_Row_33.isFlat.own (by rw [List.length_append, List.length_take, List.length_drop]; omega) hg (.inl hok) hH' (by omega) hcm hl' ?_
    have e2 : cur.take (i * 3) = flat api_Row_33.enc (l0.take i) := by
     rw [← api_Row_33.isFlat.flat_take l0 i, ← htk]
     show _ = ((cur.take (l0.length * 3)).take (i * 3))
     rw [List.take_take]
     congr 1
     omega
    rw [flat_append, ← e2]; exact ht'
 ·rw [if_neg hc] at h
  exact absurd h (by simp)
def api_Row_32.enc (x : S33) : List Value := [.int .i64 x.f0, .int .i64 x.f1, .string x.f2]
theorem api_Row_32.isFlat : Flat k33 api_Row_32.enc := ⟨fun _ => rfl, fun h => k33_openM h, fun w base ok x => k33_mkM w base ok x, by decide⟩
theorem api_Row_32.encK {W : World} {x : S33} {cs : List Value} (h : k33.K W x cs) : cs = api_Row_32.enc x := k33_open h
def api_Row_32.f (l0 : List (S33)) (a1 : Int) (l2 : List (S33)) : Option (List (S33)) := if 0 ≤ a1 ∧ a1 ≤ (l0.length : Int) ∧ 1 ≤ l2.length ∧ l0.length + l2.length < 4398046511104 then some (l0.take a1.toNat ++ l2 ++ l0.drop a1.toNat) else none
set_option maxHeartbeats 8000000 in
set_option maxRecDepth 100000 in
theorem api_Row_32.room (g n cap i m g2 cap2 : Nat) (cur cur2 cs news : List Value) (w : World) (hH : w.heap[g]? = some (.cells cur.toArray 33 (0, 0))) (hH2 : w.heap[g2]? = some (.cells cur2.toArray 33 (0, 0))) (hne : g2 ≠ g) (hnm : n + m ≤ cap) (hm : cap ≤ 9223372036854775807) (hi : i < n) (hm1 : 1 ≤ m)
 (hl : cur.length = cap * 3) (hl2 : m * 3 ≤ cur2.length) (hcs : cs = (cur.drop (i * 3)).take ((n - i) * 3)) (hnews : news = cur2.take (m * 3)) (h1c : ∀ u ∈ cs, u.oneCell' = true) (h1v : ∀ u ∈ news, u.oneCell' = true) :
 Calls Try.prog 32 #[.slice (some ⟨g, 0, none⟩) n cap, .int .i64 i, .slice (some ⟨g2, 0, none⟩) m cap2] w fun e w' => e = .returned (.slice (some ⟨g, 0, none⟩) (n + m) cap) ∧ Aside0 (w.grownBy w' (some g) ∧ ∃ cur' : List Value, w'.heap[g]? = some (.cells cur'.toArray 33 (0, 0)) ∧ cur'.length = cap * 3 ∧ cur'.take ((n + m) * 3) = cur.take (i * 3) ++ news ++ cs) := by
 obtain ⟨i0, hi0, hz0, hz1, hz2⟩ := info_parts info33; (have hsz : (Try.prog.info? 33).map (·.size) = some 3 := by rw [hi0]; simp [hz1]); (have hzo : ∀ w, (Go.sizeOf 33).run Try.prog w = .ok 3 w := fun W => by simp [Go.sizeOf, typeInfo, hi0, hz1]); (have hcl : cs.length = (n - i) * 3 := by rw [hcs, List.length_take, List.length_drop, hl]; omega); (have hvl : news.length = m * 3 := by rw [hnews, List.length_take]; omega)
 have hov : ∀ lb cb, (callFunc 40 #[.slice (some ⟨g2, 0, none⟩) m cap2, .slice (some ⟨g, (i + m) * 3, none⟩) lb cb]).run Try.prog w = .ok (.value (.bool false)) w := fun lb cb => by
  rw [run_callFunc_extern Try.func40 (by kernel_rfl) (by kernel_rfl) (by kernel_rfl) (e := Extern.SlicesOverlaps.overlaps #[23, 23] #[4]) (by kernel_rfl),
   Lib.run_overlaps_apart w 23 4 33 Try.underlying23 3 hzo ⟨g2, 0, none⟩ ⟨g, (i + m) * 3, none⟩ m cap2 lb cb hne 33 33 cur2.length cur.length (shapeAt hH2) (shapeAt hH) (by rw [hl]; omega) (frozenAt hH2 _) (frozenAt hH2 _)]
  rfl
 (have hfit1 : (i + m) * 3 + cs.length ≤ cur.length := by rw [hcl, hl]; omega)
 have hcp1 : ∀ ty dc sc, (Builtin.copy_ #[23, 23] ty #[.slice (some ⟨g, (i + m) * 3, none⟩) (n + m - (i + m)) dc, .slice (some ⟨g, i * 3, none⟩) (n + m - i) sc]).run Try.prog w.drew = .ok (goInt ((n - i : Nat) : Int)) (w.drew.setCells g ((i + m) * 3) cs) := fun ty dc sc => by
  (have hmin : Nat.min (n + m - i) (n + m - (i + m)) = n - i := by simp only [Nat.min_def]; split <;> omega)
  have := run_copy_rows (P := Try.prog) (w := w.drew) hH 23 23 ty 33 3 Try.underlying23 hsz ((i + m) * 3) (n + m - (i + m)) dc ⟨g, i * 3, none⟩ (n + m - i) sc cs (by rw [hmin, hcl]) (fun j v hj => by
   rw [Addr.add_lit]; (have ht : j < (n - i) * 3 := by rw [← hcl]; exact (List.getElem?_eq_some_iff.1 hj).1); rw [hcs, List.getElem?_take_of_lt ht, List.getElem?_drop] at hj; obtain ⟨hlt, hv⟩ := List.getElem?_eq_some_iff.1 hj
   show w.cell? ⟨g, i * 3 + j, none⟩ = some v
   rw [cellAt hH _ hlt, hv]) hfit1 h1c
  rw [hmin] at this; exact this
 obtain ⟨W1, hW1⟩ : ∃ W1, W1 = w.drew.setCells g ((i + m) * 3) cs := ⟨_, rfl⟩; (have hH1 : W1.heap[g]? = some (.cells (over cur ((i + m) * 3) cs).toArray 33 (0, 0)) := by rw [hW1]; exact setCells_heap (w := w.drew) hH _ _ hfit1); (have hG1 : w.grownBy W1 (some g) := by rw [hW1]; exact grown2 (grown_drew w _) (setCells_grown (w := w.drew) hH _ _ hfit1)); have hH12 : W1.heap[g2]? = some (.cells cur2.toArray 33 (0, 0)) := (hG1.block g2 (blk_lt hH2) (fun e => hne (by injection e))).trans hH2; (have hl1 : (over cur ((i + m) * 3) cs).length = cap * 3 := by rw [over_len _ _ _ hfit1, hl]); (have hfit2 : i * 3 + news.length ≤ (over cur ((i + m) * 3) cs).length := by rw [hvl, hl1]; omega)
 have hcp2 : ∀ ty dc, (Builtin.copy_ #[23, 23] ty #[.slice (some ⟨g, i * 3, none⟩) (n + m - i) dc, .slice (some ⟨g2, 0, none⟩) m cap2]).run Try.prog W1 = .ok (goInt m) (W1.setCells g (i * 3) news) := fun ty dc => by
  (have hmin : Nat.min m (n + m - i) = m := by simp only [Nat.min_def]; split <;> omega)
  have := run_copy_rows (P := Try.prog) hH1 23 23 ty 33 3 Try.underlying23 hsz (i * 3) (n + m - i) dc ⟨g2, 0, none⟩ m cap2 news (by rw [hmin, hvl]) (fun j v hj => by
   rw [Addr.add_lit]; (have ht : j < m * 3 := by rw [← hvl]; exact (List.getElem?_eq_some_iff.1 hj).1); rw [hnews, List.getElem?_take_of_lt ht] at hj; obtain ⟨hlt, hv⟩ := List.getElem?_eq_some_iff.1 hj; rw [Nat.zero_add, cellAt hH12 _ hlt, hv]) hfit2 h1v
  rw [hmin] at this; exact this
 have fin : Aside0 (w.grownBy (W1.setCells g (i * 3) news) (some g) ∧ ∃ cur' : List Value, (W1.setCells g (i * 3) news).heap[g]? = some (.cells cur'.toArray 33 (0, 0)) ∧ cur'.length = cap * 3 ∧ cur'.take ((n + m) * 3) = cur.take (i * 3) ++ news ++ cs) := by
  refine ⟨grown2 hG1 (setCells_grown hH1 _ _ hfit2), _, setCells_heap hH1 _ _ hfit2, by rw [over_len _ _ _ hfit2, hl1], ?_⟩
  have e1 : (over cur ((i + m) * 3) cs).take (i * 3) = cur.take (i * 3) := by
   unfold over; rw [List.append_assoc, List.take_append_of_le_length (by rw [List.length_take, hl]; omega), List.take_take]
   congr 1
   omega
  have e2 : ((over cur ((i + m) * 3) cs).drop (i * 3 + news.length)).take (cs.length) = cs := by
   unfold over; (have hx : i * 3 + news.length = (cur.take ((i + m) * 3)).length := by rw [List.length_take, hvl, hl]; omega); rw [List.append_assoc, hx, List.drop_left, List.take_left]
  unfold over at *; rw [e1, List.take_append, List.take_of_length_le (by rw [List.length_append, List.length_take, hvl, hl]; omega)]
  congr 1
  rw [List.length_append, List.length_take, hvl, hl]; (have hx : (n + m) * 3 - (min (i * 3) (cap * 3) + m * 3) = cs.length := by rw [hcl]; omega); rw [hx, ← hvl]; exact e2
 rw [← hW1] at hcp1; have hcm : cap ≤ 9223372036854775807 := hm; (have hic : i ≤ cap := by omega); (have him : i + m < cap := by omega); (have himn : i + m < n + m := by omega); (have hz1' : ¬ ((m : Int) = 0) := by omega); (have hz2' : ¬ ((i : Int) = (n : Int)) := by omega); (have hw1 : IntKind.i64.wrap ((i : Int) + (m : Int)) = (i : Int) + (m : Int) := by rw [IntKind.wrap_i64]; omega); (have hb1 : (0 : Int) ≤ (i : Int) + (m : Int) := by omega); (have hin : i ≤ n := by omega); (have htn : ((i : Int) + (m : Int)).toNat = i + m := by omega); (have hb2 : ¬ (cap = i + m) := by omega); (have hb3 : (i : Int) ≤ (n : Int) + (m : Int) := by omega); (have hb4 : ¬ (cap = i) := by omega); clear hW1 hH hH1 hG1 hH12 hH2 hl hl1 hl2 hfit1 hfit2 hcl hvl hcs hnews h1c h1v hz0 hz1 hz2 hsz hzo hne
 skip
 go_enter Try.func32, Try.ntmps32; go_wp2_with (simp only [hov]); go_region_law (refine step_copy_is rfl _ _ 23 23 rfl _ _ (by simp [Act.eval, Act.put]) (by simp [Act.eval, Act.put]) (hcp1 _ _ _) ?_); go_wp2_with (at_builtin; refine wpList_copy_is rfl _ _ 23 23 rfl _ _ rfl rfl (hcp2 _ _) ?_); go_ret; exact ⟨rfl, fin⟩
set_option maxHeartbeats 8000000 in
set_option maxRecDepth 100000 in
theorem api_Row_32.grow (g n cap i m g2 cap2 : Nat) (cur cur2 cs news : List Value) (w : World) (hH : w.heap[g]? = some (.cells cur.toArray 33 (0, 0))) (hH2 : w.heap[g2]? = some (.cells cur2.toArray 33 (0, 0))) (hnc : n ≤ cap) (hroom : cap < n + m) (hbig : (n + m) * 32 ≤ 140737488355328) (hi : i < n) (hm1 : 1 ≤ m)
 (hl : cur.length = cap * 3) (hl2 : m * 3 ≤ cur2.length) (hcs : cs = (cur.drop (i * 3)).take ((n - i) * 3)) (hnews : news = cur2.take (m * 3)) (h1c : ∀ u ∈ cs, u.oneCell' = true) (h1v : ∀ u ∈ news, u.oneCell' = true) :
 Calls Try.prog 32 #[.slice (some ⟨g, 0, none⟩) n cap, .int .i64 i, .slice (some ⟨g2, 0, none⟩) m cap2] w fun e w' => ∃ N G : Nat, e = .returned (.slice (some ⟨N, 0, none⟩) (n + m) G) ∧ Aside0 (Below w.heap.size w w' ∧ w.heap.size ≤ N ∧ n + m ≤ G ∧ G ≤ maxLen ∧ ∃ cur' : List Value, w'.heap[N]? = some (.cells cur'.toArray 33 (0, 0)) ∧ cur'.length = G * 3 ∧ cur'.take ((n + m) * 3) = cur.take (i * 3) ++ news ++ cs) := by
 obtain ⟨i0, hi0, hz0, hz1, hz2⟩ := info_parts info33; (have hsz : (Try.prog.info? 33).map (·.size) = some 3 := by rw [hi0]; simp [hz1]); (have hcl : cs.length = (n - i) * 3 := by rw [hcs, List.length_take, List.length_drop, hl]; omega); (have hvl : news.length = m * 3 := by rw [hnews, List.length_take]; omega); have hgw : g < w.heap.size := blk_lt hH; have hg2w : g2 < w.heap.size := blk_lt hH2; obtain ⟨N, hN⟩ : ∃ N, N = w.heap.size := ⟨_, rfl⟩; obtain ⟨G, hG⟩ : ∃ G, G = grownCap w (n + m) cap 33 := ⟨_, rfl⟩; (have hGn : n + m ≤ G := by rw [hG]; exact grownCap_ge w _ _ _)
 have hG63 : G ≤ maxLen := by
  have := grownCap_le_maxLen w (n + m) cap 33 (by unfold maxLen; omega); rw [hG]; exact this
 (have hik : i + (n + m - i) = n + m := by omega); (have hkk : (n : Int) + (m : Int) - (i : Int) = ((n + m - i : Nat) : Int) := by omega); obtain ⟨olds, holds⟩ : ∃ olds, olds = cur.take (i * 3) := ⟨_, rfl⟩; (have hol : olds.length = i * 3 := by rw [holds, List.length_take, hl]; omega)
 have hold : (Builtin.firstCells i0.size i (.slice (some ⟨g, 0, none⟩) i cap)).run Try.prog w.drew = .ok olds.toArray w.drew := by
  rw [hz1]
  exact run_firstCells_some w.drew 3 i ⟨g, 0, none⟩ i cap olds (by rw [hol]) (fun j v hj => by
   rw [Addr.add_lit]; (have ht : j < i * 3 := by rw [← hol]; exact (List.getElem?_eq_some_iff.1 hj).1); rw [holds, List.getElem?_take_of_lt ht] at hj; obtain ⟨hlt, hv⟩ := List.getElem?_eq_some_iff.1 hj
   show w.cell? ⟨g, 0 + j, none⟩ = some v
   rw [Nat.zero_add, cellAt hH _ hlt, hv])
 obtain ⟨row, hrow⟩ : ∃ row : List Value, row.toArray = olds.toArray ++ Builtin.zeroCells ((.agg #[(.int .i64 0), (.int .i64 0), (.string ⟨#[]⟩)]) : Value).cells (n + m - i) ++ Builtin.zeroCells ((.agg #[(.int .i64 0), (.int .i64 0), (.string ⟨#[]⟩)]) : Value).cells (G - (n + m)) := ⟨(olds.toArray ++ Builtin.zeroCells ((.agg #[(.int .i64 0), (.int .i64 0), (.string ⟨#[]⟩)]) : Value).cells (n + m - i) ++ Builtin.zeroCells ((.agg #[(.int .i64 0), (.int .i64 0), (.string ⟨#[]⟩)]) : Value).cells (G - (n + m))).toList, by simp⟩; have hzs : ((.agg #[(.int .i64 0), (.int .i64 0), (.string ⟨#[]⟩)]) : Value).cells.size = 3 := rfl
 have hrl : row.length = G * 3 := by
  have := congrArg Array.size hrow; simp only [Array.size_append, List.size_toArray, Builtin.zeroCells, Array.size_map, Array.size_range, hzs, hol] at this; omega
 have hrt : row.take (i * 3) = olds := by
  have := congrArg Array.toList hrow; simp only [Array.toList_append] at this; rw [this, List.append_assoc, ← hol, List.take_left]
 obtain ⟨W1, hW1⟩ : ∃ W1, W1 = w.drew.alloc (.cells row.toArray 33) := ⟨_, rfl⟩
 have hrz : ∀ ty, (Builtin.append_ #[23, 3] ty #[.slice (some ⟨g, 0, none⟩) i cap, .int .i64 ((n : Int) + (m : Int) - (i : Int))]).run Try.prog w = .ok (.slice (some ⟨N, 0, none⟩) (n + m) G) W1 := fun ty => by
  have h := Lib.run_append_grow_zeros w 23 3 ty 33 i0 (.agg #[(.int .i64 0), (.int .i64 0), (.string ⟨#[]⟩)]) .i64 .i64 Try.underlying23 Try.underlying3 hi0 hz0 (some ⟨g, 0, none⟩) i cap olds hold (n + m - i) (by omega) (by rw [hz1]; omega) (by omega) (by omega) (by rw [hz2]; omega) (by rw [hz2, hik]; exact growslice_fits hroom hbig); rw [hik] at h; rw [hkk, h, hW1, hrow, hN, hG]
 (have hH1 : W1.heap[N]? = some (.cells row.toArray 33 (0, 0)) := by rw [hW1, hN]; exact heap_alloc_new w.drew _); (have hB1 : Below w.heap.size w W1 := by rw [hW1]; exact below_alloc (below_drew (Below.refl _ _)) _); have hH21 : W1.heap[g2]? = some (.cells cur2.toArray 33 (0, 0)) := (hB1.block g2 hg2w).trans hH2; have hHg1 : W1.heap[g]? = some (.cells cur.toArray 33 (0, 0)) := (hB1.block g hgw).trans hH; (have hfit1 : i * 3 + news.length ≤ row.length := by rw [hvl, hrl]; omega)
 have hcpA : ∀ ty dc, (Builtin.copy_ #[23, 23] ty #[.slice (some ⟨N, i * 3, none⟩) (n + m - i) dc, .slice (some ⟨g2, 0, none⟩) m cap2]).run Try.prog W1 = .ok (goInt m) (W1.setCells N (i * 3) news) := fun ty dc => by
  (have hmin : Nat.min m (n + m - i) = m := by simp only [Nat.min_def]; split <;> omega)
  have := run_copy_rows (P := Try.prog) hH1 23 23 ty 33 3 Try.underlying23 hsz (i * 3) (n + m - i) dc ⟨g2, 0, none⟩ m cap2 news (by rw [hmin, hvl]) (fun j v hj => by
   rw [Addr.add_lit]; (have ht : j < m * 3 := by rw [← hvl]; exact (List.getElem?_eq_some_iff.1 hj).1); rw [hnews, List.getElem?_take_of_lt ht] at hj; obtain ⟨hlt, hv⟩ := List.getElem?_eq_some_iff.1 hj; rw [Nat.zero_add, cellAt hH21 _ hlt, hv]) hfit1 h1v
  rw [hmin] at this; exact this
 obtain ⟨W2, hW2⟩ : ∃ W2, W2 = W1.setCells N (i * 3) news := ⟨_, rfl⟩; (have hG2 : W1.grownBy W2 (some N) := by rw [hW2]; exact setCells_grown hH1 _ _ hfit1); (have hH2N : W2.heap[N]? = some (.cells (over row (i * 3) news).toArray 33 (0, 0)) := by rw [hW2]; exact setCells_heap hH1 _ _ hfit1); have hHg2 : W2.heap[g]? = some (.cells cur.toArray 33 (0, 0)) := (hG2.block g (blk_lt hHg1) (fun e => by injection e with e; omega)).trans hHg1; (have hl1 : (over row (i * 3) news).length = G * 3 := by rw [over_len _ _ _ hfit1, hrl]); (have hfit2 : (i + m) * 3 + cs.length ≤ (over row (i * 3) news).length := by rw [hcl, hl1]; omega)
 have hcpB : ∀ ty dc sc, (Builtin.copy_ #[23, 23] ty #[.slice (some ⟨N, (i + m) * 3, none⟩) (n + m - (i + m)) dc, .slice (some ⟨g, i * 3, none⟩) (n - i) sc]).run Try.prog W2.drew = .ok (goInt ((n - i : Nat) : Int)) (W2.drew.setCells N ((i + m) * 3) cs) := fun ty dc sc => by
  (have hmin : Nat.min (n - i) (n + m - (i + m)) = n - i := by simp only [Nat.min_def]; split <;> omega)
  have := run_copy_rows (P := Try.prog) (w := W2.drew) hH2N 23 23 ty 33 3 Try.underlying23 hsz ((i + m) * 3) (n + m - (i + m)) dc ⟨g, i * 3, none⟩ (n - i) sc cs (by rw [hmin, hcl]) (fun j v hj => by
   rw [Addr.add_lit]; (have ht : j < (n - i) * 3 := by rw [← hcl]; exact (List.getElem?_eq_some_iff.1 hj).1); rw [hcs, List.getElem?_take_of_lt ht, List.getElem?_drop] at hj; obtain ⟨hlt, hv⟩ := List.getElem?_eq_some_iff.1 hj
   show W2.cell? ⟨g, i * 3 + j, none⟩ = some v
   rw [cellAt hHg2 _ hlt, hv]) hfit2 h1c
  rw [hmin] at this; exact this
 have fin : Aside0 (Below w.heap.size w (W2.drew.setCells N ((i + m) * 3) cs) ∧ w.heap.size ≤ N ∧ n + m ≤ G ∧ G ≤ maxLen ∧ ∃ cur' : List Value, (W2.drew.setCells N ((i + m) * 3) cs).heap[N]? = some (.cells cur'.toArray 33 (0, 0)) ∧ cur'.length = G * 3 ∧ cur'.take ((n + m) * 3) = cur.take (i * 3) ++ news ++ cs) := by
  have hg3 : W1.grownBy (W2.drew.setCells N ((i + m) * 3) cs) (some N) := grown2 hG2 (grown2 (grown_drew W2 _) (setCells_grown (w := W2.drew) hH2N _ _ hfit2)); refine ⟨below_grown hB1 hg3 (by omega), by omega, hGn, hG63, _, setCells_heap (w := W2.drew) hH2N _ _ hfit2, by rw [over_len _ _ _ hfit2, hl1], ?_⟩; rw [over_take2 _ _ _ _ (by rw [hl1]; omega) (by rw [hcl]; omega), over_take2 _ _ _ _ (by rw [hrl]; omega) (by rw [hvl]; omega), hrt, holds]
 rw [← hW2] at hcpA; (have hz1' : ¬ ((m : Int) = 0) := by omega); (have hz2' : ¬ ((i : Int) = (n : Int)) := by omega); (have hz3' : (cap : Int) < (n : Int) + (m : Int) := by omega); (have hic : i ≤ cap := by omega); (have hGi : ¬ (G = i) := by omega); (have hGim : ¬ (G = i + m) := by omega); (have hci : ¬ (cap = i) := by omega); (have hG' : G ≤ 9223372036854775807 := by simpa [maxLen] using hG63); (have hw1 : IntKind.i64.wrap ((i : Int) + (m : Int)) = (i : Int) + (m : Int) := by rw [IntKind.wrap_i64]; omega); (have hb1 : (0 : Int) ≤ (i : Int) + (m : Int) := by omega); (have hin : i ≤ n := by omega); (have htn : ((i : Int) + (m : Int)).toNat = i + m := by omega); (have hb3 : (i : Int) ≤ (n : Int) := by omega); clear hW1 hW2 hH hH1 hG2 hH2N hHg2 hHg1 hH21 hB1 hH2 hl hl1 hl2 hfit1 hfit2 hcl hvl hcs hnews h1c h1v hz0 hz1 hz2 hsz hrow hrl hrt hold hol holds hG hN hkk hik hzs hG63
 skip
 go_enter Try.func32, Try.ntmps32; go_wp2_with (first | (at_builtin; refine Lib.wpList_append_run _ rfl _ _ _ _ rfl _ _ rfl rfl _ _ (hrz _) ?_) | (at_builtin; refine wpList_copy_is rfl _ _ 23 23 rfl _ _ rfl rfl (hcpA _ _) ?_)); go_region_law (refine step_copy_is rfl _ _ 23 23 rfl _ _ (by simp [Act.eval, Act.put]) (by simp [Act.eval, Act.put]) (hcpB _ _ _) ?_); go_wp2; go_ret; exact ⟨N, G, rfl, fin⟩
set_option maxHeartbeats 8000000 in
set_option maxRecDepth 100000 in
theorem api_Row_32.tail (P0_ P2_ : Nat → Prop) (u9000_ : Value) (l0 l2 : List (S33)) (g2 cap2 : Nat) (w0 w : World) (hB : Below w0.heap.size w0 w) (ho0 : Kd.R k33 33 w w0.heap.size P0_ u9000_ l0) (ho2 : Kd.R k33 33 w w0.heap.size P2_ (.slice (some ⟨g2, 0, none⟩) l2.length cap2) l2) (h1 : 1 ≤ l2.length) (hlim : l0.length + l2.length < 4398046511104) :
 Calls Try.prog 32 #[u9000_, .int .i64 (l0.length : Int), .slice (some ⟨g2, 0, none⟩) l2.length cap2] w fun e w' => ∃ v0_ : Value, e = .returned (v0_) ∧ Kd.R k33 33 w' w0.heap.size (fun k_ => (P0_ k_ ∨ w.heap.size ≤ k_)) v0_ (l0 ++ l2) ∧ Below w0.heap.size w0 w' ∧ Kept w w' (fun k_ => P0_ k_) := by
 have HL := As hlim; have HB := As hB; have HR := As (Kd.R_reads' ho2).2.2; have HO := As (Kd.R_mono (ok' := fun k_ => (P0_ k_ ∨ w.heap.size ≤ k_)) ho0 (fun k hk => .inl hk)); have HK := As ho0.1; (have hz1' : ¬ ((l2.length : Int) = 0) := by omega); have hbl := api_Row_32.isFlat.block ho0; clear hB ho2 hlim ho0; (rcases hbl with ⟨rfl, rfl⟩ | ⟨g, cap, cur, rfl, hg, hok, hH, hnc, hcm, hl, htk⟩)
 ·go_enter Try.func32, Try.ntmps32
  go_wp2_with (at_builtin; refine Kd.R_append_rows k33 (w0 := w0) w0.heap.size rfl (.tmp 23) (.tmp 24) 23 33 (.agg #[(.int .i64 0), (.int .i64 0), (.string ⟨#[]⟩)]) 32 rfl Try.underlying23 info33 rfl (by decide) (by omega) (.slice none 0 0) [] l2 (some ⟨g2, 0, none⟩) l2.length cap2 (fun k_ => (P0_ k_ ∨ w.heap.size ≤ k_)) (fun _ => False) rfl rfl HO.out HR.out (fun _ _ h => h) (fun _ h => h.elim) (fun _ h => .inr h) HB.out HB.out.size (by have := HL.out; simp at this ⊢; omega) ?_; intro v2 w2 h2a h2b h2c h2d); go_ret; exact ⟨_, rfl, h2a, h2b, Kept.of_grown h2c (Kept.refl _ _) (fun k hk => .inl (HK.out k hk))⟩
 ·have hcm' : cap ≤ 9223372036854775807 := by simpa [maxLen] using hcm
  clear hg hok hH hcm hl htk; go_enter Try.func32, Try.ntmps32; go_wp2_with (at_builtin; refine Kd.R_append_rows k33 (w0 := w0) w0.heap.size rfl (.tmp 23) (.tmp 24) 23 33 (.agg #[(.int .i64 0), (.int .i64 0), (.string ⟨#[]⟩)]) 32 rfl Try.underlying23 info33 rfl (by decide) (by omega) (.slice (some ⟨g, 0, none⟩) l0.length cap) l0 l2 (some ⟨g2, 0, none⟩) l2.length cap2 (fun k_ => (P0_ k_ ∨ w.heap.size ≤ k_)) (fun _ => False) rfl rfl HO.out HR.out (fun _ _ h => h) (fun _ h => h.elim) (fun _ h => .inr h) HB.out HB.out.size (by have := HL.out; omega) ?_; intro v2 w2 h2a h2b h2c h2d)
  all_goals (go_ret; exact ⟨_, rfl, h2a, h2b, Kept.of_grown h2c (Kept.refl _ _) (fun k hk => .inl (HK.out k hk))⟩)
set_option maxHeartbeats 8000000 in
theorem api_Row_32.calls (P0_ : Nat → Prop) (u9000_ : Value) (l0 : List (S33)) (a1 : Int) (P2_ : Nat → Prop) (u9001_ : Value) (l2 : List (S33)) (r : List (S33)) (w0 w : World) (hB : Below w0.heap.size w0 w) (ho0 : Kd.R k33 33 w w0.heap.size P0_ u9000_ l0) (hp0_2 : ∀ k_, P0_ k_ → ¬ P2_ k_) (ho2 : Kd.R k33 33 w w0.heap.size P2_ u9001_ l2) (hp2_0 : ∀ k_, P2_ k_ → ¬ P0_ k_) (h : api_Row_32.f l0 a1 l2 = some r) :
 Calls Try.prog 32 #[u9000_, .int .i64 a1, u9001_] w fun e w' => ∃ v0_ : Value, e = .returned (v0_) ∧ Kd.R k33 33 w' w0.heap.size (fun k_ => ((P0_ k_ ∨ P2_ k_) ∨ w.heap.size ≤ k_)) v0_ r ∧ Below w0.heap.size w0 w' ∧ Kept w w' (fun k_ => P0_ k_ ∨ P2_ k_) := by
 unfold api_Row_32.f at h
 by_cases hc : 0 ≤ a1 ∧ a1 ≤ (l0.length : Int) ∧ 1 ≤ l2.length ∧ l0.length + l2.length < 4398046511104
 ·rw [if_pos hc] at h
  obtain rfl := Option.some.inj h; obtain ⟨h1, h2, h3, h4⟩ := hc; obtain ⟨i, rfl⟩ := Int.eq_ofNat_of_zero_le h1; rw [Int.toNat_natCast]; (have hi : i ≤ l0.length := by omega); (rcases api_Row_32.isFlat.block ho2 with ⟨rfl, rfl⟩ | ⟨g2, cap2, cur2, rfl, hg2, hok2, hH2, a0_, hcm2, hl2, htk2⟩)
  ·simp at h3
  by_cases he : i = l0.length
  ·subst he
   refine (api_Row_32.tail P0_ P2_ u9000_ l0 l2 g2 cap2 w0 w hB ho0 ho2 h3 h4).mono ?_; rintro e w' ⟨v, rfl, hr, hb, hk⟩; rw [List.take_of_length_le (Nat.le_refl _), List.drop_of_length_le (Nat.le_refl _), List.append_nil]; exact ⟨_, rfl, Kd.R_mono hr (fun k hk => hk.elim (fun h => .inl (.inl h)) .inr), hb, hk.mono (fun k hk => .inl hk)⟩
  ·rcases api_Row_32.isFlat.block ho0 with ⟨rfl, rfl⟩ | ⟨g, cap, cur, rfl, hg, hok, hH, hnc, hcm, hl, htk⟩
   ·exact absurd (by simpa using hi : i = 0) (fun h => he (by simpa using h))
   have hcs : flat api_Row_32.enc (l0.drop i) = (cur.drop (i * 3)).take ((l0.length - i) * 3) := by
    have e1 := api_Row_32.isFlat.flat_drop l0 i; rw [← e1, ← htk]
    show ((cur.take (l0.length * 3)).drop (i * 3)) = _
    rw [List.drop_take]
    congr 1
    omega
   have e2 : cur.take (i * 3) = flat api_Row_32.enc (l0.take i) := by
    rw [← api_Row_32.isFlat.flat_take l0 i, ← htk]
    show _ = ((cur.take (l0.length * 3)).take (i * 3))
    rw [List.take_take]
    congr 1
    omega
   (have hl2' : l2.length * 3 ≤ cur2.length := by rw [hl2]; exact Nat.mul_le_mul_right _ a0_); (have hgg : g2 ≠ g := fun e => hp0_2 g hok (e ▸ hok2)); (have hlen : (l0.take i ++ l2 ++ l0.drop i).length = l0.length + l2.length := by rw [List.length_append, List.length_append, List.length_take, List.length_drop]; omega)
   by_cases hroom : l0.length + l2.length ≤ cap
   ·refine (api_Row_32.room g l0.length cap i l2.length g2 cap2 cur cur2 (flat api_Row_32.enc (l0.drop i)) (flat api_Row_32.enc l2) w hH hH2 hgg hroom (by simpa [maxLen] using hcm) (by omega) h3 hl hl2' hcs htk2.symm (api_Row_32.isFlat.one w _) (api_Row_32.isFlat.one w _)).mono ?_
    rintro e w' ⟨rfl, ⟨hgr, cur', hH', hl', ht'⟩⟩; refine ⟨_, rfl, ?_, below_grown hB hgr hg, (kept_grown hgr hok).mono (fun k hk => .inl hk)⟩; refine api_Row_32.isFlat.own hlen hg (.inl (.inl hok)) hH' hroom hcm hl' ?_; rw [flat_append, flat_append, ← e2]; exact ht'
   ·refine (api_Row_32.grow g l0.length cap i l2.length g2 cap2 cur cur2 (flat api_Row_32.enc (l0.drop i)) (flat api_Row_32.enc l2) w hH hH2 hnc (by omega) (by omega) (by omega) h3 hl hl2' hcs htk2.symm (api_Row_32.isFlat.one w _) (api_Row_32.isFlat.one w _)).mono ?_
    rintro e w' ⟨N, G, rfl, ⟨hbw, hN, hGn, hGm, cur', hH', hl', ht'⟩⟩; refine ⟨_, rfl, ?_, below_then hB hB.size hbw, Kept.of_below hbw _⟩; refine api_Row_32.isFlat.own hlen (Nat.le_trans hB.size hN) (.inr hN) hH' hGn hGm hl' ?_; rw [flat_append, flat_append, ← e2]; exact ht'
 ·rw [if_neg hc] at h
  exact absurd h (by simp)
def refs_valid.l0 : Nat → List (S33) → Int → Int → List (S33) → Option (Bool)
 | 0, _, _, _, _ => none
 | k + 1, x10, x11, x12, x102000 => if x12 < x11 then (if 0 ≤ x12 then (if x12 < (x10.length : Int) then (if x12 > 0 then (if 0 ≤ (wrap64 (x12 - 1)) then (if (wrap64 (x12 - 1)) < (x102000.length : Int) then (if ((rd_T33 x10 x12).f0) ≤ ((rd_T33 x102000 (wrap64 (x12 - 1))).f0) then (some false) else (if (((rd_T33 x10 x12).f2).size : Int) > 16384 then (some false) else ((digest_Sum.f k ((rd_T33 x10 x12).f2)).bind fun b8_ => (if ((rd_T33 x10 x12).f0) = b8_ then (if ((rd_T33 x10 x12).f1) < 1 then (some false) else (if ((rd_T33 x10 x12).f1) ≥ 2147483647 then (some false) else (refs_valid.l0 k x10 x11 (wrap64 (x12 + 1)) x102000))) else (some false))))) else (none)) else (none)) else (if (((rd_T33 x10 x12).f2).size : Int) > 16384 then (some false) else ((digest_Sum.f k ((rd_T33 x10 x12).f2)).bind fun c0_ => (if ((rd_T33 x10 x12).f0) = c0_ then (if ((rd_T33 x10 x12).f1) < 1 then (some false) else (if ((rd_T33 x10 x12).f1) ≥ 2147483647 then (some false) else (refs_valid.l0 k x10 x11 (wrap64 (x12 + 1)) x102000))) else (some false))))) else (none)) else (none)) else (some true)
def refs_valid.f (k : Nat) (l0_0 : List (S33)) : Option (Bool) := if (l0_0.length : Int) > 1024 then (some false) else (refs_valid.l0 k l0_0 (l0_0.length : Int) 0 l0_0)
def refs_valid.T6 : Bool × List (List Nat × List Nat) := (true, [([], []), ([0], [0]), ([1], [1]), ([2], [2]), ([3, 2], [2, 3]), ([2], [2]), ([5, 2], [2, 5]), ([2], [2]), ([7, 2], [2, 7]), ([6, 8, 2], [2, 6, 8]), ([9, 2], [2, 9]), ([10, 2], [2, 10]), ([4, 11, 2], [2, 4, 11]), ([2, 12], [2, 12]), ([13, 2], [13]), ([14], [14]), ([15, 14], [14, 15]), ([16, 14], [14, 16]), ([17, 14], [14, 17]), ([14, 18], [14, 18]), ([19, 14], [19]), ([20], [20]), ([21, 20], [20, 21]), ([20], [20]), ([23, 20], [20, 23]), ([24, 20, 20], [20, 24]), ([22, 25, 20], [20, 22, 25]), ([20, 26], [20, 26]), ([27, 25], [27]), ([28], [28]), ([29, 28], [28, 29]), ([30, 28], [28, 30]), ([28, 31], [28, 31]), ([32, 28], [32]), ([33], [33]), ([34, 33], [33, 34]), ([35, 33], [33, 35]), ([33, 36], [33, 36])])
def refs_valid.B6 : List Nat := [0, 1, 3, 7, 15, 7, 39, 7, 135, 487, 999, 2023, 4095, 8191, 16383, 32767, 65535, 131071, 262143, 524287, 1048575, 2097151, 4194303, 2097151, 10485759, 27262975, 67108863, 134217727, 268435455, 536870911, 1073741823, 2147483647, 4294967295, 8589934591, 17179869183, 34359738367, 68719476735, 137438953471]
theorem refs_valid.tab6 : rtab .any (opsOf Try.f29 6) = refs_valid.T6 := by kernel_rfl
theorem refs_valid.bits6 : waitsOk refs_valid.T6.2 refs_valid.B6 = true := by kernel_rfl
set_option maxHeartbeats 8000000 in
set_option maxRecDepth 100000 in
theorem refs_valid.calls (k : Nat) (A0_0 : Option Addr) (c0_0 : Nat) (l0_0 : List (S33)) (r : Bool) (w : World) (hr0_0 : Kd.C k33 w A0_0 l0_0.length l0_0) (hc0_0 : l0_0.length ≤ c0_0) (h : refs_valid.f k l0_0 = some r) :
 Calls Try.prog 29 #[.agg #[.slice A0_0 l0_0.length c0_0]] w fun e w' => e = .returned (.bool r) ∧ Below w.heap.size w w' := by
 have hu25 := Try.underlying25; have hu33 := Try.underlying33; have HR0_0 := As hr0_0; have HC0_0 := As hc0_0; clear hr0_0 hc0_0; have HB := As (Below.refl w.heap.size w); have H : (if (l0_0.length : Int) > 1024 then (some false) else (refs_valid.l0 k l0_0 (l0_0.length : Int) 0 l0_0)) = some r := h; clear h
 by_cases c2 : (l0_0.length : Int) > 1024
 ·rw [if_pos c2] at H
  have c3_ : decide (1024 < (l0_0.length : Int)) = true := decide_eq_true c2; have c4_ : decide (1024 < l0_0.length) = true := decide_eq_true (by omega); clear c2; obtain rfl := Option.some.inj H; go_enter Try.func29, Try.ntmps29; go_wp2_with (first | ((with_reducible refine gate_dst (N := 1) rfl ?_); (try (refine gate_guard (by rfl) ?_; dsimp only)); refine bxE 1 #[.slice A0_0 l0_0.length c0_0] 25 ?_; intro a9_ hg w3 hbox hb; have a3_ := As (hbox); have c2_ := As (by rw [hg]; exact (below_size hBq) : w.heap.size ≤ a9_); replace HB := sBq hb; have c9_ := c2_; clear hb hbox hg; have c5_ : w3.cell? ⟨a9_, 0, none⟩ = some (.slice A0_0 l0_0.length c0_0) := (blk_cell a3_.out 0).trans rfl; have c6_ := blk_frozen a3_.out 0)); go_ret; exact ⟨by first | rfl | (simp [errW_none, errW_some] <;> rfl) | (simp [*, errW_none, errW_some] <;> rfl), hBq⟩
 ·rw [if_neg c2] at H
  have c3_ : decide (1024 < (l0_0.length : Int)) = false := decide_eq_false c2; have c4_ : decide (1024 < l0_0.length) = false := decide_eq_false (by omega); clear c2; have H' := As H; clear H; go_enter Try.func29, Try.ntmps29; go_wp2_with (first | ((with_reducible refine gate_dst (N := 1) rfl ?_); (try (refine gate_guard (by rfl) ?_; dsimp only)); refine bxE 1 #[.slice A0_0 l0_0.length c0_0] 25 ?_; intro a9_ hg w5 hbox hb; have a3_ := As (hbox); have c2_ := As (by rw [hg]; exact (below_size hBq) : w.heap.size ≤ a9_); replace HB := sBq hb; have c9_ := c2_; clear hb hbox hg; have c7_ : w5.cell? ⟨a9_, 0, none⟩ = some (.slice A0_0 l0_0.length c0_0) := (blk_cell a3_.out 0).trans rfl; have c8_ := blk_frozen a3_.out 0))
  go_loopg [12] k (fun kq v12 w' => ∃ (a0_ : Int), v12 = .int .i64 a0_ ∧ Aside0 (refs_valid.l0 kq l0_0 (l0_0.length : Int) a0_ l0_0 = some r) ∧ Aside0 (kq ≤ k) ∧ Aside0 (w'.heap[a9_]? = some (.cells #[(.slice A0_0 l0_0.length c0_0)] 25 (0, 0))) ∧ Aside0 (Below w.heap.size w w'))
  case atStart => exact ⟨(0), (by first | rfl | (simp; done) | (simp [*]; done)), H', ⟨Nat.le_refl _⟩, ⟨by refine plT ?_; exact a3_.out⟩, ⟨hBq⟩⟩
  case round =>
   clear H'; (try clear c2); (try clear c3_); (try clear c4_); (try clear p2); (try clear c5_); (try clear c7_); (try clear c6_); (try clear c8_); obtain ⟨a0_, rfl, HA, HK1, a3_, HB⟩ := hrel
   cases gk with
   | zero => exact absurd HA.out (by simp [refs_valid.l0])
   | succ k1 =>
    have H := HA.out; clear HA; simp only [refs_valid.l0] at H
    by_cases c7 : a0_ < (l0_0.length : Int)
    ·rw [if_pos c7] at H
     have e4_ : decide (a0_ < (l0_0.length : Int)) = true := decide_eq_true c7; clear c7
     by_cases c8 : 0 ≤ a0_
     ·rw [if_pos c8] at H
      have g9_ : decide (0 ≤ a0_) = true := decide_eq_true c8; clear c8
      by_cases c9 : a0_ < (l0_0.length : Int)
      ·rw [if_pos c9] at H
       have h0_ : decide (a0_ < (l0_0.length : Int)) = true := decide_eq_true c9; clear c9
       by_cases c10 : a0_ > 0
       ·rw [if_pos c10] at H
        have d0_ : decide (0 < a0_) = true := decide_eq_true c10; clear c10; obtain ⟨ji11, hji11⟩ : ∃ j_ : Int, (wrap64 (a0_ - 1)) = j_ := ⟨_, rfl⟩; (replace H : (if 0 ≤ (ji11) then (if (ji11) < (l0_0.length : Int) then (if ((rd_T33 l0_0 a0_).f0) ≤ ((rd_T33 l0_0 (ji11)).f0) then (some false) else (if (((rd_T33 l0_0 a0_).f2).size : Int) > 16384 then (some false) else ((digest_Sum.f k1 ((rd_T33 l0_0 a0_).f2)).bind fun b8_ => (if ((rd_T33 l0_0 a0_).f0) = b8_ then (if ((rd_T33 l0_0 a0_).f1) < 1 then (some false) else (if ((rd_T33 l0_0 a0_).f1) ≥ 2147483647 then (some false) else (refs_valid.l0 k1 l0_0 (l0_0.length : Int) (wrap64 (a0_ + 1)) l0_0))) else (some false))))) else (none)) else (none)) = some r := by first | (rw [hji11] at H; exact H) | (simp only [hji11] at H ⊢; exact H)); have hji11w : (IntKind.i64.wrap (a0_ - 1)) = ji11 := (i64_w _).trans hji11
        by_cases c12 : 0 ≤ (ji11)
        ·rw [if_pos c12] at H
         have e5_ : decide (0 ≤ (ji11)) = true := decide_eq_true c12; clear c12
         by_cases c13 : (ji11) < (l0_0.length : Int)
         ·rw [if_pos c13] at H
          have e6_ : decide ((ji11) < (l0_0.length : Int)) = true := decide_eq_true c13; clear c13
          by_cases c14 : ((rd_T33 l0_0 a0_).f0) ≤ ((rd_T33 l0_0 (ji11)).f0)
          ·rw [if_pos c14] at H
           have d1_ : decide (((rd_T33 l0_0 a0_).f0) ≤ ((rd_T33 l0_0 (ji11)).f0)) = true := decide_eq_true c14; clear c14; obtain rfl := Option.some.inj H; have b1_ : 0 ≤ (a0_ : Int) := dq; have b2_ : a0_ < (l0_0.length : Int) := dq; obtain ⟨a5_, b6_, _, _, _⟩ := at_T33 (Kd.C_below HR0_0.out HB.out) a0_ b1_ b2_; cases b6_; replace b1_ := eq_true b1_; replace b2_ := eq_true b2_
           (try go_wp2_with (first | ((with_reducible refine gate_dst (N := 4) rfl ?_); (try (refine gate_guard (by rfl) ?_; dsimp only)); refine bxE 4 #[.int .i64 0, .int .i64 0, .string (⟨#[]⟩ : ByteArray)] 33 ?_; intro a1_ hg w15 hbox hb; have a2_ := As (hbox); have b3_ := As (by rw [hg]; exact (below_size hBq) : w.heap.size ≤ a1_); replace HB := sBq hb; have b9_ := b3_; have a4_ := As (by rw [hg]; exact Nat.ne_of_lt (blk_lt (g := a9_) (plq a3_.out)) : a9_ ≠ a1_); replace a3_ := As (blk_below (plq a3_.out) hb); have b0_ := As a4_.out.symm; clear hb hbox hg; have e7_ := b0_.out; have e8_ := a4_.out; have := cf3 a2_.out)))
           have n0_ : Aside0 ((((w15.setCell ⟨a1_, 0, none⟩ (((rd_T33 l0_0 a0_).f0))).setCell ⟨a1_, 1, none⟩ (((rd_T33 l0_0 a0_).f1))).setCell ⟨a1_, 2, none⟩ (.string ((rd_T33 l0_0 a0_).f2))).heap[a9_]? = some (.cells #[.slice (some a5_) l0_0.length c0_0] 25 (0, 0))) := ⟨by (iterate 3 (refine blk_far ?_ a4_.out _)); exact a3_.out⟩; have n1_ : Aside0 ((((w15.setCell ⟨a1_, 0, none⟩ (((rd_T33 l0_0 a0_).f0))).setCell ⟨a1_, 1, none⟩ (((rd_T33 l0_0 a0_).f1))).setCell ⟨a1_, 2, none⟩ (.string ((rd_T33 l0_0 a0_).f2))).heap[a1_]? = some (.cells #[((rd_T33 l0_0 a0_).f0), ((rd_T33 l0_0 a0_).f1), .string ((rd_T33 l0_0 a0_).f2)] 33 (0, 0))) := ⟨by apply puts3; exact a2_.out⟩
           have n2_ : Aside0 (Below w.heap.size w (((w15.setCell ⟨a1_, 0, none⟩ (((rd_T33 l0_0 a0_).f0))).setCell ⟨a1_, 1, none⟩ (((rd_T33 l0_0 a0_).f1))).setCell ⟨a1_, 2, none⟩ (.string ((rd_T33 l0_0 a0_).f2)))) := ⟨hBq⟩; (try clear a3_); (try clear a2_); (try clear HB); generalize (((w15.setCell ⟨a1_, 0, none⟩ (((rd_T33 l0_0 a0_).f0))).setCell ⟨a1_, 1, none⟩ (((rd_T33 l0_0 a0_).f1))).setCell ⟨a1_, 2, none⟩ (.string ((rd_T33 l0_0 a0_).f2))) = w18 at n0_ n1_ n2_ ⊢; have a3_ := n0_; have a2_ := n1_; have HB := n2_; clear n0_ n1_ n2_; replace a3_ := As (blk_drew a3_.out); replace a2_ := As (blk_drew a2_.out); replace HB := As (below_drew1 HB.out); have b4_ : 0 ≤ ((ji11) : Int) := dq; have b5_ : (ji11) < (l0_0.length : Int) := dq; obtain ⟨b7_, c1_, a6_, a7_, a8_⟩ := at_T33 HR0_0.out (ji11) b4_ b5_; have hw104_2 := a8_; have hw104_1 := a7_; have hw104_0 := a6_; obtain rfl : a5_ = b7_ := (by injection c1_)
           replace a6_ := (HB.out.cell (World.block_lt_of_cell? w _ a6_)).trans a6_; replace a7_ := (HB.out.cell (World.block_lt_of_cell? w _ a7_)).trans a7_; replace a8_ := (HB.out.cell (World.block_lt_of_cell? w _ a8_)).trans a8_; replace b4_ := eq_true b4_; replace b5_ := eq_true b5_
           refine start_ (n := 38) (S := fun w' => w'.cell? ⟨a1_, 0, none⟩ = some (((rd_T33 l0_0 a0_).f0)) ∧ w'.cell? ⟨a1_, 1, none⟩ = some (((rd_T33 l0_0 a0_).f1)) ∧ w'.cell? ⟨a1_, 2, none⟩ = some (.string ((rd_T33 l0_0 a0_).f2)) ∧ w'.cell? ⟨a9_, 0, none⟩ = some (.slice (some a5_) l0_0.length c0_0) ∧ w'.cell? (a5_.add (((ji11)).toNat * 3)) = some (((rd_T33 l0_0 (ji11)).f0)) ∧ w'.cell? ⟨(a5_.add (((ji11)).toNat * 3)).block, (a5_.add (((ji11)).toNat * 3)).off + 1, none⟩ = some (((rd_T33 l0_0 (ji11)).f1)) ∧ w'.cell? ⟨(a5_.add (((ji11)).toNat * 3)).block, (a5_.add (((ji11)).toNat * 3)).off + 2, none⟩ = some (.string ((rd_T33 l0_0 (ji11)).f2))) (ds := []) (marksOf 38 0) (by kernel_rfl) rfl rfl ⟨bc a2_ 0, bc a2_ 1, bc a2_ 2, bc a3_ 0, ((HB.out.cell (World.block_lt_of_cell? w _ hw104_0)).trans hw104_0), ((HB.out.cell (World.block_lt_of_cell? w _ hw104_1)).trans hw104_1), ((HB.out.cell (World.block_lt_of_cell? w _ hw104_2)).trans hw104_2)⟩ (fun hHeld => ?_); refine with_tabW refs_valid.tab6 refs_valid.bits6 (fun HT_ HW_ => ?_); generalize w18.drew = w19 at a3_ a2_ HB a6_ a7_ a8_ hHeld ⊢; refine pv_ 0 17 38 1 ?_
           refine pv_ 1 18 38 3 ?_; refine pv_ 2 19 38 7 ?_; refine pv_ 3 20 38 15 ?_; refine pv_ 5 22 38 47 ?_; refine pv_ 7 24 38 175 ?_; refine pv_ 8 25 38 431 ?_
           (refine ta_ 4 21 38 447 ?_ rfl rfl (take_ofW HT_.out HW_.out (by kernel_rfl)) (fun _ _ _ h => h) (by rfl) ?_ hHeld ?_ ?_ ?_; rotate_left; rintro w' ⟨s0, s1, s2, s3, s4, s5, s6⟩; go_simp; with_reducible rfl; rotate_left; simp only [Act.put, q1, q2, q3, i64_w, i32_w]; rfl); (refine ta_ 6 23 38 511 ?_ rfl rfl (take_ofW HT_.out HW_.out (by kernel_rfl)) (fun _ _ _ h => h) (by rfl) ?_ hHeld ?_ ?_ ?_; rotate_left; rintro w' ⟨s0, s1, s2, s3, s4, s5, s6⟩; go_simp; with_reducible rfl; rotate_left; simp only [Act.put, q1, q2, q3, i64_w, i32_w]; rfl); refine pv_ 9 26 38 1023 ?_; refine pv_ 10 27 38 2047 ?_; (refine ta_ 11 28 38 4095 ?_ rfl rfl (take_ofW HT_.out HW_.out (by kernel_rfl)) (fun _ _ _ h => h) (by rfl) ?_ hHeld ?_ ?_ ?_; rotate_left; rintro w' ⟨s0, s1, s2, s3, s4, s5, s6⟩; go_simp; with_reducible rfl; rotate_left; simp only [Act.put, q1, q2, q3, i64_w, i32_w]; rfl)
           refine pv_ 12 29 38 8191 ?_; refine pv_ 13 30 38 16383 ?_; refine pv_ 14 31 38 32767 ?_; refine pure_ (i := 15) (N := some 32) (v := undef) (a' := ?_) (marksOf 38 65535) rfl rfl (any_of HT_.out (by kernel_rfl)) (fun _ _ _ h => h) (Or.inr ⟨by rfl, rfl⟩) ?_ ?_; rotate_left
           ·simp only [Act.put, q1, q2, q3, i64_w, i32_w]
            rfl
           refine pure_ (i := 16) (N := some 33) (v := undef) (a' := ?_) (marksOf 38 131071) rfl rfl (any_of HT_.out (by kernel_rfl)) (fun _ _ _ h => h) (Or.inr ⟨by rfl, rfl⟩) ?_ ?_; rotate_left
           ·simp only [Act.put, q1, q2, q3, i64_w, i32_w]
            rfl
           refine pure_ (i := 17) (N := some 34) (v := undef) (a' := ?_) (marksOf 38 262143) rfl rfl (any_of HT_.out (by kernel_rfl)) (fun _ _ _ h => h) (Or.inr ⟨by rfl, rfl⟩) ?_ ?_; rotate_left
           ·simp only [Act.put, q1, q2, q3, i64_w, i32_w]
            rfl
           refine pure_ (i := 18) (N := some 35) (v := undef) (a' := ?_) (marksOf 38 524287) rfl rfl (any_of HT_.out (by kernel_rfl)) (fun _ _ _ h => h) (Or.inr ⟨by rfl, rfl⟩) ?_ ?_; rotate_left
           ·simp only [Act.put, q1, q2, q3, i64_w, i32_w]
            rfl
           refine pv_ 19 36 38 1048575 ?_; refine pv_ 20 37 38 2097151 ?_; refine pure_ (i := 21) (N := some 38) (v := undef) (a' := ?_) (marksOf 38 4194303) rfl rfl (any_of HT_.out (by kernel_rfl)) (fun _ _ _ h => h) (Or.inr ⟨by rfl, rfl⟩) ?_ ?_; rotate_left
           ·simp only [Act.put, q1, q2, q3, i64_w, i32_w]
            rfl
           refine pure_ (i := 22) (N := some 39) (v := undef) (a' := ?_) (marksOf 38 8388607) rfl rfl (any_of HT_.out (by kernel_rfl)) (fun _ _ _ h => h) (Or.inr ⟨by rfl, rfl⟩) ?_ ?_; rotate_left
           ·simp only [Act.put, q1, q2, q3, i64_w, i32_w]
            rfl
           refine pure_ (i := 23) (N := some 40) (v := undef) (a' := ?_) (marksOf 38 16777215) rfl rfl (any_of HT_.out (by kernel_rfl)) (fun _ _ _ h => h) (Or.inr ⟨by rfl, rfl⟩) ?_ ?_; rotate_left
           ·simp only [Act.put, q1, q2, q3, i64_w, i32_w]
            rfl
           refine pure_ (i := 24) (N := some 41) (v := undef) (a' := ?_) (marksOf 38 33554431) rfl rfl (any_of HT_.out (by kernel_rfl)) (fun _ _ _ h => h) (Or.inr ⟨by rfl, rfl⟩) ?_ ?_; rotate_left
           ·simp only [Act.put, q1, q2, q3, i64_w, i32_w]
            rfl
           refine pure_ (i := 25) (N := some 42) (v := undef) (a' := ?_) (marksOf 38 67108863) rfl rfl (any_of HT_.out (by kernel_rfl)) (fun _ _ _ h => h) (Or.inr ⟨by rfl, rfl⟩) ?_ ?_; rotate_left
           ·simp only [Act.put, q1, q2, q3, i64_w, i32_w]
            rfl
           refine pure_ (i := 26) (N := some 43) (v := undef) (a' := ?_) (marksOf 38 134217727) rfl rfl (any_of HT_.out (by kernel_rfl)) (fun _ _ _ h => h) (Or.inr ⟨by rfl, rfl⟩) ?_ ?_; rotate_left
           ·simp only [Act.put, q1, q2, q3, i64_w, i32_w]
            rfl
           refine pv_ 27 44 38 268435455 ?_; refine pv_ 28 45 38 536870911 ?_; refine pure_ (i := 29) (N := some 46) (v := undef) (a' := ?_) (marksOf 38 1073741823) rfl rfl (any_of HT_.out (by kernel_rfl)) (fun _ _ _ h => h) (Or.inr ⟨by rfl, rfl⟩) ?_ ?_; rotate_left
           ·simp only [Act.put, q1, q2, q3, i64_w, i32_w]
            rfl
           refine pure_ (i := 30) (N := some 47) (v := undef) (a' := ?_) (marksOf 38 2147483647) rfl rfl (any_of HT_.out (by kernel_rfl)) (fun _ _ _ h => h) (Or.inr ⟨by rfl, rfl⟩) ?_ ?_; rotate_left
           ·simp only [Act.put, q1, q2, q3, i64_w, i32_w]
            rfl
           refine pure_ (i := 31) (N := some 48) (v := undef) (a' := ?_) (marksOf 38 4294967295) rfl rfl (any_of HT_.out (by kernel_rfl)) (fun _ _ _ h => h) (Or.inr ⟨by rfl, rfl⟩) ?_ ?_; rotate_left
           ·simp only [Act.put, q1, q2, q3, i64_w, i32_w]
            rfl
           refine pv_ 32 49 38 8589934591 ?_; refine pv_ 33 50 38 17179869183 ?_; refine pure_ (i := 34) (N := some 51) (v := undef) (a' := ?_) (marksOf 38 34359738367) rfl rfl (any_of HT_.out (by kernel_rfl)) (fun _ _ _ h => h) (Or.inr ⟨by rfl, rfl⟩) ?_ ?_; rotate_left
           ·simp only [Act.put, q1, q2, q3, i64_w, i32_w]
            rfl
           refine pure_ (i := 35) (N := some 52) (v := undef) (a' := ?_) (marksOf 38 68719476735) rfl rfl (any_of HT_.out (by kernel_rfl)) (fun _ _ _ h => h) (Or.inr ⟨by rfl, rfl⟩) ?_ ?_; rotate_left
           ·simp only [Act.put, q1, q2, q3, i64_w, i32_w]
            rfl
           refine pure_ (i := 36) (N := some 53) (v := undef) (a' := ?_) (marksOf 38 137438953471) rfl rfl (any_of HT_.out (by kernel_rfl)) (fun _ _ _ h => h) (Or.inr ⟨by rfl, rfl⟩) ?_ ?_; rotate_left
           ·simp only [Act.put, q1, q2, q3, i64_w, i32_w]
            rfl
           refine pv_ 37 54 38 274877906943 ?_; refine done_ (done_of HT_.out (by kernel_rfl)) ?_; (try go_wp2); go_ret; exact ⟨by first | rfl | (simp [errW_none, errW_some] <;> rfl) | (simp only [← hji11]; first | rfl | (simp [errW_none, errW_some] <;> rfl)) | (simp [*, errW_none, errW_some] <;> rfl), hBq⟩
          ·rw [if_neg c14] at H
           have d1_ : decide (((rd_T33 l0_0 a0_).f0) ≤ ((rd_T33 l0_0 (ji11)).f0)) = false := decide_eq_false c14; clear c14
           by_cases c20 : (((rd_T33 l0_0 a0_).f2).size : Int) > 16384
           ·rw [if_pos c20] at H
            have d2_ : decide (16384 < (((rd_T33 l0_0 a0_).f2).size : Int)) = true := decide_eq_true c20; have d3_ : decide (16384 < ((rd_T33 l0_0 a0_).f2).size) = true := decide_eq_true (by omega); clear c20; obtain rfl := Option.some.inj H; have b1_ : 0 ≤ (a0_ : Int) := dq; have b2_ : a0_ < (l0_0.length : Int) := dq; obtain ⟨a5_, b6_, _, _, _⟩ := at_T33 (Kd.C_below HR0_0.out HB.out) a0_ b1_ b2_; cases b6_; replace b1_ := eq_true b1_; replace b2_ := eq_true b2_
            (try go_wp2_with (first | ((with_reducible refine gate_dst (N := 4) rfl ?_); (try (refine gate_guard (by rfl) ?_; dsimp only)); refine bxE 4 #[.int .i64 0, .int .i64 0, .string (⟨#[]⟩ : ByteArray)] 33 ?_; intro a1_ hg w21 hbox hb; have a2_ := As (hbox); have b3_ := As (by rw [hg]; exact (below_size hBq) : w.heap.size ≤ a1_); replace HB := sBq hb; have b9_ := b3_; have a4_ := As (by rw [hg]; exact Nat.ne_of_lt (blk_lt (g := a9_) (plq a3_.out)) : a9_ ≠ a1_); replace a3_ := As (blk_below (plq a3_.out) hb); have b0_ := As a4_.out.symm; clear hb hbox hg; have e9_ := b0_.out; have f0_ := a4_.out; have := cf3 a2_.out)))
            have n0_ : Aside0 ((((w21.setCell ⟨a1_, 0, none⟩ (((rd_T33 l0_0 a0_).f0))).setCell ⟨a1_, 1, none⟩ (((rd_T33 l0_0 a0_).f1))).setCell ⟨a1_, 2, none⟩ (.string ((rd_T33 l0_0 a0_).f2))).heap[a9_]? = some (.cells #[.slice (some a5_) l0_0.length c0_0] 25 (0, 0))) := ⟨by (iterate 3 (refine blk_far ?_ a4_.out _)); exact a3_.out⟩; have n1_ : Aside0 ((((w21.setCell ⟨a1_, 0, none⟩ (((rd_T33 l0_0 a0_).f0))).setCell ⟨a1_, 1, none⟩ (((rd_T33 l0_0 a0_).f1))).setCell ⟨a1_, 2, none⟩ (.string ((rd_T33 l0_0 a0_).f2))).heap[a1_]? = some (.cells #[((rd_T33 l0_0 a0_).f0), ((rd_T33 l0_0 a0_).f1), .string ((rd_T33 l0_0 a0_).f2)] 33 (0, 0))) := ⟨by apply puts3; exact a2_.out⟩
            have n2_ : Aside0 (Below w.heap.size w (((w21.setCell ⟨a1_, 0, none⟩ (((rd_T33 l0_0 a0_).f0))).setCell ⟨a1_, 1, none⟩ (((rd_T33 l0_0 a0_).f1))).setCell ⟨a1_, 2, none⟩ (.string ((rd_T33 l0_0 a0_).f2)))) := ⟨hBq⟩; (try clear a3_); (try clear a2_); (try clear HB); generalize (((w21.setCell ⟨a1_, 0, none⟩ (((rd_T33 l0_0 a0_).f0))).setCell ⟨a1_, 1, none⟩ (((rd_T33 l0_0 a0_).f1))).setCell ⟨a1_, 2, none⟩ (.string ((rd_T33 l0_0 a0_).f2))) = w24 at n0_ n1_ n2_ ⊢; have a3_ := n0_; have a2_ := n1_; have HB := n2_; clear n0_ n1_ n2_; replace a3_ := As (blk_drew a3_.out); replace a2_ := As (blk_drew a2_.out); replace HB := As (below_drew1 HB.out); have b4_ : 0 ≤ ((ji11) : Int) := dq; have b5_ : (ji11) < (l0_0.length : Int) := dq; obtain ⟨b7_, c1_, a6_, a7_, a8_⟩ := at_T33 HR0_0.out (ji11) b4_ b5_; have hw104_2 := a8_; have hw104_1 := a7_; have hw104_0 := a6_; obtain rfl : a5_ = b7_ := (by injection c1_)
            replace a6_ := (HB.out.cell (World.block_lt_of_cell? w _ a6_)).trans a6_; replace a7_ := (HB.out.cell (World.block_lt_of_cell? w _ a7_)).trans a7_; replace a8_ := (HB.out.cell (World.block_lt_of_cell? w _ a8_)).trans a8_; replace b4_ := eq_true b4_; replace b5_ := eq_true b5_
            refine start_ (n := 38) (S := fun w' => w'.cell? ⟨a1_, 0, none⟩ = some (((rd_T33 l0_0 a0_).f0)) ∧ w'.cell? ⟨a1_, 1, none⟩ = some (((rd_T33 l0_0 a0_).f1)) ∧ w'.cell? ⟨a1_, 2, none⟩ = some (.string ((rd_T33 l0_0 a0_).f2)) ∧ w'.cell? ⟨a9_, 0, none⟩ = some (.slice (some a5_) l0_0.length c0_0) ∧ w'.cell? (a5_.add (((ji11)).toNat * 3)) = some (((rd_T33 l0_0 (ji11)).f0)) ∧ w'.cell? ⟨(a5_.add (((ji11)).toNat * 3)).block, (a5_.add (((ji11)).toNat * 3)).off + 1, none⟩ = some (((rd_T33 l0_0 (ji11)).f1)) ∧ w'.cell? ⟨(a5_.add (((ji11)).toNat * 3)).block, (a5_.add (((ji11)).toNat * 3)).off + 2, none⟩ = some (.string ((rd_T33 l0_0 (ji11)).f2))) (ds := []) (marksOf 38 0) (by kernel_rfl) rfl rfl ⟨bc a2_ 0, bc a2_ 1, bc a2_ 2, bc a3_ 0, ((HB.out.cell (World.block_lt_of_cell? w _ hw104_0)).trans hw104_0), ((HB.out.cell (World.block_lt_of_cell? w _ hw104_1)).trans hw104_1), ((HB.out.cell (World.block_lt_of_cell? w _ hw104_2)).trans hw104_2)⟩ (fun hHeld => ?_); refine with_tabW refs_valid.tab6 refs_valid.bits6 (fun HT_ HW_ => ?_); generalize w24.drew = w25 at a3_ a2_ HB a6_ a7_ a8_ hHeld ⊢; refine pv_ 0 17 38 1 ?_
            refine pv_ 1 18 38 3 ?_; refine pv_ 2 19 38 7 ?_; refine pv_ 3 20 38 15 ?_; refine pv_ 5 22 38 47 ?_; refine pv_ 7 24 38 175 ?_; refine pv_ 8 25 38 431 ?_
            (refine ta_ 4 21 38 447 ?_ rfl rfl (take_ofW HT_.out HW_.out (by kernel_rfl)) (fun _ _ _ h => h) (by rfl) ?_ hHeld ?_ ?_ ?_; rotate_left; rintro w' ⟨s0, s1, s2, s3, s4, s5, s6⟩; go_simp; with_reducible rfl; rotate_left; simp only [Act.put, q1, q2, q3, i64_w, i32_w]; rfl); (refine ta_ 6 23 38 511 ?_ rfl rfl (take_ofW HT_.out HW_.out (by kernel_rfl)) (fun _ _ _ h => h) (by rfl) ?_ hHeld ?_ ?_ ?_; rotate_left; rintro w' ⟨s0, s1, s2, s3, s4, s5, s6⟩; go_simp; with_reducible rfl; rotate_left; simp only [Act.put, q1, q2, q3, i64_w, i32_w]; rfl); refine pv_ 9 26 38 1023 ?_; refine pv_ 10 27 38 2047 ?_; (refine ta_ 11 28 38 4095 ?_ rfl rfl (take_ofW HT_.out HW_.out (by kernel_rfl)) (fun _ _ _ h => h) (by rfl) ?_ hHeld ?_ ?_ ?_; rotate_left; rintro w' ⟨s0, s1, s2, s3, s4, s5, s6⟩; go_simp; with_reducible rfl; rotate_left; simp only [Act.put, q1, q2, q3, i64_w, i32_w]; rfl)
            refine pv_ 12 29 38 8191 ?_; refine pv_ 13 30 38 16383 ?_; refine pv_ 14 31 38 32767 ?_; refine pv_ 15 32 38 65535 ?_; (refine ta_ 16 33 38 131071 ?_ rfl rfl (take_ofW HT_.out HW_.out (by kernel_rfl)) (fun _ _ _ h => h) (by rfl) ?_ hHeld ?_ ?_ ?_; rotate_left; rintro w' ⟨s0, s1, s2, s3, s4, s5, s6⟩; go_simp; with_reducible rfl; rotate_left; simp only [Act.put, q1, q2, q3, i64_w, i32_w]; rfl); refine pv_ 17 34 38 262143 ?_
            refine pv_ 18 35 38 524287 ?_; refine pv_ 19 36 38 1048575 ?_; refine pv_ 20 37 38 2097151 ?_; refine pure_ (i := 21) (N := some 38) (v := undef) (a' := ?_) (marksOf 38 4194303) rfl rfl (any_of HT_.out (by kernel_rfl)) (fun _ _ _ h => h) (Or.inr ⟨by rfl, rfl⟩) ?_ ?_; rotate_left
            ·simp only [Act.put, q1, q2, q3, i64_w, i32_w]
             rfl
            refine pure_ (i := 22) (N := some 39) (v := undef) (a' := ?_) (marksOf 38 8388607) rfl rfl (any_of HT_.out (by kernel_rfl)) (fun _ _ _ h => h) (Or.inr ⟨by rfl, rfl⟩) ?_ ?_; rotate_left
            ·simp only [Act.put, q1, q2, q3, i64_w, i32_w]
             rfl
            refine pure_ (i := 23) (N := some 40) (v := undef) (a' := ?_) (marksOf 38 16777215) rfl rfl (any_of HT_.out (by kernel_rfl)) (fun _ _ _ h => h) (Or.inr ⟨by rfl, rfl⟩) ?_ ?_; rotate_left
            ·simp only [Act.put, q1, q2, q3, i64_w, i32_w]
             rfl
            refine pure_ (i := 24) (N := some 41) (v := undef) (a' := ?_) (marksOf 38 33554431) rfl rfl (any_of HT_.out (by kernel_rfl)) (fun _ _ _ h => h) (Or.inr ⟨by rfl, rfl⟩) ?_ ?_; rotate_left
            ·simp only [Act.put, q1, q2, q3, i64_w, i32_w]
             rfl
            refine pure_ (i := 25) (N := some 42) (v := undef) (a' := ?_) (marksOf 38 67108863) rfl rfl (any_of HT_.out (by kernel_rfl)) (fun _ _ _ h => h) (Or.inr ⟨by rfl, rfl⟩) ?_ ?_; rotate_left
            ·simp only [Act.put, q1, q2, q3, i64_w, i32_w]
             rfl
            refine pure_ (i := 26) (N := some 43) (v := undef) (a' := ?_) (marksOf 38 134217727) rfl rfl (any_of HT_.out (by kernel_rfl)) (fun _ _ _ h => h) (Or.inr ⟨by rfl, rfl⟩) ?_ ?_; rotate_left
            ·simp only [Act.put, q1, q2, q3, i64_w, i32_w]
             rfl
            refine pv_ 27 44 38 268435455 ?_; refine pv_ 28 45 38 536870911 ?_; refine pure_ (i := 29) (N := some 46) (v := undef) (a' := ?_) (marksOf 38 1073741823) rfl rfl (any_of HT_.out (by kernel_rfl)) (fun _ _ _ h => h) (Or.inr ⟨by rfl, rfl⟩) ?_ ?_; rotate_left
            ·simp only [Act.put, q1, q2, q3, i64_w, i32_w]
             rfl
            refine pure_ (i := 30) (N := some 47) (v := undef) (a' := ?_) (marksOf 38 2147483647) rfl rfl (any_of HT_.out (by kernel_rfl)) (fun _ _ _ h => h) (Or.inr ⟨by rfl, rfl⟩) ?_ ?_; rotate_left
            ·simp only [Act.put, q1, q2, q3, i64_w, i32_w]
             rfl
            refine pure_ (i := 31) (N := some 48) (v := undef) (a' := ?_) (marksOf 38 4294967295) rfl rfl (any_of HT_.out (by kernel_rfl)) (fun _ _ _ h => h) (Or.inr ⟨by rfl, rfl⟩) ?_ ?_; rotate_left
            ·simp only [Act.put, q1, q2, q3, i64_w, i32_w]
             rfl
            refine pv_ 32 49 38 8589934591 ?_; refine pv_ 33 50 38 17179869183 ?_; refine pure_ (i := 34) (N := some 51) (v := undef) (a' := ?_) (marksOf 38 34359738367) rfl rfl (any_of HT_.out (by kernel_rfl)) (fun _ _ _ h => h) (Or.inr ⟨by rfl, rfl⟩) ?_ ?_; rotate_left
            ·simp only [Act.put, q1, q2, q3, i64_w, i32_w]
             rfl
            refine pure_ (i := 35) (N := some 52) (v := undef) (a' := ?_) (marksOf 38 68719476735) rfl rfl (any_of HT_.out (by kernel_rfl)) (fun _ _ _ h => h) (Or.inr ⟨by rfl, rfl⟩) ?_ ?_; rotate_left
            ·simp only [Act.put, q1, q2, q3, i64_w, i32_w]
             rfl
            refine pure_ (i := 36) (N := some 53) (v := undef) (a' := ?_) (marksOf 38 137438953471) rfl rfl (any_of HT_.out (by kernel_rfl)) (fun _ _ _ h => h) (Or.inr ⟨by rfl, rfl⟩) ?_ ?_; rotate_left
            ·simp only [Act.put, q1, q2, q3, i64_w, i32_w]
             rfl
            refine pv_ 37 54 38 274877906943 ?_; refine done_ (done_of HT_.out (by kernel_rfl)) ?_; (try go_wp2); go_ret; exact ⟨by first | rfl | (simp [errW_none, errW_some] <;> rfl) | (simp only [← hji11]; first | rfl | (simp [errW_none, errW_some] <;> rfl)) | (simp [*, errW_none, errW_some] <;> rfl), hBq⟩
           ·rw [if_neg c20] at H
            have d2_ : decide (16384 < (((rd_T33 l0_0 a0_).f2).size : Int)) = false := decide_eq_false c20; have d3_ : decide (16384 < ((rd_T33 l0_0 a0_).f2).size) = false := decide_eq_false (by omega); clear c20; obtain ⟨b8_, A26, H⟩ := bnd H; (try dsimp only at H)
            by_cases c27 : ((rd_T33 l0_0 a0_).f0) = b8_
            ·rw [if_pos c27] at H
             have d4_ : (((rd_T33 l0_0 a0_).f0) == b8_) = true := beq_iff_eq.mpr c27; have d5_ : (((rd_T33 l0_0 a0_).f0) != b8_) = false := bne_eq_false_iff_eq.mpr c27; clear c27
             by_cases c28 : ((rd_T33 l0_0 a0_).f1) < 1
             ·rw [if_pos c28] at H
              have d6_ : decide (((rd_T33 l0_0 a0_).f1) < 1) = true := decide_eq_true c28; clear c28; obtain rfl := Option.some.inj H; have b1_ : 0 ≤ (a0_ : Int) := dq; have b2_ : a0_ < (l0_0.length : Int) := dq; obtain ⟨a5_, b6_, _, _, _⟩ := at_T33 (Kd.C_below HR0_0.out HB.out) a0_ b1_ b2_; cases b6_; replace b1_ := eq_true b1_; replace b2_ := eq_true b2_
              (try go_wp2_with (first | ((with_reducible refine gate_dst (N := 4) rfl ?_); (try (refine gate_guard (by rfl) ?_; dsimp only)); refine bxE 4 #[.int .i64 0, .int .i64 0, .string (⟨#[]⟩ : ByteArray)] 33 ?_; intro a1_ hg w29 hbox hb; have a2_ := As (hbox); have b3_ := As (by rw [hg]; exact (below_size hBq) : w.heap.size ≤ a1_); replace HB := sBq hb; have b9_ := b3_; have a4_ := As (by rw [hg]; exact Nat.ne_of_lt (blk_lt (g := a9_) (plq a3_.out)) : a9_ ≠ a1_); replace a3_ := As (blk_below (plq a3_.out) hb); have b0_ := As a4_.out.symm; clear hb hbox hg; have f1_ := b0_.out; have f2_ := a4_.out; have := cf3 a2_.out)))
              have n0_ : Aside0 ((((w29.setCell ⟨a1_, 0, none⟩ (((rd_T33 l0_0 a0_).f0))).setCell ⟨a1_, 1, none⟩ (((rd_T33 l0_0 a0_).f1))).setCell ⟨a1_, 2, none⟩ (.string ((rd_T33 l0_0 a0_).f2))).heap[a9_]? = some (.cells #[.slice (some a5_) l0_0.length c0_0] 25 (0, 0))) := ⟨by (iterate 3 (refine blk_far ?_ a4_.out _)); exact a3_.out⟩; have n1_ : Aside0 ((((w29.setCell ⟨a1_, 0, none⟩ (((rd_T33 l0_0 a0_).f0))).setCell ⟨a1_, 1, none⟩ (((rd_T33 l0_0 a0_).f1))).setCell ⟨a1_, 2, none⟩ (.string ((rd_T33 l0_0 a0_).f2))).heap[a1_]? = some (.cells #[((rd_T33 l0_0 a0_).f0), ((rd_T33 l0_0 a0_).f1), .string ((rd_T33 l0_0 a0_).f2)] 33 (0, 0))) := ⟨by apply puts3; exact a2_.out⟩
              have n2_ : Aside0 (Below w.heap.size w (((w29.setCell ⟨a1_, 0, none⟩ (((rd_T33 l0_0 a0_).f0))).setCell ⟨a1_, 1, none⟩ (((rd_T33 l0_0 a0_).f1))).setCell ⟨a1_, 2, none⟩ (.string ((rd_T33 l0_0 a0_).f2)))) := ⟨hBq⟩; (try clear a3_); (try clear a2_); (try clear HB); generalize (((w29.setCell ⟨a1_, 0, none⟩ (((rd_T33 l0_0 a0_).f0))).setCell ⟨a1_, 1, none⟩ (((rd_T33 l0_0 a0_).f1))).setCell ⟨a1_, 2, none⟩ (.string ((rd_T33 l0_0 a0_).f2))) = w32 at n0_ n1_ n2_ ⊢; have a3_ := n0_; have a2_ := n1_; have HB := n2_; clear n0_ n1_ n2_; replace a3_ := As (blk_drew a3_.out); replace a2_ := As (blk_drew a2_.out); replace HB := As (below_drew1 HB.out); have b4_ : 0 ≤ ((ji11) : Int) := dq; have b5_ : (ji11) < (l0_0.length : Int) := dq; obtain ⟨b7_, c1_, a6_, a7_, a8_⟩ := at_T33 HR0_0.out (ji11) b4_ b5_; have hw104_2 := a8_; have hw104_1 := a7_; have hw104_0 := a6_; obtain rfl : a5_ = b7_ := (by injection c1_)
              replace a6_ := (HB.out.cell (World.block_lt_of_cell? w _ a6_)).trans a6_; replace a7_ := (HB.out.cell (World.block_lt_of_cell? w _ a7_)).trans a7_; replace a8_ := (HB.out.cell (World.block_lt_of_cell? w _ a8_)).trans a8_; replace b4_ := eq_true b4_; replace b5_ := eq_true b5_
              refine start_ (n := 38) (S := fun w' => w'.cell? ⟨a1_, 0, none⟩ = some (((rd_T33 l0_0 a0_).f0)) ∧ w'.cell? ⟨a1_, 1, none⟩ = some (((rd_T33 l0_0 a0_).f1)) ∧ w'.cell? ⟨a1_, 2, none⟩ = some (.string ((rd_T33 l0_0 a0_).f2)) ∧ w'.cell? ⟨a9_, 0, none⟩ = some (.slice (some a5_) l0_0.length c0_0) ∧ w'.cell? (a5_.add (((ji11)).toNat * 3)) = some (((rd_T33 l0_0 (ji11)).f0)) ∧ w'.cell? ⟨(a5_.add (((ji11)).toNat * 3)).block, (a5_.add (((ji11)).toNat * 3)).off + 1, none⟩ = some (((rd_T33 l0_0 (ji11)).f1)) ∧ w'.cell? ⟨(a5_.add (((ji11)).toNat * 3)).block, (a5_.add (((ji11)).toNat * 3)).off + 2, none⟩ = some (.string ((rd_T33 l0_0 (ji11)).f2))) (ds := []) (marksOf 38 0) (by kernel_rfl) rfl rfl ⟨bc a2_ 0, bc a2_ 1, bc a2_ 2, bc a3_ 0, ((HB.out.cell (World.block_lt_of_cell? w _ hw104_0)).trans hw104_0), ((HB.out.cell (World.block_lt_of_cell? w _ hw104_1)).trans hw104_1), ((HB.out.cell (World.block_lt_of_cell? w _ hw104_2)).trans hw104_2)⟩ (fun hHeld => ?_); refine with_tabW refs_valid.tab6 refs_valid.bits6 (fun HT_ HW_ => ?_); generalize w32.drew = w33 at a3_ a2_ HB a6_ a7_ a8_ hHeld ⊢
              refine pv_ 0 17 38 1 ?_; refine pv_ 1 18 38 3 ?_; refine pv_ 2 19 38 7 ?_; refine pv_ 3 20 38 15 ?_; refine pv_ 5 22 38 47 ?_; refine pv_ 7 24 38 175 ?_
              refine pv_ 8 25 38 431 ?_; (refine ta_ 4 21 38 447 ?_ rfl rfl (take_ofW HT_.out HW_.out (by kernel_rfl)) (fun _ _ _ h => h) (by rfl) ?_ hHeld ?_ ?_ ?_; rotate_left; rintro w' ⟨s0, s1, s2, s3, s4, s5, s6⟩; go_simp; with_reducible rfl; rotate_left; simp only [Act.put, q1, q2, q3, i64_w, i32_w]; rfl); (refine ta_ 6 23 38 511 ?_ rfl rfl (take_ofW HT_.out HW_.out (by kernel_rfl)) (fun _ _ _ h => h) (by rfl) ?_ hHeld ?_ ?_ ?_; rotate_left; rintro w' ⟨s0, s1, s2, s3, s4, s5, s6⟩; go_simp; with_reducible rfl; rotate_left; simp only [Act.put, q1, q2, q3, i64_w, i32_w]; rfl); refine pv_ 9 26 38 1023 ?_; refine pv_ 10 27 38 2047 ?_
              (refine ta_ 11 28 38 4095 ?_ rfl rfl (take_ofW HT_.out HW_.out (by kernel_rfl)) (fun _ _ _ h => h) (by rfl) ?_ hHeld ?_ ?_ ?_; rotate_left; rintro w' ⟨s0, s1, s2, s3, s4, s5, s6⟩; go_simp; with_reducible rfl; rotate_left; simp only [Act.put, q1, q2, q3, i64_w, i32_w]; rfl); refine pv_ 12 29 38 8191 ?_; refine pv_ 13 30 38 16383 ?_; refine pv_ 14 31 38 32767 ?_; refine pv_ 15 32 38 65535 ?_; (refine ta_ 16 33 38 131071 ?_ rfl rfl (take_ofW HT_.out HW_.out (by kernel_rfl)) (fun _ _ _ h => h) (by rfl) ?_ hHeld ?_ ?_ ?_; rotate_left; rintro w' ⟨s0, s1, s2, s3, s4, s5, s6⟩; go_simp; with_reducible rfl; rotate_left; simp only [Act.put, q1, q2, q3, i64_w, i32_w]; rfl)
              refine pv_ 17 34 38 262143 ?_; refine pv_ 18 35 38 524287 ?_; refine pv_ 19 36 38 1048575 ?_; refine pv_ 20 37 38 2097151 ?_; refine pv_ 21 38 38 4194303 ?_; refine pv_ 23 40 38 12582911 ?_
              (refine ta_ 22 39 38 16777215 ?_ rfl rfl (take_ofW HT_.out HW_.out (by kernel_rfl)) (fun _ _ _ h => h) (by rfl) ?_ hHeld ?_ ?_ ?_; rotate_left; rintro w' ⟨s0, s1, s2, s3, s4, s5, s6⟩; go_simp; with_reducible rfl; rotate_left; simp only [Act.put, q1, q2, q3, i64_w, i32_w]; rfl); (refine ta_ 24 41 38 33554431 ?_ rfl rfl (take_ofW HT_.out HW_.out (by kernel_rfl)) (fun _ _ _ h => h) (by rfl) ?_ hHeld ?_ ?_ ?_; rotate_left; rintro w' ⟨s0, s1, s2, s3, s4, s5, s6⟩; go_simp; with_reducible rfl; rotate_left; simp only [Act.put, q1, q2, q3, i64_w, i32_w]; rfl); refine one_ (i := 25) (N := some 42) (marksOf 38 67108863) rfl rfl (one_of HT_.out (by kernel_rfl)) (by decide) (fun K hK => ?_); refine goes_ Try.func10 (by kernel_rfl) rfl #[.string ((rd_T33 l0_0 a0_).f2)] (by rfl) rfl rfl gq ?_
              with_reducible refine (digest_Sum.calls k1 ((rd_T33 l0_0 a0_).f2) b8_ _ A26.out).mono ?_
              rintro e w' ⟨rfl, ⟨nd, rfl⟩⟩; refine ⟨_, rfl, ?_⟩; refine hK.out _ _ ⟨bc a2_ 0, bc a2_ 1, bc a2_ 2, bc a3_ 0, ((HB.out.cell (World.block_lt_of_cell? w _ hw104_0)).trans hw104_0), ((HB.out.cell (World.block_lt_of_cell? w _ hw104_1)).trans hw104_1), ((HB.out.cell (World.block_lt_of_cell? w _ hw104_2)).trans hw104_2)⟩ (fun hHeld => ?_); clear hK K; refine norm_ (a' := ?_) ?_ ?_; rotate_left
              ·show Act.put _ (some 42) _ = _
               simp only [Act.put, q1, q2, q3, i64_w, i32_w]; rfl
              refine pv_ 26 43 38 134217727 ?_; refine pv_ 27 44 38 268435455 ?_; refine pv_ 28 45 38 536870911 ?_; refine pv_ 29 46 38 1073741823 ?_; (refine ta_ 30 47 38 2147483647 ?_ rfl rfl (take_ofW HT_.out HW_.out (by kernel_rfl)) (fun _ _ _ h => h) (by rfl) ?_ hHeld ?_ ?_ ?_; rotate_left; rintro w' ⟨s0, s1, s2, s3, s4, s5, s6⟩; go_simp; with_reducible rfl; rotate_left; simp only [Act.put, q1, q2, q3, i64_w, i32_w]; rfl); refine pv_ 31 48 38 4294967295 ?_
              refine pv_ 32 49 38 8589934591 ?_; refine pv_ 33 50 38 17179869183 ?_; refine pure_ (i := 34) (N := some 51) (v := undef) (a' := ?_) (marksOf 38 34359738367) rfl rfl (any_of HT_.out (by kernel_rfl)) (fun _ _ _ h => h) (Or.inr ⟨by rfl, rfl⟩) ?_ ?_; rotate_left
              ·simp only [Act.put, q1, q2, q3, i64_w, i32_w]
               rfl
              refine pure_ (i := 35) (N := some 52) (v := undef) (a' := ?_) (marksOf 38 68719476735) rfl rfl (any_of HT_.out (by kernel_rfl)) (fun _ _ _ h => h) (Or.inr ⟨by rfl, rfl⟩) ?_ ?_; rotate_left
              ·simp only [Act.put, q1, q2, q3, i64_w, i32_w]
               rfl
              refine pure_ (i := 36) (N := some 53) (v := undef) (a' := ?_) (marksOf 38 137438953471) rfl rfl (any_of HT_.out (by kernel_rfl)) (fun _ _ _ h => h) (Or.inr ⟨by rfl, rfl⟩) ?_ ?_; rotate_left
              ·simp only [Act.put, q1, q2, q3, i64_w, i32_w]
               rfl
              refine pv_ 37 54 38 274877906943 ?_; refine done_ (done_of HT_.out (by kernel_rfl)) ?_; (try go_wp2); go_ret; exact ⟨by first | rfl | (simp [errW_none, errW_some] <;> rfl) | (simp only [← hji11]; first | rfl | (simp [errW_none, errW_some] <;> rfl)) | (simp [*, errW_none, errW_some] <;> rfl), hBq⟩
             ·rw [if_neg c28] at H
              have d6_ : decide (((rd_T33 l0_0 a0_).f1) < 1) = false := decide_eq_false c28; clear c28
              by_cases c34 : ((rd_T33 l0_0 a0_).f1) ≥ 2147483647
              ·rw [if_pos c34] at H
               have d7_ : decide (2147483647 ≤ ((rd_T33 l0_0 a0_).f1)) = true := decide_eq_true c34; clear c34; obtain rfl := Option.some.inj H; have b1_ : 0 ≤ (a0_ : Int) := dq; have b2_ : a0_ < (l0_0.length : Int) := dq; obtain ⟨a5_, b6_, _, _, _⟩ := at_T33 (Kd.C_below HR0_0.out HB.out) a0_ b1_ b2_; cases b6_; replace b1_ := eq_true b1_; replace b2_ := eq_true b2_
               (try go_wp2_with (first | ((with_reducible refine gate_dst (N := 4) rfl ?_); (try (refine gate_guard (by rfl) ?_; dsimp only)); refine bxE 4 #[.int .i64 0, .int .i64 0, .string (⟨#[]⟩ : ByteArray)] 33 ?_; intro a1_ hg w35 hbox hb; have a2_ := As (hbox); have b3_ := As (by rw [hg]; exact (below_size hBq) : w.heap.size ≤ a1_); replace HB := sBq hb; have b9_ := b3_; have a4_ := As (by rw [hg]; exact Nat.ne_of_lt (blk_lt (g := a9_) (plq a3_.out)) : a9_ ≠ a1_); replace a3_ := As (blk_below (plq a3_.out) hb); have b0_ := As a4_.out.symm; clear hb hbox hg; have f3_ := b0_.out; have f4_ := a4_.out; have := cf3 a2_.out)))
               have n0_ : Aside0 ((((w35.setCell ⟨a1_, 0, none⟩ (((rd_T33 l0_0 a0_).f0))).setCell ⟨a1_, 1, none⟩ (((rd_T33 l0_0 a0_).f1))).setCell ⟨a1_, 2, none⟩ (.string ((rd_T33 l0_0 a0_).f2))).heap[a9_]? = some (.cells #[.slice (some a5_) l0_0.length c0_0] 25 (0, 0))) := ⟨by (iterate 3 (refine blk_far ?_ a4_.out _)); exact a3_.out⟩; have n1_ : Aside0 ((((w35.setCell ⟨a1_, 0, none⟩ (((rd_T33 l0_0 a0_).f0))).setCell ⟨a1_, 1, none⟩ (((rd_T33 l0_0 a0_).f1))).setCell ⟨a1_, 2, none⟩ (.string ((rd_T33 l0_0 a0_).f2))).heap[a1_]? = some (.cells #[((rd_T33 l0_0 a0_).f0), ((rd_T33 l0_0 a0_).f1), .string ((rd_T33 l0_0 a0_).f2)] 33 (0, 0))) := ⟨by apply puts3; exact a2_.out⟩
               have n2_ : Aside0 (Below w.heap.size w (((w35.setCell ⟨a1_, 0, none⟩ (((rd_T33 l0_0 a0_).f0))).setCell ⟨a1_, 1, none⟩ (((rd_T33 l0_0 a0_).f1))).setCell ⟨a1_, 2, none⟩ (.string ((rd_T33 l0_0 a0_).f2)))) := ⟨hBq⟩; (try clear a3_); (try clear a2_); (try clear HB); generalize (((w35.setCell ⟨a1_, 0, none⟩ (((rd_T33 l0_0 a0_).f0))).setCell ⟨a1_, 1, none⟩ (((rd_T33 l0_0 a0_).f1))).setCell ⟨a1_, 2, none⟩ (.string ((rd_T33 l0_0 a0_).f2))) = w38 at n0_ n1_ n2_ ⊢; have a3_ := n0_; have a2_ := n1_; have HB := n2_; clear n0_ n1_ n2_; replace a3_ := As (blk_drew a3_.out); replace a2_ := As (blk_drew a2_.out); replace HB := As (below_drew1 HB.out); have b4_ : 0 ≤ ((ji11) : Int) := dq; have b5_ : (ji11) < (l0_0.length : Int) := dq; obtain ⟨b7_, c1_, a6_, a7_, a8_⟩ := at_T33 HR0_0.out (ji11) b4_ b5_; have hw104_2 := a8_; have hw104_1 := a7_; have hw104_0 := a6_; obtain rfl : a5_ = b7_ := (by injection c1_)
               replace a6_ := (HB.out.cell (World.block_lt_of_cell? w _ a6_)).trans a6_; replace a7_ := (HB.out.cell (World.block_lt_of_cell? w _ a7_)).trans a7_; replace a8_ := (HB.out.cell (World.block_lt_of_cell? w _ a8_)).trans a8_; replace b4_ := eq_true b4_; replace b5_ := eq_true b5_
               refine start_ (n := 38) (S := fun w' => w'.cell? ⟨a1_, 0, none⟩ = some (((rd_T33 l0_0 a0_).f0)) ∧ w'.cell? ⟨a1_, 1, none⟩ = some (((rd_T33 l0_0 a0_).f1)) ∧ w'.cell? ⟨a1_, 2, none⟩ = some (.string ((rd_T33 l0_0 a0_).f2)) ∧ w'.cell? ⟨a9_, 0, none⟩ = some (.slice (some a5_) l0_0.length c0_0) ∧ w'.cell? (a5_.add (((ji11)).toNat * 3)) = some (((rd_T33 l0_0 (ji11)).f0)) ∧ w'.cell? ⟨(a5_.add (((ji11)).toNat * 3)).block, (a5_.add (((ji11)).toNat * 3)).off + 1, none⟩ = some (((rd_T33 l0_0 (ji11)).f1)) ∧ w'.cell? ⟨(a5_.add (((ji11)).toNat * 3)).block, (a5_.add (((ji11)).toNat * 3)).off + 2, none⟩ = some (.string ((rd_T33 l0_0 (ji11)).f2))) (ds := []) (marksOf 38 0) (by kernel_rfl) rfl rfl ⟨bc a2_ 0, bc a2_ 1, bc a2_ 2, bc a3_ 0, ((HB.out.cell (World.block_lt_of_cell? w _ hw104_0)).trans hw104_0), ((HB.out.cell (World.block_lt_of_cell? w _ hw104_1)).trans hw104_1), ((HB.out.cell (World.block_lt_of_cell? w _ hw104_2)).trans hw104_2)⟩ (fun hHeld => ?_); refine with_tabW refs_valid.tab6 refs_valid.bits6 (fun HT_ HW_ => ?_); generalize w38.drew = w39 at a3_ a2_ HB a6_ a7_ a8_ hHeld ⊢
               refine pv_ 0 17 38 1 ?_; refine pv_ 1 18 38 3 ?_; refine pv_ 2 19 38 7 ?_; refine pv_ 3 20 38 15 ?_; refine pv_ 5 22 38 47 ?_; refine pv_ 7 24 38 175 ?_
               refine pv_ 8 25 38 431 ?_; (refine ta_ 4 21 38 447 ?_ rfl rfl (take_ofW HT_.out HW_.out (by kernel_rfl)) (fun _ _ _ h => h) (by rfl) ?_ hHeld ?_ ?_ ?_; rotate_left; rintro w' ⟨s0, s1, s2, s3, s4, s5, s6⟩; go_simp; with_reducible rfl; rotate_left; simp only [Act.put, q1, q2, q3, i64_w, i32_w]; rfl); (refine ta_ 6 23 38 511 ?_ rfl rfl (take_ofW HT_.out HW_.out (by kernel_rfl)) (fun _ _ _ h => h) (by rfl) ?_ hHeld ?_ ?_ ?_; rotate_left; rintro w' ⟨s0, s1, s2, s3, s4, s5, s6⟩; go_simp; with_reducible rfl; rotate_left; simp only [Act.put, q1, q2, q3, i64_w, i32_w]; rfl); refine pv_ 9 26 38 1023 ?_; refine pv_ 10 27 38 2047 ?_
               (refine ta_ 11 28 38 4095 ?_ rfl rfl (take_ofW HT_.out HW_.out (by kernel_rfl)) (fun _ _ _ h => h) (by rfl) ?_ hHeld ?_ ?_ ?_; rotate_left; rintro w' ⟨s0, s1, s2, s3, s4, s5, s6⟩; go_simp; with_reducible rfl; rotate_left; simp only [Act.put, q1, q2, q3, i64_w, i32_w]; rfl); refine pv_ 12 29 38 8191 ?_; refine pv_ 13 30 38 16383 ?_; refine pv_ 14 31 38 32767 ?_; refine pv_ 15 32 38 65535 ?_; (refine ta_ 16 33 38 131071 ?_ rfl rfl (take_ofW HT_.out HW_.out (by kernel_rfl)) (fun _ _ _ h => h) (by rfl) ?_ hHeld ?_ ?_ ?_; rotate_left; rintro w' ⟨s0, s1, s2, s3, s4, s5, s6⟩; go_simp; with_reducible rfl; rotate_left; simp only [Act.put, q1, q2, q3, i64_w, i32_w]; rfl)
               refine pv_ 17 34 38 262143 ?_; refine pv_ 18 35 38 524287 ?_; refine pv_ 19 36 38 1048575 ?_; refine pv_ 20 37 38 2097151 ?_; refine pv_ 21 38 38 4194303 ?_; refine pv_ 23 40 38 12582911 ?_
               (refine ta_ 22 39 38 16777215 ?_ rfl rfl (take_ofW HT_.out HW_.out (by kernel_rfl)) (fun _ _ _ h => h) (by rfl) ?_ hHeld ?_ ?_ ?_; rotate_left; rintro w' ⟨s0, s1, s2, s3, s4, s5, s6⟩; go_simp; with_reducible rfl; rotate_left; simp only [Act.put, q1, q2, q3, i64_w, i32_w]; rfl); (refine ta_ 24 41 38 33554431 ?_ rfl rfl (take_ofW HT_.out HW_.out (by kernel_rfl)) (fun _ _ _ h => h) (by rfl) ?_ hHeld ?_ ?_ ?_; rotate_left; rintro w' ⟨s0, s1, s2, s3, s4, s5, s6⟩; go_simp; with_reducible rfl; rotate_left; simp only [Act.put, q1, q2, q3, i64_w, i32_w]; rfl); refine one_ (i := 25) (N := some 42) (marksOf 38 67108863) rfl rfl (one_of HT_.out (by kernel_rfl)) (by decide) (fun K hK => ?_); refine goes_ Try.func10 (by kernel_rfl) rfl #[.string ((rd_T33 l0_0 a0_).f2)] (by rfl) rfl rfl gq ?_
               with_reducible refine (digest_Sum.calls k1 ((rd_T33 l0_0 a0_).f2) b8_ _ A26.out).mono ?_
               rintro e w' ⟨rfl, ⟨nd, rfl⟩⟩; refine ⟨_, rfl, ?_⟩; refine hK.out _ _ ⟨bc a2_ 0, bc a2_ 1, bc a2_ 2, bc a3_ 0, ((HB.out.cell (World.block_lt_of_cell? w _ hw104_0)).trans hw104_0), ((HB.out.cell (World.block_lt_of_cell? w _ hw104_1)).trans hw104_1), ((HB.out.cell (World.block_lt_of_cell? w _ hw104_2)).trans hw104_2)⟩ (fun hHeld => ?_); clear hK K; refine norm_ (a' := ?_) ?_ ?_; rotate_left
               ·show Act.put _ (some 42) _ = _
                simp only [Act.put, q1, q2, q3, i64_w, i32_w]; rfl
               refine pv_ 26 43 38 134217727 ?_; refine pv_ 27 44 38 268435455 ?_; refine pv_ 28 45 38 536870911 ?_; refine pv_ 29 46 38 1073741823 ?_; (refine ta_ 30 47 38 2147483647 ?_ rfl rfl (take_ofW HT_.out HW_.out (by kernel_rfl)) (fun _ _ _ h => h) (by rfl) ?_ hHeld ?_ ?_ ?_; rotate_left; rintro w' ⟨s0, s1, s2, s3, s4, s5, s6⟩; go_simp; with_reducible rfl; rotate_left; simp only [Act.put, q1, q2, q3, i64_w, i32_w]; rfl); refine pv_ 31 48 38 4294967295 ?_
               refine pv_ 32 49 38 8589934591 ?_; refine pv_ 33 50 38 17179869183 ?_; refine pv_ 34 51 38 34359738367 ?_; (refine ta_ 35 52 38 68719476735 ?_ rfl rfl (take_ofW HT_.out HW_.out (by kernel_rfl)) (fun _ _ _ h => h) (by rfl) ?_ hHeld ?_ ?_ ?_; rotate_left; rintro w' ⟨s0, s1, s2, s3, s4, s5, s6⟩; go_simp; with_reducible rfl; rotate_left; simp only [Act.put, q1, q2, q3, i64_w, i32_w]; rfl); refine pv_ 36 53 38 137438953471 ?_; refine pv_ 37 54 38 274877906943 ?_
               refine done_ (done_of HT_.out (by kernel_rfl)) ?_; (try go_wp2); go_ret; exact ⟨by first | rfl | (simp [errW_none, errW_some] <;> rfl) | (simp only [← hji11]; first | rfl | (simp [errW_none, errW_some] <;> rfl)) | (simp [*, errW_none, errW_some] <;> rfl), hBq⟩
              ·rw [if_neg c34] at H
               have d7_ : decide (2147483647 ≤ ((rd_T33 l0_0 a0_).f1)) = false := decide_eq_false c34; clear c34; have H' := As H; clear H; have b1_ : 0 ≤ (a0_ : Int) := dq; have b2_ : a0_ < (l0_0.length : Int) := dq; obtain ⟨a5_, b6_, _, _, _⟩ := at_T33 (Kd.C_below HR0_0.out HB.out) a0_ b1_ b2_; cases b6_; replace b1_ := eq_true b1_; replace b2_ := eq_true b2_
               (try go_wp2_with (first | ((with_reducible refine gate_dst (N := 4) rfl ?_); (try (refine gate_guard (by rfl) ?_; dsimp only)); refine bxE 4 #[.int .i64 0, .int .i64 0, .string (⟨#[]⟩ : ByteArray)] 33 ?_; intro a1_ hg w40 hbox hb; have a2_ := As (hbox); have b3_ := As (by rw [hg]; exact (below_size hBq) : w.heap.size ≤ a1_); replace HB := sBq hb; have b9_ := b3_; have a4_ := As (by rw [hg]; exact Nat.ne_of_lt (blk_lt (g := a9_) (plq a3_.out)) : a9_ ≠ a1_); replace a3_ := As (blk_below (plq a3_.out) hb); have b0_ := As a4_.out.symm; clear hb hbox hg; have f5_ := b0_.out; have f6_ := a4_.out; have := cf3 a2_.out)))
               have n0_ : Aside0 ((((w40.setCell ⟨a1_, 0, none⟩ (((rd_T33 l0_0 a0_).f0))).setCell ⟨a1_, 1, none⟩ (((rd_T33 l0_0 a0_).f1))).setCell ⟨a1_, 2, none⟩ (.string ((rd_T33 l0_0 a0_).f2))).heap[a9_]? = some (.cells #[.slice (some a5_) l0_0.length c0_0] 25 (0, 0))) := ⟨by (iterate 3 (refine blk_far ?_ a4_.out _)); exact a3_.out⟩; have n1_ : Aside0 ((((w40.setCell ⟨a1_, 0, none⟩ (((rd_T33 l0_0 a0_).f0))).setCell ⟨a1_, 1, none⟩ (((rd_T33 l0_0 a0_).f1))).setCell ⟨a1_, 2, none⟩ (.string ((rd_T33 l0_0 a0_).f2))).heap[a1_]? = some (.cells #[((rd_T33 l0_0 a0_).f0), ((rd_T33 l0_0 a0_).f1), .string ((rd_T33 l0_0 a0_).f2)] 33 (0, 0))) := ⟨by apply puts3; exact a2_.out⟩
               have n2_ : Aside0 (Below w.heap.size w (((w40.setCell ⟨a1_, 0, none⟩ (((rd_T33 l0_0 a0_).f0))).setCell ⟨a1_, 1, none⟩ (((rd_T33 l0_0 a0_).f1))).setCell ⟨a1_, 2, none⟩ (.string ((rd_T33 l0_0 a0_).f2)))) := ⟨hBq⟩; (try clear a3_); (try clear a2_); (try clear HB); generalize (((w40.setCell ⟨a1_, 0, none⟩ (((rd_T33 l0_0 a0_).f0))).setCell ⟨a1_, 1, none⟩ (((rd_T33 l0_0 a0_).f1))).setCell ⟨a1_, 2, none⟩ (.string ((rd_T33 l0_0 a0_).f2))) = w43 at n0_ n1_ n2_ ⊢; have a3_ := n0_; have a2_ := n1_; have HB := n2_; clear n0_ n1_ n2_; replace a3_ := As (blk_drew a3_.out); replace a2_ := As (blk_drew a2_.out); replace HB := As (below_drew1 HB.out); have b4_ : 0 ≤ ((ji11) : Int) := dq; have b5_ : (ji11) < (l0_0.length : Int) := dq; obtain ⟨b7_, c1_, a6_, a7_, a8_⟩ := at_T33 HR0_0.out (ji11) b4_ b5_; have hw104_2 := a8_; have hw104_1 := a7_; have hw104_0 := a6_; obtain rfl : a5_ = b7_ := (by injection c1_)
               replace a6_ := (HB.out.cell (World.block_lt_of_cell? w _ a6_)).trans a6_; replace a7_ := (HB.out.cell (World.block_lt_of_cell? w _ a7_)).trans a7_; replace a8_ := (HB.out.cell (World.block_lt_of_cell? w _ a8_)).trans a8_; replace b4_ := eq_true b4_; replace b5_ := eq_true b5_
               refine start_ (n := 38) (S := fun w' => w'.cell? ⟨a1_, 0, none⟩ = some (((rd_T33 l0_0 a0_).f0)) ∧ w'.cell? ⟨a1_, 1, none⟩ = some (((rd_T33 l0_0 a0_).f1)) ∧ w'.cell? ⟨a1_, 2, none⟩ = some (.string ((rd_T33 l0_0 a0_).f2)) ∧ w'.cell? ⟨a9_, 0, none⟩ = some (.slice (some a5_) l0_0.length c0_0) ∧ w'.cell? (a5_.add (((ji11)).toNat * 3)) = some (((rd_T33 l0_0 (ji11)).f0)) ∧ w'.cell? ⟨(a5_.add (((ji11)).toNat * 3)).block, (a5_.add (((ji11)).toNat * 3)).off + 1, none⟩ = some (((rd_T33 l0_0 (ji11)).f1)) ∧ w'.cell? ⟨(a5_.add (((ji11)).toNat * 3)).block, (a5_.add (((ji11)).toNat * 3)).off + 2, none⟩ = some (.string ((rd_T33 l0_0 (ji11)).f2))) (ds := []) (marksOf 38 0) (by kernel_rfl) rfl rfl ⟨bc a2_ 0, bc a2_ 1, bc a2_ 2, bc a3_ 0, ((HB.out.cell (World.block_lt_of_cell? w _ hw104_0)).trans hw104_0), ((HB.out.cell (World.block_lt_of_cell? w _ hw104_1)).trans hw104_1), ((HB.out.cell (World.block_lt_of_cell? w _ hw104_2)).trans hw104_2)⟩ (fun hHeld => ?_); refine with_tabW refs_valid.tab6 refs_valid.bits6 (fun HT_ HW_ => ?_); generalize w43.drew = w44 at a3_ a2_ HB a6_ a7_ a8_ hHeld ⊢
               refine pv_ 0 17 38 1 ?_; refine pv_ 1 18 38 3 ?_; refine pv_ 2 19 38 7 ?_; refine pv_ 3 20 38 15 ?_; refine pv_ 5 22 38 47 ?_; refine pv_ 7 24 38 175 ?_
               refine pv_ 8 25 38 431 ?_; (refine ta_ 4 21 38 447 ?_ rfl rfl (take_ofW HT_.out HW_.out (by kernel_rfl)) (fun _ _ _ h => h) (by rfl) ?_ hHeld ?_ ?_ ?_; rotate_left; rintro w' ⟨s0, s1, s2, s3, s4, s5, s6⟩; go_simp; with_reducible rfl; rotate_left; simp only [Act.put, q1, q2, q3, i64_w, i32_w]; rfl); (refine ta_ 6 23 38 511 ?_ rfl rfl (take_ofW HT_.out HW_.out (by kernel_rfl)) (fun _ _ _ h => h) (by rfl) ?_ hHeld ?_ ?_ ?_; rotate_left; rintro w' ⟨s0, s1, s2, s3, s4, s5, s6⟩; go_simp; with_reducible rfl; rotate_left; simp only [Act.put, q1, q2, q3, i64_w, i32_w]; rfl); refine pv_ 9 26 38 1023 ?_; refine pv_ 10 27 38 2047 ?_
               (refine ta_ 11 28 38 4095 ?_ rfl rfl (take_ofW HT_.out HW_.out (by kernel_rfl)) (fun _ _ _ h => h) (by rfl) ?_ hHeld ?_ ?_ ?_; rotate_left; rintro w' ⟨s0, s1, s2, s3, s4, s5, s6⟩; go_simp; with_reducible rfl; rotate_left; simp only [Act.put, q1, q2, q3, i64_w, i32_w]; rfl); refine pv_ 12 29 38 8191 ?_; refine pv_ 13 30 38 16383 ?_; refine pv_ 14 31 38 32767 ?_; refine pv_ 15 32 38 65535 ?_; (refine ta_ 16 33 38 131071 ?_ rfl rfl (take_ofW HT_.out HW_.out (by kernel_rfl)) (fun _ _ _ h => h) (by rfl) ?_ hHeld ?_ ?_ ?_; rotate_left; rintro w' ⟨s0, s1, s2, s3, s4, s5, s6⟩; go_simp; with_reducible rfl; rotate_left; simp only [Act.put, q1, q2, q3, i64_w, i32_w]; rfl)
               refine pv_ 17 34 38 262143 ?_; refine pv_ 18 35 38 524287 ?_; refine pv_ 19 36 38 1048575 ?_; refine pv_ 20 37 38 2097151 ?_; refine pv_ 21 38 38 4194303 ?_; refine pv_ 23 40 38 12582911 ?_
               (refine ta_ 22 39 38 16777215 ?_ rfl rfl (take_ofW HT_.out HW_.out (by kernel_rfl)) (fun _ _ _ h => h) (by rfl) ?_ hHeld ?_ ?_ ?_; rotate_left; rintro w' ⟨s0, s1, s2, s3, s4, s5, s6⟩; go_simp; with_reducible rfl; rotate_left; simp only [Act.put, q1, q2, q3, i64_w, i32_w]; rfl); (refine ta_ 24 41 38 33554431 ?_ rfl rfl (take_ofW HT_.out HW_.out (by kernel_rfl)) (fun _ _ _ h => h) (by rfl) ?_ hHeld ?_ ?_ ?_; rotate_left; rintro w' ⟨s0, s1, s2, s3, s4, s5, s6⟩; go_simp; with_reducible rfl; rotate_left; simp only [Act.put, q1, q2, q3, i64_w, i32_w]; rfl); refine one_ (i := 25) (N := some 42) (marksOf 38 67108863) rfl rfl (one_of HT_.out (by kernel_rfl)) (by decide) (fun K hK => ?_); refine goes_ Try.func10 (by kernel_rfl) rfl #[.string ((rd_T33 l0_0 a0_).f2)] (by rfl) rfl rfl gq ?_
               with_reducible refine (digest_Sum.calls k1 ((rd_T33 l0_0 a0_).f2) b8_ _ A26.out).mono ?_
               rintro e w' ⟨rfl, ⟨nd, rfl⟩⟩; refine ⟨_, rfl, ?_⟩; refine hK.out _ _ ⟨bc a2_ 0, bc a2_ 1, bc a2_ 2, bc a3_ 0, ((HB.out.cell (World.block_lt_of_cell? w _ hw104_0)).trans hw104_0), ((HB.out.cell (World.block_lt_of_cell? w _ hw104_1)).trans hw104_1), ((HB.out.cell (World.block_lt_of_cell? w _ hw104_2)).trans hw104_2)⟩ (fun hHeld => ?_); clear hK K; refine norm_ (a' := ?_) ?_ ?_; rotate_left
               ·show Act.put _ (some 42) _ = _
                simp only [Act.put, q1, q2, q3, i64_w, i32_w]; rfl
               refine pv_ 26 43 38 134217727 ?_; refine pv_ 27 44 38 268435455 ?_; refine pv_ 28 45 38 536870911 ?_; refine pv_ 29 46 38 1073741823 ?_; (refine ta_ 30 47 38 2147483647 ?_ rfl rfl (take_ofW HT_.out HW_.out (by kernel_rfl)) (fun _ _ _ h => h) (by rfl) ?_ hHeld ?_ ?_ ?_; rotate_left; rintro w' ⟨s0, s1, s2, s3, s4, s5, s6⟩; go_simp; with_reducible rfl; rotate_left; simp only [Act.put, q1, q2, q3, i64_w, i32_w]; rfl); refine pv_ 31 48 38 4294967295 ?_
               refine pv_ 32 49 38 8589934591 ?_; refine pv_ 33 50 38 17179869183 ?_; refine pv_ 34 51 38 34359738367 ?_; (refine ta_ 35 52 38 68719476735 ?_ rfl rfl (take_ofW HT_.out HW_.out (by kernel_rfl)) (fun _ _ _ h => h) (by rfl) ?_ hHeld ?_ ?_ ?_; rotate_left; rintro w' ⟨s0, s1, s2, s3, s4, s5, s6⟩; go_simp; with_reducible rfl; rotate_left; simp only [Act.put, q1, q2, q3, i64_w, i32_w]; rfl); refine pv_ 36 53 38 137438953471 ?_; refine pv_ 37 54 38 274877906943 ?_
               refine done_ (done_of HT_.out (by kernel_rfl)) ?_; (try go_wp2); go_roundg k1
               case measure => have := HK1.out; omega
               case rel => exact ⟨(wrap64 (a0_ + 1)), (by first | rfl | (simp; done) | (simp [*]; done)), H', ⟨by have := HK1.out; omega⟩, ⟨by refine plT ?_; exact a3_.out⟩, ⟨hBq⟩⟩
            ·rw [if_neg c27] at H
             have d4_ : (((rd_T33 l0_0 a0_).f0) == b8_) = false := beq_eq_false_iff_ne.mpr c27; have d5_ : (((rd_T33 l0_0 a0_).f0) != b8_) = true := bne_iff_ne.mpr c27; obtain rfl := Option.some.inj H; have b1_ : 0 ≤ (a0_ : Int) := dq; have b2_ : a0_ < (l0_0.length : Int) := dq; obtain ⟨a5_, b6_, _, _, _⟩ := at_T33 (Kd.C_below HR0_0.out HB.out) a0_ b1_ b2_; cases b6_; replace b1_ := eq_true b1_; replace b2_ := eq_true b2_
             (try go_wp2_with (first | ((with_reducible refine gate_dst (N := 4) rfl ?_); (try (refine gate_guard (by rfl) ?_; dsimp only)); refine bxE 4 #[.int .i64 0, .int .i64 0, .string (⟨#[]⟩ : ByteArray)] 33 ?_; intro a1_ hg w45 hbox hb; have a2_ := As (hbox); have b3_ := As (by rw [hg]; exact (below_size hBq) : w.heap.size ≤ a1_); replace HB := sBq hb; have b9_ := b3_; have a4_ := As (by rw [hg]; exact Nat.ne_of_lt (blk_lt (g := a9_) (plq a3_.out)) : a9_ ≠ a1_); replace a3_ := As (blk_below (plq a3_.out) hb); have b0_ := As a4_.out.symm; clear hb hbox hg; have f7_ := b0_.out; have f8_ := a4_.out; have := cf3 a2_.out)))
             have n0_ : Aside0 ((((w45.setCell ⟨a1_, 0, none⟩ (((rd_T33 l0_0 a0_).f0))).setCell ⟨a1_, 1, none⟩ (((rd_T33 l0_0 a0_).f1))).setCell ⟨a1_, 2, none⟩ (.string ((rd_T33 l0_0 a0_).f2))).heap[a9_]? = some (.cells #[.slice (some a5_) l0_0.length c0_0] 25 (0, 0))) := ⟨by (iterate 3 (refine blk_far ?_ a4_.out _)); exact a3_.out⟩; have n1_ : Aside0 ((((w45.setCell ⟨a1_, 0, none⟩ (((rd_T33 l0_0 a0_).f0))).setCell ⟨a1_, 1, none⟩ (((rd_T33 l0_0 a0_).f1))).setCell ⟨a1_, 2, none⟩ (.string ((rd_T33 l0_0 a0_).f2))).heap[a1_]? = some (.cells #[((rd_T33 l0_0 a0_).f0), ((rd_T33 l0_0 a0_).f1), .string ((rd_T33 l0_0 a0_).f2)] 33 (0, 0))) := ⟨by apply puts3; exact a2_.out⟩
             have n2_ : Aside0 (Below w.heap.size w (((w45.setCell ⟨a1_, 0, none⟩ (((rd_T33 l0_0 a0_).f0))).setCell ⟨a1_, 1, none⟩ (((rd_T33 l0_0 a0_).f1))).setCell ⟨a1_, 2, none⟩ (.string ((rd_T33 l0_0 a0_).f2)))) := ⟨hBq⟩; (try clear a3_); (try clear a2_); (try clear HB); generalize (((w45.setCell ⟨a1_, 0, none⟩ (((rd_T33 l0_0 a0_).f0))).setCell ⟨a1_, 1, none⟩ (((rd_T33 l0_0 a0_).f1))).setCell ⟨a1_, 2, none⟩ (.string ((rd_T33 l0_0 a0_).f2))) = w48 at n0_ n1_ n2_ ⊢; have a3_ := n0_; have a2_ := n1_; have HB := n2_; clear n0_ n1_ n2_; replace a3_ := As (blk_drew a3_.out); replace a2_ := As (blk_drew a2_.out); replace HB := As (below_drew1 HB.out); have b4_ : 0 ≤ ((ji11) : Int) := dq; have b5_ : (ji11) < (l0_0.length : Int) := dq; obtain ⟨b7_, c1_, a6_, a7_, a8_⟩ := at_T33 HR0_0.out (ji11) b4_ b5_; have hw104_2 := a8_; have hw104_1 := a7_; have hw104_0 := a6_; obtain rfl : a5_ = b7_ := (by injection c1_)
             replace a6_ := (HB.out.cell (World.block_lt_of_cell? w _ a6_)).trans a6_; replace a7_ := (HB.out.cell (World.block_lt_of_cell? w _ a7_)).trans a7_; replace a8_ := (HB.out.cell (World.block_lt_of_cell? w _ a8_)).trans a8_; replace b4_ := eq_true b4_; replace b5_ := eq_true b5_
             refine start_ (n := 38) (S := fun w' => w'.cell? ⟨a1_, 0, none⟩ = some (((rd_T33 l0_0 a0_).f0)) ∧ w'.cell? ⟨a1_, 1, none⟩ = some (((rd_T33 l0_0 a0_).f1)) ∧ w'.cell? ⟨a1_, 2, none⟩ = some (.string ((rd_T33 l0_0 a0_).f2)) ∧ w'.cell? ⟨a9_, 0, none⟩ = some (.slice (some a5_) l0_0.length c0_0) ∧ w'.cell? (a5_.add (((ji11)).toNat * 3)) = some (((rd_T33 l0_0 (ji11)).f0)) ∧ w'.cell? ⟨(a5_.add (((ji11)).toNat * 3)).block, (a5_.add (((ji11)).toNat * 3)).off + 1, none⟩ = some (((rd_T33 l0_0 (ji11)).f1)) ∧ w'.cell? ⟨(a5_.add (((ji11)).toNat * 3)).block, (a5_.add (((ji11)).toNat * 3)).off + 2, none⟩ = some (.string ((rd_T33 l0_0 (ji11)).f2))) (ds := []) (marksOf 38 0) (by kernel_rfl) rfl rfl ⟨bc a2_ 0, bc a2_ 1, bc a2_ 2, bc a3_ 0, ((HB.out.cell (World.block_lt_of_cell? w _ hw104_0)).trans hw104_0), ((HB.out.cell (World.block_lt_of_cell? w _ hw104_1)).trans hw104_1), ((HB.out.cell (World.block_lt_of_cell? w _ hw104_2)).trans hw104_2)⟩ (fun hHeld => ?_); refine with_tabW refs_valid.tab6 refs_valid.bits6 (fun HT_ HW_ => ?_); generalize w48.drew = w49 at a3_ a2_ HB a6_ a7_ a8_ hHeld ⊢; refine pv_ 0 17 38 1 ?_
             refine pv_ 1 18 38 3 ?_; refine pv_ 2 19 38 7 ?_; refine pv_ 3 20 38 15 ?_; refine pv_ 5 22 38 47 ?_; refine pv_ 7 24 38 175 ?_; refine pv_ 8 25 38 431 ?_
             (refine ta_ 4 21 38 447 ?_ rfl rfl (take_ofW HT_.out HW_.out (by kernel_rfl)) (fun _ _ _ h => h) (by rfl) ?_ hHeld ?_ ?_ ?_; rotate_left; rintro w' ⟨s0, s1, s2, s3, s4, s5, s6⟩; go_simp; with_reducible rfl; rotate_left; simp only [Act.put, q1, q2, q3, i64_w, i32_w]; rfl); (refine ta_ 6 23 38 511 ?_ rfl rfl (take_ofW HT_.out HW_.out (by kernel_rfl)) (fun _ _ _ h => h) (by rfl) ?_ hHeld ?_ ?_ ?_; rotate_left; rintro w' ⟨s0, s1, s2, s3, s4, s5, s6⟩; go_simp; with_reducible rfl; rotate_left; simp only [Act.put, q1, q2, q3, i64_w, i32_w]; rfl); refine pv_ 9 26 38 1023 ?_; refine pv_ 10 27 38 2047 ?_; (refine ta_ 11 28 38 4095 ?_ rfl rfl (take_ofW HT_.out HW_.out (by kernel_rfl)) (fun _ _ _ h => h) (by rfl) ?_ hHeld ?_ ?_ ?_; rotate_left; rintro w' ⟨s0, s1, s2, s3, s4, s5, s6⟩; go_simp; with_reducible rfl; rotate_left; simp only [Act.put, q1, q2, q3, i64_w, i32_w]; rfl)
             refine pv_ 12 29 38 8191 ?_; refine pv_ 13 30 38 16383 ?_; refine pv_ 14 31 38 32767 ?_; refine pv_ 15 32 38 65535 ?_; (refine ta_ 16 33 38 131071 ?_ rfl rfl (take_ofW HT_.out HW_.out (by kernel_rfl)) (fun _ _ _ h => h) (by rfl) ?_ hHeld ?_ ?_ ?_; rotate_left; rintro w' ⟨s0, s1, s2, s3, s4, s5, s6⟩; go_simp; with_reducible rfl; rotate_left; simp only [Act.put, q1, q2, q3, i64_w, i32_w]; rfl); refine pv_ 17 34 38 262143 ?_
             refine pv_ 18 35 38 524287 ?_; refine pv_ 19 36 38 1048575 ?_; refine pv_ 20 37 38 2097151 ?_; refine pv_ 21 38 38 4194303 ?_; refine pv_ 23 40 38 12582911 ?_; (refine ta_ 22 39 38 16777215 ?_ rfl rfl (take_ofW HT_.out HW_.out (by kernel_rfl)) (fun _ _ _ h => h) (by rfl) ?_ hHeld ?_ ?_ ?_; rotate_left; rintro w' ⟨s0, s1, s2, s3, s4, s5, s6⟩; go_simp; with_reducible rfl; rotate_left; simp only [Act.put, q1, q2, q3, i64_w, i32_w]; rfl)
             (refine ta_ 24 41 38 33554431 ?_ rfl rfl (take_ofW HT_.out HW_.out (by kernel_rfl)) (fun _ _ _ h => h) (by rfl) ?_ hHeld ?_ ?_ ?_; rotate_left; rintro w' ⟨s0, s1, s2, s3, s4, s5, s6⟩; go_simp; with_reducible rfl; rotate_left; simp only [Act.put, q1, q2, q3, i64_w, i32_w]; rfl); refine one_ (i := 25) (N := some 42) (marksOf 38 67108863) rfl rfl (one_of HT_.out (by kernel_rfl)) (by decide) (fun K hK => ?_); refine goes_ Try.func10 (by kernel_rfl) rfl #[.string ((rd_T33 l0_0 a0_).f2)] (by rfl) rfl rfl gq ?_
             with_reducible refine (digest_Sum.calls k1 ((rd_T33 l0_0 a0_).f2) b8_ _ A26.out).mono ?_
             rintro e w' ⟨rfl, ⟨nd, rfl⟩⟩; refine ⟨_, rfl, ?_⟩; refine hK.out _ _ ⟨bc a2_ 0, bc a2_ 1, bc a2_ 2, bc a3_ 0, ((HB.out.cell (World.block_lt_of_cell? w _ hw104_0)).trans hw104_0), ((HB.out.cell (World.block_lt_of_cell? w _ hw104_1)).trans hw104_1), ((HB.out.cell (World.block_lt_of_cell? w _ hw104_2)).trans hw104_2)⟩ (fun hHeld => ?_); clear hK K; refine norm_ (a' := ?_) ?_ ?_; rotate_left
             ·show Act.put _ (some 42) _ = _
              simp only [Act.put, q1, q2, q3, i64_w, i32_w]; rfl
             refine pv_ 26 43 38 134217727 ?_; refine pv_ 27 44 38 268435455 ?_; refine pv_ 28 45 38 536870911 ?_; refine pure_ (i := 29) (N := some 46) (v := undef) (a' := ?_) (marksOf 38 1073741823) rfl rfl (any_of HT_.out (by kernel_rfl)) (fun _ _ _ h => h) (Or.inr ⟨by rfl, rfl⟩) ?_ ?_; rotate_left
             ·simp only [Act.put, q1, q2, q3, i64_w, i32_w]
              rfl
             refine pure_ (i := 30) (N := some 47) (v := undef) (a' := ?_) (marksOf 38 2147483647) rfl rfl (any_of HT_.out (by kernel_rfl)) (fun _ _ _ h => h) (Or.inr ⟨by rfl, rfl⟩) ?_ ?_; rotate_left
             ·simp only [Act.put, q1, q2, q3, i64_w, i32_w]
              rfl
             refine pure_ (i := 31) (N := some 48) (v := undef) (a' := ?_) (marksOf 38 4294967295) rfl rfl (any_of HT_.out (by kernel_rfl)) (fun _ _ _ h => h) (Or.inr ⟨by rfl, rfl⟩) ?_ ?_; rotate_left
             ·simp only [Act.put, q1, q2, q3, i64_w, i32_w]
              rfl
             refine pv_ 32 49 38 8589934591 ?_; refine pv_ 33 50 38 17179869183 ?_; refine pure_ (i := 34) (N := some 51) (v := undef) (a' := ?_) (marksOf 38 34359738367) rfl rfl (any_of HT_.out (by kernel_rfl)) (fun _ _ _ h => h) (Or.inr ⟨by rfl, rfl⟩) ?_ ?_; rotate_left
             ·simp only [Act.put, q1, q2, q3, i64_w, i32_w]
              rfl
             refine pure_ (i := 35) (N := some 52) (v := undef) (a' := ?_) (marksOf 38 68719476735) rfl rfl (any_of HT_.out (by kernel_rfl)) (fun _ _ _ h => h) (Or.inr ⟨by rfl, rfl⟩) ?_ ?_; rotate_left
             ·simp only [Act.put, q1, q2, q3, i64_w, i32_w]
              rfl
             refine pure_ (i := 36) (N := some 53) (v := undef) (a' := ?_) (marksOf 38 137438953471) rfl rfl (any_of HT_.out (by kernel_rfl)) (fun _ _ _ h => h) (Or.inr ⟨by rfl, rfl⟩) ?_ ?_; rotate_left
             ·simp only [Act.put, q1, q2, q3, i64_w, i32_w]
              rfl
             refine pv_ 37 54 38 274877906943 ?_; refine done_ (done_of HT_.out (by kernel_rfl)) ?_; (try go_wp2); go_ret; exact ⟨by first | rfl | (simp [errW_none, errW_some] <;> rfl) | (simp only [← hji11]; first | rfl | (simp [errW_none, errW_some] <;> rfl)) | (simp [*, errW_none, errW_some] <;> rfl), hBq⟩
         ·rw [if_neg c13] at H
          exact absurd H (by simp)
        ·rw [if_neg c12] at H
         exact absurd H (by simp)
       ·rw [if_neg c10] at H
        have d0_ : decide (0 < a0_) = false := decide_eq_false c10; clear c10
        by_cases c50 : (((rd_T33 l0_0 a0_).f2).size : Int) > 16384
        ·rw [if_pos c50] at H
         have d8_ : decide (16384 < (((rd_T33 l0_0 a0_).f2).size : Int)) = true := decide_eq_true c50; have d9_ : decide (16384 < ((rd_T33 l0_0 a0_).f2).size) = true := decide_eq_true (by omega); clear c50; obtain rfl := Option.some.inj H; have b1_ : 0 ≤ (a0_ : Int) := dq; have b2_ : a0_ < (l0_0.length : Int) := dq; obtain ⟨a5_, b6_, _, _, _⟩ := at_T33 (Kd.C_below HR0_0.out HB.out) a0_ b1_ b2_; cases b6_; replace b1_ := eq_true b1_; replace b2_ := eq_true b2_
         (try go_wp2_with (first | ((with_reducible refine gate_dst (N := 4) rfl ?_); (try (refine gate_guard (by rfl) ?_; dsimp only)); refine bxE 4 #[.int .i64 0, .int .i64 0, .string (⟨#[]⟩ : ByteArray)] 33 ?_; intro a1_ hg w51 hbox hb; have a2_ := As (hbox); have b3_ := As (by rw [hg]; exact (below_size hBq) : w.heap.size ≤ a1_); replace HB := sBq hb; have b9_ := b3_; have a4_ := As (by rw [hg]; exact Nat.ne_of_lt (blk_lt (g := a9_) (plq a3_.out)) : a9_ ≠ a1_); replace a3_ := As (blk_below (plq a3_.out) hb); have b0_ := As a4_.out.symm; clear hb hbox hg; have f9_ := b0_.out; have g0_ := a4_.out; have := cf3 a2_.out)))
         have n0_ : Aside0 ((((w51.setCell ⟨a1_, 0, none⟩ (((rd_T33 l0_0 a0_).f0))).setCell ⟨a1_, 1, none⟩ (((rd_T33 l0_0 a0_).f1))).setCell ⟨a1_, 2, none⟩ (.string ((rd_T33 l0_0 a0_).f2))).heap[a9_]? = some (.cells #[.slice (some a5_) l0_0.length c0_0] 25 (0, 0))) := ⟨by (iterate 3 (refine blk_far ?_ a4_.out _)); exact a3_.out⟩; have n1_ : Aside0 ((((w51.setCell ⟨a1_, 0, none⟩ (((rd_T33 l0_0 a0_).f0))).setCell ⟨a1_, 1, none⟩ (((rd_T33 l0_0 a0_).f1))).setCell ⟨a1_, 2, none⟩ (.string ((rd_T33 l0_0 a0_).f2))).heap[a1_]? = some (.cells #[((rd_T33 l0_0 a0_).f0), ((rd_T33 l0_0 a0_).f1), .string ((rd_T33 l0_0 a0_).f2)] 33 (0, 0))) := ⟨by apply puts3; exact a2_.out⟩
         have n2_ : Aside0 (Below w.heap.size w (((w51.setCell ⟨a1_, 0, none⟩ (((rd_T33 l0_0 a0_).f0))).setCell ⟨a1_, 1, none⟩ (((rd_T33 l0_0 a0_).f1))).setCell ⟨a1_, 2, none⟩ (.string ((rd_T33 l0_0 a0_).f2)))) := ⟨hBq⟩; (try clear a3_); (try clear a2_); (try clear HB); generalize (((w51.setCell ⟨a1_, 0, none⟩ (((rd_T33 l0_0 a0_).f0))).setCell ⟨a1_, 1, none⟩ (((rd_T33 l0_0 a0_).f1))).setCell ⟨a1_, 2, none⟩ (.string ((rd_T33 l0_0 a0_).f2))) = w54 at n0_ n1_ n2_ ⊢; have a3_ := n0_; have a2_ := n1_; have HB := n2_; clear n0_ n1_ n2_; replace a3_ := As (blk_drew a3_.out); replace a2_ := As (blk_drew a2_.out); replace HB := As (below_drew1 HB.out); refine start_ (n := 38) (S := fun w' => w'.cell? ⟨a1_, 0, none⟩ = some (((rd_T33 l0_0 a0_).f0)) ∧ w'.cell? ⟨a1_, 1, none⟩ = some (((rd_T33 l0_0 a0_).f1)) ∧ w'.cell? ⟨a1_, 2, none⟩ = some (.string ((rd_T33 l0_0 a0_).f2))) (ds := []) (marksOf 38 0) (by kernel_rfl) rfl rfl ⟨bc a2_ 0, bc a2_ 1, bc a2_ 2⟩ (fun hHeld => ?_); refine with_tabW refs_valid.tab6 refs_valid.bits6 (fun HT_ HW_ => ?_)
         generalize w54.drew = w55 at a3_ a2_ HB hHeld ⊢; refine pv_ 0 17 38 1 ?_; refine pv_ 1 18 38 3 ?_; refine pv_ 2 19 38 7 ?_; refine pure_ (i := 3) (N := some 20) (v := undef) (a' := ?_) (marksOf 38 15) rfl rfl (any_of HT_.out (by kernel_rfl)) (fun _ _ _ h => h) (Or.inr ⟨by rfl, rfl⟩) ?_ ?_; rotate_left
         ·simp only [Act.put, q1, q2, q3, i64_w, i32_w]
          rfl
         refine pure_ (i := 4) (N := some 21) (v := undef) (a' := ?_) (marksOf 38 31) rfl rfl (any_of HT_.out (by kernel_rfl)) (fun _ _ _ h => h) (Or.inr ⟨by rfl, rfl⟩) ?_ ?_; rotate_left
         ·simp only [Act.put, q1, q2, q3, i64_w, i32_w]
          rfl
         refine pure_ (i := 5) (N := some 22) (v := undef) (a' := ?_) (marksOf 38 63) rfl rfl (any_of HT_.out (by kernel_rfl)) (fun _ _ _ h => h) (Or.inr ⟨by rfl, rfl⟩) ?_ ?_; rotate_left
         ·simp only [Act.put, q1, q2, q3, i64_w, i32_w]
          rfl
         refine pure_ (i := 6) (N := some 23) (v := undef) (a' := ?_) (marksOf 38 127) rfl rfl (any_of HT_.out (by kernel_rfl)) (fun _ _ _ h => h) (Or.inr ⟨by rfl, rfl⟩) ?_ ?_; rotate_left
         ·simp only [Act.put, q1, q2, q3, i64_w, i32_w]
          rfl
         refine pure_ (i := 7) (N := some 24) (v := undef) (a' := ?_) (marksOf 38 255) rfl rfl (any_of HT_.out (by kernel_rfl)) (fun _ _ _ h => h) (Or.inr ⟨by rfl, rfl⟩) ?_ ?_; rotate_left
         ·simp only [Act.put, q1, q2, q3, i64_w, i32_w]
          rfl
         refine pure_ (i := 8) (N := some 25) (v := undef) (a' := ?_) (marksOf 38 511) rfl rfl (any_of HT_.out (by kernel_rfl)) (fun _ _ _ h => h) (Or.inr ⟨by rfl, rfl⟩) ?_ ?_; rotate_left
         ·simp only [Act.put, q1, q2, q3, i64_w, i32_w]
          rfl
         refine pure_ (i := 9) (N := some 26) (v := undef) (a' := ?_) (marksOf 38 1023) rfl rfl (any_of HT_.out (by kernel_rfl)) (fun _ _ _ h => h) (Or.inr ⟨by rfl, rfl⟩) ?_ ?_; rotate_left
         ·simp only [Act.put, q1, q2, q3, i64_w, i32_w]
          rfl
         refine pure_ (i := 10) (N := some 27) (v := undef) (a' := ?_) (marksOf 38 2047) rfl rfl (any_of HT_.out (by kernel_rfl)) (fun _ _ _ h => h) (Or.inr ⟨by rfl, rfl⟩) ?_ ?_; rotate_left
         ·simp only [Act.put, q1, q2, q3, i64_w, i32_w]
          rfl
         refine pure_ (i := 11) (N := some 28) (v := undef) (a' := ?_) (marksOf 38 4095) rfl rfl (any_of HT_.out (by kernel_rfl)) (fun _ _ _ h => h) (Or.inr ⟨by rfl, rfl⟩) ?_ ?_; rotate_left
         ·simp only [Act.put, q1, q2, q3, i64_w, i32_w]
          rfl
         refine pure_ (i := 12) (N := some 29) (v := undef) (a' := ?_) (marksOf 38 8191) rfl rfl (any_of HT_.out (by kernel_rfl)) (fun _ _ _ h => h) (Or.inr ⟨by rfl, rfl⟩) ?_ ?_; rotate_left
         ·simp only [Act.put, q1, q2, q3, i64_w, i32_w]
          rfl
         refine pv_ 13 30 38 16383 ?_; refine pv_ 14 31 38 32767 ?_; refine pv_ 15 32 38 65535 ?_; (refine ta_ 16 33 38 131071 ?_ rfl rfl (take_ofW HT_.out HW_.out (by kernel_rfl)) (fun _ _ _ h => h) (by rfl) ?_ hHeld ?_ ?_ ?_; rotate_left; rintro w' ⟨s0, s1, s2⟩; go_simp; with_reducible rfl; rotate_left; simp only [Act.put, q1, q2, q3, i64_w, i32_w]; rfl); refine pv_ 17 34 38 262143 ?_; refine pv_ 18 35 38 524287 ?_
         refine pv_ 19 36 38 1048575 ?_; refine pv_ 20 37 38 2097151 ?_; refine pure_ (i := 21) (N := some 38) (v := undef) (a' := ?_) (marksOf 38 4194303) rfl rfl (any_of HT_.out (by kernel_rfl)) (fun _ _ _ h => h) (Or.inr ⟨by rfl, rfl⟩) ?_ ?_; rotate_left
         ·simp only [Act.put, q1, q2, q3, i64_w, i32_w]
          rfl
         refine pure_ (i := 22) (N := some 39) (v := undef) (a' := ?_) (marksOf 38 8388607) rfl rfl (any_of HT_.out (by kernel_rfl)) (fun _ _ _ h => h) (Or.inr ⟨by rfl, rfl⟩) ?_ ?_; rotate_left
         ·simp only [Act.put, q1, q2, q3, i64_w, i32_w]
          rfl
         refine pure_ (i := 23) (N := some 40) (v := undef) (a' := ?_) (marksOf 38 16777215) rfl rfl (any_of HT_.out (by kernel_rfl)) (fun _ _ _ h => h) (Or.inr ⟨by rfl, rfl⟩) ?_ ?_; rotate_left
         ·simp only [Act.put, q1, q2, q3, i64_w, i32_w]
          rfl
         refine pure_ (i := 24) (N := some 41) (v := undef) (a' := ?_) (marksOf 38 33554431) rfl rfl (any_of HT_.out (by kernel_rfl)) (fun _ _ _ h => h) (Or.inr ⟨by rfl, rfl⟩) ?_ ?_; rotate_left
         ·simp only [Act.put, q1, q2, q3, i64_w, i32_w]
          rfl
         refine pure_ (i := 25) (N := some 42) (v := undef) (a' := ?_) (marksOf 38 67108863) rfl rfl (any_of HT_.out (by kernel_rfl)) (fun _ _ _ h => h) (Or.inr ⟨by rfl, rfl⟩) ?_ ?_; rotate_left
         ·simp only [Act.put, q1, q2, q3, i64_w, i32_w]
          rfl
         refine pure_ (i := 26) (N := some 43) (v := undef) (a' := ?_) (marksOf 38 134217727) rfl rfl (any_of HT_.out (by kernel_rfl)) (fun _ _ _ h => h) (Or.inr ⟨by rfl, rfl⟩) ?_ ?_; rotate_left
         ·simp only [Act.put, q1, q2, q3, i64_w, i32_w]
          rfl
         refine pv_ 27 44 38 268435455 ?_; refine pv_ 28 45 38 536870911 ?_; refine pure_ (i := 29) (N := some 46) (v := undef) (a' := ?_) (marksOf 38 1073741823) rfl rfl (any_of HT_.out (by kernel_rfl)) (fun _ _ _ h => h) (Or.inr ⟨by rfl, rfl⟩) ?_ ?_; rotate_left
         ·simp only [Act.put, q1, q2, q3, i64_w, i32_w]
          rfl
         refine pure_ (i := 30) (N := some 47) (v := undef) (a' := ?_) (marksOf 38 2147483647) rfl rfl (any_of HT_.out (by kernel_rfl)) (fun _ _ _ h => h) (Or.inr ⟨by rfl, rfl⟩) ?_ ?_; rotate_left
         ·simp only [Act.put, q1, q2, q3, i64_w, i32_w]
          rfl
         refine pure_ (i := 31) (N := some 48) (v := undef) (a' := ?_) (marksOf 38 4294967295) rfl rfl (any_of HT_.out (by kernel_rfl)) (fun _ _ _ h => h) (Or.inr ⟨by rfl, rfl⟩) ?_ ?_; rotate_left
         ·simp only [Act.put, q1, q2, q3, i64_w, i32_w]
          rfl
         refine pv_ 32 49 38 8589934591 ?_; refine pv_ 33 50 38 17179869183 ?_; refine pure_ (i := 34) (N := some 51) (v := undef) (a' := ?_) (marksOf 38 34359738367) rfl rfl (any_of HT_.out (by kernel_rfl)) (fun _ _ _ h => h) (Or.inr ⟨by rfl, rfl⟩) ?_ ?_; rotate_left
         ·simp only [Act.put, q1, q2, q3, i64_w, i32_w]
          rfl
         refine pure_ (i := 35) (N := some 52) (v := undef) (a' := ?_) (marksOf 38 68719476735) rfl rfl (any_of HT_.out (by kernel_rfl)) (fun _ _ _ h => h) (Or.inr ⟨by rfl, rfl⟩) ?_ ?_; rotate_left
         ·simp only [Act.put, q1, q2, q3, i64_w, i32_w]
          rfl
         refine pure_ (i := 36) (N := some 53) (v := undef) (a' := ?_) (marksOf 38 137438953471) rfl rfl (any_of HT_.out (by kernel_rfl)) (fun _ _ _ h => h) (Or.inr ⟨by rfl, rfl⟩) ?_ ?_; rotate_left
         ·simp only [Act.put, q1, q2, q3, i64_w, i32_w]
          rfl
         refine pv_ 37 54 38 274877906943 ?_; refine done_ (done_of HT_.out (by kernel_rfl)) ?_; (try go_wp2); go_ret; exact ⟨by first | rfl | (simp [errW_none, errW_some] <;> rfl) | (simp [*, errW_none, errW_some] <;> rfl), hBq⟩
        ·rw [if_neg c50] at H
         have d8_ : decide (16384 < (((rd_T33 l0_0 a0_).f2).size : Int)) = false := decide_eq_false c50; have d9_ : decide (16384 < ((rd_T33 l0_0 a0_).f2).size) = false := decide_eq_false (by omega); clear c50; obtain ⟨c0_, A56, H⟩ := bnd H; (try dsimp only at H)
         by_cases c57 : ((rd_T33 l0_0 a0_).f0) = c0_
         ·rw [if_pos c57] at H
          have e0_ : (((rd_T33 l0_0 a0_).f0) == c0_) = true := beq_iff_eq.mpr c57; have e1_ : (((rd_T33 l0_0 a0_).f0) != c0_) = false := bne_eq_false_iff_eq.mpr c57; clear c57
          by_cases c58 : ((rd_T33 l0_0 a0_).f1) < 1
          ·rw [if_pos c58] at H
           have e2_ : decide (((rd_T33 l0_0 a0_).f1) < 1) = true := decide_eq_true c58; clear c58; obtain rfl := Option.some.inj H; have b1_ : 0 ≤ (a0_ : Int) := dq; have b2_ : a0_ < (l0_0.length : Int) := dq; obtain ⟨a5_, b6_, _, _, _⟩ := at_T33 (Kd.C_below HR0_0.out HB.out) a0_ b1_ b2_; cases b6_; replace b1_ := eq_true b1_; replace b2_ := eq_true b2_
           (try go_wp2_with (first | ((with_reducible refine gate_dst (N := 4) rfl ?_); (try (refine gate_guard (by rfl) ?_; dsimp only)); refine bxE 4 #[.int .i64 0, .int .i64 0, .string (⟨#[]⟩ : ByteArray)] 33 ?_; intro a1_ hg w59 hbox hb; have a2_ := As (hbox); have b3_ := As (by rw [hg]; exact (below_size hBq) : w.heap.size ≤ a1_); replace HB := sBq hb; have b9_ := b3_; have a4_ := As (by rw [hg]; exact Nat.ne_of_lt (blk_lt (g := a9_) (plq a3_.out)) : a9_ ≠ a1_); replace a3_ := As (blk_below (plq a3_.out) hb); have b0_ := As a4_.out.symm; clear hb hbox hg; have g1_ := b0_.out; have g2_ := a4_.out; have := cf3 a2_.out)))
           have n0_ : Aside0 ((((w59.setCell ⟨a1_, 0, none⟩ (((rd_T33 l0_0 a0_).f0))).setCell ⟨a1_, 1, none⟩ (((rd_T33 l0_0 a0_).f1))).setCell ⟨a1_, 2, none⟩ (.string ((rd_T33 l0_0 a0_).f2))).heap[a9_]? = some (.cells #[.slice (some a5_) l0_0.length c0_0] 25 (0, 0))) := ⟨by (iterate 3 (refine blk_far ?_ a4_.out _)); exact a3_.out⟩; have n1_ : Aside0 ((((w59.setCell ⟨a1_, 0, none⟩ (((rd_T33 l0_0 a0_).f0))).setCell ⟨a1_, 1, none⟩ (((rd_T33 l0_0 a0_).f1))).setCell ⟨a1_, 2, none⟩ (.string ((rd_T33 l0_0 a0_).f2))).heap[a1_]? = some (.cells #[((rd_T33 l0_0 a0_).f0), ((rd_T33 l0_0 a0_).f1), .string ((rd_T33 l0_0 a0_).f2)] 33 (0, 0))) := ⟨by apply puts3; exact a2_.out⟩
           have n2_ : Aside0 (Below w.heap.size w (((w59.setCell ⟨a1_, 0, none⟩ (((rd_T33 l0_0 a0_).f0))).setCell ⟨a1_, 1, none⟩ (((rd_T33 l0_0 a0_).f1))).setCell ⟨a1_, 2, none⟩ (.string ((rd_T33 l0_0 a0_).f2)))) := ⟨hBq⟩; (try clear a3_); (try clear a2_); (try clear HB); generalize (((w59.setCell ⟨a1_, 0, none⟩ (((rd_T33 l0_0 a0_).f0))).setCell ⟨a1_, 1, none⟩ (((rd_T33 l0_0 a0_).f1))).setCell ⟨a1_, 2, none⟩ (.string ((rd_T33 l0_0 a0_).f2))) = w62 at n0_ n1_ n2_ ⊢; have a3_ := n0_; have a2_ := n1_; have HB := n2_; clear n0_ n1_ n2_; replace a3_ := As (blk_drew a3_.out); replace a2_ := As (blk_drew a2_.out); replace HB := As (below_drew1 HB.out); refine start_ (n := 38) (S := fun w' => w'.cell? ⟨a1_, 0, none⟩ = some (((rd_T33 l0_0 a0_).f0)) ∧ w'.cell? ⟨a1_, 1, none⟩ = some (((rd_T33 l0_0 a0_).f1)) ∧ w'.cell? ⟨a1_, 2, none⟩ = some (.string ((rd_T33 l0_0 a0_).f2))) (ds := []) (marksOf 38 0) (by kernel_rfl) rfl rfl ⟨bc a2_ 0, bc a2_ 1, bc a2_ 2⟩ (fun hHeld => ?_); refine with_tabW refs_valid.tab6 refs_valid.bits6 (fun HT_ HW_ => ?_)
           generalize w62.drew = w63 at a3_ a2_ HB hHeld ⊢; refine pv_ 0 17 38 1 ?_; refine pv_ 1 18 38 3 ?_; refine pv_ 2 19 38 7 ?_; refine pure_ (i := 3) (N := some 20) (v := undef) (a' := ?_) (marksOf 38 15) rfl rfl (any_of HT_.out (by kernel_rfl)) (fun _ _ _ h => h) (Or.inr ⟨by rfl, rfl⟩) ?_ ?_; rotate_left
           ·simp only [Act.put, q1, q2, q3, i64_w, i32_w]
            rfl
           refine pure_ (i := 4) (N := some 21) (v := undef) (a' := ?_) (marksOf 38 31) rfl rfl (any_of HT_.out (by kernel_rfl)) (fun _ _ _ h => h) (Or.inr ⟨by rfl, rfl⟩) ?_ ?_; rotate_left
           ·simp only [Act.put, q1, q2, q3, i64_w, i32_w]
            rfl
           refine pure_ (i := 5) (N := some 22) (v := undef) (a' := ?_) (marksOf 38 63) rfl rfl (any_of HT_.out (by kernel_rfl)) (fun _ _ _ h => h) (Or.inr ⟨by rfl, rfl⟩) ?_ ?_; rotate_left
           ·simp only [Act.put, q1, q2, q3, i64_w, i32_w]
            rfl
           refine pure_ (i := 6) (N := some 23) (v := undef) (a' := ?_) (marksOf 38 127) rfl rfl (any_of HT_.out (by kernel_rfl)) (fun _ _ _ h => h) (Or.inr ⟨by rfl, rfl⟩) ?_ ?_; rotate_left
           ·simp only [Act.put, q1, q2, q3, i64_w, i32_w]
            rfl
           refine pure_ (i := 7) (N := some 24) (v := undef) (a' := ?_) (marksOf 38 255) rfl rfl (any_of HT_.out (by kernel_rfl)) (fun _ _ _ h => h) (Or.inr ⟨by rfl, rfl⟩) ?_ ?_; rotate_left
           ·simp only [Act.put, q1, q2, q3, i64_w, i32_w]
            rfl
           refine pure_ (i := 8) (N := some 25) (v := undef) (a' := ?_) (marksOf 38 511) rfl rfl (any_of HT_.out (by kernel_rfl)) (fun _ _ _ h => h) (Or.inr ⟨by rfl, rfl⟩) ?_ ?_; rotate_left
           ·simp only [Act.put, q1, q2, q3, i64_w, i32_w]
            rfl
           refine pure_ (i := 9) (N := some 26) (v := undef) (a' := ?_) (marksOf 38 1023) rfl rfl (any_of HT_.out (by kernel_rfl)) (fun _ _ _ h => h) (Or.inr ⟨by rfl, rfl⟩) ?_ ?_; rotate_left
           ·simp only [Act.put, q1, q2, q3, i64_w, i32_w]
            rfl
           refine pure_ (i := 10) (N := some 27) (v := undef) (a' := ?_) (marksOf 38 2047) rfl rfl (any_of HT_.out (by kernel_rfl)) (fun _ _ _ h => h) (Or.inr ⟨by rfl, rfl⟩) ?_ ?_; rotate_left
           ·simp only [Act.put, q1, q2, q3, i64_w, i32_w]
            rfl
           refine pure_ (i := 11) (N := some 28) (v := undef) (a' := ?_) (marksOf 38 4095) rfl rfl (any_of HT_.out (by kernel_rfl)) (fun _ _ _ h => h) (Or.inr ⟨by rfl, rfl⟩) ?_ ?_; rotate_left
           ·simp only [Act.put, q1, q2, q3, i64_w, i32_w]
            rfl
           refine pure_ (i := 12) (N := some 29) (v := undef) (a' := ?_) (marksOf 38 8191) rfl rfl (any_of HT_.out (by kernel_rfl)) (fun _ _ _ h => h) (Or.inr ⟨by rfl, rfl⟩) ?_ ?_; rotate_left
           ·simp only [Act.put, q1, q2, q3, i64_w, i32_w]
            rfl
           refine pv_ 13 30 38 16383 ?_; refine pv_ 14 31 38 32767 ?_; refine pv_ 15 32 38 65535 ?_; (refine ta_ 16 33 38 131071 ?_ rfl rfl (take_ofW HT_.out HW_.out (by kernel_rfl)) (fun _ _ _ h => h) (by rfl) ?_ hHeld ?_ ?_ ?_; rotate_left; rintro w' ⟨s0, s1, s2⟩; go_simp; with_reducible rfl; rotate_left; simp only [Act.put, q1, q2, q3, i64_w, i32_w]; rfl); refine pv_ 17 34 38 262143 ?_; refine pv_ 18 35 38 524287 ?_
           refine pv_ 19 36 38 1048575 ?_; refine pv_ 20 37 38 2097151 ?_; refine pv_ 21 38 38 4194303 ?_; refine pv_ 23 40 38 12582911 ?_; (refine ta_ 22 39 38 16777215 ?_ rfl rfl (take_ofW HT_.out HW_.out (by kernel_rfl)) (fun _ _ _ h => h) (by rfl) ?_ hHeld ?_ ?_ ?_; rotate_left; rintro w' ⟨s0, s1, s2⟩; go_simp; with_reducible rfl; rotate_left; simp only [Act.put, q1, q2, q3, i64_w, i32_w]; rfl); (refine ta_ 24 41 38 33554431 ?_ rfl rfl (take_ofW HT_.out HW_.out (by kernel_rfl)) (fun _ _ _ h => h) (by rfl) ?_ hHeld ?_ ?_ ?_; rotate_left; rintro w' ⟨s0, s1, s2⟩; go_simp; with_reducible rfl; rotate_left; simp only [Act.put, q1, q2, q3, i64_w, i32_w]; rfl)
           refine one_ (i := 25) (N := some 42) (marksOf 38 67108863) rfl rfl (one_of HT_.out (by kernel_rfl)) (by decide) (fun K hK => ?_); refine goes_ Try.func10 (by kernel_rfl) rfl #[.string ((rd_T33 l0_0 a0_).f2)] (by rfl) rfl rfl gq ?_
           with_reducible refine (digest_Sum.calls k1 ((rd_T33 l0_0 a0_).f2) c0_ _ A56.out).mono ?_
           rintro e w' ⟨rfl, ⟨nd, rfl⟩⟩; refine ⟨_, rfl, ?_⟩; refine hK.out _ _ ⟨bc a2_ 0, bc a2_ 1, bc a2_ 2⟩ (fun hHeld => ?_); clear hK K; refine norm_ (a' := ?_) ?_ ?_; rotate_left
           ·show Act.put _ (some 42) _ = _
            simp only [Act.put, q1, q2, q3, i64_w, i32_w]; rfl
           refine pv_ 26 43 38 134217727 ?_; refine pv_ 27 44 38 268435455 ?_; refine pv_ 28 45 38 536870911 ?_; refine pv_ 29 46 38 1073741823 ?_; (refine ta_ 30 47 38 2147483647 ?_ rfl rfl (take_ofW HT_.out HW_.out (by kernel_rfl)) (fun _ _ _ h => h) (by rfl) ?_ hHeld ?_ ?_ ?_; rotate_left; rintro w' ⟨s0, s1, s2⟩; go_simp; with_reducible rfl; rotate_left; simp only [Act.put, q1, q2, q3, i64_w, i32_w]; rfl); refine pv_ 31 48 38 4294967295 ?_
           refine pv_ 32 49 38 8589934591 ?_; refine pv_ 33 50 38 17179869183 ?_; refine pure_ (i := 34) (N := some 51) (v := undef) (a' := ?_) (marksOf 38 34359738367) rfl rfl (any_of HT_.out (by kernel_rfl)) (fun _ _ _ h => h) (Or.inr ⟨by rfl, rfl⟩) ?_ ?_; rotate_left
           ·simp only [Act.put, q1, q2, q3, i64_w, i32_w]
            rfl
           refine pure_ (i := 35) (N := some 52) (v := undef) (a' := ?_) (marksOf 38 68719476735) rfl rfl (any_of HT_.out (by kernel_rfl)) (fun _ _ _ h => h) (Or.inr ⟨by rfl, rfl⟩) ?_ ?_; rotate_left
           ·simp only [Act.put, q1, q2, q3, i64_w, i32_w]
            rfl
           refine pure_ (i := 36) (N := some 53) (v := undef) (a' := ?_) (marksOf 38 137438953471) rfl rfl (any_of HT_.out (by kernel_rfl)) (fun _ _ _ h => h) (Or.inr ⟨by rfl, rfl⟩) ?_ ?_; rotate_left
           ·simp only [Act.put, q1, q2, q3, i64_w, i32_w]
            rfl
           refine pv_ 37 54 38 274877906943 ?_; refine done_ (done_of HT_.out (by kernel_rfl)) ?_; (try go_wp2); go_ret; exact ⟨by first | rfl | (simp [errW_none, errW_some] <;> rfl) | (simp [*, errW_none, errW_some] <;> rfl), hBq⟩
          ·rw [if_neg c58] at H
           have e2_ : decide (((rd_T33 l0_0 a0_).f1) < 1) = false := decide_eq_false c58; clear c58
           by_cases c64 : ((rd_T33 l0_0 a0_).f1) ≥ 2147483647
           ·rw [if_pos c64] at H
            have e3_ : decide (2147483647 ≤ ((rd_T33 l0_0 a0_).f1)) = true := decide_eq_true c64; clear c64; obtain rfl := Option.some.inj H; have b1_ : 0 ≤ (a0_ : Int) := dq; have b2_ : a0_ < (l0_0.length : Int) := dq; obtain ⟨a5_, b6_, _, _, _⟩ := at_T33 (Kd.C_below HR0_0.out HB.out) a0_ b1_ b2_; cases b6_; replace b1_ := eq_true b1_; replace b2_ := eq_true b2_
            (try go_wp2_with (first | ((with_reducible refine gate_dst (N := 4) rfl ?_); (try (refine gate_guard (by rfl) ?_; dsimp only)); refine bxE 4 #[.int .i64 0, .int .i64 0, .string (⟨#[]⟩ : ByteArray)] 33 ?_; intro a1_ hg w65 hbox hb; have a2_ := As (hbox); have b3_ := As (by rw [hg]; exact (below_size hBq) : w.heap.size ≤ a1_); replace HB := sBq hb; have b9_ := b3_; have a4_ := As (by rw [hg]; exact Nat.ne_of_lt (blk_lt (g := a9_) (plq a3_.out)) : a9_ ≠ a1_); replace a3_ := As (blk_below (plq a3_.out) hb); have b0_ := As a4_.out.symm; clear hb hbox hg; have g3_ := b0_.out; have g4_ := a4_.out; have := cf3 a2_.out)))
            have n0_ : Aside0 ((((w65.setCell ⟨a1_, 0, none⟩ (((rd_T33 l0_0 a0_).f0))).setCell ⟨a1_, 1, none⟩ (((rd_T33 l0_0 a0_).f1))).setCell ⟨a1_, 2, none⟩ (.string ((rd_T33 l0_0 a0_).f2))).heap[a9_]? = some (.cells #[.slice (some a5_) l0_0.length c0_0] 25 (0, 0))) := ⟨by (iterate 3 (refine blk_far ?_ a4_.out _)); exact a3_.out⟩; have n1_ : Aside0 ((((w65.setCell ⟨a1_, 0, none⟩ (((rd_T33 l0_0 a0_).f0))).setCell ⟨a1_, 1, none⟩ (((rd_T33 l0_0 a0_).f1))).setCell ⟨a1_, 2, none⟩ (.string ((rd_T33 l0_0 a0_).f2))).heap[a1_]? = some (.cells #[((rd_T33 l0_0 a0_).f0), ((rd_T33 l0_0 a0_).f1), .string ((rd_T33 l0_0 a0_).f2)] 33 (0, 0))) := ⟨by apply puts3; exact a2_.out⟩
            have n2_ : Aside0 (Below w.heap.size w (((w65.setCell ⟨a1_, 0, none⟩ (((rd_T33 l0_0 a0_).f0))).setCell ⟨a1_, 1, none⟩ (((rd_T33 l0_0 a0_).f1))).setCell ⟨a1_, 2, none⟩ (.string ((rd_T33 l0_0 a0_).f2)))) := ⟨hBq⟩; (try clear a3_); (try clear a2_); (try clear HB); generalize (((w65.setCell ⟨a1_, 0, none⟩ (((rd_T33 l0_0 a0_).f0))).setCell ⟨a1_, 1, none⟩ (((rd_T33 l0_0 a0_).f1))).setCell ⟨a1_, 2, none⟩ (.string ((rd_T33 l0_0 a0_).f2))) = w68 at n0_ n1_ n2_ ⊢; have a3_ := n0_; have a2_ := n1_; have HB := n2_; clear n0_ n1_ n2_; replace a3_ := As (blk_drew a3_.out); replace a2_ := As (blk_drew a2_.out); replace HB := As (below_drew1 HB.out); refine start_ (n := 38) (S := fun w' => w'.cell? ⟨a1_, 0, none⟩ = some (((rd_T33 l0_0 a0_).f0)) ∧ w'.cell? ⟨a1_, 1, none⟩ = some (((rd_T33 l0_0 a0_).f1)) ∧ w'.cell? ⟨a1_, 2, none⟩ = some (.string ((rd_T33 l0_0 a0_).f2))) (ds := []) (marksOf 38 0) (by kernel_rfl) rfl rfl ⟨bc a2_ 0, bc a2_ 1, bc a2_ 2⟩ (fun hHeld => ?_); refine with_tabW refs_valid.tab6 refs_valid.bits6 (fun HT_ HW_ => ?_)
            generalize w68.drew = w69 at a3_ a2_ HB hHeld ⊢; refine pv_ 0 17 38 1 ?_; refine pv_ 1 18 38 3 ?_; refine pv_ 2 19 38 7 ?_; refine pure_ (i := 3) (N := some 20) (v := undef) (a' := ?_) (marksOf 38 15) rfl rfl (any_of HT_.out (by kernel_rfl)) (fun _ _ _ h => h) (Or.inr ⟨by rfl, rfl⟩) ?_ ?_; rotate_left
            ·simp only [Act.put, q1, q2, q3, i64_w, i32_w]
             rfl
            refine pure_ (i := 4) (N := some 21) (v := undef) (a' := ?_) (marksOf 38 31) rfl rfl (any_of HT_.out (by kernel_rfl)) (fun _ _ _ h => h) (Or.inr ⟨by rfl, rfl⟩) ?_ ?_; rotate_left
            ·simp only [Act.put, q1, q2, q3, i64_w, i32_w]
             rfl
            refine pure_ (i := 5) (N := some 22) (v := undef) (a' := ?_) (marksOf 38 63) rfl rfl (any_of HT_.out (by kernel_rfl)) (fun _ _ _ h => h) (Or.inr ⟨by rfl, rfl⟩) ?_ ?_; rotate_left
            ·simp only [Act.put, q1, q2, q3, i64_w, i32_w]
             rfl
            refine pure_ (i := 6) (N := some 23) (v := undef) (a' := ?_) (marksOf 38 127) rfl rfl (any_of HT_.out (by kernel_rfl)) (fun _ _ _ h => h) (Or.inr ⟨by rfl, rfl⟩) ?_ ?_; rotate_left
            ·simp only [Act.put, q1, q2, q3, i64_w, i32_w]
             rfl
            refine pure_ (i := 7) (N := some 24) (v := undef) (a' := ?_) (marksOf 38 255) rfl rfl (any_of HT_.out (by kernel_rfl)) (fun _ _ _ h => h) (Or.inr ⟨by rfl, rfl⟩) ?_ ?_; rotate_left
            ·simp only [Act.put, q1, q2, q3, i64_w, i32_w]
             rfl
            refine pure_ (i := 8) (N := some 25) (v := undef) (a' := ?_) (marksOf 38 511) rfl rfl (any_of HT_.out (by kernel_rfl)) (fun _ _ _ h => h) (Or.inr ⟨by rfl, rfl⟩) ?_ ?_; rotate_left
            ·simp only [Act.put, q1, q2, q3, i64_w, i32_w]
             rfl
            refine pure_ (i := 9) (N := some 26) (v := undef) (a' := ?_) (marksOf 38 1023) rfl rfl (any_of HT_.out (by kernel_rfl)) (fun _ _ _ h => h) (Or.inr ⟨by rfl, rfl⟩) ?_ ?_; rotate_left
            ·simp only [Act.put, q1, q2, q3, i64_w, i32_w]
             rfl
            refine pure_ (i := 10) (N := some 27) (v := undef) (a' := ?_) (marksOf 38 2047) rfl rfl (any_of HT_.out (by kernel_rfl)) (fun _ _ _ h => h) (Or.inr ⟨by rfl, rfl⟩) ?_ ?_; rotate_left
            ·simp only [Act.put, q1, q2, q3, i64_w, i32_w]
             rfl
            refine pure_ (i := 11) (N := some 28) (v := undef) (a' := ?_) (marksOf 38 4095) rfl rfl (any_of HT_.out (by kernel_rfl)) (fun _ _ _ h => h) (Or.inr ⟨by rfl, rfl⟩) ?_ ?_; rotate_left
            ·simp only [Act.put, q1, q2, q3, i64_w, i32_w]
             rfl
            refine pure_ (i := 12) (N := some 29) (v := undef) (a' := ?_) (marksOf 38 8191) rfl rfl (any_of HT_.out (by kernel_rfl)) (fun _ _ _ h => h) (Or.inr ⟨by rfl, rfl⟩) ?_ ?_; rotate_left
            ·simp only [Act.put, q1, q2, q3, i64_w, i32_w]
             rfl
            refine pv_ 13 30 38 16383 ?_; refine pv_ 14 31 38 32767 ?_; refine pv_ 15 32 38 65535 ?_; (refine ta_ 16 33 38 131071 ?_ rfl rfl (take_ofW HT_.out HW_.out (by kernel_rfl)) (fun _ _ _ h => h) (by rfl) ?_ hHeld ?_ ?_ ?_; rotate_left; rintro w' ⟨s0, s1, s2⟩; go_simp; with_reducible rfl; rotate_left; simp only [Act.put, q1, q2, q3, i64_w, i32_w]; rfl); refine pv_ 17 34 38 262143 ?_; refine pv_ 18 35 38 524287 ?_
            refine pv_ 19 36 38 1048575 ?_; refine pv_ 20 37 38 2097151 ?_; refine pv_ 21 38 38 4194303 ?_; refine pv_ 23 40 38 12582911 ?_; (refine ta_ 22 39 38 16777215 ?_ rfl rfl (take_ofW HT_.out HW_.out (by kernel_rfl)) (fun _ _ _ h => h) (by rfl) ?_ hHeld ?_ ?_ ?_; rotate_left; rintro w' ⟨s0, s1, s2⟩; go_simp; with_reducible rfl; rotate_left; simp only [Act.put, q1, q2, q3, i64_w, i32_w]; rfl); (refine ta_ 24 41 38 33554431 ?_ rfl rfl (take_ofW HT_.out HW_.out (by kernel_rfl)) (fun _ _ _ h => h) (by rfl) ?_ hHeld ?_ ?_ ?_; rotate_left; rintro w' ⟨s0, s1, s2⟩; go_simp; with_reducible rfl; rotate_left; simp only [Act.put, q1, q2, q3, i64_w, i32_w]; rfl)
            refine one_ (i := 25) (N := some 42) (marksOf 38 67108863) rfl rfl (one_of HT_.out (by kernel_rfl)) (by decide) (fun K hK => ?_); refine goes_ Try.func10 (by kernel_rfl) rfl #[.string ((rd_T33 l0_0 a0_).f2)] (by rfl) rfl rfl gq ?_
            with_reducible refine (digest_Sum.calls k1 ((rd_T33 l0_0 a0_).f2) c0_ _ A56.out).mono ?_
            rintro e w' ⟨rfl, ⟨nd, rfl⟩⟩; refine ⟨_, rfl, ?_⟩; refine hK.out _ _ ⟨bc a2_ 0, bc a2_ 1, bc a2_ 2⟩ (fun hHeld => ?_); clear hK K; refine norm_ (a' := ?_) ?_ ?_; rotate_left
            ·show Act.put _ (some 42) _ = _
             simp only [Act.put, q1, q2, q3, i64_w, i32_w]; rfl
            refine pv_ 26 43 38 134217727 ?_; refine pv_ 27 44 38 268435455 ?_; refine pv_ 28 45 38 536870911 ?_; refine pv_ 29 46 38 1073741823 ?_; (refine ta_ 30 47 38 2147483647 ?_ rfl rfl (take_ofW HT_.out HW_.out (by kernel_rfl)) (fun _ _ _ h => h) (by rfl) ?_ hHeld ?_ ?_ ?_; rotate_left; rintro w' ⟨s0, s1, s2⟩; go_simp; with_reducible rfl; rotate_left; simp only [Act.put, q1, q2, q3, i64_w, i32_w]; rfl); refine pv_ 31 48 38 4294967295 ?_
            refine pv_ 32 49 38 8589934591 ?_; refine pv_ 33 50 38 17179869183 ?_; refine pv_ 34 51 38 34359738367 ?_; (refine ta_ 35 52 38 68719476735 ?_ rfl rfl (take_ofW HT_.out HW_.out (by kernel_rfl)) (fun _ _ _ h => h) (by rfl) ?_ hHeld ?_ ?_ ?_; rotate_left; rintro w' ⟨s0, s1, s2⟩; go_simp; with_reducible rfl; rotate_left; simp only [Act.put, q1, q2, q3, i64_w, i32_w]; rfl); refine pv_ 36 53 38 137438953471 ?_; refine pv_ 37 54 38 274877906943 ?_
            refine done_ (done_of HT_.out (by kernel_rfl)) ?_; (try go_wp2); go_ret; exact ⟨by first | rfl | (simp [errW_none, errW_some] <;> rfl) | (simp [*, errW_none, errW_some] <;> rfl), hBq⟩
           ·rw [if_neg c64] at H
            have e3_ : decide (2147483647 ≤ ((rd_T33 l0_0 a0_).f1)) = false := decide_eq_false c64; clear c64; have H' := As H; clear H; have b1_ : 0 ≤ (a0_ : Int) := dq; have b2_ : a0_ < (l0_0.length : Int) := dq; obtain ⟨a5_, b6_, _, _, _⟩ := at_T33 (Kd.C_below HR0_0.out HB.out) a0_ b1_ b2_; cases b6_; replace b1_ := eq_true b1_; replace b2_ := eq_true b2_
            (try go_wp2_with (first | ((with_reducible refine gate_dst (N := 4) rfl ?_); (try (refine gate_guard (by rfl) ?_; dsimp only)); refine bxE 4 #[.int .i64 0, .int .i64 0, .string (⟨#[]⟩ : ByteArray)] 33 ?_; intro a1_ hg w70 hbox hb; have a2_ := As (hbox); have b3_ := As (by rw [hg]; exact (below_size hBq) : w.heap.size ≤ a1_); replace HB := sBq hb; have b9_ := b3_; have a4_ := As (by rw [hg]; exact Nat.ne_of_lt (blk_lt (g := a9_) (plq a3_.out)) : a9_ ≠ a1_); replace a3_ := As (blk_below (plq a3_.out) hb); have b0_ := As a4_.out.symm; clear hb hbox hg; have g5_ := b0_.out; have g6_ := a4_.out; have := cf3 a2_.out)))
            have n0_ : Aside0 ((((w70.setCell ⟨a1_, 0, none⟩ (((rd_T33 l0_0 a0_).f0))).setCell ⟨a1_, 1, none⟩ (((rd_T33 l0_0 a0_).f1))).setCell ⟨a1_, 2, none⟩ (.string ((rd_T33 l0_0 a0_).f2))).heap[a9_]? = some (.cells #[.slice (some a5_) l0_0.length c0_0] 25 (0, 0))) := ⟨by (iterate 3 (refine blk_far ?_ a4_.out _)); exact a3_.out⟩; have n1_ : Aside0 ((((w70.setCell ⟨a1_, 0, none⟩ (((rd_T33 l0_0 a0_).f0))).setCell ⟨a1_, 1, none⟩ (((rd_T33 l0_0 a0_).f1))).setCell ⟨a1_, 2, none⟩ (.string ((rd_T33 l0_0 a0_).f2))).heap[a1_]? = some (.cells #[((rd_T33 l0_0 a0_).f0), ((rd_T33 l0_0 a0_).f1), .string ((rd_T33 l0_0 a0_).f2)] 33 (0, 0))) := ⟨by apply puts3; exact a2_.out⟩
            have n2_ : Aside0 (Below w.heap.size w (((w70.setCell ⟨a1_, 0, none⟩ (((rd_T33 l0_0 a0_).f0))).setCell ⟨a1_, 1, none⟩ (((rd_T33 l0_0 a0_).f1))).setCell ⟨a1_, 2, none⟩ (.string ((rd_T33 l0_0 a0_).f2)))) := ⟨hBq⟩; (try clear a3_); (try clear a2_); (try clear HB); generalize (((w70.setCell ⟨a1_, 0, none⟩ (((rd_T33 l0_0 a0_).f0))).setCell ⟨a1_, 1, none⟩ (((rd_T33 l0_0 a0_).f1))).setCell ⟨a1_, 2, none⟩ (.string ((rd_T33 l0_0 a0_).f2))) = w73 at n0_ n1_ n2_ ⊢; have a3_ := n0_; have a2_ := n1_; have HB := n2_; clear n0_ n1_ n2_; replace a3_ := As (blk_drew a3_.out); replace a2_ := As (blk_drew a2_.out); replace HB := As (below_drew1 HB.out); refine start_ (n := 38) (S := fun w' => w'.cell? ⟨a1_, 0, none⟩ = some (((rd_T33 l0_0 a0_).f0)) ∧ w'.cell? ⟨a1_, 1, none⟩ = some (((rd_T33 l0_0 a0_).f1)) ∧ w'.cell? ⟨a1_, 2, none⟩ = some (.string ((rd_T33 l0_0 a0_).f2))) (ds := []) (marksOf 38 0) (by kernel_rfl) rfl rfl ⟨bc a2_ 0, bc a2_ 1, bc a2_ 2⟩ (fun hHeld => ?_); refine with_tabW refs_valid.tab6 refs_valid.bits6 (fun HT_ HW_ => ?_)
            generalize w73.drew = w74 at a3_ a2_ HB hHeld ⊢; refine pv_ 0 17 38 1 ?_; refine pv_ 1 18 38 3 ?_; refine pv_ 2 19 38 7 ?_; refine pure_ (i := 3) (N := some 20) (v := undef) (a' := ?_) (marksOf 38 15) rfl rfl (any_of HT_.out (by kernel_rfl)) (fun _ _ _ h => h) (Or.inr ⟨by rfl, rfl⟩) ?_ ?_; rotate_left
            ·simp only [Act.put, q1, q2, q3, i64_w, i32_w]
             rfl
            refine pure_ (i := 4) (N := some 21) (v := undef) (a' := ?_) (marksOf 38 31) rfl rfl (any_of HT_.out (by kernel_rfl)) (fun _ _ _ h => h) (Or.inr ⟨by rfl, rfl⟩) ?_ ?_; rotate_left
            ·simp only [Act.put, q1, q2, q3, i64_w, i32_w]
             rfl
            refine pure_ (i := 5) (N := some 22) (v := undef) (a' := ?_) (marksOf 38 63) rfl rfl (any_of HT_.out (by kernel_rfl)) (fun _ _ _ h => h) (Or.inr ⟨by rfl, rfl⟩) ?_ ?_; rotate_left
            ·simp only [Act.put, q1, q2, q3, i64_w, i32_w]
             rfl
            refine pure_ (i := 6) (N := some 23) (v := undef) (a' := ?_) (marksOf 38 127) rfl rfl (any_of HT_.out (by kernel_rfl)) (fun _ _ _ h => h) (Or.inr ⟨by rfl, rfl⟩) ?_ ?_; rotate_left
            ·simp only [Act.put, q1, q2, q3, i64_w, i32_w]
             rfl
            refine pure_ (i := 7) (N := some 24) (v := undef) (a' := ?_) (marksOf 38 255) rfl rfl (any_of HT_.out (by kernel_rfl)) (fun _ _ _ h => h) (Or.inr ⟨by rfl, rfl⟩) ?_ ?_; rotate_left
            ·simp only [Act.put, q1, q2, q3, i64_w, i32_w]
             rfl
            refine pure_ (i := 8) (N := some 25) (v := undef) (a' := ?_) (marksOf 38 511) rfl rfl (any_of HT_.out (by kernel_rfl)) (fun _ _ _ h => h) (Or.inr ⟨by rfl, rfl⟩) ?_ ?_; rotate_left
            ·simp only [Act.put, q1, q2, q3, i64_w, i32_w]
             rfl
            refine pure_ (i := 9) (N := some 26) (v := undef) (a' := ?_) (marksOf 38 1023) rfl rfl (any_of HT_.out (by kernel_rfl)) (fun _ _ _ h => h) (Or.inr ⟨by rfl, rfl⟩) ?_ ?_; rotate_left
            ·simp only [Act.put, q1, q2, q3, i64_w, i32_w]
             rfl
            refine pure_ (i := 10) (N := some 27) (v := undef) (a' := ?_) (marksOf 38 2047) rfl rfl (any_of HT_.out (by kernel_rfl)) (fun _ _ _ h => h) (Or.inr ⟨by rfl, rfl⟩) ?_ ?_; rotate_left
            ·simp only [Act.put, q1, q2, q3, i64_w, i32_w]
             rfl
            refine pure_ (i := 11) (N := some 28) (v := undef) (a' := ?_) (marksOf 38 4095) rfl rfl (any_of HT_.out (by kernel_rfl)) (fun _ _ _ h => h) (Or.inr ⟨by rfl, rfl⟩) ?_ ?_; rotate_left
            ·simp only [Act.put, q1, q2, q3, i64_w, i32_w]
             rfl
            refine pure_ (i := 12) (N := some 29) (v := undef) (a' := ?_) (marksOf 38 8191) rfl rfl (any_of HT_.out (by kernel_rfl)) (fun _ _ _ h => h) (Or.inr ⟨by rfl, rfl⟩) ?_ ?_; rotate_left
            ·simp only [Act.put, q1, q2, q3, i64_w, i32_w]
             rfl
            refine pv_ 13 30 38 16383 ?_; refine pv_ 14 31 38 32767 ?_; refine pv_ 15 32 38 65535 ?_; (refine ta_ 16 33 38 131071 ?_ rfl rfl (take_ofW HT_.out HW_.out (by kernel_rfl)) (fun _ _ _ h => h) (by rfl) ?_ hHeld ?_ ?_ ?_; rotate_left; rintro w' ⟨s0, s1, s2⟩; go_simp; with_reducible rfl; rotate_left; simp only [Act.put, q1, q2, q3, i64_w, i32_w]; rfl); refine pv_ 17 34 38 262143 ?_; refine pv_ 18 35 38 524287 ?_
            refine pv_ 19 36 38 1048575 ?_; refine pv_ 20 37 38 2097151 ?_; refine pv_ 21 38 38 4194303 ?_; refine pv_ 23 40 38 12582911 ?_; (refine ta_ 22 39 38 16777215 ?_ rfl rfl (take_ofW HT_.out HW_.out (by kernel_rfl)) (fun _ _ _ h => h) (by rfl) ?_ hHeld ?_ ?_ ?_; rotate_left; rintro w' ⟨s0, s1, s2⟩; go_simp; with_reducible rfl; rotate_left; simp only [Act.put, q1, q2, q3, i64_w, i32_w]; rfl); (refine ta_ 24 41 38 33554431 ?_ rfl rfl (take_ofW HT_.out HW_.out (by kernel_rfl)) (fun _ _ _ h => h) (by rfl) ?_ hHeld ?_ ?_ ?_; rotate_left; rintro w' ⟨s0, s1, s2⟩; go_simp; with_reducible rfl; rotate_left; simp only [Act.put, q1, q2, q3, i64_w, i32_w]; rfl)
            refine one_ (i := 25) (N := some 42) (marksOf 38 67108863) rfl rfl (one_of HT_.out (by kernel_rfl)) (by decide) (fun K hK => ?_); refine goes_ Try.func10 (by kernel_rfl) rfl #[.string ((rd_T33 l0_0 a0_).f2)] (by rfl) rfl rfl gq ?_
            with_reducible refine (digest_Sum.calls k1 ((rd_T33 l0_0 a0_).f2) c0_ _ A56.out).mono ?_
            rintro e w' ⟨rfl, ⟨nd, rfl⟩⟩; refine ⟨_, rfl, ?_⟩; refine hK.out _ _ ⟨bc a2_ 0, bc a2_ 1, bc a2_ 2⟩ (fun hHeld => ?_); clear hK K; refine norm_ (a' := ?_) ?_ ?_; rotate_left
            ·show Act.put _ (some 42) _ = _
             simp only [Act.put, q1, q2, q3, i64_w, i32_w]; rfl
            refine pv_ 26 43 38 134217727 ?_; refine pv_ 27 44 38 268435455 ?_; refine pv_ 28 45 38 536870911 ?_; refine pv_ 29 46 38 1073741823 ?_; (refine ta_ 30 47 38 2147483647 ?_ rfl rfl (take_ofW HT_.out HW_.out (by kernel_rfl)) (fun _ _ _ h => h) (by rfl) ?_ hHeld ?_ ?_ ?_; rotate_left; rintro w' ⟨s0, s1, s2⟩; go_simp; with_reducible rfl; rotate_left; simp only [Act.put, q1, q2, q3, i64_w, i32_w]; rfl); refine pv_ 31 48 38 4294967295 ?_
            refine pv_ 32 49 38 8589934591 ?_; refine pv_ 33 50 38 17179869183 ?_; refine pv_ 34 51 38 34359738367 ?_; (refine ta_ 35 52 38 68719476735 ?_ rfl rfl (take_ofW HT_.out HW_.out (by kernel_rfl)) (fun _ _ _ h => h) (by rfl) ?_ hHeld ?_ ?_ ?_; rotate_left; rintro w' ⟨s0, s1, s2⟩; go_simp; with_reducible rfl; rotate_left; simp only [Act.put, q1, q2, q3, i64_w, i32_w]; rfl); refine pv_ 36 53 38 137438953471 ?_; refine pv_ 37 54 38 274877906943 ?_
            refine done_ (done_of HT_.out (by kernel_rfl)) ?_; (try go_wp2); go_roundg k1
            case measure => have := HK1.out; omega
            case rel => exact ⟨(wrap64 (a0_ + 1)), (by first | rfl | (simp; done) | (simp [*]; done)), H', ⟨by have := HK1.out; omega⟩, ⟨by refine plT ?_; exact a3_.out⟩, ⟨hBq⟩⟩
         ·rw [if_neg c57] at H
          have e0_ : (((rd_T33 l0_0 a0_).f0) == c0_) = false := beq_eq_false_iff_ne.mpr c57; have e1_ : (((rd_T33 l0_0 a0_).f0) != c0_) = true := bne_iff_ne.mpr c57; obtain rfl := Option.some.inj H; have b1_ : 0 ≤ (a0_ : Int) := dq; have b2_ : a0_ < (l0_0.length : Int) := dq; obtain ⟨a5_, b6_, _, _, _⟩ := at_T33 (Kd.C_below HR0_0.out HB.out) a0_ b1_ b2_; cases b6_; replace b1_ := eq_true b1_; replace b2_ := eq_true b2_
          (try go_wp2_with (first | ((with_reducible refine gate_dst (N := 4) rfl ?_); (try (refine gate_guard (by rfl) ?_; dsimp only)); refine bxE 4 #[.int .i64 0, .int .i64 0, .string (⟨#[]⟩ : ByteArray)] 33 ?_; intro a1_ hg w75 hbox hb; have a2_ := As (hbox); have b3_ := As (by rw [hg]; exact (below_size hBq) : w.heap.size ≤ a1_); replace HB := sBq hb; have b9_ := b3_; have a4_ := As (by rw [hg]; exact Nat.ne_of_lt (blk_lt (g := a9_) (plq a3_.out)) : a9_ ≠ a1_); replace a3_ := As (blk_below (plq a3_.out) hb); have b0_ := As a4_.out.symm; clear hb hbox hg; have g7_ := b0_.out; have g8_ := a4_.out; have := cf3 a2_.out)))
          have n0_ : Aside0 ((((w75.setCell ⟨a1_, 0, none⟩ (((rd_T33 l0_0 a0_).f0))).setCell ⟨a1_, 1, none⟩ (((rd_T33 l0_0 a0_).f1))).setCell ⟨a1_, 2, none⟩ (.string ((rd_T33 l0_0 a0_).f2))).heap[a9_]? = some (.cells #[.slice (some a5_) l0_0.length c0_0] 25 (0, 0))) := ⟨by (iterate 3 (refine blk_far ?_ a4_.out _)); exact a3_.out⟩; have n1_ : Aside0 ((((w75.setCell ⟨a1_, 0, none⟩ (((rd_T33 l0_0 a0_).f0))).setCell ⟨a1_, 1, none⟩ (((rd_T33 l0_0 a0_).f1))).setCell ⟨a1_, 2, none⟩ (.string ((rd_T33 l0_0 a0_).f2))).heap[a1_]? = some (.cells #[((rd_T33 l0_0 a0_).f0), ((rd_T33 l0_0 a0_).f1), .string ((rd_T33 l0_0 a0_).f2)] 33 (0, 0))) := ⟨by apply puts3; exact a2_.out⟩
          have n2_ : Aside0 (Below w.heap.size w (((w75.setCell ⟨a1_, 0, none⟩ (((rd_T33 l0_0 a0_).f0))).setCell ⟨a1_, 1, none⟩ (((rd_T33 l0_0 a0_).f1))).setCell ⟨a1_, 2, none⟩ (.string ((rd_T33 l0_0 a0_).f2)))) := ⟨hBq⟩; (try clear a3_); (try clear a2_); (try clear HB); generalize (((w75.setCell ⟨a1_, 0, none⟩ (((rd_T33 l0_0 a0_).f0))).setCell ⟨a1_, 1, none⟩ (((rd_T33 l0_0 a0_).f1))).setCell ⟨a1_, 2, none⟩ (.string ((rd_T33 l0_0 a0_).f2))) = w78 at n0_ n1_ n2_ ⊢; have a3_ := n0_; have a2_ := n1_; have HB := n2_; clear n0_ n1_ n2_; replace a3_ := As (blk_drew a3_.out); replace a2_ := As (blk_drew a2_.out); replace HB := As (below_drew1 HB.out); refine start_ (n := 38) (S := fun w' => w'.cell? ⟨a1_, 0, none⟩ = some (((rd_T33 l0_0 a0_).f0)) ∧ w'.cell? ⟨a1_, 1, none⟩ = some (((rd_T33 l0_0 a0_).f1)) ∧ w'.cell? ⟨a1_, 2, none⟩ = some (.string ((rd_T33 l0_0 a0_).f2))) (ds := []) (marksOf 38 0) (by kernel_rfl) rfl rfl ⟨bc a2_ 0, bc a2_ 1, bc a2_ 2⟩ (fun hHeld => ?_); refine with_tabW refs_valid.tab6 refs_valid.bits6 (fun HT_ HW_ => ?_)
          generalize w78.drew = w79 at a3_ a2_ HB hHeld ⊢; refine pv_ 0 17 38 1 ?_; refine pv_ 1 18 38 3 ?_; refine pv_ 2 19 38 7 ?_; refine pure_ (i := 3) (N := some 20) (v := undef) (a' := ?_) (marksOf 38 15) rfl rfl (any_of HT_.out (by kernel_rfl)) (fun _ _ _ h => h) (Or.inr ⟨by rfl, rfl⟩) ?_ ?_; rotate_left
          ·simp only [Act.put, q1, q2, q3, i64_w, i32_w]
           rfl
          refine pure_ (i := 4) (N := some 21) (v := undef) (a' := ?_) (marksOf 38 31) rfl rfl (any_of HT_.out (by kernel_rfl)) (fun _ _ _ h => h) (Or.inr ⟨by rfl, rfl⟩) ?_ ?_; rotate_left
          ·simp only [Act.put, q1, q2, q3, i64_w, i32_w]
           rfl
          refine pure_ (i := 5) (N := some 22) (v := undef) (a' := ?_) (marksOf 38 63) rfl rfl (any_of HT_.out (by kernel_rfl)) (fun _ _ _ h => h) (Or.inr ⟨by rfl, rfl⟩) ?_ ?_; rotate_left
          ·simp only [Act.put, q1, q2, q3, i64_w, i32_w]
           rfl
          refine pure_ (i := 6) (N := some 23) (v := undef) (a' := ?_) (marksOf 38 127) rfl rfl (any_of HT_.out (by kernel_rfl)) (fun _ _ _ h => h) (Or.inr ⟨by rfl, rfl⟩) ?_ ?_; rotate_left
          ·simp only [Act.put, q1, q2, q3, i64_w, i32_w]
           rfl
          refine pure_ (i := 7) (N := some 24) (v := undef) (a' := ?_) (marksOf 38 255) rfl rfl (any_of HT_.out (by kernel_rfl)) (fun _ _ _ h => h) (Or.inr ⟨by rfl, rfl⟩) ?_ ?_; rotate_left
          ·simp only [Act.put, q1, q2, q3, i64_w, i32_w]
           rfl
          refine pure_ (i := 8) (N := some 25) (v := undef) (a' := ?_) (marksOf 38 511) rfl rfl (any_of HT_.out (by kernel_rfl)) (fun _ _ _ h => h) (Or.inr ⟨by rfl, rfl⟩) ?_ ?_; rotate_left
          ·simp only [Act.put, q1, q2, q3, i64_w, i32_w]
           rfl
          refine pure_ (i := 9) (N := some 26) (v := undef) (a' := ?_) (marksOf 38 1023) rfl rfl (any_of HT_.out (by kernel_rfl)) (fun _ _ _ h => h) (Or.inr ⟨by rfl, rfl⟩) ?_ ?_; rotate_left
          ·simp only [Act.put, q1, q2, q3, i64_w, i32_w]
           rfl
          refine pure_ (i := 10) (N := some 27) (v := undef) (a' := ?_) (marksOf 38 2047) rfl rfl (any_of HT_.out (by kernel_rfl)) (fun _ _ _ h => h) (Or.inr ⟨by rfl, rfl⟩) ?_ ?_; rotate_left
          ·simp only [Act.put, q1, q2, q3, i64_w, i32_w]
           rfl
          refine pure_ (i := 11) (N := some 28) (v := undef) (a' := ?_) (marksOf 38 4095) rfl rfl (any_of HT_.out (by kernel_rfl)) (fun _ _ _ h => h) (Or.inr ⟨by rfl, rfl⟩) ?_ ?_; rotate_left
          ·simp only [Act.put, q1, q2, q3, i64_w, i32_w]
           rfl
          refine pure_ (i := 12) (N := some 29) (v := undef) (a' := ?_) (marksOf 38 8191) rfl rfl (any_of HT_.out (by kernel_rfl)) (fun _ _ _ h => h) (Or.inr ⟨by rfl, rfl⟩) ?_ ?_; rotate_left
          ·simp only [Act.put, q1, q2, q3, i64_w, i32_w]
           rfl
          refine pv_ 13 30 38 16383 ?_; refine pv_ 14 31 38 32767 ?_; refine pv_ 15 32 38 65535 ?_; (refine ta_ 16 33 38 131071 ?_ rfl rfl (take_ofW HT_.out HW_.out (by kernel_rfl)) (fun _ _ _ h => h) (by rfl) ?_ hHeld ?_ ?_ ?_; rotate_left; rintro w' ⟨s0, s1, s2⟩; go_simp; with_reducible rfl; rotate_left; simp only [Act.put, q1, q2, q3, i64_w, i32_w]; rfl); refine pv_ 17 34 38 262143 ?_; refine pv_ 18 35 38 524287 ?_
          refine pv_ 19 36 38 1048575 ?_; refine pv_ 20 37 38 2097151 ?_; refine pv_ 21 38 38 4194303 ?_; refine pv_ 23 40 38 12582911 ?_; (refine ta_ 22 39 38 16777215 ?_ rfl rfl (take_ofW HT_.out HW_.out (by kernel_rfl)) (fun _ _ _ h => h) (by rfl) ?_ hHeld ?_ ?_ ?_; rotate_left; rintro w' ⟨s0, s1, s2⟩; go_simp; with_reducible rfl; rotate_left; simp only [Act.put, q1, q2, q3, i64_w, i32_w]; rfl); (refine ta_ 24 41 38 33554431 ?_ rfl rfl (take_ofW HT_.out HW_.out (by kernel_rfl)) (fun _ _ _ h => h) (by rfl) ?_ hHeld ?_ ?_ ?_; rotate_left; rintro w' ⟨s0, s1, s2⟩; go_simp; with_reducible rfl; rotate_left; simp only [Act.put, q1, q2, q3, i64_w, i32_w]; rfl)
          refine one_ (i := 25) (N := some 42) (marksOf 38 67108863) rfl rfl (one_of HT_.out (by kernel_rfl)) (by decide) (fun K hK => ?_); refine goes_ Try.func10 (by kernel_rfl) rfl #[.string ((rd_T33 l0_0 a0_).f2)] (by rfl) rfl rfl gq ?_
          with_reducible refine (digest_Sum.calls k1 ((rd_T33 l0_0 a0_).f2) c0_ _ A56.out).mono ?_
          rintro e w' ⟨rfl, ⟨nd, rfl⟩⟩; refine ⟨_, rfl, ?_⟩; refine hK.out _ _ ⟨bc a2_ 0, bc a2_ 1, bc a2_ 2⟩ (fun hHeld => ?_); clear hK K; refine norm_ (a' := ?_) ?_ ?_; rotate_left
          ·show Act.put _ (some 42) _ = _
           simp only [Act.put, q1, q2, q3, i64_w, i32_w]; rfl
          refine pv_ 26 43 38 134217727 ?_; refine pv_ 27 44 38 268435455 ?_; refine pv_ 28 45 38 536870911 ?_; refine pure_ (i := 29) (N := some 46) (v := undef) (a' := ?_) (marksOf 38 1073741823) rfl rfl (any_of HT_.out (by kernel_rfl)) (fun _ _ _ h => h) (Or.inr ⟨by rfl, rfl⟩) ?_ ?_; rotate_left
          ·simp only [Act.put, q1, q2, q3, i64_w, i32_w]
           rfl
          refine pure_ (i := 30) (N := some 47) (v := undef) (a' := ?_) (marksOf 38 2147483647) rfl rfl (any_of HT_.out (by kernel_rfl)) (fun _ _ _ h => h) (Or.inr ⟨by rfl, rfl⟩) ?_ ?_; rotate_left
          ·simp only [Act.put, q1, q2, q3, i64_w, i32_w]
           rfl
          refine pure_ (i := 31) (N := some 48) (v := undef) (a' := ?_) (marksOf 38 4294967295) rfl rfl (any_of HT_.out (by kernel_rfl)) (fun _ _ _ h => h) (Or.inr ⟨by rfl, rfl⟩) ?_ ?_; rotate_left
          ·simp only [Act.put, q1, q2, q3, i64_w, i32_w]
           rfl
          refine pv_ 32 49 38 8589934591 ?_; refine pv_ 33 50 38 17179869183 ?_; refine pure_ (i := 34) (N := some 51) (v := undef) (a' := ?_) (marksOf 38 34359738367) rfl rfl (any_of HT_.out (by kernel_rfl)) (fun _ _ _ h => h) (Or.inr ⟨by rfl, rfl⟩) ?_ ?_; rotate_left
          ·simp only [Act.put, q1, q2, q3, i64_w, i32_w]
           rfl
          refine pure_ (i := 35) (N := some 52) (v := undef) (a' := ?_) (marksOf 38 68719476735) rfl rfl (any_of HT_.out (by kernel_rfl)) (fun _ _ _ h => h) (Or.inr ⟨by rfl, rfl⟩) ?_ ?_; rotate_left
          ·simp only [Act.put, q1, q2, q3, i64_w, i32_w]
           rfl
          refine pure_ (i := 36) (N := some 53) (v := undef) (a' := ?_) (marksOf 38 137438953471) rfl rfl (any_of HT_.out (by kernel_rfl)) (fun _ _ _ h => h) (Or.inr ⟨by rfl, rfl⟩) ?_ ?_; rotate_left
          ·simp only [Act.put, q1, q2, q3, i64_w, i32_w]
           rfl
          refine pv_ 37 54 38 274877906943 ?_; refine done_ (done_of HT_.out (by kernel_rfl)) ?_; (try go_wp2); go_ret; exact ⟨by first | rfl | (simp [errW_none, errW_some] <;> rfl) | (simp [*, errW_none, errW_some] <;> rfl), hBq⟩
      ·rw [if_neg c9] at H
       exact absurd H (by simp)
     ·rw [if_neg c8] at H
      exact absurd H (by simp)
    ·rw [if_neg c7] at H
     have e4_ : decide (a0_ < (l0_0.length : Int)) = false := decide_eq_false c7; clear c7; obtain rfl := Option.some.inj H; go_wp2; go_ret; exact ⟨by first | rfl | (simp [errW_none, errW_some] <;> rfl) | (simp [*, errW_none, errW_some] <;> rfl), hBq⟩
end Go.Proofs.Ytpifbgkppfginaa.PA
