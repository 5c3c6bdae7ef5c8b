-- Printed by this claim's own program.
import Derived.Test.YtcgpbmafkgbbdaaDoorProg
import Derived.Below
import Derived.Deep.Draws
import Derived.Deep.AppendLies
import Derived.Maps.AppendAt
import Derived.OwnWalk
import Derived.Laws.BytesArg
import Derived.Laws.MakeOwn
import Derived.Laws.OwnMore
import Derived.Deep.OwnRows
import Derived.Tactics
import Derived.Lib.ConvBytes
import Derived.Laws.Slices
import Derived.WalkKit
import Derived.KernelRfl
import Derived.RowKit3
import Derived.Deep.LoopGhost
import Derived.Deep.QuietTactic
import Derived.BigQuiet
import Derived.WideLaws
import Derived.Deep.DeepCutAuto
import Derived.Deep.CutBlock
import Derived.Deep.RegionHeld3
import Derived.Laws.Rows
import Derived.Lib.AppendStr
import Derived.ArgAppend
import Derived.Laws.IdiomCopy
import Derived.OrdersHeld
import Derived.Laws.BitsLemmas
import Derived.RowKit
import Derived.Test.YtcgpbmafkgbbdaaDoorMine
import Derived.Test.YtcgpbmafkgbbdaaDoorCells
import Derived.Test.YtcgpbmafkgbbdaaDoorSeg
import Derived.Shelf.Abstract
import Derived.StillTailTactics
import Derived.Laws.IdiomStrings
import Derived.Test.YtcgpbmafkgbbdaaDoorWWords
import Derived.Test.YtcgpbmafkgbbdaaDoorWLast
import Derived.Test.YtcgpbmafkgbbdaaDoorWTab
import Derived.Test.YtcgpbmafkgbbdaaDoorWQPut
import Derived.Test.YtcgpbmafkgbbdaaDoorWApart
import Derived.Test.YtcgpbmafkgbbdaaDoorWArr
import Derived.Test.YtcgpbmafkgbbdaaDoorWZeros
import Derived.Test.YtcgpbmafkgbbdaaDoorWFoot
import Derived.Test.YtcgpbmafkgbbdaaDoorWKept
import Derived.Test.YtcgpbmafkgbbdaaDoorWShare
import Derived.Test.YtcgpbmafkgbbdaaDoorWN
import Derived.Test.YtcgpbmafkgbbdaaDoorWEqStruct
import Derived.Test.YtcgpbmafkgbbdaaDoorWRepsOne
import Derived.Test.YtcgpbmafkgbbdaaDoorWGuard
import Derived.Test.YtcgpbmafkgbbdaaDoorWNEv
import Derived.Test.YtcgpbmafkgbbdaaDoorWMore
import Derived.Test.YtcgpbmafkgbbdaaDoorWire
import Derived.Test.YtcgpbmafkgbbdaaDoorRow
namespace Go.Proofs.YtcgpbmafkgbbdaaDoor.PS
open Go.RowKit Go.Proofs.YtcgpbmafkgbbdaaDoorW.PrintWords Go.Proofs.YtcgpbmafkgbbdaaDoorW.PrintLast Go.Proofs.YtcgpbmafkgbbdaaDoorW.PrintMore
attribute [local go_sem ↓] some_setCell
attribute [local go_sem] max2_int min2_int max_two min_two max_three min_three max_four min_four
set_option linter.unusedVariables false
set_option linter.unusedSimpArgs false
def errW : Option Int → Value
 | none => .nilIface
 | some c => .iface 0 (.int .i64 c)
theorem errW_none : errW none = .nilIface := rfl
theorem errW_some (c : Int) : errW (some c) = .iface 0 (.int .i64 c) := rfl
theorem info27 : (Tryd.prog.info? 27).map (fun i => (i.zero, i.size, i.bytes)) = some (some (.slice none 0 0), 1, 24) := by kernel_rfl
theorem info49 : (Tryd.prog.info? 49).map (fun i => (i.zero, i.size, i.bytes)) = some (some (.agg #[(.int .i64 0), (.int .i64 0)]), 2, 16) := by kernel_rfl
theorem info51 : (Tryd.prog.info? 51).map (fun i => (i.zero, i.size, i.bytes)) = some (some (.agg #[(.int .i64 0), (.int .i64 0), (.int .i64 0), (.int .i64 0), (.int .i64 0), (.int .i64 0), (.int .i64 0), (.int .i64 0), (.int .i64 0), (.int .i64 0), (.int .i64 0)]), 11, 88) := by kernel_rfl
structure S41 where
 f0 : Int
 f1 : Int
 f2 : Int
 f3 : Int
 f4 : Int
 f5 : Int
 f6 : Int
 f7 : Bool
def z41 : S41 := ⟨(0 : Int), (0 : Int), (0 : Int), (0 : Int), (0 : Int), (0 : Int), (0 : Int), false⟩
def k41 : Kd S41 := Kd.iso (Kd.pair (Kd.int .i64) (Kd.pair (Kd.int .i64) (Kd.pair (Kd.int .i64) (Kd.pair (Kd.int .i64) (Kd.pair (Kd.int .i64) (Kd.pair (Kd.int .i64) (Kd.pair (Kd.int .i64) Kd.bool))))))) (fun x : S41 => (x.f0, x.f1, x.f2, x.f3, x.f4, x.f5, x.f6, x.f7))
theorem k41_open {w : World} {x : S41} {cs : List Value} (h : k41.K w x cs) : cs = [.int .i64 x.f0, .int .i64 x.f1, .int .i64 x.f2, .int .i64 x.f3, .int .i64 x.f4, .int .i64 x.f5, .int .i64 x.f6, .bool x.f7] := by
 obtain ⟨_, _, rfl, rfl, ⟨_, _, rfl, rfl, ⟨_, _, rfl, rfl, ⟨_, _, rfl, rfl, ⟨_, _, rfl, rfl, ⟨_, _, rfl, rfl, ⟨_, _, rfl, rfl, rfl⟩⟩⟩⟩⟩⟩⟩ := h
 exact rfl
theorem k41_openM {w : World} {base : Nat} {ok : Nat → Prop} {x : S41} {cs : List Value} (h : k41.M w base ok x cs) : cs = [.int .i64 x.f0, .int .i64 x.f1, .int .i64 x.f2, .int .i64 x.f3, .int .i64 x.f4, .int .i64 x.f5, .int .i64 x.f6, .bool x.f7] := by
 obtain ⟨_, _, rfl, rfl, ⟨_, _, rfl, rfl, ⟨_, _, rfl, rfl, ⟨_, _, rfl, rfl, ⟨_, _, rfl, rfl, ⟨_, _, rfl, rfl, ⟨_, _, rfl, rfl, rfl⟩⟩⟩⟩⟩⟩⟩ := h
 exact rfl
theorem k41_mkM (w : World) (base : Nat) (ok : Nat → Prop) (x : S41)  : k41.M w base ok x [.int .i64 x.f0, .int .i64 x.f1, .int .i64 x.f2, .int .i64 x.f3, .int .i64 x.f4, .int .i64 x.f5, .int .i64 x.f6, .bool x.f7] := ⟨[.int .i64 x.f0], [.int .i64 x.f1, .int .i64 x.f2, .int .i64 x.f3, .int .i64 x.f4, .int .i64 x.f5, .int .i64 x.f6, .bool x.f7], rfl, rfl, ⟨[.int .i64 x.f1], [.int .i64 x.f2, .int .i64 x.f3, .int .i64 x.f4, .int .i64 x.f5, .int .i64 x.f6, .bool x.f7], rfl, rfl, ⟨[.int .i64 x.f2], [.int .i64 x.f3, .int .i64 x.f4, .int .i64 x.f5, .int .i64 x.f6, .bool x.f7], rfl, rfl, ⟨[.int .i64 x.f3], [.int .i64 x.f4, .int .i64 x.f5, .int .i64 x.f6, .bool x.f7], rfl, rfl, ⟨[.int .i64 x.f4], [.int .i64 x.f5, .int .i64 x.f6, .bool x.f7], rfl, rfl, ⟨[.int .i64 x.f5], [.int .i64 x.f6, .bool x.f7], rfl, rfl, ⟨[.int .i64 x.f6], [.bool x.f7], rfl, rfl, rfl⟩⟩⟩⟩⟩⟩⟩
def rd_T41 (xs : List S41) (i : Int) : S41 := xs.getD i.toNat z41
theorem at_T41 {w : World} {A : Option Addr} {n : Nat} {xs : List S41} (h : Kd.C k41 w A n xs) (i : Int) (h0 : 0 ≤ i) (h1 : i < n) : ∃ ad , A = some ad ∧ w.cell? (ad.add (i.toNat * 8)) = some (.int .i64 (rd_T41 xs i).f0) ∧ w.cell? ⟨(ad.add (i.toNat * 8)).block, (ad.add (i.toNat * 8)).off + 1, none⟩ = some (.int .i64 (rd_T41 xs i).f1) ∧ w.cell? ⟨(ad.add (i.toNat * 8)).block, (ad.add (i.toNat * 8)).off + 2, none⟩ = some (.int .i64 (rd_T41 xs i).f2) ∧ w.cell? ⟨(ad.add (i.toNat * 8)).block, (ad.add (i.toNat * 8)).off + 3, none⟩ = some (.int .i64 (rd_T41 xs i).f3) ∧ w.cell? ⟨(ad.add (i.toNat * 8)).block, (ad.add (i.toNat * 8)).off + 4, none⟩ = some (.int .i64 (rd_T41 xs i).f4) ∧ w.cell? ⟨(ad.add (i.toNat * 8)).block, (ad.add (i.toNat * 8)).off + 5, none⟩ = some (.int .i64 (rd_T41 xs i).f5) ∧ w.cell? ⟨(ad.add (i.toNat * 8)).block, (ad.add (i.toNat * 8)).off + 6, none⟩ = some (.int .i64 (rd_T41 xs i).f6) ∧ w.cell? ⟨(ad.add (i.toNat * 8)).block, (ad.add (i.toNat * 8)).off + 7, none⟩ = some (.bool (rd_T41 xs i).f7) := by
 obtain ⟨ad, c, e, _, hK, hc0⟩ := Kd.C_get h z41 i h0 h1
 have hc : ∀ j u, c[j]? = some u → w.cell? (ad.add (i.toNat * 8 + j)) = some u := hc0
 obtain rfl := k41_open hK
 exact ⟨ad, e, hc 0 _ rfl, by rw [← add_field _ _ 1 (by omega)]; exact hc 1 _ rfl, by rw [← add_field _ _ 2 (by omega)]; exact hc 2 _ rfl, by rw [← add_field _ _ 3 (by omega)]; exact hc 3 _ rfl, by rw [← add_field _ _ 4 (by omega)]; exact hc 4 _ rfl, by rw [← add_field _ _ 5 (by omega)]; exact hc 5 _ rfl, by rw [← add_field _ _ 6 (by omega)]; exact hc 6 _ rfl, by rw [← add_field _ _ 7 (by omega)]; exact hc 7 _ rfl⟩
structure S51 where
 f0 : Int
 f1 : Int
 f2 : Int
 f3 : Int
 f4 : Int
 f5 : Int
 f6 : Int
 f7 : Int
 f8 : Int
 f9 : Int
 f10 : Int
def z51 : S51 := ⟨(0 : Int), (0 : Int), (0 : Int), (0 : Int), (0 : Int), (0 : Int), (0 : Int), (0 : Int), (0 : Int), (0 : Int), (0 : Int)⟩
def k51 : Kd S51 := Kd.iso (Kd.pair (Kd.int .i64) (Kd.pair (Kd.int .i64) (Kd.pair (Kd.int .i64) (Kd.pair (Kd.int .i64) (Kd.pair (Kd.int .i64) (Kd.pair (Kd.int .i64) (Kd.pair (Kd.int .i64) (Kd.pair (Kd.int .i64) (Kd.pair (Kd.int .i64) (Kd.pair (Kd.int .i64) (Kd.int .i64))))))))))) (fun x : S51 => (x.f0, x.f1, x.f2, x.f3, x.f4, x.f5, x.f6, x.f7, x.f8, x.f9, x.f10))
theorem k51_open {w : World} {x : S51} {cs : List Value} (h : k51.K w x cs) : cs = [.int .i64 x.f0, .int .i64 x.f1, .int .i64 x.f2, .int .i64 x.f3, .int .i64 x.f4, .int .i64 x.f5, .int .i64 x.f6, .int .i64 x.f7, .int .i64 x.f8, .int .i64 x.f9, .int .i64 x.f10] := by
 obtain ⟨_, _, rfl, rfl, ⟨_, _, rfl, rfl, ⟨_, _, rfl, rfl, ⟨_, _, rfl, rfl, ⟨_, _, rfl, rfl, ⟨_, _, rfl, rfl, ⟨_, _, rfl, rfl, ⟨_, _, rfl, rfl, ⟨_, _, rfl, rfl, ⟨_, _, rfl, rfl, rfl⟩⟩⟩⟩⟩⟩⟩⟩⟩⟩ := h
 exact rfl
theorem k51_openM {w : World} {base : Nat} {ok : Nat → Prop} {x : S51} {cs : List Value} (h : k51.M w base ok x cs) : cs = [.int .i64 x.f0, .int .i64 x.f1, .int .i64 x.f2, .int .i64 x.f3, .int .i64 x.f4, .int .i64 x.f5, .int .i64 x.f6, .int .i64 x.f7, .int .i64 x.f8, .int .i64 x.f9, .int .i64 x.f10] := by
 obtain ⟨_, _, rfl, rfl, ⟨_, _, rfl, rfl, ⟨_, _, rfl, rfl, ⟨_, _, rfl, rfl, ⟨_, _, rfl, rfl, ⟨_, _, rfl, rfl, ⟨_, _, rfl, rfl, ⟨_, _, rfl, rfl, ⟨_, _, rfl, rfl, ⟨_, _, rfl, rfl, rfl⟩⟩⟩⟩⟩⟩⟩⟩⟩⟩ := h
 exact rfl
theorem k51_mkM (w : World) (base : Nat) (ok : Nat → Prop) (x : S51)  : k51.M w base ok x [.int .i64 x.f0, .int .i64 x.f1, .int .i64 x.f2, .int .i64 x.f3, .int .i64 x.f4, .int .i64 x.f5, .int .i64 x.f6, .int .i64 x.f7, .int .i64 x.f8, .int .i64 x.f9, .int .i64 x.f10] := ⟨[.int .i64 x.f0], [.int .i64 x.f1, .int .i64 x.f2, .int .i64 x.f3, .int .i64 x.f4, .int .i64 x.f5, .int .i64 x.f6, .int .i64 x.f7, .int .i64 x.f8, .int .i64 x.f9, .int .i64 x.f10], rfl, rfl, ⟨[.int .i64 x.f1], [.int .i64 x.f2, .int .i64 x.f3, .int .i64 x.f4, .int .i64 x.f5, .int .i64 x.f6, .int .i64 x.f7, .int .i64 x.f8, .int .i64 x.f9, .int .i64 x.f10], rfl, rfl, ⟨[.int .i64 x.f2], [.int .i64 x.f3, .int .i64 x.f4, .int .i64 x.f5, .int .i64 x.f6, .int .i64 x.f7, .int .i64 x.f8, .int .i64 x.f9, .int .i64 x.f10], rfl, rfl, ⟨[.int .i64 x.f3], [.int .i64 x.f4, .int .i64 x.f5, .int .i64 x.f6, .int .i64 x.f7, .int .i64 x.f8, .int .i64 x.f9, .int .i64 x.f10], rfl, rfl, ⟨[.int .i64 x.f4], [.int .i64 x.f5, .int .i64 x.f6, .int .i64 x.f7, .int .i64 x.f8, .int .i64 x.f9, .int .i64 x.f10], rfl, rfl, ⟨[.int .i64 x.f5], [.int .i64 x.f6, .int .i64 x.f7, .int .i64 x.f8, .int .i64 x.f9, .int .i64 x.f10], rfl, rfl, ⟨[.int .i64 x.f6], [.int .i64 x.f7, .int .i64 x.f8, .int .i64 x.f9, .int .i64 x.f10], rfl, rfl, ⟨[.int .i64 x.f7], [.int .i64 x.f8, .int .i64 x.f9, .int .i64 x.f10], rfl, rfl, ⟨[.int .i64 x.f8], [.int .i64 x.f9, .int .i64 x.f10], rfl, rfl, ⟨[.int .i64 x.f9], [.int .i64 x.f10], rfl, rfl, rfl⟩⟩⟩⟩⟩⟩⟩⟩⟩⟩
def rd_T51 (xs : List S51) (i : Int) : S51 := xs.getD i.toNat z51
theorem at_T51 {w : World} {A : Option Addr} {n : Nat} {xs : List S51} (h : Kd.C k51 w A n xs) (i : Int) (h0 : 0 ≤ i) (h1 : i < n) : ∃ ad , A = some ad ∧ w.cell? (ad.add (i.toNat * 11)) = some (.int .i64 (rd_T51 xs i).f0) ∧ w.cell? ⟨(ad.add (i.toNat * 11)).block, (ad.add (i.toNat * 11)).off + 1, none⟩ = some (.int .i64 (rd_T51 xs i).f1) ∧ w.cell? ⟨(ad.add (i.toNat * 11)).block, (ad.add (i.toNat * 11)).off + 2, none⟩ = some (.int .i64 (rd_T51 xs i).f2) ∧ w.cell? ⟨(ad.add (i.toNat * 11)).block, (ad.add (i.toNat * 11)).off + 3, none⟩ = some (.int .i64 (rd_T51 xs i).f3) ∧ w.cell? ⟨(ad.add (i.toNat * 11)).block, (ad.add (i.toNat * 11)).off + 4, none⟩ = some (.int .i64 (rd_T51 xs i).f4) ∧ w.cell? ⟨(ad.add (i.toNat * 11)).block, (ad.add (i.toNat * 11)).off + 5, none⟩ = some (.int .i64 (rd_T51 xs i).f5) ∧ w.cell? ⟨(ad.add (i.toNat * 11)).block, (ad.add (i.toNat * 11)).off + 6, none⟩ = some (.int .i64 (rd_T51 xs i).f6) ∧ w.cell? ⟨(ad.add (i.toNat * 11)).block, (ad.add (i.toNat * 11)).off + 7, none⟩ = some (.int .i64 (rd_T51 xs i).f7) ∧ w.cell? ⟨(ad.add (i.toNat * 11)).block, (ad.add (i.toNat * 11)).off + 8, none⟩ = some (.int .i64 (rd_T51 xs i).f8) ∧ w.cell? ⟨(ad.add (i.toNat * 11)).block, (ad.add (i.toNat * 11)).off + 9, none⟩ = some (.int .i64 (rd_T51 xs i).f9) ∧ w.cell? ⟨(ad.add (i.toNat * 11)).block, (ad.add (i.toNat * 11)).off + 10, none⟩ = some (.int .i64 (rd_T51 xs i).f10) := by
 obtain ⟨ad, c, e, _, hK, hc0⟩ := Kd.C_get h z51 i h0 h1
 have hc : ∀ j u, c[j]? = some u → w.cell? (ad.add (i.toNat * 11 + j)) = some u := hc0
 obtain rfl := k51_open hK
 exact ⟨ad, e, hc 0 _ rfl, by rw [← add_field _ _ 1 (by omega)]; exact hc 1 _ rfl, by rw [← add_field _ _ 2 (by omega)]; exact hc 2 _ rfl, by rw [← add_field _ _ 3 (by omega)]; exact hc 3 _ rfl, by rw [← add_field _ _ 4 (by omega)]; exact hc 4 _ rfl, by rw [← add_field _ _ 5 (by omega)]; exact hc 5 _ rfl, by rw [← add_field _ _ 6 (by omega)]; exact hc 6 _ rfl, by rw [← add_field _ _ 7 (by omega)]; exact hc 7 _ rfl, by rw [← add_field _ _ 8 (by omega)]; exact hc 8 _ rfl, by rw [← add_field _ _ 9 (by omega)]; exact hc 9 _ rfl, by rw [← add_field _ _ 10 (by omega)]; exact hc 10 _ rfl⟩
def rd_L5 (xs : List (List S51)) (i : Int) : (List S51) := xs.getD i.toNat ([] : List S51)
theorem at_L5 {w : World} {A : Option Addr} {n : Nat} {xs : List (List S51)} (h : Kd.C (Kd.slice 51 k51) w A n xs) (i : Int) (h0 : 0 ≤ i) (h1 : i < n) : ∃ ad A0 c0, A = some ad ∧ w.cell? (ad.add i.toNat) = some (.slice A0 (rd_L5 xs i).length c0) ∧ (rd_L5 xs i).length ≤ c0 ∧ k51.C w A0 (rd_L5 xs i).length (rd_L5 xs i) := by
 obtain ⟨ad, c, e, _, hK, hc0⟩ := Kd.C_get h ([] : List S51) i h0 h1
 have hc : ∀ j u, c[j]? = some u → w.cell? (ad.add (i.toNat * 1 + j)) = some u := hc0
 obtain ⟨A0, c0, rfl, l0, g0⟩ := hK
 exact ⟨ad, A0, c0, e, by have hq := hc 0 _ rfl; rwa [Nat.mul_one, Nat.add_zero] at hq, l0, g0⟩
structure S49 where
 f0 : Int
 f1 : Int
def z49 : S49 := ⟨(0 : Int), (0 : Int)⟩
def k49 : Kd S49 := Kd.iso (Kd.pair (Kd.int .i64) (Kd.int .i64)) (fun x : S49 => (x.f0, x.f1))
theorem k49_open {w : World} {x : S49} {cs : List Value} (h : k49.K w x cs) : cs = [.int .i64 x.f0, .int .i64 x.f1] := by
 obtain ⟨_, _, rfl, rfl, rfl⟩ := h
 exact rfl
theorem k49_mkM (w : World) (base : Nat) (ok : Nat → Prop) (x : S49)  : k49.M w base ok x [.int .i64 x.f0, .int .i64 x.f1] := ⟨[.int .i64 x.f0], [.int .i64 x.f1], rfl, rfl, rfl⟩
def rd_T49 (xs : List S49) (i : Int) : S49 := xs.getD i.toNat z49
theorem at_T49 {w : World} {A : Option Addr} {n : Nat} {xs : List S49} (h : Kd.C k49 w A n xs) (i : Int) (h0 : 0 ≤ i) (h1 : i < n) : ∃ ad , A = some ad ∧ w.cell? (ad.add (i.toNat * 2)) = some (.int .i64 (rd_T49 xs i).f0) ∧ w.cell? ⟨(ad.add (i.toNat * 2)).block, (ad.add (i.toNat * 2)).off + 1, none⟩ = some (.int .i64 (rd_T49 xs i).f1) := by
 obtain ⟨ad, c, e, _, hK, hc0⟩ := Kd.C_get h z49 i h0 h1
 have hc : ∀ j u, c[j]? = some u → w.cell? (ad.add (i.toNat * 2 + j)) = some u := hc0
 obtain rfl := k49_open hK
 exact ⟨ad, e, hc 0 _ rfl, by rw [← add_field _ _ 1 (by omega)]; exact hc 1 _ rfl⟩
def ref01_PutInt.l0 : Nat → ByteArray → Int → Option (ByteArray)
 | 0, _, _ => none
 | k + 1, x0, x5 => if x5 > 127 then ((some (([Go.bits .or .u8 ((x5) % 256) 128] : List Int) : List Int)).bind fun a2_ => (if x0.size + (strOfNums a2_).size ≤ 9223372036854775807 then (ref01_PutInt.l0 k (x0 ++ (strOfNums a2_)) (x5 / 128)) else (none))) else ((some (([(x5) % 256] : List Int) : List Int)).bind fun a3_ => (if x0.size + (strOfNums a3_).size ≤ 9223372036854775807 then (some (x0 ++ (strOfNums a3_))) else (none)))
def ref01_PutInt.f (k : Nat) (a0 : ByteArray) (a1 : Int) : Option (ByteArray) := ref01_PutInt.l0 k a0 (Go.bits .xor .u64 (IntKind.u64.wrap ((IntKind.u64.wrap (a1)) * 2)) (IntKind.u64.wrap (a1 / 9223372036854775808)))
set_option maxHeartbeats 8000000 in
set_option maxRecDepth 100000 in
theorem ref01_PutInt.calls (k : Nat) (a0 : ByteArray) (a1 : Int) (r : ByteArray) (w : World) (h : ref01_PutInt.f k a0 a1 = some r) :
 Calls Tryd.prog 60 #[.string a0, .int .i64 a1] w fun e w' => e = .returned (.string r) ∧ Below w.heap.size w w' := by
 have HB := As (Below.refl w.heap.size w); have H : (ref01_PutInt.l0 k a0 (Go.bits .xor .u64 (IntKind.u64.wrap ((IntKind.u64.wrap (a1)) * 2)) (IntKind.u64.wrap (a1 / 9223372036854775808)))) = some r := h; clear h; have H' := As H; clear H; go_enter Tryd.func60, Tryd.ntmps60; go_wp2; go_loopg [0, 5] k (fun kq v0 v5 w' => ∃ (a1_ : ByteArray) (a0_ : Int), v0 = .string a1_ ∧ v5 = .int .u64 a0_ ∧ Aside0 (ref01_PutInt.l0 kq a1_ a0_ = some r) ∧ Aside0 (kq ≤ k) ∧ Aside0 (Below w.heap.size w w'))
 case atStart => exact ⟨(a0), (Go.bits .xor .u64 (IntKind.u64.wrap ((IntKind.u64.wrap (a1)) * 2)) (IntKind.u64.wrap (a1 / 9223372036854775808))), (by first | rfl | (simp; done) | (simp [*]; done)), (by first | rfl | (simp; done) | (simp [*]; done)), H', ⟨Nat.le_refl _⟩, ⟨hBq⟩⟩
 case round =>
  clear H'; (try clear p2); obtain ⟨a1_, a0_, rfl, rfl, HA, HK1, HB⟩ := hrel
  cases gk with
  | zero => exact absurd HA.out (by simp [ref01_PutInt.l0])
  | succ k1 =>
   have H := HA.out; clear HA; simp only [ref01_PutInt.l0] at H
   by_cases c3 : a0_ > 127
   ·rw [if_pos c3] at H
    have a7_ : decide (127 < a0_) = true := decide_eq_true c3; clear c3; obtain ⟨a2_, hy206⟩ : ∃ y_ : List Int, y_ = (([Go.bits .or .u8 ((a0_) % 256) 128] : List Int)) := ⟨_, rfl⟩; (replace H : (if a1_.size + (strOfNums a2_).size ≤ 9223372036854775807 then (ref01_PutInt.l0 k1 (a1_ ++ (strOfNums a2_)) (a0_ / 128)) else (none)) = some r := by first | (rw [hy206]; with_reducible exact H) | (have H2_ := (Option.bind_some _ _).symm.trans H; rw [hy206]; with_reducible exact H2_) | (have H2_ := (Option.bind_some _ _).symm.trans H; with_reducible exact H2_) | with_reducible exact H | (rw [hy206]; exact H) | exact H); have Ny206 := As hy206; clear hy206
    by_cases c4 : a1_.size + (strOfNums a2_).size ≤ 9223372036854775807
    ·rw [if_pos c4] at H
     have a9_ := eq_true c4; have b0_ : decide (a1_.size + (strOfNums a2_).size ≤ 9223372036854775807) = true := decide_eq_true c4; (try have b1_ : (9223372036854775807 < a1_.size + (strOfNums a2_).size) = False := eq_false (Nat.not_lt.2 c4)); have H' := As H; clear H
     go_wp2_with (first | ((with_reducible refine gate_dst (N := 19) rfl ?_); refine Kd.R_lit (Kd.int .u8) _ 5 ?hg (N := 19) ?hd (xs := ([Go.bits .or .u8 ((a0_) % 256) 128] : List Int)) (inner := [.int .u8 (Go.bits .or .u8 ((a0_) % 256) 128)]) (ok := fun _ => True) (okp := fun _ => True) ?hr ?hp (fun _ hk => hk) trivial (Below.refl _ _) (Nat.le_refl _) (by simp) ?_; (case hd => rfl); (case hg => rfl); (case hr => first | (go_simp; done) | (go_simp; rfl)); (case hp => exact (Reps.one (show Kd.M (Kd.int .u8) _ _ _ (Go.bits .or .u8 ((a0_) % 256) 128) [.int .u8 (Go.bits .or .u8 ((a0_) % 256) 128)] from rfl) (Reps.none _ _))); intro b2_ w5 ho6 hb hg_ hnew_; clear hg_ hnew_; (first | rw [← Ny206.out] at ho6 | (simp only [Int.reduceToNat] at ho6; rw [← Ny206.out] at ho6)); have a5_ := As (Kd.R_lower ho6 (below_size hBq)); replace HB := sBq hb; clear hb ho6; have b3_ := own_string (P := Tryd.prog) Tryd.underlying110 Tryd.underlying5 Tryd.underlying9 (Kd.own_of_R a5_.out))); go_roundg k1
     case measure => have := HK1.out; omega
     case rel => exact ⟨(a1_ ++ (strOfNums a2_)), (a0_ / 128), (by first | rfl | (simp; done) | (simp [*]; done)), (by first | rfl | (simp; done) | (simp [*]; done)), H', ⟨by have := HK1.out; omega⟩, ⟨hBq⟩⟩
    ·rw [if_neg c4] at H
     exact absurd H (by simp)
   ·rw [if_neg c3] at H
    have a7_ : decide (127 < a0_) = false := decide_eq_false c3; clear c3; obtain ⟨a3_, hy209⟩ : ∃ y_ : List Int, y_ = (([(a0_) % 256] : List Int)) := ⟨_, rfl⟩; (replace H : (if a1_.size + (strOfNums a3_).size ≤ 9223372036854775807 then (some (a1_ ++ (strOfNums a3_))) else (none)) = some r := by first | (rw [hy209]; with_reducible exact H) | (have H2_ := (Option.bind_some _ _).symm.trans H; rw [hy209]; with_reducible exact H2_) | (have H2_ := (Option.bind_some _ _).symm.trans H; with_reducible exact H2_) | with_reducible exact H | (rw [hy209]; exact H) | exact H); have Ny209 := As hy209; clear hy209
    by_cases c8 : a1_.size + (strOfNums a3_).size ≤ 9223372036854775807
    ·rw [if_pos c8] at H
     have b4_ := eq_true c8; have b5_ : decide (a1_.size + (strOfNums a3_).size ≤ 9223372036854775807) = true := decide_eq_true c8; (try have b6_ : (9223372036854775807 < a1_.size + (strOfNums a3_).size) = False := eq_false (Nat.not_lt.2 c8)); obtain rfl := Option.some.inj H; go_wp2_with (first | ((with_reducible refine gate_dst (N := 27) rfl ?_); refine Kd.R_lit (Kd.int .u8) _ 5 ?hg (N := 27) ?hd (xs := ([(a0_) % 256] : List Int)) (inner := [.int .u8 ((a0_) % 256)]) (ok := fun _ => True) (okp := fun _ => True) ?hr ?hp (fun _ hk => hk) trivial (Below.refl _ _) (Nat.le_refl _) (by simp) ?_; (case hd => rfl); (case hg => rfl); (case hr => first | (go_simp; done) | (go_simp; rfl)); (case hp => exact (Reps.one (show Kd.M (Kd.int .u8) _ _ _ ((a0_) % 256) [.int .u8 ((a0_) % 256)] from rfl) (Reps.none _ _))); intro b7_ w9 a4_ hb hg_ hnew_; clear hg_ hnew_; (first | rw [← Ny209.out] at a4_ | (simp only [Int.reduceToNat] at a4_; rw [← Ny209.out] at a4_)); have a6_ := As (Kd.R_lower a4_ (below_size hBq)); replace HB := sBq hb; clear hb a4_; have a8_ := own_string (P := Tryd.prog) Tryd.underlying110 Tryd.underlying5 Tryd.underlying9 (Kd.own_of_R a6_.out))); go_ret
     exact ⟨erq, hBq⟩
    ·rw [if_neg c8] at H
     exact absurd H (by simp)
def lim_holds.f (a0_0 : Int) (a0_1 : Int) (a1 : Int) : Option (Bool) := if a1 ≥ a0_0 then (some (decide (a1 ≤ a0_1))) else (some false)
set_option maxHeartbeats 8000000 in
set_option maxRecDepth 100000 in
theorem lim_holds.calls (a0_0 : Int) (a0_1 : Int) (a1 : Int) (r : Bool) (w : World) (h : lim_holds.f a0_0 a0_1 a1 = some r) :
 Calls Tryd.prog 56 #[.agg #[.int .i64 a0_0, .int .i64 a0_1], .int .i64 a1] w fun e w' => e = .returned (.bool r) ∧ Below w.heap.size w w' := by
 have hu99 := Tryd.underlying99; have HB := As (Below.refl w.heap.size w); have H : (if a1 ≥ a0_0 then (some (decide (a1 ≤ a0_1))) else (some false)) = some r := h; clear h
 by_cases c3 : a1 ≥ a0_0
 ·rw [if_pos c3] at H
  have a4_ : decide (a0_0 ≤ a1) = true := decide_eq_true c3; clear c3; obtain rfl := Option.some.inj H; go_enter Tryd.func56, Tryd.ntmps56; go_wp2_with (first | ((with_reducible refine gate_dst (N := 2) rfl ?_); refine bxE 2 #[a0_0, a0_1] 99 ?_; intro a0_ hg w4 hbox hb; have a1_ := As (hbox); have a2_ := As (by rw [hg]; exact (below_size hBq) : w.heap.size ≤ a0_); replace HB := sBq hb; have a3_ := a2_; clear hb hbox hg; have := cf2 a1_.out)); go_ret; exact ⟨erq, hBq⟩
 ·rw [if_neg c3] at H
  have a4_ : decide (a0_0 ≤ a1) = false := decide_eq_false c3; clear c3; obtain rfl := Option.some.inj H; go_enter Tryd.func56, Tryd.ntmps56; go_wp2_with (first | ((with_reducible refine gate_dst (N := 2) rfl ?_); refine bxE 2 #[a0_0, a0_1] 99 ?_; intro a0_ hg w6 hbox hb; have a1_ := As (hbox); have a2_ := As (by rw [hg]; exact (below_size hBq) : w.heap.size ≤ a0_); replace HB := sBq hb; have a3_ := a2_; clear hb hbox hg; have := cf2 a1_.out)); go_ret; exact ⟨erq, hBq⟩
def make_Few.f (l0 : List Int) : Option (Bool) := some (decide ((l0.length : Int) ≤ 500))
set_option maxHeartbeats 8000000 in
set_option maxRecDepth 100000 in
theorem make_Few.calls (A0 : Option Addr) (c0 : Nat) (l0 : List Int) (r : Bool) (w : World) (hr0 : Kd.C (Kd.int .i64) w A0 l0.length l0) (hc0 : l0.length ≤ c0) (h : make_Few.f l0 = some r) :
 Calls Tryd.prog 10 #[.slice A0 l0.length c0] w fun e w' => e = .returned (.bool r) ∧ Drawn0 w w' := by
 have HR0 := As hr0; have HC0 := As hc0; clear hr0 hc0; have H : (some (decide ((l0.length : Int) ≤ 500))) = some r := h; clear h; obtain rfl := Option.some.inj H; go_enter Tryd.func10, Tryd.ntmps10; go_wp2; go_ret; exact ⟨by first | rfl | (simp; done) | (simp [*]; done), by repeat (first | exact Drawn0.refl _ | apply Drawn0.step)⟩
theorem eqA33 (d : Nat) (w : World) (x0 y0 : Int) (x1 y1 : Int) :
 (Op.equalIn (d + 2) 33 (.agg #[.int .i64 x0, .int .i64 x1]) (.agg #[.int .i64 y0, .int .i64 y1])).run Tryd.prog w = .ok (x0 == y0 && (x1 == y1)) w := by
 refine eqA_of Tryd.underlying33 (by kernel_rfl) ?_
 refine eqf_cons (by rfl) (by go_simp; rfl) (by go_simp; rfl) (by go_simp) ?_
 exact eqf_last (by rfl) (by go_simp; rfl) (by go_simp; rfl) (by go_simp)
def account_Even.f (a0_0 : Int) (a0_1 : Int) : Option (Bool) := if a0_0 ≥ 0 then (if a0_1 ≥ 0 then (if (wrap64 (a0_0 - a0_1)) < 1024 then (some (decide ((wrap64 (a0_1 - a0_0)) < 1024))) else (some false)) else (some false)) else (some false)
set_option maxHeartbeats 8000000 in
set_option maxRecDepth 100000 in
theorem account_Even.calls (a0_0 : Int) (a0_1 : Int) (r : Bool) (w : World) (h : account_Even.f a0_0 a0_1 = some r) :
 Calls Tryd.prog 16 #[.agg #[.int .i64 a0_0, .int .i64 a0_1]] w fun e w' => e = .returned (.bool r) ∧ Below w.heap.size w w' := by
 have hu33 := Tryd.underlying33; have HB := As (Below.refl w.heap.size w); have H : (if a0_0 ≥ 0 then (if a0_1 ≥ 0 then (if (wrap64 (a0_0 - a0_1)) < 1024 then (some (decide ((wrap64 (a0_1 - a0_0)) < 1024))) else (some false)) else (some false)) else (some false)) = some r := h; clear h
 by_cases c2 : a0_0 ≥ 0
 ·rw [if_pos c2] at H
  have a4_ : decide (0 ≤ a0_0) = true := decide_eq_true c2; clear c2
  by_cases c3 : a0_1 ≥ 0
  ·rw [if_pos c3] at H
   have a5_ : decide (0 ≤ a0_1) = true := decide_eq_true c3; clear c3
   by_cases c4 : (wrap64 (a0_0 - a0_1)) < 1024
   ·rw [if_pos c4] at H
    have a6_ : decide ((wrap64 (a0_0 - a0_1)) < 1024) = true := decide_eq_true c4; clear c4; obtain rfl := Option.some.inj H; go_enter Tryd.func16, Tryd.ntmps16; go_wp2_with (first | ((with_reducible refine gate_dst (N := 1) rfl ?_); refine bxE 1 #[a0_0, a0_1] 33 ?_; intro a0_ hg w5 hbox hb; have a1_ := As (hbox); have a2_ := As (by rw [hg]; exact (below_size hBq) : w.heap.size ≤ a0_); replace HB := sBq hb; have a3_ := a2_; clear hb hbox hg; have := cf2 a1_.out)); go_ret; exact ⟨erq, hBq⟩
   ·rw [if_neg c4] at H
    have a6_ : decide ((wrap64 (a0_0 - a0_1)) < 1024) = false := decide_eq_false c4; clear c4; obtain rfl := Option.some.inj H; go_enter Tryd.func16, Tryd.ntmps16; go_wp2_with (first | ((with_reducible refine gate_dst (N := 1) rfl ?_); refine bxE 1 #[a0_0, a0_1] 33 ?_; intro a0_ hg w7 hbox hb; have a1_ := As (hbox); have a2_ := As (by rw [hg]; exact (below_size hBq) : w.heap.size ≤ a0_); replace HB := sBq hb; have a3_ := a2_; clear hb hbox hg; have := cf2 a1_.out)); go_ret; exact ⟨erq, hBq⟩
  ·rw [if_neg c3] at H
   have a5_ : decide (0 ≤ a0_1) = false := decide_eq_false c3; clear c3; obtain rfl := Option.some.inj H; go_enter Tryd.func16, Tryd.ntmps16; go_wp2_with (first | ((with_reducible refine gate_dst (N := 1) rfl ?_); refine bxE 1 #[a0_0, a0_1] 33 ?_; intro a0_ hg w9 hbox hb; have a1_ := As (hbox); have a2_ := As (by rw [hg]; exact (below_size hBq) : w.heap.size ≤ a0_); replace HB := sBq hb; have a3_ := a2_; clear hb hbox hg; have := cf2 a1_.out)); go_ret; exact ⟨erq, hBq⟩
 ·rw [if_neg c2] at H
  have a4_ : decide (0 ≤ a0_0) = false := decide_eq_false c2; clear c2; obtain rfl := Option.some.inj H; go_enter Tryd.func16, Tryd.ntmps16; go_wp2_with (first | ((with_reducible refine gate_dst (N := 1) rfl ?_); refine bxE 1 #[a0_0, a0_1] 33 ?_; intro a0_ hg w11 hbox hb; have a1_ := As (hbox); have a2_ := As (by rw [hg]; exact (below_size hBq) : w.heap.size ≤ a0_); replace HB := sBq hb; have a3_ := a2_; clear hb hbox hg; have := cf2 a1_.out)); go_ret; exact ⟨erq, hBq⟩
def mark_within.f (a0 : Int) : Option (Bool) := if a0 ≥ 1 then (some (decide (a0 < 2147483647))) else (some false)
set_option maxHeartbeats 8000000 in
set_option maxRecDepth 100000 in
theorem mark_within.calls (a0 : Int) (r : Bool) (w : World) (h : mark_within.f a0 = some r) :
 Calls Tryd.prog 68 #[.int .i64 a0] w fun e w' => e = .returned (.bool r) ∧ Drawn0 w w' := by
 have H : (if a0 ≥ 1 then (some (decide (a0 < 2147483647))) else (some false)) = some r := h; clear h
 by_cases c2 : a0 ≥ 1
 ·rw [if_pos c2] at H
  have a0_ : decide (1 ≤ a0) = true := decide_eq_true c2; clear c2; obtain rfl := Option.some.inj H; go_enter Tryd.func68, Tryd.ntmps68; go_wp2; go_ret; exact ⟨by first | rfl | (simp; done) | (simp [*]; done), by repeat (first | exact Drawn0.refl _ | apply Drawn0.step)⟩
 ·rw [if_neg c2] at H
  have a0_ : decide (1 ≤ a0) = false := decide_eq_false c2; clear c2; obtain rfl := Option.some.inj H; go_enter Tryd.func68, Tryd.ntmps68; go_wp2; go_ret; exact ⟨by first | rfl | (simp; done) | (simp [*]; done), by repeat (first | exact Drawn0.refl _ | apply Drawn0.step)⟩
def make_Mod.f (a0 : Int) (a1 : Int) : Option (Int) := if a1 = 0 then (none) else (some (Int.tmod (wrap64 ((Int.tmod a0 a1) + a1)) a1))
set_option maxHeartbeats 8000000 in
set_option maxRecDepth 100000 in
theorem make_Mod.calls (a0 : Int) (a1 : Int) (r : Int) (w : World) (h : make_Mod.f a0 a1 = some r) :
 Calls Tryd.prog 27 #[.int .i64 a0, .int .i64 a1] w fun e w' => e = .returned (.int .i64 r) ∧ Drawn0 w w' := by
 have H : (if a1 = 0 then (none) else (some (Int.tmod (wrap64 ((Int.tmod a0 a1) + a1)) a1))) = some r := h; clear h
 by_cases c3 : a1 = 0
 ·rw [if_pos c3] at H
  exact absurd H (by simp)
 ·rw [if_neg c3] at H
  have a0_ : (a1 == 0) = false := beq_eq_false_iff_ne.mpr c3; have a1_ : (a1 != 0) = true := bne_iff_ne.mpr c3; obtain rfl := Option.some.inj H; go_enter Tryd.func27, Tryd.ntmps27; go_wp2; go_ret; exact ⟨by first | rfl | (simp; done) | (simp [*]; done), by repeat (first | exact Drawn0.refl _ | apply Drawn0.step)⟩
def ref15_lock.f (a0 : Int) : Option (Bool) := if a0 ≥ 1 then (if (Int.tmod a0 3) = 1 then (some (decide ((wrap64 (Int.tdiv a0 3)) < 4294967294))) else (some false)) else (some false)
set_option maxHeartbeats 8000000 in
set_option maxRecDepth 100000 in
theorem ref15_lock.calls (a0 : Int) (r : Bool) (w : World) (h : ref15_lock.f a0 = some r) :
 Calls Tryd.prog 69 #[.int .i64 a0] w fun e w' => e = .returned (.bool r) ∧ Drawn0 w w' := by
 have H : (if a0 ≥ 1 then (if (Int.tmod a0 3) = 1 then (some (decide ((wrap64 (Int.tdiv a0 3)) < 4294967294))) else (some false)) else (some false)) = some r := h; clear h
 by_cases c2 : a0 ≥ 1
 ·rw [if_pos c2] at H
  have a0_ : decide (1 ≤ a0) = true := decide_eq_true c2; clear c2
  by_cases c3 : (Int.tmod a0 3) = 1
  ·rw [if_pos c3] at H
   have a1_ : ((Int.tmod a0 3) == 1) = true := beq_iff_eq.mpr c3; have a2_ : ((Int.tmod a0 3) != 1) = false := bne_eq_false_iff_eq.mpr c3; clear c3; obtain rfl := Option.some.inj H; go_enter Tryd.func69, Tryd.ntmps69; go_wp2; go_ret; exact ⟨by first | rfl | (simp; done) | (simp [*]; done), by repeat (first | exact Drawn0.refl _ | apply Drawn0.step)⟩
  ·rw [if_neg c3] at H
   have a1_ : ((Int.tmod a0 3) == 1) = false := beq_eq_false_iff_ne.mpr c3; have a2_ : ((Int.tmod a0 3) != 1) = true := bne_iff_ne.mpr c3; obtain rfl := Option.some.inj H; go_enter Tryd.func69, Tryd.ntmps69; go_wp2; go_ret; exact ⟨by first | rfl | (simp; done) | (simp [*]; done), by repeat (first | exact Drawn0.refl _ | apply Drawn0.step)⟩
 ·rw [if_neg c2] at H
  have a0_ : decide (1 ≤ a0) = false := decide_eq_false c2; clear c2; obtain rfl := Option.some.inj H; go_enter Tryd.func69, Tryd.ntmps69; go_wp2; go_ret; exact ⟨by first | rfl | (simp; done) | (simp [*]; done), by repeat (first | exact Drawn0.refl _ | apply Drawn0.step)⟩
section
variable {P : Program}
theorem wire_PutInt.wp_bytes {ops : Array Oper} {rest : List Oper} {o : Oper} {a : Act} {W : World} {Q : Exit → Act → World → Prop} (hgd : o.guard = none) (s d : TypeId) (x : Operand) (ho : o.op = .convert s d x) (t : ByteArray) (hx : a.eval x = .string t) (hsz : t.size ≤ 35184372088832)
 (hs : P.underlying s = some .string) (hd : P.underlying d = some (.slice 5)) (he : P.underlying 5 = some (.int .u8))
 (h : ∀ w' v, Wire.BR w' W.heap.size v t.data.toList → Below W.heap.size W w' → wpList P ops Q rest (a.put o.dst v) w') : wpList P ops Q (o :: rest) a W := by
 (refine wpList_plain hgd fun _ hK => ?_); have hr := run_bytes_of_string (P := P) W s d 5 t hs hd he; unfold Oper.wp execOp; simp only [ho, hx, hr, Result.andThen_ok, Sem.run_bind, Sem.run_pure]; have hge := grownCap_ge W t.size 0 5; have e0 : t.data.toList.length = t.size := Array.length_toList ..
 have e1 : (bytesRow t (grownCap W t.size 0 5)).size = grownCap W t.size 0 5 := by
  have : t.data.size = t.size := rfl; unfold bytesRow; rw [Array.size_append, Array.size_map, Array.size_replicate]; omega
 refine hK _ _ (h _ _ ⟨_, _, _, _, W.heap.size, by rw [e0], Nat.le_refl _, heap_alloc_new W.drew _, fun j hj e => by omega, by rw [e0]; exact hge, e1, grownCap_le_maxLen W _ 0 5 (by simp only [maxLen]; omega), ?_⟩ (below_alloc (below_drew1 (Below.refl _ _)) _)); intro j hj; (have hj' : j < t.data.size := by rwa [Array.length_toList] at hj); unfold bytesRow; rw [Array.getElem?_append_left (by simpa using hj')]; simp only [Array.getElem?_map, Array.getElem?_eq_getElem hj', Option.map_some]; rfl
theorem wire_PutInt.wp_text {ops : Array Oper} {rest : List Oper} {o : Oper} {a : Act} {W : World} {Q : Exit → Act → World → Prop} (hgd : o.guard = none) (s d : TypeId) (x : Operand) (ho : o.op = .convert s d x) (base : Nat) (v : Value) (l : List UInt8) (hx : a.eval x = v) (hb : Wire.BR W base v l)
 (hs : P.underlying s = some (.slice 5)) (he : P.underlying 5 = some (.int .u8)) (hd : P.underlying d = some .string)
 (h : wpList P ops Q rest (a.put o.dst (.string ⟨l.toArray⟩)) W) : wpList P ops Q (o :: rest) a W := by
 obtain ⟨g, cap, rfl⟩ := hb.spelt; (refine wpList_plain hgd fun _ hK => ?_); have hr := run_convert_bytes_back (P := P) W s d 5 ⟨g, 0, none⟩ cap l hs he hd (fun j hj => by rw [Addr.add_lit, Nat.zero_add]; exact hb.cell j hj); unfold Oper.wp execOp; simp only [ho, hx, hr, Result.andThen_ok, Sem.run_bind, Sem.run_pure]; exact hK _ _ h
end
def wire_PutInt.f (a0 : ByteArray) (a1 : Int) : Option ByteArray := if a0.size ≤ 35184372088832 then some ⟨(a0.data.toList ++ Wire.grp (Wire.zig a1)).toArray⟩ else none
set_option maxHeartbeats 2000000 in
set_option maxRecDepth 100000 in
theorem wire_PutInt.calls (a0 : ByteArray) (a1 : Int) (r : ByteArray) (w : World) (h : wire_PutInt.f a0 a1 = some r) : Calls Tryd.prog 67 #[.string a0, .int .i64 a1] w fun e w' => e = .returned (.string r) ∧ Below w.heap.size w w' := by
 unfold wire_PutInt.f at h
 split at h
 ·rename_i hsz
  injection h with h; subst h; have HS := As hsz; clear hsz; go_enter Tryd.func67, Tryd.ntmps67; go_wp2_with (first | ((with_reducible refine gate_ (.convert 9 110 (.tmp 5)) rfl ?_); refine wire_PutInt.wp_bytes rfl 9 110 (.tmp 5) rfl a0 rfl HS.out Tryd.underlying9 Tryd.underlying110 Tryd.underlying5 ?_; intro W1 v1 hb1 hbel; have HB1 := As hb1; have HE1 := As hbel; clear hb1 hbel) | (go_at_call 81; refine (Wire.put.calls _ a0.data.toList a1 _ w.heap.size HB1.out HE1.out.size (by rw [Array.length_toList]; exact HS.out)).mono ?_; rintro e W2 ⟨v2, rfl, hb2, hbel2⟩; have HB2 := As hb2; have HE2 := As hbel2; clear hb2 hbel2) | ((with_reducible refine gate_ (.convert 110 9 (.tmp 8)) rfl ?_); refine wire_PutInt.wp_text rfl 110 9 (.tmp 8) rfl w.heap.size _ _ rfl HB2.out Tryd.underlying110 Tryd.underlying5 Tryd.underlying9 ?_)); go_ret; exact ⟨rfl, HE1.out.trans HE2.out⟩
 ·cases h
def IsS69 (w0 W : World) (g : Nat) (f0 : List Int) (f1 : Int) : Prop := ∃ A0 c0, W.heap[g]? = some (.cells #[.slice A0 f0.length c0, .int .i64 f1] 69 (0, 0)) ∧ w0.heap.size ≤ g ∧ Kd.C (Kd.int .i64) w0 A0 f0.length f0
theorem IsS69.grown {w0 W : World} {g : Nat} {f0 : List Int} {f1 : Int} {W1 : World} {row : Option Nat} (h : IsS69 w0 W g f0 f1) (hw : W.grownBy W1 row) (hne : some g ≠ row) : IsS69 w0 W1 g f0 f1 := by
 obtain ⟨A0, c0, hb, hg, hr0⟩ := h; exact ⟨A0, c0, blk_grown hb hw hne, hg, hr0⟩
theorem IsS69.own_neN {w0 W : World} {g : Nat} {f0 : List Int} {f1 : Int} {α : Type} {d : Kd α} {e : Nat} {base : Nat} {ok : Nat → Prop} {v : Value} {xs : List α} (h : IsS69 w0 W g f0 f1) (ho : Kd.N d e W base ok v xs) (ht : e ≠ 69) : some g ≠ v.ownBlock := by
 obtain ⟨A0, c0, hb, hg, hr0⟩ := h; exact Kd.N_ne ho hb ht
theorem IsS69.fresh {w0 W : World} {g : Nat} {f0 : List Int} {f1 : Int} (h : IsS69 w0 W g f0 f1) : ∀ k, W.heap.size ≤ k → k ≠ g := by
 obtain ⟨A0, c0, hb, hg, hr0⟩ := h; exact Kd.freshB hb
theorem IsS69.kept {w0 W : World} {g : Nat} {f0 : List Int} {f1 : Int} {W1 : World} {S : Nat → Prop} (h : IsS69 w0 W g f0 f1) (hk : Kept W W1 S) (hne : ¬ S g) : IsS69 w0 W1 g f0 f1 := by
 obtain ⟨A0, c0, hb, hg, hr0⟩ := h; exact ⟨A0, c0, blk_kept hb hk hne, hg, hr0⟩
theorem IsS69.below {w0 W : World} {g : Nat} {f0 : List Int} {f1 : Int} {W1 : World} (h : IsS69 w0 W g f0 f1) (hw : Below W.heap.size W W1) : IsS69 w0 W1 g f0 f1 := h.grown (grown_of_below hw none) (by simp)
theorem IsS69.alloc {w0 W : World} {g : Nat} {f0 : List Int} {f1 : Int} (h : IsS69 w0 W g f0 f1) (o : Obj) : IsS69 w0 (W.alloc o) g f0 f1 := h.below (below_alloc (Below.refl _ _) o)
theorem IsS69.drewN {w0 W : World} {g : Nat} {f0 : List Int} {f1 : Int} (h : IsS69 w0 W g f0 f1) (m : Nat) : IsS69 w0 (W.drewN m) g f0 f1 := h
theorem IsS69.drew {w0 W : World} {g : Nat} {f0 : List Int} {f1 : Int} (h : IsS69 w0 W g f0 f1) : IsS69 w0 W.drew g f0 f1 := h
theorem IsS69.at_ {w0 W : World} {g : Nat} {f0 : List Int} {f1 : Int} {w' : World} {m : Nat} (hq : W.drewN m = w') (h : IsS69 w0 W g f0 f1) : IsS69 w0 w' g f0 f1 := by subst hq; exact IsS69.drewN h m
theorem IsS69.apart {w0 W : World} {g : Nat} {f0 : List Int} {f1 : Int} {α : Type} {d : Kd α} {e : Nat} {base : Nat} {ok : Nat → Prop} {v : Value} {xs : List α} (h : IsS69 w0 W g f0 f1) (ho : d.R e W base ok v xs) (ht : ∀ q, q ∈ e :: d.E → q ≠ 69) : d.R e W base (fun k => ok k ∧ k ≠ g) v xs := by
 obtain ⟨A0, c0, hb, hg, hr0⟩ := h; exact Kd.R_types ho hb ht
theorem IsS69.own_ne {w0 W : World} {g : Nat} {f0 : List Int} {f1 : Int} {α : Type} {d : Kd α} {e : Nat} {base : Nat} {ok : Nat → Prop} {v : Value} {xs : List α} (h : IsS69 w0 W g f0 f1) (ho : d.R e W base ok v xs) (ht : e ≠ 69) : some g ≠ v.ownBlock := by
 obtain ⟨A0, c0, hb, hg, hr0⟩ := h; exact Kd.R_ne ho hb ht
theorem IsS69.apartQ {w0 W : World} {g : Nat} {f0 : List Int} {f1 : Int} {α : Type} {d : Kd α} {e : Nat} {base : Nat} {ok : Nat → Prop} {v : Value} {xs : List α} (h : IsS69 w0 W g f0 f1) (ho : d.Q e W base ok v xs) (ht : ∀ q, q ∈ e :: d.E → q ≠ 69) : d.Q e W base (fun k => ok k ∧ k ≠ g) v xs := by
 obtain ⟨A0, c0, hb, hg, hr0⟩ := h; exact Kd.Q_types ho hb ht
theorem IsS69.own_neQ {w0 W : World} {g : Nat} {f0 : List Int} {f1 : Int} {α : Type} {d : Kd α} {e : Nat} {base : Nat} {ok : Nat → Prop} {v : Value} {xs : List α} (h : IsS69 w0 W g f0 f1) (ho : d.Q e W base ok v xs) (ht : e ≠ 69) : some g ≠ v.ownBlock := by
 obtain ⟨A0, c0, hb, hg, hr0⟩ := h; exact Kd.Q_ne ho hb ht
theorem IsS69.apartS {w0 W : World} {g : Nat} {f0 : List Int} {f1 : Int} {α : Type} {d : Kd α} {e : Nat} {base : Nat} {ok : Nat → Prop} {v : Value} {xs : List α} (h : IsS69 w0 W g f0 f1) (ho : d.S e W base ok v xs) (ht : ∀ q, q ∈ e :: d.E → q ≠ 69) : d.S e W base (fun k => ok k ∧ k ≠ g) v xs := by
 obtain ⟨A0, c0, hb, hg, hr0⟩ := h; exact Kd.S_types ho hb ht
theorem IsS69.own_neS {w0 W : World} {g : Nat} {f0 : List Int} {f1 : Int} {α : Type} {d : Kd α} {e : Nat} {base : Nat} {ok : Nat → Prop} {v : Value} {xs : List α} (h : IsS69 w0 W g f0 f1) (ho : d.S e W base ok v xs) (ht : e ≠ 69) : some g ≠ v.ownBlock := by
 obtain ⟨A0, c0, hb, hg, hr0⟩ := h; exact Kd.S_ne ho hb ht
theorem IsS69.lt {w0 W : World} {g : Nat} {f0 : List Int} {f1 : Int} (h : IsS69 w0 W g f0 f1) : g < W.heap.size := by
 obtain ⟨A0, c0, hb, hg, hr0⟩ := h; exact blk_lt hb
theorem IsS69.ge {w0 W : World} {g : Nat} {f0 : List Int} {f1 : Int} (h : IsS69 w0 W g f0 f1) : w0.heap.size ≤ g := by
 obtain ⟨A0, c0, hb, hg, hr0⟩ := h; exact hg
theorem IsS69.ne_blk {w0 W : World} {g : Nat} {f0 : List Int} {f1 : Int} {a : Nat} {cs : Array Value} {t : TypeId} {fr : Nat × Nat} (h : IsS69 w0 W g f0 f1) (hb2 : W.heap[a]? = some (.cells cs t fr)) (ht : t ≠ 69) : g ≠ a := by
 obtain ⟨A0, c0, hb, hg, hr0⟩ := h; rintro rfl; rw [hb] at hb2; injection hb2 with hb2; injection hb2 with _ ht2; exact ht ht2.symm
theorem IsS69.far {w0 W : World} {g : Nat} {f0 : List Int} {f1 : Int} {p : Addr} (h : IsS69 w0 W g f0 f1) (hne : g ≠ p.block) (u : Value) : IsS69 w0 (W.setCell p u) g f0 f1 := by
 obtain ⟨A0, c0, hb, hg, hr0⟩ := h; exact ⟨A0, c0, blk_far hb hne u, hg, hr0⟩
theorem cellS69_0 {W : World} {g : Nat} {A0 : Option Addr} {c0 : Nat} {f0 : List Int} {f1 : Int} (h : W.heap[g]? = some (.cells #[.slice A0 f0.length c0, .int .i64 f1] 69 (0, 0))) : W.cell? ⟨g, 0, none⟩ = some (.slice A0 f0.length c0) := (blk_cell h 0).trans rfl
theorem cellS69_1 {W : World} {g : Nat} {A0 : Option Addr} {c0 : Nat} {f0 : List Int} {f1 : Int} (h : W.heap[g]? = some (.cells #[.slice A0 f0.length c0, .int .i64 f1] 69 (0, 0))) : W.cell? ⟨g, 1, none⟩ = some (.int .i64 f1) := (blk_cell h 1).trans rfl
theorem IsS69.set_1 {w0 W : World} {g : Nat} {f0 : List Int} {f1 : Int} (h : IsS69 w0 W g f0 f1) (x : Int) : IsS69 w0 (W.setCell ⟨g, 1, none⟩ (.int .i64 x)) g f0 x := by
 obtain ⟨A0, c0, hb, hg, hr0⟩ := h; exact ⟨A0, c0, by simpa using blk_set hb 1 (.int .i64 x), hg, hr0⟩
theorem IsS69.new (w0 W : World) (A0 : Option Addr) (c0 : Nat) (f0 : List Int) (f1 : Int) (hB : Below w0.heap.size w0 W) (hr0 : Kd.C (Kd.int .i64) w0 A0 f0.length f0) : IsS69 w0 (W.alloc (.cells #[.slice A0 f0.length c0, .int .i64 f1] 69)) W.heap.size f0 f1 := ⟨A0, c0, by simpa using heap_alloc_new W _, hB.size, hr0⟩
def make_New.f (l0 : List Int) : Option (List Int × Int) := some (l0, 0)
set_option maxHeartbeats 8000000 in
set_option maxRecDepth 100000 in
theorem make_New.calls (A0 : Option Addr) (c0 : Nat) (l0 : List Int) (r1 : List Int) (r2 : Int) (w0 w : World) (hB : Below w0.heap.size w0 w) (hr0 : Kd.C (Kd.int .i64) w0 A0 l0.length l0) (hc0 : l0.length ≤ c0) (h : make_New.f l0 = some (r1, r2)) :
 Calls Tryd.prog 11 #[.slice A0 l0.length c0] w fun e w' => ∃ g_ : Nat, e = .returned (.pointer (some ⟨g_, 0, none⟩)) ∧ IsS69 w0 w' g_ r1 r2 ∧ Below w0.heap.size w0 w' ∧ Below w.heap.size w w' := by
 have hu69 := Tryd.underlying69; have HR0 := As hr0; have HC0 := As hc0; clear hr0 hc0; have HBW := As (Below.refl w.heap.size w); have HW0 := As hB.size; have HB := As hB; clear hB; have H : (some (l0, 0)) = some (r1, r2) := h; clear h; simp only [Option.some.injEq, Prod.mk.injEq] at H; obtain ⟨rfl, rfl⟩ := H; go_enter Tryd.func11, Tryd.ntmps11; go_wp2_with (first | ((with_reducible refine gate_dst (N := 5) rfl ?_); refine bxE 5 #[.slice A0 l0.length c0, .int .i64 0] 69 ?_; intro a0_ hg w2 hbox hb; replace HB := sBq hb; have a1_ := As (hbox); (have a2_ := As ((by rw [hg]; exact (below_size (by repeat (first | (with_reducible first | exact HBW.out | apply uA | apply uN | apply uD) | exact HBW.out))) : w.heap.size ≤ a0_))); (have a3_ := As ((Nat.le_trans HW0.out (by rw [hg]; exact (below_size (by repeat (first | (with_reducible first | exact HBW.out | apply uA | apply uN | apply uD) | exact HBW.out))) : w.heap.size ≤ a0_) : w0.heap.size ≤ a0_))); replace HBW := As (below_step HBW.out hb); clear hb hbox hg)); go_ret
 exact ⟨_, rfl, (show IsS69 w0 _ a0_ l0 0 from ⟨_, _, by refine plT ?_; exact a1_.out, a3_.out, HR0.out⟩), hBq, by repeat (first | (with_reducible first | exact HBW.out | apply uA | apply uN | apply uD | refine uS ?_ a2_.out) | exact HBW.out)⟩
def digest_Sum.l0 : Nat → ByteArray → Int → Int → Int → Option (Int)
 | 0, _, _, _, _ => none
 | k + 1, x0, x3, x6, x7 => if x7 < x6 then (if 0 ≤ x7 then (if x7 < (x0.size : Int) then (digest_Sum.l0 k x0 (Int.tmod (wrap64 ((wrap64 ((wrap64 (x3 * 1000003)) + (wrap64 (bt x0 x7)))) + 1)) 2147483647) x6 (wrap64 (x7 + 1))) else (none)) else (none)) else (some x3)
def digest_Sum.f (k : Nat) (a0 : ByteArray) : Option (Int) := digest_Sum.l0 k a0 1 (a0.size : Int) 0
set_option maxHeartbeats 8000000 in
set_option maxRecDepth 100000 in
theorem digest_Sum.calls (k : Nat) (a0 : ByteArray) (r : Int) (w : World) (h : digest_Sum.f k a0 = some r) :
 Calls Tryd.prog 57 #[.string a0] w fun e w' => e = .returned (.int .i64 r) ∧ Drawn0 w w' := by
 have H : (digest_Sum.l0 k a0 1 (a0.size : Int) 0) = some r := h; clear h; have H' := As H; clear H; go_enter Tryd.func57, Tryd.ntmps57; go_wp2; go_loopg [3, 7] k (fun kq v3 v7 w' => ∃ (a1_ : Int) (a0_ : Int), v3 = .int .i64 a1_ ∧ v7 = .int .i64 a0_ ∧ Aside0 (digest_Sum.l0 kq a0 a1_ (a0.size : Int) a0_ = some r) ∧ Aside0 (kq ≤ k) ∧ Drawn0 w w')
 case atStart => exact ⟨(1), (0), (by first | rfl | (simp; done) | (simp [*]; done)), (by first | rfl | (simp; done) | (simp [*]; done)), H', ⟨Nat.le_refl _⟩, by repeat (first | exact Drawn0.refl _ | apply Drawn0.step)⟩
 case round =>
  clear H'; obtain ⟨a1_, a0_, rfl, rfl, HA, HK1, ⟨m1, rfl⟩⟩ := hrel
  cases gk with
  | zero => exact absurd HA.out (by simp [digest_Sum.l0])
  | succ k1 =>
   have H := HA.out; clear HA; simp only [digest_Sum.l0] at H
   by_cases c2 : a0_ < (a0.size : Int)
   ·rw [if_pos c2] at H
    have a2_ : decide (a0_ < (a0.size : Int)) = true := decide_eq_true c2; clear c2
    by_cases c3 : 0 ≤ a0_
    ·rw [if_pos c3] at H
     have a3_ : decide (0 ≤ a0_) = true := decide_eq_true c3; clear c3
     by_cases c4 : a0_ < (a0.size : Int)
     ·rw [if_pos c4] at H
      have a4_ : decide (a0_ < (a0.size : Int)) = true := decide_eq_true c4; clear c4; have H' := As H; clear H; have p5 : 0 ≤ (a0_ : Int) := dq; have q5 : a0_ < (a0.size : Int) := dq; have hx5 := bt_at a0 a0_; replace p5 := eq_true p5; replace q5 := eq_true q5; go_wp2; go_roundg k1
      case measure => have := HK1.out; omega
      case rel => exact ⟨(Int.tmod (wrap64 ((wrap64 ((wrap64 (a1_ * 1000003)) + (wrap64 (bt a0 a0_)))) + 1)) 2147483647), (wrap64 (a0_ + 1)), (by first | rfl | (simp; done) | (simp [*]; done)), (by first | rfl | (simp; done) | (simp [*]; done)), H', ⟨by have := HK1.out; omega⟩, by repeat (first | exact Drawn0.refl _ | apply Drawn0.step)⟩
     ·rw [if_neg c4] at H
      exact absurd H (by simp)
    ·rw [if_neg c3] at H
     exact absurd H (by simp)
   ·rw [if_neg c2] at H
    have a2_ : decide (a0_ < (a0.size : Int)) = false := decide_eq_false c2; clear c2; obtain rfl := Option.some.inj H; go_wp2; go_ret; exact ⟨by first | rfl | (simp; done) | (simp [*]; done), by repeat (first | exact Drawn0.refl _ | apply Drawn0.step)⟩
def ref02_Sum.l0 : Nat → ByteArray → Int → Int → Option (Int)
 | 0, _, _, _ => none
 | k + 1, x0, x3, x4 => if x4 < (x0.size : Int) then (if 0 ≤ x4 then (ref02_Sum.l0 k x0 (Int.tmod (wrap64 ((wrap64 ((wrap64 (x3 * 1000003)) + (wrap64 (bt x0 x4)))) + 1)) 2147483647) (wrap64 (x4 + 1))) else (none)) else (some x3)
def ref02_Sum.f (k : Nat) (a0 : ByteArray) : Option (Int) := ref02_Sum.l0 k a0 1 0
set_option maxHeartbeats 8000000 in
set_option maxRecDepth 100000 in
theorem ref02_Sum.calls (k : Nat) (a0 : ByteArray) (r : Int) (w : World) (h : ref02_Sum.f k a0 = some r) :
 Calls Tryd.prog 44 #[.string a0] w fun e w' => e = .returned (.int .i64 r) ∧ Drawn0 w w' := by
 have H : (ref02_Sum.l0 k a0 1 0) = some r := h; clear h; have H' := As H; clear H; go_enter Tryd.func44, Tryd.ntmps44; go_wp2; go_loopg [3, 4] k (fun kq v3 v4 w' => ∃ (a1_ : Int) (a0_ : Int), v3 = .int .i64 a1_ ∧ v4 = .int .i64 a0_ ∧ Aside0 (ref02_Sum.l0 kq a0 a1_ a0_ = some r) ∧ Aside0 (kq ≤ k) ∧ Drawn0 w w')
 case atStart => exact ⟨(1), (0), (by first | rfl | (simp; done) | (simp [*]; done)), (by first | rfl | (simp; done) | (simp [*]; done)), H', ⟨Nat.le_refl _⟩, by repeat (first | exact Drawn0.refl _ | apply Drawn0.step)⟩
 case round =>
  clear H'; obtain ⟨a1_, a0_, rfl, rfl, HA, HK1, ⟨m1, rfl⟩⟩ := hrel
  cases gk with
  | zero => exact absurd HA.out (by simp [ref02_Sum.l0])
  | succ k1 =>
   have H := HA.out; clear HA; simp only [ref02_Sum.l0] at H
   by_cases c2 : a0_ < (a0.size : Int)
   ·rw [if_pos c2] at H
    have a2_ : decide (a0_ < (a0.size : Int)) = true := decide_eq_true c2; clear c2
    by_cases c3 : 0 ≤ a0_
    ·rw [if_pos c3] at H
     have a3_ : decide (0 ≤ a0_) = true := decide_eq_true c3; clear c3; have H' := As H; clear H; have p4 : 0 ≤ (a0_ : Int) := dq; have q4 : a0_ < (a0.size : Int) := dq; have hx4 := bt_at a0 a0_; replace p4 := eq_true p4; replace q4 := eq_true q4; go_wp2; go_roundg k1
     case measure => have := HK1.out; omega
     case rel => exact ⟨(Int.tmod (wrap64 ((wrap64 ((wrap64 (a1_ * 1000003)) + (wrap64 (bt a0 a0_)))) + 1)) 2147483647), (wrap64 (a0_ + 1)), (by first | rfl | (simp; done) | (simp [*]; done)), (by first | rfl | (simp; done) | (simp [*]; done)), H', ⟨by have := HK1.out; omega⟩, by repeat (first | exact Drawn0.refl _ | apply Drawn0.step)⟩
    ·rw [if_neg c3] at H
     exact absurd H (by simp)
   ·rw [if_neg c2] at H
    have a2_ : decide (a0_ < (a0.size : Int)) = false := decide_eq_false c2; clear c2; obtain rfl := Option.some.inj H; go_wp2; go_ret; exact ⟨by first | rfl | (simp; done) | (simp [*]; done), by repeat (first | exact Drawn0.refl _ | apply Drawn0.step)⟩
def make_Deck_Next.f (s0_0 : List Int) (s0_1 : Int) (a1 : Int) : Option (Int × Int) := if a1 < 1 then (some (0, s0_1)) else (if s0_1 ≥ (s0_0.length : Int) then (some (0, s0_1)) else (if 0 ≤ s0_1 then (if s0_1 < (s0_0.length : Int) then ((make_Mod.f (rd s0_0 s0_1) a1).bind fun a0_ => (some (a0_, wrap64 (s0_1 + 1)))) else (none)) else (none)))
theorem make_Deck_Next.iq0F {w0 W : World} {g h j : Nat} {f0 : List Int} {f1 : Int} (h0 : IsS69 w0 W g f0 f1) (hne : Aside0 (g ≠ h)) (u : Value) : IsS69 w0 (W.setCell ⟨h, j, none⟩ u) g f0 f1 := IsS69.far h0 hne.out u
theorem make_Deck_Next.iq0 {w0 W : World} {g : Nat} {f0 : List Int} {f1 : Int} (h : IsS69 w0 W g f0 f1 := by repeat (first | (with_reducible first | exact HI0.out | apply IsS69.alloc | apply IsS69.drewN | apply IsS69.drew | apply IsS69.set_1 | refine make_Deck_Next.iq0F ?_ ‹_› _) | exact HI0.out)) : IsS69 w0 W g f0 f1 := h
theorem make_Deck_Next.bq0 {w W : World} (h : Below w.heap.size w W := by repeat (first | (with_reducible first | exact HB.out | apply uA | apply uN | apply uD | refine uS ?_ (IsS69.ge HI0.out) | refine uS2 ?_ ‹_›) | exact HB.out)) : Below w.heap.size w W := h
set_option maxHeartbeats 8000000 in
set_option maxRecDepth 100000 in
theorem make_Deck_Next.calls (g : Nat) (s0_0 : List Int) (s0_1 : Int) (a1 : Int) (r1 : Int) (r2 : Int) (w0 w : World) (hI : IsS69 w0 w g s0_0 s0_1) (hB : Below w0.heap.size w0 w) (h : make_Deck_Next.f s0_0 s0_1 a1 = some (r1, r2)) :
 Calls Tryd.prog 23 #[.pointer (some ⟨g, 0, none⟩), .int .i64 a1] w fun e w' => e = .returned (.int .i64 r1) ∧ IsS69 w0 w' g s0_0 r2 ∧ Below w0.heap.size w0 w' ∧ KeepBut w w' g none := by
 have HI0 := As hI; have HK := As (KeepBut.refl w g none); have HL := As hB.size; clear hI; have HW0 := As hB.size; have HB := As hB; clear hB; have H : (if a1 < 1 then (some (0, s0_1)) else (if s0_1 ≥ (s0_0.length : Int) then (some (0, s0_1)) else (if 0 ≤ s0_1 then (if s0_1 < (s0_0.length : Int) then ((make_Mod.f (rd s0_0 s0_1) a1).bind fun a0_ => (some (a0_, wrap64 (s0_1 + 1)))) else (none)) else (none)))) = some (r1, r2) := h; clear h
 by_cases c3 : a1 < 1
 ·rw [if_pos c3] at H
  have a4_ : decide (a1 < 1) = true := decide_eq_true c3; clear c3; simp only [Option.some.injEq, Prod.mk.injEq] at H; obtain ⟨rfl, rfl⟩ := H; go_enter Tryd.func23, Tryd.ntmps23; go_wp2; (repeat (go_quiet (fail); try go_wp2)); go_ret; exact ⟨erq, make_Deck_Next.iq0, make_Deck_Next.bq0, hKq⟩
 ·rw [if_neg c3] at H
  have a4_ : decide (a1 < 1) = false := decide_eq_false c3; clear c3
  by_cases c4 : s0_1 ≥ (s0_0.length : Int)
  ·rw [if_pos c4] at H
   have a5_ : decide ((s0_0.length : Int) ≤ s0_1) = true := decide_eq_true c4; clear c4; simp only [Option.some.injEq, Prod.mk.injEq] at H; obtain ⟨rfl, rfl⟩ := H; obtain ⟨ASz5_0, cSz5_0, HGz5, hgz5, HSz5_0⟩ := HI0.out; have a7_ := cellS69_0 HGz5; have a8_ := cellS69_1 HGz5; have a9_ := blk_frozen HGz5 1; clear HGz5 hgz5; go_enter Tryd.func23, Tryd.ntmps23; go_wp2; (repeat (go_quiet (fail); try go_wp2)); go_ret; exact ⟨erq, make_Deck_Next.iq0, make_Deck_Next.bq0, hKq⟩
  ·rw [if_neg c4] at H
   have a5_ : decide ((s0_0.length : Int) ≤ s0_1) = false := decide_eq_false c4; clear c4
   by_cases c6 : 0 ≤ s0_1
   ·rw [if_pos c6] at H
    have b4_ : decide (0 ≤ s0_1) = true := decide_eq_true c6; clear c6
    by_cases c7 : s0_1 < (s0_0.length : Int)
    ·rw [if_pos c7] at H
     have b5_ : decide (s0_1 < (s0_0.length : Int)) = true := decide_eq_true c7; clear c7; obtain ⟨a0_, A8, H⟩ := bnd H; (try dsimp only at H); simp only [Option.some.injEq, Prod.mk.injEq] at H; obtain ⟨rfl, rfl⟩ := H; obtain ⟨ASz9_0, cSz9_0, HGz9, hgz9, HSz9_0⟩ := HI0.out; have b0_ := cellS69_0 HGz9; have b1_ := cellS69_1 HGz9; have b2_ := blk_frozen HGz9 1; clear HGz9 hgz9; have a2_ : 0 ≤ (s0_1 : Int) := dq; have a3_ : s0_1 < (s0_0.length : Int) := dq; obtain ⟨b3_, a6_, a1_⟩ := Kd.at_int HSz9_0 s0_1 a2_ a3_; cases a6_; replace a1_ := pw_cell_below HB.out a1_; replace a2_ := eq_true a2_; replace a3_ := eq_true a3_; go_enter Tryd.func23, Tryd.ntmps23; go_wp2_with (first | (go_at_call 27; (with_reducible refine (make_Mod.calls (rd s0_0 s0_1) a1 a0_ _ A8.out).mono ?_); rintro e w' ⟨rfl, ⟨nd, rfl⟩⟩; (try first | exact ⟨rfl, _, World.drewN_drewN _ _ _⟩ | exact ⟨rfl, _, Eq.trans (World.drewN_drewN _ _ _) (congrArg (World.drewN _) (Nat.add_assoc _ _ _))⟩)))
     (repeat (go_quiet (first | (go_at_call 27; (with_reducible refine (make_Mod.calls (rd s0_0 s0_1) a1 a0_ _ A8.out).mono ?_); rintro e w' ⟨rfl, ⟨nd, rfl⟩⟩; (try first | exact ⟨rfl, _, World.drewN_drewN _ _ _⟩ | exact ⟨rfl, _, Eq.trans (World.drewN_drewN _ _ _) (congrArg (World.drewN _) (Nat.add_assoc _ _ _))⟩))); try go_wp2_with (first | (go_at_call 27; (with_reducible refine (make_Mod.calls (rd s0_0 s0_1) a1 a0_ _ A8.out).mono ?_); rintro e w' ⟨rfl, ⟨nd, rfl⟩⟩; (try first | exact ⟨rfl, _, World.drewN_drewN _ _ _⟩ | exact ⟨rfl, _, Eq.trans (World.drewN_drewN _ _ _) (congrArg (World.drewN _) (Nat.add_assoc _ _ _))⟩))))); go_ret; exact ⟨erq, make_Deck_Next.iq0, make_Deck_Next.bq0, hKq⟩
    ·rw [if_neg c7] at H
     exact absurd H (by simp)
   ·rw [if_neg c6] at H
    exact absurd H (by simp)
def lease_slotted.f (a0_0 : Int) (a0_1 : Int) (a0_2 : Int) (a0_3 : Int) (a0_4 : Int) (a0_5 : Int) (a0_6 : Int) (a0_7 : Int) (a0_8 : Int) (a0_9 : Int) (a0_10 : Int) : Option (Bool) := if a0_5 ≥ 1 then (some (decide (a0_5 ≤ 5))) else (some false)
set_option maxHeartbeats 8000000 in
set_option maxRecDepth 100000 in
theorem lease_slotted.calls (a0_0 : Int) (a0_1 : Int) (a0_2 : Int) (a0_3 : Int) (a0_4 : Int) (a0_5 : Int) (a0_6 : Int) (a0_7 : Int) (a0_8 : Int) (a0_9 : Int) (a0_10 : Int) (r : Bool) (w : World) (h : lease_slotted.f a0_0 a0_1 a0_2 a0_3 a0_4 a0_5 a0_6 a0_7 a0_8 a0_9 a0_10 = some r) :
 Calls Tryd.prog 54 #[.agg #[.int .i64 a0_0, .int .i64 a0_1, .int .i64 a0_2, .int .i64 a0_3, .int .i64 a0_4, .int .i64 a0_5, .int .i64 a0_6, .int .i64 a0_7, .int .i64 a0_8, .int .i64 a0_9, .int .i64 a0_10]] w fun e w' => e = .returned (.bool r) ∧ Below w.heap.size w w' := by
 have hu51 := Tryd.underlying51; have HB := As (Below.refl w.heap.size w); have H : (if a0_5 ≥ 1 then (some (decide (a0_5 ≤ 5))) else (some false)) = some r := h; clear h
 by_cases c2 : a0_5 ≥ 1
 ·rw [if_pos c2] at H
  have a4_ : decide (1 ≤ a0_5) = true := decide_eq_true c2; clear c2; obtain rfl := Option.some.inj H; go_enter Tryd.func54, Tryd.ntmps54
  go_wp2_with (first | ((with_reducible refine gate_dst (N := 1) rfl ?_); refine bxE 1 #[a0_0, a0_1, a0_2, a0_3, a0_4, a0_5, a0_6, a0_7, a0_8, a0_9, a0_10] 51 ?_; intro a0_ hg w3 hbox hb; have a1_ := As (hbox); have a2_ := As (by rw [hg]; exact (below_size hBq) : w.heap.size ≤ a0_); replace HB := sBq hb; have a3_ := a2_; clear hb hbox hg; have := cf11 a1_.out))
  go_ret; exact ⟨erq, hBq⟩
 ·rw [if_neg c2] at H
  have a4_ : decide (1 ≤ a0_5) = false := decide_eq_false c2; clear c2; obtain rfl := Option.some.inj H; go_enter Tryd.func54, Tryd.ntmps54
  go_wp2_with (first | ((with_reducible refine gate_dst (N := 1) rfl ?_); refine bxE 1 #[a0_0, a0_1, a0_2, a0_3, a0_4, a0_5, a0_6, a0_7, a0_8, a0_9, a0_10] 51 ?_; intro a0_ hg w5 hbox hb; have a1_ := As (hbox); have a2_ := As (by rw [hg]; exact (below_size hBq) : w.heap.size ≤ a0_); replace HB := sBq hb; have a3_ := a2_; clear hb hbox hg; have := cf11 a1_.out))
  go_ret; exact ⟨erq, hBq⟩
def ref14_number.f (a0 : Int) : Option (Bool) := if a0 ≥ 1 then (some (decide (a0 < 2147483647))) else (some false)
set_option maxHeartbeats 8000000 in
set_option maxRecDepth 100000 in
theorem ref14_number.calls (a0 : Int) (r : Bool) (w : World) (h : ref14_number.f a0 = some r) :
 Calls Tryd.prog 61 #[.int .i64 a0] w fun e w' => e = .returned (.bool r) ∧ Drawn0 w w' := by
 have H : (if a0 ≥ 1 then (some (decide (a0 < 2147483647))) else (some false)) = some r := h; clear h
 by_cases c2 : a0 ≥ 1
 ·rw [if_pos c2] at H
  have a0_ : decide (1 ≤ a0) = true := decide_eq_true c2; clear c2; obtain rfl := Option.some.inj H; go_enter Tryd.func61, Tryd.ntmps61; go_wp2; go_ret; exact ⟨by first | rfl | (simp; done) | (simp [*]; done), by repeat (first | exact Drawn0.refl _ | apply Drawn0.step)⟩
 ·rw [if_neg c2] at H
  have a0_ : decide (1 ≤ a0) = false := decide_eq_false c2; clear c2; obtain rfl := Option.some.inj H; go_enter Tryd.func61, Tryd.ntmps61; go_wp2; go_ret; exact ⟨by first | rfl | (simp; done) | (simp [*]; done), by repeat (first | exact Drawn0.refl _ | apply Drawn0.step)⟩
def ref15_in.f (a0 : Int) (a1 : Int) (a2 : Int) : Option (Bool) := if a0 ≥ a1 then (some (decide (a0 ≤ a2))) else (some false)
set_option maxHeartbeats 8000000 in
set_option maxRecDepth 100000 in
theorem ref15_in.calls (a0 : Int) (a1 : Int) (a2 : Int) (r : Bool) (w : World) (h : ref15_in.f a0 a1 a2 = some r) :
 Calls Tryd.prog 43 #[.int .i64 a0, .int .i64 a1, .int .i64 a2] w fun e w' => e = .returned (.bool r) ∧ Drawn0 w w' := by
 have H : (if a0 ≥ a1 then (some (decide (a0 ≤ a2))) else (some false)) = some r := h; clear h
 by_cases c4 : a0 ≥ a1
 ·rw [if_pos c4] at H
  have a0_ : decide (a1 ≤ a0) = true := decide_eq_true c4; clear c4; obtain rfl := Option.some.inj H; go_enter Tryd.func43, Tryd.ntmps43; go_wp2; go_ret; exact ⟨by first | rfl | (simp; done) | (simp [*]; done), by repeat (first | exact Drawn0.refl _ | apply Drawn0.step)⟩
 ·rw [if_neg c4] at H
  have a0_ : decide (a1 ≤ a0) = false := decide_eq_false c4; clear c4; obtain rfl := Option.some.inj H; go_enter Tryd.func43, Tryd.ntmps43; go_wp2; go_ret; exact ⟨by first | rfl | (simp; done) | (simp [*]; done), by repeat (first | exact Drawn0.refl _ | apply Drawn0.step)⟩
def ref14_Sign.f (k : Nat) (a0 : Int) (a1 : ByteArray) : Option (Int × Int) := (ref14_number.f a0).bind fun a1_ => (if a1_ = true then (if (a1.size : Int) > 16384 then (some (0, 4)) else ((ref01_PutInt.f k (⟨#[]⟩ : ByteArray) a0).bind fun a0_ => (if a0_.size + a1.size ≤ 9223372036854775807 then ((ref02_Sum.f k (a0_ ++ a1)).bind fun a2_ => (some (a2_, 0))) else (none)))) else (some (0, 1)))
set_option maxHeartbeats 8000000 in
set_option maxRecDepth 100000 in
theorem ref14_Sign.calls (k : Nat) (a0 : Int) (a1 : ByteArray) (r1 : Int) (r2 : Int) (w : World) (h : ref14_Sign.f k a0 a1 = some (r1, r2)) :
 Calls Tryd.prog 46 #[.int .i64 a0, .string a1] w fun e w' => e = .returned (.tuple #[.int .i64 r1, .int .i64 r2]) ∧ Below w.heap.size w w' := by
 have HB := As (Below.refl w.heap.size w); have H : ((ref14_number.f a0).bind fun a1_ => (if a1_ = true then (if (a1.size : Int) > 16384 then (some (0, 4)) else ((ref01_PutInt.f k (⟨#[]⟩ : ByteArray) a0).bind fun a0_ => (if a0_.size + a1.size ≤ 9223372036854775807 then ((ref02_Sum.f k (a0_ ++ a1)).bind fun a2_ => (some (a2_, 0))) else (none)))) else (some (0, 1)))) = some (r1, r2) := h; clear h; obtain ⟨a1_, A3, H⟩ := bnd H; (try dsimp only at H)
 by_cases c4 : a1_ = true
 ·subst c4
  rw [if_pos rfl] at H
  by_cases c5 : (a1.size : Int) > 16384
  ·rw [if_pos c5] at H
   have a3_ : decide (16384 < (a1.size : Int)) = true := decide_eq_true c5; have a4_ : decide (16384 < a1.size) = true := decide_eq_true (by omega); clear c5; simp only [Option.some.injEq, Prod.mk.injEq] at H; obtain ⟨rfl, rfl⟩ := H; go_enter Tryd.func46, Tryd.ntmps46; go_wp2_with (first | ((with_reducible refine gate_callee (f := 61) rfl ?_); refine gL (some 7) Tryd.func61 #[a0] ?_; (with_reducible refine (ref14_number.calls a0 true _ A3.out).mono ?_); rintro e w' ⟨rfl, ⟨nd, rfl⟩⟩; refine ⟨_, rfl, ?_⟩)); go_ret2; exact ⟨erq, hBq⟩
  ·rw [if_neg c5] at H
   have a3_ : decide (16384 < (a1.size : Int)) = false := decide_eq_false c5; have a4_ : decide (16384 < a1.size) = false := decide_eq_false (by omega); clear c5; obtain ⟨a0_, A6, H⟩ := bnd H; (try dsimp only at H)
   by_cases c7 : a0_.size + a1.size ≤ 9223372036854775807
   ·rw [if_pos c7] at H
    have a5_ := eq_true c7; have a6_ : decide (a0_.size + a1.size ≤ 9223372036854775807) = true := decide_eq_true c7; (try have a7_ : (9223372036854775807 < a0_.size + a1.size) = False := eq_false (Nat.not_lt.2 c7)); obtain ⟨a2_, A8, H⟩ := bnd H; (try dsimp only at H); simp only [Option.some.injEq, Prod.mk.injEq] at H; obtain ⟨rfl, rfl⟩ := H; go_enter Tryd.func46, Tryd.ntmps46
    go_wp2_with (first | ((with_reducible refine gate_callee (f := 61) rfl ?_); refine gL (some 7) Tryd.func61 #[a0] ?_; (with_reducible refine (ref14_number.calls a0 true _ A3.out).mono ?_); rintro e w' ⟨rfl, ⟨nd, rfl⟩⟩; refine ⟨_, rfl, ?_⟩) | ((with_reducible refine gate_callee (f := 60) rfl ?_); refine gL (some 13) Tryd.func60 #[.string (⟨#[]⟩ : ByteArray), a0] ?_; (with_reducible refine (ref01_PutInt.calls k (⟨#[]⟩ : ByteArray) a0 a0_ _ A6.out).mono ?_); rintro e w9 ⟨rfl, hb⟩; refine ⟨_, rfl, ?_⟩; replace HB := sBq hb; (try clear hb)) | ((with_reducible refine gate_callee (f := 44) rfl ?_); refine gL (some 16) Tryd.func44 #[.string (a0_ ++ a1)] ?_; (with_reducible refine (ref02_Sum.calls k (a0_ ++ a1) a2_ _ A8.out).mono ?_); rintro e w' ⟨rfl, ⟨nd, rfl⟩⟩; refine ⟨_, rfl, ?_⟩))
    go_ret2; exact ⟨erq, hBq⟩
   ·rw [if_neg c7] at H
    exact absurd H (by simp)
 ·replace c4 := Bool.eq_false_iff.mpr c4
  subst c4; rw [if_neg nft] at H; simp only [Option.some.injEq, Prod.mk.injEq] at H; obtain ⟨rfl, rfl⟩ := H; go_enter Tryd.func46, Tryd.ntmps46; go_wp2_with (first | ((with_reducible refine gate_callee (f := 61) rfl ?_); refine gL (some 7) Tryd.func61 #[a0] ?_; (with_reducible refine (ref14_number.calls a0 false _ A3.out).mono ?_); rintro e w' ⟨rfl, ⟨nd, rfl⟩⟩; refine ⟨_, rfl, ?_⟩)); go_ret2; exact ⟨erq, hBq⟩
section
attribute [local go_sem ↓] some_setCell
structure Fm where
 a0 : Int
 a1 : Int
 b0 : Int
 b1 : Int
 c0 : Int
 c1 : Int
 d0 : Int
 d1 : Int
 ct : Bool
 lk : Bool
def Fm.enc (f : Fm) : List Value := [.int .i64 f.a0, .int .i64 f.a1, .int .i64 f.b0, .int .i64 f.b1, .int .i64 f.c0, .int .i64 f.c1, .int .i64 f.d0, .int .i64 f.d1, .bool f.ct, .bool f.lk]
theorem Fm.len (f : Fm) : f.enc.length = 10 := rfl
def formList : List Fm := [⟨0, 0, 0, 0, 0, 0, 0, 0, false, false⟩, ⟨0, 63, 0, 2147483646, 1, 1024, 1, 65536, true, false⟩, ⟨0, 63, 0, 0, 0, 0, 1, 65536, true, false⟩, ⟨0, 63, 0, 0, 0, 0, 0, 0, false, false⟩, ⟨0, 63, 0, 2147483646, 1, 1024, 0, 0, false, false⟩, ⟨0, 63, 0, 0, 0, 0, 0, 0, false, false⟩, ⟨0, 2147483646, 0, 2147483646, 0, 256, 0, 0, false, false⟩, ⟨0, 2147483646, 0, 2147483646, 1, 1024, 0, 4294967293, false, true⟩, ⟨0, 2147483646, 0, 4294967293, 0, 0, 0, 0, false, false⟩]
def formOf (k : Int) : Fm := formList.getD k.toNat ⟨0, 0, 0, 0, 0, 0, 0, 0, false, false⟩
structure GW (W : World) : Prop where
 person : ∀ j v, ([.int .i64 1, .int .i64 2147483646] : List Value)[j]? = some v → W.cell? ⟨0, j, none⟩ = some v
 number : ∀ j v, ([.int .i64 0, .int .i64 2147483646] : List Value)[j]? = some v → W.cell? ⟨1, j, none⟩ = some v
 forms : ∀ j v, (flat Fm.enc formList)[j]? = some v → W.cell? ⟨2, j, none⟩ = some v
theorem GW.four {W : World} (h : GW W) : W.cell? ⟨0, 0, none⟩ = some (.int .i64 1) ∧ W.cell? ⟨0, 1, none⟩ = some (.int .i64 2147483646) ∧ W.cell? ⟨1, 0, none⟩ = some (.int .i64 0) ∧ W.cell? ⟨1, 1, none⟩ = some (.int .i64 2147483646) := ⟨h.person 0 _ rfl, h.person 1 _ rfl, h.number 0 _ rfl, h.number 1 _ rfl⟩
theorem GW.below {W W' : World} (h : GW W) (hb : Below W.heap.size W W') : GW W' :=
 ⟨fun j v hj => (hb.cell (World.block_lt_of_cell? W _ (h.person j v hj))).trans (h.person j v hj), fun j v hj => (hb.cell (World.block_lt_of_cell? W _ (h.number j v hj))).trans (h.number j v hj), fun j v hj => (hb.cell (World.block_lt_of_cell? W _ (h.forms j v hj))).trans (h.forms j v hj)⟩
theorem GW.form {W : World} (h : GW W) {k : Int} (h0 : 0 ≤ k) (h9 : k < 9) (j : Nat) (hj : j < 10) {v : Value} (hv : (formOf k).enc[j]? = some v) : W.cell? ⟨2, k.toNat * 10 + j, none⟩ = some v := by
 have hl : k.toNat < formList.length := by show k.toNat < 9; omega
 refine h.forms _ _ ?_
 rw [fget Fm.len formList k.toNat j hl hj, ← hv]
 unfold formOf
 rw [List.getD_eq_getElem?_getD, List.getElem?_eq_getElem hl]
 rfl
def holdsB (lo hi n : Int) : Bool := decide (lo ≤ n) && decide (n ≤ hi)
theorem holds_is (lo hi n : Int) : lim_holds.f lo hi n = some (holdsB lo hi n) := by
 unfold lim_holds.f holdsB
 by_cases h : n ≥ lo
 ·rw [if_pos h, decide_eq_true (show lo ≤ n from h), Bool.true_and]
 ·rw [if_neg h, decide_eq_false (show ¬ lo ≤ n from h), Bool.false_and]
theorem hdg {lo hi n : Int} {b : Bool} {W : World} (h : Aside0 (holdsB lo hi n = b)) : Calls Tryd.prog 56 #[.agg #[.int .i64 lo, .int .i64 hi], .int .i64 n] W fun e w' => e = .returned (.bool b) ∧ Below W.heap.size W w' := lim_holds.calls lo hi n b W (by rw [holds_is]; exact congrArg some h.out)
theorem tri {w W W' : World} {g : Nat} {t : TypeId} {L : List Value} (hX : Aside0 (BlkIs W g t L)) (hG : Aside0 (GW W)) (hB : Aside0 (Below w.heap.size w W)) (hb : Below W.heap.size W W') : Aside0 (BlkIs W' g t L) ∧ Aside0 (GW W') ∧ Aside0 (Below w.heap.size w W') := ⟨⟨hX.out.below hb⟩, ⟨hG.out.below hb⟩, ⟨below_step hB.out hb⟩⟩
theorem trj {w W W' : World} {g g' : Nat} {t t' : TypeId} {L L' : List Value} (hX : Aside0 (BlkIs W g t L)) (hG : Aside0 (BlkIs W g' t' L')) (hB : Aside0 (Below w.heap.size w W)) (hb : Below W.heap.size W W') : Aside0 (BlkIs W' g t L) ∧ Aside0 (BlkIs W' g' t' L') ∧ Aside0 (Below w.heap.size w W') := ⟨⟨hX.out.below hb⟩, ⟨hG.out.below hb⟩, ⟨below_step hB.out hb⟩⟩
def Fm.allB (f : Fm) (x : S51) (d : Int) : Bool := holdsB f.a0 f.a1 x.f6 && (holdsB f.b0 f.b1 x.f7 && (holdsB f.c0 f.c1 x.f8 && holdsB f.d0 f.d1 d))
def fitsB (x : S51) : Bool :=
 if x.f5 < 1 ∨ 9 ≤ x.f5 then false
 else if (formOf x.f5).ct = true then (if x.f9 < 0 ∨ 1048576 < x.f9 then false else (formOf x.f5).allB x (wrap64 (x.f9 - x.f4)))
 else if (formOf x.f5).lk = true then (if x.f9 < 1 ∨ ¬ Int.tmod x.f9 3 = 1 then false else (formOf x.f5).allB x (wrap64 (Int.tdiv x.f9 3)))
 else (formOf x.f5).allB x x.f9
theorem grown_cell {W W' : World} {r : Option Nat} (h : W.grownBy W' r) {p : Addr} (hne : some p.block ≠ r) {v : Value} (hc : W.cell? p = some v) : W'.cell? p = some v := by
 have hlt := World.block_lt_of_cell? W p hc
 have hb := h.block p.block hlt hne
 unfold World.cell? at hc ⊢
 rw [hb]
 exact hc
def fits.T3 : Bool × List (List Nat × List Nat) := (true, [([], []), ([0], [0]), ([1], [1]), ([2], [2]), ([], []), ([4], [4]), ([], []), ([6, 3, 0, 1, 2, 3, 6], [3, 6]), ([5, 7, 0, 1, 2, 3, 4, 5, 6, 7], [5])])
def fits.B3 : List Nat := [0, 1, 3, 7, 0, 16, 0, 79, 255]
theorem fits.tab3 : rtab .any (opsOf Tryd.f66 3) = fits.T3 := by kernel_rfl
theorem fits.bits3 : waitsOk fits.T3.2 fits.B3 = true := by kernel_rfl
set_option maxHeartbeats 8000000 in
set_option maxRecDepth 100000 in
theorem fits.calls (x : S51) (W : World) (hG : GW W) :
 Calls Tryd.prog 66 #[.agg #[x.f0, x.f1, x.f2, x.f3, x.f4, x.f5, x.f6, x.f7, x.f8, x.f9, x.f10]] W fun e w' => e = .returned (.bool (fitsB x)) ∧ Below W.heap.size W w' := by
 have hu := Tryd.underlying51
 obtain ⟨W1, hW1⟩ : ∃ W1, W1 = W.alloc (.cells #[x.f0, x.f1, x.f2, x.f3, x.f4, x.f5, x.f6, x.f7, x.f8, x.f9, x.f10] 51) := ⟨_, rfl⟩
 have hX1 : BlkIs W1 W.heap.size 51 [x.f0, x.f1, x.f2, x.f3, x.f4, x.f5, x.f6, x.f7, x.f8, x.f9, x.f10] := by rw [hW1]; exact heap_alloc_new W _
 have hb1 : Below W.heap.size W W1 := by rw [hW1]; exact below_alloc (Below.refl _ _) _
 have HX1 := As hX1
 have HB1 := As hb1
 have HGG := As (hG.below hb1)
 have HW := As hW1
 have HGL : Aside0 (2 < W.heap.size) := ⟨World.block_lt_of_cell? W _ (hG.forms 0 _ rfl)⟩
 have c5 : W1.cell? ⟨W.heap.size, 5, none⟩ = some (x.f5) := hX1.at_ 5
 clear hX1 hb1 hG hW1
 by_cases k1 : x.f5 < 1
 ·have hF : fitsB x = false := if_pos (.inl k1)
  rw [hF]
  have d1 : decide (x.f5 < 1) = true := decide_eq_true k1
  clear k1 hF
  go_enter Tryd.func66, Tryd.ntmps66
  go_upto_region 1 with (fail)
  rw [← HW.out]
  go_wp2
  go_ret
  exact ⟨rfl, HB1.out⟩
 have d1 : decide (x.f5 < 1) = false := decide_eq_false k1
 by_cases k2 : 9 ≤ x.f5
 ·have hF : fitsB x = false := if_pos (.inr k2)
  rw [hF]
  have d2 : decide (9 ≤ x.f5) = true := decide_eq_true k2
  clear k1 k2 hF
  go_enter Tryd.func66, Tryd.ntmps66
  go_upto_region 1 with (fail)
  rw [← HW.out]
  go_wp2
  go_ret
  exact ⟨rfl, HB1.out⟩
 have d2 : decide (9 ≤ x.f5) = false := decide_eq_false k2
 have HG1 : Aside0 (∀ j, j < 10 → ∀ {v : Value}, (formOf x.f5).enc[j]? = some v → W1.cell? ⟨2, x.f5.toNat * 10 + j, none⟩ = some v) := ⟨fun j hj v hv => HGG.out.form (by omega) (by omega) j hj hv⟩
 have HFE : Aside0 (fitsB x = if (formOf x.f5).ct = true then (if x.f9 < 0 ∨ 1048576 < x.f9 then false else (formOf x.f5).allB x (wrap64 (x.f9 - x.f4))) else if (formOf x.f5).lk = true then (if x.f9 < 1 ∨ ¬ Int.tmod x.f9 3 = 1 then false else (formOf x.f5).allB x (wrap64 (Int.tdiv x.f9 3))) else (formOf x.f5).allB x x.f9) := ⟨if_neg (fun h => h.elim k1 k2)⟩
 have p0 : 0 ≤ x.f5 := by omega
 have p9 : x.f5 < 9 := by omega
 generalize formOf x.f5 = f at HG1 HFE
 obtain ⟨r, hr⟩ : ∃ r, r = fitsB x := ⟨_, rfl⟩
 rw [← hr]
 have HR := As hr
 clear hr
 clear HGG
 go_enter Tryd.func66, Tryd.ntmps66
 go_upto_region 1 with (fail)
 rw [← HW.out]
 go_upto_region 3 with (fail)
 clear k1 k2 d1 d2 c5
 refine start_ (n := 9) (S := fun w' => w'.cell? ⟨W.heap.size, 4, none⟩ = some (x.f4) ∧ w'.cell? ⟨W.heap.size, 5, none⟩ = some (x.f5) ∧ w'.cell? ⟨W.heap.size, 6, none⟩ = some (x.f6) ∧ w'.cell? ⟨W.heap.size, 7, none⟩ = some (x.f7) ∧ w'.cell? ⟨W.heap.size, 8, none⟩ = some (x.f8) ∧ w'.cell? ⟨W.heap.size, 9, none⟩ = some (x.f9) ∧ w'.cell? ⟨2, x.f5.toNat * 10, none⟩ = some (.int .i64 f.a0) ∧ w'.cell? ⟨2, x.f5.toNat * 10 + 1, none⟩ = some (.int .i64 f.a1) ∧ w'.cell? ⟨2, x.f5.toNat * 10 + 2, none⟩ = some (.int .i64 f.b0) ∧ w'.cell? ⟨2, x.f5.toNat * 10 + 3, none⟩ = some (.int .i64 f.b1) ∧ w'.cell? ⟨2, x.f5.toNat * 10 + 4, none⟩ = some (.int .i64 f.c0) ∧ w'.cell? ⟨2, x.f5.toNat * 10 + 5, none⟩ = some (.int .i64 f.c1) ∧ w'.cell? ⟨2, x.f5.toNat * 10 + 6, none⟩ = some (.int .i64 f.d0) ∧ w'.cell? ⟨2, x.f5.toNat * 10 + 7, none⟩ = some (.int .i64 f.d1) ∧ w'.cell? ⟨2, x.f5.toNat * 10 + 8, none⟩ = some (.bool f.ct) ∧ w'.cell? ⟨2, x.f5.toNat * 10 + 9, none⟩ = some (.bool f.lk)) (ds := []) (marksOf 9 0) (by kernel_rfl) rfl rfl ⟨(HX1.out.drew).at_ 4, (HX1.out.drew).at_ 5, (HX1.out.drew).at_ 6, (HX1.out.drew).at_ 7, (HX1.out.drew).at_ 8, (HX1.out.drew).at_ 9, HG1.out 0 (by omega) rfl, HG1.out 1 (by omega) rfl, HG1.out 2 (by omega) rfl, HG1.out 3 (by omega) rfl, HG1.out 4 (by omega) rfl, HG1.out 5 (by omega) rfl, HG1.out 6 (by omega) rfl, HG1.out 7 (by omega) rfl, HG1.out 8 (by omega) rfl, HG1.out 9 (by omega) rfl⟩ (fun hHeld => ?_)
 refine with_tabW fits.tab3 fits.bits3 (fun HT_ HW_ => ?_)
 refine pv_ 0 13 9 1 ?_
 refine ta_ 1 14 9 3 ?_ rfl rfl (take_ofW HT_.out HW_.out (by kernel_rfl)) (fun _ _ _ h => h) (by rfl) ?_ hHeld ?_ ?_ ?_
 rotate_left
 ·rintro w' ⟨s0, s1, s2, s3, s4, s5, s6, s7, s8, s9, s10, s11, s12, s13, s14, s15⟩
  go_simp
  with_reducible rfl
 rotate_left
 ·simp only [Act.put, List.setIfInBounds_toArray, List.set_cons_zero, List.set_cons_succ, q1, q2, q3, i64_w, i32_w]
  rfl
 refine pv_ 2 15 9 7 ?_
 refine ta_ 3 16 9 15 ?_ rfl rfl (take_ofW HT_.out HW_.out (by kernel_rfl)) (fun _ _ _ h => h) (by rfl) ?_ hHeld ?_ ?_ ?_
 rotate_left
 ·rintro w' ⟨s0, s1, s2, s3, s4, s5, s6, s7, s8, s9, s10, s11, s12, s13, s14, s15⟩
  go_simp
  with_reducible rfl
 rotate_left
 ·simp only [Act.put, List.setIfInBounds_toArray, List.set_cons_zero, List.set_cons_succ, q1, q2, q3, i64_w, i32_w]
  rfl
 refine pv_ 4 17 9 31 ?_
 refine ta_ 5 18 9 63 ?_ rfl rfl (take_ofW HT_.out HW_.out (by kernel_rfl)) (fun _ _ _ h => h) (by rfl) ?_ hHeld ?_ ?_ ?_
 rotate_left
 ·rintro w' ⟨s0, s1, s2, s3, s4, s5, s6, s7, s8, s9, s10, s11, s12, s13, s14, s15⟩
  go_simp
  with_reducible rfl
 rotate_left
 ·simp only [Act.put, List.setIfInBounds_toArray, List.set_cons_zero, List.set_cons_succ, q1, q2, q3, i64_w, i32_w]
  rfl
 refine one_ (i := 6) (N := some 3) (marksOf 9 127) rfl rfl (one_of HT_.out (by kernel_rfl)) (by decide) (fun K hK => ?_)
 refine box_step ?hg (N := 3) ?hd (cs := #[.int .i64 0, .int .i64 0, .int .i64 0, .int .i64 0, .int .i64 0, .int .i64 0, .int .i64 0, .int .i64 0, .bool false, .bool false]) (t := 123) ?hr ?_
 case hd => rfl
 case hg => rfl
 case hr => first | (go_simp; done) | (go_simp; rfl)
 intro g hg w2 hbox hb2
 have HX2 := As (HX1.out.drew.below hb2)
 have HG2 : Aside0 (∀ j, j < 10 → ∀ {v : Value}, f.enc[j]? = some v → w2.cell? ⟨2, x.f5.toNat * 10 + j, none⟩ = some v) := ⟨fun j hj v hv => (hb2.cell (World.block_lt_of_cell? _ _ (HG1.out j hj hv))).trans (HG1.out j hj hv)⟩
 have HN2 : Aside0 (BlkIs w2 g 123 [.int .i64 0, .int .i64 0, .int .i64 0, .int .i64 0, .int .i64 0, .int .i64 0, .int .i64 0, .int .i64 0, .bool false, .bool false]) := ⟨hbox⟩
 have HB2 := As (below_step (below_drew1 HB1.out) hb2)
 have hgne : W.heap.size < g := by rw [hg]; exact HX1.out.drew.lt
 have HGN := As hgne
 clear hbox hb2 hgne hg
 refine hK.out _ _ ⟨HX2.out.at_ 4, HX2.out.at_ 5, HX2.out.at_ 6, HX2.out.at_ 7, HX2.out.at_ 8, HX2.out.at_ 9, HG2.out 0 (by omega) rfl, HG2.out 1 (by omega) rfl, HG2.out 2 (by omega) rfl, HG2.out 3 (by omega) rfl, HG2.out 4 (by omega) rfl, HG2.out 5 (by omega) rfl, HG2.out 6 (by omega) rfl, HG2.out 7 (by omega) rfl, HG2.out 8 (by omega) rfl, HG2.out 9 (by omega) rfl⟩ (fun hHeld => ?_)
 refine norm_ (a' := ?_) ?_ ?_
 rotate_left
 ·show Act.put _ (some 3) _ = _
  simp only [Act.put, List.setIfInBounds_toArray, List.set_cons_zero, List.set_cons_succ, q1, q2, q3, i64_w, i32_w]
  rfl
 refine one_ (i := 7) (N := none) (marksOf 9 255) rfl rfl (one_of HT_.out (by kernel_rfl)) (by decide) (fun K hK => ?_)
 refine blk_store_step ?hw ?hN 123 (.tmp 3) (.tmp 16) ?ho HN2.out 0 (.agg #[.int .i64 f.a0, .int .i64 f.a1, .int .i64 f.b0, .int .i64 f.b1, .int .i64 f.c0, .int .i64 f.c1, .int .i64 f.d0, .int .i64 f.d1, .bool f.ct, .bool f.lk]) [.int .i64 f.a0, .int .i64 f.a1, .int .i64 f.b0, .int .i64 f.b1, .int .i64 f.c0, .int .i64 f.c1, .int .i64 f.d0, .int .i64 f.d1, .bool f.ct, .bool f.lk] [.int .i64 f.a0, .int .i64 f.a1, .int .i64 f.b0, .int .i64 f.b1, .int .i64 f.c0, .int .i64 f.c1, .int .i64 f.d0, .int .i64 f.d1, .bool f.ct, .bool f.lk] ?ha ?hx ?hu ?ht ?hf ?h1 ?hE ?_
 case hw => rfl
 case hN => rfl
 case ho => rfl
 case ha => exact ⟨_, rfl, rfl⟩
 case hx => rfl
 case hu => rfl
 case ht => kernel_rfl
 case hf => exact Nat.le_of_ble_eq_true rfl
 case h1 => intro v hv; simp only [List.mem_cons, List.not_mem_nil, or_false] at hv; rcases hv with rfl | rfl | rfl | rfl | rfl | rfl | rfl | rfl | rfl | rfl <;> rfl
 case hE => rfl
 intro w3 HN3 hg3
 have HX3 : Aside0 (BlkIs w3 W.heap.size 51 [x.f0, x.f1, x.f2, x.f3, x.f4, x.f5, x.f6, x.f7, x.f8, x.f9, x.f10]) := ⟨HX2.out.grown hg3.out (fun e => by injection e with e; have := HGN.out; omega)⟩
 have HG3 : Aside0 (∀ j, j < 10 → ∀ {v : Value}, f.enc[j]? = some v → w3.cell? ⟨2, x.f5.toNat * 10 + j, none⟩ = some v) := ⟨fun j hj v hv => (grown_cell hg3.out (by show some (2 : Nat) ≠ some g; intro e; injection e with e; have := HGN.out; have := HGL.out; omega) (HG2.out j hj hv))⟩
 have HB3 : Aside0 (Below W.heap.size W w3) := ⟨pw_below_grown HB2.out _ HB2.out.size hg3.out (by intro k hk; injection hk with hk; have := HGN.out; omega)⟩
 clear hg3
 refine hK.out _ _ ⟨HX3.out.at_ 4, HX3.out.at_ 5, HX3.out.at_ 6, HX3.out.at_ 7, HX3.out.at_ 8, HX3.out.at_ 9, HG3.out 0 (by omega) rfl, HG3.out 1 (by omega) rfl, HG3.out 2 (by omega) rfl, HG3.out 3 (by omega) rfl, HG3.out 4 (by omega) rfl, HG3.out 5 (by omega) rfl, HG3.out 6 (by omega) rfl, HG3.out 7 (by omega) rfl, HG3.out 8 (by omega) rfl, HG3.out 9 (by omega) rfl⟩ (fun hHeld => ?_)
 refine pv_ 8 4 9 511 ?_
 refine done_ (done_of HT_.out (by kernel_rfl)) ?_
 have hq0_ := cs11 HX3.out
 obtain ⟨y0, y1, y2, y3, y4, y5, y6, y7, y8, y9⟩ := cs10 HN3.out
 clear HG1 HG3 HN2 HX2 HG2 HB2
 cases hct : f.ct with
 | true =>
  rw [hct] at y8
  have HCT := As hct
  clear hct
  by_cases e1 : x.f9 < 0
  ·have HE1 := As e1
   have d3 : decide (x.f9 < 0) = true := decide_eq_true e1
   clear e1
   have hF : fitsB x = false := by rw [HFE.out, if_pos HCT.out, if_pos (.inl HE1.out)]
   have HFF := As hF
   clear hF
   go_wp2
   go_ret
   exact ⟨by (first | (rw [HR.out, HFF.out]; done) | simp [HR.out, HFF.out]), HB3.out⟩
  ·have d3 : decide (x.f9 < 0) = false := decide_eq_false e1
   by_cases e2 : 1048576 < x.f9
   ·have HE2 := As e2
    have d4 : decide (1048576 < x.f9) = true := decide_eq_true e2
    clear e1 e2
    have hF : fitsB x = false := by rw [HFE.out, if_pos HCT.out, if_pos (.inr HE2.out)]
    have HFF := As hF
    clear hF
    go_wp2
    go_ret
    exact ⟨by (first | (rw [HR.out, HFF.out]; done) | simp [HR.out, HFF.out]), HB3.out⟩
   ·have d4 : decide (1048576 < x.f9) = false := decide_eq_false e2
    have HE : Aside0 (¬ (x.f9 < 0 ∨ 1048576 < x.f9)) := ⟨fun h => h.elim e1 e2⟩
    clear e1 e2
    go_upto_region 12 with (fail)
    (try simp only [i64_w])
    cases hb_0 : holdsB f.a0 f.a1 (x.f6) with
    | false =>
     have HB0_ := As hb_0
     clear hb_0
     have hF : fitsB x = false := by
      rw [HFE.out, if_pos HCT.out, if_neg HE.out]
      unfold Fm.allB
      rw [HB0_.out]
      rfl
     have HFF := As hF
     clear hF
     go_wp2_with (first | (go_at_call 56; (with_reducible refine (hdg HB0_).mono ?_); rintro e w4 ⟨rfl, hb4⟩; obtain ⟨HX4, HN4, HB4⟩ := trj HX3 HN3 HB3 hb4; have hq1_ := cs11 HX4.out; have hq2_ := cs10 HN4.out; have a6_ : w4.cell? ⟨g, 7, none⟩ = some (.int .i64 f.d1) := HN4.out.at_ 7))
     go_ret
     exact ⟨by (first | (rw [HR.out, HFF.out]; done) | simp [HR.out, HFF.out]), HB4.out⟩
    | true =>
     have HB0_ := As hb_0
     clear hb_0
     cases hb_1 : holdsB f.b0 f.b1 (x.f7) with
     | false =>
      have HB1_ := As hb_1
      clear hb_1
      have hF : fitsB x = false := by
       rw [HFE.out, if_pos HCT.out, if_neg HE.out]
       unfold Fm.allB
       rw [HB0_.out, HB1_.out]
       rfl
      have HFF := As hF
      clear hF
      go_wp2_with (first | (go_at_call 56; (with_reducible refine (hdg HB0_).mono ?_); rintro e w4 ⟨rfl, hb4⟩; obtain ⟨HX4, HN4, HB4⟩ := trj HX3 HN3 HB3 hb4; have hq1_ := cs11 HX4.out; have hq2_ := cs10 HN4.out; have a6_ : w4.cell? ⟨g, 7, none⟩ = some (.int .i64 f.d1) := HN4.out.at_ 7) | (go_at_call 56; (with_reducible refine (hdg HB1_).mono ?_); rintro e w5 ⟨rfl, hb5⟩; obtain ⟨HX5, HN5, HB5⟩ := trj HX4 HN4 HB4 hb5; have hq3_ := cs11 HX5.out; have hq4_ := cs10 HN5.out; have a7_ : w5.cell? ⟨g, 7, none⟩ = some (.int .i64 f.d1) := HN5.out.at_ 7))
      go_ret
      exact ⟨by (first | (rw [HR.out, HFF.out]; done) | simp [HR.out, HFF.out]), HB5.out⟩
     | true =>
      have HB1_ := As hb_1
      clear hb_1
      cases hb_2 : holdsB f.c0 f.c1 (x.f8) with
      | false =>
       have HB2_ := As hb_2
       clear hb_2
       have hF : fitsB x = false := by
        rw [HFE.out, if_pos HCT.out, if_neg HE.out]
        unfold Fm.allB
        rw [HB0_.out, HB1_.out, HB2_.out]
        rfl
       have HFF := As hF
       clear hF
       go_wp2_with (first | (go_at_call 56; (with_reducible refine (hdg HB0_).mono ?_); rintro e w4 ⟨rfl, hb4⟩; obtain ⟨HX4, HN4, HB4⟩ := trj HX3 HN3 HB3 hb4; have hq1_ := cs11 HX4.out; have hq2_ := cs10 HN4.out; have a6_ : w4.cell? ⟨g, 7, none⟩ = some (.int .i64 f.d1) := HN4.out.at_ 7) | (go_at_call 56; (with_reducible refine (hdg HB1_).mono ?_); rintro e w5 ⟨rfl, hb5⟩; obtain ⟨HX5, HN5, HB5⟩ := trj HX4 HN4 HB4 hb5; have hq3_ := cs11 HX5.out; have hq4_ := cs10 HN5.out; have a7_ : w5.cell? ⟨g, 7, none⟩ = some (.int .i64 f.d1) := HN5.out.at_ 7) | (go_at_call 56; (with_reducible refine (hdg HB2_).mono ?_); rintro e w6 ⟨rfl, hb6⟩; obtain ⟨HX6, HN6, HB6⟩ := trj HX5 HN5 HB5 hb6; have hq5_ := cs11 HX6.out; have hq6_ := cs10 HN6.out; have b0_ : w6.cell? ⟨g, 7, none⟩ = some (.int .i64 f.d1) := HN6.out.at_ 7))
       go_ret
       exact ⟨by (first | (rw [HR.out, HFF.out]; done) | simp [HR.out, HFF.out]), HB6.out⟩
      | true =>
       have HB2_ := As hb_2
       clear hb_2
       cases hb_3 : holdsB f.d0 f.d1 (wrap64 (x.f9 - x.f4)) with
       | false =>
        have HB3_ := As hb_3
        clear hb_3
        have hF : fitsB x = false := by
         rw [HFE.out, if_pos HCT.out, if_neg HE.out]
         unfold Fm.allB
         rw [HB0_.out, HB1_.out, HB2_.out, HB3_.out]
         rfl
        have HFF := As hF
        clear hF
        go_wp2_with (first | (go_at_call 56; (with_reducible refine (hdg HB0_).mono ?_); rintro e w4 ⟨rfl, hb4⟩; obtain ⟨HX4, HN4, HB4⟩ := trj HX3 HN3 HB3 hb4; have hq1_ := cs11 HX4.out; have hq2_ := cs10 HN4.out; have a6_ : w4.cell? ⟨g, 7, none⟩ = some (.int .i64 f.d1) := HN4.out.at_ 7) | (go_at_call 56; (with_reducible refine (hdg HB1_).mono ?_); rintro e w5 ⟨rfl, hb5⟩; obtain ⟨HX5, HN5, HB5⟩ := trj HX4 HN4 HB4 hb5; have hq3_ := cs11 HX5.out; have hq4_ := cs10 HN5.out; have a7_ : w5.cell? ⟨g, 7, none⟩ = some (.int .i64 f.d1) := HN5.out.at_ 7) | (go_at_call 56; (with_reducible refine (hdg HB2_).mono ?_); rintro e w6 ⟨rfl, hb6⟩; obtain ⟨HX6, HN6, HB6⟩ := trj HX5 HN5 HB5 hb6; have hq5_ := cs11 HX6.out; have hq6_ := cs10 HN6.out; have b0_ : w6.cell? ⟨g, 7, none⟩ = some (.int .i64 f.d1) := HN6.out.at_ 7) | (go_at_call 56; (with_reducible refine (lim_holds.calls f.d0 f.d1 (wrap64 (x.f9 - x.f4)) false _ (by rw [holds_is]; exact congrArg some HB3_.out)).mono ?_); rintro e w7 ⟨rfl, hb7⟩; obtain ⟨HX7, HN7, HB7⟩ := trj HX6 HN6 HB6 hb7; have hq7_ := cs11 HX7.out; have hq8_ := cs10 HN7.out; have b1_ : w7.cell? ⟨g, 7, none⟩ = some (.int .i64 f.d1) := HN7.out.at_ 7))
        go_ret
        exact ⟨by (first | (rw [HR.out, HFF.out]; done) | simp [HR.out, HFF.out]), HB7.out⟩
       | true =>
        have HB3_ := As hb_3
        clear hb_3
        have hF : fitsB x = true := by
         rw [HFE.out, if_pos HCT.out, if_neg HE.out]
         unfold Fm.allB
         rw [HB0_.out, HB1_.out, HB2_.out, HB3_.out]
         rfl
        have HFF := As hF
        clear hF
        go_wp2_with (first | (go_at_call 56; (with_reducible refine (hdg HB0_).mono ?_); rintro e w4 ⟨rfl, hb4⟩; obtain ⟨HX4, HN4, HB4⟩ := trj HX3 HN3 HB3 hb4; have hq1_ := cs11 HX4.out; have hq2_ := cs10 HN4.out; have a6_ : w4.cell? ⟨g, 7, none⟩ = some (.int .i64 f.d1) := HN4.out.at_ 7) | (go_at_call 56; (with_reducible refine (hdg HB1_).mono ?_); rintro e w5 ⟨rfl, hb5⟩; obtain ⟨HX5, HN5, HB5⟩ := trj HX4 HN4 HB4 hb5; have hq3_ := cs11 HX5.out; have hq4_ := cs10 HN5.out; have a7_ : w5.cell? ⟨g, 7, none⟩ = some (.int .i64 f.d1) := HN5.out.at_ 7) | (go_at_call 56; (with_reducible refine (hdg HB2_).mono ?_); rintro e w6 ⟨rfl, hb6⟩; obtain ⟨HX6, HN6, HB6⟩ := trj HX5 HN5 HB5 hb6; have hq5_ := cs11 HX6.out; have hq6_ := cs10 HN6.out; have b0_ : w6.cell? ⟨g, 7, none⟩ = some (.int .i64 f.d1) := HN6.out.at_ 7) | (go_at_call 56; (with_reducible refine (lim_holds.calls f.d0 f.d1 (wrap64 (x.f9 - x.f4)) true _ (by rw [holds_is]; exact congrArg some HB3_.out)).mono ?_); rintro e w7 ⟨rfl, hb7⟩; obtain ⟨HX7, HN7, HB7⟩ := trj HX6 HN6 HB6 hb7; have hq7_ := cs11 HX7.out; have hq8_ := cs10 HN7.out; have b1_ : w7.cell? ⟨g, 7, none⟩ = some (.int .i64 f.d1) := HN7.out.at_ 7))
        go_ret
        exact ⟨by (first | (rw [HR.out, HFF.out]; done) | simp [HR.out, HFF.out]), HB7.out⟩
 | false =>
  rw [hct] at y8
  have HCT : Aside0 (¬ f.ct = true) := ⟨by rw [hct]; decide⟩
  clear hct
  cases hlk : f.lk with
  | true =>
   rw [hlk] at y9
   have HLK := As hlk
   clear hlk
   by_cases e1 : x.f9 < 1
   ·have HE1 := As e1
    have d3 : decide (x.f9 < 1) = true := decide_eq_true e1
    clear e1
    have hF : fitsB x = false := by rw [HFE.out, if_neg HCT.out, if_pos HLK.out, if_pos (.inl HE1.out)]
    have HFF := As hF
    clear hF
    go_wp2
    go_ret
    exact ⟨by (first | (rw [HR.out, HFF.out]; done) | simp [HR.out, HFF.out]), HB3.out⟩
   ·have d3 : decide (x.f9 < 1) = false := decide_eq_false e1
    by_cases e2 : Int.tmod x.f9 3 = 1
    ·have d4 : (Int.tmod x.f9 3 == 1) = true := beq_iff_eq.mpr e2
     have d5 : (Int.tmod x.f9 3 != 1) = false := bne_eq_false_iff_eq.mpr e2
     have HE : Aside0 (¬ (x.f9 < 1 ∨ ¬ Int.tmod x.f9 3 = 1)) := ⟨fun h => h.elim e1 (fun h => h e2)⟩
     clear e1 e2
     go_upto_region 12 with (fail)
     (try simp only [i64_w])
     cases hb_0 : holdsB f.a0 f.a1 (x.f6) with
     | false =>
      have HB0_ := As hb_0
      clear hb_0
      have hF : fitsB x = false := by
       rw [HFE.out, if_neg HCT.out, if_pos HLK.out, if_neg HE.out]
       unfold Fm.allB
       rw [HB0_.out]
       rfl
      have HFF := As hF
      clear hF
      go_wp2_with (first | (go_at_call 56; (with_reducible refine (hdg HB0_).mono ?_); rintro e w4 ⟨rfl, hb4⟩; obtain ⟨HX4, HN4, HB4⟩ := trj HX3 HN3 HB3 hb4; have hq1_ := cs11 HX4.out; have hq2_ := cs10 HN4.out; have a6_ : w4.cell? ⟨g, 7, none⟩ = some (.int .i64 f.d1) := HN4.out.at_ 7))
      go_ret
      exact ⟨by (first | (rw [HR.out, HFF.out]; done) | simp [HR.out, HFF.out]), HB4.out⟩
     | true =>
      have HB0_ := As hb_0
      clear hb_0
      cases hb_1 : holdsB f.b0 f.b1 (x.f7) with
      | false =>
       have HB1_ := As hb_1
       clear hb_1
       have hF : fitsB x = false := by
        rw [HFE.out, if_neg HCT.out, if_pos HLK.out, if_neg HE.out]
        unfold Fm.allB
        rw [HB0_.out, HB1_.out]
        rfl
       have HFF := As hF
       clear hF
       go_wp2_with (first | (go_at_call 56; (with_reducible refine (hdg HB0_).mono ?_); rintro e w4 ⟨rfl, hb4⟩; obtain ⟨HX4, HN4, HB4⟩ := trj HX3 HN3 HB3 hb4; have hq1_ := cs11 HX4.out; have hq2_ := cs10 HN4.out; have a6_ : w4.cell? ⟨g, 7, none⟩ = some (.int .i64 f.d1) := HN4.out.at_ 7) | (go_at_call 56; (with_reducible refine (hdg HB1_).mono ?_); rintro e w5 ⟨rfl, hb5⟩; obtain ⟨HX5, HN5, HB5⟩ := trj HX4 HN4 HB4 hb5; have hq3_ := cs11 HX5.out; have hq4_ := cs10 HN5.out; have a7_ : w5.cell? ⟨g, 7, none⟩ = some (.int .i64 f.d1) := HN5.out.at_ 7))
       go_ret
       exact ⟨by (first | (rw [HR.out, HFF.out]; done) | simp [HR.out, HFF.out]), HB5.out⟩
      | true =>
       have HB1_ := As hb_1
       clear hb_1
       cases hb_2 : holdsB f.c0 f.c1 (x.f8) with
       | false =>
        have HB2_ := As hb_2
        clear hb_2
        have hF : fitsB x = false := by
         rw [HFE.out, if_neg HCT.out, if_pos HLK.out, if_neg HE.out]
         unfold Fm.allB
         rw [HB0_.out, HB1_.out, HB2_.out]
         rfl
        have HFF := As hF
        clear hF
        go_wp2_with (first | (go_at_call 56; (with_reducible refine (hdg HB0_).mono ?_); rintro e w4 ⟨rfl, hb4⟩; obtain ⟨HX4, HN4, HB4⟩ := trj HX3 HN3 HB3 hb4; have hq1_ := cs11 HX4.out; have hq2_ := cs10 HN4.out; have a6_ : w4.cell? ⟨g, 7, none⟩ = some (.int .i64 f.d1) := HN4.out.at_ 7) | (go_at_call 56; (with_reducible refine (hdg HB1_).mono ?_); rintro e w5 ⟨rfl, hb5⟩; obtain ⟨HX5, HN5, HB5⟩ := trj HX4 HN4 HB4 hb5; have hq3_ := cs11 HX5.out; have hq4_ := cs10 HN5.out; have a7_ : w5.cell? ⟨g, 7, none⟩ = some (.int .i64 f.d1) := HN5.out.at_ 7) | (go_at_call 56; (with_reducible refine (hdg HB2_).mono ?_); rintro e w6 ⟨rfl, hb6⟩; obtain ⟨HX6, HN6, HB6⟩ := trj HX5 HN5 HB5 hb6; have hq5_ := cs11 HX6.out; have hq6_ := cs10 HN6.out; have b0_ : w6.cell? ⟨g, 7, none⟩ = some (.int .i64 f.d1) := HN6.out.at_ 7))
        go_ret
        exact ⟨by (first | (rw [HR.out, HFF.out]; done) | simp [HR.out, HFF.out]), HB6.out⟩
       | true =>
        have HB2_ := As hb_2
        clear hb_2
        cases hb_3 : holdsB f.d0 f.d1 (wrap64 (Int.tdiv x.f9 3)) with
        | false =>
         have HB3_ := As hb_3
         clear hb_3
         have hF : fitsB x = false := by
          rw [HFE.out, if_neg HCT.out, if_pos HLK.out, if_neg HE.out]
          unfold Fm.allB
          rw [HB0_.out, HB1_.out, HB2_.out, HB3_.out]
          rfl
         have HFF := As hF
         clear hF
         go_wp2_with (first | (go_at_call 56; (with_reducible refine (hdg HB0_).mono ?_); rintro e w4 ⟨rfl, hb4⟩; obtain ⟨HX4, HN4, HB4⟩ := trj HX3 HN3 HB3 hb4; have hq1_ := cs11 HX4.out; have hq2_ := cs10 HN4.out; have a6_ : w4.cell? ⟨g, 7, none⟩ = some (.int .i64 f.d1) := HN4.out.at_ 7) | (go_at_call 56; (with_reducible refine (hdg HB1_).mono ?_); rintro e w5 ⟨rfl, hb5⟩; obtain ⟨HX5, HN5, HB5⟩ := trj HX4 HN4 HB4 hb5; have hq3_ := cs11 HX5.out; have hq4_ := cs10 HN5.out; have a7_ : w5.cell? ⟨g, 7, none⟩ = some (.int .i64 f.d1) := HN5.out.at_ 7) | (go_at_call 56; (with_reducible refine (hdg HB2_).mono ?_); rintro e w6 ⟨rfl, hb6⟩; obtain ⟨HX6, HN6, HB6⟩ := trj HX5 HN5 HB5 hb6; have hq5_ := cs11 HX6.out; have hq6_ := cs10 HN6.out; have b0_ : w6.cell? ⟨g, 7, none⟩ = some (.int .i64 f.d1) := HN6.out.at_ 7) | (go_at_call 56; (with_reducible refine (lim_holds.calls f.d0 f.d1 (wrap64 (Int.tdiv x.f9 3)) false _ (by rw [holds_is]; exact congrArg some HB3_.out)).mono ?_); rintro e w7 ⟨rfl, hb7⟩; obtain ⟨HX7, HN7, HB7⟩ := trj HX6 HN6 HB6 hb7; have hq7_ := cs11 HX7.out; have hq8_ := cs10 HN7.out; have b1_ : w7.cell? ⟨g, 7, none⟩ = some (.int .i64 f.d1) := HN7.out.at_ 7))
         go_ret
         exact ⟨by (first | (rw [HR.out, HFF.out]; done) | simp [HR.out, HFF.out]), HB7.out⟩
        | true =>
         have HB3_ := As hb_3
         clear hb_3
         have hF : fitsB x = true := by
          rw [HFE.out, if_neg HCT.out, if_pos HLK.out, if_neg HE.out]
          unfold Fm.allB
          rw [HB0_.out, HB1_.out, HB2_.out, HB3_.out]
          rfl
         have HFF := As hF
         clear hF
         go_wp2_with (first | (go_at_call 56; (with_reducible refine (hdg HB0_).mono ?_); rintro e w4 ⟨rfl, hb4⟩; obtain ⟨HX4, HN4, HB4⟩ := trj HX3 HN3 HB3 hb4; have hq1_ := cs11 HX4.out; have hq2_ := cs10 HN4.out; have a6_ : w4.cell? ⟨g, 7, none⟩ = some (.int .i64 f.d1) := HN4.out.at_ 7) | (go_at_call 56; (with_reducible refine (hdg HB1_).mono ?_); rintro e w5 ⟨rfl, hb5⟩; obtain ⟨HX5, HN5, HB5⟩ := trj HX4 HN4 HB4 hb5; have hq3_ := cs11 HX5.out; have hq4_ := cs10 HN5.out; have a7_ : w5.cell? ⟨g, 7, none⟩ = some (.int .i64 f.d1) := HN5.out.at_ 7) | (go_at_call 56; (with_reducible refine (hdg HB2_).mono ?_); rintro e w6 ⟨rfl, hb6⟩; obtain ⟨HX6, HN6, HB6⟩ := trj HX5 HN5 HB5 hb6; have hq5_ := cs11 HX6.out; have hq6_ := cs10 HN6.out; have b0_ : w6.cell? ⟨g, 7, none⟩ = some (.int .i64 f.d1) := HN6.out.at_ 7) | (go_at_call 56; (with_reducible refine (lim_holds.calls f.d0 f.d1 (wrap64 (Int.tdiv x.f9 3)) true _ (by rw [holds_is]; exact congrArg some HB3_.out)).mono ?_); rintro e w7 ⟨rfl, hb7⟩; obtain ⟨HX7, HN7, HB7⟩ := trj HX6 HN6 HB6 hb7; have hq7_ := cs11 HX7.out; have hq8_ := cs10 HN7.out; have b1_ : w7.cell? ⟨g, 7, none⟩ = some (.int .i64 f.d1) := HN7.out.at_ 7))
         go_ret
         exact ⟨by (first | (rw [HR.out, HFF.out]; done) | simp [HR.out, HFF.out]), HB7.out⟩
    ·have d4 : (Int.tmod x.f9 3 == 1) = false := beq_eq_false_iff_ne.mpr e2
     have d5 : (Int.tmod x.f9 3 != 1) = true := bne_iff_ne.mpr e2
     have HE2 := As e2
     clear e1 e2
     have hF : fitsB x = false := by rw [HFE.out, if_neg HCT.out, if_pos HLK.out, if_pos (.inr HE2.out)]
     have HFF := As hF
     clear hF
     go_wp2
     go_ret
     exact ⟨by (first | (rw [HR.out, HFF.out]; done) | simp [HR.out, HFF.out]), HB3.out⟩
  | false =>
   rw [hlk] at y9
   have HLK : Aside0 (¬ f.lk = true) := ⟨by rw [hlk]; decide⟩
   clear hlk
   go_upto_region 12 with (fail)
   (try simp only [i64_w])
   cases hb_0 : holdsB f.a0 f.a1 (x.f6) with
   | false =>
    have HB0_ := As hb_0
    clear hb_0
    have hF : fitsB x = false := by
     rw [HFE.out, if_neg HCT.out, if_neg HLK.out]
     unfold Fm.allB
     rw [HB0_.out]
     rfl
    have HFF := As hF
    clear hF
    go_wp2_with (first | (go_at_call 56; (with_reducible refine (hdg HB0_).mono ?_); rintro e w4 ⟨rfl, hb4⟩; obtain ⟨HX4, HN4, HB4⟩ := trj HX3 HN3 HB3 hb4; have hq1_ := cs11 HX4.out; have hq2_ := cs10 HN4.out; have a6_ : w4.cell? ⟨g, 7, none⟩ = some (.int .i64 f.d1) := HN4.out.at_ 7))
    go_ret
    exact ⟨by (first | (rw [HR.out, HFF.out]; done) | simp [HR.out, HFF.out]), HB4.out⟩
   | true =>
    have HB0_ := As hb_0
    clear hb_0
    cases hb_1 : holdsB f.b0 f.b1 (x.f7) with
    | false =>
     have HB1_ := As hb_1
     clear hb_1
     have hF : fitsB x = false := by
      rw [HFE.out, if_neg HCT.out, if_neg HLK.out]
      unfold Fm.allB
      rw [HB0_.out, HB1_.out]
      rfl
     have HFF := As hF
     clear hF
     go_wp2_with (first | (go_at_call 56; (with_reducible refine (hdg HB0_).mono ?_); rintro e w4 ⟨rfl, hb4⟩; obtain ⟨HX4, HN4, HB4⟩ := trj HX3 HN3 HB3 hb4; have hq1_ := cs11 HX4.out; have hq2_ := cs10 HN4.out; have a6_ : w4.cell? ⟨g, 7, none⟩ = some (.int .i64 f.d1) := HN4.out.at_ 7) | (go_at_call 56; (with_reducible refine (hdg HB1_).mono ?_); rintro e w5 ⟨rfl, hb5⟩; obtain ⟨HX5, HN5, HB5⟩ := trj HX4 HN4 HB4 hb5; have hq3_ := cs11 HX5.out; have hq4_ := cs10 HN5.out; have a7_ : w5.cell? ⟨g, 7, none⟩ = some (.int .i64 f.d1) := HN5.out.at_ 7))
     go_ret
     exact ⟨by (first | (rw [HR.out, HFF.out]; done) | simp [HR.out, HFF.out]), HB5.out⟩
    | true =>
     have HB1_ := As hb_1
     clear hb_1
     cases hb_2 : holdsB f.c0 f.c1 (x.f8) with
     | false =>
      have HB2_ := As hb_2
      clear hb_2
      have hF : fitsB x = false := by
       rw [HFE.out, if_neg HCT.out, if_neg HLK.out]
       unfold Fm.allB
       rw [HB0_.out, HB1_.out, HB2_.out]
       rfl
      have HFF := As hF
      clear hF
      go_wp2_with (first | (go_at_call 56; (with_reducible refine (hdg HB0_).mono ?_); rintro e w4 ⟨rfl, hb4⟩; obtain ⟨HX4, HN4, HB4⟩ := trj HX3 HN3 HB3 hb4; have hq1_ := cs11 HX4.out; have hq2_ := cs10 HN4.out; have a6_ : w4.cell? ⟨g, 7, none⟩ = some (.int .i64 f.d1) := HN4.out.at_ 7) | (go_at_call 56; (with_reducible refine (hdg HB1_).mono ?_); rintro e w5 ⟨rfl, hb5⟩; obtain ⟨HX5, HN5, HB5⟩ := trj HX4 HN4 HB4 hb5; have hq3_ := cs11 HX5.out; have hq4_ := cs10 HN5.out; have a7_ : w5.cell? ⟨g, 7, none⟩ = some (.int .i64 f.d1) := HN5.out.at_ 7) | (go_at_call 56; (with_reducible refine (hdg HB2_).mono ?_); rintro e w6 ⟨rfl, hb6⟩; obtain ⟨HX6, HN6, HB6⟩ := trj HX5 HN5 HB5 hb6; have hq5_ := cs11 HX6.out; have hq6_ := cs10 HN6.out; have b0_ : w6.cell? ⟨g, 7, none⟩ = some (.int .i64 f.d1) := HN6.out.at_ 7))
      go_ret
      exact ⟨by (first | (rw [HR.out, HFF.out]; done) | simp [HR.out, HFF.out]), HB6.out⟩
     | true =>
      have HB2_ := As hb_2
      clear hb_2
      cases hb_3 : holdsB f.d0 f.d1 (x.f9) with
      | false =>
       have HB3_ := As hb_3
       clear hb_3
       have hF : fitsB x = false := by
        rw [HFE.out, if_neg HCT.out, if_neg HLK.out]
        unfold Fm.allB
        rw [HB0_.out, HB1_.out, HB2_.out, HB3_.out]
        rfl
       have HFF := As hF
       clear hF
       go_wp2_with (first | (go_at_call 56; (with_reducible refine (hdg HB0_).mono ?_); rintro e w4 ⟨rfl, hb4⟩; obtain ⟨HX4, HN4, HB4⟩ := trj HX3 HN3 HB3 hb4; have hq1_ := cs11 HX4.out; have hq2_ := cs10 HN4.out; have a6_ : w4.cell? ⟨g, 7, none⟩ = some (.int .i64 f.d1) := HN4.out.at_ 7) | (go_at_call 56; (with_reducible refine (hdg HB1_).mono ?_); rintro e w5 ⟨rfl, hb5⟩; obtain ⟨HX5, HN5, HB5⟩ := trj HX4 HN4 HB4 hb5; have hq3_ := cs11 HX5.out; have hq4_ := cs10 HN5.out; have a7_ : w5.cell? ⟨g, 7, none⟩ = some (.int .i64 f.d1) := HN5.out.at_ 7) | (go_at_call 56; (with_reducible refine (hdg HB2_).mono ?_); rintro e w6 ⟨rfl, hb6⟩; obtain ⟨HX6, HN6, HB6⟩ := trj HX5 HN5 HB5 hb6; have hq5_ := cs11 HX6.out; have hq6_ := cs10 HN6.out; have b0_ : w6.cell? ⟨g, 7, none⟩ = some (.int .i64 f.d1) := HN6.out.at_ 7) | (go_at_call 56; (with_reducible refine (hdg HB3_).mono ?_); rintro e w7 ⟨rfl, hb7⟩; obtain ⟨HX7, HN7, HB7⟩ := trj HX6 HN6 HB6 hb7; have hq7_ := cs11 HX7.out; have hq8_ := cs10 HN7.out; have b1_ : w7.cell? ⟨g, 7, none⟩ = some (.int .i64 f.d1) := HN7.out.at_ 7))
       go_ret
       exact ⟨by (first | (rw [HR.out, HFF.out]; done) | simp [HR.out, HFF.out]), HB7.out⟩
      | true =>
       have HB3_ := As hb_3
       clear hb_3
       have hF : fitsB x = true := by
        rw [HFE.out, if_neg HCT.out, if_neg HLK.out]
        unfold Fm.allB
        rw [HB0_.out, HB1_.out, HB2_.out, HB3_.out]
        rfl
       have HFF := As hF
       clear hF
       go_wp2_with (first | (go_at_call 56; (with_reducible refine (hdg HB0_).mono ?_); rintro e w4 ⟨rfl, hb4⟩; obtain ⟨HX4, HN4, HB4⟩ := trj HX3 HN3 HB3 hb4; have hq1_ := cs11 HX4.out; have hq2_ := cs10 HN4.out; have a6_ : w4.cell? ⟨g, 7, none⟩ = some (.int .i64 f.d1) := HN4.out.at_ 7) | (go_at_call 56; (with_reducible refine (hdg HB1_).mono ?_); rintro e w5 ⟨rfl, hb5⟩; obtain ⟨HX5, HN5, HB5⟩ := trj HX4 HN4 HB4 hb5; have hq3_ := cs11 HX5.out; have hq4_ := cs10 HN5.out; have a7_ : w5.cell? ⟨g, 7, none⟩ = some (.int .i64 f.d1) := HN5.out.at_ 7) | (go_at_call 56; (with_reducible refine (hdg HB2_).mono ?_); rintro e w6 ⟨rfl, hb6⟩; obtain ⟨HX6, HN6, HB6⟩ := trj HX5 HN5 HB5 hb6; have hq5_ := cs11 HX6.out; have hq6_ := cs10 HN6.out; have b0_ : w6.cell? ⟨g, 7, none⟩ = some (.int .i64 f.d1) := HN6.out.at_ 7) | (go_at_call 56; (with_reducible refine (hdg HB3_).mono ?_); rintro e w7 ⟨rfl, hb7⟩; obtain ⟨HX7, HN7, HB7⟩ := trj HX6 HN6 HB6 hb7; have hq7_ := cs11 HX7.out; have hq8_ := cs10 HN7.out; have b1_ : w7.cell? ⟨g, 7, none⟩ = some (.int .i64 f.d1) := HN7.out.at_ 7))
       go_ret
       exact ⟨by (first | (rw [HR.out, HFF.out]; done) | simp [HR.out, HFF.out]), HB7.out⟩
theorem fits_at (x : S51) (W : World) (hG : GW W) (b : Bool) (h : fitsB x = b) : Calls Tryd.prog 66 #[.agg #[x.f0, x.f1, x.f2, x.f3, x.f4, x.f5, x.f6, x.f7, x.f8, x.f9, x.f10]] W fun e w' => e = .returned (.bool b) ∧ Below W.heap.size W w' := by
 subst h
 exact fits.calls x W hG
def validB (x : S51) : Bool := (holdsB 1 2147483646 x.f0 && (holdsB 1 2147483646 x.f1 && ((x.f0 != x.f1) && (decide (1 ≤ x.f2) && (decide (x.f2 ≤ 256) && (holdsB 0 2147483646 x.f3 && ((decide (1 < x.f2) || (x.f3 == 0)) && (decide (0 ≤ x.f4) && (decide (x.f4 ≤ 1048576) && (holdsB 0 2147483646 x.f10 && fitsB x))))))))))
set_option maxHeartbeats 16000000 in
set_option maxRecDepth 100000 in
theorem valid.calls (x : S51) (W : World) (hG : GW W) :
 Calls Tryd.prog 53 #[.agg #[x.f0, x.f1, x.f2, x.f3, x.f4, x.f5, x.f6, x.f7, x.f8, x.f9, x.f10]] W fun e w' => e = .returned (.bool (validB x)) ∧ Below W.heap.size W w' := by
 have hu := Tryd.underlying51
 have hl := Tryd.underlying27
 obtain ⟨W0, hW0⟩ : ∃ W1, W1 = W.alloc (.cells #[x.f0, x.f1, x.f2, x.f3, x.f4, x.f5, x.f6, x.f7, x.f8, x.f9, x.f10] 51) := ⟨_, rfl⟩
 have hX0 : BlkIs W0 W.heap.size 51 [x.f0, x.f1, x.f2, x.f3, x.f4, x.f5, x.f6, x.f7, x.f8, x.f9, x.f10] := by rw [hW0]; exact heap_alloc_new W _
 have hb0 : Below W.heap.size W W0 := by rw [hW0]; exact below_alloc (Below.refl _ _) _
 have HX0 := As hX0
 have HB0 := As hb0
 have HG0 := As (hG.below hb0)
 have HW := As hW0
 clear hX0 hb0 hG hW0
 obtain ⟨r, hr⟩ : ∃ r, r = validB x := ⟨_, rfl⟩
 rw [← hr]
 have HR := As hr
 clear hr
 cases ht0 : holdsB 1 2147483646 x.f0 with
 | false =>
  have HT0 := As ht0
  clear ht0
  have hF : validB x = false := by
   unfold validB
   rw [HT0.out]
   rfl
  have HFF := As hF
  clear hF
  go_enter Tryd.func53, Tryd.ntmps53
  go_upto_region 1 with (fail)
  rw [← HW.out]
  have hq9_ := cs11 HX0.out
  obtain ⟨p0_0, p1_0, a0_, a1_⟩ := HG0.out.four
  go_wp2_with (first | (go_at_call 56; (with_reducible refine (hdg HT0).mono ?_); rintro e w1 ⟨rfl, hb1⟩; obtain ⟨HX1, HG1, HB1⟩ := tri HX0 HG0 HB0 hb1; have hq10_ := cs11 HX1.out; obtain ⟨p0_1, p1_1, a2_, a3_⟩ := HG1.out.four))
  go_ret
  exact ⟨by (first | (rw [HR.out, HFF.out]; done) | simp [HR.out, HFF.out]), HB1.out⟩
 | true =>
  have HT0 := As ht0
  clear ht0
  cases ht1 : holdsB 1 2147483646 x.f1 with
  | false =>
   have HT1 := As ht1
   clear ht1
   have hF : validB x = false := by
    unfold validB
    rw [HT0.out, HT1.out]
    rfl
   have HFF := As hF
   clear hF
   go_enter Tryd.func53, Tryd.ntmps53
   go_upto_region 1 with (fail)
   rw [← HW.out]
   have hq9_ := cs11 HX0.out
   obtain ⟨p0_0, p1_0, a0_, a1_⟩ := HG0.out.four
   go_wp2_with (first | (go_at_call 56; (with_reducible refine (hdg HT0).mono ?_); rintro e w1 ⟨rfl, hb1⟩; obtain ⟨HX1, HG1, HB1⟩ := tri HX0 HG0 HB0 hb1; have hq10_ := cs11 HX1.out; obtain ⟨p0_1, p1_1, a2_, a3_⟩ := HG1.out.four) | (go_at_call 56; (with_reducible refine (hdg HT1).mono ?_); rintro e w2 ⟨rfl, hb2⟩; obtain ⟨HX2, HG2, HB2⟩ := tri HX1 HG1 HB1 hb2; have hq11_ := cs11 HX2.out; obtain ⟨p0_2, p1_2, a4_, a5_⟩ := HG2.out.four))
   go_ret
   exact ⟨by (first | (rw [HR.out, HFF.out]; done) | simp [HR.out, HFF.out]), HB2.out⟩
  | true =>
   have HT1 := As ht1
   clear ht1
   cases ht2 : (x.f0 != x.f1) with
   | false =>
    have HT2 := As ht2
    have hF : validB x = false := by
     unfold validB
     rw [HT0.out, HT1.out, HT2.out]
     rfl
    have HFF := As hF
    clear hF
    go_enter Tryd.func53, Tryd.ntmps53
    go_upto_region 1 with (fail)
    rw [← HW.out]
    have hq9_ := cs11 HX0.out
    obtain ⟨p0_0, p1_0, a0_, a1_⟩ := HG0.out.four
    go_wp2_with (first | (go_at_call 56; (with_reducible refine (hdg HT0).mono ?_); rintro e w1 ⟨rfl, hb1⟩; obtain ⟨HX1, HG1, HB1⟩ := tri HX0 HG0 HB0 hb1; have hq10_ := cs11 HX1.out; obtain ⟨p0_1, p1_1, a2_, a3_⟩ := HG1.out.four) | (go_at_call 56; (with_reducible refine (hdg HT1).mono ?_); rintro e w2 ⟨rfl, hb2⟩; obtain ⟨HX2, HG2, HB2⟩ := tri HX1 HG1 HB1 hb2; have hq11_ := cs11 HX2.out; obtain ⟨p0_2, p1_2, a4_, a5_⟩ := HG2.out.four))
    go_ret
    exact ⟨by (first | (rw [HR.out, HFF.out]; done) | simp [HR.out, HFF.out]), HB2.out⟩
   | true =>
    have HT2 := As ht2
    cases ht3 : decide (1 ≤ x.f2) with
    | false =>
     have HT3 := As ht3
     have hF : validB x = false := by
      unfold validB
      rw [HT0.out, HT1.out, HT2.out, HT3.out]
      rfl
     have HFF := As hF
     clear hF
     go_enter Tryd.func53, Tryd.ntmps53
     go_upto_region 1 with (fail)
     rw [← HW.out]
     have hq9_ := cs11 HX0.out
     obtain ⟨p0_0, p1_0, a0_, a1_⟩ := HG0.out.four
     go_wp2_with (first | (go_at_call 56; (with_reducible refine (hdg HT0).mono ?_); rintro e w1 ⟨rfl, hb1⟩; obtain ⟨HX1, HG1, HB1⟩ := tri HX0 HG0 HB0 hb1; have hq10_ := cs11 HX1.out; obtain ⟨p0_1, p1_1, a2_, a3_⟩ := HG1.out.four) | (go_at_call 56; (with_reducible refine (hdg HT1).mono ?_); rintro e w2 ⟨rfl, hb2⟩; obtain ⟨HX2, HG2, HB2⟩ := tri HX1 HG1 HB1 hb2; have hq11_ := cs11 HX2.out; obtain ⟨p0_2, p1_2, a4_, a5_⟩ := HG2.out.four))
     go_ret
     exact ⟨by (first | (rw [HR.out, HFF.out]; done) | simp [HR.out, HFF.out]), HB2.out⟩
    | true =>
     have HT3 := As ht3
     cases ht4 : decide (x.f2 ≤ 256) with
     | false =>
      have HT4 := As ht4
      have hF : validB x = false := by
       unfold validB
       rw [HT0.out, HT1.out, HT2.out, HT3.out, HT4.out]
       rfl
      have HFF := As hF
      clear hF
      go_enter Tryd.func53, Tryd.ntmps53
      go_upto_region 1 with (fail)
      rw [← HW.out]
      have hq9_ := cs11 HX0.out
      obtain ⟨p0_0, p1_0, a0_, a1_⟩ := HG0.out.four
      go_wp2_with (first | (go_at_call 56; (with_reducible refine (hdg HT0).mono ?_); rintro e w1 ⟨rfl, hb1⟩; obtain ⟨HX1, HG1, HB1⟩ := tri HX0 HG0 HB0 hb1; have hq10_ := cs11 HX1.out; obtain ⟨p0_1, p1_1, a2_, a3_⟩ := HG1.out.four) | (go_at_call 56; (with_reducible refine (hdg HT1).mono ?_); rintro e w2 ⟨rfl, hb2⟩; obtain ⟨HX2, HG2, HB2⟩ := tri HX1 HG1 HB1 hb2; have hq11_ := cs11 HX2.out; obtain ⟨p0_2, p1_2, a4_, a5_⟩ := HG2.out.four))
      go_ret
      exact ⟨by (first | (rw [HR.out, HFF.out]; done) | simp [HR.out, HFF.out]), HB2.out⟩
     | true =>
      have HT4 := As ht4
      cases ht5 : holdsB 0 2147483646 x.f3 with
      | false =>
       have HT5 := As ht5
       clear ht5
       have hF : validB x = false := by
        unfold validB
        rw [HT0.out, HT1.out, HT2.out, HT3.out, HT4.out, HT5.out]
        rfl
       have HFF := As hF
       clear hF
       go_enter Tryd.func53, Tryd.ntmps53
       go_upto_region 1 with (fail)
       rw [← HW.out]
       have hq9_ := cs11 HX0.out
       obtain ⟨p0_0, p1_0, a0_, a1_⟩ := HG0.out.four
       go_wp2_with (first | (go_at_call 56; (with_reducible refine (hdg HT0).mono ?_); rintro e w1 ⟨rfl, hb1⟩; obtain ⟨HX1, HG1, HB1⟩ := tri HX0 HG0 HB0 hb1; have hq10_ := cs11 HX1.out; obtain ⟨p0_1, p1_1, a2_, a3_⟩ := HG1.out.four) | (go_at_call 56; (with_reducible refine (hdg HT1).mono ?_); rintro e w2 ⟨rfl, hb2⟩; obtain ⟨HX2, HG2, HB2⟩ := tri HX1 HG1 HB1 hb2; have hq11_ := cs11 HX2.out; obtain ⟨p0_2, p1_2, a4_, a5_⟩ := HG2.out.four) | (go_at_call 56; (with_reducible refine (hdg HT5).mono ?_); rintro e w3 ⟨rfl, hb3⟩; obtain ⟨HX3, HG3, HB3⟩ := tri HX2 HG2 HB2 hb3; have hq12_ := cs11 HX3.out; obtain ⟨p0_3, p1_3, a8_, a9_⟩ := HG3.out.four))
       go_ret
       exact ⟨by (first | (rw [HR.out, HFF.out]; done) | simp [HR.out, HFF.out]), HB3.out⟩
      | true =>
       have HT5 := As ht5
       clear ht5
       cases hl_ : decide (1 < x.f2) with
       | true =>
        have HT6 : Aside0 ((decide (1 < x.f2) || (x.f3 == 0)) = true) := ⟨by rw [hl_]; rfl⟩
        cases ht7 : decide (0 ≤ x.f4) with
        | false =>
         have HT7 := As ht7
         have hF : validB x = false := by
          unfold validB
          rw [HT0.out, HT1.out, HT2.out, HT3.out, HT4.out, HT5.out, HT6.out, HT7.out]
          rfl
         have HFF := As hF
         clear hF
         go_enter Tryd.func53, Tryd.ntmps53
         go_upto_region 1 with (fail)
         rw [← HW.out]
         have hq9_ := cs11 HX0.out
         obtain ⟨p0_0, p1_0, a0_, a1_⟩ := HG0.out.four
         go_wp2_with (first | (go_at_call 56; (with_reducible refine (hdg HT0).mono ?_); rintro e w1 ⟨rfl, hb1⟩; obtain ⟨HX1, HG1, HB1⟩ := tri HX0 HG0 HB0 hb1; have hq10_ := cs11 HX1.out; obtain ⟨p0_1, p1_1, a2_, a3_⟩ := HG1.out.four) | (go_at_call 56; (with_reducible refine (hdg HT1).mono ?_); rintro e w2 ⟨rfl, hb2⟩; obtain ⟨HX2, HG2, HB2⟩ := tri HX1 HG1 HB1 hb2; have hq11_ := cs11 HX2.out; obtain ⟨p0_2, p1_2, a4_, a5_⟩ := HG2.out.four) | (go_at_call 56; (with_reducible refine (hdg HT5).mono ?_); rintro e w3 ⟨rfl, hb3⟩; obtain ⟨HX3, HG3, HB3⟩ := tri HX2 HG2 HB2 hb3; have hq12_ := cs11 HX3.out; obtain ⟨p0_3, p1_3, a8_, a9_⟩ := HG3.out.four))
         go_ret
         exact ⟨by (first | (rw [HR.out, HFF.out]; done) | simp [HR.out, HFF.out]), HB3.out⟩
        | true =>
         have HT7 := As ht7
         cases ht8 : decide (x.f4 ≤ 1048576) with
         | false =>
          have HT8 := As ht8
          have hF : validB x = false := by
           unfold validB
           rw [HT0.out, HT1.out, HT2.out, HT3.out, HT4.out, HT5.out, HT6.out, HT7.out, HT8.out]
           rfl
          have HFF := As hF
          clear hF
          go_enter Tryd.func53, Tryd.ntmps53
          go_upto_region 1 with (fail)
          rw [← HW.out]
          have hq9_ := cs11 HX0.out
          obtain ⟨p0_0, p1_0, a0_, a1_⟩ := HG0.out.four
          go_wp2_with (first | (go_at_call 56; (with_reducible refine (hdg HT0).mono ?_); rintro e w1 ⟨rfl, hb1⟩; obtain ⟨HX1, HG1, HB1⟩ := tri HX0 HG0 HB0 hb1; have hq10_ := cs11 HX1.out; obtain ⟨p0_1, p1_1, a2_, a3_⟩ := HG1.out.four) | (go_at_call 56; (with_reducible refine (hdg HT1).mono ?_); rintro e w2 ⟨rfl, hb2⟩; obtain ⟨HX2, HG2, HB2⟩ := tri HX1 HG1 HB1 hb2; have hq11_ := cs11 HX2.out; obtain ⟨p0_2, p1_2, a4_, a5_⟩ := HG2.out.four) | (go_at_call 56; (with_reducible refine (hdg HT5).mono ?_); rintro e w3 ⟨rfl, hb3⟩; obtain ⟨HX3, HG3, HB3⟩ := tri HX2 HG2 HB2 hb3; have hq12_ := cs11 HX3.out; obtain ⟨p0_3, p1_3, a8_, a9_⟩ := HG3.out.four))
          go_ret
          exact ⟨by (first | (rw [HR.out, HFF.out]; done) | simp [HR.out, HFF.out]), HB3.out⟩
         | true =>
          have HT8 := As ht8
          cases ht9 : holdsB 0 2147483646 x.f10 with
          | false =>
           have HT9 := As ht9
           clear ht9
           have hF : validB x = false := by
            unfold validB
            rw [HT0.out, HT1.out, HT2.out, HT3.out, HT4.out, HT5.out, HT6.out, HT7.out, HT8.out, HT9.out]
            rfl
           have HFF := As hF
           clear hF
           go_enter Tryd.func53, Tryd.ntmps53
           go_upto_region 1 with (fail)
           rw [← HW.out]
           have hq9_ := cs11 HX0.out
           obtain ⟨p0_0, p1_0, a0_, a1_⟩ := HG0.out.four
           go_wp2_with (first | (go_at_call 56; (with_reducible refine (hdg HT0).mono ?_); rintro e w1 ⟨rfl, hb1⟩; obtain ⟨HX1, HG1, HB1⟩ := tri HX0 HG0 HB0 hb1; have hq10_ := cs11 HX1.out; obtain ⟨p0_1, p1_1, a2_, a3_⟩ := HG1.out.four) | (go_at_call 56; (with_reducible refine (hdg HT1).mono ?_); rintro e w2 ⟨rfl, hb2⟩; obtain ⟨HX2, HG2, HB2⟩ := tri HX1 HG1 HB1 hb2; have hq11_ := cs11 HX2.out; obtain ⟨p0_2, p1_2, a4_, a5_⟩ := HG2.out.four) | (go_at_call 56; (with_reducible refine (hdg HT5).mono ?_); rintro e w3 ⟨rfl, hb3⟩; obtain ⟨HX3, HG3, HB3⟩ := tri HX2 HG2 HB2 hb3; have hq12_ := cs11 HX3.out; obtain ⟨p0_3, p1_3, a8_, a9_⟩ := HG3.out.four) | (go_at_call 56; (with_reducible refine (hdg HT9).mono ?_); rintro e w4 ⟨rfl, hb4⟩; obtain ⟨HX4, HG4, HB4⟩ := tri HX3 HG3 HB3 hb4; have hq13_ := cs11 HX4.out; obtain ⟨p0_4, p1_4, b2_, b3_⟩ := HG4.out.four))
           go_ret
           exact ⟨by (first | (rw [HR.out, HFF.out]; done) | simp [HR.out, HFF.out]), HB4.out⟩
          | true =>
           have HT9 := As ht9
           clear ht9
           cases ht10 : fitsB x with
           | false =>
            have HT10 := As ht10
            clear ht10
            have hF : validB x = false := by
             unfold validB
             rw [HT0.out, HT1.out, HT2.out, HT3.out, HT4.out, HT5.out, HT6.out, HT7.out, HT8.out, HT9.out, HT10.out]
             rfl
            have HFF := As hF
            clear hF
            go_enter Tryd.func53, Tryd.ntmps53
            go_upto_region 1 with (fail)
            rw [← HW.out]
            have hq9_ := cs11 HX0.out
            obtain ⟨p0_0, p1_0, a0_, a1_⟩ := HG0.out.four
            go_wp2_with (first | (go_at_call 56; (with_reducible refine (hdg HT0).mono ?_); rintro e w1 ⟨rfl, hb1⟩; obtain ⟨HX1, HG1, HB1⟩ := tri HX0 HG0 HB0 hb1; have hq10_ := cs11 HX1.out; obtain ⟨p0_1, p1_1, a2_, a3_⟩ := HG1.out.four) | (go_at_call 56; (with_reducible refine (hdg HT1).mono ?_); rintro e w2 ⟨rfl, hb2⟩; obtain ⟨HX2, HG2, HB2⟩ := tri HX1 HG1 HB1 hb2; have hq11_ := cs11 HX2.out; obtain ⟨p0_2, p1_2, a4_, a5_⟩ := HG2.out.four) | (go_at_call 56; (with_reducible refine (hdg HT5).mono ?_); rintro e w3 ⟨rfl, hb3⟩; obtain ⟨HX3, HG3, HB3⟩ := tri HX2 HG2 HB2 hb3; have hq12_ := cs11 HX3.out; obtain ⟨p0_3, p1_3, a8_, a9_⟩ := HG3.out.four) | (go_at_call 56; (with_reducible refine (hdg HT9).mono ?_); rintro e w4 ⟨rfl, hb4⟩; obtain ⟨HX4, HG4, HB4⟩ := tri HX3 HG3 HB3 hb4; have hq13_ := cs11 HX4.out; obtain ⟨p0_4, p1_4, b2_, b3_⟩ := HG4.out.four) | (go_at_call 66; (with_reducible refine (fits_at x _ HG4.out false HT10.out).mono ?_); rintro e w5 ⟨rfl, hb5⟩; obtain ⟨HX5, HG5, HB5⟩ := tri HX4 HG4 HB4 hb5; have hq14_ := cs11 HX5.out; obtain ⟨p0_5, p1_5, b4_, b5_⟩ := HG5.out.four))
            go_ret
            exact ⟨by (first | (rw [HR.out, HFF.out]; done) | simp [HR.out, HFF.out]), HB5.out⟩
           | true =>
            have HT10 := As ht10
            clear ht10
            have hF : validB x = true := by
             unfold validB
             rw [HT0.out, HT1.out, HT2.out, HT3.out, HT4.out, HT5.out, HT6.out, HT7.out, HT8.out, HT9.out, HT10.out]
             rfl
            have HFF := As hF
            clear hF
            go_enter Tryd.func53, Tryd.ntmps53
            go_upto_region 1 with (fail)
            rw [← HW.out]
            have hq9_ := cs11 HX0.out
            obtain ⟨p0_0, p1_0, a0_, a1_⟩ := HG0.out.four
            go_wp2_with (first | (go_at_call 56; (with_reducible refine (hdg HT0).mono ?_); rintro e w1 ⟨rfl, hb1⟩; obtain ⟨HX1, HG1, HB1⟩ := tri HX0 HG0 HB0 hb1; have hq10_ := cs11 HX1.out; obtain ⟨p0_1, p1_1, a2_, a3_⟩ := HG1.out.four) | (go_at_call 56; (with_reducible refine (hdg HT1).mono ?_); rintro e w2 ⟨rfl, hb2⟩; obtain ⟨HX2, HG2, HB2⟩ := tri HX1 HG1 HB1 hb2; have hq11_ := cs11 HX2.out; obtain ⟨p0_2, p1_2, a4_, a5_⟩ := HG2.out.four) | (go_at_call 56; (with_reducible refine (hdg HT5).mono ?_); rintro e w3 ⟨rfl, hb3⟩; obtain ⟨HX3, HG3, HB3⟩ := tri HX2 HG2 HB2 hb3; have hq12_ := cs11 HX3.out; obtain ⟨p0_3, p1_3, a8_, a9_⟩ := HG3.out.four) | (go_at_call 56; (with_reducible refine (hdg HT9).mono ?_); rintro e w4 ⟨rfl, hb4⟩; obtain ⟨HX4, HG4, HB4⟩ := tri HX3 HG3 HB3 hb4; have hq13_ := cs11 HX4.out; obtain ⟨p0_4, p1_4, b2_, b3_⟩ := HG4.out.four) | (go_at_call 66; (with_reducible refine (fits_at x _ HG4.out true HT10.out).mono ?_); rintro e w5 ⟨rfl, hb5⟩; obtain ⟨HX5, HG5, HB5⟩ := tri HX4 HG4 HB4 hb5; have hq14_ := cs11 HX5.out; obtain ⟨p0_5, p1_5, b4_, b5_⟩ := HG5.out.four))
            go_ret
            exact ⟨by (first | (rw [HR.out, HFF.out]; done) | simp [HR.out, HFF.out]), HB5.out⟩
       | false =>
        cases hr_ : (x.f3 == 0) with
        | true =>
         have HT6 : Aside0 ((decide (1 < x.f2) || (x.f3 == 0)) = true) := ⟨by rw [hl_, hr_]; rfl⟩
         cases ht7 : decide (0 ≤ x.f4) with
         | false =>
          have HT7 := As ht7
          have hF : validB x = false := by
           unfold validB
           rw [HT0.out, HT1.out, HT2.out, HT3.out, HT4.out, HT5.out, HT6.out, HT7.out]
           rfl
          have HFF := As hF
          clear hF
          go_enter Tryd.func53, Tryd.ntmps53
          go_upto_region 1 with (fail)
          rw [← HW.out]
          have hq9_ := cs11 HX0.out
          obtain ⟨p0_0, p1_0, a0_, a1_⟩ := HG0.out.four
          go_wp2_with (first | (go_at_call 56; (with_reducible refine (hdg HT0).mono ?_); rintro e w1 ⟨rfl, hb1⟩; obtain ⟨HX1, HG1, HB1⟩ := tri HX0 HG0 HB0 hb1; have hq10_ := cs11 HX1.out; obtain ⟨p0_1, p1_1, a2_, a3_⟩ := HG1.out.four) | (go_at_call 56; (with_reducible refine (hdg HT1).mono ?_); rintro e w2 ⟨rfl, hb2⟩; obtain ⟨HX2, HG2, HB2⟩ := tri HX1 HG1 HB1 hb2; have hq11_ := cs11 HX2.out; obtain ⟨p0_2, p1_2, a4_, a5_⟩ := HG2.out.four) | (go_at_call 56; (with_reducible refine (hdg HT5).mono ?_); rintro e w3 ⟨rfl, hb3⟩; obtain ⟨HX3, HG3, HB3⟩ := tri HX2 HG2 HB2 hb3; have hq12_ := cs11 HX3.out; obtain ⟨p0_3, p1_3, a8_, a9_⟩ := HG3.out.four))
          go_ret
          exact ⟨by (first | (rw [HR.out, HFF.out]; done) | simp [HR.out, HFF.out]), HB3.out⟩
         | true =>
          have HT7 := As ht7
          cases ht8 : decide (x.f4 ≤ 1048576) with
          | false =>
           have HT8 := As ht8
           have hF : validB x = false := by
            unfold validB
            rw [HT0.out, HT1.out, HT2.out, HT3.out, HT4.out, HT5.out, HT6.out, HT7.out, HT8.out]
            rfl
           have HFF := As hF
           clear hF
           go_enter Tryd.func53, Tryd.ntmps53
           go_upto_region 1 with (fail)
           rw [← HW.out]
           have hq9_ := cs11 HX0.out
           obtain ⟨p0_0, p1_0, a0_, a1_⟩ := HG0.out.four
           go_wp2_with (first | (go_at_call 56; (with_reducible refine (hdg HT0).mono ?_); rintro e w1 ⟨rfl, hb1⟩; obtain ⟨HX1, HG1, HB1⟩ := tri HX0 HG0 HB0 hb1; have hq10_ := cs11 HX1.out; obtain ⟨p0_1, p1_1, a2_, a3_⟩ := HG1.out.four) | (go_at_call 56; (with_reducible refine (hdg HT1).mono ?_); rintro e w2 ⟨rfl, hb2⟩; obtain ⟨HX2, HG2, HB2⟩ := tri HX1 HG1 HB1 hb2; have hq11_ := cs11 HX2.out; obtain ⟨p0_2, p1_2, a4_, a5_⟩ := HG2.out.four) | (go_at_call 56; (with_reducible refine (hdg HT5).mono ?_); rintro e w3 ⟨rfl, hb3⟩; obtain ⟨HX3, HG3, HB3⟩ := tri HX2 HG2 HB2 hb3; have hq12_ := cs11 HX3.out; obtain ⟨p0_3, p1_3, a8_, a9_⟩ := HG3.out.four))
           go_ret
           exact ⟨by (first | (rw [HR.out, HFF.out]; done) | simp [HR.out, HFF.out]), HB3.out⟩
          | true =>
           have HT8 := As ht8
           cases ht9 : holdsB 0 2147483646 x.f10 with
           | false =>
            have HT9 := As ht9
            clear ht9
            have hF : validB x = false := by
             unfold validB
             rw [HT0.out, HT1.out, HT2.out, HT3.out, HT4.out, HT5.out, HT6.out, HT7.out, HT8.out, HT9.out]
             rfl
            have HFF := As hF
            clear hF
            go_enter Tryd.func53, Tryd.ntmps53
            go_upto_region 1 with (fail)
            rw [← HW.out]
            have hq9_ := cs11 HX0.out
            obtain ⟨p0_0, p1_0, a0_, a1_⟩ := HG0.out.four
            go_wp2_with (first | (go_at_call 56; (with_reducible refine (hdg HT0).mono ?_); rintro e w1 ⟨rfl, hb1⟩; obtain ⟨HX1, HG1, HB1⟩ := tri HX0 HG0 HB0 hb1; have hq10_ := cs11 HX1.out; obtain ⟨p0_1, p1_1, a2_, a3_⟩ := HG1.out.four) | (go_at_call 56; (with_reducible refine (hdg HT1).mono ?_); rintro e w2 ⟨rfl, hb2⟩; obtain ⟨HX2, HG2, HB2⟩ := tri HX1 HG1 HB1 hb2; have hq11_ := cs11 HX2.out; obtain ⟨p0_2, p1_2, a4_, a5_⟩ := HG2.out.four) | (go_at_call 56; (with_reducible refine (hdg HT5).mono ?_); rintro e w3 ⟨rfl, hb3⟩; obtain ⟨HX3, HG3, HB3⟩ := tri HX2 HG2 HB2 hb3; have hq12_ := cs11 HX3.out; obtain ⟨p0_3, p1_3, a8_, a9_⟩ := HG3.out.four) | (go_at_call 56; (with_reducible refine (hdg HT9).mono ?_); rintro e w4 ⟨rfl, hb4⟩; obtain ⟨HX4, HG4, HB4⟩ := tri HX3 HG3 HB3 hb4; have hq13_ := cs11 HX4.out; obtain ⟨p0_4, p1_4, b2_, b3_⟩ := HG4.out.four))
            go_ret
            exact ⟨by (first | (rw [HR.out, HFF.out]; done) | simp [HR.out, HFF.out]), HB4.out⟩
           | true =>
            have HT9 := As ht9
            clear ht9
            cases ht10 : fitsB x with
            | false =>
             have HT10 := As ht10
             clear ht10
             have hF : validB x = false := by
              unfold validB
              rw [HT0.out, HT1.out, HT2.out, HT3.out, HT4.out, HT5.out, HT6.out, HT7.out, HT8.out, HT9.out, HT10.out]
              rfl
             have HFF := As hF
             clear hF
             go_enter Tryd.func53, Tryd.ntmps53
             go_upto_region 1 with (fail)
             rw [← HW.out]
             have hq9_ := cs11 HX0.out
             obtain ⟨p0_0, p1_0, a0_, a1_⟩ := HG0.out.four
             go_wp2_with (first | (go_at_call 56; (with_reducible refine (hdg HT0).mono ?_); rintro e w1 ⟨rfl, hb1⟩; obtain ⟨HX1, HG1, HB1⟩ := tri HX0 HG0 HB0 hb1; have hq10_ := cs11 HX1.out; obtain ⟨p0_1, p1_1, a2_, a3_⟩ := HG1.out.four) | (go_at_call 56; (with_reducible refine (hdg HT1).mono ?_); rintro e w2 ⟨rfl, hb2⟩; obtain ⟨HX2, HG2, HB2⟩ := tri HX1 HG1 HB1 hb2; have hq11_ := cs11 HX2.out; obtain ⟨p0_2, p1_2, a4_, a5_⟩ := HG2.out.four) | (go_at_call 56; (with_reducible refine (hdg HT5).mono ?_); rintro e w3 ⟨rfl, hb3⟩; obtain ⟨HX3, HG3, HB3⟩ := tri HX2 HG2 HB2 hb3; have hq12_ := cs11 HX3.out; obtain ⟨p0_3, p1_3, a8_, a9_⟩ := HG3.out.four) | (go_at_call 56; (with_reducible refine (hdg HT9).mono ?_); rintro e w4 ⟨rfl, hb4⟩; obtain ⟨HX4, HG4, HB4⟩ := tri HX3 HG3 HB3 hb4; have hq13_ := cs11 HX4.out; obtain ⟨p0_4, p1_4, b2_, b3_⟩ := HG4.out.four) | (go_at_call 66; (with_reducible refine (fits_at x _ HG4.out false HT10.out).mono ?_); rintro e w5 ⟨rfl, hb5⟩; obtain ⟨HX5, HG5, HB5⟩ := tri HX4 HG4 HB4 hb5; have hq14_ := cs11 HX5.out; obtain ⟨p0_5, p1_5, b4_, b5_⟩ := HG5.out.four))
             go_ret
             exact ⟨by (first | (rw [HR.out, HFF.out]; done) | simp [HR.out, HFF.out]), HB5.out⟩
            | true =>
             have HT10 := As ht10
             clear ht10
             have hF : validB x = true := by
              unfold validB
              rw [HT0.out, HT1.out, HT2.out, HT3.out, HT4.out, HT5.out, HT6.out, HT7.out, HT8.out, HT9.out, HT10.out]
              rfl
             have HFF := As hF
             clear hF
             go_enter Tryd.func53, Tryd.ntmps53
             go_upto_region 1 with (fail)
             rw [← HW.out]
             have hq9_ := cs11 HX0.out
             obtain ⟨p0_0, p1_0, a0_, a1_⟩ := HG0.out.four
             go_wp2_with (first | (go_at_call 56; (with_reducible refine (hdg HT0).mono ?_); rintro e w1 ⟨rfl, hb1⟩; obtain ⟨HX1, HG1, HB1⟩ := tri HX0 HG0 HB0 hb1; have hq10_ := cs11 HX1.out; obtain ⟨p0_1, p1_1, a2_, a3_⟩ := HG1.out.four) | (go_at_call 56; (with_reducible refine (hdg HT1).mono ?_); rintro e w2 ⟨rfl, hb2⟩; obtain ⟨HX2, HG2, HB2⟩ := tri HX1 HG1 HB1 hb2; have hq11_ := cs11 HX2.out; obtain ⟨p0_2, p1_2, a4_, a5_⟩ := HG2.out.four) | (go_at_call 56; (with_reducible refine (hdg HT5).mono ?_); rintro e w3 ⟨rfl, hb3⟩; obtain ⟨HX3, HG3, HB3⟩ := tri HX2 HG2 HB2 hb3; have hq12_ := cs11 HX3.out; obtain ⟨p0_3, p1_3, a8_, a9_⟩ := HG3.out.four) | (go_at_call 56; (with_reducible refine (hdg HT9).mono ?_); rintro e w4 ⟨rfl, hb4⟩; obtain ⟨HX4, HG4, HB4⟩ := tri HX3 HG3 HB3 hb4; have hq13_ := cs11 HX4.out; obtain ⟨p0_4, p1_4, b2_, b3_⟩ := HG4.out.four) | (go_at_call 66; (with_reducible refine (fits_at x _ HG4.out true HT10.out).mono ?_); rintro e w5 ⟨rfl, hb5⟩; obtain ⟨HX5, HG5, HB5⟩ := tri HX4 HG4 HB4 hb5; have hq14_ := cs11 HX5.out; obtain ⟨p0_5, p1_5, b4_, b5_⟩ := HG5.out.four))
             go_ret
             exact ⟨by (first | (rw [HR.out, HFF.out]; done) | simp [HR.out, HFF.out]), HB5.out⟩
        | false =>
         have HT6 : Aside0 ((decide (1 < x.f2) || (x.f3 == 0)) = false) := ⟨by rw [hl_, hr_]; rfl⟩
         have hF : validB x = false := by
          unfold validB
          rw [HT0.out, HT1.out, HT2.out, HT3.out, HT4.out, HT5.out, HT6.out]
          rfl
         have HFF := As hF
         clear hF
         go_enter Tryd.func53, Tryd.ntmps53
         go_upto_region 1 with (fail)
         rw [← HW.out]
         have hq9_ := cs11 HX0.out
         obtain ⟨p0_0, p1_0, a0_, a1_⟩ := HG0.out.four
         go_wp2_with (first | (go_at_call 56; (with_reducible refine (hdg HT0).mono ?_); rintro e w1 ⟨rfl, hb1⟩; obtain ⟨HX1, HG1, HB1⟩ := tri HX0 HG0 HB0 hb1; have hq10_ := cs11 HX1.out; obtain ⟨p0_1, p1_1, a2_, a3_⟩ := HG1.out.four) | (go_at_call 56; (with_reducible refine (hdg HT1).mono ?_); rintro e w2 ⟨rfl, hb2⟩; obtain ⟨HX2, HG2, HB2⟩ := tri HX1 HG1 HB1 hb2; have hq11_ := cs11 HX2.out; obtain ⟨p0_2, p1_2, a4_, a5_⟩ := HG2.out.four) | (go_at_call 56; (with_reducible refine (hdg HT5).mono ?_); rintro e w3 ⟨rfl, hb3⟩; obtain ⟨HX3, HG3, HB3⟩ := tri HX2 HG2 HB2 hb3; have hq12_ := cs11 HX3.out; obtain ⟨p0_3, p1_3, a8_, a9_⟩ := HG3.out.four))
         go_ret
         exact ⟨by (first | (rw [HR.out, HFF.out]; done) | simp [HR.out, HFF.out]), HB3.out⟩
end
def statement_Valid.f (a0_0 a0_1 a0_2 a0_3 a0_4 a0_5 a0_6 a0_7 a0_8 a0_9 a0_10 : Int) : Option Bool := some (validB ⟨a0_0, a0_1, a0_2, a0_3, a0_4, a0_5, a0_6, a0_7, a0_8, a0_9, a0_10⟩)
theorem statement_Valid.calls (a0_0 a0_1 a0_2 a0_3 a0_4 a0_5 a0_6 a0_7 a0_8 a0_9 a0_10 : Int) (r : Bool) (w : World) (h : statement_Valid.f a0_0 a0_1 a0_2 a0_3 a0_4 a0_5 a0_6 a0_7 a0_8 a0_9 a0_10 = some r) (hG : GW w) : Calls Tryd.prog 53 #[.agg #[.int .i64 a0_0, .int .i64 a0_1, .int .i64 a0_2, .int .i64 a0_3, .int .i64 a0_4, .int .i64 a0_5, .int .i64 a0_6, .int .i64 a0_7, .int .i64 a0_8, .int .i64 a0_9, .int .i64 a0_10]] w fun e w' => e = .returned (.bool r) ∧ Below w.heap.size w w' := by
 have h1 := Option.some.inj h
 subst h1
 exact valid.calls ⟨a0_0, a0_1, a0_2, a0_3, a0_4, a0_5, a0_6, a0_7, a0_8, a0_9, a0_10⟩ w hG
section
attribute [local go_sem ↓] some_setCell
attribute [local go_sem] max2_int min2_int max_two min_two
structure Le where
 o : Int
 k : Int
 s : Int
 h : Int
 z : Int
 fr : Int
 un : Int
 rc : Bool
def Le.enc (s : Le) : List Value := [.int .i64 s.o, .int .i64 s.k, .int .i64 s.s, .int .i64 s.h, .int .i64 s.z, .int .i64 s.fr, .int .i64 s.un, .bool s.rc]
structure Sl where
 g : Bool
 l : Le
 e : Bool
 top : Int
def Sl.enc (s : Sl) : List Value := [.bool s.g, .int .i64 s.l.o, .int .i64 s.l.k, .int .i64 s.l.s, .int .i64 s.l.h, .int .i64 s.l.z, .int .i64 s.l.fr, .int .i64 s.l.un, .bool s.l.rc, .bool s.e, .int .i64 s.top]
theorem Sl.len (s : Sl) : s.enc.length = 11 := rfl
theorem Le.len (s : Le) : s.enc.length = 8 := rfl
def Sl.inB (s : Sl) (t : Int) : Bool := s.g && (!s.e && decide (t ≤ s.l.un))
def SlotAt (W : World) (b off : Nat) (s : Sl) : Prop := ∀ j v, s.enc[j]? = some v → W.cell? ⟨b, off + j, none⟩ = some v
theorem SlotAt.below {W W' : World} {b off : Nat} {s : Sl} (h : SlotAt W b off s) (hb : Below W.heap.size W W') : SlotAt W' b off s := fun j v hj => (hb.cell (World.block_lt_of_cell? W _ (h j v hj))).trans (h j v hj)
set_option maxHeartbeats 4000000 in
theorem slot_in.calls (b off : Nat) (s : Sl) (t : Int) (W : World) (h : SlotAt W b off s) :
 Calls Tryd.prog 52 #[.pointer (some ⟨b, off, none⟩), .int .i64 t] W fun e w' => e = .returned (.bool (s.inB t)) ∧ w' = W := by
 have h0 : W.cell? ⟨b, off, none⟩ = some (.bool s.g) := h 0 _ rfl
 have h9 : W.cell? ⟨b, off + 9, none⟩ = some (.bool s.e) := h 9 _ rfl
 have h7 : W.cell? ⟨b, off + 7, none⟩ = some (.int .i64 s.l.un) := h 7 _ rfl
 have h71 : W.cell? ⟨b, off + 1 + 6, none⟩ = some (.int .i64 s.l.un) := h7
 clear h
 unfold Sl.inB
 cases hg : s.g with
 | false =>
  rw [hg] at h0
  go_enter Tryd.func52, Tryd.ntmps52
  go_wp2
  go_ret
  exact ⟨rfl, rfl⟩
 | true =>
  rw [hg] at h0
  cases he : s.e with
  | true =>
   rw [he] at h9
   go_enter Tryd.func52, Tryd.ntmps52
   go_wp2
   go_ret
   exact ⟨rfl, rfl⟩
  | false =>
   rw [he] at h9
   go_enter Tryd.func52, Tryd.ntmps52
   go_wp2
   go_ret
   exact ⟨rfl, rfl⟩
def Sl.fitsB (s : Sl) (x : S51) : Bool :=
 if x.f5 = 1 then !s.g || decide (s.top < x.f4)
 else if x.f5 = 2 then s.inB x.f4 && decide (s.top < x.f9)
 else if x.f5 = 3 ∨ x.f5 = 5 then s.inB x.f4
 else s.inB x.f4 && (s.l.h == x.f7 && s.l.z == x.f8)
set_option maxHeartbeats 4000000 in
theorem slot_fits.calls (b off : Nat) (s : Sl) (x : S51) (W : World) (h : SlotAt W b off s) :
 Calls Tryd.prog 55 #[.pointer (some ⟨b, off, none⟩), .agg #[x.f0, x.f1, x.f2, x.f3, x.f4, x.f5, x.f6, x.f7, x.f8, x.f9, x.f10]] W fun e w' => e = .returned (.bool (s.fitsB x)) ∧ Below W.heap.size W w' := by
 have HB := As (Below.refl W.heap.size W)
 have hu := Tryd.underlying51
 obtain ⟨W0, hW0⟩ : ∃ W0, W0 = W.alloc (.cells #[x.f0, x.f1, x.f2, x.f3, x.f4, x.f5, x.f6, x.f7, x.f8, x.f9, x.f10] 51) := ⟨_, rfl⟩
 have hb0 : Below W.heap.size W W0 := by rw [hW0]; exact below_alloc (Below.refl _ _) _
 have hBx : BlkIs W0 W.heap.size 51 [x.f0, x.f1, x.f2, x.f3, x.f4, x.f5, x.f6, x.f7, x.f8, x.f9, x.f10] := by rw [hW0]; exact heap_alloc_new W _
 have h' := h.below hb0
 have c4 : W0.cell? ⟨W.heap.size, 4, none⟩ = some (x.f4) := hBx.at_ 4
 have c5 : W0.cell? ⟨W.heap.size, 5, none⟩ = some (x.f5) := hBx.at_ 5
 have c7 : W0.cell? ⟨W.heap.size, 7, none⟩ = some (x.f7) := hBx.at_ 7
 have c8 : W0.cell? ⟨W.heap.size, 8, none⟩ = some (x.f8) := hBx.at_ 8
 have c9 : W0.cell? ⟨W.heap.size, 9, none⟩ = some (x.f9) := hBx.at_ 9
 have s0 : W0.cell? ⟨b, off, none⟩ = some (.bool s.g) := h' 0 _ rfl
 have s10 : W0.cell? ⟨b, off + 10, none⟩ = some (.int .i64 s.top) := h' 10 _ rfl
 have s4 : W0.cell? ⟨b, off + 1 + 3, none⟩ = some (.int .i64 s.l.h) := h' 4 _ rfl
 have s5 : W0.cell? ⟨b, off + 1 + 4, none⟩ = some (.int .i64 s.l.z) := h' 5 _ rfl
 have HIN : Aside0 (∀ n, Calls Tryd.prog 52 #[.pointer (some ⟨b, off, none⟩), x.f4] (W0.drewN n) fun e w' => e = .returned (.bool (s.inB x.f4)) ∧ w' = W0.drewN n) := ⟨fun n => slot_in.calls b off s x.f4 (W0.drewN n) h'⟩
 have HB0 := As hb0
 have HW := As hW0
 clear h h' hBx hb0 hW0
 unfold Sl.fitsB
 by_cases k1 : x.f5 = 1
 ·rw [if_pos k1]
  have d1 : (x.f5 == 1) = true := beq_iff_eq.mpr k1
  clear k1
  cases hg : s.g with
  | false =>
   rw [hg] at s0
   go_enter Tryd.func55, Tryd.ntmps55
   go_wp2_with (fail)
   rw [← HW.out]
   go_quiet ((fail))
   go_wp2
   go_ret
   exact ⟨rfl, by repeat (first | exact HB0.out | apply below_drew1 | apply pw_below_drewN)⟩
  | true =>
   rw [hg] at s0
   go_enter Tryd.func55, Tryd.ntmps55
   go_wp2_with (fail)
   rw [← HW.out]
   go_quiet ((fail))
   go_wp2
   go_ret
   exact ⟨rfl, by repeat (first | exact HB0.out | apply below_drew1 | apply pw_below_drewN)⟩
 ·rw [if_neg k1]
  have d1 : (x.f5 == 1) = false := beq_eq_false_iff_ne.mpr k1
  clear k1
  by_cases k2 : x.f5 = 2
  ·rw [if_pos k2]
   have d2 : (x.f5 == 2) = true := beq_iff_eq.mpr k2
   clear k2
   cases hi : s.inB x.f4 with
   | false =>
    rw [hi] at HIN
    go_enter Tryd.func55, Tryd.ntmps55
    go_wp2_with (fail)
    rw [← HW.out]
    go_quiet ((go_at_call 52; exact Calls.quiet_of_same (HIN.out _)))
    go_wp2
    go_ret
    exact ⟨rfl, by repeat (first | exact HB0.out | apply below_drew1 | apply pw_below_drewN)⟩
   | true =>
    rw [hi] at HIN
    go_enter Tryd.func55, Tryd.ntmps55
    go_wp2_with (fail)
    rw [← HW.out]
    go_quiet ((go_at_call 52; exact Calls.quiet_of_same (HIN.out _)))
    go_wp2
    go_ret
    exact ⟨rfl, by repeat (first | exact HB0.out | apply below_drew1 | apply pw_below_drewN)⟩
  ·rw [if_neg k2]
   have d2 : (x.f5 == 2) = false := beq_eq_false_iff_ne.mpr k2
   clear k2
   have HI0 : Aside0 (Calls Tryd.prog 52 #[.pointer (some ⟨b, off, none⟩), x.f4] W0 fun e w' => e = .returned (.bool (s.inB x.f4)) ∧ W0 = w') := ⟨(HIN.out 0).mono fun e w' h => ⟨h.1, h.2.symm⟩⟩
   by_cases k3 : x.f5 = 3
   ·rw [if_pos (.inl k3)]
    have d3 : (x.f5 == 3) = true := beq_iff_eq.mpr k3
    clear k3
    go_enter Tryd.func55, Tryd.ntmps55
    go_wp2_with (go_at_call 52; rw [← HW.out]; (with_reducible refine (HI0.out).mono ?_); rintro e w' ⟨rfl, rfl⟩)
    go_ret
    exact ⟨rfl, by repeat (first | exact HB0.out | apply below_drew1 | apply pw_below_drewN)⟩
   ·have d3 : (x.f5 == 3) = false := beq_eq_false_iff_ne.mpr k3
    by_cases k5 : x.f5 = 5
    ·rw [if_pos (.inr k5)]
     have d5 : (x.f5 == 5) = true := beq_iff_eq.mpr k5
     clear k3 k5
     go_enter Tryd.func55, Tryd.ntmps55
     go_wp2_with (go_at_call 52; rw [← HW.out]; (with_reducible refine (HI0.out).mono ?_); rintro e w' ⟨rfl, rfl⟩)
     go_ret
     exact ⟨rfl, by repeat (first | exact HB0.out | apply below_drew1 | apply pw_below_drewN)⟩
    ·rw [if_neg (fun h => h.elim k3 k5)]
     have d5 : (x.f5 == 5) = false := beq_eq_false_iff_ne.mpr k5
     clear k3 k5 HI0
     cases hi : s.inB x.f4 with
     | false =>
      rw [hi] at HIN
      go_enter Tryd.func55, Tryd.ntmps55
      go_wp2_with (fail)
      rw [← HW.out]
      go_quiet ((go_at_call 52; exact Calls.quiet_of_same (HIN.out _)))
      go_wp2
      go_ret
      exact ⟨rfl, by repeat (first | exact HB0.out | apply below_drew1 | apply pw_below_drewN)⟩
     | true =>
      rw [hi] at HIN
      cases hh : (s.l.h == x.f7) with
      | false =>
       go_enter Tryd.func55, Tryd.ntmps55
       go_wp2_with (fail)
       rw [← HW.out]
       go_quiet ((go_at_call 52; exact Calls.quiet_of_same (HIN.out _)))
       go_wp2
       go_ret
       exact ⟨rfl, by repeat (first | exact HB0.out | apply below_drew1 | apply pw_below_drewN)⟩
      | true =>
       go_enter Tryd.func55, Tryd.ntmps55
       go_wp2_with (fail)
       rw [← HW.out]
       go_quiet ((go_at_call 52; exact Calls.quiet_of_same (HIN.out _)))
       go_wp2
       go_ret
       exact ⟨rfl, by repeat (first | exact HB0.out | apply below_drew1 | apply pw_below_drewN)⟩
def mxI (a b : Int) : Int := if a < b then b else a
def Sl.takeS (s : Sl) (x : S51) : Sl :=
 if x.f5 = 1 then ⟨true, ⟨x.f1, x.f0, x.f6, x.f7, x.f8, x.f4, x.f9, false⟩, false, mxI s.top x.f9⟩
 else if x.f5 = 2 then ⟨s.g, ⟨s.l.o, s.l.k, s.l.s, s.l.h, s.l.z, s.l.fr, mxI s.l.un x.f9, s.l.rc⟩, s.e, mxI s.top x.f9⟩
 else if x.f5 = 3 ∨ x.f5 = 5 then ⟨s.g, s.l, true, mxI s.top x.f9⟩
 else ⟨s.g, ⟨s.l.o, s.l.k, s.l.s, s.l.h, s.l.z, s.l.fr, s.l.un, true⟩, s.e, mxI s.top x.f9⟩
def TakePost (b : Nat) (T : TypeId) (A B : List Value) (s : Sl) (x : S51) (W w' : World) : Prop := BlkIs w' b T (A ++ (s.takeS x).enc ++ B) ∧ W.grownBy w' (some b)
set_option maxHeartbeats 8000000 in
set_option maxRecDepth 100000 in
theorem slot_take.calls (b : Nat) (T : TypeId) (A B : List Value) (s : Sl) (x : S51) (W : World) (hB : BlkIs W b T (A ++ s.enc ++ B)) :
 Calls Tryd.prog 51 #[.pointer (some ⟨b, A.length, none⟩), .agg #[x.f0, x.f1, x.f2, x.f3, x.f4, x.f5, x.f6, x.f7, x.f8, x.f9, x.f10]] W fun e w' => e = .returned (.tuple #[]) ∧ TakePost b T A B s x W w' := by
 have hu := Tryd.underlying51
 obtain ⟨W0, hW0⟩ : ∃ W0, W0 = W.alloc (.cells #[x.f0, x.f1, x.f2, x.f3, x.f4, x.f5, x.f6, x.f7, x.f8, x.f9, x.f10] 51) := ⟨_, rfl⟩
 have hX0 : BlkIs W0 W.heap.size 51 [x.f0, x.f1, x.f2, x.f3, x.f4, x.f5, x.f6, x.f7, x.f8, x.f9, x.f10] := by rw [hW0]; exact heap_alloc_new W _
 have hB0 : BlkIs W0 b T (A ++ s.enc ++ B) := by rw [hW0]; exact hB.alloc _
 have hG0 : W.grownBy W0 (some b) := by rw [hW0]; exact grown_of_below (below_alloc (Below.refl _ _) _) _
 have hne : ¬ W.heap.size = b := by have := hB.lt; omega
 have HX0 := As hX0
 have SB0 := As hB0
 have HG0 := As hG0
 have HW := As hW0
 have HNE : Aside0 (some W.heap.size ≠ some b) := ⟨fun e => hne (by injection e)⟩
 clear hB hX0 hB0 hG0 hW0
 by_cases k1 : x.f5 = 1
 ·have HT : Aside0 (s.takeS x = ⟨true, ⟨x.f1, x.f0, x.f6, x.f7, x.f8, x.f4, x.f9, false⟩, false, mxI s.top x.f9⟩) := ⟨if_pos k1⟩
  have d1 : (x.f5 == 1) = true := beq_iff_eq.mpr k1
  clear k1
  go_enter Tryd.func51, Tryd.ntmps51
  go_upto_region 1 with (fail)
  rw [← HW.out]
  have c0 : W0.cell? ⟨W.heap.size, 0, none⟩ = some (x.f0) := HX0.out.at_ 0
  have c1 : W0.cell? ⟨W.heap.size, 1, none⟩ = some (x.f1) := HX0.out.at_ 1
  obtain ⟨_, _, _, _, c4, c5, c6, c7, c8, c9, _⟩ := cs11 HX0.out
  have s7 : W0.cell? ⟨b, A.length + 1 + 6, none⟩ = some (.int .i64 s.l.un) := seg_at SB0.out 7 rfl
  have s10 : W0.cell? ⟨b, A.length + 10, none⟩ = some (.int .i64 s.top) := seg_at SB0.out 10 rfl
  go_upto_region 11 with (first | ((with_reducible refine gate_ (.store 4 (.tmp 15) (.const (.bool true))) rfl ?_); refine seg_store ?hN ?hgd 4 (.tmp 15) (.const (.bool true)) ?ho (SB0.out) 0 (.bool true) [.bool true] [.bool true, .int .i64 s.l.o, .int .i64 s.l.k, .int .i64 s.l.s, .int .i64 s.l.h, .int .i64 s.l.z, .int .i64 s.l.fr, .int .i64 s.l.un, .bool s.l.rc, .bool s.e, .int .i64 s.top] ?ha ?hx ?hu ?ht ?hf ?h1 ?hE ?_; (case hN => rfl); (case hgd => rfl); (case ho => rfl); (case ha => exact ⟨_, rfl, by omega⟩); (case hx => rfl); (case hu => rfl); (case ht => kernel_rfl); (case hf => exact Nat.le_of_ble_eq_true rfl); (case h1 => intro v hv; simp only [List.mem_cons, List.not_mem_nil, or_false] at hv; rcases hv with rfl <;> rfl); (case hE => rfl); intro w1 SB1 hg1; have HX1 := As (HX0.out.grown hg1.out HNE.out); have HG1 := As (grown2 HG0.out hg1.out); have c0 : w1.cell? ⟨W.heap.size, 0, none⟩ = some (x.f0) := HX1.out.at_ 0; have c1 : w1.cell? ⟨W.heap.size, 1, none⟩ = some (x.f1) := HX1.out.at_ 1; obtain ⟨_, _, _, _, c4, c5, c6, c7, c8, c9, _⟩ := cs11 HX1.out; have s7 : w1.cell? ⟨b, A.length + 1 + 6, none⟩ = some (.int .i64 s.l.un) := seg_at SB1.out 7 rfl; have s10 : w1.cell? ⟨b, A.length + 10, none⟩ = some (.int .i64 s.top) := seg_at SB1.out 10 rfl) | ((with_reducible refine gate_ (.store 4 (.tmp 17) (.const (.bool false))) rfl ?_); refine seg_store ?hN ?hgd 4 (.tmp 17) (.const (.bool false)) ?ho (SB1.out) 9 (.bool false) [.bool false] [.bool true, .int .i64 s.l.o, .int .i64 s.l.k, .int .i64 s.l.s, .int .i64 s.l.h, .int .i64 s.l.z, .int .i64 s.l.fr, .int .i64 s.l.un, .bool s.l.rc, .bool false, .int .i64 s.top] ?ha ?hx ?hu ?ht ?hf ?h1 ?hE ?_; (case hN => rfl); (case hgd => rfl); (case ho => rfl); (case ha => exact ⟨_, rfl, by omega⟩); (case hx => rfl); (case hu => rfl); (case ht => kernel_rfl); (case hf => exact Nat.le_of_ble_eq_true rfl); (case h1 => intro v hv; simp only [List.mem_cons, List.not_mem_nil, or_false] at hv; rcases hv with rfl <;> rfl); (case hE => rfl); intro w2 SB2 hg2; have HX2 := As (HX1.out.grown hg2.out HNE.out); have HG2 := As (grown2 HG1.out hg2.out); have c0 : w2.cell? ⟨W.heap.size, 0, none⟩ = some (x.f0) := HX2.out.at_ 0; have c1 : w2.cell? ⟨W.heap.size, 1, none⟩ = some (x.f1) := HX2.out.at_ 1; obtain ⟨_, _, _, _, c4, c5, c6, c7, c8, c9, _⟩ := cs11 HX2.out; have s7 : w2.cell? ⟨b, A.length + 1 + 6, none⟩ = some (.int .i64 s.l.un) := seg_at SB2.out 7 rfl; have s10 : w2.cell? ⟨b, A.length + 10, none⟩ = some (.int .i64 s.top) := seg_at SB2.out 10 rfl) | ((with_reducible refine gate_ (.store 41 (.tmp 35) (.tmp 33)) rfl ?_); refine seg_store ?hN ?hgd 41 (.tmp 35) (.tmp 33) ?ho (SB2.out) 1 (.agg #[x.f1, x.f0, x.f6, x.f7, x.f8, x.f4, x.f9, .bool false]) [x.f1, x.f0, x.f6, x.f7, x.f8, x.f4, x.f9, .bool false] [.bool true, x.f1, x.f0, x.f6, x.f7, x.f8, x.f4, x.f9, .bool false, .bool false, .int .i64 s.top] ?ha ?hx ?hu ?ht ?hf ?h1 ?hE ?_; (case hN => rfl); (case hgd => rfl); (case ho => rfl); (case ha => exact ⟨_, rfl, by omega⟩); (case hx => rfl); (case hu => rfl); (case ht => kernel_rfl); (case hf => exact Nat.le_of_ble_eq_true rfl); (case h1 => intro v hv; simp only [List.mem_cons, List.not_mem_nil, or_false] at hv; rcases hv with rfl | rfl | rfl | rfl | rfl | rfl | rfl | rfl <;> rfl); (case hE => rfl); intro w3 SB3 hg3; have HX3 := As (HX2.out.grown hg3.out HNE.out); have HG3 := As (grown2 HG2.out hg3.out); have c9 : w3.cell? ⟨W.heap.size, 9, none⟩ = some (x.f9) := HX3.out.at_ 9; have s7 : w3.cell? ⟨b, A.length + 1 + 6, none⟩ = some (x.f9) := seg_at SB3.out 7 rfl; have s10 : w3.cell? ⟨b, A.length + 10, none⟩ = some (.int .i64 s.top) := seg_at SB3.out 10 rfl))
  by_cases hm : s.top < x.f9
  ·have HM : Aside0 (mxI s.top x.f9 = x.f9) := ⟨if_pos hm⟩
   go_still_tail 10, (by kernel_rfl)
   go_wp2_with (((with_reducible refine gate_ (.store 3 (.tmp 65) (.tmp 63)) rfl ?_); refine seg_store ?hN ?hgd 3 (.tmp 65) (.tmp 63) ?ho (SB3.out.drew) 10 (x.f9) [x.f9] [.bool true, x.f1, x.f0, x.f6, x.f7, x.f8, x.f4, x.f9, .bool false, .bool false, x.f9] ?ha ?hx ?hu ?ht ?hf ?h1 ?hE ?_; (case hN => rfl); (case hgd => rfl); (case ho => rfl); (case ha => exact ⟨_, rfl, by omega⟩); (case hx => rfl); (case hu => rfl); (case ht => kernel_rfl); (case hf => exact Nat.le_of_ble_eq_true rfl); (case h1 => intro v hv; simp only [List.mem_cons, List.not_mem_nil, or_false] at hv; rcases hv with rfl <;> rfl); (case hE => rfl); intro w4 SB4 hg4; have HX4 := As (HX3.out.drew.grown hg4.out HNE.out); have HG4 := As (grown2 (grown2 HG3.out (grown_drew _ _)) hg4.out)))
   (first | go_end0 | ((try simp only [Exit.inBlock, Exit.then]); refine bodyPost_ret (results_none rfl _ _ _) rfl ?_))
   exact ⟨rfl, by unfold TakePost; rw [HT.out, HM.out]; exact ⟨SB4.out, HG4.out⟩⟩
  ·have HM : Aside0 (mxI s.top x.f9 = s.top) := ⟨if_neg hm⟩
   go_still_tail 10, (by kernel_rfl)
   go_wp2_with (((with_reducible refine gate_ (.store 3 (.tmp 65) (.tmp 63)) rfl ?_); refine seg_store ?hN ?hgd 3 (.tmp 65) (.tmp 63) ?ho (SB3.out.drew) 10 (.int .i64 s.top) [.int .i64 s.top] [.bool true, x.f1, x.f0, x.f6, x.f7, x.f8, x.f4, x.f9, .bool false, .bool false, .int .i64 s.top] ?ha ?hx ?hu ?ht ?hf ?h1 ?hE ?_; (case hN => rfl); (case hgd => rfl); (case ho => rfl); (case ha => exact ⟨_, rfl, by omega⟩); (case hx => rfl); (case hu => rfl); (case ht => kernel_rfl); (case hf => exact Nat.le_of_ble_eq_true rfl); (case h1 => intro v hv; simp only [List.mem_cons, List.not_mem_nil, or_false] at hv; rcases hv with rfl <;> rfl); (case hE => rfl); intro w4 SB4 hg4; have HX4 := As (HX3.out.drew.grown hg4.out HNE.out); have HG4 := As (grown2 (grown2 HG3.out (grown_drew _ _)) hg4.out)))
   (first | go_end0 | ((try simp only [Exit.inBlock, Exit.then]); refine bodyPost_ret (results_none rfl _ _ _) rfl ?_))
   exact ⟨rfl, by unfold TakePost; rw [HT.out, HM.out]; exact ⟨SB4.out, HG4.out⟩⟩
 ·have d1 : (x.f5 == 1) = false := beq_eq_false_iff_ne.mpr k1
  by_cases k2 : x.f5 = 2
  ·have HT : Aside0 (s.takeS x = ⟨s.g, ⟨s.l.o, s.l.k, s.l.s, s.l.h, s.l.z, s.l.fr, mxI s.l.un x.f9, s.l.rc⟩, s.e, mxI s.top x.f9⟩) := ⟨(if_neg k1).trans (if_pos k2)⟩
   clear k1
   have d2 : (x.f5 == 2) = true := beq_iff_eq.mpr k2
   clear k2
   go_enter Tryd.func51, Tryd.ntmps51
   go_upto_region 1 with (fail)
   rw [← HW.out]
   have c0 : W0.cell? ⟨W.heap.size, 0, none⟩ = some (x.f0) := HX0.out.at_ 0
   have c1 : W0.cell? ⟨W.heap.size, 1, none⟩ = some (x.f1) := HX0.out.at_ 1
   obtain ⟨_, _, _, _, c4, c5, c6, c7, c8, c9, _⟩ := cs11 HX0.out
   have s7 : W0.cell? ⟨b, A.length + 1 + 6, none⟩ = some (.int .i64 s.l.un) := seg_at SB0.out 7 rfl
   have s10 : W0.cell? ⟨b, A.length + 10, none⟩ = some (.int .i64 s.top) := seg_at SB0.out 10 rfl
   by_cases hu_ : s.l.un < x.f9
   ·have HU : Aside0 (mxI s.l.un x.f9 = x.f9) := ⟨if_pos hu_⟩
    go_upto_region 7 with (fail)
    go_still_tail 9, (by kernel_rfl)
    go_upto_region 11 with (((with_reducible refine gate_ (.store 3 (.tmp 49) (.tmp 46)) rfl ?_); refine seg_store ?hN ?hgd 3 (.tmp 49) (.tmp 46) ?ho (SB0.out.drew) 7 (x.f9) [x.f9] [.bool s.g, .int .i64 s.l.o, .int .i64 s.l.k, .int .i64 s.l.s, .int .i64 s.l.h, .int .i64 s.l.z, .int .i64 s.l.fr, x.f9, .bool s.l.rc, .bool s.e, .int .i64 s.top] ?ha ?hx ?hu ?ht ?hf ?h1 ?hE ?_; (case hN => rfl); (case hgd => rfl); (case ho => rfl); (case ha => exact ⟨_, rfl, by omega⟩); (case hx => rfl); (case hu => rfl); (case ht => kernel_rfl); (case hf => exact Nat.le_of_ble_eq_true rfl); (case h1 => intro v hv; simp only [List.mem_cons, List.not_mem_nil, or_false] at hv; rcases hv with rfl <;> rfl); (case hE => rfl); intro w1 SB1 hg1; have HX1 := As (HX0.out.drew.grown hg1.out HNE.out); have HG1 := As (grown2 (grown2 HG0.out (grown_drew _ _)) hg1.out); have c9 : w1.cell? ⟨W.heap.size, 9, none⟩ = some (x.f9) := HX1.out.at_ 9; have s7 : w1.cell? ⟨b, A.length + 1 + 6, none⟩ = some (x.f9) := seg_at SB1.out 7 rfl; have s10 : w1.cell? ⟨b, A.length + 10, none⟩ = some (.int .i64 s.top) := seg_at SB1.out 10 rfl))
    clear hu_
    by_cases hm : s.top < x.f9
    ·have HM : Aside0 (mxI s.top x.f9 = x.f9) := ⟨if_pos hm⟩
     go_still_tail 10, (by kernel_rfl)
     go_wp2_with (((with_reducible refine gate_ (.store 3 (.tmp 65) (.tmp 63)) rfl ?_); refine seg_store ?hN ?hgd 3 (.tmp 65) (.tmp 63) ?ho (SB1.out.drew) 10 (x.f9) [x.f9] [.bool s.g, .int .i64 s.l.o, .int .i64 s.l.k, .int .i64 s.l.s, .int .i64 s.l.h, .int .i64 s.l.z, .int .i64 s.l.fr, x.f9, .bool s.l.rc, .bool s.e, x.f9] ?ha ?hx ?hu ?ht ?hf ?h1 ?hE ?_; (case hN => rfl); (case hgd => rfl); (case ho => rfl); (case ha => exact ⟨_, rfl, by omega⟩); (case hx => rfl); (case hu => rfl); (case ht => kernel_rfl); (case hf => exact Nat.le_of_ble_eq_true rfl); (case h1 => intro v hv; simp only [List.mem_cons, List.not_mem_nil, or_false] at hv; rcases hv with rfl <;> rfl); (case hE => rfl); intro w2 SB2 hg2; have HX2 := As (HX1.out.drew.grown hg2.out HNE.out); have HG2 := As (grown2 (grown2 HG1.out (grown_drew _ _)) hg2.out)))
     (first | go_end0 | ((try simp only [Exit.inBlock, Exit.then]); refine bodyPost_ret (results_none rfl _ _ _) rfl ?_))
     exact ⟨rfl, by unfold TakePost; rw [HT.out, HM.out, HU.out]; exact ⟨SB2.out, HG2.out⟩⟩
    ·have HM : Aside0 (mxI s.top x.f9 = s.top) := ⟨if_neg hm⟩
     go_still_tail 10, (by kernel_rfl)
     go_wp2_with (((with_reducible refine gate_ (.store 3 (.tmp 65) (.tmp 63)) rfl ?_); refine seg_store ?hN ?hgd 3 (.tmp 65) (.tmp 63) ?ho (SB1.out.drew) 10 (.int .i64 s.top) [.int .i64 s.top] [.bool s.g, .int .i64 s.l.o, .int .i64 s.l.k, .int .i64 s.l.s, .int .i64 s.l.h, .int .i64 s.l.z, .int .i64 s.l.fr, x.f9, .bool s.l.rc, .bool s.e, .int .i64 s.top] ?ha ?hx ?hu ?ht ?hf ?h1 ?hE ?_; (case hN => rfl); (case hgd => rfl); (case ho => rfl); (case ha => exact ⟨_, rfl, by omega⟩); (case hx => rfl); (case hu => rfl); (case ht => kernel_rfl); (case hf => exact Nat.le_of_ble_eq_true rfl); (case h1 => intro v hv; simp only [List.mem_cons, List.not_mem_nil, or_false] at hv; rcases hv with rfl <;> rfl); (case hE => rfl); intro w2 SB2 hg2; have HX2 := As (HX1.out.drew.grown hg2.out HNE.out); have HG2 := As (grown2 (grown2 HG1.out (grown_drew _ _)) hg2.out)))
     (first | go_end0 | ((try simp only [Exit.inBlock, Exit.then]); refine bodyPost_ret (results_none rfl _ _ _) rfl ?_))
     exact ⟨rfl, by unfold TakePost; rw [HT.out, HM.out, HU.out]; exact ⟨SB2.out, HG2.out⟩⟩
   ·have HU : Aside0 (mxI s.l.un x.f9 = s.l.un) := ⟨if_neg hu_⟩
    go_upto_region 7 with (fail)
    go_still_tail 9, (by kernel_rfl)
    go_upto_region 11 with (((with_reducible refine gate_ (.store 3 (.tmp 49) (.tmp 46)) rfl ?_); refine seg_store ?hN ?hgd 3 (.tmp 49) (.tmp 46) ?ho (SB0.out.drew) 7 (.int .i64 s.l.un) [.int .i64 s.l.un] [.bool s.g, .int .i64 s.l.o, .int .i64 s.l.k, .int .i64 s.l.s, .int .i64 s.l.h, .int .i64 s.l.z, .int .i64 s.l.fr, .int .i64 s.l.un, .bool s.l.rc, .bool s.e, .int .i64 s.top] ?ha ?hx ?hu ?ht ?hf ?h1 ?hE ?_; (case hN => rfl); (case hgd => rfl); (case ho => rfl); (case ha => exact ⟨_, rfl, by omega⟩); (case hx => rfl); (case hu => rfl); (case ht => kernel_rfl); (case hf => exact Nat.le_of_ble_eq_true rfl); (case h1 => intro v hv; simp only [List.mem_cons, List.not_mem_nil, or_false] at hv; rcases hv with rfl <;> rfl); (case hE => rfl); intro w1 SB1 hg1; have HX1 := As (HX0.out.drew.grown hg1.out HNE.out); have HG1 := As (grown2 (grown2 HG0.out (grown_drew _ _)) hg1.out); have c9 : w1.cell? ⟨W.heap.size, 9, none⟩ = some (x.f9) := HX1.out.at_ 9; have s7 : w1.cell? ⟨b, A.length + 1 + 6, none⟩ = some (.int .i64 s.l.un) := seg_at SB1.out 7 rfl; have s10 : w1.cell? ⟨b, A.length + 10, none⟩ = some (.int .i64 s.top) := seg_at SB1.out 10 rfl))
    clear hu_
    by_cases hm : s.top < x.f9
    ·have HM : Aside0 (mxI s.top x.f9 = x.f9) := ⟨if_pos hm⟩
     go_still_tail 10, (by kernel_rfl)
     go_wp2_with (((with_reducible refine gate_ (.store 3 (.tmp 65) (.tmp 63)) rfl ?_); refine seg_store ?hN ?hgd 3 (.tmp 65) (.tmp 63) ?ho (SB1.out.drew) 10 (x.f9) [x.f9] [.bool s.g, .int .i64 s.l.o, .int .i64 s.l.k, .int .i64 s.l.s, .int .i64 s.l.h, .int .i64 s.l.z, .int .i64 s.l.fr, .int .i64 s.l.un, .bool s.l.rc, .bool s.e, x.f9] ?ha ?hx ?hu ?ht ?hf ?h1 ?hE ?_; (case hN => rfl); (case hgd => rfl); (case ho => rfl); (case ha => exact ⟨_, rfl, by omega⟩); (case hx => rfl); (case hu => rfl); (case ht => kernel_rfl); (case hf => exact Nat.le_of_ble_eq_true rfl); (case h1 => intro v hv; simp only [List.mem_cons, List.not_mem_nil, or_false] at hv; rcases hv with rfl <;> rfl); (case hE => rfl); intro w2 SB2 hg2; have HX2 := As (HX1.out.drew.grown hg2.out HNE.out); have HG2 := As (grown2 (grown2 HG1.out (grown_drew _ _)) hg2.out)))
     (first | go_end0 | ((try simp only [Exit.inBlock, Exit.then]); refine bodyPost_ret (results_none rfl _ _ _) rfl ?_))
     exact ⟨rfl, by unfold TakePost; rw [HT.out, HM.out, HU.out]; exact ⟨SB2.out, HG2.out⟩⟩
    ·have HM : Aside0 (mxI s.top x.f9 = s.top) := ⟨if_neg hm⟩
     go_still_tail 10, (by kernel_rfl)
     go_wp2_with (((with_reducible refine gate_ (.store 3 (.tmp 65) (.tmp 63)) rfl ?_); refine seg_store ?hN ?hgd 3 (.tmp 65) (.tmp 63) ?ho (SB1.out.drew) 10 (.int .i64 s.top) [.int .i64 s.top] [.bool s.g, .int .i64 s.l.o, .int .i64 s.l.k, .int .i64 s.l.s, .int .i64 s.l.h, .int .i64 s.l.z, .int .i64 s.l.fr, .int .i64 s.l.un, .bool s.l.rc, .bool s.e, .int .i64 s.top] ?ha ?hx ?hu ?ht ?hf ?h1 ?hE ?_; (case hN => rfl); (case hgd => rfl); (case ho => rfl); (case ha => exact ⟨_, rfl, by omega⟩); (case hx => rfl); (case hu => rfl); (case ht => kernel_rfl); (case hf => exact Nat.le_of_ble_eq_true rfl); (case h1 => intro v hv; simp only [List.mem_cons, List.not_mem_nil, or_false] at hv; rcases hv with rfl <;> rfl); (case hE => rfl); intro w2 SB2 hg2; have HX2 := As (HX1.out.drew.grown hg2.out HNE.out); have HG2 := As (grown2 (grown2 HG1.out (grown_drew _ _)) hg2.out)))
     (first | go_end0 | ((try simp only [Exit.inBlock, Exit.then]); refine bodyPost_ret (results_none rfl _ _ _) rfl ?_))
     exact ⟨rfl, by unfold TakePost; rw [HT.out, HM.out, HU.out]; exact ⟨SB2.out, HG2.out⟩⟩
  ·have d2 : (x.f5 == 2) = false := beq_eq_false_iff_ne.mpr k2
   by_cases k3 : x.f5 = 3
   ·have HT : Aside0 (s.takeS x = ⟨s.g, s.l, true, mxI s.top x.f9⟩) := ⟨(if_neg k1).trans ((if_neg k2).trans (if_pos (.inl k3)))⟩
    clear k1 k2
    have d3 : (x.f5 == 3) = true := beq_iff_eq.mpr k3
    clear k3
    go_enter Tryd.func51, Tryd.ntmps51
    go_upto_region 1 with (fail)
    rw [← HW.out]
    have c0 : W0.cell? ⟨W.heap.size, 0, none⟩ = some (x.f0) := HX0.out.at_ 0
    have c1 : W0.cell? ⟨W.heap.size, 1, none⟩ = some (x.f1) := HX0.out.at_ 1
    obtain ⟨_, _, _, _, c4, c5, c6, c7, c8, c9, _⟩ := cs11 HX0.out
    have s7 : W0.cell? ⟨b, A.length + 1 + 6, none⟩ = some (.int .i64 s.l.un) := seg_at SB0.out 7 rfl
    have s10 : W0.cell? ⟨b, A.length + 10, none⟩ = some (.int .i64 s.top) := seg_at SB0.out 10 rfl
    go_upto_region 11 with (((with_reducible refine gate_ (.store 4 (.tmp 55) (.const (.bool true))) rfl ?_); refine seg_store ?hN ?hgd 4 (.tmp 55) (.const (.bool true)) ?ho (SB0.out) 9 (.bool true) [.bool true] [.bool s.g, .int .i64 s.l.o, .int .i64 s.l.k, .int .i64 s.l.s, .int .i64 s.l.h, .int .i64 s.l.z, .int .i64 s.l.fr, .int .i64 s.l.un, .bool s.l.rc, .bool true, .int .i64 s.top] ?ha ?hx ?hu ?ht ?hf ?h1 ?hE ?_; (case hN => rfl); (case hgd => rfl); (case ho => rfl); (case ha => exact ⟨_, rfl, by omega⟩); (case hx => rfl); (case hu => rfl); (case ht => kernel_rfl); (case hf => exact Nat.le_of_ble_eq_true rfl); (case h1 => intro v hv; simp only [List.mem_cons, List.not_mem_nil, or_false] at hv; rcases hv with rfl <;> rfl); (case hE => rfl); intro w1 SB1 hg1; have HX1 := As (HX0.out.grown hg1.out HNE.out); have HG1 := As (grown2 HG0.out hg1.out); have c9 : w1.cell? ⟨W.heap.size, 9, none⟩ = some (x.f9) := HX1.out.at_ 9; have s7 : w1.cell? ⟨b, A.length + 1 + 6, none⟩ = some (.int .i64 s.l.un) := seg_at SB1.out 7 rfl; have s10 : w1.cell? ⟨b, A.length + 10, none⟩ = some (.int .i64 s.top) := seg_at SB1.out 10 rfl))
    by_cases hm : s.top < x.f9
    ·have HM : Aside0 (mxI s.top x.f9 = x.f9) := ⟨if_pos hm⟩
     go_still_tail 10, (by kernel_rfl)
     go_wp2_with (((with_reducible refine gate_ (.store 3 (.tmp 65) (.tmp 63)) rfl ?_); refine seg_store ?hN ?hgd 3 (.tmp 65) (.tmp 63) ?ho (SB1.out.drew) 10 (x.f9) [x.f9] [.bool s.g, .int .i64 s.l.o, .int .i64 s.l.k, .int .i64 s.l.s, .int .i64 s.l.h, .int .i64 s.l.z, .int .i64 s.l.fr, .int .i64 s.l.un, .bool s.l.rc, .bool true, x.f9] ?ha ?hx ?hu ?ht ?hf ?h1 ?hE ?_; (case hN => rfl); (case hgd => rfl); (case ho => rfl); (case ha => exact ⟨_, rfl, by omega⟩); (case hx => rfl); (case hu => rfl); (case ht => kernel_rfl); (case hf => exact Nat.le_of_ble_eq_true rfl); (case h1 => intro v hv; simp only [List.mem_cons, List.not_mem_nil, or_false] at hv; rcases hv with rfl <;> rfl); (case hE => rfl); intro w2 SB2 hg2; have HX2 := As (HX1.out.drew.grown hg2.out HNE.out); have HG2 := As (grown2 (grown2 HG1.out (grown_drew _ _)) hg2.out)))
     (first | go_end0 | ((try simp only [Exit.inBlock, Exit.then]); refine bodyPost_ret (results_none rfl _ _ _) rfl ?_))
     exact ⟨rfl, by unfold TakePost; rw [HT.out, HM.out]; exact ⟨SB2.out, HG2.out⟩⟩
    ·have HM : Aside0 (mxI s.top x.f9 = s.top) := ⟨if_neg hm⟩
     go_still_tail 10, (by kernel_rfl)
     go_wp2_with (((with_reducible refine gate_ (.store 3 (.tmp 65) (.tmp 63)) rfl ?_); refine seg_store ?hN ?hgd 3 (.tmp 65) (.tmp 63) ?ho (SB1.out.drew) 10 (.int .i64 s.top) [.int .i64 s.top] [.bool s.g, .int .i64 s.l.o, .int .i64 s.l.k, .int .i64 s.l.s, .int .i64 s.l.h, .int .i64 s.l.z, .int .i64 s.l.fr, .int .i64 s.l.un, .bool s.l.rc, .bool true, .int .i64 s.top] ?ha ?hx ?hu ?ht ?hf ?h1 ?hE ?_; (case hN => rfl); (case hgd => rfl); (case ho => rfl); (case ha => exact ⟨_, rfl, by omega⟩); (case hx => rfl); (case hu => rfl); (case ht => kernel_rfl); (case hf => exact Nat.le_of_ble_eq_true rfl); (case h1 => intro v hv; simp only [List.mem_cons, List.not_mem_nil, or_false] at hv; rcases hv with rfl <;> rfl); (case hE => rfl); intro w2 SB2 hg2; have HX2 := As (HX1.out.drew.grown hg2.out HNE.out); have HG2 := As (grown2 (grown2 HG1.out (grown_drew _ _)) hg2.out)))
     (first | go_end0 | ((try simp only [Exit.inBlock, Exit.then]); refine bodyPost_ret (results_none rfl _ _ _) rfl ?_))
     exact ⟨rfl, by unfold TakePost; rw [HT.out, HM.out]; exact ⟨SB2.out, HG2.out⟩⟩
   ·have d3 : (x.f5 == 3) = false := beq_eq_false_iff_ne.mpr k3
    by_cases k5 : x.f5 = 5
    ·have HT : Aside0 (s.takeS x = ⟨s.g, s.l, true, mxI s.top x.f9⟩) := ⟨(if_neg k1).trans ((if_neg k2).trans (if_pos (.inr k5)))⟩
     have d5 : (x.f5 == 5) = true := beq_iff_eq.mpr k5
     clear k1 k2 k3 k5
     go_enter Tryd.func51, Tryd.ntmps51
     go_upto_region 1 with (fail)
     rw [← HW.out]
     have c0 : W0.cell? ⟨W.heap.size, 0, none⟩ = some (x.f0) := HX0.out.at_ 0
     have c1 : W0.cell? ⟨W.heap.size, 1, none⟩ = some (x.f1) := HX0.out.at_ 1
     obtain ⟨_, _, _, _, c4, c5, c6, c7, c8, c9, _⟩ := cs11 HX0.out
     have s7 : W0.cell? ⟨b, A.length + 1 + 6, none⟩ = some (.int .i64 s.l.un) := seg_at SB0.out 7 rfl
     have s10 : W0.cell? ⟨b, A.length + 10, none⟩ = some (.int .i64 s.top) := seg_at SB0.out 10 rfl
     go_upto_region 11 with (((with_reducible refine gate_ (.store 4 (.tmp 55) (.const (.bool true))) rfl ?_); refine seg_store ?hN ?hgd 4 (.tmp 55) (.const (.bool true)) ?ho (SB0.out) 9 (.bool true) [.bool true] [.bool s.g, .int .i64 s.l.o, .int .i64 s.l.k, .int .i64 s.l.s, .int .i64 s.l.h, .int .i64 s.l.z, .int .i64 s.l.fr, .int .i64 s.l.un, .bool s.l.rc, .bool true, .int .i64 s.top] ?ha ?hx ?hu ?ht ?hf ?h1 ?hE ?_; (case hN => rfl); (case hgd => rfl); (case ho => rfl); (case ha => exact ⟨_, rfl, by omega⟩); (case hx => rfl); (case hu => rfl); (case ht => kernel_rfl); (case hf => exact Nat.le_of_ble_eq_true rfl); (case h1 => intro v hv; simp only [List.mem_cons, List.not_mem_nil, or_false] at hv; rcases hv with rfl <;> rfl); (case hE => rfl); intro w1 SB1 hg1; have HX1 := As (HX0.out.grown hg1.out HNE.out); have HG1 := As (grown2 HG0.out hg1.out); have c9 : w1.cell? ⟨W.heap.size, 9, none⟩ = some (x.f9) := HX1.out.at_ 9; have s7 : w1.cell? ⟨b, A.length + 1 + 6, none⟩ = some (.int .i64 s.l.un) := seg_at SB1.out 7 rfl; have s10 : w1.cell? ⟨b, A.length + 10, none⟩ = some (.int .i64 s.top) := seg_at SB1.out 10 rfl))
     by_cases hm : s.top < x.f9
     ·have HM : Aside0 (mxI s.top x.f9 = x.f9) := ⟨if_pos hm⟩
      go_still_tail 10, (by kernel_rfl)
      go_wp2_with (((with_reducible refine gate_ (.store 3 (.tmp 65) (.tmp 63)) rfl ?_); refine seg_store ?hN ?hgd 3 (.tmp 65) (.tmp 63) ?ho (SB1.out.drew) 10 (x.f9) [x.f9] [.bool s.g, .int .i64 s.l.o, .int .i64 s.l.k, .int .i64 s.l.s, .int .i64 s.l.h, .int .i64 s.l.z, .int .i64 s.l.fr, .int .i64 s.l.un, .bool s.l.rc, .bool true, x.f9] ?ha ?hx ?hu ?ht ?hf ?h1 ?hE ?_; (case hN => rfl); (case hgd => rfl); (case ho => rfl); (case ha => exact ⟨_, rfl, by omega⟩); (case hx => rfl); (case hu => rfl); (case ht => kernel_rfl); (case hf => exact Nat.le_of_ble_eq_true rfl); (case h1 => intro v hv; simp only [List.mem_cons, List.not_mem_nil, or_false] at hv; rcases hv with rfl <;> rfl); (case hE => rfl); intro w2 SB2 hg2; have HX2 := As (HX1.out.drew.grown hg2.out HNE.out); have HG2 := As (grown2 (grown2 HG1.out (grown_drew _ _)) hg2.out)))
      (first | go_end0 | ((try simp only [Exit.inBlock, Exit.then]); refine bodyPost_ret (results_none rfl _ _ _) rfl ?_))
      exact ⟨rfl, by unfold TakePost; rw [HT.out, HM.out]; exact ⟨SB2.out, HG2.out⟩⟩
     ·have HM : Aside0 (mxI s.top x.f9 = s.top) := ⟨if_neg hm⟩
      go_still_tail 10, (by kernel_rfl)
      go_wp2_with (((with_reducible refine gate_ (.store 3 (.tmp 65) (.tmp 63)) rfl ?_); refine seg_store ?hN ?hgd 3 (.tmp 65) (.tmp 63) ?ho (SB1.out.drew) 10 (.int .i64 s.top) [.int .i64 s.top] [.bool s.g, .int .i64 s.l.o, .int .i64 s.l.k, .int .i64 s.l.s, .int .i64 s.l.h, .int .i64 s.l.z, .int .i64 s.l.fr, .int .i64 s.l.un, .bool s.l.rc, .bool true, .int .i64 s.top] ?ha ?hx ?hu ?ht ?hf ?h1 ?hE ?_; (case hN => rfl); (case hgd => rfl); (case ho => rfl); (case ha => exact ⟨_, rfl, by omega⟩); (case hx => rfl); (case hu => rfl); (case ht => kernel_rfl); (case hf => exact Nat.le_of_ble_eq_true rfl); (case h1 => intro v hv; simp only [List.mem_cons, List.not_mem_nil, or_false] at hv; rcases hv with rfl <;> rfl); (case hE => rfl); intro w2 SB2 hg2; have HX2 := As (HX1.out.drew.grown hg2.out HNE.out); have HG2 := As (grown2 (grown2 HG1.out (grown_drew _ _)) hg2.out)))
      (first | go_end0 | ((try simp only [Exit.inBlock, Exit.then]); refine bodyPost_ret (results_none rfl _ _ _) rfl ?_))
      exact ⟨rfl, by unfold TakePost; rw [HT.out, HM.out]; exact ⟨SB2.out, HG2.out⟩⟩
    ·have HT : Aside0 (s.takeS x = ⟨s.g, ⟨s.l.o, s.l.k, s.l.s, s.l.h, s.l.z, s.l.fr, s.l.un, true⟩, s.e, mxI s.top x.f9⟩) := ⟨(if_neg k1).trans ((if_neg k2).trans (if_neg (fun h => h.elim k3 k5)))⟩
     have d5 : (x.f5 == 5) = false := beq_eq_false_iff_ne.mpr k5
     clear k1 k2 k3 k5
     go_enter Tryd.func51, Tryd.ntmps51
     go_upto_region 1 with (fail)
     rw [← HW.out]
     have c0 : W0.cell? ⟨W.heap.size, 0, none⟩ = some (x.f0) := HX0.out.at_ 0
     have c1 : W0.cell? ⟨W.heap.size, 1, none⟩ = some (x.f1) := HX0.out.at_ 1
     obtain ⟨_, _, _, _, c4, c5, c6, c7, c8, c9, _⟩ := cs11 HX0.out
     have s7 : W0.cell? ⟨b, A.length + 1 + 6, none⟩ = some (.int .i64 s.l.un) := seg_at SB0.out 7 rfl
     have s10 : W0.cell? ⟨b, A.length + 10, none⟩ = some (.int .i64 s.top) := seg_at SB0.out 10 rfl
     go_upto_region 11 with (((with_reducible refine gate_ (.store 4 (.tmp 9) (.const (.bool true))) rfl ?_); refine seg_store ?hN ?hgd 4 (.tmp 9) (.const (.bool true)) ?ho (SB0.out) 8 (.bool true) [.bool true] [.bool s.g, .int .i64 s.l.o, .int .i64 s.l.k, .int .i64 s.l.s, .int .i64 s.l.h, .int .i64 s.l.z, .int .i64 s.l.fr, .int .i64 s.l.un, .bool true, .bool s.e, .int .i64 s.top] ?ha ?hx ?hu ?ht ?hf ?h1 ?hE ?_; (case hN => rfl); (case hgd => rfl); (case ho => rfl); (case ha => exact ⟨_, rfl, by omega⟩); (case hx => rfl); (case hu => rfl); (case ht => kernel_rfl); (case hf => exact Nat.le_of_ble_eq_true rfl); (case h1 => intro v hv; simp only [List.mem_cons, List.not_mem_nil, or_false] at hv; rcases hv with rfl <;> rfl); (case hE => rfl); intro w1 SB1 hg1; have HX1 := As (HX0.out.grown hg1.out HNE.out); have HG1 := As (grown2 HG0.out hg1.out); have c9 : w1.cell? ⟨W.heap.size, 9, none⟩ = some (x.f9) := HX1.out.at_ 9; have s7 : w1.cell? ⟨b, A.length + 1 + 6, none⟩ = some (.int .i64 s.l.un) := seg_at SB1.out 7 rfl; have s10 : w1.cell? ⟨b, A.length + 10, none⟩ = some (.int .i64 s.top) := seg_at SB1.out 10 rfl))
     by_cases hm : s.top < x.f9
     ·have HM : Aside0 (mxI s.top x.f9 = x.f9) := ⟨if_pos hm⟩
      go_still_tail 10, (by kernel_rfl)
      go_wp2_with (((with_reducible refine gate_ (.store 3 (.tmp 65) (.tmp 63)) rfl ?_); refine seg_store ?hN ?hgd 3 (.tmp 65) (.tmp 63) ?ho (SB1.out.drew) 10 (x.f9) [x.f9] [.bool s.g, .int .i64 s.l.o, .int .i64 s.l.k, .int .i64 s.l.s, .int .i64 s.l.h, .int .i64 s.l.z, .int .i64 s.l.fr, .int .i64 s.l.un, .bool true, .bool s.e, x.f9] ?ha ?hx ?hu ?ht ?hf ?h1 ?hE ?_; (case hN => rfl); (case hgd => rfl); (case ho => rfl); (case ha => exact ⟨_, rfl, by omega⟩); (case hx => rfl); (case hu => rfl); (case ht => kernel_rfl); (case hf => exact Nat.le_of_ble_eq_true rfl); (case h1 => intro v hv; simp only [List.mem_cons, List.not_mem_nil, or_false] at hv; rcases hv with rfl <;> rfl); (case hE => rfl); intro w2 SB2 hg2; have HX2 := As (HX1.out.drew.grown hg2.out HNE.out); have HG2 := As (grown2 (grown2 HG1.out (grown_drew _ _)) hg2.out)))
      (first | go_end0 | ((try simp only [Exit.inBlock, Exit.then]); refine bodyPost_ret (results_none rfl _ _ _) rfl ?_))
      exact ⟨rfl, by unfold TakePost; rw [HT.out, HM.out]; exact ⟨SB2.out, HG2.out⟩⟩
     ·have HM : Aside0 (mxI s.top x.f9 = s.top) := ⟨if_neg hm⟩
      go_still_tail 10, (by kernel_rfl)
      go_wp2_with (((with_reducible refine gate_ (.store 3 (.tmp 65) (.tmp 63)) rfl ?_); refine seg_store ?hN ?hgd 3 (.tmp 65) (.tmp 63) ?ho (SB1.out.drew) 10 (.int .i64 s.top) [.int .i64 s.top] [.bool s.g, .int .i64 s.l.o, .int .i64 s.l.k, .int .i64 s.l.s, .int .i64 s.l.h, .int .i64 s.l.z, .int .i64 s.l.fr, .int .i64 s.l.un, .bool true, .bool s.e, .int .i64 s.top] ?ha ?hx ?hu ?ht ?hf ?h1 ?hE ?_; (case hN => rfl); (case hgd => rfl); (case ho => rfl); (case ha => exact ⟨_, rfl, by omega⟩); (case hx => rfl); (case hu => rfl); (case ht => kernel_rfl); (case hf => exact Nat.le_of_ble_eq_true rfl); (case h1 => intro v hv; simp only [List.mem_cons, List.not_mem_nil, or_false] at hv; rcases hv with rfl <;> rfl); (case hE => rfl); intro w2 SB2 hg2; have HX2 := As (HX1.out.drew.grown hg2.out HNE.out); have HG2 := As (grown2 (grown2 HG1.out (grown_drew _ _)) hg2.out)))
      (first | go_end0 | ((try simp only [Exit.inBlock, Exit.then]); refine bodyPost_ret (results_none rfl _ _ _) rfl ?_))
      exact ⟨rfl, by unfold TakePost; rw [HT.out, HM.out]; exact ⟨SB2.out, HG2.out⟩⟩
end
section
attribute [local go_sem ↓] some_setCell
def zSl : Sl := ⟨false, ⟨0, 0, 0, 0, 0, 0, 0, false⟩, false, 0⟩
def rdS (ss : List Sl) (k : Int) : Sl := ss.getD k.toNat zSl
def slotB (x : S51) : Bool := decide (1 ≤ x.f5) && decide (x.f5 ≤ 5)
theorem slotted_is (x : S51) : lease_slotted.f x.f0 x.f1 x.f2 x.f3 x.f4 x.f5 x.f6 x.f7 x.f8 x.f9 x.f10 = some (slotB x) := by
 unfold lease_slotted.f slotB
 by_cases h : x.f5 ≥ 1
 ·rw [if_pos h, decide_eq_true (show 1 ≤ x.f5 from h), Bool.true_and]
 ·rw [if_neg h, decide_eq_false (show ¬ 1 ≤ x.f5 from h), Bool.false_and]
theorem valid_fits {x : S51} (h : validB x = true) : fitsB x = true := by
 unfold validB at h
 simp only [Bool.and_eq_true] at h
 exact h.2.2.2.2.2.2.2.2.2.2
theorem slot_rng {x : S51} (h : validB x = true) (hs : slotB x = true) : 0 ≤ x.f6 ∧ x.f6 < 64 := by
 have hf := valid_fits h
 unfold slotB at hs
 simp only [Bool.and_eq_true, decide_eq_true_eq] at hs
 have key : ∀ (f : Fm) (d : Int), f.a0 = 0 → f.a1 = 63 → f.allB x d = true → 0 ≤ x.f6 ∧ x.f6 < 64 := by
  intro f d h0 h1 ha
  unfold Fm.allB holdsB at ha
  simp only [Bool.and_eq_true, decide_eq_true_eq] at ha
  omega
 have hk : x.f5 = 1 ∨ x.f5 = 2 ∨ x.f5 = 3 ∨ x.f5 = 4 ∨ x.f5 = 5 := by omega
 have hab : (formOf x.f5).a0 = 0 ∧ (formOf x.f5).a1 = 63 := by
  rcases hk with e | e | e | e | e <;> rw [e] <;> exact ⟨rfl, rfl⟩
 unfold fitsB at hf
 split at hf
 ·cases hf
 ·split at hf
  ·split at hf
   ·cases hf
   ·exact key _ _ hab.1 hab.2 hf
  ·split at hf
   ·split at hf
    ·cases hf
    ·exact key _ _ hab.1 hab.2 hf
   ·exact key _ _ hab.1 hab.2 hf
def rightI (l : List S51) : Nat → Nat → List Sl → Int
 | 0, _, _ => 0
 | d + 1, i, ss => if validB (rd_T51 l i) = false then 2
  else if ((rd_T51 l i).f0 != (rd_T51 l 0).f0 || (rd_T51 l i).f1 != (rd_T51 l 0).f1) = true then 20
  else if (decide (0 < i) && decide ((rd_T51 l i).f4 < (rd_T51 l ((i : Int) - 1)).f4)) = true then 22
  else if slotB (rd_T51 l i) = false then rightI l d (i + 1) ss
  else if (rdS ss (rd_T51 l i).f6).fitsB (rd_T51 l i) = false then 18
  else rightI l d (i + 1) (ss.set (rd_T51 l i).f6.toNat ((rdS ss (rd_T51 l i).f6).takeS (rd_T51 l i)))
def lease_Right.f (l : List S51) : Option Int := some (rightI l l.length 0 (List.replicate 64 zSl))
theorem valid_at (x : S51) (W : World) (hG : GW W) (b : Bool) (h : validB x = b) : Calls Tryd.prog 53 #[.agg #[x.f0, x.f1, x.f2, x.f3, x.f4, x.f5, x.f6, x.f7, x.f8, x.f9, x.f10]] W fun e w' => e = .returned (.bool b) ∧ Below W.heap.size W w' := by
 subst h
 exact valid.calls x W hG
theorem fit_at (b : Nat) (T : TypeId) (ss : List Sl) (x : S51) (W : World) (hB : BlkIs W b T (flat Sl.enc ss)) (k : Nat) (hk : k < ss.length) (r : Bool) (h : ss[k].fitsB x = r) : Calls Tryd.prog 55 #[.pointer (some ⟨b, k * 11, none⟩), .agg #[x.f0, x.f1, x.f2, x.f3, x.f4, x.f5, x.f6, x.f7, x.f8, x.f9, x.f10]] W fun e w' => e = .returned (.bool r) ∧ Below W.heap.size W w' := by
 subst h
 exact slot_fits.calls b (k * 11) ss[k] x W (fun j v hj => by
  have hj11 : j < 11 := (List.getElem?_eq_some_iff.1 hj).1
  rw [hB.at_, fget Sl.len ss k j hk hj11, hj])
theorem split_flat (ss : List Sl) (k : Nat) (hk : k < ss.length) : flat Sl.enc ss = flat Sl.enc (ss.take k) ++ ss[k].enc ++ flat Sl.enc (ss.drop (k + 1)) := by
 have h : ss = ss.take k ++ ss[k] :: ss.drop (k + 1) := by rw [← List.drop_eq_getElem_cons hk, List.take_append_drop]
 have h2 := congrArg (flat Sl.enc) h
 rw [flat_append, flat_cons, ← List.append_assoc] at h2
 exact h2
theorem set_flat (ss : List Sl) (k : Nat) (hk : k < ss.length) (s : Sl) : flat Sl.enc (ss.set k s) = flat Sl.enc (ss.take k) ++ s.enc ++ flat Sl.enc (ss.drop (k + 1)) := by
 rw [List.set_eq_take_append_cons_drop, if_pos hk, flat_append, flat_cons, ← List.append_assoc]
theorem take_at (b : Nat) (T : TypeId) (ss : List Sl) (x : S51) (W : World) (hB : BlkIs W b T (flat Sl.enc ss)) (k : Nat) (hk : k < ss.length) : Calls Tryd.prog 51 #[.pointer (some ⟨b, k * 11, none⟩), .agg #[x.f0, x.f1, x.f2, x.f3, x.f4, x.f5, x.f6, x.f7, x.f8, x.f9, x.f10]] W fun e w' => e = .returned (.tuple #[]) ∧ Aside0 (BlkIs w' b T (flat Sl.enc (ss.set k (ss[k].takeS x)))) ∧ Aside0 (W.grownBy w' (some b)) := by
 rw [split_flat ss k hk] at hB
 have hlen : (flat Sl.enc (ss.take k)).length = k * 11 := by rw [flen Sl.len, List.length_take, Nat.min_eq_left (by omega)]
 have h := slot_take.calls b T _ _ ss[k] x W hB
 rw [hlen] at h
 refine h.mono fun e w' ⟨he, h1, h2⟩ => ⟨he, ⟨?_⟩, ⟨h2⟩⟩
 rw [set_flat ss k hk]
 exact h1
def zcR : Array Value := (flat Sl.enc (List.replicate 64 zSl)).toArray
theorem zcR_size : zcR.size = 704 := by kernel_rfl
theorem zcR_ne : zcR ≠ #[] := fun e => by
 have := zcR_size
 rw [e] at this
 cases this
theorem zcR_run (w : World) : (zeroValue 96).run Tryd.prog w = .ok (.agg zcR) w := by kernel_rfl
attribute [local go_sem ↓] zcR_run
attribute [local go_sem] zcR_size
attribute [local simp] zcR_ne
set_option maxHeartbeats 16000000 in
set_option maxRecDepth 100000 in
theorem lease_Right.calls (A0 : Option Addr) (c0 : Nat) (l : List S51) (r : Int) (w : World) (hG : GW w) (hr0 : Kd.C k51 w A0 l.length l) (hc0 : l.length ≤ c0) (h : lease_Right.f l = some r) :
 Calls Tryd.prog 40 #[.slice A0 l.length c0] w fun e w' => e = .returned (.int .i64 r) ∧ Below w.heap.size w w' := by
 have hr := Option.some.inj h
 clear h
 have hu := Tryd.underlying51
 have HG := As hG
 have HC := As hr0
 have HLM : Aside0 (l.length ≤ 9223372036854775807) := ⟨hr0.2.1⟩
 have HE := As hr
 clear hG hr0 hr hc0
 go_enter Tryd.func40, Tryd.ntmps40
 go_wp2_with (fail)
 unfold zcR
 obtain ⟨W0, hW0⟩ : ∃ W0, W0 = w.alloc (.cells (flat Sl.enc (List.replicate 64 zSl)).toArray 96) := ⟨_, rfl⟩
 rw [← hW0]
 have HS0 : Aside0 (BlkIs W0 w.heap.size 96 (flat Sl.enc (List.replicate 64 zSl))) := ⟨by rw [hW0]; exact heap_alloc_new w _⟩
 have HB0 : Aside0 (Below w.heap.size w W0) := ⟨by rw [hW0]; exact below_alloc (Below.refl _ _) _⟩
 clear hW0
 go_loopg [9] l.length (fun kq v9 w' => ∃ (i : Nat) (ss : List Sl), v9 = .int .i64 i ∧ Aside0 (i + kq = l.length) ∧ Aside0 (rightI l kq i ss = r) ∧ Aside0 (ss.length = 64) ∧ Aside0 (BlkIs w' w.heap.size 96 (flat Sl.enc ss)) ∧ Aside0 (Below w.heap.size w w'))
 case atStart => exact ⟨0, List.replicate 64 zSl, rfl, ⟨by omega⟩, HE, ⟨List.length_replicate ..⟩, HS0, HB0⟩
 case round =>
  clear HS0 HB0 HE
  obtain ⟨i, ss, rfl, HI, HX, HLS, HS, HB⟩ := hrel
  cases gk with
  | zero =>
   have a3_ : decide ((i : Int) < (l.length : Int)) = false := decide_eq_false (by have := HI.out; omega)
   have a4_ : decide (i < l.length) = false := decide_eq_false (by have := HI.out; omega)
   have hre : (0 : Int) = r := HX.out
   subst hre
   go_wp2
   go_ret
   exact ⟨rfl, HB.out⟩
  | succ k1 =>
   have hil : i < l.length := by have := HI.out; omega
   have a3_ : decide ((i : Int) < (l.length : Int)) = true := decide_eq_true (by omega)
   have a4_ : decide (i < l.length) = true := decide_eq_true hil
   have a5_ : (i : Int) ≤ 9223372036854775806 := by have := HLM.out; omega
   have p1 : 0 ≤ (i : Int) := by omega
   have q1 : (i : Int) < (l.length : Int) := by omega
   obtain ⟨ad, e1, hx0, hx1, hx2, hx3, hx4, hx5, hx6, hx7, hx8, hx9, a1_⟩ := at_T51 HC.out i p1 q1
   cases e1
   obtain ⟨ad', e2, hy0, hy1, _⟩ := at_T51 HC.out 0 (by omega) (by omega)
   cases e2
   obtain ⟨y, hye⟩ : ∃ y, y = rd_T51 l 0 := ⟨_, rfl⟩
   rw [← hye] at hy0 hy1
   have EY := As hye
   have HY0 := As hy0
   have HY1 := As hy1
   clear hye hy0 hy1
   replace hx0 := (HB.out.cell (World.block_lt_of_cell? w _ hx0)).trans hx0
   replace hx1 := (HB.out.cell (World.block_lt_of_cell? w _ hx1)).trans hx1
   replace hx2 := (HB.out.cell (World.block_lt_of_cell? w _ hx2)).trans hx2
   replace hx3 := (HB.out.cell (World.block_lt_of_cell? w _ hx3)).trans hx3
   replace hx4 := (HB.out.cell (World.block_lt_of_cell? w _ hx4)).trans hx4
   replace hx5 := (HB.out.cell (World.block_lt_of_cell? w _ hx5)).trans hx5
   replace hx6 := (HB.out.cell (World.block_lt_of_cell? w _ hx6)).trans hx6
   replace hx7 := (HB.out.cell (World.block_lt_of_cell? w _ hx7)).trans hx7
   replace hx8 := (HB.out.cell (World.block_lt_of_cell? w _ hx8)).trans hx8
   replace hx9 := (HB.out.cell (World.block_lt_of_cell? w _ hx9)).trans hx9
   replace a1_ := (HB.out.cell (World.block_lt_of_cell? w _ a1_)).trans a1_
   rw [Int.toNat_natCast] at hx0 hx1 hx2 hx3 hx4 hx5 hx6 hx7 hx8 hx9 a1_
   obtain ⟨x, hxe⟩ : ∃ x, x = rd_T51 l (i : Int) := ⟨_, rfl⟩
   rw [← hxe] at hx0 hx1 hx2 hx3 hx4 hx5 hx6 hx7 hx8 hx9 a1_
   have EX := As hxe
   clear hxe
   have hHN := heap_alloc_new wr (.cells #[x.f0, x.f1, x.f2, x.f3, x.f4, x.f5, x.f6, x.f7, x.f8, x.f9, x.f10] 51)
   have hHS := HS.out.alloc (.cells #[x.f0, x.f1, x.f2, x.f3, x.f4, x.f5, x.f6, x.f7, x.f8, x.f9, x.f10] 51)
   have hHB := below_alloc HB.out (.cells #[x.f0, x.f1, x.f2, x.f3, x.f4, x.f5, x.f6, x.f7, x.f8, x.f9, x.f10] 51)
   have HNW : Aside0 (w.heap.size ≠ wr.heap.size) := ⟨fun e => by have := HS.out.lt; omega⟩
   go_upto_region 5 with (fail)
   generalize wr.alloc (.cells #[x.f0, x.f1, x.f2, x.f3, x.f4, x.f5, x.f6, x.f7, x.f8, x.f9, x.f10] 51) = w1 at hHN hHS hHB ⊢
   have HN1 : Aside0 (BlkIs w1 wr.heap.size 51 [x.f0, x.f1, x.f2, x.f3, x.f4, x.f5, x.f6, x.f7, x.f8, x.f9, x.f10]) := ⟨hHN⟩
   have HS1 := As hHS
   have HB1 := As hHB
   have HG1 := As (HG.out.below HB1.out)
   clear hHN hHS hHB hx0 hx1 hx2 hx3 hx4 hx5 hx6 hx7 hx8 hx9 a1_ HS HB
   have hq0_ := cs11 HN1.out
   cases hv : validB x with
   | false =>
    have HV := As hv
    clear hv
    have hre : (2 : Int) = r := by
     rw [← HX.out, rightI, ← EX.out, ← EY.out, if_pos HV.out]
    subst hre
    go_wp2_with ((go_at_call 53; (with_reducible refine (valid_at x _ HG1.out false HV.out).mono ?_); rintro e w2 ⟨rfl, hb2⟩; have HN2 := As (HN1.out.below hb2); have HS2 := As (HS1.out.below hb2); have HB2 := As (below_step HB1.out hb2); clear hb2; have hq1_ := cs11 HN2.out; have ya_2 := (HB2.out.cell (World.block_lt_of_cell? w _ HY0.out)).trans HY0.out; have yb_2 := (HB2.out.cell (World.block_lt_of_cell? w _ HY1.out)).trans HY1.out))
    go_ret
    exact ⟨rfl, by repeat (first | exact HB2.out | apply below_drew1 | apply pw_below_drewN)⟩
   | true =>
    have HV := As hv
    have HVN : Aside0 (¬ validB x = false) := ⟨by rw [hv]; decide⟩
    clear hv
    go_upto_region 7 with ((go_at_call 53; (with_reducible refine (valid_at x _ HG1.out true HV.out).mono ?_); rintro e w2 ⟨rfl, hb2⟩; have HN2 := As (HN1.out.below hb2); have HS2 := As (HS1.out.below hb2); have HB2 := As (below_step HB1.out hb2); clear hb2; have hq1_ := cs11 HN2.out; have ya_2 := (HB2.out.cell (World.block_lt_of_cell? w _ HY0.out)).trans HY0.out; have yb_2 := (HB2.out.cell (World.block_lt_of_cell? w _ HY1.out)).trans HY1.out))
    have z2 : w2.cell? ad = some (.int .i64 y.f0) := ya_2
    have z3 : w2.cell? ⟨ad.block, ad.off + 1, none⟩ = some (.int .i64 y.f1) := yb_2
    have z0 : w2.cell? (ad.add 0) = some (.int .i64 y.f0) := ya_2
    have z1 : w2.cell? ⟨(ad.add 0).block, (ad.add 0).off + 1, none⟩ = some (.int .i64 y.f1) := yb_2
    have hl0 : (0 : Int) < (l.length : Int) := by omega
    have hl0n : 0 < l.length := by omega
    cases hp0 : (x.f0 != y.f0) with
    | true =>
     have HP : Aside0 ((x.f0 != y.f0 || x.f1 != y.f1) = true) := ⟨by rw [hp0]; rfl⟩
     have hre : (20 : Int) = r := by
      rw [← HX.out, rightI, ← EX.out, ← EY.out, if_neg HVN.out, if_pos HP.out]
     subst hre
     go_quiet ((fail))
     go_wp2
     go_ret
     exact ⟨rfl, by repeat (first | exact HB2.out | apply below_drew1 | apply pw_below_drewN)⟩
    | false =>
     cases hp1 : (x.f1 != y.f1) with
     | true =>
      have HP : Aside0 ((x.f0 != y.f0 || x.f1 != y.f1) = true) := ⟨by rw [hp0, hp1]; rfl⟩
      have hre : (20 : Int) = r := by
       rw [← HX.out, rightI, ← EX.out, ← EY.out, if_neg HVN.out, if_pos HP.out]
      subst hre
      go_quiet ((fail))
      go_wp2
      go_ret
      exact ⟨rfl, by repeat (first | exact HB2.out | apply below_drew1 | apply pw_below_drewN)⟩
     | false =>
      have HP : Aside0 (¬ (x.f0 != y.f0 || x.f1 != y.f1) = true) := ⟨by rw [hp0, hp1]; decide⟩
      go_quiet ((fail))
      go_upto_region 9 with (fail)
      have HN6 := As (HN2.out.drewN nq)
      have HS6 := As (HS2.out.drewN nq)
      have HB6 := As (pw_below_drewN HB2.out nq)
      generalize (World.drewN _ nq) = w2b at HN6 HS6 HB6 ⊢
      have hq2_ := cs11 HN6.out
      clear z0 z1 z2 z3 ya_2 yb_2 hl0 hl0n
      by_cases t0 : i = 0
      ·have HT : Aside0 (¬ (decide (0 < i) && decide (x.f4 < (rd_T51 l ((i : Int) - 1)).f4)) = true) := ⟨by rw [decide_eq_false (show ¬ 0 < i by omega)]; simp⟩
       have d0 : decide (0 < (i : Int)) = false := decide_eq_false (by omega)
       have d0n : decide (0 < i) = false := decide_eq_false (by omega)
       clear t0
       go_quiet ((fail))
       go_upto_region 11 with (fail)
       have HN7 := As (HN6.out.drewN nq)
       have HS7 := As (HS6.out.drewN nq)
       have HB7 := As (pw_below_drewN HB6.out nq)
       generalize (World.drewN _ nq) = w2c at HN7 HS7 HB7 ⊢
       have hq3_ := cs11 HN7.out
       cases hs : slotB x with
       | false =>
        have HSL := As hs
        clear hs
        have hre : rightI l k1 (i + 1) ss = r := by
         rw [← HX.out, rightI, ← EX.out, ← EY.out, if_neg HVN.out, if_neg HP.out, if_neg HT.out, if_pos HSL.out]
        have HRE := As hre
        clear hre
        go_wp2_with ((go_at_call 54; (with_reducible refine (lease_slotted.calls x.f0 x.f1 x.f2 x.f3 x.f4 x.f5 x.f6 x.f7 x.f8 x.f9 x.f10 false _ (by rw [slotted_is]; exact congrArg some HSL.out)).mono ?_); rintro e w3 ⟨rfl, hb3⟩; have HN3 := As (HN7.out.below hb3); have HS3 := As (HS7.out.below hb3); have HB3 := As (below_step HB7.out hb3); clear hb3; have hq4_ := cs11 HN3.out; have a0_ : w3.cell? ⟨wr.heap.size, 10, none⟩ = some (x.f10) := HN3.out.at_ 10))
        go_roundg k1
        case measure => omega
        case rel => exact ⟨i + 1, ss, by simp, ⟨by have := HI.out; omega⟩, HRE, HLS, HS3, HB3⟩
       | true =>
        have HSL := As hs
        have HSN : Aside0 (¬ slotB x = false) := ⟨by rw [hs]; decide⟩
        obtain ⟨f0, f64⟩ := slot_rng HV.out hs
        clear hs
        have HK : Aside0 (x.f6.toNat < ss.length) := ⟨by have := HLS.out; omega⟩
        have HRD : Aside0 (rdS ss x.f6 = ss[x.f6.toNat]'HK.out) := ⟨by unfold rdS; rw [List.getD_eq_getElem?_getD, List.getElem?_eq_getElem HK.out]; rfl⟩
        cases hf : (ss[x.f6.toNat]'HK.out).fitsB x with
        | false =>
         have HFI := As hf
         clear hf
         have hre : (18 : Int) = r := by
          rw [← HX.out, rightI, ← EX.out, ← EY.out, if_neg HVN.out, if_neg HP.out, if_neg HT.out, if_neg HSN.out, HRD.out, if_pos HFI.out]
         subst hre
         go_wp2_with (first | (go_at_call 54; (with_reducible refine (lease_slotted.calls x.f0 x.f1 x.f2 x.f3 x.f4 x.f5 x.f6 x.f7 x.f8 x.f9 x.f10 true _ (by rw [slotted_is]; exact congrArg some HSL.out)).mono ?_); rintro e w3 ⟨rfl, hb3⟩; have HN3 := As (HN7.out.below hb3); have HS3 := As (HS7.out.below hb3); have HB3 := As (below_step HB7.out hb3); clear hb3; have hq4_ := cs11 HN3.out; have a0_ : w3.cell? ⟨wr.heap.size, 10, none⟩ = some (x.f10) := HN3.out.at_ 10) | (go_at_call 55; (with_reducible refine (fit_at _ _ ss x _ HS3.out x.f6.toNat HK.out false HFI.out).mono ?_); rintro e w4 ⟨rfl, hb4⟩; have HN4 := As (HN3.out.below hb4); have HS4 := As (HS3.out.below hb4); have HB4 := As (below_step HB3.out hb4); clear hb4; have hq5_ := cs11 HN4.out; have a2_ : w4.cell? ⟨wr.heap.size, 10, none⟩ = some (x.f10) := HN4.out.at_ 10))
         go_ret
         exact ⟨rfl, HB4.out⟩
        | true =>
         have HFI := As hf
         have HFN : Aside0 (¬ (ss[x.f6.toNat]'HK.out).fitsB x = false) := ⟨by rw [hf]; decide⟩
         clear hf
         have hre : rightI l k1 (i + 1) (ss.set x.f6.toNat ((ss[x.f6.toNat]'HK.out).takeS x)) = r := by
          rw [← HX.out, rightI, ← EX.out, ← EY.out, if_neg HVN.out, if_neg HP.out, if_neg HT.out, if_neg HSN.out, HRD.out, if_neg HFN.out]
         have HRE := As hre
         clear hre
         go_wp2_with (first | (go_at_call 54; (with_reducible refine (lease_slotted.calls x.f0 x.f1 x.f2 x.f3 x.f4 x.f5 x.f6 x.f7 x.f8 x.f9 x.f10 true _ (by rw [slotted_is]; exact congrArg some HSL.out)).mono ?_); rintro e w3 ⟨rfl, hb3⟩; have HN3 := As (HN7.out.below hb3); have HS3 := As (HS7.out.below hb3); have HB3 := As (below_step HB7.out hb3); clear hb3; have hq4_ := cs11 HN3.out; have a0_ : w3.cell? ⟨wr.heap.size, 10, none⟩ = some (x.f10) := HN3.out.at_ 10) | (go_at_call 55; (with_reducible refine (fit_at _ _ ss x _ HS3.out x.f6.toNat HK.out true HFI.out).mono ?_); rintro e w4 ⟨rfl, hb4⟩; have HN4 := As (HN3.out.below hb4); have HS4 := As (HS3.out.below hb4); have HB4 := As (below_step HB3.out hb4); clear hb4; have hq5_ := cs11 HN4.out; have a2_ : w4.cell? ⟨wr.heap.size, 10, none⟩ = some (x.f10) := HN4.out.at_ 10) | (go_at_call 51; (with_reducible refine (take_at _ _ ss x _ HS4.out x.f6.toNat HK.out).mono ?_); rintro e w5 ⟨rfl, HS5, HG5⟩))
         have hb5 := pw_below_grown HB4.out _ HB4.out.size HG5.out (by intro k hk; injection hk with hk; omega)
         have HB5 := As hb5
         clear hb5
         go_roundg k1
         case measure => omega
         case rel => exact ⟨i + 1, _, by simp, ⟨by have := HI.out; omega⟩, HRE, ⟨by rw [List.length_set]; exact HLS.out⟩, HS5, HB5⟩
      ·have d0 : decide (0 < (i : Int)) = true := decide_eq_true (by omega)
       have d0n : decide (0 < i) = true := decide_eq_true (by omega)
       have p2 : 0 ≤ (i : Int) - 1 := by omega
       have p2b : (1 : Int) ≤ (i : Int) := by omega
       have q2 : (i : Int) - 1 < (l.length : Int) := by omega
       obtain ⟨ad3, e3, _, _, _, _, hv4, _⟩ := at_T51 HC.out ((i : Int) - 1) p2 q2
       cases e3
       obtain ⟨v, hve⟩ : ∃ v, v = rd_T51 l ((i : Int) - 1) := ⟨_, rfl⟩
       rw [← hve] at hv4
       have EV := As hve
       clear hve
       have ht2 : ((i : Int) - 1).toNat = i - 1 := by omega
       rw [ht2] at hv4
       replace hv4 := (HB6.out.cell (World.block_lt_of_cell? w _ hv4)).trans hv4
       have hw2 : IntKind.i64.wrap ((i : Int) - 1) = (i : Int) - 1 := IntWalk.i64_in _ (by omega)
       have HIZ := As t0
       replace p2 := eq_true p2
       replace p2b := eq_true p2b
       replace q2 := eq_true q2
       clear t0
       cases ht : decide (x.f4 < v.f4) with
       | true =>
        have HT : Aside0 ((decide (0 < i) && decide (x.f4 < (rd_T51 l ((i : Int) - 1)).f4)) = true) := ⟨by rw [← EV.out, d0n, ht]; rfl⟩
        have hre : (22 : Int) = r := by
         rw [← HX.out, rightI, ← EX.out, ← EY.out, if_neg HVN.out, if_neg HP.out, if_pos HT.out]
        subst hre
        go_quiet ((fail))
        go_wp2
        go_ret
        exact ⟨rfl, by repeat (first | exact HB6.out | apply below_drew1 | apply pw_below_drewN)⟩
       | false =>
        have HT : Aside0 (¬ (decide (0 < i) && decide (x.f4 < (rd_T51 l ((i : Int) - 1)).f4)) = true) := ⟨by rw [← EV.out, d0n, ht]; decide⟩
        go_quiet ((fail))
        go_upto_region 11 with (fail)
        clear hv4 hw2 p2 p2b q2 ht2 ht
        have HN7 := As (HN6.out.drewN nq)
        have HS7 := As (HS6.out.drewN nq)
        have HB7 := As (pw_below_drewN HB6.out nq)
        generalize (World.drewN _ nq) = w2c at HN7 HS7 HB7 ⊢
        have hq3_ := cs11 HN7.out
        cases hs : slotB x with
        | false =>
         have HSL := As hs
         clear hs
         have hre : rightI l k1 (i + 1) ss = r := by
          rw [← HX.out, rightI, ← EX.out, ← EY.out, if_neg HVN.out, if_neg HP.out, if_neg HT.out, if_pos HSL.out]
         have HRE := As hre
         clear hre
         go_wp2_with ((go_at_call 54; (with_reducible refine (lease_slotted.calls x.f0 x.f1 x.f2 x.f3 x.f4 x.f5 x.f6 x.f7 x.f8 x.f9 x.f10 false _ (by rw [slotted_is]; exact congrArg some HSL.out)).mono ?_); rintro e w3 ⟨rfl, hb3⟩; have HN3 := As (HN7.out.below hb3); have HS3 := As (HS7.out.below hb3); have HB3 := As (below_step HB7.out hb3); clear hb3; have hq4_ := cs11 HN3.out; have a0_ : w3.cell? ⟨wr.heap.size, 10, none⟩ = some (x.f10) := HN3.out.at_ 10))
         go_roundg k1
         case measure => omega
         case rel => exact ⟨i + 1, ss, by simp, ⟨by have := HI.out; omega⟩, HRE, HLS, HS3, HB3⟩
        | true =>
         have HSL := As hs
         have HSN : Aside0 (¬ slotB x = false) := ⟨by rw [hs]; decide⟩
         obtain ⟨f0, f64⟩ := slot_rng HV.out hs
         clear hs
         have HK : Aside0 (x.f6.toNat < ss.length) := ⟨by have := HLS.out; omega⟩
         have HRD : Aside0 (rdS ss x.f6 = ss[x.f6.toNat]'HK.out) := ⟨by unfold rdS; rw [List.getD_eq_getElem?_getD, List.getElem?_eq_getElem HK.out]; rfl⟩
         cases hf : (ss[x.f6.toNat]'HK.out).fitsB x with
         | false =>
          have HFI := As hf
          clear hf
          have hre : (18 : Int) = r := by
           rw [← HX.out, rightI, ← EX.out, ← EY.out, if_neg HVN.out, if_neg HP.out, if_neg HT.out, if_neg HSN.out, HRD.out, if_pos HFI.out]
          subst hre
          go_wp2_with (first | (go_at_call 54; (with_reducible refine (lease_slotted.calls x.f0 x.f1 x.f2 x.f3 x.f4 x.f5 x.f6 x.f7 x.f8 x.f9 x.f10 true _ (by rw [slotted_is]; exact congrArg some HSL.out)).mono ?_); rintro e w3 ⟨rfl, hb3⟩; have HN3 := As (HN7.out.below hb3); have HS3 := As (HS7.out.below hb3); have HB3 := As (below_step HB7.out hb3); clear hb3; have hq4_ := cs11 HN3.out; have a0_ : w3.cell? ⟨wr.heap.size, 10, none⟩ = some (x.f10) := HN3.out.at_ 10) | (go_at_call 55; (with_reducible refine (fit_at _ _ ss x _ HS3.out x.f6.toNat HK.out false HFI.out).mono ?_); rintro e w4 ⟨rfl, hb4⟩; have HN4 := As (HN3.out.below hb4); have HS4 := As (HS3.out.below hb4); have HB4 := As (below_step HB3.out hb4); clear hb4; have hq5_ := cs11 HN4.out; have a2_ : w4.cell? ⟨wr.heap.size, 10, none⟩ = some (x.f10) := HN4.out.at_ 10))
          go_ret
          exact ⟨rfl, HB4.out⟩
         | true =>
          have HFI := As hf
          have HFN : Aside0 (¬ (ss[x.f6.toNat]'HK.out).fitsB x = false) := ⟨by rw [hf]; decide⟩
          clear hf
          have hre : rightI l k1 (i + 1) (ss.set x.f6.toNat ((ss[x.f6.toNat]'HK.out).takeS x)) = r := by
           rw [← HX.out, rightI, ← EX.out, ← EY.out, if_neg HVN.out, if_neg HP.out, if_neg HT.out, if_neg HSN.out, HRD.out, if_neg HFN.out]
          have HRE := As hre
          clear hre
          go_wp2_with (first | (go_at_call 54; (with_reducible refine (lease_slotted.calls x.f0 x.f1 x.f2 x.f3 x.f4 x.f5 x.f6 x.f7 x.f8 x.f9 x.f10 true _ (by rw [slotted_is]; exact congrArg some HSL.out)).mono ?_); rintro e w3 ⟨rfl, hb3⟩; have HN3 := As (HN7.out.below hb3); have HS3 := As (HS7.out.below hb3); have HB3 := As (below_step HB7.out hb3); clear hb3; have hq4_ := cs11 HN3.out; have a0_ : w3.cell? ⟨wr.heap.size, 10, none⟩ = some (x.f10) := HN3.out.at_ 10) | (go_at_call 55; (with_reducible refine (fit_at _ _ ss x _ HS3.out x.f6.toNat HK.out true HFI.out).mono ?_); rintro e w4 ⟨rfl, hb4⟩; have HN4 := As (HN3.out.below hb4); have HS4 := As (HS3.out.below hb4); have HB4 := As (below_step HB3.out hb4); clear hb4; have hq5_ := cs11 HN4.out; have a2_ : w4.cell? ⟨wr.heap.size, 10, none⟩ = some (x.f10) := HN4.out.at_ 10) | (go_at_call 51; (with_reducible refine (take_at _ _ ss x _ HS4.out x.f6.toNat HK.out).mono ?_); rintro e w5 ⟨rfl, HS5, HG5⟩))
          have hb5 := pw_below_grown HB4.out _ HB4.out.size HG5.out (by intro k hk; injection hk with hk; omega)
          have HB5 := As hb5
          clear hb5
          go_roundg k1
          case measure => omega
          case rel => exact ⟨i + 1, _, by simp, ⟨by have := HI.out; omega⟩, HRE, ⟨by rw [List.length_set]; exact HLS.out⟩, HS5, HB5⟩
theorem lease_Right.called (A0 : Option Addr) (c0 : Nat) (l : List S51) (r : Int) (w : World) (hr0 : Kd.C k51 w A0 l.length l) (hc0 : l.length ≤ c0) (h : lease_Right.f l = some r) (hG : GW w) :
 Calls Tryd.prog 40 #[.slice A0 l.length c0] w fun e w' => e = .returned (.int .i64 r) ∧ Below w.heap.size w w' := lease_Right.calls A0 c0 l r w hG hr0 hc0 h
end
end Go.Proofs.YtcgpbmafkgbbdaaDoor.PS
