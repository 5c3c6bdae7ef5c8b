-- Written by a program of this claim's own (hookprint.py), after the pattern of the kit's print. Lean checks it.
import Derived.Test.YthlpjnbpdafjeaaPAx0
import Derived.Test.YthlpjnbpdafjeaaPAx1
import Derived.Test.YthlpjnbpdafjeaaPAx5
import Derived.Test.YthlpjnbpdafjeaaPAx10
import Derived.Test.YthlpjnbpdafjeaaPAx11
namespace Go.Proofs.Ythlpjnbpdafjeaa.PA
open Go.RowKit Go.Proofs.YthlpjnbpdafjeaaW.PrintWords Go.Proofs.YthlpjnbpdafjeaaW.PrintLast Go.Proofs.YthlpjnbpdafjeaaW.PrintMore
attribute [local go_sem ↓] some_setCell
attribute [local go_sem] max2_int min2_int max_two min_two max_three min_three max_four min_four   -- for this text's walks alone
set_option linter.unusedVariables false
set_option linter.unusedSimpArgs false

/-! ### storagebarterlaw10_DeviceFuses: function 3 -/
mutual
def storagebarterlaw10_DeviceFuses.j0 : Nat → Int → Int → Bool → Int → List ByteArray → List Int → List Int → Int → Bool → Option (Bool)
 | 0, _, _, _, _, _, _, _, _, _ => none
 | k + 1, x1, x7, x43, x302000, x302001, x302002, x302003, x302004, x302005 => if x43 = true then (none) else (storagebarterlaw10_DeviceFuses.l0 k x1 x7 0 x302000 x302001 x302002 x302003 x302004 x302005)
def storagebarterlaw10_DeviceFuses.l0 : Nat → Int → Int → Int → Int → List ByteArray → List Int → List Int → Int → Bool → Option (Bool)
 | 0, _, _, _, _, _, _, _, _, _ => none
 | k + 1, x1, x7, x11, x302000, x302001, x302002, x302003, x302004, x302005 => if x11 < (wrap64 (x7 + (wrap64 (Int.tmod x1 10)))) then ((device_Write.f k x302000 x302001 x302002 x302003 x302004 x302005 x11 (⟨#[119]⟩ : ByteArray)).bind fun bt315 => (if x11 < (wrap64 (x7 - 1)) then (if bt315.2.2.2.2.2.2 = 0 then (storagebarterlaw10_DeviceFuses.l0 k x1 x7 (wrap64 (x11 + 1)) bt315.1 bt315.2.1 bt315.2.2.1 bt315.2.2.2.1 bt315.2.2.2.2.1 bt315.2.2.2.2.2.1) else (none)) else (if bt315.2.2.2.2.2.2 = 11 then (if x11 = (wrap64 (x7 - 1)) then (storagebarterlaw10_DeviceFuses.j2 k x1 x7 x11 (!bt315.2.2.2.2.2.1) x302000 x302001 x302002 x302003 x302004 x302005 bt315.1 bt315.2.1 bt315.2.2.1 bt315.2.2.2.1 bt315.2.2.2.2.1 bt315.2.2.2.2.2.1) else (storagebarterlaw10_DeviceFuses.j2 k x1 x7 x11 false x302000 x302001 x302002 x302003 x302004 x302005 bt315.1 bt315.2.1 bt315.2.2.1 bt315.2.2.2.1 bt315.2.2.2.2.1 bt315.2.2.2.2.2.1)) else (storagebarterlaw10_DeviceFuses.j2 k x1 x7 x11 true x302000 x302001 x302002 x302003 x302004 x302005 bt315.1 bt315.2.1 bt315.2.2.1 bt315.2.2.2.1 bt315.2.2.2.2.1 bt315.2.2.2.2.2.1)))) else ((device_Start.f k x302000 x302001 x302002 x302003 x302004 x302005).bind fun bt329 => (storagebarterlaw10_DeviceFuses.l1 k x7 bt329.2.2.2.2.2.2 0 bt329.1 bt329.2.1 bt329.2.2.1 bt329.2.2.2.1 bt329.2.2.2.2.1 bt329.2.2.2.2.2.1))
def storagebarterlaw10_DeviceFuses.j2 : Nat → Int → Int → Int → Bool → Int → List ByteArray → List Int → List Int → Int → Bool → Int → List ByteArray → List Int → List Int → Int → Bool → Option (Bool)
 | 0, _, _, _, _, _, _, _, _, _, _, _, _, _, _, _, _ => none
 | k + 1, x1, x7, x11, x78, x302000, x302001, x302002, x302003, x302004, x302005, x329000, x329001, x329002, x329003, x329004, x329005 => if x78 = true then (none) else (if x11 = (wrap64 (x7 - 1)) then (storagebarterlaw10_DeviceFuses.l0 k x1 x7 (wrap64 (x11 + 1)) x329000 x329001 x329002 x329003 x329004 x329005) else (storagebarterlaw10_DeviceFuses.l0 k x1 x7 (wrap64 (x11 + 1)) x302000 x302001 x302002 x302003 x302004 x302005))
def storagebarterlaw10_DeviceFuses.l1 : Nat → Int → Int → Int → Int → List ByteArray → List Int → List Int → Int → Bool → Option (Bool)
 | 0, _, _, _, _, _, _, _, _, _ => none
 | k + 1, x7, x14, x15, x302000, x302001, x302002, x302003, x302004, x302005 => if x15 < 40 then ((device_Read.f k x302000 x302001 x302002 x302003 x302004 x302005 x15).bind fun bt342 => (if x15 < (wrap64 (x7 - 1)) then (if bt342.2 = 0 then (if bt342.1.toList = ([119] : List UInt8) then (if x15 = (wrap64 (x7 - 1)) then (if bt342.2 = 13 then (if x15 > (wrap64 (x7 - 1)) then (if bt342.1.toList = ([] : List UInt8) then (storagebarterlaw10_DeviceFuses.l1 k x7 x14 (wrap64 (x15 + 1)) x302000 x302001 x302002 x302003 x302004 x302005) else (none)) else (storagebarterlaw10_DeviceFuses.l1 k x7 x14 (wrap64 (x15 + 1)) x302000 x302001 x302002 x302003 x302004 x302005)) else (none)) else (if x15 > (wrap64 (x7 - 1)) then (if bt342.1.toList = ([] : List UInt8) then (storagebarterlaw10_DeviceFuses.l1 k x7 x14 (wrap64 (x15 + 1)) x302000 x302001 x302002 x302003 x302004 x302005) else (none)) else (storagebarterlaw10_DeviceFuses.l1 k x7 x14 (wrap64 (x15 + 1)) x302000 x302001 x302002 x302003 x302004 x302005))) else (none)) else (none)) else (if x15 = (wrap64 (x7 - 1)) then (if bt342.2 = 13 then (if x15 > (wrap64 (x7 - 1)) then (if bt342.2 = 0 then (if bt342.1.toList = ([] : List UInt8) then (storagebarterlaw10_DeviceFuses.l1 k x7 x14 (wrap64 (x15 + 1)) x302000 x302001 x302002 x302003 x302004 x302005) else (none)) else (none)) else (storagebarterlaw10_DeviceFuses.l1 k x7 x14 (wrap64 (x15 + 1)) x302000 x302001 x302002 x302003 x302004 x302005)) else (none)) else (if x15 > (wrap64 (x7 - 1)) then (if bt342.2 = 0 then (if bt342.1.toList = ([] : List UInt8) then (storagebarterlaw10_DeviceFuses.l1 k x7 x14 (wrap64 (x15 + 1)) x302000 x302001 x302002 x302003 x302004 x302005) else (none)) else (none)) else (storagebarterlaw10_DeviceFuses.l1 k x7 x14 (wrap64 (x15 + 1)) x302000 x302001 x302002 x302003 x302004 x302005))))) else (some (x14 == 0))
end
def storagebarterlaw10_DeviceFuses.f (k : Nat) (a0 : Int) (a1 : Int) (a2 : Int) : Option (Bool) := (storagebarterlaw10_sane.f k).bind fun t287 => (if t287 = true then ((device_New.f (wrap64 (16 + (wrap64 (Int.tmod a2 49)))) 40).bind fun bt288 => ((device_Arm.f k bt288.1 bt288.2.1 bt288.2.2.1 bt288.2.2.2.1 bt288.2.2.2.2.1 bt288.2.2.2.2.2.1 (wrap64 (1 + (wrap64 (Int.tmod a0 20))))).bind fun bt302 => (if bt288.2.2.2.2.2.2 = 0 then (storagebarterlaw10_DeviceFuses.j0 k a1 (wrap64 (1 + (wrap64 (Int.tmod a0 20)))) (bt302.2.2.2.2.2.2 != 0) bt302.1 bt302.2.1 bt302.2.2.1 bt302.2.2.2.1 bt302.2.2.2.2.1 bt302.2.2.2.2.2.1) else (storagebarterlaw10_DeviceFuses.j0 k a1 (wrap64 (1 + (wrap64 (Int.tmod a0 20)))) true bt302.1 bt302.2.1 bt302.2.2.1 bt302.2.2.2.1 bt302.2.2.2.2.1 bt302.2.2.2.2.2.1)))) else (none))
theorem storagebarterlaw10_DeviceFuses.mono_l : ∀ k, (∀ y0 y1 y2 y3 y4 y5 y6 y7 y8, LeO (storagebarterlaw10_DeviceFuses.j0 k y0 y1 y2 y3 y4 y5 y6 y7 y8) (storagebarterlaw10_DeviceFuses.j0 (k + 1) y0 y1 y2 y3 y4 y5 y6 y7 y8)) ∧ (∀ y0 y1 y2 y3 y4 y5 y6 y7 y8, LeO (storagebarterlaw10_DeviceFuses.l0 k y0 y1 y2 y3 y4 y5 y6 y7 y8) (storagebarterlaw10_DeviceFuses.l0 (k + 1) y0 y1 y2 y3 y4 y5 y6 y7 y8)) ∧ (∀ y0 y1 y2 y3 y4 y5 y6 y7 y8 y9 y10 y11 y12 y13 y14 y15, LeO (storagebarterlaw10_DeviceFuses.j2 k y0 y1 y2 y3 y4 y5 y6 y7 y8 y9 y10 y11 y12 y13 y14 y15) (storagebarterlaw10_DeviceFuses.j2 (k + 1) y0 y1 y2 y3 y4 y5 y6 y7 y8 y9 y10 y11 y12 y13 y14 y15)) ∧ (∀ y0 y1 y2 y3 y4 y5 y6 y7 y8, LeO (storagebarterlaw10_DeviceFuses.l1 k y0 y1 y2 y3 y4 y5 y6 y7 y8) (storagebarterlaw10_DeviceFuses.l1 (k + 1) y0 y1 y2 y3 y4 y5 y6 y7 y8))
 | 0 => ⟨fun _ _ _ _ _ _ _ _ _ r h => by simp [storagebarterlaw10_DeviceFuses.j0] at h, fun _ _ _ _ _ _ _ _ _ r h => by simp [storagebarterlaw10_DeviceFuses.l0] at h, fun _ _ _ _ _ _ _ _ _ _ _ _ _ _ _ _ r h => by simp [storagebarterlaw10_DeviceFuses.j2] at h, fun _ _ _ _ _ _ _ _ _ r h => by simp [storagebarterlaw10_DeviceFuses.l1] at h⟩
 | k + 1 => by
  obtain ⟨ih0, ih1, ih2, ih3⟩ := storagebarterlaw10_DeviceFuses.mono_l k
  refine ⟨?_, ?_, ?_, ?_⟩
  ·intro y0 y1 y2 y3 y4 y5 y6 y7 y8
   unfold storagebarterlaw10_DeviceFuses.j0
   repeat' first
   | (with_reducible exact ih0 _ _ _ _ _ _ _ _ _)
   | (with_reducible exact ih1 _ _ _ _ _ _ _ _ _)
   | (with_reducible exact ih2 _ _ _ _ _ _ _ _ _ _ _ _ _ _ _ _)
   | (with_reducible exact ih3 _ _ _ _ _ _ _ _ _)
   | (with_reducible exact device_Arm.mono _ _ _ _ _ _ _ _)
   | (with_reducible exact device_Read.mono _ _ _ _ _ _ _ _)
   | (with_reducible exact device_Start.mono _ _ _ _ _ _ _)
   | (with_reducible exact device_Write.mono _ _ _ _ _ _ _ _ _)
   | (with_reducible exact storagebarterlaw10_sane.mono _)
   | (with_reducible exact LeO.refl _)
   | (with_reducible exact LeO.none _)
   | (with_reducible refine LeO.ite ?_ ?_)
   | (with_reducible refine LeO.bind ?_ (fun _ => ?_))
   | exact ih0 _ _ _ _ _ _ _ _ _
   | exact ih1 _ _ _ _ _ _ _ _ _
   | exact ih2 _ _ _ _ _ _ _ _ _ _ _ _ _ _ _ _
   | exact ih3 _ _ _ _ _ _ _ _ _
   | exact device_Arm.mono _ _ _ _ _ _ _ _
   | exact device_Read.mono _ _ _ _ _ _ _ _
   | exact device_Start.mono _ _ _ _ _ _ _
   | exact device_Write.mono _ _ _ _ _ _ _ _ _
   | exact storagebarterlaw10_sane.mono _
   | exact LeO.none _
   | refine LeO.ite ?_ ?_
   | refine LeO.bind ?_ (fun _ => ?_)
  ·intro y0 y1 y2 y3 y4 y5 y6 y7 y8
   unfold storagebarterlaw10_DeviceFuses.l0
   repeat' first
   | (with_reducible exact ih0 _ _ _ _ _ _ _ _ _)
   | (with_reducible exact ih1 _ _ _ _ _ _ _ _ _)
   | (with_reducible exact ih2 _ _ _ _ _ _ _ _ _ _ _ _ _ _ _ _)
   | (with_reducible exact ih3 _ _ _ _ _ _ _ _ _)
   | (with_reducible exact device_Arm.mono _ _ _ _ _ _ _ _)
   | (with_reducible exact device_Read.mono _ _ _ _ _ _ _ _)
   | (with_reducible exact device_Start.mono _ _ _ _ _ _ _)
   | (with_reducible exact device_Write.mono _ _ _ _ _ _ _ _ _)
   | (with_reducible exact storagebarterlaw10_sane.mono _)
   | (with_reducible exact LeO.refl _)
   | (with_reducible exact LeO.none _)
   | (with_reducible refine LeO.ite ?_ ?_)
   | (with_reducible refine LeO.bind ?_ (fun _ => ?_))
   | exact ih0 _ _ _ _ _ _ _ _ _
   | exact ih1 _ _ _ _ _ _ _ _ _
   | exact ih2 _ _ _ _ _ _ _ _ _ _ _ _ _ _ _ _
   | exact ih3 _ _ _ _ _ _ _ _ _
   | exact device_Arm.mono _ _ _ _ _ _ _ _
   | exact device_Read.mono _ _ _ _ _ _ _ _
   | exact device_Start.mono _ _ _ _ _ _ _
   | exact device_Write.mono _ _ _ _ _ _ _ _ _
   | exact storagebarterlaw10_sane.mono _
   | exact LeO.none _
   | refine LeO.ite ?_ ?_
   | refine LeO.bind ?_ (fun _ => ?_)
  ·intro y0 y1 y2 y3 y4 y5 y6 y7 y8 y9 y10 y11 y12 y13 y14 y15
   unfold storagebarterlaw10_DeviceFuses.j2
   repeat' first
   | (with_reducible exact ih0 _ _ _ _ _ _ _ _ _)
   | (with_reducible exact ih1 _ _ _ _ _ _ _ _ _)
   | (with_reducible exact ih2 _ _ _ _ _ _ _ _ _ _ _ _ _ _ _ _)
   | (with_reducible exact ih3 _ _ _ _ _ _ _ _ _)
   | (with_reducible exact device_Arm.mono _ _ _ _ _ _ _ _)
   | (with_reducible exact device_Read.mono _ _ _ _ _ _ _ _)
   | (with_reducible exact device_Start.mono _ _ _ _ _ _ _)
   | (with_reducible exact device_Write.mono _ _ _ _ _ _ _ _ _)
   | (with_reducible exact storagebarterlaw10_sane.mono _)
   | (with_reducible exact LeO.refl _)
   | (with_reducible exact LeO.none _)
   | (with_reducible refine LeO.ite ?_ ?_)
   | (with_reducible refine LeO.bind ?_ (fun _ => ?_))
   | exact ih0 _ _ _ _ _ _ _ _ _
   | exact ih1 _ _ _ _ _ _ _ _ _
   | exact ih2 _ _ _ _ _ _ _ _ _ _ _ _ _ _ _ _
   | exact ih3 _ _ _ _ _ _ _ _ _
   | exact device_Arm.mono _ _ _ _ _ _ _ _
   | exact device_Read.mono _ _ _ _ _ _ _ _
   | exact device_Start.mono _ _ _ _ _ _ _
   | exact device_Write.mono _ _ _ _ _ _ _ _ _
   | exact storagebarterlaw10_sane.mono _
   | exact LeO.none _
   | refine LeO.ite ?_ ?_
   | refine LeO.bind ?_ (fun _ => ?_)
  ·intro y0 y1 y2 y3 y4 y5 y6 y7 y8
   unfold storagebarterlaw10_DeviceFuses.l1
   repeat' first
   | (with_reducible exact ih0 _ _ _ _ _ _ _ _ _)
   | (with_reducible exact ih1 _ _ _ _ _ _ _ _ _)
   | (with_reducible exact ih2 _ _ _ _ _ _ _ _ _ _ _ _ _ _ _ _)
   | (with_reducible exact ih3 _ _ _ _ _ _ _ _ _)
   | (with_reducible exact device_Arm.mono _ _ _ _ _ _ _ _)
   | (with_reducible exact device_Read.mono _ _ _ _ _ _ _ _)
   | (with_reducible exact device_Start.mono _ _ _ _ _ _ _)
   | (with_reducible exact device_Write.mono _ _ _ _ _ _ _ _ _)
   | (with_reducible exact storagebarterlaw10_sane.mono _)
   | (with_reducible exact LeO.refl _)
   | (with_reducible exact LeO.none _)
   | (with_reducible refine LeO.ite ?_ ?_)
   | (with_reducible refine LeO.bind ?_ (fun _ => ?_))
   | exact ih0 _ _ _ _ _ _ _ _ _
   | exact ih1 _ _ _ _ _ _ _ _ _
   | exact ih2 _ _ _ _ _ _ _ _ _ _ _ _ _ _ _ _
   | exact ih3 _ _ _ _ _ _ _ _ _
   | exact device_Arm.mono _ _ _ _ _ _ _ _
   | exact device_Read.mono _ _ _ _ _ _ _ _
   | exact device_Start.mono _ _ _ _ _ _ _
   | exact device_Write.mono _ _ _ _ _ _ _ _ _
   | exact storagebarterlaw10_sane.mono _
   | exact LeO.none _
   | refine LeO.ite ?_ ?_
   | refine LeO.bind ?_ (fun _ => ?_)
theorem storagebarterlaw10_DeviceFuses.mono : ∀ a0 a1 a2 k, LeO (storagebarterlaw10_DeviceFuses.f k a0 a1 a2) (storagebarterlaw10_DeviceFuses.f (k + 1) a0 a1 a2) := by
 intro a0 a1 a2 k
 obtain ⟨ih0, ih1, ih2, ih3⟩ := storagebarterlaw10_DeviceFuses.mono_l k
 unfold storagebarterlaw10_DeviceFuses.f
 repeat' first
   | (with_reducible exact ih0 _ _ _ _ _ _ _ _ _)
   | (with_reducible exact ih1 _ _ _ _ _ _ _ _ _)
   | (with_reducible exact ih2 _ _ _ _ _ _ _ _ _ _ _ _ _ _ _ _)
   | (with_reducible exact ih3 _ _ _ _ _ _ _ _ _)
   | (with_reducible exact device_Arm.mono _ _ _ _ _ _ _ _)
   | (with_reducible exact device_Read.mono _ _ _ _ _ _ _ _)
   | (with_reducible exact device_Start.mono _ _ _ _ _ _ _)
   | (with_reducible exact device_Write.mono _ _ _ _ _ _ _ _ _)
   | (with_reducible exact storagebarterlaw10_sane.mono _)
   | (with_reducible exact LeO.refl _)
   | (with_reducible exact LeO.none _)
   | (with_reducible refine LeO.ite ?_ ?_)
   | (with_reducible refine LeO.bind ?_ (fun _ => ?_))
   | exact ih0 _ _ _ _ _ _ _ _ _
   | exact ih1 _ _ _ _ _ _ _ _ _
   | exact ih2 _ _ _ _ _ _ _ _ _ _ _ _ _ _ _ _
   | exact ih3 _ _ _ _ _ _ _ _ _
   | exact device_Arm.mono _ _ _ _ _ _ _ _
   | exact device_Read.mono _ _ _ _ _ _ _ _
   | exact device_Start.mono _ _ _ _ _ _ _
   | exact device_Write.mono _ _ _ _ _ _ _ _ _
   | exact storagebarterlaw10_sane.mono _
   | exact LeO.none _
   | refine LeO.ite ?_ ?_
   | refine LeO.bind ?_ (fun _ => ?_)
set_option maxHeartbeats 8000000 in
set_option maxRecDepth 100000 in
theorem storagebarterlaw10_DeviceFuses.calls (k : Nat) (a0 : Int) (a1 : Int) (a2 : Int) (r : Bool) (w : World) (h : storagebarterlaw10_DeviceFuses.f k a0 a1 a2 = some r) :
  Calls Try.prog 3 #[.int .u8 a0, .int .u8 a1, .int .u8 a2] w fun e w' => e = .returned (.bool r) ∧ Below w.heap.size w w' := by
 have hu26 := Try.underlying26
 have HB := Aside0.mk (Below.refl w.heap.size w)
 have H : ((storagebarterlaw10_sane.f k).bind fun t287 => (if t287 = true then ((device_New.f (wrap64 (16 + (wrap64 (Int.tmod a2 49)))) 40).bind fun bt288 => ((device_Arm.f k bt288.1 bt288.2.1 bt288.2.2.1 bt288.2.2.2.1 bt288.2.2.2.2.1 bt288.2.2.2.2.2.1 (wrap64 (1 + (wrap64 (Int.tmod a0 20))))).bind fun bt302 => (if bt288.2.2.2.2.2.2 = 0 then (storagebarterlaw10_DeviceFuses.j0 k a1 (wrap64 (1 + (wrap64 (Int.tmod a0 20)))) (bt302.2.2.2.2.2.2 != 0) bt302.1 bt302.2.1 bt302.2.2.1 bt302.2.2.2.1 bt302.2.2.2.2.1 bt302.2.2.2.2.2.1) else (storagebarterlaw10_DeviceFuses.j0 k a1 (wrap64 (1 + (wrap64 (Int.tmod a0 20)))) true bt302.1 bt302.2.1 bt302.2.2.1 bt302.2.2.2.1 bt302.2.2.2.2.1 bt302.2.2.2.2.2.1)))) else (none))) = some r := h
 clear h
 replace H := Option.bind_eq_some_iff.mp H
 obtain ⟨t287, A40, H⟩ := H
 replace H : (if t287 = true then ((device_New.f (wrap64 (16 + (wrap64 (Int.tmod a2 49)))) 40).bind fun bt288 => ((device_Arm.f k bt288.1 bt288.2.1 bt288.2.2.1 bt288.2.2.2.1 bt288.2.2.2.2.1 bt288.2.2.2.2.2.1 (wrap64 (1 + (wrap64 (Int.tmod a0 20))))).bind fun bt302 => (if bt288.2.2.2.2.2.2 = 0 then (storagebarterlaw10_DeviceFuses.j0 k a1 (wrap64 (1 + (wrap64 (Int.tmod a0 20)))) (bt302.2.2.2.2.2.2 != 0) bt302.1 bt302.2.1 bt302.2.2.1 bt302.2.2.2.1 bt302.2.2.2.2.1 bt302.2.2.2.2.2.1) else (storagebarterlaw10_DeviceFuses.j0 k a1 (wrap64 (1 + (wrap64 (Int.tmod a0 20)))) true bt302.1 bt302.2.1 bt302.2.2.1 bt302.2.2.2.1 bt302.2.2.2.2.1 bt302.2.2.2.2.2.1)))) else (none)) = some r := H
 have A4 := Aside0.mk A40
 clear A40
 by_cases c5 : t287 = true
 ·subst c5
  have H1 : ((device_New.f (wrap64 (16 + (wrap64 (Int.tmod a2 49)))) 40).bind fun bt288 => ((device_Arm.f k bt288.1 bt288.2.1 bt288.2.2.1 bt288.2.2.2.1 bt288.2.2.2.2.1 bt288.2.2.2.2.2.1 (wrap64 (1 + (wrap64 (Int.tmod a0 20))))).bind fun bt302 => (if bt288.2.2.2.2.2.2 = 0 then (storagebarterlaw10_DeviceFuses.j0 k a1 (wrap64 (1 + (wrap64 (Int.tmod a0 20)))) (bt302.2.2.2.2.2.2 != 0) bt302.1 bt302.2.1 bt302.2.2.1 bt302.2.2.2.1 bt302.2.2.2.2.1 bt302.2.2.2.2.2.1) else (storagebarterlaw10_DeviceFuses.j0 k a1 (wrap64 (1 + (wrap64 (Int.tmod a0 20)))) true bt302.1 bt302.2.1 bt302.2.2.1 bt302.2.2.2.1 bt302.2.2.2.2.1 bt302.2.2.2.2.2.1)))) = some r := by rw [if_pos rfl] at H; exact H
  clear H
  have H := H1
  clear H1
  replace H := Option.bind_eq_some_iff.mp H
  obtain ⟨⟨t288, t289, t292, t295, t298, t299, t300⟩, A60, H⟩ := H
  replace H : ((device_Arm.f k t288 t289 t292 t295 t298 t299 (wrap64 (1 + (wrap64 (Int.tmod a0 20))))).bind fun bt302 => (if t300 = 0 then (storagebarterlaw10_DeviceFuses.j0 k a1 (wrap64 (1 + (wrap64 (Int.tmod a0 20)))) (bt302.2.2.2.2.2.2 != 0) bt302.1 bt302.2.1 bt302.2.2.1 bt302.2.2.2.1 bt302.2.2.2.2.1 bt302.2.2.2.2.2.1) else (storagebarterlaw10_DeviceFuses.j0 k a1 (wrap64 (1 + (wrap64 (Int.tmod a0 20)))) true bt302.1 bt302.2.1 bt302.2.2.1 bt302.2.2.2.1 bt302.2.2.2.2.1 bt302.2.2.2.2.2.1))) = some r := H
  have A6 := Aside0.mk A60
  clear A60
  replace H := Option.bind_eq_some_iff.mp H
  obtain ⟨⟨t302, t303, t306, t309, t312, t313, t314⟩, A70, H⟩ := H
  replace H : (if t300 = 0 then (storagebarterlaw10_DeviceFuses.j0 k a1 (wrap64 (1 + (wrap64 (Int.tmod a0 20)))) (t314 != 0) t302 t303 t306 t309 t312 t313) else (storagebarterlaw10_DeviceFuses.j0 k a1 (wrap64 (1 + (wrap64 (Int.tmod a0 20)))) true t302 t303 t306 t309 t312 t313)) = some r := H
  have A7 := Aside0.mk A70
  clear A70
  have HC8 := Aside0.mk H
  clear H
  go_enter Try.func3, Try.ntmps3
  go_upto_region 6 with (first | ((with_reducible refine gate_callee (f := 6) rfl ?_); refine goesL_ (some 18) rfl rfl Try.func6 (by kernel_rfl) rfl #[] rfl (by (try simp only [List.map_toArray, List.map_cons, List.map_nil]); first | done | rfl | (simp only [List.length_drop, List.length_take]; rfl)) ?_; (with_reducible refine (storagebarterlaw10_sane.calls k  true _ A4.out).mono ?_); rintro e w9 ⟨rfl, hb⟩; refine ⟨_, rfl, ?_⟩; have n0_ := Aside0.mk (below_step (by repeat (first | (with_reducible first | exact HB.out | apply below_alloc | apply pw_below_drewN | apply below_drew1) | exact HB.out)) hb); clear HB; have HB := n0_; clear n0_; (try clear hb); (try clear hb2); (try clear hk); (try clear hi)) | ((with_reducible refine gate_callee (f := 7) rfl ?_); refine goesL_ (some 29) rfl rfl Try.func7 (by kernel_rfl) rfl #[.int .i64 (wrap64 (16 + (wrap64 (Int.tmod a2 49)))), .int .i64 40] rfl (by (try simp only [List.map_toArray, List.map_cons, List.map_nil]); first | done | rfl | (simp only [List.length_drop, List.length_take]; rfl)) ?_; (with_reducible refine (device_New.calls (wrap64 (16 + (wrap64 (Int.tmod a2 49)))) 40 t288 t289 t292 t295 t298 t299 t300 _ A6.out).mono ?_); rintro e w10 ⟨v290, v293, v296, rfl, ho0, ho1, ho2, hb⟩; refine ⟨_, rfl, ?_⟩; have n0_ := Aside0.mk (Kd.R_lower ho0 (below_size (by repeat (first | (with_reducible first | exact HB.out | apply below_alloc | apply pw_below_drewN | apply below_drew1) | exact HB.out)))); have n1_ := Aside0.mk (Kd.R_lower ho1 (below_size (by repeat (first | (with_reducible first | exact HB.out | apply below_alloc | apply pw_below_drewN | apply below_drew1) | exact HB.out)))); have n2_ := Aside0.mk (Kd.R_lower ho2 (below_size (by repeat (first | (with_reducible first | exact HB.out | apply below_alloc | apply pw_below_drewN | apply below_drew1) | exact HB.out)))); have n3_ := Aside0.mk (below_step (by repeat (first | (with_reducible first | exact HB.out | apply below_alloc | apply pw_below_drewN | apply below_drew1) | exact HB.out)) hb); clear HB; have HO291 := n0_; have HO294 := n1_; have HO297 := n2_; have HB := n3_; clear n0_ n1_ n2_ n3_; (try clear hb); (try clear hb2); (try clear hk); (try clear hi); (try clear ho0); (try clear ho1); (try clear ho2)) | ((with_reducible refine gate_dst (N := 8) rfl ?_); refine box_event ?hg (N := 8) ?hd (cs := #[.int .i64 0, .slice none 0 0, .slice none 0 0, .slice none 0 0, .int .i64 0, .bool false]) (t := 26) ?hr ?_; (case hd => rfl); (case hg => rfl); (case hr => first | (go_simp; done) | (go_simp; rfl)); intro gb301 hg w11 hbox hb; have n0_ := Aside0.mk (Kd.R_below (by (with_reducible repeat (first | apply Kd.R_alloc | apply Kd.R_drewN | apply Kd.R_drew)); exact HO291.out) hb); have n1_ := Aside0.mk (Kd.R_below (by (with_reducible repeat (first | apply Kd.R_alloc | apply Kd.R_drewN | apply Kd.R_drew)); exact HO294.out) hb); have n2_ := Aside0.mk (Kd.R_below (by (with_reducible repeat (first | apply Kd.R_alloc | apply Kd.R_drewN | apply Kd.R_drew)); exact HO297.out) hb); have n3_ := Aside0.mk (below_step (by repeat (first | (with_reducible first | exact HB.out | apply below_alloc | apply pw_below_drewN | apply below_drew1) | exact HB.out)) hb); have n4_ := Aside0.mk (hbox); have n5_ := Aside0.mk ((by rw [hg]; exact (below_size (by repeat (first | (with_reducible first | exact HB.out | apply below_alloc | apply pw_below_drewN | apply below_drew1) | exact HB.out))) : w.heap.size ≤ gb301)); have n6_ := Aside0.mk ((by rw [hg]; exact (below_size (by repeat (first | (with_reducible first | exact HB.out | apply below_alloc | apply pw_below_drewN | apply below_drew1) | exact HB.out))) : w.heap.size ≤ gb301)); clear HO291; clear HO294; clear HO297; clear HB; have HO291 := n0_; have HO294 := n1_; have HO297 := n2_; have HB := n3_; have BK301 := n4_; have GW301 := n5_; have GE301 := n6_; clear n0_ n1_ n2_ n3_ n4_ n5_ n6_; clear hb hbox hg; have hcz12_0 : w11.cell? ⟨gb301, 0, none⟩ = some (.int .i64 0) := (blk_cell BK301.out 0).trans rfl; have hcz12_1 : w11.cell? ⟨gb301, 1, none⟩ = some (.slice none 0 0) := (blk_cell BK301.out 1).trans rfl; have hcz12_2 : w11.cell? ⟨gb301, 2, none⟩ = some (.slice none 0 0) := (blk_cell BK301.out 2).trans rfl; have hcz12_3 : w11.cell? ⟨gb301, 3, none⟩ = some (.slice none 0 0) := (blk_cell BK301.out 3).trans rfl; have hcz12_4 : w11.cell? ⟨gb301, 4, none⟩ = some (.int .i64 0) := (blk_cell BK301.out 4).trans rfl; have hcz12_5 : w11.cell? ⟨gb301, 5, none⟩ = some (.bool false) := (blk_cell BK301.out 5).trans rfl; have hfz12_0 := blk_frozen BK301.out 0; have hfz12_1 := blk_frozen BK301.out 1; have hfz12_2 := blk_frozen BK301.out 2; have hfz12_3 := blk_frozen BK301.out 3; have hfz12_4 := blk_frozen BK301.out 4; have hfz12_5 := blk_frozen BK301.out 5; obtain ⟨Ao13, co13, eo13⟩ := Kd.R_slice HO291.out; subst eo13; obtain ⟨Ao14, co14, eo14⟩ := Kd.R_slice HO294.out; subst eo14; obtain ⟨Ao15, co15, eo15⟩ := Kd.R_slice HO297.out; subst eo15) | ((with_reducible refine gate_callee (f := 8) rfl ?_); refine goesL_ (some 35) rfl rfl Try.func8 (by kernel_rfl) rfl #[.agg #[.int .i64 t288, .slice Ao13 t289.length co13, .slice Ao14 t292.length co14, .slice Ao15 t295.length co15, .int .i64 t298, .bool t299], .int .i64 (wrap64 (1 + (wrap64 (Int.tmod a0 20))))] rfl (by (try simp only [List.map_toArray, List.map_cons, List.map_nil]); first | done | rfl | (simp only [List.length_drop, List.length_take]; rfl)) ?_; (with_reducible refine (device_Arm.calls k t288 _ _ t289 _ _ t292 _ _ t295 t298 t299 (wrap64 (1 + (wrap64 (Int.tmod a0 20)))) t302 t303 t306 t309 t312 t313 t314 _ ?side1 ?side2 ?side3 ?side4 ?side5 ?side6 A7.out).mono ?_); (case side1 => refine (Kd.R_reads' (e := 9) (base := w.heap.size) (ok := fun k_ => True) (n := t289.length) (c := co13) ?_).2.2; exact (by (with_reducible repeat (first | apply Kd.R_alloc | apply Kd.R_drewN | apply Kd.R_drew)); exact (Kd.R_mono (Kd.R_far (p := ⟨gb301, 5, none⟩) (Kd.R_far (p := ⟨gb301, 4, none⟩) (Kd.R_far (p := ⟨gb301, 3, none⟩) (Kd.R_far (p := ⟨gb301, 2, none⟩) (Kd.R_far (p := ⟨gb301, 1, none⟩) (Kd.R_far (p := ⟨gb301, 0, none⟩) (Kd.R_types HO291.out BK301.out (by decide)) (fun _ hk => hk.2) (.int .i64 t288)) (fun _ hk => hk.2) (.slice Ao13 t289.length co13)) (fun _ hk => hk.2) (.slice Ao14 t292.length co14)) (fun _ hk => hk.2) (.slice Ao15 t295.length co15)) (fun _ hk => hk.2) (.int .i64 t298)) (fun _ hk => hk.2) (.bool t299)) (fun _ h_ => h_.1)))); (case side2 => exact (Kd.R_reads' HO291.out).2.1); (case side3 => refine (Kd.R_reads' (e := 3) (base := w.heap.size) (ok := fun k_ => some k_ ≠ (.slice Ao15 t295.length co15 : Value).ownBlock) (n := t292.length) (c := co14) ?_).2.2; exact (by (with_reducible repeat (first | apply Kd.R_alloc | apply Kd.R_drewN | apply Kd.R_drew)); exact (Kd.R_mono (Kd.R_far (p := ⟨gb301, 5, none⟩) (Kd.R_far (p := ⟨gb301, 4, none⟩) (Kd.R_far (p := ⟨gb301, 3, none⟩) (Kd.R_far (p := ⟨gb301, 2, none⟩) (Kd.R_far (p := ⟨gb301, 1, none⟩) (Kd.R_far (p := ⟨gb301, 0, none⟩) (Kd.R_types HO294.out BK301.out (by decide)) (fun _ hk => hk.2) (.int .i64 t288)) (fun _ hk => hk.2) (.slice Ao13 t289.length co13)) (fun _ hk => hk.2) (.slice Ao14 t292.length co14)) (fun _ hk => hk.2) (.slice Ao15 t295.length co15)) (fun _ hk => hk.2) (.int .i64 t298)) (fun _ hk => hk.2) (.bool t299)) (fun _ h_ => h_.1)))); (case side4 => exact (Kd.R_reads' HO294.out).2.1); (case side5 => refine (Kd.R_reads' (e := 3) (base := w.heap.size) (ok := fun k_ => some k_ ≠ (.slice Ao14 t292.length co14 : Value).ownBlock) (n := t295.length) (c := co15) ?_).2.2; exact (by (with_reducible repeat (first | apply Kd.R_alloc | apply Kd.R_drewN | apply Kd.R_drew)); exact (Kd.R_mono (Kd.R_far (p := ⟨gb301, 5, none⟩) (Kd.R_far (p := ⟨gb301, 4, none⟩) (Kd.R_far (p := ⟨gb301, 3, none⟩) (Kd.R_far (p := ⟨gb301, 2, none⟩) (Kd.R_far (p := ⟨gb301, 1, none⟩) (Kd.R_far (p := ⟨gb301, 0, none⟩) (Kd.R_types HO297.out BK301.out (by decide)) (fun _ hk => hk.2) (.int .i64 t288)) (fun _ hk => hk.2) (.slice Ao13 t289.length co13)) (fun _ hk => hk.2) (.slice Ao14 t292.length co14)) (fun _ hk => hk.2) (.slice Ao15 t295.length co15)) (fun _ hk => hk.2) (.int .i64 t298)) (fun _ hk => hk.2) (.bool t299)) (fun _ h_ => h_.1)))); (case side6 => exact (Kd.R_reads' HO297.out).2.1); rintro e w16 ⟨v304, v307, v310, rfl, ho0, ho1, ho2, hb⟩; refine ⟨_, rfl, ?_⟩; have n0_ := Aside0.mk (Kd.R_elder' (by (with_reducible repeat (first | apply Kd.R_alloc | apply Kd.R_drewN | apply Kd.R_drew)); exact (Kd.R_mono (Kd.R_far (p := ⟨gb301, 5, none⟩) (Kd.R_far (p := ⟨gb301, 4, none⟩) (Kd.R_far (p := ⟨gb301, 3, none⟩) (Kd.R_far (p := ⟨gb301, 2, none⟩) (Kd.R_far (p := ⟨gb301, 1, none⟩) (Kd.R_far (p := ⟨gb301, 0, none⟩) (Kd.R_types HO291.out BK301.out (by decide)) (fun _ hk => hk.2) (.int .i64 t288)) (fun _ hk => hk.2) (.slice Ao13 t289.length co13)) (fun _ hk => hk.2) (.slice Ao14 t292.length co14)) (fun _ hk => hk.2) (.slice Ao15 t295.length co15)) (fun _ hk => hk.2) (.int .i64 t298)) (fun _ hk => hk.2) (.bool t299)) (fun _ h_ => h_.1))) (Kd.R_base ho0) hb); have n1_ := Aside0.mk (Kd.R_mono (Kd.R_told (Kd.R_told (Kd.R_old (by (with_reducible repeat (first | apply Kd.R_alloc | apply Kd.R_drewN | apply Kd.R_drew)); exact (Kd.R_mono (Kd.R_far (p := ⟨gb301, 5, none⟩) (Kd.R_far (p := ⟨gb301, 4, none⟩) (Kd.R_far (p := ⟨gb301, 3, none⟩) (Kd.R_far (p := ⟨gb301, 2, none⟩) (Kd.R_far (p := ⟨gb301, 1, none⟩) (Kd.R_far (p := ⟨gb301, 0, none⟩) (Kd.R_types HO294.out BK301.out (by decide)) (fun _ hk => hk.2) (.int .i64 t288)) (fun _ hk => hk.2) (.slice Ao13 t289.length co13)) (fun _ hk => hk.2) (.slice Ao14 t292.length co14)) (fun _ hk => hk.2) (.slice Ao15 t295.length co15)) (fun _ hk => hk.2) (.int .i64 t298)) (fun _ hk => hk.2) (.bool t299)) (fun _ h_ => h_.1))) hb) (Kd.R_base ho1)) (Kd.R_base ho2)) (fun _ h_ => h_.1)); have n2_ := Aside0.mk (Kd.R_mono (Kd.R_told (Kd.R_told (Kd.R_old (by (with_reducible repeat (first | apply Kd.R_alloc | apply Kd.R_drewN | apply Kd.R_drew)); exact (Kd.R_mono (Kd.R_far (p := ⟨gb301, 5, none⟩) (Kd.R_far (p := ⟨gb301, 4, none⟩) (Kd.R_far (p := ⟨gb301, 3, none⟩) (Kd.R_far (p := ⟨gb301, 2, none⟩) (Kd.R_far (p := ⟨gb301, 1, none⟩) (Kd.R_far (p := ⟨gb301, 0, none⟩) (Kd.R_types HO297.out BK301.out (by decide)) (fun _ hk => hk.2) (.int .i64 t288)) (fun _ hk => hk.2) (.slice Ao13 t289.length co13)) (fun _ hk => hk.2) (.slice Ao14 t292.length co14)) (fun _ hk => hk.2) (.slice Ao15 t295.length co15)) (fun _ hk => hk.2) (.int .i64 t298)) (fun _ hk => hk.2) (.bool t299)) (fun _ h_ => h_.1))) hb) (Kd.R_base ho1)) (Kd.R_base ho2)) (fun _ h_ => h_.1)); have n3_ := Aside0.mk (Kd.R_lower (Kd.R_new' ho0 (Kd.R_lt (by (with_reducible repeat (first | apply Kd.R_alloc | apply Kd.R_drewN | apply Kd.R_drew)); exact (Kd.R_mono (Kd.R_far (p := ⟨gb301, 5, none⟩) (Kd.R_far (p := ⟨gb301, 4, none⟩) (Kd.R_far (p := ⟨gb301, 3, none⟩) (Kd.R_far (p := ⟨gb301, 2, none⟩) (Kd.R_far (p := ⟨gb301, 1, none⟩) (Kd.R_far (p := ⟨gb301, 0, none⟩) (Kd.R_types HO291.out BK301.out (by decide)) (fun _ hk => hk.2) (.int .i64 t288)) (fun _ hk => hk.2) (.slice Ao13 t289.length co13)) (fun _ hk => hk.2) (.slice Ao14 t292.length co14)) (fun _ hk => hk.2) (.slice Ao15 t295.length co15)) (fun _ hk => hk.2) (.int .i64 t298)) (fun _ hk => hk.2) (.bool t299)) (fun _ h_ => h_.1))))) (below_size (by repeat (first | (with_reducible first | exact HB.out | apply below_alloc | apply pw_below_drewN | apply below_drew1 | refine below_set ?_ GE301.out) | exact HB.out)))); have n4_ := Aside0.mk (Kd.R_lower (Kd.R_new' (Kd.R_new' ho1 (Kd.R_lt (by (with_reducible repeat (first | apply Kd.R_alloc | apply Kd.R_drewN | apply Kd.R_drew)); exact (Kd.R_mono (Kd.R_far (p := ⟨gb301, 5, none⟩) (Kd.R_far (p := ⟨gb301, 4, none⟩) (Kd.R_far (p := ⟨gb301, 3, none⟩) (Kd.R_far (p := ⟨gb301, 2, none⟩) (Kd.R_far (p := ⟨gb301, 1, none⟩) (Kd.R_far (p := ⟨gb301, 0, none⟩) (Kd.R_types HO294.out BK301.out (by decide)) (fun _ hk => hk.2) (.int .i64 t288)) (fun _ hk => hk.2) (.slice Ao13 t289.length co13)) (fun _ hk => hk.2) (.slice Ao14 t292.length co14)) (fun _ hk => hk.2) (.slice Ao15 t295.length co15)) (fun _ hk => hk.2) (.int .i64 t298)) (fun _ hk => hk.2) (.bool t299)) (fun _ h_ => h_.1))))) (Kd.R_lt (by (with_reducible repeat (first | apply Kd.R_alloc | apply Kd.R_drewN | apply Kd.R_drew)); exact (Kd.R_mono (Kd.R_far (p := ⟨gb301, 5, none⟩) (Kd.R_far (p := ⟨gb301, 4, none⟩) (Kd.R_far (p := ⟨gb301, 3, none⟩) (Kd.R_far (p := ⟨gb301, 2, none⟩) (Kd.R_far (p := ⟨gb301, 1, none⟩) (Kd.R_far (p := ⟨gb301, 0, none⟩) (Kd.R_types HO297.out BK301.out (by decide)) (fun _ hk => hk.2) (.int .i64 t288)) (fun _ hk => hk.2) (.slice Ao13 t289.length co13)) (fun _ hk => hk.2) (.slice Ao14 t292.length co14)) (fun _ hk => hk.2) (.slice Ao15 t295.length co15)) (fun _ hk => hk.2) (.int .i64 t298)) (fun _ hk => hk.2) (.bool t299)) (fun _ h_ => h_.1))))) (below_size (by repeat (first | (with_reducible first | exact HB.out | apply below_alloc | apply pw_below_drewN | apply below_drew1 | refine below_set ?_ GE301.out) | exact HB.out)))); have n5_ := Aside0.mk (Kd.R_lower (Kd.R_new' (Kd.R_new' ho2 (Kd.R_lt (by (with_reducible repeat (first | apply Kd.R_alloc | apply Kd.R_drewN | apply Kd.R_drew)); exact (Kd.R_mono (Kd.R_far (p := ⟨gb301, 5, none⟩) (Kd.R_far (p := ⟨gb301, 4, none⟩) (Kd.R_far (p := ⟨gb301, 3, none⟩) (Kd.R_far (p := ⟨gb301, 2, none⟩) (Kd.R_far (p := ⟨gb301, 1, none⟩) (Kd.R_far (p := ⟨gb301, 0, none⟩) (Kd.R_types HO294.out BK301.out (by decide)) (fun _ hk => hk.2) (.int .i64 t288)) (fun _ hk => hk.2) (.slice Ao13 t289.length co13)) (fun _ hk => hk.2) (.slice Ao14 t292.length co14)) (fun _ hk => hk.2) (.slice Ao15 t295.length co15)) (fun _ hk => hk.2) (.int .i64 t298)) (fun _ hk => hk.2) (.bool t299)) (fun _ h_ => h_.1))))) (Kd.R_lt (by (with_reducible repeat (first | apply Kd.R_alloc | apply Kd.R_drewN | apply Kd.R_drew)); exact (Kd.R_mono (Kd.R_far (p := ⟨gb301, 5, none⟩) (Kd.R_far (p := ⟨gb301, 4, none⟩) (Kd.R_far (p := ⟨gb301, 3, none⟩) (Kd.R_far (p := ⟨gb301, 2, none⟩) (Kd.R_far (p := ⟨gb301, 1, none⟩) (Kd.R_far (p := ⟨gb301, 0, none⟩) (Kd.R_types HO297.out BK301.out (by decide)) (fun _ hk => hk.2) (.int .i64 t288)) (fun _ hk => hk.2) (.slice Ao13 t289.length co13)) (fun _ hk => hk.2) (.slice Ao14 t292.length co14)) (fun _ hk => hk.2) (.slice Ao15 t295.length co15)) (fun _ hk => hk.2) (.int .i64 t298)) (fun _ hk => hk.2) (.bool t299)) (fun _ h_ => h_.1))))) (below_size (by repeat (first | (with_reducible first | exact HB.out | apply below_alloc | apply pw_below_drewN | apply below_drew1 | refine below_set ?_ GE301.out) | exact HB.out)))); have n6_ := Aside0.mk (blk_below (g := gb301) (o := .cells #[.int .i64 t288, .slice Ao13 t289.length co13, .slice Ao14 t292.length co14, .slice Ao15 t295.length co15, .int .i64 t298, .bool t299] 26 (0, 0)) (by (with_reducible repeat (first | refine blk_drewN ?_ _ | refine blk_drew ?_ | refine blk_alloc ?_ _)); refine blk_put (cs := #[.int .i64 t288, .slice Ao13 t289.length co13, .slice Ao14 t292.length co14, .slice Ao15 t295.length co15, .int .i64 t298, .bool false]) ?_ 5 _ rfl; (with_reducible repeat (first | refine blk_drewN ?_ _ | refine blk_drew ?_ | refine blk_alloc ?_ _)); refine blk_put (cs := #[.int .i64 t288, .slice Ao13 t289.length co13, .slice Ao14 t292.length co14, .slice Ao15 t295.length co15, .int .i64 0, .bool false]) ?_ 4 _ rfl; (with_reducible repeat (first | refine blk_drewN ?_ _ | refine blk_drew ?_ | refine blk_alloc ?_ _)); refine blk_put (cs := #[.int .i64 t288, .slice Ao13 t289.length co13, .slice Ao14 t292.length co14, .slice none 0 0, .int .i64 0, .bool false]) ?_ 3 _ rfl; (with_reducible repeat (first | refine blk_drewN ?_ _ | refine blk_drew ?_ | refine blk_alloc ?_ _)); refine blk_put (cs := #[.int .i64 t288, .slice Ao13 t289.length co13, .slice none 0 0, .slice none 0 0, .int .i64 0, .bool false]) ?_ 2 _ rfl; (with_reducible repeat (first | refine blk_drewN ?_ _ | refine blk_drew ?_ | refine blk_alloc ?_ _)); refine blk_put (cs := #[.int .i64 t288, .slice none 0 0, .slice none 0 0, .slice none 0 0, .int .i64 0, .bool false]) ?_ 1 _ rfl; (with_reducible repeat (first | refine blk_drewN ?_ _ | refine blk_drew ?_ | refine blk_alloc ?_ _)); refine blk_put (cs := #[.int .i64 0, .slice none 0 0, .slice none 0 0, .slice none 0 0, .int .i64 0, .bool false]) ?_ 0 _ rfl; (with_reducible repeat (first | refine blk_drewN ?_ _ | refine blk_drew ?_ | refine blk_alloc ?_ _)); exact BK301.out) hb); have n7_ := Aside0.mk (below_step (by repeat (first | (with_reducible first | exact HB.out | apply below_alloc | apply pw_below_drewN | apply below_drew1 | refine below_set ?_ GE301.out) | exact HB.out)) hb); clear HO291; clear HO294; clear HO297; clear BK301; clear HB; have HO291 := n0_; have HO294 := n1_; have HO297 := n2_; have HO305 := n3_; have HO308 := n4_; have HO311 := n5_; have BK301 := n6_; have HB := n7_; clear n0_ n1_ n2_ n3_ n4_ n5_ n6_ n7_; (try clear hb); (try clear hb2); (try clear hk); (try clear hi); (try clear ho0); (try clear ho1); (try clear ho2); have hcz17_0 : w16.cell? ⟨gb301, 0, none⟩ = some (.int .i64 t288) := (blk_cell BK301.out 0).trans rfl; have hcz17_1 : w16.cell? ⟨gb301, 1, none⟩ = some (.slice Ao13 t289.length co13) := (blk_cell BK301.out 1).trans rfl; have hcz17_2 : w16.cell? ⟨gb301, 2, none⟩ = some (.slice Ao14 t292.length co14) := (blk_cell BK301.out 2).trans rfl; have hcz17_3 : w16.cell? ⟨gb301, 3, none⟩ = some (.slice Ao15 t295.length co15) := (blk_cell BK301.out 3).trans rfl; have hcz17_4 : w16.cell? ⟨gb301, 4, none⟩ = some (.int .i64 t298) := (blk_cell BK301.out 4).trans rfl; have hcz17_5 : w16.cell? ⟨gb301, 5, none⟩ = some (.bool t299) := (blk_cell BK301.out 5).trans rfl; have hfz17_0 := blk_frozen BK301.out 0; have hfz17_1 := blk_frozen BK301.out 1; have hfz17_2 := blk_frozen BK301.out 2; have hfz17_3 := blk_frozen BK301.out 3; have hfz17_4 := blk_frozen BK301.out 4; have hfz17_5 := blk_frozen BK301.out 5; obtain ⟨Ao18, co18, eo18⟩ := Kd.R_slice HO305.out; subst eo18; obtain ⟨Ao19, co19, eo19⟩ := Kd.R_slice HO308.out; subst eo19; obtain ⟨Ao20, co20, eo20⟩ := Kd.R_slice HO311.out; subst eo20))
  (try simp only [Act.put, List.setIfInBounds_toArray, List.set_cons_zero, List.set_cons_succ])
  go_cut [43] (fun v43 wc => ∃ (kq : Nat) (x43_7 : Bool), v43 = .bool x43_7 ∧ Aside0 (storagebarterlaw10_DeviceFuses.j0 kq a1 (wrap64 (1 + (wrap64 (Int.tmod a0 20)))) x43_7 t302 t303 t306 t309 t312 t313 = some r) ∧ Aside0 (kq ≤ k) ∧ Aside0 (Kd.R Kd.string 9 wc w.heap.size (fun _ => True) (.slice Ao18 t303.length co18) t303) ∧ Aside0 (Kd.R (Kd.int .i64) 3 wc w.heap.size (fun k_ => some k_ ≠ ((.slice Ao20 t309.length co20) : Value).ownBlock) (.slice Ao19 t306.length co19) t306) ∧ Aside0 (Kd.R (Kd.int .i64) 3 wc w.heap.size (fun k_ => some k_ ≠ ((.slice Ao19 t306.length co19) : Value).ownBlock) (.slice Ao20 t309.length co20) t309) ∧ Aside0 (wc.heap[gb301]? = some (.cells #[.int .i64 t302, (.slice Ao18 t303.length co18), (.slice Ao19 t306.length co19), (.slice Ao20 t309.length co20), .int .i64 t312, .bool t313] 26 (0, 0))) ∧ Aside0 (Below w.heap.size w wc))
  case first =>
   have H := HC8.out
   clear HC8
   by_cases c21 : t300 = 0
   ·rw [if_pos c21] at H
    have c21b0 : (t300 == 0) = true := beq_iff_eq.mpr c21
    have c21b1 : (t300 != 0) = false := bne_eq_false_iff_eq.mpr c21
    clear c21
    (first | rw [c21b0] | (simp only [i64_w, i32_w]; rw [c21b0]) | skip)
    have H' := Aside0.mk H
    clear H
    go_wp2
    go_meet
    case rel => exact ⟨_, ((t314 != 0)), (by first | rfl | (simp; done) | (simp [*]; done)), H', ⟨by first | omega | exact Nat.le_refl _⟩, ⟨by (with_reducible repeat (first | apply Kd.R_alloc | apply Kd.R_drewN | apply Kd.R_drew)); exact Kd.R_mono (Kd.R_far (p := ⟨gb301, 5, none⟩) (Kd.R_far (p := ⟨gb301, 4, none⟩) (Kd.R_far (p := ⟨gb301, 3, none⟩) (Kd.R_far (p := ⟨gb301, 2, none⟩) (Kd.R_far (p := ⟨gb301, 1, none⟩) (Kd.R_far (p := ⟨gb301, 0, none⟩) (Kd.R_types HO305.out BK301.out (by decide)) (fun _ hk => hk.2) (.int .i64 t302)) (fun _ hk => hk.2) (.slice Ao18 t303.length co18)) (fun _ hk => hk.2) (.slice Ao19 t306.length co19)) (fun _ hk => hk.2) (.slice Ao20 t309.length co20)) (fun _ hk => hk.2) (.int .i64 t312)) (fun _ hk => hk.2) (.bool t313)) (fun _ hk => trivial)⟩, ⟨by (with_reducible repeat (first | apply Kd.R_alloc | apply Kd.R_drewN | apply Kd.R_drew)); exact Kd.R_mono (Kd.R_far (p := ⟨gb301, 5, none⟩) (Kd.R_far (p := ⟨gb301, 4, none⟩) (Kd.R_far (p := ⟨gb301, 3, none⟩) (Kd.R_far (p := ⟨gb301, 2, none⟩) (Kd.R_far (p := ⟨gb301, 1, none⟩) (Kd.R_far (p := ⟨gb301, 0, none⟩) (Kd.R_types HO308.out BK301.out (by decide)) (fun _ hk => hk.2) (.int .i64 t302)) (fun _ hk => hk.2) (.slice Ao18 t303.length co18)) (fun _ hk => hk.2) (.slice Ao19 t306.length co19)) (fun _ hk => hk.2) (.slice Ao20 t309.length co20)) (fun _ hk => hk.2) (.int .i64 t312)) (fun _ hk => hk.2) (.bool t313)) (fun _ hk => hk.1.1.1)⟩, ⟨by (with_reducible repeat (first | apply Kd.R_alloc | apply Kd.R_drewN | apply Kd.R_drew)); exact Kd.R_mono (Kd.R_far (p := ⟨gb301, 5, none⟩) (Kd.R_far (p := ⟨gb301, 4, none⟩) (Kd.R_far (p := ⟨gb301, 3, none⟩) (Kd.R_far (p := ⟨gb301, 2, none⟩) (Kd.R_far (p := ⟨gb301, 1, none⟩) (Kd.R_far (p := ⟨gb301, 0, none⟩) (Kd.R_types HO311.out BK301.out (by decide)) (fun _ hk => hk.2) (.int .i64 t302)) (fun _ hk => hk.2) (.slice Ao18 t303.length co18)) (fun _ hk => hk.2) (.slice Ao19 t306.length co19)) (fun _ hk => hk.2) (.slice Ao20 t309.length co20)) (fun _ hk => hk.2) (.int .i64 t312)) (fun _ hk => hk.2) (.bool t313)) (fun _ hk => hk.1.1.1)⟩, ⟨by (with_reducible repeat (first | refine blk_drewN ?_ _ | refine blk_drew ?_ | refine blk_alloc ?_ _)); refine blk_put (cs := #[.int .i64 t302, .slice Ao18 t303.length co18, .slice Ao19 t306.length co19, .slice Ao20 t309.length co20, .int .i64 t312, .bool t299]) ?_ 5 _ rfl; (with_reducible repeat (first | refine blk_drewN ?_ _ | refine blk_drew ?_ | refine blk_alloc ?_ _)); refine blk_put (cs := #[.int .i64 t302, .slice Ao18 t303.length co18, .slice Ao19 t306.length co19, .slice Ao20 t309.length co20, .int .i64 t298, .bool t299]) ?_ 4 _ rfl; (with_reducible repeat (first | refine blk_drewN ?_ _ | refine blk_drew ?_ | refine blk_alloc ?_ _)); refine blk_put (cs := #[.int .i64 t302, .slice Ao18 t303.length co18, .slice Ao19 t306.length co19, .slice Ao15 t295.length co15, .int .i64 t298, .bool t299]) ?_ 3 _ rfl; (with_reducible repeat (first | refine blk_drewN ?_ _ | refine blk_drew ?_ | refine blk_alloc ?_ _)); refine blk_put (cs := #[.int .i64 t302, .slice Ao18 t303.length co18, .slice Ao14 t292.length co14, .slice Ao15 t295.length co15, .int .i64 t298, .bool t299]) ?_ 2 _ rfl; (with_reducible repeat (first | refine blk_drewN ?_ _ | refine blk_drew ?_ | refine blk_alloc ?_ _)); refine blk_put (cs := #[.int .i64 t302, .slice Ao13 t289.length co13, .slice Ao14 t292.length co14, .slice Ao15 t295.length co15, .int .i64 t298, .bool t299]) ?_ 1 _ rfl; (with_reducible repeat (first | refine blk_drewN ?_ _ | refine blk_drew ?_ | refine blk_alloc ?_ _)); refine blk_put (cs := #[.int .i64 t288, .slice Ao13 t289.length co13, .slice Ao14 t292.length co14, .slice Ao15 t295.length co15, .int .i64 t298, .bool t299]) ?_ 0 _ rfl; (with_reducible repeat (first | refine blk_drewN ?_ _ | refine blk_drew ?_ | refine blk_alloc ?_ _)); exact BK301.out⟩, ⟨by repeat (first | (with_reducible first | exact HB.out | apply below_alloc | apply pw_below_drewN | apply below_drew1 | refine below_set ?_ GE301.out) | exact HB.out)⟩⟩
   ·rw [if_neg c21] at H
    have c21b0 : (t300 == 0) = false := beq_eq_false_iff_ne.mpr c21
    have c21b1 : (t300 != 0) = true := bne_iff_ne.mpr c21
    (first | rw [c21b0] | (simp only [i64_w, i32_w]; rw [c21b0]) | skip)
    have H' := Aside0.mk H
    clear H
    go_wp2
    go_meet
    case rel => exact ⟨_, (true), (by first | rfl | (simp; done) | (simp [*]; done)), H', ⟨by first | omega | exact Nat.le_refl _⟩, ⟨by (with_reducible repeat (first | apply Kd.R_alloc | apply Kd.R_drewN | apply Kd.R_drew)); exact Kd.R_mono (Kd.R_far (p := ⟨gb301, 5, none⟩) (Kd.R_far (p := ⟨gb301, 4, none⟩) (Kd.R_far (p := ⟨gb301, 3, none⟩) (Kd.R_far (p := ⟨gb301, 2, none⟩) (Kd.R_far (p := ⟨gb301, 1, none⟩) (Kd.R_far (p := ⟨gb301, 0, none⟩) (Kd.R_types HO305.out BK301.out (by decide)) (fun _ hk => hk.2) (.int .i64 t302)) (fun _ hk => hk.2) (.slice Ao18 t303.length co18)) (fun _ hk => hk.2) (.slice Ao19 t306.length co19)) (fun _ hk => hk.2) (.slice Ao20 t309.length co20)) (fun _ hk => hk.2) (.int .i64 t312)) (fun _ hk => hk.2) (.bool t313)) (fun _ hk => trivial)⟩, ⟨by (with_reducible repeat (first | apply Kd.R_alloc | apply Kd.R_drewN | apply Kd.R_drew)); exact Kd.R_mono (Kd.R_far (p := ⟨gb301, 5, none⟩) (Kd.R_far (p := ⟨gb301, 4, none⟩) (Kd.R_far (p := ⟨gb301, 3, none⟩) (Kd.R_far (p := ⟨gb301, 2, none⟩) (Kd.R_far (p := ⟨gb301, 1, none⟩) (Kd.R_far (p := ⟨gb301, 0, none⟩) (Kd.R_types HO308.out BK301.out (by decide)) (fun _ hk => hk.2) (.int .i64 t302)) (fun _ hk => hk.2) (.slice Ao18 t303.length co18)) (fun _ hk => hk.2) (.slice Ao19 t306.length co19)) (fun _ hk => hk.2) (.slice Ao20 t309.length co20)) (fun _ hk => hk.2) (.int .i64 t312)) (fun _ hk => hk.2) (.bool t313)) (fun _ hk => hk.1.1.1)⟩, ⟨by (with_reducible repeat (first | apply Kd.R_alloc | apply Kd.R_drewN | apply Kd.R_drew)); exact Kd.R_mono (Kd.R_far (p := ⟨gb301, 5, none⟩) (Kd.R_far (p := ⟨gb301, 4, none⟩) (Kd.R_far (p := ⟨gb301, 3, none⟩) (Kd.R_far (p := ⟨gb301, 2, none⟩) (Kd.R_far (p := ⟨gb301, 1, none⟩) (Kd.R_far (p := ⟨gb301, 0, none⟩) (Kd.R_types HO311.out BK301.out (by decide)) (fun _ hk => hk.2) (.int .i64 t302)) (fun _ hk => hk.2) (.slice Ao18 t303.length co18)) (fun _ hk => hk.2) (.slice Ao19 t306.length co19)) (fun _ hk => hk.2) (.slice Ao20 t309.length co20)) (fun _ hk => hk.2) (.int .i64 t312)) (fun _ hk => hk.2) (.bool t313)) (fun _ hk => hk.1.1.1)⟩, ⟨by (with_reducible repeat (first | refine blk_drewN ?_ _ | refine blk_drew ?_ | refine blk_alloc ?_ _)); refine blk_put (cs := #[.int .i64 t302, .slice Ao18 t303.length co18, .slice Ao19 t306.length co19, .slice Ao20 t309.length co20, .int .i64 t312, .bool t299]) ?_ 5 _ rfl; (with_reducible repeat (first | refine blk_drewN ?_ _ | refine blk_drew ?_ | refine blk_alloc ?_ _)); refine blk_put (cs := #[.int .i64 t302, .slice Ao18 t303.length co18, .slice Ao19 t306.length co19, .slice Ao20 t309.length co20, .int .i64 t298, .bool t299]) ?_ 4 _ rfl; (with_reducible repeat (first | refine blk_drewN ?_ _ | refine blk_drew ?_ | refine blk_alloc ?_ _)); refine blk_put (cs := #[.int .i64 t302, .slice Ao18 t303.length co18, .slice Ao19 t306.length co19, .slice Ao15 t295.length co15, .int .i64 t298, .bool t299]) ?_ 3 _ rfl; (with_reducible repeat (first | refine blk_drewN ?_ _ | refine blk_drew ?_ | refine blk_alloc ?_ _)); refine blk_put (cs := #[.int .i64 t302, .slice Ao18 t303.length co18, .slice Ao14 t292.length co14, .slice Ao15 t295.length co15, .int .i64 t298, .bool t299]) ?_ 2 _ rfl; (with_reducible repeat (first | refine blk_drewN ?_ _ | refine blk_drew ?_ | refine blk_alloc ?_ _)); refine blk_put (cs := #[.int .i64 t302, .slice Ao13 t289.length co13, .slice Ao14 t292.length co14, .slice Ao15 t295.length co15, .int .i64 t298, .bool t299]) ?_ 1 _ rfl; (with_reducible repeat (first | refine blk_drewN ?_ _ | refine blk_drew ?_ | refine blk_alloc ?_ _)); refine blk_put (cs := #[.int .i64 t288, .slice Ao13 t289.length co13, .slice Ao14 t292.length co14, .slice Ao15 t295.length co15, .int .i64 t298, .bool t299]) ?_ 0 _ rfl; (with_reducible repeat (first | refine blk_drewN ?_ _ | refine blk_drew ?_ | refine blk_alloc ?_ _)); exact BK301.out⟩, ⟨by repeat (first | (with_reducible first | exact HB.out | apply below_alloc | apply pw_below_drewN | apply below_drew1 | refine below_set ?_ GE301.out) | exact HB.out)⟩⟩
  case rest =>
   clear HC8
   try clear c2
   try clear p2
   try clear c3
   try clear c5
   try clear c6
   try clear p6
   try clear c7
   try clear c8
   try clear c21
   try clear c21b0
   try clear c21b1
   try clear hcz12_0
   try clear hcz12_1
   try clear hcz12_2
   try clear hcz12_3
   try clear hcz12_4
   try clear hcz12_5
   try clear hcz17_0
   try clear hcz17_1
   try clear hcz17_2
   try clear hcz17_3
   try clear hcz17_4
   try clear hcz17_5
   try clear hfz12_0
   try clear hfz12_1
   try clear hfz12_2
   try clear hfz12_3
   try clear hfz12_4
   try clear hfz12_5
   try clear hfz17_0
   try clear hfz17_1
   try clear hfz17_2
   try clear hfz17_3
   try clear hfz17_4
   try clear hfz17_5
   obtain ⟨kq, x43_7, rfl, HA, HJ7, HO_302001, HO_302002, HO_302003, BK301, HB⟩ := hcut
   cases kq with
   | zero => exact absurd HA.out (by simp [storagebarterlaw10_DeviceFuses.j0])
   | succ kj7 =>
    have H := HA.out
    clear HA
    simp only [storagebarterlaw10_DeviceFuses.j0] at H
    by_cases c22 : x43_7 = true
    ·subst c22
     have H1 : (none) = some r := by rw [if_pos rfl] at H; exact H
     clear H
     have H := H1
     clear H1
     exact absurd H (by simp)
    ·replace c22 := Bool.eq_false_iff.mpr c22
     subst c22
     have H1 : (storagebarterlaw10_DeviceFuses.l0 kj7 a1 (wrap64 (1 + (wrap64 (Int.tmod a0 20)))) 0 t302 t303 t306 t309 t312 t313) = some r := by rw [if_neg (show ¬ (false = true) by decide)] at H; exact H
     clear H
     have H := H1
     clear H1
     have H' := Aside0.mk H
     clear H
     go_wp2
     go_loopg [11] kj7 (fun kq v11 w' => ∃ (x11_2 : Int) (x302000_2 : Int) (x302001_2 : List ByteArray) (x302002_2 : List Int) (x302003_2 : List Int) (x302004_2 : Int) (x302005_2 : Bool) (u302001 : Value) (u302002 : Value) (u302003 : Value), v11 = .int .i64 x11_2 ∧ Aside0 (storagebarterlaw10_DeviceFuses.l0 kq a1 (wrap64 (1 + (wrap64 (Int.tmod a0 20)))) x11_2 x302000_2 x302001_2 x302002_2 x302003_2 x302004_2 x302005_2 = some r) ∧ Aside0 (kq ≤ kj7) ∧ Aside0 (Kd.R Kd.string 9 w' w.heap.size (fun _ => True) u302001 x302001_2) ∧ Aside0 (Kd.R (Kd.int .i64) 3 w' w.heap.size (fun k_ => some k_ ≠ (u302003 : Value).ownBlock) u302002 x302002_2) ∧ Aside0 (Kd.R (Kd.int .i64) 3 w' w.heap.size (fun k_ => some k_ ≠ (u302002 : Value).ownBlock) u302003 x302003_2) ∧ Aside0 (w'.heap[gb301]? = some (.cells #[.int .i64 x302000_2, u302001, u302002, u302003, .int .i64 x302004_2, .bool x302005_2] 26 (0, 0))) ∧ Aside0 (Below w.heap.size w w'))
     case atStart => exact ⟨(0), (t302), (t303), (t306), (t309), (t312), (t313), (.slice Ao18 t303.length co18), (.slice Ao19 t306.length co19), (.slice Ao20 t309.length co20), (by first | rfl | (simp; done) | (simp [*]; done)), H', ⟨Nat.le_refl _⟩, ⟨by (with_reducible repeat (first | apply Kd.R_alloc | apply Kd.R_drewN | apply Kd.R_drew)); exact HO_302001.out⟩, ⟨by (with_reducible repeat (first | apply Kd.R_alloc | apply Kd.R_drewN | apply Kd.R_drew)); exact HO_302002.out⟩, ⟨by (with_reducible repeat (first | apply Kd.R_alloc | apply Kd.R_drewN | apply Kd.R_drew)); exact HO_302003.out⟩, ⟨by (with_reducible repeat (first | refine blk_drewN ?_ _ | refine blk_drew ?_ | refine blk_alloc ?_ _)); exact BK301.out⟩, ⟨by repeat (first | (with_reducible first | exact HB.out | apply below_alloc | apply pw_below_drewN | apply below_drew1 | refine below_set ?_ GE301.out) | exact HB.out)⟩⟩
     case round =>
      clear H'
      try clear c2
      try clear p2
      try clear c3
      try clear c5
      try clear c6
      try clear p6
      try clear c7
      try clear c8
      try clear c21
      try clear c21b0
      try clear c21b1
      try clear c22
      try clear hcz12_0
      try clear hcz12_1
      try clear hcz12_2
      try clear hcz12_3
      try clear hcz12_4
      try clear hcz12_5
      try clear hcz17_0
      try clear hcz17_1
      try clear hcz17_2
      try clear hcz17_3
      try clear hcz17_4
      try clear hcz17_5
      try clear hfz12_0
      try clear hfz12_1
      try clear hfz12_2
      try clear hfz12_3
      try clear hfz12_4
      try clear hfz12_5
      try clear hfz17_0
      try clear hfz17_1
      try clear hfz17_2
      try clear hfz17_3
      try clear hfz17_4
      try clear hfz17_5
      try clear p2
      try clear p6
      obtain ⟨x11_2, x302000_2, x302001_2, x302002_2, x302003_2, x302004_2, x302005_2, u302001, u302002, u302003, rfl, HA, HK2, HO_302001, HO_302002, HO_302003, BK301, HB⟩ := hrel
      cases gk with
      | zero => exact absurd HA.out (by simp [storagebarterlaw10_DeviceFuses.l0])
      | succ k2 =>
       have H := HA.out
       clear HA
       simp only [storagebarterlaw10_DeviceFuses.l0] at H
       by_cases c23 : x11_2 < (wrap64 ((wrap64 (1 + (wrap64 (Int.tmod a0 20)))) + (wrap64 (Int.tmod a1 10))))
       ·rw [if_pos c23] at H
        have c23b0 : decide (x11_2 < (wrap64 ((wrap64 (1 + (wrap64 (Int.tmod a0 20)))) + (wrap64 (Int.tmod a1 10))))) = true := decide_eq_true c23
        clear c23
        replace H := Option.bind_eq_some_iff.mp H
        obtain ⟨⟨t315, t316, t319, t322, t325, t326, t327⟩, A240, H⟩ := H
        replace H : (if x11_2 < (wrap64 ((wrap64 (1 + (wrap64 (Int.tmod a0 20)))) - 1)) then (if t327 = 0 then (storagebarterlaw10_DeviceFuses.l0 k2 a1 (wrap64 (1 + (wrap64 (Int.tmod a0 20)))) (wrap64 (x11_2 + 1)) t315 t316 t319 t322 t325 t326) else (none)) else (if t327 = 11 then (if x11_2 = (wrap64 ((wrap64 (1 + (wrap64 (Int.tmod a0 20)))) - 1)) then (storagebarterlaw10_DeviceFuses.j2 k2 a1 (wrap64 (1 + (wrap64 (Int.tmod a0 20)))) x11_2 (!t326) x302000_2 x302001_2 x302002_2 x302003_2 x302004_2 x302005_2 t315 t316 t319 t322 t325 t326) else (storagebarterlaw10_DeviceFuses.j2 k2 a1 (wrap64 (1 + (wrap64 (Int.tmod a0 20)))) x11_2 false x302000_2 x302001_2 x302002_2 x302003_2 x302004_2 x302005_2 t315 t316 t319 t322 t325 t326)) else (storagebarterlaw10_DeviceFuses.j2 k2 a1 (wrap64 (1 + (wrap64 (Int.tmod a0 20)))) x11_2 true x302000_2 x302001_2 x302002_2 x302003_2 x302004_2 x302005_2 t315 t316 t319 t322 t325 t326))) = some r := H
        have A24 := Aside0.mk A240
        clear A240
        by_cases c25 : x11_2 < (wrap64 ((wrap64 (1 + (wrap64 (Int.tmod a0 20)))) - 1))
        ·rw [if_pos c25] at H
         have c25b0 : decide (x11_2 < (wrap64 ((wrap64 (1 + (wrap64 (Int.tmod a0 20)))) - 1))) = true := decide_eq_true c25
         clear c25
         by_cases c26 : t327 = 0
         ·rw [if_pos c26] at H
          have c26b0 : (t327 == 0) = true := beq_iff_eq.mpr c26
          have c26b1 : (t327 != 0) = false := bne_eq_false_iff_eq.mpr c26
          clear c26
          have H' := Aside0.mk H
          clear H
          have hcz27_0 : wr.cell? ⟨gb301, 0, none⟩ = some (.int .i64 x302000_2) := (blk_cell BK301.out 0).trans rfl
          have hcz27_1 : wr.cell? ⟨gb301, 1, none⟩ = some (u302001) := (blk_cell BK301.out 1).trans rfl
          have hcz27_2 : wr.cell? ⟨gb301, 2, none⟩ = some (u302002) := (blk_cell BK301.out 2).trans rfl
          have hcz27_3 : wr.cell? ⟨gb301, 3, none⟩ = some (u302003) := (blk_cell BK301.out 3).trans rfl
          have hcz27_4 : wr.cell? ⟨gb301, 4, none⟩ = some (.int .i64 x302004_2) := (blk_cell BK301.out 4).trans rfl
          have hcz27_5 : wr.cell? ⟨gb301, 5, none⟩ = some (.bool x302005_2) := (blk_cell BK301.out 5).trans rfl
          have hfz27_0 := blk_frozen BK301.out 0
          have hfz27_1 := blk_frozen BK301.out 1
          have hfz27_2 := blk_frozen BK301.out 2
          have hfz27_3 := blk_frozen BK301.out 3
          have hfz27_4 := blk_frozen BK301.out 4
          have hfz27_5 := blk_frozen BK301.out 5
          obtain ⟨Ao28, co28, eo28⟩ := Kd.R_slice HO_302001.out
          subst eo28
          obtain ⟨Ao29, co29, eo29⟩ := Kd.R_slice HO_302002.out
          subst eo29
          obtain ⟨Ao30, co30, eo30⟩ := Kd.R_slice HO_302003.out
          subst eo30
          go_wp2_with (first | ((with_reducible refine gate_callee (f := 9) rfl ?_); refine goesL_ (some 56) rfl rfl Try.func9 (by kernel_rfl) rfl #[.agg #[.int .i64 x302000_2, .slice Ao28 x302001_2.length co28, .slice Ao29 x302002_2.length co29, .slice Ao30 x302003_2.length co30, .int .i64 x302004_2, .bool x302005_2], .int .i64 x11_2, .string (⟨#[119]⟩ : ByteArray)] rfl (by (try simp only [List.map_toArray, List.map_cons, List.map_nil]); first | done | rfl | (simp only [List.length_drop, List.length_take]; rfl)) ?_; (with_reducible refine (device_Write.calls k2 x302000_2 _ _ x302001_2 _ _ x302002_2 _ _ x302003_2 x302004_2 x302005_2 x11_2 (⟨#[119]⟩ : ByteArray) t315 t316 t319 t322 t325 t326 t327 _ ?side1 ?side2 ?side3 ?side4 ?side5 ?side6 A24.out).mono ?_); (case side1 => repeat (first | exact (Kd.R_reads' HO_302001.out).2.2 | (with_reducible refine Kd.C_alloc ?_ _) | (with_reducible refine Kd.C_drewN ?_ _) | (with_reducible refine Kd.C_drew ?_))); (case side2 => exact (Kd.R_reads' HO_302001.out).2.1); (case side3 => repeat (first | exact (Kd.R_reads' HO_302002.out).2.2 | (with_reducible refine Kd.C_alloc ?_ _) | (with_reducible refine Kd.C_drewN ?_ _) | (with_reducible refine Kd.C_drew ?_))); (case side4 => exact (Kd.R_reads' HO_302002.out).2.1); (case side5 => repeat (first | exact (Kd.R_reads' HO_302003.out).2.2 | (with_reducible refine Kd.C_alloc ?_ _) | (with_reducible refine Kd.C_drewN ?_ _) | (with_reducible refine Kd.C_drew ?_))); (case side6 => exact (Kd.R_reads' HO_302003.out).2.1); rintro e w31 ⟨v317, v320, v323, rfl, ho0, ho1, ho2, hb⟩; refine ⟨_, rfl, ?_⟩; have n0_ := Aside0.mk (Kd.R_elder' (by (with_reducible repeat (first | apply Kd.R_alloc | apply Kd.R_drewN | apply Kd.R_drew)); exact HO_302001.out) (Kd.R_base ho0) hb); have n1_ := Aside0.mk (Kd.R_mono (Kd.R_told (Kd.R_told (Kd.R_old (by (with_reducible repeat (first | apply Kd.R_alloc | apply Kd.R_drewN | apply Kd.R_drew)); exact HO_302002.out) hb) (Kd.R_base ho1)) (Kd.R_base ho2)) (fun _ h_ => h_.1)); have n2_ := Aside0.mk (Kd.R_mono (Kd.R_told (Kd.R_told (Kd.R_old (by (with_reducible repeat (first | apply Kd.R_alloc | apply Kd.R_drewN | apply Kd.R_drew)); exact HO_302003.out) hb) (Kd.R_base ho1)) (Kd.R_base ho2)) (fun _ h_ => h_.1)); have n3_ := Aside0.mk (Kd.R_lower (Kd.R_new' ho0 (Kd.R_lt (by (with_reducible repeat (first | apply Kd.R_alloc | apply Kd.R_drewN | apply Kd.R_drew)); exact HO_302001.out))) (below_size (by repeat (first | (with_reducible first | exact HB.out | apply below_alloc | apply pw_below_drewN | apply below_drew1 | refine below_set ?_ GE301.out) | exact HB.out)))); have n4_ := Aside0.mk (Kd.R_lower (Kd.R_new' (Kd.R_new' ho1 (Kd.R_lt (by (with_reducible repeat (first | apply Kd.R_alloc | apply Kd.R_drewN | apply Kd.R_drew)); exact HO_302002.out))) (Kd.R_lt (by (with_reducible repeat (first | apply Kd.R_alloc | apply Kd.R_drewN | apply Kd.R_drew)); exact HO_302003.out))) (below_size (by repeat (first | (with_reducible first | exact HB.out | apply below_alloc | apply pw_below_drewN | apply below_drew1 | refine below_set ?_ GE301.out) | exact HB.out)))); have n5_ := Aside0.mk (Kd.R_lower (Kd.R_new' (Kd.R_new' ho2 (Kd.R_lt (by (with_reducible repeat (first | apply Kd.R_alloc | apply Kd.R_drewN | apply Kd.R_drew)); exact HO_302002.out))) (Kd.R_lt (by (with_reducible repeat (first | apply Kd.R_alloc | apply Kd.R_drewN | apply Kd.R_drew)); exact HO_302003.out))) (below_size (by repeat (first | (with_reducible first | exact HB.out | apply below_alloc | apply pw_below_drewN | apply below_drew1 | refine below_set ?_ GE301.out) | exact HB.out)))); have n6_ := Aside0.mk (blk_below (g := gb301) (o := .cells #[.int .i64 x302000_2, .slice Ao28 x302001_2.length co28, .slice Ao29 x302002_2.length co29, .slice Ao30 x302003_2.length co30, .int .i64 x302004_2, .bool x302005_2] 26 (0, 0)) (by (with_reducible repeat (first | refine blk_drewN ?_ _ | refine blk_drew ?_ | refine blk_alloc ?_ _)); exact BK301.out) hb); have n7_ := Aside0.mk (below_step (by repeat (first | (with_reducible first | exact HB.out | apply below_alloc | apply pw_below_drewN | apply below_drew1 | refine below_set ?_ GE301.out) | exact HB.out)) hb); clear HO_302001; clear HO_302002; clear HO_302003; clear BK301; clear HB; have HO_302001 := n0_; have HO_302002 := n1_; have HO_302003 := n2_; have HO318 := n3_; have HO321 := n4_; have HO324 := n5_; have BK301 := n6_; have HB := n7_; clear n0_ n1_ n2_ n3_ n4_ n5_ n6_ n7_; (try clear hb); (try clear hb2); (try clear hk); (try clear hi); (try clear ho0); (try clear ho1); (try clear ho2)) | ((with_reducible refine gate_dst (N := 12) rfl ?_); refine box_event ?hg (N := 12) ?hd (cs := #[.int .i64 0, .slice none 0 0, .slice none 0 0, .slice none 0 0, .int .i64 0, .bool false]) (t := 26) ?hr ?_; (case hd => rfl); (case hg => rfl); (case hr => first | (go_simp; done) | (go_simp; rfl)); intro gb328 hg w32 hbox hb; have n0_ := Aside0.mk (Kd.R_below (by (with_reducible repeat (first | apply Kd.R_alloc | apply Kd.R_drewN | apply Kd.R_drew)); exact HO_302001.out) hb); have n1_ := Aside0.mk (Kd.R_below (by (with_reducible repeat (first | apply Kd.R_alloc | apply Kd.R_drewN | apply Kd.R_drew)); exact HO_302002.out) hb); have n2_ := Aside0.mk (Kd.R_below (by (with_reducible repeat (first | apply Kd.R_alloc | apply Kd.R_drewN | apply Kd.R_drew)); exact HO_302003.out) hb); have n3_ := Aside0.mk (Kd.R_below (by (with_reducible repeat (first | apply Kd.R_alloc | apply Kd.R_drewN | apply Kd.R_drew)); exact HO318.out) hb); have n4_ := Aside0.mk (Kd.R_below (by (with_reducible repeat (first | apply Kd.R_alloc | apply Kd.R_drewN | apply Kd.R_drew)); exact HO321.out) hb); have n5_ := Aside0.mk (Kd.R_below (by (with_reducible repeat (first | apply Kd.R_alloc | apply Kd.R_drewN | apply Kd.R_drew)); exact HO324.out) hb); have n6_ := Aside0.mk (blk_below (g := gb301) (o := .cells #[.int .i64 x302000_2, .slice Ao28 x302001_2.length co28, .slice Ao29 x302002_2.length co29, .slice Ao30 x302003_2.length co30, .int .i64 x302004_2, .bool x302005_2] 26 (0, 0)) (by (with_reducible repeat (first | refine blk_drewN ?_ _ | refine blk_drew ?_ | refine blk_alloc ?_ _)); exact BK301.out) hb); have n7_ := Aside0.mk (below_step (by repeat (first | (with_reducible first | exact HB.out | apply below_alloc | apply pw_below_drewN | apply below_drew1 | refine below_set ?_ GE301.out) | exact HB.out)) hb); have n8_ := Aside0.mk (hbox); have n9_ := Aside0.mk ((by rw [hg]; exact (below_size (by repeat (first | (with_reducible first | exact HB.out | apply below_alloc | apply pw_below_drewN | apply below_drew1 | refine below_set ?_ GE301.out) | exact HB.out))) : w.heap.size ≤ gb328)); have n10_ := Aside0.mk ((by rw [hg]; exact (below_size (by repeat (first | (with_reducible first | exact HB.out | apply below_alloc | apply pw_below_drewN | apply below_drew1 | refine below_set ?_ GE301.out) | exact HB.out))) : w.heap.size ≤ gb328)); have n11_ := Aside0.mk ((by rw [hg]; exact Nat.ne_of_lt (blk_lt (g := gb301) (o := .cells #[.int .i64 x302000_2, .slice Ao28 x302001_2.length co28, .slice Ao29 x302002_2.length co29, .slice Ao30 x302003_2.length co30, .int .i64 x302004_2, .bool x302005_2] 26 (0, 0)) (by (with_reducible repeat (first | refine blk_drewN ?_ _ | refine blk_drew ?_ | refine blk_alloc ?_ _)); exact BK301.out)) : gb301 ≠ gb328)); have n12_ := Aside0.mk ((by rw [hg]; exact Nat.ne_of_gt (blk_lt (g := gb301) (o := .cells #[.int .i64 x302000_2, .slice Ao28 x302001_2.length co28, .slice Ao29 x302002_2.length co29, .slice Ao30 x302003_2.length co30, .int .i64 x302004_2, .bool x302005_2] 26 (0, 0)) (by (with_reducible repeat (first | refine blk_drewN ?_ _ | refine blk_drew ?_ | refine blk_alloc ?_ _)); exact BK301.out)) : gb328 ≠ gb301)); clear HO_302001; clear HO_302002; clear HO_302003; clear HO318; clear HO321; clear HO324; clear BK301; clear HB; have HO_302001 := n0_; have HO_302002 := n1_; have HO_302003 := n2_; have HO318 := n3_; have HO321 := n4_; have HO324 := n5_; have BK301 := n6_; have HB := n7_; have BK328 := n8_; have GW328 := n9_; have GE328 := n10_; have NB301_328 := n11_; have NB328_301 := n12_; clear n0_ n1_ n2_ n3_ n4_ n5_ n6_ n7_ n8_ n9_ n10_ n11_ n12_; clear hb hbox hg; have hnb33 := NB328_301.out; have hnc33 := NB301_328.out; have hcz34_0 : w32.cell? ⟨gb328, 0, none⟩ = some (.int .i64 0) := (blk_cell BK328.out 0).trans rfl; have hcz34_1 : w32.cell? ⟨gb328, 1, none⟩ = some (.slice none 0 0) := (blk_cell BK328.out 1).trans rfl; have hcz34_2 : w32.cell? ⟨gb328, 2, none⟩ = some (.slice none 0 0) := (blk_cell BK328.out 2).trans rfl; have hcz34_3 : w32.cell? ⟨gb328, 3, none⟩ = some (.slice none 0 0) := (blk_cell BK328.out 3).trans rfl; have hcz34_4 : w32.cell? ⟨gb328, 4, none⟩ = some (.int .i64 0) := (blk_cell BK328.out 4).trans rfl; have hcz34_5 : w32.cell? ⟨gb328, 5, none⟩ = some (.bool false) := (blk_cell BK328.out 5).trans rfl; have hfz34_0 := blk_frozen BK328.out 0; have hfz34_1 := blk_frozen BK328.out 1; have hfz34_2 := blk_frozen BK328.out 2; have hfz34_3 := blk_frozen BK328.out 3; have hfz34_4 := blk_frozen BK328.out 4; have hfz34_5 := blk_frozen BK328.out 5; obtain ⟨Ao35, co35, eo35⟩ := Kd.R_slice HO318.out; subst eo35; obtain ⟨Ao36, co36, eo36⟩ := Kd.R_slice HO321.out; subst eo36; obtain ⟨Ao37, co37, eo37⟩ := Kd.R_slice HO324.out; subst eo37; have hcz38_0 : w32.cell? ⟨gb301, 0, none⟩ = some (.int .i64 x302000_2) := (blk_cell BK301.out 0).trans rfl; have hcz38_1 : w32.cell? ⟨gb301, 1, none⟩ = some (.slice Ao28 x302001_2.length co28) := (blk_cell BK301.out 1).trans rfl; have hcz38_2 : w32.cell? ⟨gb301, 2, none⟩ = some (.slice Ao29 x302002_2.length co29) := (blk_cell BK301.out 2).trans rfl; have hcz38_3 : w32.cell? ⟨gb301, 3, none⟩ = some (.slice Ao30 x302003_2.length co30) := (blk_cell BK301.out 3).trans rfl; have hcz38_4 : w32.cell? ⟨gb301, 4, none⟩ = some (.int .i64 x302004_2) := (blk_cell BK301.out 4).trans rfl; have hcz38_5 : w32.cell? ⟨gb301, 5, none⟩ = some (.bool x302005_2) := (blk_cell BK301.out 5).trans rfl; have hfz38_0 := blk_frozen BK301.out 0; have hfz38_1 := blk_frozen BK301.out 1; have hfz38_2 := blk_frozen BK301.out 2; have hfz38_3 := blk_frozen BK301.out 3; have hfz38_4 := blk_frozen BK301.out 4; have hfz38_5 := blk_frozen BK301.out 5))
          go_roundg k2
          case measure => have := HJ7.out; have := HK2.out; omega
          case rel => exact ⟨(wrap64 (x11_2 + 1)), (t315), (t316), (t319), (t322), (t325), (t326), (.slice Ao35 t316.length co35), (.slice Ao36 t319.length co36), (.slice Ao37 t322.length co37), (by first | rfl | (simp; done) | (simp [*]; done)), H', ⟨by have := HJ7.out; have := HK2.out; omega⟩, ⟨by (with_reducible repeat (first | apply Kd.R_alloc | apply Kd.R_drewN | apply Kd.R_drew)); exact Kd.R_mono (Kd.R_far (p := ⟨gb301, 5, none⟩) (Kd.R_far (p := ⟨gb301, 4, none⟩) (Kd.R_far (p := ⟨gb301, 3, none⟩) (Kd.R_far (p := ⟨gb301, 2, none⟩) (Kd.R_far (p := ⟨gb301, 1, none⟩) (Kd.R_far (p := ⟨gb301, 0, none⟩) (Kd.R_far (p := ⟨gb328, 5, none⟩) (Kd.R_far (p := ⟨gb328, 4, none⟩) (Kd.R_far (p := ⟨gb328, 3, none⟩) (Kd.R_far (p := ⟨gb328, 2, none⟩) (Kd.R_far (p := ⟨gb328, 1, none⟩) (Kd.R_far (p := ⟨gb328, 0, none⟩) (Kd.R_types (Kd.R_types HO318.out BK328.out (by decide)) BK301.out (by decide)) (fun _ hk => hk.1.2) (.int .i64 t315)) (fun _ hk => hk.1.2) (.slice Ao35 t316.length co35)) (fun _ hk => hk.1.2) (.slice Ao36 t319.length co36)) (fun _ hk => hk.1.2) (.slice Ao37 t322.length co37)) (fun _ hk => hk.1.2) (.int .i64 t325)) (fun _ hk => hk.1.2) (.bool t326)) (fun _ hk => hk.2) (.int .i64 t315)) (fun _ hk => hk.2) (.slice Ao35 t316.length co35)) (fun _ hk => hk.2) (.slice Ao36 t319.length co36)) (fun _ hk => hk.2) (.slice Ao37 t322.length co37)) (fun _ hk => hk.2) (.int .i64 t325)) (fun _ hk => hk.2) (.bool t326)) (fun _ hk => trivial)⟩, ⟨by (with_reducible repeat (first | apply Kd.R_alloc | apply Kd.R_drewN | apply Kd.R_drew)); exact Kd.R_mono (Kd.R_far (p := ⟨gb301, 5, none⟩) (Kd.R_far (p := ⟨gb301, 4, none⟩) (Kd.R_far (p := ⟨gb301, 3, none⟩) (Kd.R_far (p := ⟨gb301, 2, none⟩) (Kd.R_far (p := ⟨gb301, 1, none⟩) (Kd.R_far (p := ⟨gb301, 0, none⟩) (Kd.R_far (p := ⟨gb328, 5, none⟩) (Kd.R_far (p := ⟨gb328, 4, none⟩) (Kd.R_far (p := ⟨gb328, 3, none⟩) (Kd.R_far (p := ⟨gb328, 2, none⟩) (Kd.R_far (p := ⟨gb328, 1, none⟩) (Kd.R_far (p := ⟨gb328, 0, none⟩) (Kd.R_types (Kd.R_types HO321.out BK328.out (by decide)) BK301.out (by decide)) (fun _ hk => hk.1.2) (.int .i64 t315)) (fun _ hk => hk.1.2) (.slice Ao35 t316.length co35)) (fun _ hk => hk.1.2) (.slice Ao36 t319.length co36)) (fun _ hk => hk.1.2) (.slice Ao37 t322.length co37)) (fun _ hk => hk.1.2) (.int .i64 t325)) (fun _ hk => hk.1.2) (.bool t326)) (fun _ hk => hk.2) (.int .i64 t315)) (fun _ hk => hk.2) (.slice Ao35 t316.length co35)) (fun _ hk => hk.2) (.slice Ao36 t319.length co36)) (fun _ hk => hk.2) (.slice Ao37 t322.length co37)) (fun _ hk => hk.2) (.int .i64 t325)) (fun _ hk => hk.2) (.bool t326)) (fun _ hk => hk.1.1.1.1)⟩, ⟨by (with_reducible repeat (first | apply Kd.R_alloc | apply Kd.R_drewN | apply Kd.R_drew)); exact Kd.R_mono (Kd.R_far (p := ⟨gb301, 5, none⟩) (Kd.R_far (p := ⟨gb301, 4, none⟩) (Kd.R_far (p := ⟨gb301, 3, none⟩) (Kd.R_far (p := ⟨gb301, 2, none⟩) (Kd.R_far (p := ⟨gb301, 1, none⟩) (Kd.R_far (p := ⟨gb301, 0, none⟩) (Kd.R_far (p := ⟨gb328, 5, none⟩) (Kd.R_far (p := ⟨gb328, 4, none⟩) (Kd.R_far (p := ⟨gb328, 3, none⟩) (Kd.R_far (p := ⟨gb328, 2, none⟩) (Kd.R_far (p := ⟨gb328, 1, none⟩) (Kd.R_far (p := ⟨gb328, 0, none⟩) (Kd.R_types (Kd.R_types HO324.out BK328.out (by decide)) BK301.out (by decide)) (fun _ hk => hk.1.2) (.int .i64 t315)) (fun _ hk => hk.1.2) (.slice Ao35 t316.length co35)) (fun _ hk => hk.1.2) (.slice Ao36 t319.length co36)) (fun _ hk => hk.1.2) (.slice Ao37 t322.length co37)) (fun _ hk => hk.1.2) (.int .i64 t325)) (fun _ hk => hk.1.2) (.bool t326)) (fun _ hk => hk.2) (.int .i64 t315)) (fun _ hk => hk.2) (.slice Ao35 t316.length co35)) (fun _ hk => hk.2) (.slice Ao36 t319.length co36)) (fun _ hk => hk.2) (.slice Ao37 t322.length co37)) (fun _ hk => hk.2) (.int .i64 t325)) (fun _ hk => hk.2) (.bool t326)) (fun _ hk => hk.1.1.1.1)⟩, ⟨by (with_reducible repeat (first | refine blk_drewN ?_ _ | refine blk_drew ?_ | refine blk_alloc ?_ _)); refine blk_put (cs := #[.int .i64 t315, .slice Ao35 t316.length co35, .slice Ao36 t319.length co36, .slice Ao37 t322.length co37, .int .i64 t325, .bool x302005_2]) ?_ 5 _ rfl; (with_reducible repeat (first | refine blk_drewN ?_ _ | refine blk_drew ?_ | refine blk_alloc ?_ _)); refine blk_put (cs := #[.int .i64 t315, .slice Ao35 t316.length co35, .slice Ao36 t319.length co36, .slice Ao37 t322.length co37, .int .i64 x302004_2, .bool x302005_2]) ?_ 4 _ rfl; (with_reducible repeat (first | refine blk_drewN ?_ _ | refine blk_drew ?_ | refine blk_alloc ?_ _)); refine blk_put (cs := #[.int .i64 t315, .slice Ao35 t316.length co35, .slice Ao36 t319.length co36, .slice Ao30 x302003_2.length co30, .int .i64 x302004_2, .bool x302005_2]) ?_ 3 _ rfl; (with_reducible repeat (first | refine blk_drewN ?_ _ | refine blk_drew ?_ | refine blk_alloc ?_ _)); refine blk_put (cs := #[.int .i64 t315, .slice Ao35 t316.length co35, .slice Ao29 x302002_2.length co29, .slice Ao30 x302003_2.length co30, .int .i64 x302004_2, .bool x302005_2]) ?_ 2 _ rfl; (with_reducible repeat (first | refine blk_drewN ?_ _ | refine blk_drew ?_ | refine blk_alloc ?_ _)); refine blk_put (cs := #[.int .i64 t315, .slice Ao28 x302001_2.length co28, .slice Ao29 x302002_2.length co29, .slice Ao30 x302003_2.length co30, .int .i64 x302004_2, .bool x302005_2]) ?_ 1 _ rfl; (with_reducible repeat (first | refine blk_drewN ?_ _ | refine blk_drew ?_ | refine blk_alloc ?_ _)); refine blk_put (cs := #[.int .i64 x302000_2, .slice Ao28 x302001_2.length co28, .slice Ao29 x302002_2.length co29, .slice Ao30 x302003_2.length co30, .int .i64 x302004_2, .bool x302005_2]) ?_ 0 _ rfl; (with_reducible repeat (first | refine blk_drewN ?_ _ | refine blk_drew ?_ | refine blk_alloc ?_ _)); refine blk_far ?_ NB301_328.out _; (with_reducible repeat (first | refine blk_drewN ?_ _ | refine blk_drew ?_ | refine blk_alloc ?_ _)); refine blk_far ?_ NB301_328.out _; (with_reducible repeat (first | refine blk_drewN ?_ _ | refine blk_drew ?_ | refine blk_alloc ?_ _)); refine blk_far ?_ NB301_328.out _; (with_reducible repeat (first | refine blk_drewN ?_ _ | refine blk_drew ?_ | refine blk_alloc ?_ _)); refine blk_far ?_ NB301_328.out _; (with_reducible repeat (first | refine blk_drewN ?_ _ | refine blk_drew ?_ | refine blk_alloc ?_ _)); refine blk_far ?_ NB301_328.out _; (with_reducible repeat (first | refine blk_drewN ?_ _ | refine blk_drew ?_ | refine blk_alloc ?_ _)); refine blk_far ?_ NB301_328.out _; (with_reducible repeat (first | refine blk_drewN ?_ _ | refine blk_drew ?_ | refine blk_alloc ?_ _)); exact BK301.out⟩, ⟨by repeat (first | (with_reducible first | exact HB.out | apply below_alloc | apply pw_below_drewN | apply below_drew1 | refine below_set ?_ GE301.out | refine below_set ?_ GE328.out) | exact HB.out)⟩⟩
         ·rw [if_neg c26] at H
          exact absurd H (by simp)
        ·rw [if_neg c25] at H
         have c25b0 : decide (x11_2 < (wrap64 ((wrap64 (1 + (wrap64 (Int.tmod a0 20)))) - 1))) = false := decide_eq_false c25
         clear c25
         have HC39 := Aside0.mk H
         clear H
         have hcz40_0 : wr.cell? ⟨gb301, 0, none⟩ = some (.int .i64 x302000_2) := (blk_cell BK301.out 0).trans rfl
         have hcz40_1 : wr.cell? ⟨gb301, 1, none⟩ = some (u302001) := (blk_cell BK301.out 1).trans rfl
         have hcz40_2 : wr.cell? ⟨gb301, 2, none⟩ = some (u302002) := (blk_cell BK301.out 2).trans rfl
         have hcz40_3 : wr.cell? ⟨gb301, 3, none⟩ = some (u302003) := (blk_cell BK301.out 3).trans rfl
         have hcz40_4 : wr.cell? ⟨gb301, 4, none⟩ = some (.int .i64 x302004_2) := (blk_cell BK301.out 4).trans rfl
         have hcz40_5 : wr.cell? ⟨gb301, 5, none⟩ = some (.bool x302005_2) := (blk_cell BK301.out 5).trans rfl
         have hfz40_0 := blk_frozen BK301.out 0
         have hfz40_1 := blk_frozen BK301.out 1
         have hfz40_2 := blk_frozen BK301.out 2
         have hfz40_3 := blk_frozen BK301.out 3
         have hfz40_4 := blk_frozen BK301.out 4
         have hfz40_5 := blk_frozen BK301.out 5
         obtain ⟨Ao41, co41, eo41⟩ := Kd.R_slice HO_302001.out
         subst eo41
         obtain ⟨Ao42, co42, eo42⟩ := Kd.R_slice HO_302002.out
         subst eo42
         obtain ⟨Ao43, co43, eo43⟩ := Kd.R_slice HO_302003.out
         subst eo43
         go_upto_region 16 with (first | ((with_reducible refine gate_callee (f := 9) rfl ?_); refine goesL_ (some 56) rfl rfl Try.func9 (by kernel_rfl) rfl #[.agg #[.int .i64 x302000_2, .slice Ao41 x302001_2.length co41, .slice Ao42 x302002_2.length co42, .slice Ao43 x302003_2.length co43, .int .i64 x302004_2, .bool x302005_2], .int .i64 x11_2, .string (⟨#[119]⟩ : ByteArray)] rfl (by (try simp only [List.map_toArray, List.map_cons, List.map_nil]); first | done | rfl | (simp only [List.length_drop, List.length_take]; rfl)) ?_; (with_reducible refine (device_Write.calls k2 x302000_2 _ _ x302001_2 _ _ x302002_2 _ _ x302003_2 x302004_2 x302005_2 x11_2 (⟨#[119]⟩ : ByteArray) t315 t316 t319 t322 t325 t326 t327 _ ?side1 ?side2 ?side3 ?side4 ?side5 ?side6 A24.out).mono ?_); (case side1 => repeat (first | exact (Kd.R_reads' HO_302001.out).2.2 | (with_reducible refine Kd.C_alloc ?_ _) | (with_reducible refine Kd.C_drewN ?_ _) | (with_reducible refine Kd.C_drew ?_))); (case side2 => exact (Kd.R_reads' HO_302001.out).2.1); (case side3 => repeat (first | exact (Kd.R_reads' HO_302002.out).2.2 | (with_reducible refine Kd.C_alloc ?_ _) | (with_reducible refine Kd.C_drewN ?_ _) | (with_reducible refine Kd.C_drew ?_))); (case side4 => exact (Kd.R_reads' HO_302002.out).2.1); (case side5 => repeat (first | exact (Kd.R_reads' HO_302003.out).2.2 | (with_reducible refine Kd.C_alloc ?_ _) | (with_reducible refine Kd.C_drewN ?_ _) | (with_reducible refine Kd.C_drew ?_))); (case side6 => exact (Kd.R_reads' HO_302003.out).2.1); rintro e w44 ⟨v317, v320, v323, rfl, ho0, ho1, ho2, hb⟩; refine ⟨_, rfl, ?_⟩; have n0_ := Aside0.mk (Kd.R_elder' (by (with_reducible repeat (first | apply Kd.R_alloc | apply Kd.R_drewN | apply Kd.R_drew)); exact HO_302001.out) (Kd.R_base ho0) hb); have n1_ := Aside0.mk (Kd.R_mono (Kd.R_told (Kd.R_told (Kd.R_old (by (with_reducible repeat (first | apply Kd.R_alloc | apply Kd.R_drewN | apply Kd.R_drew)); exact HO_302002.out) hb) (Kd.R_base ho1)) (Kd.R_base ho2)) (fun _ h_ => h_.1)); have n2_ := Aside0.mk (Kd.R_mono (Kd.R_told (Kd.R_told (Kd.R_old (by (with_reducible repeat (first | apply Kd.R_alloc | apply Kd.R_drewN | apply Kd.R_drew)); exact HO_302003.out) hb) (Kd.R_base ho1)) (Kd.R_base ho2)) (fun _ h_ => h_.1)); have n3_ := Aside0.mk (Kd.R_lower (Kd.R_new' ho0 (Kd.R_lt (by (with_reducible repeat (first | apply Kd.R_alloc | apply Kd.R_drewN | apply Kd.R_drew)); exact HO_302001.out))) (below_size (by repeat (first | (with_reducible first | exact HB.out | apply below_alloc | apply pw_below_drewN | apply below_drew1 | refine below_set ?_ GE301.out) | exact HB.out)))); have n4_ := Aside0.mk (Kd.R_lower (Kd.R_new' (Kd.R_new' ho1 (Kd.R_lt (by (with_reducible repeat (first | apply Kd.R_alloc | apply Kd.R_drewN | apply Kd.R_drew)); exact HO_302002.out))) (Kd.R_lt (by (with_reducible repeat (first | apply Kd.R_alloc | apply Kd.R_drewN | apply Kd.R_drew)); exact HO_302003.out))) (below_size (by repeat (first | (with_reducible first | exact HB.out | apply below_alloc | apply pw_below_drewN | apply below_drew1 | refine below_set ?_ GE301.out) | exact HB.out)))); have n5_ := Aside0.mk (Kd.R_lower (Kd.R_new' (Kd.R_new' ho2 (Kd.R_lt (by (with_reducible repeat (first | apply Kd.R_alloc | apply Kd.R_drewN | apply Kd.R_drew)); exact HO_302002.out))) (Kd.R_lt (by (with_reducible repeat (first | apply Kd.R_alloc | apply Kd.R_drewN | apply Kd.R_drew)); exact HO_302003.out))) (below_size (by repeat (first | (with_reducible first | exact HB.out | apply below_alloc | apply pw_below_drewN | apply below_drew1 | refine below_set ?_ GE301.out) | exact HB.out)))); have n6_ := Aside0.mk (blk_below (g := gb301) (o := .cells #[.int .i64 x302000_2, .slice Ao41 x302001_2.length co41, .slice Ao42 x302002_2.length co42, .slice Ao43 x302003_2.length co43, .int .i64 x302004_2, .bool x302005_2] 26 (0, 0)) (by (with_reducible repeat (first | refine blk_drewN ?_ _ | refine blk_drew ?_ | refine blk_alloc ?_ _)); exact BK301.out) hb); have n7_ := Aside0.mk (below_step (by repeat (first | (with_reducible first | exact HB.out | apply below_alloc | apply pw_below_drewN | apply below_drew1 | refine below_set ?_ GE301.out) | exact HB.out)) hb); clear HO_302001; clear HO_302002; clear HO_302003; clear BK301; clear HB; have HO_302001 := n0_; have HO_302002 := n1_; have HO_302003 := n2_; have HO318 := n3_; have HO321 := n4_; have HO324 := n5_; have BK301 := n6_; have HB := n7_; clear n0_ n1_ n2_ n3_ n4_ n5_ n6_ n7_; (try clear hb); (try clear hb2); (try clear hk); (try clear hi); (try clear ho0); (try clear ho1); (try clear ho2)) | ((with_reducible refine gate_dst (N := 12) rfl ?_); refine box_event ?hg (N := 12) ?hd (cs := #[.int .i64 0, .slice none 0 0, .slice none 0 0, .slice none 0 0, .int .i64 0, .bool false]) (t := 26) ?hr ?_; (case hd => rfl); (case hg => rfl); (case hr => first | (go_simp; done) | (go_simp; rfl)); intro gb328 hg w45 hbox hb; have n0_ := Aside0.mk (Kd.R_below (by (with_reducible repeat (first | apply Kd.R_alloc | apply Kd.R_drewN | apply Kd.R_drew)); exact HO_302001.out) hb); have n1_ := Aside0.mk (Kd.R_below (by (with_reducible repeat (first | apply Kd.R_alloc | apply Kd.R_drewN | apply Kd.R_drew)); exact HO_302002.out) hb); have n2_ := Aside0.mk (Kd.R_below (by (with_reducible repeat (first | apply Kd.R_alloc | apply Kd.R_drewN | apply Kd.R_drew)); exact HO_302003.out) hb); have n3_ := Aside0.mk (Kd.R_below (by (with_reducible repeat (first | apply Kd.R_alloc | apply Kd.R_drewN | apply Kd.R_drew)); exact HO318.out) hb); have n4_ := Aside0.mk (Kd.R_below (by (with_reducible repeat (first | apply Kd.R_alloc | apply Kd.R_drewN | apply Kd.R_drew)); exact HO321.out) hb); have n5_ := Aside0.mk (Kd.R_below (by (with_reducible repeat (first | apply Kd.R_alloc | apply Kd.R_drewN | apply Kd.R_drew)); exact HO324.out) hb); have n6_ := Aside0.mk (blk_below (g := gb301) (o := .cells #[.int .i64 x302000_2, .slice Ao41 x302001_2.length co41, .slice Ao42 x302002_2.length co42, .slice Ao43 x302003_2.length co43, .int .i64 x302004_2, .bool x302005_2] 26 (0, 0)) (by (with_reducible repeat (first | refine blk_drewN ?_ _ | refine blk_drew ?_ | refine blk_alloc ?_ _)); exact BK301.out) hb); have n7_ := Aside0.mk (below_step (by repeat (first | (with_reducible first | exact HB.out | apply below_alloc | apply pw_below_drewN | apply below_drew1 | refine below_set ?_ GE301.out) | exact HB.out)) hb); have n8_ := Aside0.mk (hbox); have n9_ := Aside0.mk ((by rw [hg]; exact (below_size (by repeat (first | (with_reducible first | exact HB.out | apply below_alloc | apply pw_below_drewN | apply below_drew1 | refine below_set ?_ GE301.out) | exact HB.out))) : w.heap.size ≤ gb328)); have n10_ := Aside0.mk ((by rw [hg]; exact (below_size (by repeat (first | (with_reducible first | exact HB.out | apply below_alloc | apply pw_below_drewN | apply below_drew1 | refine below_set ?_ GE301.out) | exact HB.out))) : w.heap.size ≤ gb328)); have n11_ := Aside0.mk ((by rw [hg]; exact Nat.ne_of_lt (blk_lt (g := gb301) (o := .cells #[.int .i64 x302000_2, .slice Ao41 x302001_2.length co41, .slice Ao42 x302002_2.length co42, .slice Ao43 x302003_2.length co43, .int .i64 x302004_2, .bool x302005_2] 26 (0, 0)) (by (with_reducible repeat (first | refine blk_drewN ?_ _ | refine blk_drew ?_ | refine blk_alloc ?_ _)); exact BK301.out)) : gb301 ≠ gb328)); have n12_ := Aside0.mk ((by rw [hg]; exact Nat.ne_of_gt (blk_lt (g := gb301) (o := .cells #[.int .i64 x302000_2, .slice Ao41 x302001_2.length co41, .slice Ao42 x302002_2.length co42, .slice Ao43 x302003_2.length co43, .int .i64 x302004_2, .bool x302005_2] 26 (0, 0)) (by (with_reducible repeat (first | refine blk_drewN ?_ _ | refine blk_drew ?_ | refine blk_alloc ?_ _)); exact BK301.out)) : gb328 ≠ gb301)); clear HO_302001; clear HO_302002; clear HO_302003; clear HO318; clear HO321; clear HO324; clear BK301; clear HB; have HO_302001 := n0_; have HO_302002 := n1_; have HO_302003 := n2_; have HO318 := n3_; have HO321 := n4_; have HO324 := n5_; have BK301 := n6_; have HB := n7_; have BK328 := n8_; have GW328 := n9_; have GE328 := n10_; have NB301_328 := n11_; have NB328_301 := n12_; clear n0_ n1_ n2_ n3_ n4_ n5_ n6_ n7_ n8_ n9_ n10_ n11_ n12_; clear hb hbox hg; have hnb46 := NB328_301.out; have hnc46 := NB301_328.out; have hcz47_0 : w45.cell? ⟨gb328, 0, none⟩ = some (.int .i64 0) := (blk_cell BK328.out 0).trans rfl; have hcz47_1 : w45.cell? ⟨gb328, 1, none⟩ = some (.slice none 0 0) := (blk_cell BK328.out 1).trans rfl; have hcz47_2 : w45.cell? ⟨gb328, 2, none⟩ = some (.slice none 0 0) := (blk_cell BK328.out 2).trans rfl; have hcz47_3 : w45.cell? ⟨gb328, 3, none⟩ = some (.slice none 0 0) := (blk_cell BK328.out 3).trans rfl; have hcz47_4 : w45.cell? ⟨gb328, 4, none⟩ = some (.int .i64 0) := (blk_cell BK328.out 4).trans rfl; have hcz47_5 : w45.cell? ⟨gb328, 5, none⟩ = some (.bool false) := (blk_cell BK328.out 5).trans rfl; have hfz47_0 := blk_frozen BK328.out 0; have hfz47_1 := blk_frozen BK328.out 1; have hfz47_2 := blk_frozen BK328.out 2; have hfz47_3 := blk_frozen BK328.out 3; have hfz47_4 := blk_frozen BK328.out 4; have hfz47_5 := blk_frozen BK328.out 5; obtain ⟨Ao48, co48, eo48⟩ := Kd.R_slice HO318.out; subst eo48; obtain ⟨Ao49, co49, eo49⟩ := Kd.R_slice HO321.out; subst eo49; obtain ⟨Ao50, co50, eo50⟩ := Kd.R_slice HO324.out; subst eo50))
         (try simp only [Act.put, List.setIfInBounds_toArray, List.set_cons_zero, List.set_cons_succ])
         go_cut [78] (fun v78 wc => ∃ (kq : Nat) (x78_38 : Bool), v78 = .bool x78_38 ∧ Aside0 (storagebarterlaw10_DeviceFuses.j2 kq a1 (wrap64 (1 + (wrap64 (Int.tmod a0 20)))) x11_2 x78_38 x302000_2 x302001_2 x302002_2 x302003_2 x302004_2 x302005_2 t315 t316 t319 t322 t325 t326 = some r) ∧ Aside0 (kq ≤ k2) ∧ Aside0 (Kd.R Kd.string 9 wc w.heap.size (fun k_ => some k_ ≠ ((.slice Ao48 t316.length co48) : Value).ownBlock) (.slice Ao41 x302001_2.length co41) x302001_2) ∧ Aside0 (Kd.R (Kd.int .i64) 3 wc w.heap.size (fun k_ => some k_ ≠ ((.slice Ao43 x302003_2.length co43) : Value).ownBlock ∧ some k_ ≠ ((.slice Ao49 t319.length co49) : Value).ownBlock ∧ some k_ ≠ ((.slice Ao50 t322.length co50) : Value).ownBlock) (.slice Ao42 x302002_2.length co42) x302002_2) ∧ Aside0 (Kd.R (Kd.int .i64) 3 wc w.heap.size (fun k_ => some k_ ≠ ((.slice Ao42 x302002_2.length co42) : Value).ownBlock ∧ some k_ ≠ ((.slice Ao49 t319.length co49) : Value).ownBlock ∧ some k_ ≠ ((.slice Ao50 t322.length co50) : Value).ownBlock) (.slice Ao43 x302003_2.length co43) x302003_2) ∧ Aside0 (Kd.R Kd.string 9 wc w.heap.size (fun k_ => some k_ ≠ ((.slice Ao41 x302001_2.length co41) : Value).ownBlock) (.slice Ao48 t316.length co48) t316) ∧ Aside0 (Kd.R (Kd.int .i64) 3 wc w.heap.size (fun k_ => some k_ ≠ ((.slice Ao42 x302002_2.length co42) : Value).ownBlock ∧ some k_ ≠ ((.slice Ao43 x302003_2.length co43) : Value).ownBlock ∧ some k_ ≠ ((.slice Ao50 t322.length co50) : Value).ownBlock) (.slice Ao49 t319.length co49) t319) ∧ Aside0 (Kd.R (Kd.int .i64) 3 wc w.heap.size (fun k_ => some k_ ≠ ((.slice Ao42 x302002_2.length co42) : Value).ownBlock ∧ some k_ ≠ ((.slice Ao43 x302003_2.length co43) : Value).ownBlock ∧ some k_ ≠ ((.slice Ao49 t319.length co49) : Value).ownBlock) (.slice Ao50 t322.length co50) t322) ∧ Aside0 (wc.heap[gb301]? = some (.cells #[.int .i64 x302000_2, (.slice Ao41 x302001_2.length co41), (.slice Ao42 x302002_2.length co42), (.slice Ao43 x302003_2.length co43), .int .i64 x302004_2, .bool x302005_2] 26 (0, 0))) ∧ Aside0 (wc.heap[gb328]? = some (.cells #[.int .i64 t315, (.slice Ao48 t316.length co48), (.slice Ao49 t319.length co49), (.slice Ao50 t322.length co50), .int .i64 t325, .bool t326] 26 (0, 0))) ∧ Aside0 (Below w.heap.size w wc))
         case first =>
          have H := HC39.out
          clear HC39
          by_cases c51 : t327 = 11
          ·rw [if_pos c51] at H
           have c51b0 : (t327 == 11) = true := beq_iff_eq.mpr c51
           have c51b1 : (t327 != 11) = false := bne_eq_false_iff_eq.mpr c51
           clear c51
           (first | rw [c51b0] | (simp only [i64_w, i32_w]; rw [c51b0]) | skip)
           by_cases c52 : x11_2 = (wrap64 ((wrap64 (1 + (wrap64 (Int.tmod a0 20)))) - 1))
           ·rw [if_pos c52] at H
            have c52b0 : (x11_2 == (wrap64 ((wrap64 (1 + (wrap64 (Int.tmod a0 20)))) - 1))) = true := beq_iff_eq.mpr c52
            have c52b1 : (x11_2 != (wrap64 ((wrap64 (1 + (wrap64 (Int.tmod a0 20)))) - 1))) = false := bne_eq_false_iff_eq.mpr c52
            clear c52
            have H' := Aside0.mk H
            clear H
            have hnb53 := NB328_301.out
            have hnc53 := NB301_328.out
            have hcz54_0 : w45.cell? ⟨gb328, 0, none⟩ = some (.int .i64 0) := (blk_cell BK328.out 0).trans rfl
            have hcz54_1 : w45.cell? ⟨gb328, 1, none⟩ = some (.slice none 0 0) := (blk_cell BK328.out 1).trans rfl
            have hcz54_2 : w45.cell? ⟨gb328, 2, none⟩ = some (.slice none 0 0) := (blk_cell BK328.out 2).trans rfl
            have hcz54_3 : w45.cell? ⟨gb328, 3, none⟩ = some (.slice none 0 0) := (blk_cell BK328.out 3).trans rfl
            have hcz54_4 : w45.cell? ⟨gb328, 4, none⟩ = some (.int .i64 0) := (blk_cell BK328.out 4).trans rfl
            have hcz54_5 : w45.cell? ⟨gb328, 5, none⟩ = some (.bool false) := (blk_cell BK328.out 5).trans rfl
            have hfz54_0 := blk_frozen BK328.out 0
            have hfz54_1 := blk_frozen BK328.out 1
            have hfz54_2 := blk_frozen BK328.out 2
            have hfz54_3 := blk_frozen BK328.out 3
            have hfz54_4 := blk_frozen BK328.out 4
            have hfz54_5 := blk_frozen BK328.out 5
            go_wp2
            go_meet
            case rel => exact ⟨_, (!t326), (by first | rfl | (simp; done) | (simp [*]; done)), H', ⟨by have := HJ7.out; have := HK2.out; first | omega | exact Nat.le_refl _⟩, ⟨by (with_reducible repeat (first | apply Kd.R_alloc | apply Kd.R_drewN | apply Kd.R_drew)); exact Kd.R_mono (Kd.R_far (p := ⟨gb328, 5, none⟩) (Kd.R_far (p := ⟨gb328, 4, none⟩) (Kd.R_far (p := ⟨gb328, 3, none⟩) (Kd.R_far (p := ⟨gb328, 2, none⟩) (Kd.R_far (p := ⟨gb328, 1, none⟩) (Kd.R_far (p := ⟨gb328, 0, none⟩) (Kd.R_types HO_302001.out BK328.out (by decide)) (fun _ hk => hk.2) (.int .i64 t315)) (fun _ hk => hk.2) (.slice Ao48 t316.length co48)) (fun _ hk => hk.2) (.slice Ao49 t319.length co49)) (fun _ hk => hk.2) (.slice Ao50 t322.length co50)) (fun _ hk => hk.2) (.int .i64 t325)) (fun _ hk => hk.2) (.bool t326)) (fun _ hk => hk.1.2)⟩, ⟨by (with_reducible repeat (first | apply Kd.R_alloc | apply Kd.R_drewN | apply Kd.R_drew)); exact Kd.R_mono (Kd.R_far (p := ⟨gb328, 5, none⟩) (Kd.R_far (p := ⟨gb328, 4, none⟩) (Kd.R_far (p := ⟨gb328, 3, none⟩) (Kd.R_far (p := ⟨gb328, 2, none⟩) (Kd.R_far (p := ⟨gb328, 1, none⟩) (Kd.R_far (p := ⟨gb328, 0, none⟩) (Kd.R_types HO_302002.out BK328.out (by decide)) (fun _ hk => hk.2) (.int .i64 t315)) (fun _ hk => hk.2) (.slice Ao48 t316.length co48)) (fun _ hk => hk.2) (.slice Ao49 t319.length co49)) (fun _ hk => hk.2) (.slice Ao50 t322.length co50)) (fun _ hk => hk.2) (.int .i64 t325)) (fun _ hk => hk.2) (.bool t326)) (fun _ hk => ⟨hk.1.1.1, ⟨hk.1.1.2, hk.1.2⟩⟩)⟩, ⟨by (with_reducible repeat (first | apply Kd.R_alloc | apply Kd.R_drewN | apply Kd.R_drew)); exact Kd.R_mono (Kd.R_far (p := ⟨gb328, 5, none⟩) (Kd.R_far (p := ⟨gb328, 4, none⟩) (Kd.R_far (p := ⟨gb328, 3, none⟩) (Kd.R_far (p := ⟨gb328, 2, none⟩) (Kd.R_far (p := ⟨gb328, 1, none⟩) (Kd.R_far (p := ⟨gb328, 0, none⟩) (Kd.R_types HO_302003.out BK328.out (by decide)) (fun _ hk => hk.2) (.int .i64 t315)) (fun _ hk => hk.2) (.slice Ao48 t316.length co48)) (fun _ hk => hk.2) (.slice Ao49 t319.length co49)) (fun _ hk => hk.2) (.slice Ao50 t322.length co50)) (fun _ hk => hk.2) (.int .i64 t325)) (fun _ hk => hk.2) (.bool t326)) (fun _ hk => ⟨hk.1.1.1, ⟨hk.1.1.2, hk.1.2⟩⟩)⟩, ⟨by (with_reducible repeat (first | apply Kd.R_alloc | apply Kd.R_drewN | apply Kd.R_drew)); exact Kd.R_mono (Kd.R_far (p := ⟨gb328, 5, none⟩) (Kd.R_far (p := ⟨gb328, 4, none⟩) (Kd.R_far (p := ⟨gb328, 3, none⟩) (Kd.R_far (p := ⟨gb328, 2, none⟩) (Kd.R_far (p := ⟨gb328, 1, none⟩) (Kd.R_far (p := ⟨gb328, 0, none⟩) (Kd.R_types HO318.out BK328.out (by decide)) (fun _ hk => hk.2) (.int .i64 t315)) (fun _ hk => hk.2) (.slice Ao48 t316.length co48)) (fun _ hk => hk.2) (.slice Ao49 t319.length co49)) (fun _ hk => hk.2) (.slice Ao50 t322.length co50)) (fun _ hk => hk.2) (.int .i64 t325)) (fun _ hk => hk.2) (.bool t326)) (fun _ hk => hk.1.2)⟩, ⟨by (with_reducible repeat (first | apply Kd.R_alloc | apply Kd.R_drewN | apply Kd.R_drew)); exact Kd.R_mono (Kd.R_far (p := ⟨gb328, 5, none⟩) (Kd.R_far (p := ⟨gb328, 4, none⟩) (Kd.R_far (p := ⟨gb328, 3, none⟩) (Kd.R_far (p := ⟨gb328, 2, none⟩) (Kd.R_far (p := ⟨gb328, 1, none⟩) (Kd.R_far (p := ⟨gb328, 0, none⟩) (Kd.R_types HO321.out BK328.out (by decide)) (fun _ hk => hk.2) (.int .i64 t315)) (fun _ hk => hk.2) (.slice Ao48 t316.length co48)) (fun _ hk => hk.2) (.slice Ao49 t319.length co49)) (fun _ hk => hk.2) (.slice Ao50 t322.length co50)) (fun _ hk => hk.2) (.int .i64 t325)) (fun _ hk => hk.2) (.bool t326)) (fun _ hk => ⟨hk.1.1.2, ⟨hk.1.2, hk.1.1.1⟩⟩)⟩, ⟨by (with_reducible repeat (first | apply Kd.R_alloc | apply Kd.R_drewN | apply Kd.R_drew)); exact Kd.R_mono (Kd.R_far (p := ⟨gb328, 5, none⟩) (Kd.R_far (p := ⟨gb328, 4, none⟩) (Kd.R_far (p := ⟨gb328, 3, none⟩) (Kd.R_far (p := ⟨gb328, 2, none⟩) (Kd.R_far (p := ⟨gb328, 1, none⟩) (Kd.R_far (p := ⟨gb328, 0, none⟩) (Kd.R_types HO324.out BK328.out (by decide)) (fun _ hk => hk.2) (.int .i64 t315)) (fun _ hk => hk.2) (.slice Ao48 t316.length co48)) (fun _ hk => hk.2) (.slice Ao49 t319.length co49)) (fun _ hk => hk.2) (.slice Ao50 t322.length co50)) (fun _ hk => hk.2) (.int .i64 t325)) (fun _ hk => hk.2) (.bool t326)) (fun _ hk => ⟨hk.1.1.2, ⟨hk.1.2, hk.1.1.1⟩⟩)⟩, ⟨by (with_reducible repeat (first | refine blk_drewN ?_ _ | refine blk_drew ?_ | refine blk_alloc ?_ _)); refine blk_far ?_ NB301_328.out _; (with_reducible repeat (first | refine blk_drewN ?_ _ | refine blk_drew ?_ | refine blk_alloc ?_ _)); refine blk_far ?_ NB301_328.out _; (with_reducible repeat (first | refine blk_drewN ?_ _ | refine blk_drew ?_ | refine blk_alloc ?_ _)); refine blk_far ?_ NB301_328.out _; (with_reducible repeat (first | refine blk_drewN ?_ _ | refine blk_drew ?_ | refine blk_alloc ?_ _)); refine blk_far ?_ NB301_328.out _; (with_reducible repeat (first | refine blk_drewN ?_ _ | refine blk_drew ?_ | refine blk_alloc ?_ _)); refine blk_far ?_ NB301_328.out _; (with_reducible repeat (first | refine blk_drewN ?_ _ | refine blk_drew ?_ | refine blk_alloc ?_ _)); refine blk_far ?_ NB301_328.out _; (with_reducible repeat (first | refine blk_drewN ?_ _ | refine blk_drew ?_ | refine blk_alloc ?_ _)); exact BK301.out⟩, ⟨by (with_reducible repeat (first | refine blk_drewN ?_ _ | refine blk_drew ?_ | refine blk_alloc ?_ _)); refine blk_put (cs := #[.int .i64 t315, .slice Ao48 t316.length co48, .slice Ao49 t319.length co49, .slice Ao50 t322.length co50, .int .i64 t325, .bool false]) ?_ 5 _ rfl; (with_reducible repeat (first | refine blk_drewN ?_ _ | refine blk_drew ?_ | refine blk_alloc ?_ _)); refine blk_put (cs := #[.int .i64 t315, .slice Ao48 t316.length co48, .slice Ao49 t319.length co49, .slice Ao50 t322.length co50, .int .i64 0, .bool false]) ?_ 4 _ rfl; (with_reducible repeat (first | refine blk_drewN ?_ _ | refine blk_drew ?_ | refine blk_alloc ?_ _)); refine blk_put (cs := #[.int .i64 t315, .slice Ao48 t316.length co48, .slice Ao49 t319.length co49, .slice none 0 0, .int .i64 0, .bool false]) ?_ 3 _ rfl; (with_reducible repeat (first | refine blk_drewN ?_ _ | refine blk_drew ?_ | refine blk_alloc ?_ _)); refine blk_put (cs := #[.int .i64 t315, .slice Ao48 t316.length co48, .slice none 0 0, .slice none 0 0, .int .i64 0, .bool false]) ?_ 2 _ rfl; (with_reducible repeat (first | refine blk_drewN ?_ _ | refine blk_drew ?_ | refine blk_alloc ?_ _)); refine blk_put (cs := #[.int .i64 t315, .slice none 0 0, .slice none 0 0, .slice none 0 0, .int .i64 0, .bool false]) ?_ 1 _ rfl; (with_reducible repeat (first | refine blk_drewN ?_ _ | refine blk_drew ?_ | refine blk_alloc ?_ _)); refine blk_put (cs := #[.int .i64 0, .slice none 0 0, .slice none 0 0, .slice none 0 0, .int .i64 0, .bool false]) ?_ 0 _ rfl; (with_reducible repeat (first | refine blk_drewN ?_ _ | refine blk_drew ?_ | refine blk_alloc ?_ _)); exact BK328.out⟩, ⟨by repeat (first | (with_reducible first | exact HB.out | apply below_alloc | apply pw_below_drewN | apply below_drew1 | refine below_set ?_ GE301.out | refine below_set ?_ GE328.out) | exact HB.out)⟩⟩
           ·rw [if_neg c52] at H
            have c52b0 : (x11_2 == (wrap64 ((wrap64 (1 + (wrap64 (Int.tmod a0 20)))) - 1))) = false := beq_eq_false_iff_ne.mpr c52
            have c52b1 : (x11_2 != (wrap64 ((wrap64 (1 + (wrap64 (Int.tmod a0 20)))) - 1))) = true := bne_iff_ne.mpr c52
            have H' := Aside0.mk H
            clear H
            go_wp2
            go_meet
            case rel => exact ⟨_, (false), (by first | rfl | (simp; done) | (simp [*]; done)), H', ⟨by have := HJ7.out; have := HK2.out; first | omega | exact Nat.le_refl _⟩, ⟨by (with_reducible repeat (first | apply Kd.R_alloc | apply Kd.R_drewN | apply Kd.R_drew)); exact Kd.R_mono (Kd.R_far (p := ⟨gb328, 5, none⟩) (Kd.R_far (p := ⟨gb328, 4, none⟩) (Kd.R_far (p := ⟨gb328, 3, none⟩) (Kd.R_far (p := ⟨gb328, 2, none⟩) (Kd.R_far (p := ⟨gb328, 1, none⟩) (Kd.R_far (p := ⟨gb328, 0, none⟩) (Kd.R_types HO_302001.out BK328.out (by decide)) (fun _ hk => hk.2) (.int .i64 t315)) (fun _ hk => hk.2) (.slice Ao48 t316.length co48)) (fun _ hk => hk.2) (.slice Ao49 t319.length co49)) (fun _ hk => hk.2) (.slice Ao50 t322.length co50)) (fun _ hk => hk.2) (.int .i64 t325)) (fun _ hk => hk.2) (.bool t326)) (fun _ hk => hk.1.2)⟩, ⟨by (with_reducible repeat (first | apply Kd.R_alloc | apply Kd.R_drewN | apply Kd.R_drew)); exact Kd.R_mono (Kd.R_far (p := ⟨gb328, 5, none⟩) (Kd.R_far (p := ⟨gb328, 4, none⟩) (Kd.R_far (p := ⟨gb328, 3, none⟩) (Kd.R_far (p := ⟨gb328, 2, none⟩) (Kd.R_far (p := ⟨gb328, 1, none⟩) (Kd.R_far (p := ⟨gb328, 0, none⟩) (Kd.R_types HO_302002.out BK328.out (by decide)) (fun _ hk => hk.2) (.int .i64 t315)) (fun _ hk => hk.2) (.slice Ao48 t316.length co48)) (fun _ hk => hk.2) (.slice Ao49 t319.length co49)) (fun _ hk => hk.2) (.slice Ao50 t322.length co50)) (fun _ hk => hk.2) (.int .i64 t325)) (fun _ hk => hk.2) (.bool t326)) (fun _ hk => ⟨hk.1.1.1, ⟨hk.1.1.2, hk.1.2⟩⟩)⟩, ⟨by (with_reducible repeat (first | apply Kd.R_alloc | apply Kd.R_drewN | apply Kd.R_drew)); exact Kd.R_mono (Kd.R_far (p := ⟨gb328, 5, none⟩) (Kd.R_far (p := ⟨gb328, 4, none⟩) (Kd.R_far (p := ⟨gb328, 3, none⟩) (Kd.R_far (p := ⟨gb328, 2, none⟩) (Kd.R_far (p := ⟨gb328, 1, none⟩) (Kd.R_far (p := ⟨gb328, 0, none⟩) (Kd.R_types HO_302003.out BK328.out (by decide)) (fun _ hk => hk.2) (.int .i64 t315)) (fun _ hk => hk.2) (.slice Ao48 t316.length co48)) (fun _ hk => hk.2) (.slice Ao49 t319.length co49)) (fun _ hk => hk.2) (.slice Ao50 t322.length co50)) (fun _ hk => hk.2) (.int .i64 t325)) (fun _ hk => hk.2) (.bool t326)) (fun _ hk => ⟨hk.1.1.1, ⟨hk.1.1.2, hk.1.2⟩⟩)⟩, ⟨by (with_reducible repeat (first | apply Kd.R_alloc | apply Kd.R_drewN | apply Kd.R_drew)); exact Kd.R_mono (Kd.R_far (p := ⟨gb328, 5, none⟩) (Kd.R_far (p := ⟨gb328, 4, none⟩) (Kd.R_far (p := ⟨gb328, 3, none⟩) (Kd.R_far (p := ⟨gb328, 2, none⟩) (Kd.R_far (p := ⟨gb328, 1, none⟩) (Kd.R_far (p := ⟨gb328, 0, none⟩) (Kd.R_types HO318.out BK328.out (by decide)) (fun _ hk => hk.2) (.int .i64 t315)) (fun _ hk => hk.2) (.slice Ao48 t316.length co48)) (fun _ hk => hk.2) (.slice Ao49 t319.length co49)) (fun _ hk => hk.2) (.slice Ao50 t322.length co50)) (fun _ hk => hk.2) (.int .i64 t325)) (fun _ hk => hk.2) (.bool t326)) (fun _ hk => hk.1.2)⟩, ⟨by (with_reducible repeat (first | apply Kd.R_alloc | apply Kd.R_drewN | apply Kd.R_drew)); exact Kd.R_mono (Kd.R_far (p := ⟨gb328, 5, none⟩) (Kd.R_far (p := ⟨gb328, 4, none⟩) (Kd.R_far (p := ⟨gb328, 3, none⟩) (Kd.R_far (p := ⟨gb328, 2, none⟩) (Kd.R_far (p := ⟨gb328, 1, none⟩) (Kd.R_far (p := ⟨gb328, 0, none⟩) (Kd.R_types HO321.out BK328.out (by decide)) (fun _ hk => hk.2) (.int .i64 t315)) (fun _ hk => hk.2) (.slice Ao48 t316.length co48)) (fun _ hk => hk.2) (.slice Ao49 t319.length co49)) (fun _ hk => hk.2) (.slice Ao50 t322.length co50)) (fun _ hk => hk.2) (.int .i64 t325)) (fun _ hk => hk.2) (.bool t326)) (fun _ hk => ⟨hk.1.1.2, ⟨hk.1.2, hk.1.1.1⟩⟩)⟩, ⟨by (with_reducible repeat (first | apply Kd.R_alloc | apply Kd.R_drewN | apply Kd.R_drew)); exact Kd.R_mono (Kd.R_far (p := ⟨gb328, 5, none⟩) (Kd.R_far (p := ⟨gb328, 4, none⟩) (Kd.R_far (p := ⟨gb328, 3, none⟩) (Kd.R_far (p := ⟨gb328, 2, none⟩) (Kd.R_far (p := ⟨gb328, 1, none⟩) (Kd.R_far (p := ⟨gb328, 0, none⟩) (Kd.R_types HO324.out BK328.out (by decide)) (fun _ hk => hk.2) (.int .i64 t315)) (fun _ hk => hk.2) (.slice Ao48 t316.length co48)) (fun _ hk => hk.2) (.slice Ao49 t319.length co49)) (fun _ hk => hk.2) (.slice Ao50 t322.length co50)) (fun _ hk => hk.2) (.int .i64 t325)) (fun _ hk => hk.2) (.bool t326)) (fun _ hk => ⟨hk.1.1.2, ⟨hk.1.2, hk.1.1.1⟩⟩)⟩, ⟨by (with_reducible repeat (first | refine blk_drewN ?_ _ | refine blk_drew ?_ | refine blk_alloc ?_ _)); refine blk_far ?_ NB301_328.out _; (with_reducible repeat (first | refine blk_drewN ?_ _ | refine blk_drew ?_ | refine blk_alloc ?_ _)); refine blk_far ?_ NB301_328.out _; (with_reducible repeat (first | refine blk_drewN ?_ _ | refine blk_drew ?_ | refine blk_alloc ?_ _)); refine blk_far ?_ NB301_328.out _; (with_reducible repeat (first | refine blk_drewN ?_ _ | refine blk_drew ?_ | refine blk_alloc ?_ _)); refine blk_far ?_ NB301_328.out _; (with_reducible repeat (first | refine blk_drewN ?_ _ | refine blk_drew ?_ | refine blk_alloc ?_ _)); refine blk_far ?_ NB301_328.out _; (with_reducible repeat (first | refine blk_drewN ?_ _ | refine blk_drew ?_ | refine blk_alloc ?_ _)); refine blk_far ?_ NB301_328.out _; (with_reducible repeat (first | refine blk_drewN ?_ _ | refine blk_drew ?_ | refine blk_alloc ?_ _)); exact BK301.out⟩, ⟨by (with_reducible repeat (first | refine blk_drewN ?_ _ | refine blk_drew ?_ | refine blk_alloc ?_ _)); refine blk_put (cs := #[.int .i64 t315, .slice Ao48 t316.length co48, .slice Ao49 t319.length co49, .slice Ao50 t322.length co50, .int .i64 t325, .bool false]) ?_ 5 _ rfl; (with_reducible repeat (first | refine blk_drewN ?_ _ | refine blk_drew ?_ | refine blk_alloc ?_ _)); refine blk_put (cs := #[.int .i64 t315, .slice Ao48 t316.length co48, .slice Ao49 t319.length co49, .slice Ao50 t322.length co50, .int .i64 0, .bool false]) ?_ 4 _ rfl; (with_reducible repeat (first | refine blk_drewN ?_ _ | refine blk_drew ?_ | refine blk_alloc ?_ _)); refine blk_put (cs := #[.int .i64 t315, .slice Ao48 t316.length co48, .slice Ao49 t319.length co49, .slice none 0 0, .int .i64 0, .bool false]) ?_ 3 _ rfl; (with_reducible repeat (first | refine blk_drewN ?_ _ | refine blk_drew ?_ | refine blk_alloc ?_ _)); refine blk_put (cs := #[.int .i64 t315, .slice Ao48 t316.length co48, .slice none 0 0, .slice none 0 0, .int .i64 0, .bool false]) ?_ 2 _ rfl; (with_reducible repeat (first | refine blk_drewN ?_ _ | refine blk_drew ?_ | refine blk_alloc ?_ _)); refine blk_put (cs := #[.int .i64 t315, .slice none 0 0, .slice none 0 0, .slice none 0 0, .int .i64 0, .bool false]) ?_ 1 _ rfl; (with_reducible repeat (first | refine blk_drewN ?_ _ | refine blk_drew ?_ | refine blk_alloc ?_ _)); refine blk_put (cs := #[.int .i64 0, .slice none 0 0, .slice none 0 0, .slice none 0 0, .int .i64 0, .bool false]) ?_ 0 _ rfl; (with_reducible repeat (first | refine blk_drewN ?_ _ | refine blk_drew ?_ | refine blk_alloc ?_ _)); exact BK328.out⟩, ⟨by repeat (first | (with_reducible first | exact HB.out | apply below_alloc | apply pw_below_drewN | apply below_drew1 | refine below_set ?_ GE301.out | refine below_set ?_ GE328.out) | exact HB.out)⟩⟩
          ·rw [if_neg c51] at H
           have c51b0 : (t327 == 11) = false := beq_eq_false_iff_ne.mpr c51
           have c51b1 : (t327 != 11) = true := bne_iff_ne.mpr c51
           (first | rw [c51b0] | (simp only [i64_w, i32_w]; rw [c51b0]) | skip)
           have H' := Aside0.mk H
           clear H
           go_wp2
           go_meet
           case rel => exact ⟨_, (true), (by first | rfl | (simp; done) | (simp [*]; done)), H', ⟨by have := HJ7.out; have := HK2.out; first | omega | exact Nat.le_refl _⟩, ⟨by (with_reducible repeat (first | apply Kd.R_alloc | apply Kd.R_drewN | apply Kd.R_drew)); exact Kd.R_mono (Kd.R_far (p := ⟨gb328, 5, none⟩) (Kd.R_far (p := ⟨gb328, 4, none⟩) (Kd.R_far (p := ⟨gb328, 3, none⟩) (Kd.R_far (p := ⟨gb328, 2, none⟩) (Kd.R_far (p := ⟨gb328, 1, none⟩) (Kd.R_far (p := ⟨gb328, 0, none⟩) (Kd.R_types HO_302001.out BK328.out (by decide)) (fun _ hk => hk.2) (.int .i64 t315)) (fun _ hk => hk.2) (.slice Ao48 t316.length co48)) (fun _ hk => hk.2) (.slice Ao49 t319.length co49)) (fun _ hk => hk.2) (.slice Ao50 t322.length co50)) (fun _ hk => hk.2) (.int .i64 t325)) (fun _ hk => hk.2) (.bool t326)) (fun _ hk => hk.1.2)⟩, ⟨by (with_reducible repeat (first | apply Kd.R_alloc | apply Kd.R_drewN | apply Kd.R_drew)); exact Kd.R_mono (Kd.R_far (p := ⟨gb328, 5, none⟩) (Kd.R_far (p := ⟨gb328, 4, none⟩) (Kd.R_far (p := ⟨gb328, 3, none⟩) (Kd.R_far (p := ⟨gb328, 2, none⟩) (Kd.R_far (p := ⟨gb328, 1, none⟩) (Kd.R_far (p := ⟨gb328, 0, none⟩) (Kd.R_types HO_302002.out BK328.out (by decide)) (fun _ hk => hk.2) (.int .i64 t315)) (fun _ hk => hk.2) (.slice Ao48 t316.length co48)) (fun _ hk => hk.2) (.slice Ao49 t319.length co49)) (fun _ hk => hk.2) (.slice Ao50 t322.length co50)) (fun _ hk => hk.2) (.int .i64 t325)) (fun _ hk => hk.2) (.bool t326)) (fun _ hk => ⟨hk.1.1.1, ⟨hk.1.1.2, hk.1.2⟩⟩)⟩, ⟨by (with_reducible repeat (first | apply Kd.R_alloc | apply Kd.R_drewN | apply Kd.R_drew)); exact Kd.R_mono (Kd.R_far (p := ⟨gb328, 5, none⟩) (Kd.R_far (p := ⟨gb328, 4, none⟩) (Kd.R_far (p := ⟨gb328, 3, none⟩) (Kd.R_far (p := ⟨gb328, 2, none⟩) (Kd.R_far (p := ⟨gb328, 1, none⟩) (Kd.R_far (p := ⟨gb328, 0, none⟩) (Kd.R_types HO_302003.out BK328.out (by decide)) (fun _ hk => hk.2) (.int .i64 t315)) (fun _ hk => hk.2) (.slice Ao48 t316.length co48)) (fun _ hk => hk.2) (.slice Ao49 t319.length co49)) (fun _ hk => hk.2) (.slice Ao50 t322.length co50)) (fun _ hk => hk.2) (.int .i64 t325)) (fun _ hk => hk.2) (.bool t326)) (fun _ hk => ⟨hk.1.1.1, ⟨hk.1.1.2, hk.1.2⟩⟩)⟩, ⟨by (with_reducible repeat (first | apply Kd.R_alloc | apply Kd.R_drewN | apply Kd.R_drew)); exact Kd.R_mono (Kd.R_far (p := ⟨gb328, 5, none⟩) (Kd.R_far (p := ⟨gb328, 4, none⟩) (Kd.R_far (p := ⟨gb328, 3, none⟩) (Kd.R_far (p := ⟨gb328, 2, none⟩) (Kd.R_far (p := ⟨gb328, 1, none⟩) (Kd.R_far (p := ⟨gb328, 0, none⟩) (Kd.R_types HO318.out BK328.out (by decide)) (fun _ hk => hk.2) (.int .i64 t315)) (fun _ hk => hk.2) (.slice Ao48 t316.length co48)) (fun _ hk => hk.2) (.slice Ao49 t319.length co49)) (fun _ hk => hk.2) (.slice Ao50 t322.length co50)) (fun _ hk => hk.2) (.int .i64 t325)) (fun _ hk => hk.2) (.bool t326)) (fun _ hk => hk.1.2)⟩, ⟨by (with_reducible repeat (first | apply Kd.R_alloc | apply Kd.R_drewN | apply Kd.R_drew)); exact Kd.R_mono (Kd.R_far (p := ⟨gb328, 5, none⟩) (Kd.R_far (p := ⟨gb328, 4, none⟩) (Kd.R_far (p := ⟨gb328, 3, none⟩) (Kd.R_far (p := ⟨gb328, 2, none⟩) (Kd.R_far (p := ⟨gb328, 1, none⟩) (Kd.R_far (p := ⟨gb328, 0, none⟩) (Kd.R_types HO321.out BK328.out (by decide)) (fun _ hk => hk.2) (.int .i64 t315)) (fun _ hk => hk.2) (.slice Ao48 t316.length co48)) (fun _ hk => hk.2) (.slice Ao49 t319.length co49)) (fun _ hk => hk.2) (.slice Ao50 t322.length co50)) (fun _ hk => hk.2) (.int .i64 t325)) (fun _ hk => hk.2) (.bool t326)) (fun _ hk => ⟨hk.1.1.2, ⟨hk.1.2, hk.1.1.1⟩⟩)⟩, ⟨by (with_reducible repeat (first | apply Kd.R_alloc | apply Kd.R_drewN | apply Kd.R_drew)); exact Kd.R_mono (Kd.R_far (p := ⟨gb328, 5, none⟩) (Kd.R_far (p := ⟨gb328, 4, none⟩) (Kd.R_far (p := ⟨gb328, 3, none⟩) (Kd.R_far (p := ⟨gb328, 2, none⟩) (Kd.R_far (p := ⟨gb328, 1, none⟩) (Kd.R_far (p := ⟨gb328, 0, none⟩) (Kd.R_types HO324.out BK328.out (by decide)) (fun _ hk => hk.2) (.int .i64 t315)) (fun _ hk => hk.2) (.slice Ao48 t316.length co48)) (fun _ hk => hk.2) (.slice Ao49 t319.length co49)) (fun _ hk => hk.2) (.slice Ao50 t322.length co50)) (fun _ hk => hk.2) (.int .i64 t325)) (fun _ hk => hk.2) (.bool t326)) (fun _ hk => ⟨hk.1.1.2, ⟨hk.1.2, hk.1.1.1⟩⟩)⟩, ⟨by (with_reducible repeat (first | refine blk_drewN ?_ _ | refine blk_drew ?_ | refine blk_alloc ?_ _)); refine blk_far ?_ NB301_328.out _; (with_reducible repeat (first | refine blk_drewN ?_ _ | refine blk_drew ?_ | refine blk_alloc ?_ _)); refine blk_far ?_ NB301_328.out _; (with_reducible repeat (first | refine blk_drewN ?_ _ | refine blk_drew ?_ | refine blk_alloc ?_ _)); refine blk_far ?_ NB301_328.out _; (with_reducible repeat (first | refine blk_drewN ?_ _ | refine blk_drew ?_ | refine blk_alloc ?_ _)); refine blk_far ?_ NB301_328.out _; (with_reducible repeat (first | refine blk_drewN ?_ _ | refine blk_drew ?_ | refine blk_alloc ?_ _)); refine blk_far ?_ NB301_328.out _; (with_reducible repeat (first | refine blk_drewN ?_ _ | refine blk_drew ?_ | refine blk_alloc ?_ _)); refine blk_far ?_ NB301_328.out _; (with_reducible repeat (first | refine blk_drewN ?_ _ | refine blk_drew ?_ | refine blk_alloc ?_ _)); exact BK301.out⟩, ⟨by (with_reducible repeat (first | refine blk_drewN ?_ _ | refine blk_drew ?_ | refine blk_alloc ?_ _)); refine blk_put (cs := #[.int .i64 t315, .slice Ao48 t316.length co48, .slice Ao49 t319.length co49, .slice Ao50 t322.length co50, .int .i64 t325, .bool false]) ?_ 5 _ rfl; (with_reducible repeat (first | refine blk_drewN ?_ _ | refine blk_drew ?_ | refine blk_alloc ?_ _)); refine blk_put (cs := #[.int .i64 t315, .slice Ao48 t316.length co48, .slice Ao49 t319.length co49, .slice Ao50 t322.length co50, .int .i64 0, .bool false]) ?_ 4 _ rfl; (with_reducible repeat (first | refine blk_drewN ?_ _ | refine blk_drew ?_ | refine blk_alloc ?_ _)); refine blk_put (cs := #[.int .i64 t315, .slice Ao48 t316.length co48, .slice Ao49 t319.length co49, .slice none 0 0, .int .i64 0, .bool false]) ?_ 3 _ rfl; (with_reducible repeat (first | refine blk_drewN ?_ _ | refine blk_drew ?_ | refine blk_alloc ?_ _)); refine blk_put (cs := #[.int .i64 t315, .slice Ao48 t316.length co48, .slice none 0 0, .slice none 0 0, .int .i64 0, .bool false]) ?_ 2 _ rfl; (with_reducible repeat (first | refine blk_drewN ?_ _ | refine blk_drew ?_ | refine blk_alloc ?_ _)); refine blk_put (cs := #[.int .i64 t315, .slice none 0 0, .slice none 0 0, .slice none 0 0, .int .i64 0, .bool false]) ?_ 1 _ rfl; (with_reducible repeat (first | refine blk_drewN ?_ _ | refine blk_drew ?_ | refine blk_alloc ?_ _)); refine blk_put (cs := #[.int .i64 0, .slice none 0 0, .slice none 0 0, .slice none 0 0, .int .i64 0, .bool false]) ?_ 0 _ rfl; (with_reducible repeat (first | refine blk_drewN ?_ _ | refine blk_drew ?_ | refine blk_alloc ?_ _)); exact BK328.out⟩, ⟨by repeat (first | (with_reducible first | exact HB.out | apply below_alloc | apply pw_below_drewN | apply below_drew1 | refine below_set ?_ GE301.out | refine below_set ?_ GE328.out) | exact HB.out)⟩⟩
         case rest =>
          clear HC39
          try clear c2
          try clear p2
          try clear c3
          try clear c4
          try clear c5
          try clear c6
          try clear p6
          try clear c7
          try clear c8
          try clear c9
          try clear c21
          try clear c21b0
          try clear c21b1
          try clear c22
          try clear c23
          try clear c23b0
          try clear c25
          try clear c25b0
          try clear c26
          try clear c26b0
          try clear c26b1
          try clear c33
          try clear c46
          try clear c51
          try clear c51b0
          try clear c51b1
          try clear c52
          try clear c52b0
          try clear c52b1
          try clear c53
          try clear hcz12_0
          try clear hcz12_1
          try clear hcz12_2
          try clear hcz12_3
          try clear hcz12_4
          try clear hcz12_5
          try clear hcz17_0
          try clear hcz17_1
          try clear hcz17_2
          try clear hcz17_3
          try clear hcz17_4
          try clear hcz17_5
          try clear hcz27_0
          try clear hcz27_1
          try clear hcz27_2
          try clear hcz27_3
          try clear hcz27_4
          try clear hcz27_5
          try clear hcz34_0
          try clear hcz34_1
          try clear hcz34_2
          try clear hcz34_3
          try clear hcz34_4
          try clear hcz34_5
          try clear hcz38_0
          try clear hcz38_1
          try clear hcz38_2
          try clear hcz38_3
          try clear hcz38_4
          try clear hcz38_5
          try clear hcz40_0
          try clear hcz40_1
          try clear hcz40_2
          try clear hcz40_3
          try clear hcz40_4
          try clear hcz40_5
          try clear hcz47_0
          try clear hcz47_1
          try clear hcz47_2
          try clear hcz47_3
          try clear hcz47_4
          try clear hcz47_5
          try clear hcz54_0
          try clear hcz54_1
          try clear hcz54_2
          try clear hcz54_3
          try clear hcz54_4
          try clear hcz54_5
          try clear hfz12_0
          try clear hfz12_1
          try clear hfz12_2
          try clear hfz12_3
          try clear hfz12_4
          try clear hfz12_5
          try clear hfz17_0
          try clear hfz17_1
          try clear hfz17_2
          try clear hfz17_3
          try clear hfz17_4
          try clear hfz17_5
          try clear hfz27_0
          try clear hfz27_1
          try clear hfz27_2
          try clear hfz27_3
          try clear hfz27_4
          try clear hfz27_5
          try clear hfz34_0
          try clear hfz34_1
          try clear hfz34_2
          try clear hfz34_3
          try clear hfz34_4
          try clear hfz34_5
          try clear hfz38_0
          try clear hfz38_1
          try clear hfz38_2
          try clear hfz38_3
          try clear hfz38_4
          try clear hfz38_5
          try clear hfz40_0
          try clear hfz40_1
          try clear hfz40_2
          try clear hfz40_3
          try clear hfz40_4
          try clear hfz40_5
          try clear hfz47_0
          try clear hfz47_1
          try clear hfz47_2
          try clear hfz47_3
          try clear hfz47_4
          try clear hfz47_5
          try clear hfz54_0
          try clear hfz54_1
          try clear hfz54_2
          try clear hfz54_3
          try clear hfz54_4
          try clear hfz54_5
          try clear p2
          try clear p6
          obtain ⟨kq, x78_38, rfl, HA, HJ38, HO_302001, HO_302002, HO_302003, HO_329001, HO_329002, HO_329003, BK301, BK328, HB⟩ := hcut
          cases kq with
          | zero => exact absurd HA.out (by simp [storagebarterlaw10_DeviceFuses.j2])
          | succ kj38 =>
           have H := HA.out
           clear HA
           simp only [storagebarterlaw10_DeviceFuses.j2] at H
           by_cases c55 : x78_38 = true
           ·subst c55
            have H1 : (none) = some r := by rw [if_pos rfl] at H; exact H
            clear H
            have H := H1
            clear H1
            exact absurd H (by simp)
           ·replace c55 := Bool.eq_false_iff.mpr c55
            subst c55
            have H1 : (if x11_2 = (wrap64 ((wrap64 (1 + (wrap64 (Int.tmod a0 20)))) - 1)) then (storagebarterlaw10_DeviceFuses.l0 kj38 a1 (wrap64 (1 + (wrap64 (Int.tmod a0 20)))) (wrap64 (x11_2 + 1)) t315 t316 t319 t322 t325 t326) else (storagebarterlaw10_DeviceFuses.l0 kj38 a1 (wrap64 (1 + (wrap64 (Int.tmod a0 20)))) (wrap64 (x11_2 + 1)) x302000_2 x302001_2 x302002_2 x302003_2 x302004_2 x302005_2)) = some r := by rw [if_neg (show ¬ (false = true) by decide)] at H; exact H
            clear H
            have H := H1
            clear H1
            by_cases c56 : x11_2 = (wrap64 ((wrap64 (1 + (wrap64 (Int.tmod a0 20)))) - 1))
            ·rw [if_pos c56] at H
             have c56b0 : (x11_2 == (wrap64 ((wrap64 (1 + (wrap64 (Int.tmod a0 20)))) - 1))) = true := beq_iff_eq.mpr c56
             have c56b1 : (x11_2 != (wrap64 ((wrap64 (1 + (wrap64 (Int.tmod a0 20)))) - 1))) = false := bne_eq_false_iff_eq.mpr c56
             clear c56
             have H' := Aside0.mk H
             clear H
             have hnb57 := NB328_301.out
             have hnc57 := NB301_328.out
             have hcz58_0 : wc.cell? ⟨gb328, 0, none⟩ = some (.int .i64 t315) := (blk_cell BK328.out 0).trans rfl
             have hcz58_1 : wc.cell? ⟨gb328, 1, none⟩ = some (.slice Ao48 t316.length co48) := (blk_cell BK328.out 1).trans rfl
             have hcz58_2 : wc.cell? ⟨gb328, 2, none⟩ = some (.slice Ao49 t319.length co49) := (blk_cell BK328.out 2).trans rfl
             have hcz58_3 : wc.cell? ⟨gb328, 3, none⟩ = some (.slice Ao50 t322.length co50) := (blk_cell BK328.out 3).trans rfl
             have hcz58_4 : wc.cell? ⟨gb328, 4, none⟩ = some (.int .i64 t325) := (blk_cell BK328.out 4).trans rfl
             have hcz58_5 : wc.cell? ⟨gb328, 5, none⟩ = some (.bool t326) := (blk_cell BK328.out 5).trans rfl
             have hfz58_0 := blk_frozen BK328.out 0
             have hfz58_1 := blk_frozen BK328.out 1
             have hfz58_2 := blk_frozen BK328.out 2
             have hfz58_3 := blk_frozen BK328.out 3
             have hfz58_4 := blk_frozen BK328.out 4
             have hfz58_5 := blk_frozen BK328.out 5
             have hcz59_0 : wc.cell? ⟨gb301, 0, none⟩ = some (.int .i64 x302000_2) := (blk_cell BK301.out 0).trans rfl
             have hcz59_1 : wc.cell? ⟨gb301, 1, none⟩ = some (.slice Ao41 x302001_2.length co41) := (blk_cell BK301.out 1).trans rfl
             have hcz59_2 : wc.cell? ⟨gb301, 2, none⟩ = some (.slice Ao42 x302002_2.length co42) := (blk_cell BK301.out 2).trans rfl
             have hcz59_3 : wc.cell? ⟨gb301, 3, none⟩ = some (.slice Ao43 x302003_2.length co43) := (blk_cell BK301.out 3).trans rfl
             have hcz59_4 : wc.cell? ⟨gb301, 4, none⟩ = some (.int .i64 x302004_2) := (blk_cell BK301.out 4).trans rfl
             have hcz59_5 : wc.cell? ⟨gb301, 5, none⟩ = some (.bool x302005_2) := (blk_cell BK301.out 5).trans rfl
             have hfz59_0 := blk_frozen BK301.out 0
             have hfz59_1 := blk_frozen BK301.out 1
             have hfz59_2 := blk_frozen BK301.out 2
             have hfz59_3 := blk_frozen BK301.out 3
             have hfz59_4 := blk_frozen BK301.out 4
             have hfz59_5 := blk_frozen BK301.out 5
             go_wp2
             go_roundg kj38
             case measure => have := HJ7.out; have := HK2.out; have := HJ38.out; omega
             case rel => exact ⟨(wrap64 (x11_2 + 1)), (t315), (t316), (t319), (t322), (t325), (t326), (.slice Ao48 t316.length co48), (.slice Ao49 t319.length co49), (.slice Ao50 t322.length co50), (by first | rfl | (simp; done) | (simp [*]; done)), H', ⟨by have := HJ7.out; have := HK2.out; have := HJ38.out; omega⟩, ⟨by (with_reducible repeat (first | apply Kd.R_alloc | apply Kd.R_drewN | apply Kd.R_drew)); exact Kd.R_mono (Kd.R_far (p := ⟨gb301, 5, none⟩) (Kd.R_far (p := ⟨gb301, 4, none⟩) (Kd.R_far (p := ⟨gb301, 3, none⟩) (Kd.R_far (p := ⟨gb301, 2, none⟩) (Kd.R_far (p := ⟨gb301, 1, none⟩) (Kd.R_far (p := ⟨gb301, 0, none⟩) (Kd.R_types HO_329001.out BK301.out (by decide)) (fun _ hk => hk.2) (.int .i64 t315)) (fun _ hk => hk.2) (.slice Ao48 t316.length co48)) (fun _ hk => hk.2) (.slice Ao49 t319.length co49)) (fun _ hk => hk.2) (.slice Ao50 t322.length co50)) (fun _ hk => hk.2) (.int .i64 t325)) (fun _ hk => hk.2) (.bool t326)) (fun _ hk => trivial)⟩, ⟨by (with_reducible repeat (first | apply Kd.R_alloc | apply Kd.R_drewN | apply Kd.R_drew)); exact Kd.R_mono (Kd.R_far (p := ⟨gb301, 5, none⟩) (Kd.R_far (p := ⟨gb301, 4, none⟩) (Kd.R_far (p := ⟨gb301, 3, none⟩) (Kd.R_far (p := ⟨gb301, 2, none⟩) (Kd.R_far (p := ⟨gb301, 1, none⟩) (Kd.R_far (p := ⟨gb301, 0, none⟩) (Kd.R_types HO_329002.out BK301.out (by decide)) (fun _ hk => hk.2) (.int .i64 t315)) (fun _ hk => hk.2) (.slice Ao48 t316.length co48)) (fun _ hk => hk.2) (.slice Ao49 t319.length co49)) (fun _ hk => hk.2) (.slice Ao50 t322.length co50)) (fun _ hk => hk.2) (.int .i64 t325)) (fun _ hk => hk.2) (.bool t326)) (fun _ hk => hk.1.2.2)⟩, ⟨by (with_reducible repeat (first | apply Kd.R_alloc | apply Kd.R_drewN | apply Kd.R_drew)); exact Kd.R_mono (Kd.R_far (p := ⟨gb301, 5, none⟩) (Kd.R_far (p := ⟨gb301, 4, none⟩) (Kd.R_far (p := ⟨gb301, 3, none⟩) (Kd.R_far (p := ⟨gb301, 2, none⟩) (Kd.R_far (p := ⟨gb301, 1, none⟩) (Kd.R_far (p := ⟨gb301, 0, none⟩) (Kd.R_types HO_329003.out BK301.out (by decide)) (fun _ hk => hk.2) (.int .i64 t315)) (fun _ hk => hk.2) (.slice Ao48 t316.length co48)) (fun _ hk => hk.2) (.slice Ao49 t319.length co49)) (fun _ hk => hk.2) (.slice Ao50 t322.length co50)) (fun _ hk => hk.2) (.int .i64 t325)) (fun _ hk => hk.2) (.bool t326)) (fun _ hk => hk.1.2.2)⟩, ⟨by (with_reducible repeat (first | refine blk_drewN ?_ _ | refine blk_drew ?_ | refine blk_alloc ?_ _)); refine blk_put (cs := #[.int .i64 t315, .slice Ao48 t316.length co48, .slice Ao49 t319.length co49, .slice Ao50 t322.length co50, .int .i64 t325, .bool x302005_2]) ?_ 5 _ rfl; (with_reducible repeat (first | refine blk_drewN ?_ _ | refine blk_drew ?_ | refine blk_alloc ?_ _)); refine blk_put (cs := #[.int .i64 t315, .slice Ao48 t316.length co48, .slice Ao49 t319.length co49, .slice Ao50 t322.length co50, .int .i64 x302004_2, .bool x302005_2]) ?_ 4 _ rfl; (with_reducible repeat (first | refine blk_drewN ?_ _ | refine blk_drew ?_ | refine blk_alloc ?_ _)); refine blk_put (cs := #[.int .i64 t315, .slice Ao48 t316.length co48, .slice Ao49 t319.length co49, .slice Ao43 x302003_2.length co43, .int .i64 x302004_2, .bool x302005_2]) ?_ 3 _ rfl; (with_reducible repeat (first | refine blk_drewN ?_ _ | refine blk_drew ?_ | refine blk_alloc ?_ _)); refine blk_put (cs := #[.int .i64 t315, .slice Ao48 t316.length co48, .slice Ao42 x302002_2.length co42, .slice Ao43 x302003_2.length co43, .int .i64 x302004_2, .bool x302005_2]) ?_ 2 _ rfl; (with_reducible repeat (first | refine blk_drewN ?_ _ | refine blk_drew ?_ | refine blk_alloc ?_ _)); refine blk_put (cs := #[.int .i64 t315, .slice Ao41 x302001_2.length co41, .slice Ao42 x302002_2.length co42, .slice Ao43 x302003_2.length co43, .int .i64 x302004_2, .bool x302005_2]) ?_ 1 _ rfl; (with_reducible repeat (first | refine blk_drewN ?_ _ | refine blk_drew ?_ | refine blk_alloc ?_ _)); refine blk_put (cs := #[.int .i64 x302000_2, .slice Ao41 x302001_2.length co41, .slice Ao42 x302002_2.length co42, .slice Ao43 x302003_2.length co43, .int .i64 x302004_2, .bool x302005_2]) ?_ 0 _ rfl; (with_reducible repeat (first | refine blk_drewN ?_ _ | refine blk_drew ?_ | refine blk_alloc ?_ _)); exact BK301.out⟩, ⟨by repeat (first | (with_reducible first | exact HB.out | apply below_alloc | apply pw_below_drewN | apply below_drew1 | refine below_set ?_ GE301.out | refine below_set ?_ GE328.out) | exact HB.out)⟩⟩
            ·rw [if_neg c56] at H
             have c56b0 : (x11_2 == (wrap64 ((wrap64 (1 + (wrap64 (Int.tmod a0 20)))) - 1))) = false := beq_eq_false_iff_ne.mpr c56
             have c56b1 : (x11_2 != (wrap64 ((wrap64 (1 + (wrap64 (Int.tmod a0 20)))) - 1))) = true := bne_iff_ne.mpr c56
             have H' := Aside0.mk H
             clear H
             go_wp2
             go_roundg kj38
             case measure => have := HJ7.out; have := HK2.out; have := HJ38.out; omega
             case rel => exact ⟨(wrap64 (x11_2 + 1)), (x302000_2), (x302001_2), (x302002_2), (x302003_2), (x302004_2), (x302005_2), (.slice Ao41 x302001_2.length co41), (.slice Ao42 x302002_2.length co42), (.slice Ao43 x302003_2.length co43), (by first | rfl | (simp; done) | (simp [*]; done)), H', ⟨by have := HJ7.out; have := HK2.out; have := HJ38.out; omega⟩, ⟨by (with_reducible repeat (first | apply Kd.R_alloc | apply Kd.R_drewN | apply Kd.R_drew)); exact Kd.R_mono HO_302001.out (fun _ hk => trivial)⟩, ⟨by (with_reducible repeat (first | apply Kd.R_alloc | apply Kd.R_drewN | apply Kd.R_drew)); exact Kd.R_mono HO_302002.out (fun _ hk => hk.1)⟩, ⟨by (with_reducible repeat (first | apply Kd.R_alloc | apply Kd.R_drewN | apply Kd.R_drew)); exact Kd.R_mono HO_302003.out (fun _ hk => hk.1)⟩, ⟨by (with_reducible repeat (first | refine blk_drewN ?_ _ | refine blk_drew ?_ | refine blk_alloc ?_ _)); exact BK301.out⟩, ⟨by repeat (first | (with_reducible first | exact HB.out | apply below_alloc | apply pw_below_drewN | apply below_drew1 | refine below_set ?_ GE301.out | refine below_set ?_ GE328.out) | exact HB.out)⟩⟩
       ·rw [if_neg c23] at H
        have c23b0 : decide (x11_2 < (wrap64 ((wrap64 (1 + (wrap64 (Int.tmod a0 20)))) + (wrap64 (Int.tmod a1 10))))) = false := decide_eq_false c23
        clear c23
        replace H := Option.bind_eq_some_iff.mp H
        obtain ⟨⟨t329, t330, t333, t336, t339, t340, t341⟩, A600, H⟩ := H
        replace H : (storagebarterlaw10_DeviceFuses.l1 k2 (wrap64 (1 + (wrap64 (Int.tmod a0 20)))) t341 0 t329 t330 t333 t336 t339 t340) = some r := H
        have A60 := Aside0.mk A600
        clear A600
        have H' := Aside0.mk H
        clear H
        have hcz61_0 : wr.cell? ⟨gb301, 0, none⟩ = some (.int .i64 x302000_2) := (blk_cell BK301.out 0).trans rfl
        have hcz61_1 : wr.cell? ⟨gb301, 1, none⟩ = some (u302001) := (blk_cell BK301.out 1).trans rfl
        have hcz61_2 : wr.cell? ⟨gb301, 2, none⟩ = some (u302002) := (blk_cell BK301.out 2).trans rfl
        have hcz61_3 : wr.cell? ⟨gb301, 3, none⟩ = some (u302003) := (blk_cell BK301.out 3).trans rfl
        have hcz61_4 : wr.cell? ⟨gb301, 4, none⟩ = some (.int .i64 x302004_2) := (blk_cell BK301.out 4).trans rfl
        have hcz61_5 : wr.cell? ⟨gb301, 5, none⟩ = some (.bool x302005_2) := (blk_cell BK301.out 5).trans rfl
        have hfz61_0 := blk_frozen BK301.out 0
        have hfz61_1 := blk_frozen BK301.out 1
        have hfz61_2 := blk_frozen BK301.out 2
        have hfz61_3 := blk_frozen BK301.out 3
        have hfz61_4 := blk_frozen BK301.out 4
        have hfz61_5 := blk_frozen BK301.out 5
        obtain ⟨Ao62, co62, eo62⟩ := Kd.R_slice HO_302001.out
        subst eo62
        obtain ⟨Ao63, co63, eo63⟩ := Kd.R_slice HO_302002.out
        subst eo63
        obtain ⟨Ao64, co64, eo64⟩ := Kd.R_slice HO_302003.out
        subst eo64
        go_wp2_with (first | ((with_reducible refine gate_callee (f := 10) rfl ?_); refine goesL_ (some 86) rfl rfl Try.func10 (by kernel_rfl) rfl #[.agg #[.int .i64 x302000_2, .slice Ao62 x302001_2.length co62, .slice Ao63 x302002_2.length co63, .slice Ao64 x302003_2.length co64, .int .i64 x302004_2, .bool x302005_2]] rfl (by (try simp only [List.map_toArray, List.map_cons, List.map_nil]); first | done | rfl | (simp only [List.length_drop, List.length_take]; rfl)) ?_; (with_reducible refine (device_Start.calls k2 x302000_2 _ _ x302001_2 _ _ x302002_2 _ _ x302003_2 x302004_2 x302005_2 t329 t330 t333 t336 t339 t340 t341 _ ?side1 ?side2 ?side3 ?side4 ?side5 ?side6 A60.out).mono ?_); (case side1 => repeat (first | exact (Kd.R_reads' HO_302001.out).2.2 | (with_reducible refine Kd.C_alloc ?_ _) | (with_reducible refine Kd.C_drewN ?_ _) | (with_reducible refine Kd.C_drew ?_))); (case side2 => exact (Kd.R_reads' HO_302001.out).2.1); (case side3 => repeat (first | exact (Kd.R_reads' HO_302002.out).2.2 | (with_reducible refine Kd.C_alloc ?_ _) | (with_reducible refine Kd.C_drewN ?_ _) | (with_reducible refine Kd.C_drew ?_))); (case side4 => exact (Kd.R_reads' HO_302002.out).2.1); (case side5 => repeat (first | exact (Kd.R_reads' HO_302003.out).2.2 | (with_reducible refine Kd.C_alloc ?_ _) | (with_reducible refine Kd.C_drewN ?_ _) | (with_reducible refine Kd.C_drew ?_))); (case side6 => exact (Kd.R_reads' HO_302003.out).2.1); rintro e w65 ⟨v331, v334, v337, rfl, ho0, ho1, ho2, hb⟩; refine ⟨_, rfl, ?_⟩; have n0_ := Aside0.mk (Kd.R_elder' (by (with_reducible repeat (first | apply Kd.R_alloc | apply Kd.R_drewN | apply Kd.R_drew)); exact HO_302001.out) (Kd.R_base ho0) hb); have n1_ := Aside0.mk (Kd.R_mono (Kd.R_told (Kd.R_told (Kd.R_old (by (with_reducible repeat (first | apply Kd.R_alloc | apply Kd.R_drewN | apply Kd.R_drew)); exact HO_302002.out) hb) (Kd.R_base ho1)) (Kd.R_base ho2)) (fun _ h_ => h_.1)); have n2_ := Aside0.mk (Kd.R_mono (Kd.R_told (Kd.R_told (Kd.R_old (by (with_reducible repeat (first | apply Kd.R_alloc | apply Kd.R_drewN | apply Kd.R_drew)); exact HO_302003.out) hb) (Kd.R_base ho1)) (Kd.R_base ho2)) (fun _ h_ => h_.1)); have n3_ := Aside0.mk (Kd.R_lower (Kd.R_new' ho0 (Kd.R_lt (by (with_reducible repeat (first | apply Kd.R_alloc | apply Kd.R_drewN | apply Kd.R_drew)); exact HO_302001.out))) (below_size (by repeat (first | (with_reducible first | exact HB.out | apply below_alloc | apply pw_below_drewN | apply below_drew1 | refine below_set ?_ GE301.out) | exact HB.out)))); have n4_ := Aside0.mk (Kd.R_lower (Kd.R_new' (Kd.R_new' ho1 (Kd.R_lt (by (with_reducible repeat (first | apply Kd.R_alloc | apply Kd.R_drewN | apply Kd.R_drew)); exact HO_302002.out))) (Kd.R_lt (by (with_reducible repeat (first | apply Kd.R_alloc | apply Kd.R_drewN | apply Kd.R_drew)); exact HO_302003.out))) (below_size (by repeat (first | (with_reducible first | exact HB.out | apply below_alloc | apply pw_below_drewN | apply below_drew1 | refine below_set ?_ GE301.out) | exact HB.out)))); have n5_ := Aside0.mk (Kd.R_lower (Kd.R_new' (Kd.R_new' ho2 (Kd.R_lt (by (with_reducible repeat (first | apply Kd.R_alloc | apply Kd.R_drewN | apply Kd.R_drew)); exact HO_302002.out))) (Kd.R_lt (by (with_reducible repeat (first | apply Kd.R_alloc | apply Kd.R_drewN | apply Kd.R_drew)); exact HO_302003.out))) (below_size (by repeat (first | (with_reducible first | exact HB.out | apply below_alloc | apply pw_below_drewN | apply below_drew1 | refine below_set ?_ GE301.out) | exact HB.out)))); have n6_ := Aside0.mk (blk_below (g := gb301) (o := .cells #[.int .i64 x302000_2, .slice Ao62 x302001_2.length co62, .slice Ao63 x302002_2.length co63, .slice Ao64 x302003_2.length co64, .int .i64 x302004_2, .bool x302005_2] 26 (0, 0)) (by (with_reducible repeat (first | refine blk_drewN ?_ _ | refine blk_drew ?_ | refine blk_alloc ?_ _)); exact BK301.out) hb); have n7_ := Aside0.mk (below_step (by repeat (first | (with_reducible first | exact HB.out | apply below_alloc | apply pw_below_drewN | apply below_drew1 | refine below_set ?_ GE301.out) | exact HB.out)) hb); clear HO_302001; clear HO_302002; clear HO_302003; clear BK301; clear HB; have HO_302001 := n0_; have HO_302002 := n1_; have HO_302003 := n2_; have HO332 := n3_; have HO335 := n4_; have HO338 := n5_; have BK301 := n6_; have HB := n7_; clear n0_ n1_ n2_ n3_ n4_ n5_ n6_ n7_; (try clear hb); (try clear hb2); (try clear hk); (try clear hi); (try clear ho0); (try clear ho1); (try clear ho2); have hcz66_0 : w65.cell? ⟨gb301, 0, none⟩ = some (.int .i64 x302000_2) := (blk_cell BK301.out 0).trans rfl; have hcz66_1 : w65.cell? ⟨gb301, 1, none⟩ = some (.slice Ao62 x302001_2.length co62) := (blk_cell BK301.out 1).trans rfl; have hcz66_2 : w65.cell? ⟨gb301, 2, none⟩ = some (.slice Ao63 x302002_2.length co63) := (blk_cell BK301.out 2).trans rfl; have hcz66_3 : w65.cell? ⟨gb301, 3, none⟩ = some (.slice Ao64 x302003_2.length co64) := (blk_cell BK301.out 3).trans rfl; have hcz66_4 : w65.cell? ⟨gb301, 4, none⟩ = some (.int .i64 x302004_2) := (blk_cell BK301.out 4).trans rfl; have hcz66_5 : w65.cell? ⟨gb301, 5, none⟩ = some (.bool x302005_2) := (blk_cell BK301.out 5).trans rfl; have hfz66_0 := blk_frozen BK301.out 0; have hfz66_1 := blk_frozen BK301.out 1; have hfz66_2 := blk_frozen BK301.out 2; have hfz66_3 := blk_frozen BK301.out 3; have hfz66_4 := blk_frozen BK301.out 4; have hfz66_5 := blk_frozen BK301.out 5; obtain ⟨Ao67, co67, eo67⟩ := Kd.R_slice HO332.out; subst eo67; obtain ⟨Ao68, co68, eo68⟩ := Kd.R_slice HO335.out; subst eo68; obtain ⟨Ao69, co69, eo69⟩ := Kd.R_slice HO338.out; subst eo69))
        go_loopg [15] k2 (fun kq v15 w' => ∃ (x15_3 : Int), v15 = .int .i64 x15_3 ∧ Aside0 (storagebarterlaw10_DeviceFuses.l1 kq (wrap64 (1 + (wrap64 (Int.tmod a0 20)))) t341 x15_3 t329 t330 t333 t336 t339 t340 = some r) ∧ Aside0 (kq ≤ k2) ∧ Aside0 (Kd.R Kd.string 9 w' w.heap.size (fun _ => True) (.slice Ao67 t330.length co67) t330) ∧ Aside0 (Kd.R (Kd.int .i64) 3 w' w.heap.size (fun k_ => some k_ ≠ ((.slice Ao69 t336.length co69) : Value).ownBlock) (.slice Ao68 t333.length co68) t333) ∧ Aside0 (Kd.R (Kd.int .i64) 3 w' w.heap.size (fun k_ => some k_ ≠ ((.slice Ao68 t333.length co68) : Value).ownBlock) (.slice Ao69 t336.length co69) t336) ∧ Aside0 (w'.heap[gb301]? = some (.cells #[.int .i64 t329, (.slice Ao67 t330.length co67), (.slice Ao68 t333.length co68), (.slice Ao69 t336.length co69), .int .i64 t339, .bool t340] 26 (0, 0))) ∧ Aside0 (Below w.heap.size w w'))
        case atStart => exact ⟨(0), (by first | rfl | (simp; done) | (simp [*]; done)), H', ⟨Nat.le_refl _⟩, ⟨by (with_reducible repeat (first | apply Kd.R_alloc | apply Kd.R_drewN | apply Kd.R_drew)); exact Kd.R_mono (Kd.R_far (p := ⟨gb301, 5, none⟩) (Kd.R_far (p := ⟨gb301, 4, none⟩) (Kd.R_far (p := ⟨gb301, 3, none⟩) (Kd.R_far (p := ⟨gb301, 2, none⟩) (Kd.R_far (p := ⟨gb301, 1, none⟩) (Kd.R_far (p := ⟨gb301, 0, none⟩) (Kd.R_types HO332.out BK301.out (by decide)) (fun _ hk => hk.2) (.int .i64 t329)) (fun _ hk => hk.2) (.slice Ao67 t330.length co67)) (fun _ hk => hk.2) (.slice Ao68 t333.length co68)) (fun _ hk => hk.2) (.slice Ao69 t336.length co69)) (fun _ hk => hk.2) (.int .i64 t339)) (fun _ hk => hk.2) (.bool t340)) (fun _ hk => trivial)⟩, ⟨by (with_reducible repeat (first | apply Kd.R_alloc | apply Kd.R_drewN | apply Kd.R_drew)); exact Kd.R_mono (Kd.R_far (p := ⟨gb301, 5, none⟩) (Kd.R_far (p := ⟨gb301, 4, none⟩) (Kd.R_far (p := ⟨gb301, 3, none⟩) (Kd.R_far (p := ⟨gb301, 2, none⟩) (Kd.R_far (p := ⟨gb301, 1, none⟩) (Kd.R_far (p := ⟨gb301, 0, none⟩) (Kd.R_types HO335.out BK301.out (by decide)) (fun _ hk => hk.2) (.int .i64 t329)) (fun _ hk => hk.2) (.slice Ao67 t330.length co67)) (fun _ hk => hk.2) (.slice Ao68 t333.length co68)) (fun _ hk => hk.2) (.slice Ao69 t336.length co69)) (fun _ hk => hk.2) (.int .i64 t339)) (fun _ hk => hk.2) (.bool t340)) (fun _ hk => hk.1.1.1)⟩, ⟨by (with_reducible repeat (first | apply Kd.R_alloc | apply Kd.R_drewN | apply Kd.R_drew)); exact Kd.R_mono (Kd.R_far (p := ⟨gb301, 5, none⟩) (Kd.R_far (p := ⟨gb301, 4, none⟩) (Kd.R_far (p := ⟨gb301, 3, none⟩) (Kd.R_far (p := ⟨gb301, 2, none⟩) (Kd.R_far (p := ⟨gb301, 1, none⟩) (Kd.R_far (p := ⟨gb301, 0, none⟩) (Kd.R_types HO338.out BK301.out (by decide)) (fun _ hk => hk.2) (.int .i64 t329)) (fun _ hk => hk.2) (.slice Ao67 t330.length co67)) (fun _ hk => hk.2) (.slice Ao68 t333.length co68)) (fun _ hk => hk.2) (.slice Ao69 t336.length co69)) (fun _ hk => hk.2) (.int .i64 t339)) (fun _ hk => hk.2) (.bool t340)) (fun _ hk => hk.1.1.1)⟩, ⟨by (with_reducible repeat (first | refine blk_drewN ?_ _ | refine blk_drew ?_ | refine blk_alloc ?_ _)); refine blk_put (cs := #[.int .i64 t329, .slice Ao67 t330.length co67, .slice Ao68 t333.length co68, .slice Ao69 t336.length co69, .int .i64 t339, .bool x302005_2]) ?_ 5 _ rfl; (with_reducible repeat (first | refine blk_drewN ?_ _ | refine blk_drew ?_ | refine blk_alloc ?_ _)); refine blk_put (cs := #[.int .i64 t329, .slice Ao67 t330.length co67, .slice Ao68 t333.length co68, .slice Ao69 t336.length co69, .int .i64 x302004_2, .bool x302005_2]) ?_ 4 _ rfl; (with_reducible repeat (first | refine blk_drewN ?_ _ | refine blk_drew ?_ | refine blk_alloc ?_ _)); refine blk_put (cs := #[.int .i64 t329, .slice Ao67 t330.length co67, .slice Ao68 t333.length co68, .slice Ao64 x302003_2.length co64, .int .i64 x302004_2, .bool x302005_2]) ?_ 3 _ rfl; (with_reducible repeat (first | refine blk_drewN ?_ _ | refine blk_drew ?_ | refine blk_alloc ?_ _)); refine blk_put (cs := #[.int .i64 t329, .slice Ao67 t330.length co67, .slice Ao63 x302002_2.length co63, .slice Ao64 x302003_2.length co64, .int .i64 x302004_2, .bool x302005_2]) ?_ 2 _ rfl; (with_reducible repeat (first | refine blk_drewN ?_ _ | refine blk_drew ?_ | refine blk_alloc ?_ _)); refine blk_put (cs := #[.int .i64 t329, .slice Ao62 x302001_2.length co62, .slice Ao63 x302002_2.length co63, .slice Ao64 x302003_2.length co64, .int .i64 x302004_2, .bool x302005_2]) ?_ 1 _ rfl; (with_reducible repeat (first | refine blk_drewN ?_ _ | refine blk_drew ?_ | refine blk_alloc ?_ _)); refine blk_put (cs := #[.int .i64 x302000_2, .slice Ao62 x302001_2.length co62, .slice Ao63 x302002_2.length co63, .slice Ao64 x302003_2.length co64, .int .i64 x302004_2, .bool x302005_2]) ?_ 0 _ rfl; (with_reducible repeat (first | refine blk_drewN ?_ _ | refine blk_drew ?_ | refine blk_alloc ?_ _)); exact BK301.out⟩, ⟨by repeat (first | (with_reducible first | exact HB.out | apply below_alloc | apply pw_below_drewN | apply below_drew1 | refine below_set ?_ GE301.out) | exact HB.out)⟩⟩
        case round =>
         clear H'
         try clear c1
         try clear c2
         try clear p2
         try clear c3
         try clear c4
         try clear c5
         try clear c6
         try clear p6
         try clear c7
         try clear c8
         try clear c9
         try clear c10
         try clear c21
         try clear c21b0
         try clear c21b1
         try clear c22
         try clear c23
         try clear c23b0
         try clear c25
         try clear c25b0
         try clear c26
         try clear c26b0
         try clear c26b1
         try clear c33
         try clear c46
         try clear c51
         try clear c51b0
         try clear c51b1
         try clear c52
         try clear c52b0
         try clear c52b1
         try clear c53
         try clear c55
         try clear c56
         try clear c56b0
         try clear c56b1
         try clear c57
         try clear p64
         try clear hcz12_0
         try clear hcz12_1
         try clear hcz12_2
         try clear hcz12_3
         try clear hcz12_4
         try clear hcz12_5
         try clear hcz17_0
         try clear hcz17_1
         try clear hcz17_2
         try clear hcz17_3
         try clear hcz17_4
         try clear hcz17_5
         try clear hcz27_0
         try clear hcz27_1
         try clear hcz27_2
         try clear hcz27_3
         try clear hcz27_4
         try clear hcz27_5
         try clear hcz34_0
         try clear hcz34_1
         try clear hcz34_2
         try clear hcz34_3
         try clear hcz34_4
         try clear hcz34_5
         try clear hcz38_0
         try clear hcz38_1
         try clear hcz38_2
         try clear hcz38_3
         try clear hcz38_4
         try clear hcz38_5
         try clear hcz40_0
         try clear hcz40_1
         try clear hcz40_2
         try clear hcz40_3
         try clear hcz40_4
         try clear hcz40_5
         try clear hcz47_0
         try clear hcz47_1
         try clear hcz47_2
         try clear hcz47_3
         try clear hcz47_4
         try clear hcz47_5
         try clear hcz54_0
         try clear hcz54_1
         try clear hcz54_2
         try clear hcz54_3
         try clear hcz54_4
         try clear hcz54_5
         try clear hcz58_0
         try clear hcz58_1
         try clear hcz58_2
         try clear hcz58_3
         try clear hcz58_4
         try clear hcz58_5
         try clear hcz59_0
         try clear hcz59_1
         try clear hcz59_2
         try clear hcz59_3
         try clear hcz59_4
         try clear hcz59_5
         try clear hcz61_0
         try clear hcz61_1
         try clear hcz61_2
         try clear hcz61_3
         try clear hcz61_4
         try clear hcz61_5
         try clear hcz66_0
         try clear hcz66_1
         try clear hcz66_2
         try clear hcz66_3
         try clear hcz66_4
         try clear hcz66_5
         try clear hfz12_0
         try clear hfz12_1
         try clear hfz12_2
         try clear hfz12_3
         try clear hfz12_4
         try clear hfz12_5
         try clear hfz17_0
         try clear hfz17_1
         try clear hfz17_2
         try clear hfz17_3
         try clear hfz17_4
         try clear hfz17_5
         try clear hfz27_0
         try clear hfz27_1
         try clear hfz27_2
         try clear hfz27_3
         try clear hfz27_4
         try clear hfz27_5
         try clear hfz34_0
         try clear hfz34_1
         try clear hfz34_2
         try clear hfz34_3
         try clear hfz34_4
         try clear hfz34_5
         try clear hfz38_0
         try clear hfz38_1
         try clear hfz38_2
         try clear hfz38_3
         try clear hfz38_4
         try clear hfz38_5
         try clear hfz40_0
         try clear hfz40_1
         try clear hfz40_2
         try clear hfz40_3
         try clear hfz40_4
         try clear hfz40_5
         try clear hfz47_0
         try clear hfz47_1
         try clear hfz47_2
         try clear hfz47_3
         try clear hfz47_4
         try clear hfz47_5
         try clear hfz54_0
         try clear hfz54_1
         try clear hfz54_2
         try clear hfz54_3
         try clear hfz54_4
         try clear hfz54_5
         try clear hfz58_0
         try clear hfz58_1
         try clear hfz58_2
         try clear hfz58_3
         try clear hfz58_4
         try clear hfz58_5
         try clear hfz59_0
         try clear hfz59_1
         try clear hfz59_2
         try clear hfz59_3
         try clear hfz59_4
         try clear hfz59_5
         try clear hfz61_0
         try clear hfz61_1
         try clear hfz61_2
         try clear hfz61_3
         try clear hfz61_4
         try clear hfz61_5
         try clear hfz66_0
         try clear hfz66_1
         try clear hfz66_2
         try clear hfz66_3
         try clear hfz66_4
         try clear hfz66_5
         try clear p2
         try clear p6
         obtain ⟨x15_3, rfl, HA, HK3, HO_302001, HO_302002, HO_302003, BK301, HB⟩ := hrel
         cases gk with
         | zero => exact absurd HA.out (by simp [storagebarterlaw10_DeviceFuses.l1])
         | succ k3 =>
          have H := HA.out
          clear HA
          simp only [storagebarterlaw10_DeviceFuses.l1] at H
          by_cases c70 : x15_3 < 40
          ·rw [if_pos c70] at H
           have c70b0 : decide (x15_3 < 40) = true := decide_eq_true c70
           clear c70
           replace H := Option.bind_eq_some_iff.mp H
           obtain ⟨⟨t342, t343⟩, A710, H⟩ := H
           replace H : (if x15_3 < (wrap64 ((wrap64 (1 + (wrap64 (Int.tmod a0 20)))) - 1)) then (if t343 = 0 then (if t342.toList = ([119] : List UInt8) then (if x15_3 = (wrap64 ((wrap64 (1 + (wrap64 (Int.tmod a0 20)))) - 1)) then (if t343 = 13 then (if x15_3 > (wrap64 ((wrap64 (1 + (wrap64 (Int.tmod a0 20)))) - 1)) then (if t342.toList = ([] : List UInt8) then (storagebarterlaw10_DeviceFuses.l1 k3 (wrap64 (1 + (wrap64 (Int.tmod a0 20)))) t341 (wrap64 (x15_3 + 1)) t329 t330 t333 t336 t339 t340) else (none)) else (storagebarterlaw10_DeviceFuses.l1 k3 (wrap64 (1 + (wrap64 (Int.tmod a0 20)))) t341 (wrap64 (x15_3 + 1)) t329 t330 t333 t336 t339 t340)) else (none)) else (if x15_3 > (wrap64 ((wrap64 (1 + (wrap64 (Int.tmod a0 20)))) - 1)) then (if t342.toList = ([] : List UInt8) then (storagebarterlaw10_DeviceFuses.l1 k3 (wrap64 (1 + (wrap64 (Int.tmod a0 20)))) t341 (wrap64 (x15_3 + 1)) t329 t330 t333 t336 t339 t340) else (none)) else (storagebarterlaw10_DeviceFuses.l1 k3 (wrap64 (1 + (wrap64 (Int.tmod a0 20)))) t341 (wrap64 (x15_3 + 1)) t329 t330 t333 t336 t339 t340))) else (none)) else (none)) else (if x15_3 = (wrap64 ((wrap64 (1 + (wrap64 (Int.tmod a0 20)))) - 1)) then (if t343 = 13 then (if x15_3 > (wrap64 ((wrap64 (1 + (wrap64 (Int.tmod a0 20)))) - 1)) then (if t343 = 0 then (if t342.toList = ([] : List UInt8) then (storagebarterlaw10_DeviceFuses.l1 k3 (wrap64 (1 + (wrap64 (Int.tmod a0 20)))) t341 (wrap64 (x15_3 + 1)) t329 t330 t333 t336 t339 t340) else (none)) else (none)) else (storagebarterlaw10_DeviceFuses.l1 k3 (wrap64 (1 + (wrap64 (Int.tmod a0 20)))) t341 (wrap64 (x15_3 + 1)) t329 t330 t333 t336 t339 t340)) else (none)) else (if x15_3 > (wrap64 ((wrap64 (1 + (wrap64 (Int.tmod a0 20)))) - 1)) then (if t343 = 0 then (if t342.toList = ([] : List UInt8) then (storagebarterlaw10_DeviceFuses.l1 k3 (wrap64 (1 + (wrap64 (Int.tmod a0 20)))) t341 (wrap64 (x15_3 + 1)) t329 t330 t333 t336 t339 t340) else (none)) else (none)) else (storagebarterlaw10_DeviceFuses.l1 k3 (wrap64 (1 + (wrap64 (Int.tmod a0 20)))) t341 (wrap64 (x15_3 + 1)) t329 t330 t333 t336 t339 t340)))) = some r := H
           have A71 := Aside0.mk A710
           clear A710
           by_cases c72 : x15_3 < (wrap64 ((wrap64 (1 + (wrap64 (Int.tmod a0 20)))) - 1))
           ·rw [if_pos c72] at H
            have c72b0 : decide (x15_3 < (wrap64 ((wrap64 (1 + (wrap64 (Int.tmod a0 20)))) - 1))) = true := decide_eq_true c72
            clear c72
            by_cases c73 : t343 = 0
            ·rw [if_pos c73] at H
             have c73b0 : (t343 == 0) = true := beq_iff_eq.mpr c73
             have c73b1 : (t343 != 0) = false := bne_eq_false_iff_eq.mpr c73
             clear c73
             by_cases c74 : t342.toList = ([119] : List UInt8)
             ·rw [if_pos c74] at H
              have c74b0 : (t342.toList == ([119] : List UInt8)) = true := beq_iff_eq.mpr c74
              have c74b1 : (t342.toList != ([119] : List UInt8)) = false := bne_eq_false_iff_eq.mpr c74
              clear c74
              by_cases c75 : x15_3 = (wrap64 ((wrap64 (1 + (wrap64 (Int.tmod a0 20)))) - 1))
              ·rw [if_pos c75] at H
               have c75b0 : (x15_3 == (wrap64 ((wrap64 (1 + (wrap64 (Int.tmod a0 20)))) - 1))) = true := beq_iff_eq.mpr c75
               have c75b1 : (x15_3 != (wrap64 ((wrap64 (1 + (wrap64 (Int.tmod a0 20)))) - 1))) = false := bne_eq_false_iff_eq.mpr c75
               clear c75
               by_cases c76 : t343 = 13
               ·rw [if_pos c76] at H
                have c76b0 : (t343 == 13) = true := beq_iff_eq.mpr c76
                have c76b1 : (t343 != 13) = false := bne_eq_false_iff_eq.mpr c76
                clear c76
                by_cases c77 : x15_3 > (wrap64 ((wrap64 (1 + (wrap64 (Int.tmod a0 20)))) - 1))
                ·rw [if_pos c77] at H
                 have c77b0 : decide ((wrap64 ((wrap64 (1 + (wrap64 (Int.tmod a0 20)))) - 1)) < x15_3) = true := decide_eq_true c77
                 clear c77
                 by_cases c78 : t342.toList = ([] : List UInt8)
                 ·rw [if_pos c78] at H
                  have c78b0 : (t342.toList == ([] : List UInt8)) = true := beq_iff_eq.mpr c78
                  have c78b1 : (t342.toList != ([] : List UInt8)) = false := bne_eq_false_iff_eq.mpr c78
                  clear c78
                  have H' := Aside0.mk H
                  clear H
                  have hcz79_0 : wr.cell? ⟨gb301, 0, none⟩ = some (.int .i64 t329) := (blk_cell BK301.out 0).trans rfl
                  have hcz79_1 : wr.cell? ⟨gb301, 1, none⟩ = some (.slice Ao67 t330.length co67) := (blk_cell BK301.out 1).trans rfl
                  have hcz79_2 : wr.cell? ⟨gb301, 2, none⟩ = some (.slice Ao68 t333.length co68) := (blk_cell BK301.out 2).trans rfl
                  have hcz79_3 : wr.cell? ⟨gb301, 3, none⟩ = some (.slice Ao69 t336.length co69) := (blk_cell BK301.out 3).trans rfl
                  have hcz79_4 : wr.cell? ⟨gb301, 4, none⟩ = some (.int .i64 t339) := (blk_cell BK301.out 4).trans rfl
                  have hcz79_5 : wr.cell? ⟨gb301, 5, none⟩ = some (.bool t340) := (blk_cell BK301.out 5).trans rfl
                  have hfz79_0 := blk_frozen BK301.out 0
                  have hfz79_1 := blk_frozen BK301.out 1
                  have hfz79_2 := blk_frozen BK301.out 2
                  have hfz79_3 := blk_frozen BK301.out 3
                  have hfz79_4 := blk_frozen BK301.out 4
                  have hfz79_5 := blk_frozen BK301.out 5
                  go_wp2_with (first | ((with_reducible refine gate_callee (f := 11) rfl ?_); refine goesL_ (some 96) rfl rfl Try.func11 (by kernel_rfl) rfl #[.agg #[.int .i64 t329, .slice Ao67 t330.length co67, .slice Ao68 t333.length co68, .slice Ao69 t336.length co69, .int .i64 t339, .bool t340], .int .i64 x15_3] rfl (by (try simp only [List.map_toArray, List.map_cons, List.map_nil]); first | done | rfl | (simp only [List.length_drop, List.length_take]; rfl)) ?_; (with_reducible refine (device_Read.calls k3 t329 _ _ t330 _ _ t333 _ _ t336 t339 t340 x15_3 t342 t343 _ ?side1 ?side2 ?side3 ?side4 ?side5 ?side6 A71.out).mono ?_); (case side1 => repeat (first | exact (Kd.R_reads' HO_302001.out).2.2 | (with_reducible refine Kd.C_alloc ?_ _) | (with_reducible refine Kd.C_drewN ?_ _) | (with_reducible refine Kd.C_drew ?_))); (case side2 => exact (Kd.R_reads' HO_302001.out).2.1); (case side3 => repeat (first | exact (Kd.R_reads' HO_302002.out).2.2 | (with_reducible refine Kd.C_alloc ?_ _) | (with_reducible refine Kd.C_drewN ?_ _) | (with_reducible refine Kd.C_drew ?_))); (case side4 => exact (Kd.R_reads' HO_302002.out).2.1); (case side5 => repeat (first | exact (Kd.R_reads' HO_302003.out).2.2 | (with_reducible refine Kd.C_alloc ?_ _) | (with_reducible refine Kd.C_drewN ?_ _) | (with_reducible refine Kd.C_drew ?_))); (case side6 => exact (Kd.R_reads' HO_302003.out).2.1); rintro e w80 ⟨rfl, hb⟩; refine ⟨_, rfl, ?_⟩; have n0_ := Aside0.mk (Kd.R_below (by (with_reducible repeat (first | apply Kd.R_alloc | apply Kd.R_drewN | apply Kd.R_drew)); exact HO_302001.out) hb); have n1_ := Aside0.mk (Kd.R_below (by (with_reducible repeat (first | apply Kd.R_alloc | apply Kd.R_drewN | apply Kd.R_drew)); exact HO_302002.out) hb); have n2_ := Aside0.mk (Kd.R_below (by (with_reducible repeat (first | apply Kd.R_alloc | apply Kd.R_drewN | apply Kd.R_drew)); exact HO_302003.out) hb); have n3_ := Aside0.mk (blk_below (g := gb301) (o := .cells #[.int .i64 t329, .slice Ao67 t330.length co67, .slice Ao68 t333.length co68, .slice Ao69 t336.length co69, .int .i64 t339, .bool t340] 26 (0, 0)) (by (with_reducible repeat (first | refine blk_drewN ?_ _ | refine blk_drew ?_ | refine blk_alloc ?_ _)); exact BK301.out) hb); have n4_ := Aside0.mk (below_step (by repeat (first | (with_reducible first | exact HB.out | apply below_alloc | apply pw_below_drewN | apply below_drew1 | refine below_set ?_ GE301.out) | exact HB.out)) hb); clear HO_302001; clear HO_302002; clear HO_302003; clear BK301; clear HB; have HO_302001 := n0_; have HO_302002 := n1_; have HO_302003 := n2_; have BK301 := n3_; have HB := n4_; clear n0_ n1_ n2_ n3_ n4_; (try clear hb); (try clear hb2); (try clear hk); (try clear hi)))
                  go_roundg k3
                  case measure => have := HJ7.out; have := HK2.out; have := HK3.out; omega
                  case rel => exact ⟨(wrap64 (x15_3 + 1)), (by first | rfl | (simp; done) | (simp [*]; done)), H', ⟨by have := HJ7.out; have := HK2.out; have := HK3.out; omega⟩, ⟨by (with_reducible repeat (first | apply Kd.R_alloc | apply Kd.R_drewN | apply Kd.R_drew)); exact HO_302001.out⟩, ⟨by (with_reducible repeat (first | apply Kd.R_alloc | apply Kd.R_drewN | apply Kd.R_drew)); exact HO_302002.out⟩, ⟨by (with_reducible repeat (first | apply Kd.R_alloc | apply Kd.R_drewN | apply Kd.R_drew)); exact HO_302003.out⟩, ⟨by (with_reducible repeat (first | refine blk_drewN ?_ _ | refine blk_drew ?_ | refine blk_alloc ?_ _)); exact BK301.out⟩, ⟨by repeat (first | (with_reducible first | exact HB.out | apply below_alloc | apply pw_below_drewN | apply below_drew1 | refine below_set ?_ GE301.out) | exact HB.out)⟩⟩
                 ·rw [if_neg c78] at H
                  exact absurd H (by simp)
                ·rw [if_neg c77] at H
                 have c77b0 : decide ((wrap64 ((wrap64 (1 + (wrap64 (Int.tmod a0 20)))) - 1)) < x15_3) = false := decide_eq_false c77
                 clear c77
                 have H' := Aside0.mk H
                 clear H
                 have hcz81_0 : wr.cell? ⟨gb301, 0, none⟩ = some (.int .i64 t329) := (blk_cell BK301.out 0).trans rfl
                 have hcz81_1 : wr.cell? ⟨gb301, 1, none⟩ = some (.slice Ao67 t330.length co67) := (blk_cell BK301.out 1).trans rfl
                 have hcz81_2 : wr.cell? ⟨gb301, 2, none⟩ = some (.slice Ao68 t333.length co68) := (blk_cell BK301.out 2).trans rfl
                 have hcz81_3 : wr.cell? ⟨gb301, 3, none⟩ = some (.slice Ao69 t336.length co69) := (blk_cell BK301.out 3).trans rfl
                 have hcz81_4 : wr.cell? ⟨gb301, 4, none⟩ = some (.int .i64 t339) := (blk_cell BK301.out 4).trans rfl
                 have hcz81_5 : wr.cell? ⟨gb301, 5, none⟩ = some (.bool t340) := (blk_cell BK301.out 5).trans rfl
                 have hfz81_0 := blk_frozen BK301.out 0
                 have hfz81_1 := blk_frozen BK301.out 1
                 have hfz81_2 := blk_frozen BK301.out 2
                 have hfz81_3 := blk_frozen BK301.out 3
                 have hfz81_4 := blk_frozen BK301.out 4
                 have hfz81_5 := blk_frozen BK301.out 5
                 go_wp2_with (first | ((with_reducible refine gate_callee (f := 11) rfl ?_); refine goesL_ (some 96) rfl rfl Try.func11 (by kernel_rfl) rfl #[.agg #[.int .i64 t329, .slice Ao67 t330.length co67, .slice Ao68 t333.length co68, .slice Ao69 t336.length co69, .int .i64 t339, .bool t340], .int .i64 x15_3] rfl (by (try simp only [List.map_toArray, List.map_cons, List.map_nil]); first | done | rfl | (simp only [List.length_drop, List.length_take]; rfl)) ?_; (with_reducible refine (device_Read.calls k3 t329 _ _ t330 _ _ t333 _ _ t336 t339 t340 x15_3 t342 t343 _ ?side1 ?side2 ?side3 ?side4 ?side5 ?side6 A71.out).mono ?_); (case side1 => repeat (first | exact (Kd.R_reads' HO_302001.out).2.2 | (with_reducible refine Kd.C_alloc ?_ _) | (with_reducible refine Kd.C_drewN ?_ _) | (with_reducible refine Kd.C_drew ?_))); (case side2 => exact (Kd.R_reads' HO_302001.out).2.1); (case side3 => repeat (first | exact (Kd.R_reads' HO_302002.out).2.2 | (with_reducible refine Kd.C_alloc ?_ _) | (with_reducible refine Kd.C_drewN ?_ _) | (with_reducible refine Kd.C_drew ?_))); (case side4 => exact (Kd.R_reads' HO_302002.out).2.1); (case side5 => repeat (first | exact (Kd.R_reads' HO_302003.out).2.2 | (with_reducible refine Kd.C_alloc ?_ _) | (with_reducible refine Kd.C_drewN ?_ _) | (with_reducible refine Kd.C_drew ?_))); (case side6 => exact (Kd.R_reads' HO_302003.out).2.1); rintro e w82 ⟨rfl, hb⟩; refine ⟨_, rfl, ?_⟩; have n0_ := Aside0.mk (Kd.R_below (by (with_reducible repeat (first | apply Kd.R_alloc | apply Kd.R_drewN | apply Kd.R_drew)); exact HO_302001.out) hb); have n1_ := Aside0.mk (Kd.R_below (by (with_reducible repeat (first | apply Kd.R_alloc | apply Kd.R_drewN | apply Kd.R_drew)); exact HO_302002.out) hb); have n2_ := Aside0.mk (Kd.R_below (by (with_reducible repeat (first | apply Kd.R_alloc | apply Kd.R_drewN | apply Kd.R_drew)); exact HO_302003.out) hb); have n3_ := Aside0.mk (blk_below (g := gb301) (o := .cells #[.int .i64 t329, .slice Ao67 t330.length co67, .slice Ao68 t333.length co68, .slice Ao69 t336.length co69, .int .i64 t339, .bool t340] 26 (0, 0)) (by (with_reducible repeat (first | refine blk_drewN ?_ _ | refine blk_drew ?_ | refine blk_alloc ?_ _)); exact BK301.out) hb); have n4_ := Aside0.mk (below_step (by repeat (first | (with_reducible first | exact HB.out | apply below_alloc | apply pw_below_drewN | apply below_drew1 | refine below_set ?_ GE301.out) | exact HB.out)) hb); clear HO_302001; clear HO_302002; clear HO_302003; clear BK301; clear HB; have HO_302001 := n0_; have HO_302002 := n1_; have HO_302003 := n2_; have BK301 := n3_; have HB := n4_; clear n0_ n1_ n2_ n3_ n4_; (try clear hb); (try clear hb2); (try clear hk); (try clear hi)))
                 go_roundg k3
                 case measure => have := HJ7.out; have := HK2.out; have := HK3.out; omega
                 case rel => exact ⟨(wrap64 (x15_3 + 1)), (by first | rfl | (simp; done) | (simp [*]; done)), H', ⟨by have := HJ7.out; have := HK2.out; have := HK3.out; omega⟩, ⟨by (with_reducible repeat (first | apply Kd.R_alloc | apply Kd.R_drewN | apply Kd.R_drew)); exact HO_302001.out⟩, ⟨by (with_reducible repeat (first | apply Kd.R_alloc | apply Kd.R_drewN | apply Kd.R_drew)); exact HO_302002.out⟩, ⟨by (with_reducible repeat (first | apply Kd.R_alloc | apply Kd.R_drewN | apply Kd.R_drew)); exact HO_302003.out⟩, ⟨by (with_reducible repeat (first | refine blk_drewN ?_ _ | refine blk_drew ?_ | refine blk_alloc ?_ _)); exact BK301.out⟩, ⟨by repeat (first | (with_reducible first | exact HB.out | apply below_alloc | apply pw_below_drewN | apply below_drew1 | refine below_set ?_ GE301.out) | exact HB.out)⟩⟩
               ·rw [if_neg c76] at H
                exact absurd H (by simp)
              ·rw [if_neg c75] at H
               have c75b0 : (x15_3 == (wrap64 ((wrap64 (1 + (wrap64 (Int.tmod a0 20)))) - 1))) = false := beq_eq_false_iff_ne.mpr c75
               have c75b1 : (x15_3 != (wrap64 ((wrap64 (1 + (wrap64 (Int.tmod a0 20)))) - 1))) = true := bne_iff_ne.mpr c75
               by_cases c83 : x15_3 > (wrap64 ((wrap64 (1 + (wrap64 (Int.tmod a0 20)))) - 1))
               ·rw [if_pos c83] at H
                have c83b0 : decide ((wrap64 ((wrap64 (1 + (wrap64 (Int.tmod a0 20)))) - 1)) < x15_3) = true := decide_eq_true c83
                clear c83
                by_cases c84 : t342.toList = ([] : List UInt8)
                ·rw [if_pos c84] at H
                 have c84b0 : (t342.toList == ([] : List UInt8)) = true := beq_iff_eq.mpr c84
                 have c84b1 : (t342.toList != ([] : List UInt8)) = false := bne_eq_false_iff_eq.mpr c84
                 clear c84
                 have H' := Aside0.mk H
                 clear H
                 have hcz85_0 : wr.cell? ⟨gb301, 0, none⟩ = some (.int .i64 t329) := (blk_cell BK301.out 0).trans rfl
                 have hcz85_1 : wr.cell? ⟨gb301, 1, none⟩ = some (.slice Ao67 t330.length co67) := (blk_cell BK301.out 1).trans rfl
                 have hcz85_2 : wr.cell? ⟨gb301, 2, none⟩ = some (.slice Ao68 t333.length co68) := (blk_cell BK301.out 2).trans rfl
                 have hcz85_3 : wr.cell? ⟨gb301, 3, none⟩ = some (.slice Ao69 t336.length co69) := (blk_cell BK301.out 3).trans rfl
                 have hcz85_4 : wr.cell? ⟨gb301, 4, none⟩ = some (.int .i64 t339) := (blk_cell BK301.out 4).trans rfl
                 have hcz85_5 : wr.cell? ⟨gb301, 5, none⟩ = some (.bool t340) := (blk_cell BK301.out 5).trans rfl
                 have hfz85_0 := blk_frozen BK301.out 0
                 have hfz85_1 := blk_frozen BK301.out 1
                 have hfz85_2 := blk_frozen BK301.out 2
                 have hfz85_3 := blk_frozen BK301.out 3
                 have hfz85_4 := blk_frozen BK301.out 4
                 have hfz85_5 := blk_frozen BK301.out 5
                 go_wp2_with (first | ((with_reducible refine gate_callee (f := 11) rfl ?_); refine goesL_ (some 96) rfl rfl Try.func11 (by kernel_rfl) rfl #[.agg #[.int .i64 t329, .slice Ao67 t330.length co67, .slice Ao68 t333.length co68, .slice Ao69 t336.length co69, .int .i64 t339, .bool t340], .int .i64 x15_3] rfl (by (try simp only [List.map_toArray, List.map_cons, List.map_nil]); first | done | rfl | (simp only [List.length_drop, List.length_take]; rfl)) ?_; (with_reducible refine (device_Read.calls k3 t329 _ _ t330 _ _ t333 _ _ t336 t339 t340 x15_3 t342 t343 _ ?side1 ?side2 ?side3 ?side4 ?side5 ?side6 A71.out).mono ?_); (case side1 => repeat (first | exact (Kd.R_reads' HO_302001.out).2.2 | (with_reducible refine Kd.C_alloc ?_ _) | (with_reducible refine Kd.C_drewN ?_ _) | (with_reducible refine Kd.C_drew ?_))); (case side2 => exact (Kd.R_reads' HO_302001.out).2.1); (case side3 => repeat (first | exact (Kd.R_reads' HO_302002.out).2.2 | (with_reducible refine Kd.C_alloc ?_ _) | (with_reducible refine Kd.C_drewN ?_ _) | (with_reducible refine Kd.C_drew ?_))); (case side4 => exact (Kd.R_reads' HO_302002.out).2.1); (case side5 => repeat (first | exact (Kd.R_reads' HO_302003.out).2.2 | (with_reducible refine Kd.C_alloc ?_ _) | (with_reducible refine Kd.C_drewN ?_ _) | (with_reducible refine Kd.C_drew ?_))); (case side6 => exact (Kd.R_reads' HO_302003.out).2.1); rintro e w86 ⟨rfl, hb⟩; refine ⟨_, rfl, ?_⟩; have n0_ := Aside0.mk (Kd.R_below (by (with_reducible repeat (first | apply Kd.R_alloc | apply Kd.R_drewN | apply Kd.R_drew)); exact HO_302001.out) hb); have n1_ := Aside0.mk (Kd.R_below (by (with_reducible repeat (first | apply Kd.R_alloc | apply Kd.R_drewN | apply Kd.R_drew)); exact HO_302002.out) hb); have n2_ := Aside0.mk (Kd.R_below (by (with_reducible repeat (first | apply Kd.R_alloc | apply Kd.R_drewN | apply Kd.R_drew)); exact HO_302003.out) hb); have n3_ := Aside0.mk (blk_below (g := gb301) (o := .cells #[.int .i64 t329, .slice Ao67 t330.length co67, .slice Ao68 t333.length co68, .slice Ao69 t336.length co69, .int .i64 t339, .bool t340] 26 (0, 0)) (by (with_reducible repeat (first | refine blk_drewN ?_ _ | refine blk_drew ?_ | refine blk_alloc ?_ _)); exact BK301.out) hb); have n4_ := Aside0.mk (below_step (by repeat (first | (with_reducible first | exact HB.out | apply below_alloc | apply pw_below_drewN | apply below_drew1 | refine below_set ?_ GE301.out) | exact HB.out)) hb); clear HO_302001; clear HO_302002; clear HO_302003; clear BK301; clear HB; have HO_302001 := n0_; have HO_302002 := n1_; have HO_302003 := n2_; have BK301 := n3_; have HB := n4_; clear n0_ n1_ n2_ n3_ n4_; (try clear hb); (try clear hb2); (try clear hk); (try clear hi)))
                 go_roundg k3
                 case measure => have := HJ7.out; have := HK2.out; have := HK3.out; omega
                 case rel => exact ⟨(wrap64 (x15_3 + 1)), (by first | rfl | (simp; done) | (simp [*]; done)), H', ⟨by have := HJ7.out; have := HK2.out; have := HK3.out; omega⟩, ⟨by (with_reducible repeat (first | apply Kd.R_alloc | apply Kd.R_drewN | apply Kd.R_drew)); exact HO_302001.out⟩, ⟨by (with_reducible repeat (first | apply Kd.R_alloc | apply Kd.R_drewN | apply Kd.R_drew)); exact HO_302002.out⟩, ⟨by (with_reducible repeat (first | apply Kd.R_alloc | apply Kd.R_drewN | apply Kd.R_drew)); exact HO_302003.out⟩, ⟨by (with_reducible repeat (first | refine blk_drewN ?_ _ | refine blk_drew ?_ | refine blk_alloc ?_ _)); exact BK301.out⟩, ⟨by repeat (first | (with_reducible first | exact HB.out | apply below_alloc | apply pw_below_drewN | apply below_drew1 | refine below_set ?_ GE301.out) | exact HB.out)⟩⟩
                ·rw [if_neg c84] at H
                 exact absurd H (by simp)
               ·rw [if_neg c83] at H
                have c83b0 : decide ((wrap64 ((wrap64 (1 + (wrap64 (Int.tmod a0 20)))) - 1)) < x15_3) = false := decide_eq_false c83
                clear c83
                have H' := Aside0.mk H
                clear H
                have hcz87_0 : wr.cell? ⟨gb301, 0, none⟩ = some (.int .i64 t329) := (blk_cell BK301.out 0).trans rfl
                have hcz87_1 : wr.cell? ⟨gb301, 1, none⟩ = some (.slice Ao67 t330.length co67) := (blk_cell BK301.out 1).trans rfl
                have hcz87_2 : wr.cell? ⟨gb301, 2, none⟩ = some (.slice Ao68 t333.length co68) := (blk_cell BK301.out 2).trans rfl
                have hcz87_3 : wr.cell? ⟨gb301, 3, none⟩ = some (.slice Ao69 t336.length co69) := (blk_cell BK301.out 3).trans rfl
                have hcz87_4 : wr.cell? ⟨gb301, 4, none⟩ = some (.int .i64 t339) := (blk_cell BK301.out 4).trans rfl
                have hcz87_5 : wr.cell? ⟨gb301, 5, none⟩ = some (.bool t340) := (blk_cell BK301.out 5).trans rfl
                have hfz87_0 := blk_frozen BK301.out 0
                have hfz87_1 := blk_frozen BK301.out 1
                have hfz87_2 := blk_frozen BK301.out 2
                have hfz87_3 := blk_frozen BK301.out 3
                have hfz87_4 := blk_frozen BK301.out 4
                have hfz87_5 := blk_frozen BK301.out 5
                go_wp2_with (first | ((with_reducible refine gate_callee (f := 11) rfl ?_); refine goesL_ (some 96) rfl rfl Try.func11 (by kernel_rfl) rfl #[.agg #[.int .i64 t329, .slice Ao67 t330.length co67, .slice Ao68 t333.length co68, .slice Ao69 t336.length co69, .int .i64 t339, .bool t340], .int .i64 x15_3] rfl (by (try simp only [List.map_toArray, List.map_cons, List.map_nil]); first | done | rfl | (simp only [List.length_drop, List.length_take]; rfl)) ?_; (with_reducible refine (device_Read.calls k3 t329 _ _ t330 _ _ t333 _ _ t336 t339 t340 x15_3 t342 t343 _ ?side1 ?side2 ?side3 ?side4 ?side5 ?side6 A71.out).mono ?_); (case side1 => repeat (first | exact (Kd.R_reads' HO_302001.out).2.2 | (with_reducible refine Kd.C_alloc ?_ _) | (with_reducible refine Kd.C_drewN ?_ _) | (with_reducible refine Kd.C_drew ?_))); (case side2 => exact (Kd.R_reads' HO_302001.out).2.1); (case side3 => repeat (first | exact (Kd.R_reads' HO_302002.out).2.2 | (with_reducible refine Kd.C_alloc ?_ _) | (with_reducible refine Kd.C_drewN ?_ _) | (with_reducible refine Kd.C_drew ?_))); (case side4 => exact (Kd.R_reads' HO_302002.out).2.1); (case side5 => repeat (first | exact (Kd.R_reads' HO_302003.out).2.2 | (with_reducible refine Kd.C_alloc ?_ _) | (with_reducible refine Kd.C_drewN ?_ _) | (with_reducible refine Kd.C_drew ?_))); (case side6 => exact (Kd.R_reads' HO_302003.out).2.1); rintro e w88 ⟨rfl, hb⟩; refine ⟨_, rfl, ?_⟩; have n0_ := Aside0.mk (Kd.R_below (by (with_reducible repeat (first | apply Kd.R_alloc | apply Kd.R_drewN | apply Kd.R_drew)); exact HO_302001.out) hb); have n1_ := Aside0.mk (Kd.R_below (by (with_reducible repeat (first | apply Kd.R_alloc | apply Kd.R_drewN | apply Kd.R_drew)); exact HO_302002.out) hb); have n2_ := Aside0.mk (Kd.R_below (by (with_reducible repeat (first | apply Kd.R_alloc | apply Kd.R_drewN | apply Kd.R_drew)); exact HO_302003.out) hb); have n3_ := Aside0.mk (blk_below (g := gb301) (o := .cells #[.int .i64 t329, .slice Ao67 t330.length co67, .slice Ao68 t333.length co68, .slice Ao69 t336.length co69, .int .i64 t339, .bool t340] 26 (0, 0)) (by (with_reducible repeat (first | refine blk_drewN ?_ _ | refine blk_drew ?_ | refine blk_alloc ?_ _)); exact BK301.out) hb); have n4_ := Aside0.mk (below_step (by repeat (first | (with_reducible first | exact HB.out | apply below_alloc | apply pw_below_drewN | apply below_drew1 | refine below_set ?_ GE301.out) | exact HB.out)) hb); clear HO_302001; clear HO_302002; clear HO_302003; clear BK301; clear HB; have HO_302001 := n0_; have HO_302002 := n1_; have HO_302003 := n2_; have BK301 := n3_; have HB := n4_; clear n0_ n1_ n2_ n3_ n4_; (try clear hb); (try clear hb2); (try clear hk); (try clear hi)))
                go_roundg k3
                case measure => have := HJ7.out; have := HK2.out; have := HK3.out; omega
                case rel => exact ⟨(wrap64 (x15_3 + 1)), (by first | rfl | (simp; done) | (simp [*]; done)), H', ⟨by have := HJ7.out; have := HK2.out; have := HK3.out; omega⟩, ⟨by (with_reducible repeat (first | apply Kd.R_alloc | apply Kd.R_drewN | apply Kd.R_drew)); exact HO_302001.out⟩, ⟨by (with_reducible repeat (first | apply Kd.R_alloc | apply Kd.R_drewN | apply Kd.R_drew)); exact HO_302002.out⟩, ⟨by (with_reducible repeat (first | apply Kd.R_alloc | apply Kd.R_drewN | apply Kd.R_drew)); exact HO_302003.out⟩, ⟨by (with_reducible repeat (first | refine blk_drewN ?_ _ | refine blk_drew ?_ | refine blk_alloc ?_ _)); exact BK301.out⟩, ⟨by repeat (first | (with_reducible first | exact HB.out | apply below_alloc | apply pw_below_drewN | apply below_drew1 | refine below_set ?_ GE301.out) | exact HB.out)⟩⟩
             ·rw [if_neg c74] at H
              exact absurd H (by simp)
            ·rw [if_neg c73] at H
             exact absurd H (by simp)
           ·rw [if_neg c72] at H
            have c72b0 : decide (x15_3 < (wrap64 ((wrap64 (1 + (wrap64 (Int.tmod a0 20)))) - 1))) = false := decide_eq_false c72
            clear c72
            by_cases c89 : x15_3 = (wrap64 ((wrap64 (1 + (wrap64 (Int.tmod a0 20)))) - 1))
            ·rw [if_pos c89] at H
             have c89b0 : (x15_3 == (wrap64 ((wrap64 (1 + (wrap64 (Int.tmod a0 20)))) - 1))) = true := beq_iff_eq.mpr c89
             have c89b1 : (x15_3 != (wrap64 ((wrap64 (1 + (wrap64 (Int.tmod a0 20)))) - 1))) = false := bne_eq_false_iff_eq.mpr c89
             clear c89
             by_cases c90 : t343 = 13
             ·rw [if_pos c90] at H
              have c90b0 : (t343 == 13) = true := beq_iff_eq.mpr c90
              have c90b1 : (t343 != 13) = false := bne_eq_false_iff_eq.mpr c90
              clear c90
              by_cases c91 : x15_3 > (wrap64 ((wrap64 (1 + (wrap64 (Int.tmod a0 20)))) - 1))
              ·rw [if_pos c91] at H
               have c91b0 : decide ((wrap64 ((wrap64 (1 + (wrap64 (Int.tmod a0 20)))) - 1)) < x15_3) = true := decide_eq_true c91
               clear c91
               by_cases c92 : t343 = 0
               ·rw [if_pos c92] at H
                have c92b0 : (t343 == 0) = true := beq_iff_eq.mpr c92
                have c92b1 : (t343 != 0) = false := bne_eq_false_iff_eq.mpr c92
                clear c92
                by_cases c93 : t342.toList = ([] : List UInt8)
                ·rw [if_pos c93] at H
                 have c93b0 : (t342.toList == ([] : List UInt8)) = true := beq_iff_eq.mpr c93
                 have c93b1 : (t342.toList != ([] : List UInt8)) = false := bne_eq_false_iff_eq.mpr c93
                 clear c93
                 have H' := Aside0.mk H
                 clear H
                 have hcz94_0 : wr.cell? ⟨gb301, 0, none⟩ = some (.int .i64 t329) := (blk_cell BK301.out 0).trans rfl
                 have hcz94_1 : wr.cell? ⟨gb301, 1, none⟩ = some (.slice Ao67 t330.length co67) := (blk_cell BK301.out 1).trans rfl
                 have hcz94_2 : wr.cell? ⟨gb301, 2, none⟩ = some (.slice Ao68 t333.length co68) := (blk_cell BK301.out 2).trans rfl
                 have hcz94_3 : wr.cell? ⟨gb301, 3, none⟩ = some (.slice Ao69 t336.length co69) := (blk_cell BK301.out 3).trans rfl
                 have hcz94_4 : wr.cell? ⟨gb301, 4, none⟩ = some (.int .i64 t339) := (blk_cell BK301.out 4).trans rfl
                 have hcz94_5 : wr.cell? ⟨gb301, 5, none⟩ = some (.bool t340) := (blk_cell BK301.out 5).trans rfl
                 have hfz94_0 := blk_frozen BK301.out 0
                 have hfz94_1 := blk_frozen BK301.out 1
                 have hfz94_2 := blk_frozen BK301.out 2
                 have hfz94_3 := blk_frozen BK301.out 3
                 have hfz94_4 := blk_frozen BK301.out 4
                 have hfz94_5 := blk_frozen BK301.out 5
                 go_wp2_with (first | ((with_reducible refine gate_callee (f := 11) rfl ?_); refine goesL_ (some 96) rfl rfl Try.func11 (by kernel_rfl) rfl #[.agg #[.int .i64 t329, .slice Ao67 t330.length co67, .slice Ao68 t333.length co68, .slice Ao69 t336.length co69, .int .i64 t339, .bool t340], .int .i64 x15_3] rfl (by (try simp only [List.map_toArray, List.map_cons, List.map_nil]); first | done | rfl | (simp only [List.length_drop, List.length_take]; rfl)) ?_; (with_reducible refine (device_Read.calls k3 t329 _ _ t330 _ _ t333 _ _ t336 t339 t340 x15_3 t342 t343 _ ?side1 ?side2 ?side3 ?side4 ?side5 ?side6 A71.out).mono ?_); (case side1 => repeat (first | exact (Kd.R_reads' HO_302001.out).2.2 | (with_reducible refine Kd.C_alloc ?_ _) | (with_reducible refine Kd.C_drewN ?_ _) | (with_reducible refine Kd.C_drew ?_))); (case side2 => exact (Kd.R_reads' HO_302001.out).2.1); (case side3 => repeat (first | exact (Kd.R_reads' HO_302002.out).2.2 | (with_reducible refine Kd.C_alloc ?_ _) | (with_reducible refine Kd.C_drewN ?_ _) | (with_reducible refine Kd.C_drew ?_))); (case side4 => exact (Kd.R_reads' HO_302002.out).2.1); (case side5 => repeat (first | exact (Kd.R_reads' HO_302003.out).2.2 | (with_reducible refine Kd.C_alloc ?_ _) | (with_reducible refine Kd.C_drewN ?_ _) | (with_reducible refine Kd.C_drew ?_))); (case side6 => exact (Kd.R_reads' HO_302003.out).2.1); rintro e w95 ⟨rfl, hb⟩; refine ⟨_, rfl, ?_⟩; have n0_ := Aside0.mk (Kd.R_below (by (with_reducible repeat (first | apply Kd.R_alloc | apply Kd.R_drewN | apply Kd.R_drew)); exact HO_302001.out) hb); have n1_ := Aside0.mk (Kd.R_below (by (with_reducible repeat (first | apply Kd.R_alloc | apply Kd.R_drewN | apply Kd.R_drew)); exact HO_302002.out) hb); have n2_ := Aside0.mk (Kd.R_below (by (with_reducible repeat (first | apply Kd.R_alloc | apply Kd.R_drewN | apply Kd.R_drew)); exact HO_302003.out) hb); have n3_ := Aside0.mk (blk_below (g := gb301) (o := .cells #[.int .i64 t329, .slice Ao67 t330.length co67, .slice Ao68 t333.length co68, .slice Ao69 t336.length co69, .int .i64 t339, .bool t340] 26 (0, 0)) (by (with_reducible repeat (first | refine blk_drewN ?_ _ | refine blk_drew ?_ | refine blk_alloc ?_ _)); exact BK301.out) hb); have n4_ := Aside0.mk (below_step (by repeat (first | (with_reducible first | exact HB.out | apply below_alloc | apply pw_below_drewN | apply below_drew1 | refine below_set ?_ GE301.out) | exact HB.out)) hb); clear HO_302001; clear HO_302002; clear HO_302003; clear BK301; clear HB; have HO_302001 := n0_; have HO_302002 := n1_; have HO_302003 := n2_; have BK301 := n3_; have HB := n4_; clear n0_ n1_ n2_ n3_ n4_; (try clear hb); (try clear hb2); (try clear hk); (try clear hi)))
                 go_roundg k3
                 case measure => have := HJ7.out; have := HK2.out; have := HK3.out; omega
                 case rel => exact ⟨(wrap64 (x15_3 + 1)), (by first | rfl | (simp; done) | (simp [*]; done)), H', ⟨by have := HJ7.out; have := HK2.out; have := HK3.out; omega⟩, ⟨by (with_reducible repeat (first | apply Kd.R_alloc | apply Kd.R_drewN | apply Kd.R_drew)); exact HO_302001.out⟩, ⟨by (with_reducible repeat (first | apply Kd.R_alloc | apply Kd.R_drewN | apply Kd.R_drew)); exact HO_302002.out⟩, ⟨by (with_reducible repeat (first | apply Kd.R_alloc | apply Kd.R_drewN | apply Kd.R_drew)); exact HO_302003.out⟩, ⟨by (with_reducible repeat (first | refine blk_drewN ?_ _ | refine blk_drew ?_ | refine blk_alloc ?_ _)); exact BK301.out⟩, ⟨by repeat (first | (with_reducible first | exact HB.out | apply below_alloc | apply pw_below_drewN | apply below_drew1 | refine below_set ?_ GE301.out) | exact HB.out)⟩⟩
                ·rw [if_neg c93] at H
                 exact absurd H (by simp)
               ·rw [if_neg c92] at H
                exact absurd H (by simp)
              ·rw [if_neg c91] at H
               have c91b0 : decide ((wrap64 ((wrap64 (1 + (wrap64 (Int.tmod a0 20)))) - 1)) < x15_3) = false := decide_eq_false c91
               clear c91
               have H' := Aside0.mk H
               clear H
               have hcz96_0 : wr.cell? ⟨gb301, 0, none⟩ = some (.int .i64 t329) := (blk_cell BK301.out 0).trans rfl
               have hcz96_1 : wr.cell? ⟨gb301, 1, none⟩ = some (.slice Ao67 t330.length co67) := (blk_cell BK301.out 1).trans rfl
               have hcz96_2 : wr.cell? ⟨gb301, 2, none⟩ = some (.slice Ao68 t333.length co68) := (blk_cell BK301.out 2).trans rfl
               have hcz96_3 : wr.cell? ⟨gb301, 3, none⟩ = some (.slice Ao69 t336.length co69) := (blk_cell BK301.out 3).trans rfl
               have hcz96_4 : wr.cell? ⟨gb301, 4, none⟩ = some (.int .i64 t339) := (blk_cell BK301.out 4).trans rfl
               have hcz96_5 : wr.cell? ⟨gb301, 5, none⟩ = some (.bool t340) := (blk_cell BK301.out 5).trans rfl
               have hfz96_0 := blk_frozen BK301.out 0
               have hfz96_1 := blk_frozen BK301.out 1
               have hfz96_2 := blk_frozen BK301.out 2
               have hfz96_3 := blk_frozen BK301.out 3
               have hfz96_4 := blk_frozen BK301.out 4
               have hfz96_5 := blk_frozen BK301.out 5
               go_wp2_with (first | ((with_reducible refine gate_callee (f := 11) rfl ?_); refine goesL_ (some 96) rfl rfl Try.func11 (by kernel_rfl) rfl #[.agg #[.int .i64 t329, .slice Ao67 t330.length co67, .slice Ao68 t333.length co68, .slice Ao69 t336.length co69, .int .i64 t339, .bool t340], .int .i64 x15_3] rfl (by (try simp only [List.map_toArray, List.map_cons, List.map_nil]); first | done | rfl | (simp only [List.length_drop, List.length_take]; rfl)) ?_; (with_reducible refine (device_Read.calls k3 t329 _ _ t330 _ _ t333 _ _ t336 t339 t340 x15_3 t342 t343 _ ?side1 ?side2 ?side3 ?side4 ?side5 ?side6 A71.out).mono ?_); (case side1 => repeat (first | exact (Kd.R_reads' HO_302001.out).2.2 | (with_reducible refine Kd.C_alloc ?_ _) | (with_reducible refine Kd.C_drewN ?_ _) | (with_reducible refine Kd.C_drew ?_))); (case side2 => exact (Kd.R_reads' HO_302001.out).2.1); (case side3 => repeat (first | exact (Kd.R_reads' HO_302002.out).2.2 | (with_reducible refine Kd.C_alloc ?_ _) | (with_reducible refine Kd.C_drewN ?_ _) | (with_reducible refine Kd.C_drew ?_))); (case side4 => exact (Kd.R_reads' HO_302002.out).2.1); (case side5 => repeat (first | exact (Kd.R_reads' HO_302003.out).2.2 | (with_reducible refine Kd.C_alloc ?_ _) | (with_reducible refine Kd.C_drewN ?_ _) | (with_reducible refine Kd.C_drew ?_))); (case side6 => exact (Kd.R_reads' HO_302003.out).2.1); rintro e w97 ⟨rfl, hb⟩; refine ⟨_, rfl, ?_⟩; have n0_ := Aside0.mk (Kd.R_below (by (with_reducible repeat (first | apply Kd.R_alloc | apply Kd.R_drewN | apply Kd.R_drew)); exact HO_302001.out) hb); have n1_ := Aside0.mk (Kd.R_below (by (with_reducible repeat (first | apply Kd.R_alloc | apply Kd.R_drewN | apply Kd.R_drew)); exact HO_302002.out) hb); have n2_ := Aside0.mk (Kd.R_below (by (with_reducible repeat (first | apply Kd.R_alloc | apply Kd.R_drewN | apply Kd.R_drew)); exact HO_302003.out) hb); have n3_ := Aside0.mk (blk_below (g := gb301) (o := .cells #[.int .i64 t329, .slice Ao67 t330.length co67, .slice Ao68 t333.length co68, .slice Ao69 t336.length co69, .int .i64 t339, .bool t340] 26 (0, 0)) (by (with_reducible repeat (first | refine blk_drewN ?_ _ | refine blk_drew ?_ | refine blk_alloc ?_ _)); exact BK301.out) hb); have n4_ := Aside0.mk (below_step (by repeat (first | (with_reducible first | exact HB.out | apply below_alloc | apply pw_below_drewN | apply below_drew1 | refine below_set ?_ GE301.out) | exact HB.out)) hb); clear HO_302001; clear HO_302002; clear HO_302003; clear BK301; clear HB; have HO_302001 := n0_; have HO_302002 := n1_; have HO_302003 := n2_; have BK301 := n3_; have HB := n4_; clear n0_ n1_ n2_ n3_ n4_; (try clear hb); (try clear hb2); (try clear hk); (try clear hi)))
               go_roundg k3
               case measure => have := HJ7.out; have := HK2.out; have := HK3.out; omega
               case rel => exact ⟨(wrap64 (x15_3 + 1)), (by first | rfl | (simp; done) | (simp [*]; done)), H', ⟨by have := HJ7.out; have := HK2.out; have := HK3.out; omega⟩, ⟨by (with_reducible repeat (first | apply Kd.R_alloc | apply Kd.R_drewN | apply Kd.R_drew)); exact HO_302001.out⟩, ⟨by (with_reducible repeat (first | apply Kd.R_alloc | apply Kd.R_drewN | apply Kd.R_drew)); exact HO_302002.out⟩, ⟨by (with_reducible repeat (first | apply Kd.R_alloc | apply Kd.R_drewN | apply Kd.R_drew)); exact HO_302003.out⟩, ⟨by (with_reducible repeat (first | refine blk_drewN ?_ _ | refine blk_drew ?_ | refine blk_alloc ?_ _)); exact BK301.out⟩, ⟨by repeat (first | (with_reducible first | exact HB.out | apply below_alloc | apply pw_below_drewN | apply below_drew1 | refine below_set ?_ GE301.out) | exact HB.out)⟩⟩
             ·rw [if_neg c90] at H
              exact absurd H (by simp)
            ·rw [if_neg c89] at H
             have c89b0 : (x15_3 == (wrap64 ((wrap64 (1 + (wrap64 (Int.tmod a0 20)))) - 1))) = false := beq_eq_false_iff_ne.mpr c89
             have c89b1 : (x15_3 != (wrap64 ((wrap64 (1 + (wrap64 (Int.tmod a0 20)))) - 1))) = true := bne_iff_ne.mpr c89
             by_cases c98 : x15_3 > (wrap64 ((wrap64 (1 + (wrap64 (Int.tmod a0 20)))) - 1))
             ·rw [if_pos c98] at H
              have c98b0 : decide ((wrap64 ((wrap64 (1 + (wrap64 (Int.tmod a0 20)))) - 1)) < x15_3) = true := decide_eq_true c98
              clear c98
              by_cases c99 : t343 = 0
              ·rw [if_pos c99] at H
               have c99b0 : (t343 == 0) = true := beq_iff_eq.mpr c99
               have c99b1 : (t343 != 0) = false := bne_eq_false_iff_eq.mpr c99
               clear c99
               by_cases c100 : t342.toList = ([] : List UInt8)
               ·rw [if_pos c100] at H
                have c100b0 : (t342.toList == ([] : List UInt8)) = true := beq_iff_eq.mpr c100
                have c100b1 : (t342.toList != ([] : List UInt8)) = false := bne_eq_false_iff_eq.mpr c100
                clear c100
                have H' := Aside0.mk H
                clear H
                have hcz101_0 : wr.cell? ⟨gb301, 0, none⟩ = some (.int .i64 t329) := (blk_cell BK301.out 0).trans rfl
                have hcz101_1 : wr.cell? ⟨gb301, 1, none⟩ = some (.slice Ao67 t330.length co67) := (blk_cell BK301.out 1).trans rfl
                have hcz101_2 : wr.cell? ⟨gb301, 2, none⟩ = some (.slice Ao68 t333.length co68) := (blk_cell BK301.out 2).trans rfl
                have hcz101_3 : wr.cell? ⟨gb301, 3, none⟩ = some (.slice Ao69 t336.length co69) := (blk_cell BK301.out 3).trans rfl
                have hcz101_4 : wr.cell? ⟨gb301, 4, none⟩ = some (.int .i64 t339) := (blk_cell BK301.out 4).trans rfl
                have hcz101_5 : wr.cell? ⟨gb301, 5, none⟩ = some (.bool t340) := (blk_cell BK301.out 5).trans rfl
                have hfz101_0 := blk_frozen BK301.out 0
                have hfz101_1 := blk_frozen BK301.out 1
                have hfz101_2 := blk_frozen BK301.out 2
                have hfz101_3 := blk_frozen BK301.out 3
                have hfz101_4 := blk_frozen BK301.out 4
                have hfz101_5 := blk_frozen BK301.out 5
                go_wp2_with (first | ((with_reducible refine gate_callee (f := 11) rfl ?_); refine goesL_ (some 96) rfl rfl Try.func11 (by kernel_rfl) rfl #[.agg #[.int .i64 t329, .slice Ao67 t330.length co67, .slice Ao68 t333.length co68, .slice Ao69 t336.length co69, .int .i64 t339, .bool t340], .int .i64 x15_3] rfl (by (try simp only [List.map_toArray, List.map_cons, List.map_nil]); first | done | rfl | (simp only [List.length_drop, List.length_take]; rfl)) ?_; (with_reducible refine (device_Read.calls k3 t329 _ _ t330 _ _ t333 _ _ t336 t339 t340 x15_3 t342 t343 _ ?side1 ?side2 ?side3 ?side4 ?side5 ?side6 A71.out).mono ?_); (case side1 => repeat (first | exact (Kd.R_reads' HO_302001.out).2.2 | (with_reducible refine Kd.C_alloc ?_ _) | (with_reducible refine Kd.C_drewN ?_ _) | (with_reducible refine Kd.C_drew ?_))); (case side2 => exact (Kd.R_reads' HO_302001.out).2.1); (case side3 => repeat (first | exact (Kd.R_reads' HO_302002.out).2.2 | (with_reducible refine Kd.C_alloc ?_ _) | (with_reducible refine Kd.C_drewN ?_ _) | (with_reducible refine Kd.C_drew ?_))); (case side4 => exact (Kd.R_reads' HO_302002.out).2.1); (case side5 => repeat (first | exact (Kd.R_reads' HO_302003.out).2.2 | (with_reducible refine Kd.C_alloc ?_ _) | (with_reducible refine Kd.C_drewN ?_ _) | (with_reducible refine Kd.C_drew ?_))); (case side6 => exact (Kd.R_reads' HO_302003.out).2.1); rintro e w102 ⟨rfl, hb⟩; refine ⟨_, rfl, ?_⟩; have n0_ := Aside0.mk (Kd.R_below (by (with_reducible repeat (first | apply Kd.R_alloc | apply Kd.R_drewN | apply Kd.R_drew)); exact HO_302001.out) hb); have n1_ := Aside0.mk (Kd.R_below (by (with_reducible repeat (first | apply Kd.R_alloc | apply Kd.R_drewN | apply Kd.R_drew)); exact HO_302002.out) hb); have n2_ := Aside0.mk (Kd.R_below (by (with_reducible repeat (first | apply Kd.R_alloc | apply Kd.R_drewN | apply Kd.R_drew)); exact HO_302003.out) hb); have n3_ := Aside0.mk (blk_below (g := gb301) (o := .cells #[.int .i64 t329, .slice Ao67 t330.length co67, .slice Ao68 t333.length co68, .slice Ao69 t336.length co69, .int .i64 t339, .bool t340] 26 (0, 0)) (by (with_reducible repeat (first | refine blk_drewN ?_ _ | refine blk_drew ?_ | refine blk_alloc ?_ _)); exact BK301.out) hb); have n4_ := Aside0.mk (below_step (by repeat (first | (with_reducible first | exact HB.out | apply below_alloc | apply pw_below_drewN | apply below_drew1 | refine below_set ?_ GE301.out) | exact HB.out)) hb); clear HO_302001; clear HO_302002; clear HO_302003; clear BK301; clear HB; have HO_302001 := n0_; have HO_302002 := n1_; have HO_302003 := n2_; have BK301 := n3_; have HB := n4_; clear n0_ n1_ n2_ n3_ n4_; (try clear hb); (try clear hb2); (try clear hk); (try clear hi)))
                go_roundg k3
                case measure => have := HJ7.out; have := HK2.out; have := HK3.out; omega
                case rel => exact ⟨(wrap64 (x15_3 + 1)), (by first | rfl | (simp; done) | (simp [*]; done)), H', ⟨by have := HJ7.out; have := HK2.out; have := HK3.out; omega⟩, ⟨by (with_reducible repeat (first | apply Kd.R_alloc | apply Kd.R_drewN | apply Kd.R_drew)); exact HO_302001.out⟩, ⟨by (with_reducible repeat (first | apply Kd.R_alloc | apply Kd.R_drewN | apply Kd.R_drew)); exact HO_302002.out⟩, ⟨by (with_reducible repeat (first | apply Kd.R_alloc | apply Kd.R_drewN | apply Kd.R_drew)); exact HO_302003.out⟩, ⟨by (with_reducible repeat (first | refine blk_drewN ?_ _ | refine blk_drew ?_ | refine blk_alloc ?_ _)); exact BK301.out⟩, ⟨by repeat (first | (with_reducible first | exact HB.out | apply below_alloc | apply pw_below_drewN | apply below_drew1 | refine below_set ?_ GE301.out) | exact HB.out)⟩⟩
               ·rw [if_neg c100] at H
                exact absurd H (by simp)
              ·rw [if_neg c99] at H
               exact absurd H (by simp)
             ·rw [if_neg c98] at H
              have c98b0 : decide ((wrap64 ((wrap64 (1 + (wrap64 (Int.tmod a0 20)))) - 1)) < x15_3) = false := decide_eq_false c98
              clear c98
              have H' := Aside0.mk H
              clear H
              have hcz103_0 : wr.cell? ⟨gb301, 0, none⟩ = some (.int .i64 t329) := (blk_cell BK301.out 0).trans rfl
              have hcz103_1 : wr.cell? ⟨gb301, 1, none⟩ = some (.slice Ao67 t330.length co67) := (blk_cell BK301.out 1).trans rfl
              have hcz103_2 : wr.cell? ⟨gb301, 2, none⟩ = some (.slice Ao68 t333.length co68) := (blk_cell BK301.out 2).trans rfl
              have hcz103_3 : wr.cell? ⟨gb301, 3, none⟩ = some (.slice Ao69 t336.length co69) := (blk_cell BK301.out 3).trans rfl
              have hcz103_4 : wr.cell? ⟨gb301, 4, none⟩ = some (.int .i64 t339) := (blk_cell BK301.out 4).trans rfl
              have hcz103_5 : wr.cell? ⟨gb301, 5, none⟩ = some (.bool t340) := (blk_cell BK301.out 5).trans rfl
              have hfz103_0 := blk_frozen BK301.out 0
              have hfz103_1 := blk_frozen BK301.out 1
              have hfz103_2 := blk_frozen BK301.out 2
              have hfz103_3 := blk_frozen BK301.out 3
              have hfz103_4 := blk_frozen BK301.out 4
              have hfz103_5 := blk_frozen BK301.out 5
              go_wp2_with (first | ((with_reducible refine gate_callee (f := 11) rfl ?_); refine goesL_ (some 96) rfl rfl Try.func11 (by kernel_rfl) rfl #[.agg #[.int .i64 t329, .slice Ao67 t330.length co67, .slice Ao68 t333.length co68, .slice Ao69 t336.length co69, .int .i64 t339, .bool t340], .int .i64 x15_3] rfl (by (try simp only [List.map_toArray, List.map_cons, List.map_nil]); first | done | rfl | (simp only [List.length_drop, List.length_take]; rfl)) ?_; (with_reducible refine (device_Read.calls k3 t329 _ _ t330 _ _ t333 _ _ t336 t339 t340 x15_3 t342 t343 _ ?side1 ?side2 ?side3 ?side4 ?side5 ?side6 A71.out).mono ?_); (case side1 => repeat (first | exact (Kd.R_reads' HO_302001.out).2.2 | (with_reducible refine Kd.C_alloc ?_ _) | (with_reducible refine Kd.C_drewN ?_ _) | (with_reducible refine Kd.C_drew ?_))); (case side2 => exact (Kd.R_reads' HO_302001.out).2.1); (case side3 => repeat (first | exact (Kd.R_reads' HO_302002.out).2.2 | (with_reducible refine Kd.C_alloc ?_ _) | (with_reducible refine Kd.C_drewN ?_ _) | (with_reducible refine Kd.C_drew ?_))); (case side4 => exact (Kd.R_reads' HO_302002.out).2.1); (case side5 => repeat (first | exact (Kd.R_reads' HO_302003.out).2.2 | (with_reducible refine Kd.C_alloc ?_ _) | (with_reducible refine Kd.C_drewN ?_ _) | (with_reducible refine Kd.C_drew ?_))); (case side6 => exact (Kd.R_reads' HO_302003.out).2.1); rintro e w104 ⟨rfl, hb⟩; refine ⟨_, rfl, ?_⟩; have n0_ := Aside0.mk (Kd.R_below (by (with_reducible repeat (first | apply Kd.R_alloc | apply Kd.R_drewN | apply Kd.R_drew)); exact HO_302001.out) hb); have n1_ := Aside0.mk (Kd.R_below (by (with_reducible repeat (first | apply Kd.R_alloc | apply Kd.R_drewN | apply Kd.R_drew)); exact HO_302002.out) hb); have n2_ := Aside0.mk (Kd.R_below (by (with_reducible repeat (first | apply Kd.R_alloc | apply Kd.R_drewN | apply Kd.R_drew)); exact HO_302003.out) hb); have n3_ := Aside0.mk (blk_below (g := gb301) (o := .cells #[.int .i64 t329, .slice Ao67 t330.length co67, .slice Ao68 t333.length co68, .slice Ao69 t336.length co69, .int .i64 t339, .bool t340] 26 (0, 0)) (by (with_reducible repeat (first | refine blk_drewN ?_ _ | refine blk_drew ?_ | refine blk_alloc ?_ _)); exact BK301.out) hb); have n4_ := Aside0.mk (below_step (by repeat (first | (with_reducible first | exact HB.out | apply below_alloc | apply pw_below_drewN | apply below_drew1 | refine below_set ?_ GE301.out) | exact HB.out)) hb); clear HO_302001; clear HO_302002; clear HO_302003; clear BK301; clear HB; have HO_302001 := n0_; have HO_302002 := n1_; have HO_302003 := n2_; have BK301 := n3_; have HB := n4_; clear n0_ n1_ n2_ n3_ n4_; (try clear hb); (try clear hb2); (try clear hk); (try clear hi)))
              go_roundg k3
              case measure => have := HJ7.out; have := HK2.out; have := HK3.out; omega
              case rel => exact ⟨(wrap64 (x15_3 + 1)), (by first | rfl | (simp; done) | (simp [*]; done)), H', ⟨by have := HJ7.out; have := HK2.out; have := HK3.out; omega⟩, ⟨by (with_reducible repeat (first | apply Kd.R_alloc | apply Kd.R_drewN | apply Kd.R_drew)); exact HO_302001.out⟩, ⟨by (with_reducible repeat (first | apply Kd.R_alloc | apply Kd.R_drewN | apply Kd.R_drew)); exact HO_302002.out⟩, ⟨by (with_reducible repeat (first | apply Kd.R_alloc | apply Kd.R_drewN | apply Kd.R_drew)); exact HO_302003.out⟩, ⟨by (with_reducible repeat (first | refine blk_drewN ?_ _ | refine blk_drew ?_ | refine blk_alloc ?_ _)); exact BK301.out⟩, ⟨by repeat (first | (with_reducible first | exact HB.out | apply below_alloc | apply pw_below_drewN | apply below_drew1 | refine below_set ?_ GE301.out) | exact HB.out)⟩⟩
          ·rw [if_neg c70] at H
           have c70b0 : decide (x15_3 < 40) = false := decide_eq_false c70
           clear c70
           obtain rfl := Option.some.inj H
           go_wp2
           go_ret
           exact ⟨by first | rfl | (simp [errW_none, errW_some] <;> rfl) | (simp [*, errW_none, errW_some] <;> rfl), by repeat (first | (with_reducible first | exact HB.out | apply below_alloc | apply pw_below_drewN | apply below_drew1 | refine below_set ?_ GE301.out) | exact HB.out)⟩
 ·replace c5 := Bool.eq_false_iff.mpr c5
  subst c5
  have H1 : (none) = some r := by rw [if_neg (show ¬ (false = true) by decide)] at H; exact H
  clear H
  have H := H1
  clear H1
  exact absurd H (by simp)

/-- THE ONE PURE STATEMENT of storagebarterlaw10_DeviceFuses: yours. -/
def storagebarterlaw10_DeviceFuses.Pure : Prop := ∀ (a0 : Int) (a1 : Int) (a2 : Int), (Lit.int .u8 a0).wf = true → (Lit.int .u8 a1).wf = true → (Lit.int .u8 a2).wf = true → ∃ k, storagebarterlaw10_DeviceFuses.f k a0 a1 a2 = some true
theorem storagebarterlaw10_DeviceFuses.walk (P : storagebarterlaw10_DeviceFuses.Pure) (a0 : Int) (a1 : Int) (a2 : Int) (w : World) (w0 : (Lit.int .u8 a0).wf = true) (w1 : (Lit.int .u8 a1).wf = true) (w2 : (Lit.int .u8 a2).wf = true) :
  Calls Try.prog 3 #[.int .u8 a0, .int .u8 a1, .int .u8 a2] w fun e w' => e = .returned (.bool true) ∧ Below w.heap.size w w' := by
 obtain ⟨k, h⟩ := P a0 a1 a2 w0 w1 w2
 refine (storagebarterlaw10_DeviceFuses.calls k a0 a1 a2 true w h).mono ?_
 rintro e w' ⟨rfl, hd⟩
 exact ⟨rfl, hd⟩

end Go.Proofs.Ythlpjnbpdafjeaa.PA
