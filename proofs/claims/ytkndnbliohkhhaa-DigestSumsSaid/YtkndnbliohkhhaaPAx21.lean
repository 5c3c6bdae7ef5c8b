-- Written by a program of this claim's own (hookprint.py), after the pattern of the kit's print. Lean checks it.
import Derived.Test.YtkndnbliohkhhaaPAx0
import Derived.Test.YtkndnbliohkhhaaPAx20
namespace Go.Proofs.Ytkndnbliohkhhaa.PA
open Go.RowKit Go.Proofs.YtkndnbliohkhhaaW.PrintWords Go.Proofs.YtkndnbliohkhhaaW.PrintLast Go.Proofs.YtkndnbliohkhhaaW.PrintMore
attribute [local go_sem ↓] some_setCell
attribute [local go_sem] max2_int min2_int max_two min_two max_three min_three max_four min_four   -- for this text's walks alone
set_option linter.unusedVariables false
set_option linter.unusedSimpArgs false

def storagebarterref01_PutList.l0 : Nat → ByteArray → List Int → Int → Int → Option (ByteArray)
 | 0, _, _, _, _ => none
 | k + 1, x0, x11, x12, x13 => if x13 < x12 then (if 0 ≤ x13 then (if x13 < (x11.length : Int) then ((storagebarterref01_PutInt.f k x0 (rd x11 x13)).bind fun t158 => (storagebarterref01_PutList.l0 k t158 x11 x12 (wrap64 (x13 + 1)))) else (none)) else (none)) else (some x0)
def storagebarterref01_PutList.f (k : Nat) (a0 : ByteArray) (l1 : List Int) : Option (ByteArray) := (storagebarterref01_PutInt.f k a0 (l1.length : Int)).bind fun t156 => (storagebarterref01_PutList.l0 k t156 l1 (l1.length : Int) 0)
set_option maxHeartbeats 8000000 in
set_option maxRecDepth 100000 in
theorem storagebarterref01_PutList.calls (k : Nat) (a0 : ByteArray) (A1 : Option Addr) (c1 : Nat) (l1 : List Int) (r : ByteArray) (w : World) (hr1 : Kd.C (Kd.int .i64) w A1 l1.length l1) (hc1 : l1.length ≤ c1) (h : storagebarterref01_PutList.f k a0 l1 = some r) :
  Calls Try.prog 23 #[.string a0, .slice A1 l1.length c1] w fun e w' => e = .returned (.string r) ∧ Below w.heap.size w w' := by
 have HR1 := As hr1; have HC1 := As hc1; clear hr1 hc1; have HB := As (Below.refl w.heap.size w); have H : ((storagebarterref01_PutInt.f k a0 (l1.length : Int)).bind fun t156 => (storagebarterref01_PutList.l0 k t156 l1 (l1.length : Int) 0)) = some r := h; clear h; replace H := Option.bind_eq_some_iff.mp H; obtain ⟨t156, A30, H⟩ := H; (try dsimp only at H); have A3 := As A30; clear A30; have H' := As H; clear H; go_enter Try.func23, Try.ntmps23; go_wp2_with (first | ((with_reducible refine gate_callee (f := 25) rfl ?_); refine goesL_ (some 10) rfl rfl Try.func25 (by kernel_rfl) rfl #[.string a0, .int .i64 (l1.length : Int)] rfl (by (try simp only [m1, m2, m3]); first | done | rfl | (simp only [m4, m5]; rfl)) ?_; (with_reducible refine (storagebarterref01_PutInt.calls k a0 (l1.length : Int) t156 _ A3.out).mono ?_); rintro e w4 ⟨rfl, hb⟩; refine ⟨_, rfl, ?_⟩; replace HB := sBq hb; (try clear hb); (try clear hb2); (try clear hk); (try clear hi)))
 go_loopg [0, 13] k (fun kq v0 v13 w' => ∃ (x0_1 : ByteArray) (x13_1 : Int), v0 = .string x0_1 ∧ v13 = .int .i64 x13_1 ∧ Aside0 (storagebarterref01_PutList.l0 kq x0_1 l1 (l1.length : Int) x13_1 = some r) ∧ Aside0 (kq ≤ k) ∧ Aside0 (Below w.heap.size w w'))
 case atStart => exact ⟨(t156), (0), (by first | rfl | (simp; done) | (simp [*]; done)), (by first | rfl | (simp; done) | (simp [*]; done)), H', ⟨Nat.le_refl _⟩, ⟨hBq⟩⟩
 case round =>
  clear H'; (try clear c1); (try clear c2); (try clear p2); obtain ⟨x0_1, x13_1, rfl, rfl, HA, HK1, HB⟩ := hrel
  cases gk with
  | zero => exact absurd HA.out (by simp [storagebarterref01_PutList.l0])
  | succ k1 =>
   have H := HA.out; clear HA; simp only [storagebarterref01_PutList.l0] at H
   by_cases c5 : x13_1 < (l1.length : Int)
   ·rw [if_pos c5] at H
    have c5b0 : decide (x13_1 < (l1.length : Int)) = true := decide_eq_true c5; clear c5
    by_cases c6 : 0 ≤ x13_1
    ·rw [if_pos c6] at H
     have c6b0 : decide (0 ≤ x13_1) = true := decide_eq_true c6; clear c6
     by_cases c7 : x13_1 < (l1.length : Int)
     ·rw [if_pos c7] at H
      have c7b0 : decide (x13_1 < (l1.length : Int)) = true := decide_eq_true c7; clear c7; replace H := Option.bind_eq_some_iff.mp H; obtain ⟨t158, A80, H⟩ := H; (try dsimp only at H); have A8 := As A80; clear A80; have H' := As H; clear H; have p157 : 0 ≤ (x13_1 : Int) := of_decide_eq_true (by first | (with_reducible assumption) | assumption); have q157 : x13_1 < (l1.length : Int) := of_decide_eq_true (by first | (with_reducible assumption) | assumption); obtain ⟨ad157, e157, hx157_0⟩ := Kd.at_int HR1.out x13_1 p157 q157; cases e157; replace hx157_0 := (HB.out.cell (World.block_lt_of_cell? w _ hx157_0)).trans hx157_0; replace p157 := eq_true p157; replace q157 := eq_true q157
      go_wp2_with (first | ((with_reducible refine gate_callee (f := 25) rfl ?_); refine goesL_ (some 19) rfl rfl Try.func25 (by kernel_rfl) rfl #[.string x0_1, .int .i64 (rd l1 x13_1)] rfl (by (try simp only [m1, m2, m3]); first | done | rfl | (simp only [m4, m5]; rfl)) ?_; (with_reducible refine (storagebarterref01_PutInt.calls k1 x0_1 (rd l1 x13_1) t158 _ A8.out).mono ?_); rintro e w9 ⟨rfl, hb⟩; refine ⟨_, rfl, ?_⟩; replace HB := sBq hb; (try clear hb); (try clear hb2); (try clear hk); (try clear hi))); go_roundg k1
      case measure => have := HK1.out; omega
      case rel => exact ⟨(t158), (wrap64 (x13_1 + 1)), (by first | rfl | (simp; done) | (simp [*]; done)), (by first | rfl | (simp; done) | (simp [*]; done)), H', ⟨by have := HK1.out; omega⟩, ⟨hBq⟩⟩
     ·rw [if_neg c7] at H
      exact absurd H (by simp)
    ·rw [if_neg c6] at H
     exact absurd H (by simp)
   ·rw [if_neg c5] at H
    have c5b0 : decide (x13_1 < (l1.length : Int)) = false := decide_eq_false c5; clear c5; obtain rfl := Option.some.inj H; go_wp2; go_ret; exact ⟨erq, hBq⟩

end Go.Proofs.Ytkndnbliohkhhaa.PA
