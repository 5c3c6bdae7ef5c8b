/- The error at the greatest number of parcels: the plain statement that is left of the law FlightFull. -/
import Derived.Test.YtejhjncobibgmaaFlt
import Derived.Test.YtejhjncobibgmaaPAx0
import Derived.Test.YtejhjncobibgmaaPAx19
import Derived.Test.YtejhjncobibgmaaPAx20
set_option linter.unusedVariables false
namespace Go.Proofs.Ytejhjncobibgmaa.Pure
open Go.RowKit Go.Proofs.Ytejhjncobibgmaa.PA Go.Proofs.YtejhjncobibgmaaW.PrintWords Go.Proofs.YtejhjncobibgmaaW.PrintLast
theorem sane_some (k : Nat) (hk : 40 ≤ k) : storagebarterlaw27_sane.f k = some true := by
  have h40 : storagebarterlaw27_sane.f 40 = some true := by decide +kernel
  have key : ∀ d, storagebarterlaw27_sane.f (40 + d) = some true := by
    intro d
    induction d with
    | zero => exact h40
    | succ d ih => exact storagebarterlaw27_sane.mono _ _ ih
  have := key (k - 40)
  rwa [show 40 + (k - 40) = k by omega] at this
theorem byte_rng {a : Int} (h : (Lit.int .u8 a).wf = true) : 0 ≤ a ∧ a ≤ 255 := by
  simp [Lit.wf, IntKind.min, IntKind.max, IntKind.bits, IntKind.signed] at h
  omega
/-- Parcels that are due at tick 1, numbered from 0 on. -/
def many (n : Nat) : List S27 := (List.range n).map fun (i : Nat) => (⟨1, 2, 1, (i : Int), (⟨#[]⟩ : ByteArray)⟩ : S27)
theorem many_len (n : Nat) : (many n).length = n := by simp [many]
theorem many_more (n : Nat) : many n ++ [(⟨1, 2, 1, (n : Int), (⟨#[]⟩ : ByteArray)⟩ : S27)] = many (n + 1) := by simp [many, List.range_succ]
theorem many_asc (n : Nat) : Asc (many n) := by
  unfold Asc many
  rw [List.pairwise_map]
  refine List.pairwise_lt_range.imp ?_
  intro a b h
  exact .inr ⟨rfl, by show (a : Int) < b; omega⟩
theorem fill (x0 : Int) (m : Nat) (hm : wrap64 (1024 - Int.tmod (wrap64 x0) 2) = m) (hm2 : m = 1024 ∧ Int.tmod x0 2 = 0 ∨ m = 1023 ∧ ¬ Int.tmod x0 2 = 0) (k0 : Nat) (hk0 : 2000 < k0) : ∀ (d i : Nat), i + d = m →
    storagebarterlaw27_FlightFull.l0 (k0 + d + 1) x0 (i : Int) 0 1 5000 (many i) = some true
  | 0, i, hi => by
    obtain rfl : i = m := by omega
    rw [storagebarterlaw27_FlightFull.l0]
    have hs := send_some 0 1 5000 (many i) (many_asc i) (by rw [many_len]; omega) 1 2 0 (⟨#[]⟩ : ByteArray) (by decide) (by decide) (by decide) (by decide) (by decide) (by decide) (by decide) k0 (by rw [many_len]; omega)
    rw [hm, if_neg (by omega)]
    rcases hm2 with ⟨h1, h2⟩ | ⟨h1, h2⟩
    · rw [if_pos (by rw [many_len]; omega)] at hs
      rw [hs, h2]
      simp only [Option.bind_some]
      rw [if_pos (by decide), if_neg (by decide), if_pos trivial, if_pos (by rw [many_len]; omega)]
      rfl
    · have hb : (Int.tmod x0 2 == 0) = false := beq_eq_false_iff_ne.mpr h2
      rw [if_neg (by rw [many_len]; omega)] at hs
      rw [hs, hb]
      rfl
  | d + 1, i, hi => by
    rw [show k0 + (d + 1) + 1 = (k0 + d + 1) + 1 by omega, storagebarterlaw27_FlightFull.l0]
    rw [hm, if_pos (by omega), if_pos (by rw [many_len]; omega), fw64 (by omega) (by omega), many_more, show (i : Int) + 1 = ((i + 1 : Nat) : Int) by omega]
    exact fill x0 m hm hm2 k0 hk0 d (i + 1) (by omega)
theorem FlightFull : storagebarterlaw27_FlightFull.Pure := by
  intro a0 h0
  have r0 := byte_rng h0
  refine ⟨6000, ?_⟩
  obtain ⟨k, hk⟩ : ∃ k, k = 6000 := ⟨_, rfl⟩
  rw [← hk]
  unfold storagebarterlaw27_FlightFull.f
  rw [sane_some k (by omega)]
  simp only [Option.bind_some, if_true]
  have t0 : Int.tmod a0 2 = 0 ∨ Int.tmod a0 2 = 1 := by rw [Int.tmod_eq_emod_of_nonneg r0.1]; omega
  have e1 : wrap64 a0 = a0 := fw64 (by omega) (by omega)
  have many0 : many 0 = [] := rfl
  rcases t0 with h | h
  · obtain ⟨k0, hk0⟩ : ∃ k0, k = k0 + 1024 + 1 := ⟨k - 1025, by omega⟩
    have := fill a0 1024 (by rw [e1, h, fw64 (by decide) (by decide)]; rfl) (.inl ⟨rfl, h⟩) k0 (by omega) 1024 0 (by omega)
    rw [← hk0] at this
    exact this
  · obtain ⟨k0, hk0⟩ : ∃ k0, k = k0 + 1023 + 1 := ⟨k - 1024, by omega⟩
    have := fill a0 1023 (by rw [e1, h, fw64 (by decide) (by decide)]; rfl) (.inr ⟨rfl, by rw [h]; decide⟩) k0 (by omega) 1023 0 (by omega)
    rw [← hk0] at this
    exact this
end Go.Proofs.Ytejhjncobibgmaa.Pure
