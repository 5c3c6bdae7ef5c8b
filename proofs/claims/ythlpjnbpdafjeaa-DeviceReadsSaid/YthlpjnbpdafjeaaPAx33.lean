-- Written by a program of this claim's own (hookprint.py), after the pattern of the kit's print. Lean checks it.
import Derived.Test.YthlpjnbpdafjeaaPAx0
import Derived.Test.YthlpjnbpdafjeaaPAx28
import Derived.Test.YthlpjnbpdafjeaaPAx30
namespace Go.Proofs.Ythlpjnbpdafjeaa.PA
open Go.RowKit Go.Proofs.YthlpjnbpdafjeaaW.PrintWords Go.Proofs.YthlpjnbpdafjeaaW.PrintLast Go.Proofs.YthlpjnbpdafjeaaW.PrintMore
attribute [local go_sem ↓] some_setCell
attribute [local go_sem] max2_int min2_int max_two min_two max_three min_three max_four min_four   -- for this text's walks alone
set_option linter.unusedVariables false
set_option linter.unusedSimpArgs false

def storagebartermake_Text.l0 : Nat → List Int → Int → List Int → Int → Option (ByteArray × Int)
 | 0, _, _, _, _ => none
 | k + 1, x5, x6, x1000, x1001 => if x6 > 0 then ((storagebartermake_Deck_Next.f x1000 x1001 5).bind fun a6_ => (if x5.length < 140737488355328 then (storagebartermake_Text.l0 k (x5 ++ [(wrap64 (a6_.1 * 51)) % 256]) (wrap64 (x6 - 1)) x1000 a6_.2) else (none))) else (some (strOfNums x5, x1001))
def storagebartermake_Text.f (k : Nat) (s0_0 : List Int) (s0_1 : Int) (a1 : Int) : Option (ByteArray × Int) := (storagebartermake_Deck_Next.f s0_0 s0_1 (wrap64 (a1 + 1))).bind fun a2_ => (storagebartermake_Text.l0 k ([] : List Int) a2_.1 s0_0 a2_.2)
theorem storagebartermake_Text.iq0F {w0 W : World} {g h j : Nat} {f0 : List Int} {f1 : Int} (h0 : IsS54 w0 W g f0 f1) (hne : Aside0 (g ≠ h)) (u : Value) : IsS54 w0 (W.setCell ⟨h, j, none⟩ u) g f0 f1 := IsS54.far h0 hne.out u
theorem storagebartermake_Text.iq0 {w0 W : World} {g : Nat} {f0 : List Int} {f1 : Int} (h : IsS54 w0 W g f0 f1 := by repeat (first | (with_reducible first | exact HI0.out | apply IsS54.alloc | apply IsS54.drewN | apply IsS54.drew | apply IsS54.set_1 | refine storagebartermake_Text.iq0F ?_ ‹_› _) | exact HI0.out)) : IsS54 w0 W g f0 f1 := h
theorem storagebartermake_Text.bq0 {w W : World} (h : Below w.heap.size w W := by repeat (first | (with_reducible first | exact HB.out | apply uA | apply uN | apply uD | refine uS ?_ (IsS54.ge HI0.out) | refine uS2 ?_ ‹_›) | exact HB.out)) : Below w.heap.size w W := h
set_option maxHeartbeats 8000000 in
set_option maxRecDepth 100000 in
theorem storagebartermake_Text.calls (k : Nat) (g : Nat) (s0_0 : List Int) (s0_1 : Int) (a1 : Int) (r1 : ByteArray) (r2 : Int) (w0 w : World) (hI : IsS54 w0 w g s0_0 s0_1) (hB : Below w0.heap.size w0 w) (h : storagebartermake_Text.f k s0_0 s0_1 a1 = some (r1, r2)) :
  Calls Try.prog 17 #[.pointer (some ⟨g, 0, none⟩), .int .i64 a1] w fun e w' => e = .returned (.string r1) ∧ IsS54 w0 w' g s0_0 r2 ∧ Below w0.heap.size w0 w' ∧ KeepBut w w' g none := by
 have HI0 := As hI; have HK := As (KeepBut.refl w g none); have HL := As hB.size; clear hI; have HW0 := As hB.size; have HB := As hB; clear hB; have H : ((storagebartermake_Deck_Next.f s0_0 s0_1 (wrap64 (a1 + 1))).bind fun a2_ => (storagebartermake_Text.l0 k ([] : List Int) a2_.1 s0_0 a2_.2)) = some (r1, r2) := h; clear h; replace H := Option.bind_eq_some_iff.mp H; obtain ⟨⟨a7_, a8_⟩, A30, H⟩ := H; (try dsimp only at H); have A3 := As A30; clear A30; have H' := As H; clear H; go_enter Try.func17, Try.ntmps17
 go_wp2_with (first | ((with_reducible refine gate_callee (f := 14) rfl ?_); refine gL (some 10) Try.func14 #[.pointer (some ⟨g, 0, none⟩), (wrap64 (a1 + 1))] ?_; (with_reducible refine (storagebartermake_Deck_Next.calls g s0_0 s0_1 (wrap64 (a1 + 1)) a7_ a8_ w0 _ ?side1 ?side2 A3.out).mono ?_); (case side1 => exact storagebartermake_Text.iq0); (case side2 => exact storagebartermake_Text.bq0); rintro e w4 ⟨rfl, hi, hb, hk⟩; refine ⟨_, rfl, ?_⟩; replace HK := As (KeepBut.trans hKq hk (.inl rfl)); replace HB := As (hb); replace HI0 := As (hi); (try clear hb); (try clear hk); (try clear hi)))
 go_loopg [5, 6] k (fun kq v5 v6 w' => ∃ (a3_ : List Int) (a1_ : Int) (a0_ : Int), v6 = .int .i64 a1_ ∧ Aside0 (storagebartermake_Text.l0 kq a3_ a1_ s0_0 a0_ = some (r1, r2)) ∧ Aside0 (kq ≤ k) ∧ Aside0 (Kd.R (Kd.int .u8) 5 w' w.heap.size (fun _ => True) v5 a3_) ∧ Aside0 (IsS54 w0 w' g s0_0 a0_) ∧ Aside0 (KeepBut w w' g none) ∧ Aside0 (Below w0.heap.size w0 w'))
 case atStart => exact ⟨(([] : List Int)), (a7_), (a8_), (by first | rfl | (simp; done) | (simp [*]; done)), H', ⟨Nat.le_refl _⟩, ⟨by first | exact Kd.R_nil _ _ _ _ _ | exact Kd.N_nil _ _ _ _ _ | exact Kd.V_nil _ _ _ _ _ | exact Kd.Q_nil _ _ _ _ _ | exact Kd.S_nil _ _ _ _ _⟩, ⟨storagebartermake_Text.iq0⟩, ⟨hKq⟩, ⟨storagebartermake_Text.bq0⟩⟩
 case round =>
  clear H'; (try clear c1); (try clear p2); obtain ⟨a3_, a1_, a0_, rfl, HA, HK1, HO_5, HI0, HK, HB⟩ := hrel
  cases gk with
  | zero => exact absurd HA.out (by simp [storagebartermake_Text.l0])
  | succ k1 =>
   have H := HA.out; clear HA; simp only [storagebartermake_Text.l0] at H
   by_cases c5 : a1_ > 0
   ·rw [if_pos c5] at H
    have b1_ : decide (0 < a1_) = true := decide_eq_true c5; clear c5; replace H := Option.bind_eq_some_iff.mp H; obtain ⟨⟨a4_, a5_⟩, A60, H⟩ := H; (try dsimp only at H); have A6 := As A60; clear A60
    by_cases c7 : a3_.length < 140737488355328
    ·rw [if_pos c7] at H
     have LMc7 := As c7; clear c7; obtain ⟨a9_, hy373⟩ : ∃ y_ : List Int, y_ = (a3_ ++ [(wrap64 (a4_ * 51)) % 256]) := ⟨_, rfl⟩; (replace H : (storagebartermake_Text.l0 k1 a9_ (wrap64 (a1_ - 1)) s0_0 a5_) = some (r1, r2) := by first | (rw [hy373]; with_reducible exact H) | (have H2_ := (Option.bind_some _ _).symm.trans H; rw [hy373]; with_reducible exact H2_) | (have H2_ := (Option.bind_some _ _).symm.trans H; with_reducible exact H2_) | with_reducible exact H | (rw [hy373]; exact H) | exact H); have Ny373 := As hy373; clear hy373; have H' := As H; clear H
     go_wp2_with (first | ((with_reducible refine gate_callee (f := 14) rfl ?_); refine gL (some 17) Try.func14 #[.pointer (some ⟨g, 0, none⟩), .int .i64 5] ?_; (with_reducible refine (storagebartermake_Deck_Next.calls g s0_0 a0_ 5 a4_ a5_ w0 _ ?side1 ?side2 A6.out).mono ?_); (case side1 => exact storagebartermake_Text.iq0); (case side2 => exact storagebartermake_Text.bq0); rintro e w8 ⟨rfl, hi, hb, hk⟩; refine ⟨_, rfl, ?_⟩; replace HO_5 := As (Kd.R_mono (Kd.R_keep (IsS54.apart (show IsS54 w0 _ g s0_0 a0_ from storagebartermake_Text.iq0) (rqR HO_5) (by decide)) hk (fun _ h => h.2)) (fun _ h => h.1)); replace HK := As (KeepBut.trans hKq hk (.inl rfl)); replace HB := As (hb); replace HI0 := As (hi); (try clear hb); (try clear hk); (try clear hi)) | ((with_reducible refine gate_builtin (b := .append) (xs := #[.tmp 15, .tmp 20]) rfl ?_); at_builtin; refine Kd.R_append (Kd.int .u8) w.heap.size rfl (.tmp 15) (.tmp 20) 55 5 (.int .u8 0) 1 rfl Try.underlying55 info5 rfl (by decide) (by omega) u5 a3_ ((wrap64 (a4_ * 51)) % 256) [.int .u8 ((wrap64 (a4_ * 51)) % 256)] (fun _ => True) (fun _ => False) rfl rfl ?aP (fun _ hk => hk.elim) ?aF ?aO (Below.refl _ _) ?aS ?aL ?_; (case aP => exact rfl); (case aF => exact (fun _ _ => trivial)); (case aO => exact (rqR HO_5)); (case aS => exact (keep_size (w := w) (g := g) (row := none) hKq)); (case aL => have := LMc7.out; omega); intro b3_ w9 ho hb hg hat; rw [← Ny373.out] at ho; replace HB := As (below_weaken (storagebartermake_Text.bq0) HL.out hb); replace HI0 := As (IsS54.grown (show IsS54 w0 _ g s0_0 a5_ from storagebartermake_Text.iq0) hg (IsS54.own_ne HI0.out HO_5.out (by decide))); replace HK := As (KeepBut.trans hKq (KeepBut.of_grown hg g) (Kd.R_base2 HO_5.out)); have b0_ := As (ho); clear HO_5; clear ho hb hg hat))
     go_roundg k1
     case measure => have := HK1.out; omega
     case rel => exact ⟨(a9_), (wrap64 (a1_ - 1)), (a5_), (by first | rfl | (simp; done) | (simp [*]; done)), H', ⟨by have := HK1.out; omega⟩, ⟨by (with_reducible repeat (first | apply Kd.R_alloc | apply Kd.R_drewN | apply Kd.R_drew)); exact b0_.out⟩, ⟨storagebartermake_Text.iq0⟩, ⟨hKq⟩, ⟨storagebartermake_Text.bq0⟩⟩
    ·rw [if_neg c7] at H
     exact absurd H (by simp)
   ·rw [if_neg c5] at H
    have b1_ : decide (0 < a1_) = false := decide_eq_false c5; clear c5; simp only [Option.some.injEq, Prod.mk.injEq] at H; obtain ⟨rfl, rfl⟩ := H; have b2_ := own_string (P := Try.prog) Try.underlying55 Try.underlying5 Try.underlying9 (Kd.own_of_R HO_5.out); go_wp2; go_ret; exact ⟨erq, storagebartermake_Text.iq0, storagebartermake_Text.bq0, hKq⟩

end Go.Proofs.Ythlpjnbpdafjeaa.PA
