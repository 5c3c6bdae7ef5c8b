-- Written by a program of this claim's own (hookprint.py), after the pattern of the kit's print. Lean checks it.
import Derived.Test.YtcgpbmafkgbbdaaDoorPEx0
import Derived.Test.YtcgpbmafkgbbdaaDoorPEx5
import Derived.Test.YtcgpbmafkgbbdaaDoorPEx6
import Derived.Test.YtcgpbmafkgbbdaaDoorRow
namespace Go.Proofs.YtcgpbmafkgbbdaaDoor.PE
open Go.RowKit Go.Proofs.YtcgpbmafkgbbdaaDoorW.PrintWords Go.Proofs.YtcgpbmafkgbbdaaDoorW.PrintLast Go.Proofs.YtcgpbmafkgbbdaaDoorW.PrintMore
attribute [local go_sem] max2_int min2_int max_two min_two max_three min_three max_four min_four   -- for this text's walks alone
set_option linter.unusedVariables false
set_option linter.unusedSimpArgs false

/-! ### lease_Right: function 40, by hand -/
section
-- BY HAND, AS IT STANDS
attribute [local go_sem ↓] some_setCell
attribute [local go_sem] max2_int min2_int max_two min_two
/-- A lease, as it lies in memory. -/
structure Le where
  o : Int
  k : Int
  s : Int
  h : Int
  z : Int
  fr : Int
  un : Int
  rc : Bool
def Le.enc (s : Le) : List Value := [.int .i64 s.o, .int .i64 s.k, .int .i64 s.s, .int .i64 s.h, .int .i64 s.z, .int .i64 s.fr, .int .i64 s.un, .bool s.rc]
/-- A slot of the program: granted, the lease, ended, the greatest D. -/
structure Sl where
  g : Bool
  l : Le
  e : Bool
  top : Int
def Sl.enc (s : Sl) : List Value := [.bool s.g, .int .i64 s.l.o, .int .i64 s.l.k, .int .i64 s.l.s, .int .i64 s.l.h, .int .i64 s.l.z, .int .i64 s.l.fr, .int .i64 s.l.un, .bool s.l.rc, .bool s.e, .int .i64 s.top]
theorem Sl.len (s : Sl) : s.enc.length = 11 := rfl
theorem Le.len (s : Le) : s.enc.length = 8 := rfl
def Sl.inB (s : Sl) (t : Int) : Bool := s.g && (!s.e && decide (t ≤ s.l.un))
/-- The slot at a place. -/
def SlotAt (W : World) (b off : Nat) (s : Sl) : Prop := ∀ j v, s.enc[j]? = some v → W.cell? ⟨b, off + j, none⟩ = some v
theorem SlotAt.below {W W' : World} {b off : Nat} {s : Sl} (h : SlotAt W b off s) (hb : Below W.heap.size W W') : SlotAt W' b off s := fun j v hj => (hb.cell (World.block_lt_of_cell? W _ (h j v hj))).trans (h j v hj)
set_option maxHeartbeats 4000000 in
theorem slot_in.calls (b off : Nat) (s : Sl) (t : Int) (W : World) (h : SlotAt W b off s) :
    Calls Tryd.prog 52 #[.pointer (some ⟨b, off, none⟩), .int .i64 t] W fun e w' => e = .returned (.bool (s.inB t)) ∧ w' = W := by
  have h0 : W.cell? ⟨b, off, none⟩ = some (.bool s.g) := h 0 _ rfl
  have h9 : W.cell? ⟨b, off + 9, none⟩ = some (.bool s.e) := h 9 _ rfl
  have h7 : W.cell? ⟨b, off + 7, none⟩ = some (.int .i64 s.l.un) := h 7 _ rfl
  have h71 : W.cell? ⟨b, off + 1 + 6, none⟩ = some (.int .i64 s.l.un) := h7
  clear h
  unfold Sl.inB
  cases hg : s.g with
  | false =>
    rw [hg] at h0
    go_enter Tryd.func52, Tryd.ntmps52
    go_wp2
    go_ret
    exact ⟨rfl, rfl⟩
  | true =>
    rw [hg] at h0
    cases he : s.e with
    | true =>
      rw [he] at h9
      go_enter Tryd.func52, Tryd.ntmps52
      go_wp2
      go_ret
      exact ⟨rfl, rfl⟩
    | false =>
      rw [he] at h9
      go_enter Tryd.func52, Tryd.ntmps52
      go_wp2
      go_ret
      exact ⟨rfl, rfl⟩
/-- Does a statement fit what was said before? -/
def Sl.fitsB (s : Sl) (x : S51) : Bool :=
  if x.f5 = 1 then !s.g || decide (s.top < x.f4)
  else if x.f5 = 2 then s.inB x.f4 && decide (s.top < x.f9)
  else if x.f5 = 3 ∨ x.f5 = 5 then s.inB x.f4
  else s.inB x.f4 && (s.l.h == x.f7 && s.l.z == x.f8)
set_option maxHeartbeats 4000000 in
theorem slot_fits.calls (b off : Nat) (s : Sl) (x : S51) (W : World) (h : SlotAt W b off s) :
    Calls Tryd.prog 55 #[.pointer (some ⟨b, off, none⟩), .agg #[.int .i64 x.f0, .int .i64 x.f1, .int .i64 x.f2, .int .i64 x.f3, .int .i64 x.f4, .int .i64 x.f5, .int .i64 x.f6, .int .i64 x.f7, .int .i64 x.f8, .int .i64 x.f9, .int .i64 x.f10]] W fun e w' => e = .returned (.bool (s.fitsB x)) ∧ Below W.heap.size W w' := by
  have HB := Aside0.mk (Below.refl W.heap.size W)
  have hu := Tryd.underlying51
  obtain ⟨W0, hW0⟩ : ∃ W0, W0 = W.alloc (.cells #[.int .i64 x.f0, .int .i64 x.f1, .int .i64 x.f2, .int .i64 x.f3, .int .i64 x.f4, .int .i64 x.f5, .int .i64 x.f6, .int .i64 x.f7, .int .i64 x.f8, .int .i64 x.f9, .int .i64 x.f10] 51) := ⟨_, rfl⟩
  have hb0 : Below W.heap.size W W0 := by rw [hW0]; exact below_alloc (Below.refl _ _) _
  have hBx : BlkIs W0 W.heap.size 51 [.int .i64 x.f0, .int .i64 x.f1, .int .i64 x.f2, .int .i64 x.f3, .int .i64 x.f4, .int .i64 x.f5, .int .i64 x.f6, .int .i64 x.f7, .int .i64 x.f8, .int .i64 x.f9, .int .i64 x.f10] := by rw [hW0]; exact heap_alloc_new W _
  have h' := h.below hb0
  have c4 : W0.cell? ⟨W.heap.size, 4, none⟩ = some (.int .i64 x.f4) := hBx.at_ 4
  have c5 : W0.cell? ⟨W.heap.size, 5, none⟩ = some (.int .i64 x.f5) := hBx.at_ 5
  have c7 : W0.cell? ⟨W.heap.size, 7, none⟩ = some (.int .i64 x.f7) := hBx.at_ 7
  have c8 : W0.cell? ⟨W.heap.size, 8, none⟩ = some (.int .i64 x.f8) := hBx.at_ 8
  have c9 : W0.cell? ⟨W.heap.size, 9, none⟩ = some (.int .i64 x.f9) := hBx.at_ 9
  have s0 : W0.cell? ⟨b, off, none⟩ = some (.bool s.g) := h' 0 _ rfl
  have s10 : W0.cell? ⟨b, off + 10, none⟩ = some (.int .i64 s.top) := h' 10 _ rfl
  have s4 : W0.cell? ⟨b, off + 1 + 3, none⟩ = some (.int .i64 s.l.h) := h' 4 _ rfl
  have s5 : W0.cell? ⟨b, off + 1 + 4, none⟩ = some (.int .i64 s.l.z) := h' 5 _ rfl
  have HIN : Aside0 (∀ n, Calls Tryd.prog 52 #[.pointer (some ⟨b, off, none⟩), .int .i64 x.f4] (W0.drewN n) fun e w' => e = .returned (.bool (s.inB x.f4)) ∧ w' = W0.drewN n) := ⟨fun n => slot_in.calls b off s x.f4 (W0.drewN n) h'⟩
  have HB0 := Aside0.mk hb0
  have HW := Aside0.mk hW0
  clear h h' hBx hb0 hW0
  unfold Sl.fitsB
  by_cases k1 : x.f5 = 1
  · rw [if_pos k1]
    have d1 : (x.f5 == 1) = true := beq_iff_eq.mpr k1
    clear k1
    cases hg : s.g with
    | false =>
      rw [hg] at s0
      go_enter Tryd.func55, Tryd.ntmps55
      go_wp2_with (fail)
      rw [← HW.out]
      go_quiet ((fail))
      go_wp2
      go_ret
      exact ⟨rfl, by repeat (first | exact HB0.out | apply below_drew1 | apply pw_below_drewN)⟩
    | true =>
      rw [hg] at s0
      go_enter Tryd.func55, Tryd.ntmps55
      go_wp2_with (fail)
      rw [← HW.out]
      go_quiet ((fail))
      go_wp2
      go_ret
      exact ⟨rfl, by repeat (first | exact HB0.out | apply below_drew1 | apply pw_below_drewN)⟩
  · rw [if_neg k1]
    have d1 : (x.f5 == 1) = false := beq_eq_false_iff_ne.mpr k1
    clear k1
    by_cases k2 : x.f5 = 2
    · rw [if_pos k2]
      have d2 : (x.f5 == 2) = true := beq_iff_eq.mpr k2
      clear k2
      cases hi : s.inB x.f4 with
      | false =>
        rw [hi] at HIN
        go_enter Tryd.func55, Tryd.ntmps55
        go_wp2_with (fail)
        rw [← HW.out]
        go_quiet ((go_at_call 52; exact Calls.quiet_of_same (HIN.out _)))
        go_wp2
        go_ret
        exact ⟨rfl, by repeat (first | exact HB0.out | apply below_drew1 | apply pw_below_drewN)⟩
      | true =>
        rw [hi] at HIN
        go_enter Tryd.func55, Tryd.ntmps55
        go_wp2_with (fail)
        rw [← HW.out]
        go_quiet ((go_at_call 52; exact Calls.quiet_of_same (HIN.out _)))
        go_wp2
        go_ret
        exact ⟨rfl, by repeat (first | exact HB0.out | apply below_drew1 | apply pw_below_drewN)⟩
    · rw [if_neg k2]
      have d2 : (x.f5 == 2) = false := beq_eq_false_iff_ne.mpr k2
      clear k2
      have HI0 : Aside0 (Calls Tryd.prog 52 #[.pointer (some ⟨b, off, none⟩), .int .i64 x.f4] W0 fun e w' => e = .returned (.bool (s.inB x.f4)) ∧ W0 = w') := ⟨(HIN.out 0).mono fun e w' h => ⟨h.1, h.2.symm⟩⟩
      by_cases k3 : x.f5 = 3
      · rw [if_pos (.inl k3)]
        have d3 : (x.f5 == 3) = true := beq_iff_eq.mpr k3
        clear k3
        go_enter Tryd.func55, Tryd.ntmps55
        go_wp2_with (go_at_call 52; rw [← HW.out]; (with_reducible refine (HI0.out).mono ?_); rintro e w' ⟨rfl, rfl⟩)
        go_ret
        exact ⟨rfl, by repeat (first | exact HB0.out | apply below_drew1 | apply pw_below_drewN)⟩
      · have d3 : (x.f5 == 3) = false := beq_eq_false_iff_ne.mpr k3
        by_cases k5 : x.f5 = 5
        · rw [if_pos (.inr k5)]
          have d5 : (x.f5 == 5) = true := beq_iff_eq.mpr k5
          clear k3 k5
          go_enter Tryd.func55, Tryd.ntmps55
          go_wp2_with (go_at_call 52; rw [← HW.out]; (with_reducible refine (HI0.out).mono ?_); rintro e w' ⟨rfl, rfl⟩)
          go_ret
          exact ⟨rfl, by repeat (first | exact HB0.out | apply below_drew1 | apply pw_below_drewN)⟩
        · rw [if_neg (fun h => h.elim k3 k5)]
          have d5 : (x.f5 == 5) = false := beq_eq_false_iff_ne.mpr k5
          clear k3 k5 HI0
          cases hi : s.inB x.f4 with
          | false =>
            rw [hi] at HIN
            go_enter Tryd.func55, Tryd.ntmps55
            go_wp2_with (fail)
            rw [← HW.out]
            go_quiet ((go_at_call 52; exact Calls.quiet_of_same (HIN.out _)))
            go_wp2
            go_ret
            exact ⟨rfl, by repeat (first | exact HB0.out | apply below_drew1 | apply pw_below_drewN)⟩
          | true =>
            rw [hi] at HIN
            cases hh : (s.l.h == x.f7) with
            | false =>
              go_enter Tryd.func55, Tryd.ntmps55
              go_wp2_with (fail)
              rw [← HW.out]
              go_quiet ((go_at_call 52; exact Calls.quiet_of_same (HIN.out _)))
              go_wp2
              go_ret
              exact ⟨rfl, by repeat (first | exact HB0.out | apply below_drew1 | apply pw_below_drewN)⟩
            | true =>
              go_enter Tryd.func55, Tryd.ntmps55
              go_wp2_with (fail)
              rw [← HW.out]
              go_quiet ((go_at_call 52; exact Calls.quiet_of_same (HIN.out _)))
              go_wp2
              go_ret
              exact ⟨rfl, by repeat (first | exact HB0.out | apply below_drew1 | apply pw_below_drewN)⟩
def mxI (a b : Int) : Int := if a < b then b else a
/-- What a statement that fits makes of a slot. -/
def Sl.takeS (s : Sl) (x : S51) : Sl :=
  if x.f5 = 1 then ⟨true, ⟨x.f1, x.f0, x.f6, x.f7, x.f8, x.f4, x.f9, false⟩, false, mxI s.top x.f9⟩
  else if x.f5 = 2 then ⟨s.g, ⟨s.l.o, s.l.k, s.l.s, s.l.h, s.l.z, s.l.fr, mxI s.l.un x.f9, s.l.rc⟩, s.e, mxI s.top x.f9⟩
  else if x.f5 = 3 ∨ x.f5 = 5 then ⟨s.g, s.l, true, mxI s.top x.f9⟩
  else ⟨s.g, ⟨s.l.o, s.l.k, s.l.s, s.l.h, s.l.z, s.l.fr, s.l.un, true⟩, s.e, mxI s.top x.f9⟩
def TakePost (b : Nat) (T : TypeId) (A B : List Value) (s : Sl) (x : S51) (W w' : World) : Prop := BlkIs w' b T (A ++ (s.takeS x).enc ++ B) ∧ W.grownBy w' (some b)
set_option maxHeartbeats 8000000 in
set_option maxRecDepth 100000 in
theorem slot_take.calls (b : Nat) (T : TypeId) (A B : List Value) (s : Sl) (x : S51) (W : World) (hB : BlkIs W b T (A ++ s.enc ++ B)) :
    Calls Tryd.prog 51 #[.pointer (some ⟨b, A.length, none⟩), .agg #[.int .i64 x.f0, .int .i64 x.f1, .int .i64 x.f2, .int .i64 x.f3, .int .i64 x.f4, .int .i64 x.f5, .int .i64 x.f6, .int .i64 x.f7, .int .i64 x.f8, .int .i64 x.f9, .int .i64 x.f10]] W fun e w' => e = .returned (.tuple #[]) ∧ TakePost b T A B s x W w' := by
  have hu := Tryd.underlying51
  obtain ⟨W0, hW0⟩ : ∃ W0, W0 = W.alloc (.cells #[.int .i64 x.f0, .int .i64 x.f1, .int .i64 x.f2, .int .i64 x.f3, .int .i64 x.f4, .int .i64 x.f5, .int .i64 x.f6, .int .i64 x.f7, .int .i64 x.f8, .int .i64 x.f9, .int .i64 x.f10] 51) := ⟨_, rfl⟩
  have hX0 : BlkIs W0 W.heap.size 51 [.int .i64 x.f0, .int .i64 x.f1, .int .i64 x.f2, .int .i64 x.f3, .int .i64 x.f4, .int .i64 x.f5, .int .i64 x.f6, .int .i64 x.f7, .int .i64 x.f8, .int .i64 x.f9, .int .i64 x.f10] := by rw [hW0]; exact heap_alloc_new W _
  have hB0 : BlkIs W0 b T (A ++ s.enc ++ B) := by rw [hW0]; exact hB.alloc _
  have hG0 : W.grownBy W0 (some b) := by rw [hW0]; exact grown_of_below (below_alloc (Below.refl _ _) _) _
  have hne : ¬ W.heap.size = b := by have := hB.lt; omega
  have HX0 := Aside0.mk hX0
  have SB0 := Aside0.mk hB0
  have HG0 := Aside0.mk hG0
  have HW := Aside0.mk hW0
  have HNE : Aside0 (some W.heap.size ≠ some b) := ⟨fun e => hne (by injection e)⟩
  clear hB hX0 hB0 hG0 hW0
  by_cases k1 : x.f5 = 1
  · have HT : Aside0 (s.takeS x = ⟨true, ⟨x.f1, x.f0, x.f6, x.f7, x.f8, x.f4, x.f9, false⟩, false, mxI s.top x.f9⟩) := ⟨if_pos k1⟩
    have d1 : (x.f5 == 1) = true := beq_iff_eq.mpr k1
    clear k1
    go_enter Tryd.func51, Tryd.ntmps51
    go_upto_region 1 with (fail)
    rw [← HW.out]
    have c0 : W0.cell? ⟨W.heap.size, 0, none⟩ = some (.int .i64 x.f0) := HX0.out.at_ 0
    have c1 : W0.cell? ⟨W.heap.size, 1, none⟩ = some (.int .i64 x.f1) := HX0.out.at_ 1
    have c4 : W0.cell? ⟨W.heap.size, 4, none⟩ = some (.int .i64 x.f4) := HX0.out.at_ 4
    have c5 : W0.cell? ⟨W.heap.size, 5, none⟩ = some (.int .i64 x.f5) := HX0.out.at_ 5
    have c6 : W0.cell? ⟨W.heap.size, 6, none⟩ = some (.int .i64 x.f6) := HX0.out.at_ 6
    have c7 : W0.cell? ⟨W.heap.size, 7, none⟩ = some (.int .i64 x.f7) := HX0.out.at_ 7
    have c8 : W0.cell? ⟨W.heap.size, 8, none⟩ = some (.int .i64 x.f8) := HX0.out.at_ 8
    have c9 : W0.cell? ⟨W.heap.size, 9, none⟩ = some (.int .i64 x.f9) := HX0.out.at_ 9
    have s7 : W0.cell? ⟨b, A.length + 1 + 6, none⟩ = some (.int .i64 s.l.un) := seg_at SB0.out 7 rfl
    have s10 : W0.cell? ⟨b, A.length + 10, none⟩ = some (.int .i64 s.top) := seg_at SB0.out 10 rfl
    go_upto_region 11 with (first | ((with_reducible refine gate_ (.store 4 (.tmp 15) (.const (.bool true))) rfl ?_); refine seg_store ?hN ?hgd 4 (.tmp 15) (.const (.bool true)) ?ho (SB0.out) 0 (.bool true) [.bool true] [.bool true, .int .i64 s.l.o, .int .i64 s.l.k, .int .i64 s.l.s, .int .i64 s.l.h, .int .i64 s.l.z, .int .i64 s.l.fr, .int .i64 s.l.un, .bool s.l.rc, .bool s.e, .int .i64 s.top] ?ha ?hx ?hu ?ht ?hf ?h1 ?hE ?_; (case hN => rfl); (case hgd => rfl); (case ho => rfl); (case ha => exact ⟨_, rfl, by omega⟩); (case hx => rfl); (case hu => rfl); (case ht => kernel_rfl); (case hf => exact Nat.le_of_ble_eq_true rfl); (case h1 => intro v hv; simp only [List.mem_cons, List.not_mem_nil, or_false] at hv; rcases hv with rfl <;> rfl); (case hE => rfl); intro w1 SB1 hg1; have HX1 := Aside0.mk (HX0.out.grown hg1.out HNE.out); have HG1 := Aside0.mk (grown2 HG0.out hg1.out); have c0 : w1.cell? ⟨W.heap.size, 0, none⟩ = some (.int .i64 x.f0) := HX1.out.at_ 0; have c1 : w1.cell? ⟨W.heap.size, 1, none⟩ = some (.int .i64 x.f1) := HX1.out.at_ 1; have c4 : w1.cell? ⟨W.heap.size, 4, none⟩ = some (.int .i64 x.f4) := HX1.out.at_ 4; have c5 : w1.cell? ⟨W.heap.size, 5, none⟩ = some (.int .i64 x.f5) := HX1.out.at_ 5; have c6 : w1.cell? ⟨W.heap.size, 6, none⟩ = some (.int .i64 x.f6) := HX1.out.at_ 6; have c7 : w1.cell? ⟨W.heap.size, 7, none⟩ = some (.int .i64 x.f7) := HX1.out.at_ 7; have c8 : w1.cell? ⟨W.heap.size, 8, none⟩ = some (.int .i64 x.f8) := HX1.out.at_ 8; have c9 : w1.cell? ⟨W.heap.size, 9, none⟩ = some (.int .i64 x.f9) := HX1.out.at_ 9; have s7 : w1.cell? ⟨b, A.length + 1 + 6, none⟩ = some (.int .i64 s.l.un) := seg_at SB1.out 7 rfl; have s10 : w1.cell? ⟨b, A.length + 10, none⟩ = some (.int .i64 s.top) := seg_at SB1.out 10 rfl) | ((with_reducible refine gate_ (.store 4 (.tmp 17) (.const (.bool false))) rfl ?_); refine seg_store ?hN ?hgd 4 (.tmp 17) (.const (.bool false)) ?ho (SB1.out) 9 (.bool false) [.bool false] [.bool true, .int .i64 s.l.o, .int .i64 s.l.k, .int .i64 s.l.s, .int .i64 s.l.h, .int .i64 s.l.z, .int .i64 s.l.fr, .int .i64 s.l.un, .bool s.l.rc, .bool false, .int .i64 s.top] ?ha ?hx ?hu ?ht ?hf ?h1 ?hE ?_; (case hN => rfl); (case hgd => rfl); (case ho => rfl); (case ha => exact ⟨_, rfl, by omega⟩); (case hx => rfl); (case hu => rfl); (case ht => kernel_rfl); (case hf => exact Nat.le_of_ble_eq_true rfl); (case h1 => intro v hv; simp only [List.mem_cons, List.not_mem_nil, or_false] at hv; rcases hv with rfl <;> rfl); (case hE => rfl); intro w2 SB2 hg2; have HX2 := Aside0.mk (HX1.out.grown hg2.out HNE.out); have HG2 := Aside0.mk (grown2 HG1.out hg2.out); have c0 : w2.cell? ⟨W.heap.size, 0, none⟩ = some (.int .i64 x.f0) := HX2.out.at_ 0; have c1 : w2.cell? ⟨W.heap.size, 1, none⟩ = some (.int .i64 x.f1) := HX2.out.at_ 1; have c4 : w2.cell? ⟨W.heap.size, 4, none⟩ = some (.int .i64 x.f4) := HX2.out.at_ 4; have c5 : w2.cell? ⟨W.heap.size, 5, none⟩ = some (.int .i64 x.f5) := HX2.out.at_ 5; have c6 : w2.cell? ⟨W.heap.size, 6, none⟩ = some (.int .i64 x.f6) := HX2.out.at_ 6; have c7 : w2.cell? ⟨W.heap.size, 7, none⟩ = some (.int .i64 x.f7) := HX2.out.at_ 7; have c8 : w2.cell? ⟨W.heap.size, 8, none⟩ = some (.int .i64 x.f8) := HX2.out.at_ 8; have c9 : w2.cell? ⟨W.heap.size, 9, none⟩ = some (.int .i64 x.f9) := HX2.out.at_ 9; have s7 : w2.cell? ⟨b, A.length + 1 + 6, none⟩ = some (.int .i64 s.l.un) := seg_at SB2.out 7 rfl; have s10 : w2.cell? ⟨b, A.length + 10, none⟩ = some (.int .i64 s.top) := seg_at SB2.out 10 rfl) | ((with_reducible refine gate_ (.store 41 (.tmp 35) (.tmp 33)) rfl ?_); refine seg_store ?hN ?hgd 41 (.tmp 35) (.tmp 33) ?ho (SB2.out) 1 (.agg #[.int .i64 x.f1, .int .i64 x.f0, .int .i64 x.f6, .int .i64 x.f7, .int .i64 x.f8, .int .i64 x.f4, .int .i64 x.f9, .bool false]) [.int .i64 x.f1, .int .i64 x.f0, .int .i64 x.f6, .int .i64 x.f7, .int .i64 x.f8, .int .i64 x.f4, .int .i64 x.f9, .bool false] [.bool true, .int .i64 x.f1, .int .i64 x.f0, .int .i64 x.f6, .int .i64 x.f7, .int .i64 x.f8, .int .i64 x.f4, .int .i64 x.f9, .bool false, .bool false, .int .i64 s.top] ?ha ?hx ?hu ?ht ?hf ?h1 ?hE ?_; (case hN => rfl); (case hgd => rfl); (case ho => rfl); (case ha => exact ⟨_, rfl, by omega⟩); (case hx => rfl); (case hu => rfl); (case ht => kernel_rfl); (case hf => exact Nat.le_of_ble_eq_true rfl); (case h1 => intro v hv; simp only [List.mem_cons, List.not_mem_nil, or_false] at hv; rcases hv with rfl | rfl | rfl | rfl | rfl | rfl | rfl | rfl <;> rfl); (case hE => rfl); intro w3 SB3 hg3; have HX3 := Aside0.mk (HX2.out.grown hg3.out HNE.out); have HG3 := Aside0.mk (grown2 HG2.out hg3.out); have c9 : w3.cell? ⟨W.heap.size, 9, none⟩ = some (.int .i64 x.f9) := HX3.out.at_ 9; have s7 : w3.cell? ⟨b, A.length + 1 + 6, none⟩ = some (.int .i64 x.f9) := seg_at SB3.out 7 rfl; have s10 : w3.cell? ⟨b, A.length + 10, none⟩ = some (.int .i64 s.top) := seg_at SB3.out 10 rfl))
    by_cases hm : s.top < x.f9
    · have HM : Aside0 (mxI s.top x.f9 = x.f9) := ⟨if_pos hm⟩
      go_still_tail 10, (by kernel_rfl)
      go_wp2_with (((with_reducible refine gate_ (.store 3 (.tmp 65) (.tmp 63)) rfl ?_); refine seg_store ?hN ?hgd 3 (.tmp 65) (.tmp 63) ?ho (SB3.out.drew) 10 (.int .i64 x.f9) [.int .i64 x.f9] [.bool true, .int .i64 x.f1, .int .i64 x.f0, .int .i64 x.f6, .int .i64 x.f7, .int .i64 x.f8, .int .i64 x.f4, .int .i64 x.f9, .bool false, .bool false, .int .i64 x.f9] ?ha ?hx ?hu ?ht ?hf ?h1 ?hE ?_; (case hN => rfl); (case hgd => rfl); (case ho => rfl); (case ha => exact ⟨_, rfl, by omega⟩); (case hx => rfl); (case hu => rfl); (case ht => kernel_rfl); (case hf => exact Nat.le_of_ble_eq_true rfl); (case h1 => intro v hv; simp only [List.mem_cons, List.not_mem_nil, or_false] at hv; rcases hv with rfl <;> rfl); (case hE => rfl); intro w4 SB4 hg4; have HX4 := Aside0.mk (HX3.out.drew.grown hg4.out HNE.out); have HG4 := Aside0.mk (grown2 (grown2 HG3.out (grown_drew _ _)) hg4.out)))
      (first | go_end0 | ((try simp only [Exit.inBlock, Exit.then]); refine bodyPost_ret (results_none rfl _ _ _) rfl ?_))
      exact ⟨rfl, by unfold TakePost; rw [HT.out, HM.out]; exact ⟨SB4.out, HG4.out⟩⟩
    · have HM : Aside0 (mxI s.top x.f9 = s.top) := ⟨if_neg hm⟩
      go_still_tail 10, (by kernel_rfl)
      go_wp2_with (((with_reducible refine gate_ (.store 3 (.tmp 65) (.tmp 63)) rfl ?_); refine seg_store ?hN ?hgd 3 (.tmp 65) (.tmp 63) ?ho (SB3.out.drew) 10 (.int .i64 s.top) [.int .i64 s.top] [.bool true, .int .i64 x.f1, .int .i64 x.f0, .int .i64 x.f6, .int .i64 x.f7, .int .i64 x.f8, .int .i64 x.f4, .int .i64 x.f9, .bool false, .bool false, .int .i64 s.top] ?ha ?hx ?hu ?ht ?hf ?h1 ?hE ?_; (case hN => rfl); (case hgd => rfl); (case ho => rfl); (case ha => exact ⟨_, rfl, by omega⟩); (case hx => rfl); (case hu => rfl); (case ht => kernel_rfl); (case hf => exact Nat.le_of_ble_eq_true rfl); (case h1 => intro v hv; simp only [List.mem_cons, List.not_mem_nil, or_false] at hv; rcases hv with rfl <;> rfl); (case hE => rfl); intro w4 SB4 hg4; have HX4 := Aside0.mk (HX3.out.drew.grown hg4.out HNE.out); have HG4 := Aside0.mk (grown2 (grown2 HG3.out (grown_drew _ _)) hg4.out)))
      (first | go_end0 | ((try simp only [Exit.inBlock, Exit.then]); refine bodyPost_ret (results_none rfl _ _ _) rfl ?_))
      exact ⟨rfl, by unfold TakePost; rw [HT.out, HM.out]; exact ⟨SB4.out, HG4.out⟩⟩
  · have d1 : (x.f5 == 1) = false := beq_eq_false_iff_ne.mpr k1
    by_cases k2 : x.f5 = 2
    · have HT : Aside0 (s.takeS x = ⟨s.g, ⟨s.l.o, s.l.k, s.l.s, s.l.h, s.l.z, s.l.fr, mxI s.l.un x.f9, s.l.rc⟩, s.e, mxI s.top x.f9⟩) := ⟨(if_neg k1).trans (if_pos k2)⟩
      clear k1
      have d2 : (x.f5 == 2) = true := beq_iff_eq.mpr k2
      clear k2
      go_enter Tryd.func51, Tryd.ntmps51
      go_upto_region 1 with (fail)
      rw [← HW.out]
      have c0 : W0.cell? ⟨W.heap.size, 0, none⟩ = some (.int .i64 x.f0) := HX0.out.at_ 0
      have c1 : W0.cell? ⟨W.heap.size, 1, none⟩ = some (.int .i64 x.f1) := HX0.out.at_ 1
      have c4 : W0.cell? ⟨W.heap.size, 4, none⟩ = some (.int .i64 x.f4) := HX0.out.at_ 4
      have c5 : W0.cell? ⟨W.heap.size, 5, none⟩ = some (.int .i64 x.f5) := HX0.out.at_ 5
      have c6 : W0.cell? ⟨W.heap.size, 6, none⟩ = some (.int .i64 x.f6) := HX0.out.at_ 6
      have c7 : W0.cell? ⟨W.heap.size, 7, none⟩ = some (.int .i64 x.f7) := HX0.out.at_ 7
      have c8 : W0.cell? ⟨W.heap.size, 8, none⟩ = some (.int .i64 x.f8) := HX0.out.at_ 8
      have c9 : W0.cell? ⟨W.heap.size, 9, none⟩ = some (.int .i64 x.f9) := HX0.out.at_ 9
      have s7 : W0.cell? ⟨b, A.length + 1 + 6, none⟩ = some (.int .i64 s.l.un) := seg_at SB0.out 7 rfl
      have s10 : W0.cell? ⟨b, A.length + 10, none⟩ = some (.int .i64 s.top) := seg_at SB0.out 10 rfl
      by_cases hu_ : s.l.un < x.f9
      · have HU : Aside0 (mxI s.l.un x.f9 = x.f9) := ⟨if_pos hu_⟩
        go_upto_region 7 with (fail)
        go_still_tail 9, (by kernel_rfl)
        go_upto_region 11 with (((with_reducible refine gate_ (.store 3 (.tmp 49) (.tmp 46)) rfl ?_); refine seg_store ?hN ?hgd 3 (.tmp 49) (.tmp 46) ?ho (SB0.out.drew) 7 (.int .i64 x.f9) [.int .i64 x.f9] [.bool s.g, .int .i64 s.l.o, .int .i64 s.l.k, .int .i64 s.l.s, .int .i64 s.l.h, .int .i64 s.l.z, .int .i64 s.l.fr, .int .i64 x.f9, .bool s.l.rc, .bool s.e, .int .i64 s.top] ?ha ?hx ?hu ?ht ?hf ?h1 ?hE ?_; (case hN => rfl); (case hgd => rfl); (case ho => rfl); (case ha => exact ⟨_, rfl, by omega⟩); (case hx => rfl); (case hu => rfl); (case ht => kernel_rfl); (case hf => exact Nat.le_of_ble_eq_true rfl); (case h1 => intro v hv; simp only [List.mem_cons, List.not_mem_nil, or_false] at hv; rcases hv with rfl <;> rfl); (case hE => rfl); intro w1 SB1 hg1; have HX1 := Aside0.mk (HX0.out.drew.grown hg1.out HNE.out); have HG1 := Aside0.mk (grown2 (grown2 HG0.out (grown_drew _ _)) hg1.out); have c9 : w1.cell? ⟨W.heap.size, 9, none⟩ = some (.int .i64 x.f9) := HX1.out.at_ 9; have s7 : w1.cell? ⟨b, A.length + 1 + 6, none⟩ = some (.int .i64 x.f9) := seg_at SB1.out 7 rfl; have s10 : w1.cell? ⟨b, A.length + 10, none⟩ = some (.int .i64 s.top) := seg_at SB1.out 10 rfl))
        clear hu_
        by_cases hm : s.top < x.f9
        · have HM : Aside0 (mxI s.top x.f9 = x.f9) := ⟨if_pos hm⟩
          go_still_tail 10, (by kernel_rfl)
          go_wp2_with (((with_reducible refine gate_ (.store 3 (.tmp 65) (.tmp 63)) rfl ?_); refine seg_store ?hN ?hgd 3 (.tmp 65) (.tmp 63) ?ho (SB1.out.drew) 10 (.int .i64 x.f9) [.int .i64 x.f9] [.bool s.g, .int .i64 s.l.o, .int .i64 s.l.k, .int .i64 s.l.s, .int .i64 s.l.h, .int .i64 s.l.z, .int .i64 s.l.fr, .int .i64 x.f9, .bool s.l.rc, .bool s.e, .int .i64 x.f9] ?ha ?hx ?hu ?ht ?hf ?h1 ?hE ?_; (case hN => rfl); (case hgd => rfl); (case ho => rfl); (case ha => exact ⟨_, rfl, by omega⟩); (case hx => rfl); (case hu => rfl); (case ht => kernel_rfl); (case hf => exact Nat.le_of_ble_eq_true rfl); (case h1 => intro v hv; simp only [List.mem_cons, List.not_mem_nil, or_false] at hv; rcases hv with rfl <;> rfl); (case hE => rfl); intro w2 SB2 hg2; have HX2 := Aside0.mk (HX1.out.drew.grown hg2.out HNE.out); have HG2 := Aside0.mk (grown2 (grown2 HG1.out (grown_drew _ _)) hg2.out)))
          (first | go_end0 | ((try simp only [Exit.inBlock, Exit.then]); refine bodyPost_ret (results_none rfl _ _ _) rfl ?_))
          exact ⟨rfl, by unfold TakePost; rw [HT.out, HM.out, HU.out]; exact ⟨SB2.out, HG2.out⟩⟩
        · have HM : Aside0 (mxI s.top x.f9 = s.top) := ⟨if_neg hm⟩
          go_still_tail 10, (by kernel_rfl)
          go_wp2_with (((with_reducible refine gate_ (.store 3 (.tmp 65) (.tmp 63)) rfl ?_); refine seg_store ?hN ?hgd 3 (.tmp 65) (.tmp 63) ?ho (SB1.out.drew) 10 (.int .i64 s.top) [.int .i64 s.top] [.bool s.g, .int .i64 s.l.o, .int .i64 s.l.k, .int .i64 s.l.s, .int .i64 s.l.h, .int .i64 s.l.z, .int .i64 s.l.fr, .int .i64 x.f9, .bool s.l.rc, .bool s.e, .int .i64 s.top] ?ha ?hx ?hu ?ht ?hf ?h1 ?hE ?_; (case hN => rfl); (case hgd => rfl); (case ho => rfl); (case ha => exact ⟨_, rfl, by omega⟩); (case hx => rfl); (case hu => rfl); (case ht => kernel_rfl); (case hf => exact Nat.le_of_ble_eq_true rfl); (case h1 => intro v hv; simp only [List.mem_cons, List.not_mem_nil, or_false] at hv; rcases hv with rfl <;> rfl); (case hE => rfl); intro w2 SB2 hg2; have HX2 := Aside0.mk (HX1.out.drew.grown hg2.out HNE.out); have HG2 := Aside0.mk (grown2 (grown2 HG1.out (grown_drew _ _)) hg2.out)))
          (first | go_end0 | ((try simp only [Exit.inBlock, Exit.then]); refine bodyPost_ret (results_none rfl _ _ _) rfl ?_))
          exact ⟨rfl, by unfold TakePost; rw [HT.out, HM.out, HU.out]; exact ⟨SB2.out, HG2.out⟩⟩
      · have HU : Aside0 (mxI s.l.un x.f9 = s.l.un) := ⟨if_neg hu_⟩
        go_upto_region 7 with (fail)
        go_still_tail 9, (by kernel_rfl)
        go_upto_region 11 with (((with_reducible refine gate_ (.store 3 (.tmp 49) (.tmp 46)) rfl ?_); refine seg_store ?hN ?hgd 3 (.tmp 49) (.tmp 46) ?ho (SB0.out.drew) 7 (.int .i64 s.l.un) [.int .i64 s.l.un] [.bool s.g, .int .i64 s.l.o, .int .i64 s.l.k, .int .i64 s.l.s, .int .i64 s.l.h, .int .i64 s.l.z, .int .i64 s.l.fr, .int .i64 s.l.un, .bool s.l.rc, .bool s.e, .int .i64 s.top] ?ha ?hx ?hu ?ht ?hf ?h1 ?hE ?_; (case hN => rfl); (case hgd => rfl); (case ho => rfl); (case ha => exact ⟨_, rfl, by omega⟩); (case hx => rfl); (case hu => rfl); (case ht => kernel_rfl); (case hf => exact Nat.le_of_ble_eq_true rfl); (case h1 => intro v hv; simp only [List.mem_cons, List.not_mem_nil, or_false] at hv; rcases hv with rfl <;> rfl); (case hE => rfl); intro w1 SB1 hg1; have HX1 := Aside0.mk (HX0.out.drew.grown hg1.out HNE.out); have HG1 := Aside0.mk (grown2 (grown2 HG0.out (grown_drew _ _)) hg1.out); have c9 : w1.cell? ⟨W.heap.size, 9, none⟩ = some (.int .i64 x.f9) := HX1.out.at_ 9; have s7 : w1.cell? ⟨b, A.length + 1 + 6, none⟩ = some (.int .i64 s.l.un) := seg_at SB1.out 7 rfl; have s10 : w1.cell? ⟨b, A.length + 10, none⟩ = some (.int .i64 s.top) := seg_at SB1.out 10 rfl))
        clear hu_
        by_cases hm : s.top < x.f9
        · have HM : Aside0 (mxI s.top x.f9 = x.f9) := ⟨if_pos hm⟩
          go_still_tail 10, (by kernel_rfl)
          go_wp2_with (((with_reducible refine gate_ (.store 3 (.tmp 65) (.tmp 63)) rfl ?_); refine seg_store ?hN ?hgd 3 (.tmp 65) (.tmp 63) ?ho (SB1.out.drew) 10 (.int .i64 x.f9) [.int .i64 x.f9] [.bool s.g, .int .i64 s.l.o, .int .i64 s.l.k, .int .i64 s.l.s, .int .i64 s.l.h, .int .i64 s.l.z, .int .i64 s.l.fr, .int .i64 s.l.un, .bool s.l.rc, .bool s.e, .int .i64 x.f9] ?ha ?hx ?hu ?ht ?hf ?h1 ?hE ?_; (case hN => rfl); (case hgd => rfl); (case ho => rfl); (case ha => exact ⟨_, rfl, by omega⟩); (case hx => rfl); (case hu => rfl); (case ht => kernel_rfl); (case hf => exact Nat.le_of_ble_eq_true rfl); (case h1 => intro v hv; simp only [List.mem_cons, List.not_mem_nil, or_false] at hv; rcases hv with rfl <;> rfl); (case hE => rfl); intro w2 SB2 hg2; have HX2 := Aside0.mk (HX1.out.drew.grown hg2.out HNE.out); have HG2 := Aside0.mk (grown2 (grown2 HG1.out (grown_drew _ _)) hg2.out)))
          (first | go_end0 | ((try simp only [Exit.inBlock, Exit.then]); refine bodyPost_ret (results_none rfl _ _ _) rfl ?_))
          exact ⟨rfl, by unfold TakePost; rw [HT.out, HM.out, HU.out]; exact ⟨SB2.out, HG2.out⟩⟩
        · have HM : Aside0 (mxI s.top x.f9 = s.top) := ⟨if_neg hm⟩
          go_still_tail 10, (by kernel_rfl)
          go_wp2_with (((with_reducible refine gate_ (.store 3 (.tmp 65) (.tmp 63)) rfl ?_); refine seg_store ?hN ?hgd 3 (.tmp 65) (.tmp 63) ?ho (SB1.out.drew) 10 (.int .i64 s.top) [.int .i64 s.top] [.bool s.g, .int .i64 s.l.o, .int .i64 s.l.k, .int .i64 s.l.s, .int .i64 s.l.h, .int .i64 s.l.z, .int .i64 s.l.fr, .int .i64 s.l.un, .bool s.l.rc, .bool s.e, .int .i64 s.top] ?ha ?hx ?hu ?ht ?hf ?h1 ?hE ?_; (case hN => rfl); (case hgd => rfl); (case ho => rfl); (case ha => exact ⟨_, rfl, by omega⟩); (case hx => rfl); (case hu => rfl); (case ht => kernel_rfl); (case hf => exact Nat.le_of_ble_eq_true rfl); (case h1 => intro v hv; simp only [List.mem_cons, List.not_mem_nil, or_false] at hv; rcases hv with rfl <;> rfl); (case hE => rfl); intro w2 SB2 hg2; have HX2 := Aside0.mk (HX1.out.drew.grown hg2.out HNE.out); have HG2 := Aside0.mk (grown2 (grown2 HG1.out (grown_drew _ _)) hg2.out)))
          (first | go_end0 | ((try simp only [Exit.inBlock, Exit.then]); refine bodyPost_ret (results_none rfl _ _ _) rfl ?_))
          exact ⟨rfl, by unfold TakePost; rw [HT.out, HM.out, HU.out]; exact ⟨SB2.out, HG2.out⟩⟩
    · have d2 : (x.f5 == 2) = false := beq_eq_false_iff_ne.mpr k2
      by_cases k3 : x.f5 = 3
      · have HT : Aside0 (s.takeS x = ⟨s.g, s.l, true, mxI s.top x.f9⟩) := ⟨(if_neg k1).trans ((if_neg k2).trans (if_pos (.inl k3)))⟩
        clear k1 k2
        have d3 : (x.f5 == 3) = true := beq_iff_eq.mpr k3
        clear k3
        go_enter Tryd.func51, Tryd.ntmps51
        go_upto_region 1 with (fail)
        rw [← HW.out]
        have c0 : W0.cell? ⟨W.heap.size, 0, none⟩ = some (.int .i64 x.f0) := HX0.out.at_ 0
        have c1 : W0.cell? ⟨W.heap.size, 1, none⟩ = some (.int .i64 x.f1) := HX0.out.at_ 1
        have c4 : W0.cell? ⟨W.heap.size, 4, none⟩ = some (.int .i64 x.f4) := HX0.out.at_ 4
        have c5 : W0.cell? ⟨W.heap.size, 5, none⟩ = some (.int .i64 x.f5) := HX0.out.at_ 5
        have c6 : W0.cell? ⟨W.heap.size, 6, none⟩ = some (.int .i64 x.f6) := HX0.out.at_ 6
        have c7 : W0.cell? ⟨W.heap.size, 7, none⟩ = some (.int .i64 x.f7) := HX0.out.at_ 7
        have c8 : W0.cell? ⟨W.heap.size, 8, none⟩ = some (.int .i64 x.f8) := HX0.out.at_ 8
        have c9 : W0.cell? ⟨W.heap.size, 9, none⟩ = some (.int .i64 x.f9) := HX0.out.at_ 9
        have s7 : W0.cell? ⟨b, A.length + 1 + 6, none⟩ = some (.int .i64 s.l.un) := seg_at SB0.out 7 rfl
        have s10 : W0.cell? ⟨b, A.length + 10, none⟩ = some (.int .i64 s.top) := seg_at SB0.out 10 rfl
        go_upto_region 11 with (((with_reducible refine gate_ (.store 4 (.tmp 55) (.const (.bool true))) rfl ?_); refine seg_store ?hN ?hgd 4 (.tmp 55) (.const (.bool true)) ?ho (SB0.out) 9 (.bool true) [.bool true] [.bool s.g, .int .i64 s.l.o, .int .i64 s.l.k, .int .i64 s.l.s, .int .i64 s.l.h, .int .i64 s.l.z, .int .i64 s.l.fr, .int .i64 s.l.un, .bool s.l.rc, .bool true, .int .i64 s.top] ?ha ?hx ?hu ?ht ?hf ?h1 ?hE ?_; (case hN => rfl); (case hgd => rfl); (case ho => rfl); (case ha => exact ⟨_, rfl, by omega⟩); (case hx => rfl); (case hu => rfl); (case ht => kernel_rfl); (case hf => exact Nat.le_of_ble_eq_true rfl); (case h1 => intro v hv; simp only [List.mem_cons, List.not_mem_nil, or_false] at hv; rcases hv with rfl <;> rfl); (case hE => rfl); intro w1 SB1 hg1; have HX1 := Aside0.mk (HX0.out.grown hg1.out HNE.out); have HG1 := Aside0.mk (grown2 HG0.out hg1.out); have c9 : w1.cell? ⟨W.heap.size, 9, none⟩ = some (.int .i64 x.f9) := HX1.out.at_ 9; have s7 : w1.cell? ⟨b, A.length + 1 + 6, none⟩ = some (.int .i64 s.l.un) := seg_at SB1.out 7 rfl; have s10 : w1.cell? ⟨b, A.length + 10, none⟩ = some (.int .i64 s.top) := seg_at SB1.out 10 rfl))
        by_cases hm : s.top < x.f9
        · have HM : Aside0 (mxI s.top x.f9 = x.f9) := ⟨if_pos hm⟩
          go_still_tail 10, (by kernel_rfl)
          go_wp2_with (((with_reducible refine gate_ (.store 3 (.tmp 65) (.tmp 63)) rfl ?_); refine seg_store ?hN ?hgd 3 (.tmp 65) (.tmp 63) ?ho (SB1.out.drew) 10 (.int .i64 x.f9) [.int .i64 x.f9] [.bool s.g, .int .i64 s.l.o, .int .i64 s.l.k, .int .i64 s.l.s, .int .i64 s.l.h, .int .i64 s.l.z, .int .i64 s.l.fr, .int .i64 s.l.un, .bool s.l.rc, .bool true, .int .i64 x.f9] ?ha ?hx ?hu ?ht ?hf ?h1 ?hE ?_; (case hN => rfl); (case hgd => rfl); (case ho => rfl); (case ha => exact ⟨_, rfl, by omega⟩); (case hx => rfl); (case hu => rfl); (case ht => kernel_rfl); (case hf => exact Nat.le_of_ble_eq_true rfl); (case h1 => intro v hv; simp only [List.mem_cons, List.not_mem_nil, or_false] at hv; rcases hv with rfl <;> rfl); (case hE => rfl); intro w2 SB2 hg2; have HX2 := Aside0.mk (HX1.out.drew.grown hg2.out HNE.out); have HG2 := Aside0.mk (grown2 (grown2 HG1.out (grown_drew _ _)) hg2.out)))
          (first | go_end0 | ((try simp only [Exit.inBlock, Exit.then]); refine bodyPost_ret (results_none rfl _ _ _) rfl ?_))
          exact ⟨rfl, by unfold TakePost; rw [HT.out, HM.out]; exact ⟨SB2.out, HG2.out⟩⟩
        · have HM : Aside0 (mxI s.top x.f9 = s.top) := ⟨if_neg hm⟩
          go_still_tail 10, (by kernel_rfl)
          go_wp2_with (((with_reducible refine gate_ (.store 3 (.tmp 65) (.tmp 63)) rfl ?_); refine seg_store ?hN ?hgd 3 (.tmp 65) (.tmp 63) ?ho (SB1.out.drew) 10 (.int .i64 s.top) [.int .i64 s.top] [.bool s.g, .int .i64 s.l.o, .int .i64 s.l.k, .int .i64 s.l.s, .int .i64 s.l.h, .int .i64 s.l.z, .int .i64 s.l.fr, .int .i64 s.l.un, .bool s.l.rc, .bool true, .int .i64 s.top] ?ha ?hx ?hu ?ht ?hf ?h1 ?hE ?_; (case hN => rfl); (case hgd => rfl); (case ho => rfl); (case ha => exact ⟨_, rfl, by omega⟩); (case hx => rfl); (case hu => rfl); (case ht => kernel_rfl); (case hf => exact Nat.le_of_ble_eq_true rfl); (case h1 => intro v hv; simp only [List.mem_cons, List.not_mem_nil, or_false] at hv; rcases hv with rfl <;> rfl); (case hE => rfl); intro w2 SB2 hg2; have HX2 := Aside0.mk (HX1.out.drew.grown hg2.out HNE.out); have HG2 := Aside0.mk (grown2 (grown2 HG1.out (grown_drew _ _)) hg2.out)))
          (first | go_end0 | ((try simp only [Exit.inBlock, Exit.then]); refine bodyPost_ret (results_none rfl _ _ _) rfl ?_))
          exact ⟨rfl, by unfold TakePost; rw [HT.out, HM.out]; exact ⟨SB2.out, HG2.out⟩⟩
      · have d3 : (x.f5 == 3) = false := beq_eq_false_iff_ne.mpr k3
        by_cases k5 : x.f5 = 5
        · have HT : Aside0 (s.takeS x = ⟨s.g, s.l, true, mxI s.top x.f9⟩) := ⟨(if_neg k1).trans ((if_neg k2).trans (if_pos (.inr k5)))⟩
          have d5 : (x.f5 == 5) = true := beq_iff_eq.mpr k5
          clear k1 k2 k3 k5
          go_enter Tryd.func51, Tryd.ntmps51
          go_upto_region 1 with (fail)
          rw [← HW.out]
          have c0 : W0.cell? ⟨W.heap.size, 0, none⟩ = some (.int .i64 x.f0) := HX0.out.at_ 0
          have c1 : W0.cell? ⟨W.heap.size, 1, none⟩ = some (.int .i64 x.f1) := HX0.out.at_ 1
          have c4 : W0.cell? ⟨W.heap.size, 4, none⟩ = some (.int .i64 x.f4) := HX0.out.at_ 4
          have c5 : W0.cell? ⟨W.heap.size, 5, none⟩ = some (.int .i64 x.f5) := HX0.out.at_ 5
          have c6 : W0.cell? ⟨W.heap.size, 6, none⟩ = some (.int .i64 x.f6) := HX0.out.at_ 6
          have c7 : W0.cell? ⟨W.heap.size, 7, none⟩ = some (.int .i64 x.f7) := HX0.out.at_ 7
          have c8 : W0.cell? ⟨W.heap.size, 8, none⟩ = some (.int .i64 x.f8) := HX0.out.at_ 8
          have c9 : W0.cell? ⟨W.heap.size, 9, none⟩ = some (.int .i64 x.f9) := HX0.out.at_ 9
          have s7 : W0.cell? ⟨b, A.length + 1 + 6, none⟩ = some (.int .i64 s.l.un) := seg_at SB0.out 7 rfl
          have s10 : W0.cell? ⟨b, A.length + 10, none⟩ = some (.int .i64 s.top) := seg_at SB0.out 10 rfl
          go_upto_region 11 with (((with_reducible refine gate_ (.store 4 (.tmp 55) (.const (.bool true))) rfl ?_); refine seg_store ?hN ?hgd 4 (.tmp 55) (.const (.bool true)) ?ho (SB0.out) 9 (.bool true) [.bool true] [.bool s.g, .int .i64 s.l.o, .int .i64 s.l.k, .int .i64 s.l.s, .int .i64 s.l.h, .int .i64 s.l.z, .int .i64 s.l.fr, .int .i64 s.l.un, .bool s.l.rc, .bool true, .int .i64 s.top] ?ha ?hx ?hu ?ht ?hf ?h1 ?hE ?_; (case hN => rfl); (case hgd => rfl); (case ho => rfl); (case ha => exact ⟨_, rfl, by omega⟩); (case hx => rfl); (case hu => rfl); (case ht => kernel_rfl); (case hf => exact Nat.le_of_ble_eq_true rfl); (case h1 => intro v hv; simp only [List.mem_cons, List.not_mem_nil, or_false] at hv; rcases hv with rfl <;> rfl); (case hE => rfl); intro w1 SB1 hg1; have HX1 := Aside0.mk (HX0.out.grown hg1.out HNE.out); have HG1 := Aside0.mk (grown2 HG0.out hg1.out); have c9 : w1.cell? ⟨W.heap.size, 9, none⟩ = some (.int .i64 x.f9) := HX1.out.at_ 9; have s7 : w1.cell? ⟨b, A.length + 1 + 6, none⟩ = some (.int .i64 s.l.un) := seg_at SB1.out 7 rfl; have s10 : w1.cell? ⟨b, A.length + 10, none⟩ = some (.int .i64 s.top) := seg_at SB1.out 10 rfl))
          by_cases hm : s.top < x.f9
          · have HM : Aside0 (mxI s.top x.f9 = x.f9) := ⟨if_pos hm⟩
            go_still_tail 10, (by kernel_rfl)
            go_wp2_with (((with_reducible refine gate_ (.store 3 (.tmp 65) (.tmp 63)) rfl ?_); refine seg_store ?hN ?hgd 3 (.tmp 65) (.tmp 63) ?ho (SB1.out.drew) 10 (.int .i64 x.f9) [.int .i64 x.f9] [.bool s.g, .int .i64 s.l.o, .int .i64 s.l.k, .int .i64 s.l.s, .int .i64 s.l.h, .int .i64 s.l.z, .int .i64 s.l.fr, .int .i64 s.l.un, .bool s.l.rc, .bool true, .int .i64 x.f9] ?ha ?hx ?hu ?ht ?hf ?h1 ?hE ?_; (case hN => rfl); (case hgd => rfl); (case ho => rfl); (case ha => exact ⟨_, rfl, by omega⟩); (case hx => rfl); (case hu => rfl); (case ht => kernel_rfl); (case hf => exact Nat.le_of_ble_eq_true rfl); (case h1 => intro v hv; simp only [List.mem_cons, List.not_mem_nil, or_false] at hv; rcases hv with rfl <;> rfl); (case hE => rfl); intro w2 SB2 hg2; have HX2 := Aside0.mk (HX1.out.drew.grown hg2.out HNE.out); have HG2 := Aside0.mk (grown2 (grown2 HG1.out (grown_drew _ _)) hg2.out)))
            (first | go_end0 | ((try simp only [Exit.inBlock, Exit.then]); refine bodyPost_ret (results_none rfl _ _ _) rfl ?_))
            exact ⟨rfl, by unfold TakePost; rw [HT.out, HM.out]; exact ⟨SB2.out, HG2.out⟩⟩
          · have HM : Aside0 (mxI s.top x.f9 = s.top) := ⟨if_neg hm⟩
            go_still_tail 10, (by kernel_rfl)
            go_wp2_with (((with_reducible refine gate_ (.store 3 (.tmp 65) (.tmp 63)) rfl ?_); refine seg_store ?hN ?hgd 3 (.tmp 65) (.tmp 63) ?ho (SB1.out.drew) 10 (.int .i64 s.top) [.int .i64 s.top] [.bool s.g, .int .i64 s.l.o, .int .i64 s.l.k, .int .i64 s.l.s, .int .i64 s.l.h, .int .i64 s.l.z, .int .i64 s.l.fr, .int .i64 s.l.un, .bool s.l.rc, .bool true, .int .i64 s.top] ?ha ?hx ?hu ?ht ?hf ?h1 ?hE ?_; (case hN => rfl); (case hgd => rfl); (case ho => rfl); (case ha => exact ⟨_, rfl, by omega⟩); (case hx => rfl); (case hu => rfl); (case ht => kernel_rfl); (case hf => exact Nat.le_of_ble_eq_true rfl); (case h1 => intro v hv; simp only [List.mem_cons, List.not_mem_nil, or_false] at hv; rcases hv with rfl <;> rfl); (case hE => rfl); intro w2 SB2 hg2; have HX2 := Aside0.mk (HX1.out.drew.grown hg2.out HNE.out); have HG2 := Aside0.mk (grown2 (grown2 HG1.out (grown_drew _ _)) hg2.out)))
            (first | go_end0 | ((try simp only [Exit.inBlock, Exit.then]); refine bodyPost_ret (results_none rfl _ _ _) rfl ?_))
            exact ⟨rfl, by unfold TakePost; rw [HT.out, HM.out]; exact ⟨SB2.out, HG2.out⟩⟩
        · have HT : Aside0 (s.takeS x = ⟨s.g, ⟨s.l.o, s.l.k, s.l.s, s.l.h, s.l.z, s.l.fr, s.l.un, true⟩, s.e, mxI s.top x.f9⟩) := ⟨(if_neg k1).trans ((if_neg k2).trans (if_neg (fun h => h.elim k3 k5)))⟩
          have d5 : (x.f5 == 5) = false := beq_eq_false_iff_ne.mpr k5
          clear k1 k2 k3 k5
          go_enter Tryd.func51, Tryd.ntmps51
          go_upto_region 1 with (fail)
          rw [← HW.out]
          have c0 : W0.cell? ⟨W.heap.size, 0, none⟩ = some (.int .i64 x.f0) := HX0.out.at_ 0
          have c1 : W0.cell? ⟨W.heap.size, 1, none⟩ = some (.int .i64 x.f1) := HX0.out.at_ 1
          have c4 : W0.cell? ⟨W.heap.size, 4, none⟩ = some (.int .i64 x.f4) := HX0.out.at_ 4
          have c5 : W0.cell? ⟨W.heap.size, 5, none⟩ = some (.int .i64 x.f5) := HX0.out.at_ 5
          have c6 : W0.cell? ⟨W.heap.size, 6, none⟩ = some (.int .i64 x.f6) := HX0.out.at_ 6
          have c7 : W0.cell? ⟨W.heap.size, 7, none⟩ = some (.int .i64 x.f7) := HX0.out.at_ 7
          have c8 : W0.cell? ⟨W.heap.size, 8, none⟩ = some (.int .i64 x.f8) := HX0.out.at_ 8
          have c9 : W0.cell? ⟨W.heap.size, 9, none⟩ = some (.int .i64 x.f9) := HX0.out.at_ 9
          have s7 : W0.cell? ⟨b, A.length + 1 + 6, none⟩ = some (.int .i64 s.l.un) := seg_at SB0.out 7 rfl
          have s10 : W0.cell? ⟨b, A.length + 10, none⟩ = some (.int .i64 s.top) := seg_at SB0.out 10 rfl
          go_upto_region 11 with (((with_reducible refine gate_ (.store 4 (.tmp 9) (.const (.bool true))) rfl ?_); refine seg_store ?hN ?hgd 4 (.tmp 9) (.const (.bool true)) ?ho (SB0.out) 8 (.bool true) [.bool true] [.bool s.g, .int .i64 s.l.o, .int .i64 s.l.k, .int .i64 s.l.s, .int .i64 s.l.h, .int .i64 s.l.z, .int .i64 s.l.fr, .int .i64 s.l.un, .bool true, .bool s.e, .int .i64 s.top] ?ha ?hx ?hu ?ht ?hf ?h1 ?hE ?_; (case hN => rfl); (case hgd => rfl); (case ho => rfl); (case ha => exact ⟨_, rfl, by omega⟩); (case hx => rfl); (case hu => rfl); (case ht => kernel_rfl); (case hf => exact Nat.le_of_ble_eq_true rfl); (case h1 => intro v hv; simp only [List.mem_cons, List.not_mem_nil, or_false] at hv; rcases hv with rfl <;> rfl); (case hE => rfl); intro w1 SB1 hg1; have HX1 := Aside0.mk (HX0.out.grown hg1.out HNE.out); have HG1 := Aside0.mk (grown2 HG0.out hg1.out); have c9 : w1.cell? ⟨W.heap.size, 9, none⟩ = some (.int .i64 x.f9) := HX1.out.at_ 9; have s7 : w1.cell? ⟨b, A.length + 1 + 6, none⟩ = some (.int .i64 s.l.un) := seg_at SB1.out 7 rfl; have s10 : w1.cell? ⟨b, A.length + 10, none⟩ = some (.int .i64 s.top) := seg_at SB1.out 10 rfl))
          by_cases hm : s.top < x.f9
          · have HM : Aside0 (mxI s.top x.f9 = x.f9) := ⟨if_pos hm⟩
            go_still_tail 10, (by kernel_rfl)
            go_wp2_with (((with_reducible refine gate_ (.store 3 (.tmp 65) (.tmp 63)) rfl ?_); refine seg_store ?hN ?hgd 3 (.tmp 65) (.tmp 63) ?ho (SB1.out.drew) 10 (.int .i64 x.f9) [.int .i64 x.f9] [.bool s.g, .int .i64 s.l.o, .int .i64 s.l.k, .int .i64 s.l.s, .int .i64 s.l.h, .int .i64 s.l.z, .int .i64 s.l.fr, .int .i64 s.l.un, .bool true, .bool s.e, .int .i64 x.f9] ?ha ?hx ?hu ?ht ?hf ?h1 ?hE ?_; (case hN => rfl); (case hgd => rfl); (case ho => rfl); (case ha => exact ⟨_, rfl, by omega⟩); (case hx => rfl); (case hu => rfl); (case ht => kernel_rfl); (case hf => exact Nat.le_of_ble_eq_true rfl); (case h1 => intro v hv; simp only [List.mem_cons, List.not_mem_nil, or_false] at hv; rcases hv with rfl <;> rfl); (case hE => rfl); intro w2 SB2 hg2; have HX2 := Aside0.mk (HX1.out.drew.grown hg2.out HNE.out); have HG2 := Aside0.mk (grown2 (grown2 HG1.out (grown_drew _ _)) hg2.out)))
            (first | go_end0 | ((try simp only [Exit.inBlock, Exit.then]); refine bodyPost_ret (results_none rfl _ _ _) rfl ?_))
            exact ⟨rfl, by unfold TakePost; rw [HT.out, HM.out]; exact ⟨SB2.out, HG2.out⟩⟩
          · have HM : Aside0 (mxI s.top x.f9 = s.top) := ⟨if_neg hm⟩
            go_still_tail 10, (by kernel_rfl)
            go_wp2_with (((with_reducible refine gate_ (.store 3 (.tmp 65) (.tmp 63)) rfl ?_); refine seg_store ?hN ?hgd 3 (.tmp 65) (.tmp 63) ?ho (SB1.out.drew) 10 (.int .i64 s.top) [.int .i64 s.top] [.bool s.g, .int .i64 s.l.o, .int .i64 s.l.k, .int .i64 s.l.s, .int .i64 s.l.h, .int .i64 s.l.z, .int .i64 s.l.fr, .int .i64 s.l.un, .bool true, .bool s.e, .int .i64 s.top] ?ha ?hx ?hu ?ht ?hf ?h1 ?hE ?_; (case hN => rfl); (case hgd => rfl); (case ho => rfl); (case ha => exact ⟨_, rfl, by omega⟩); (case hx => rfl); (case hu => rfl); (case ht => kernel_rfl); (case hf => exact Nat.le_of_ble_eq_true rfl); (case h1 => intro v hv; simp only [List.mem_cons, List.not_mem_nil, or_false] at hv; rcases hv with rfl <;> rfl); (case hE => rfl); intro w2 SB2 hg2; have HX2 := Aside0.mk (HX1.out.drew.grown hg2.out HNE.out); have HG2 := Aside0.mk (grown2 (grown2 HG1.out (grown_drew _ _)) hg2.out)))
            (first | go_end0 | ((try simp only [Exit.inBlock, Exit.then]); refine bodyPost_ret (results_none rfl _ _ _) rfl ?_))
            exact ⟨rfl, by unfold TakePost; rw [HT.out, HM.out]; exact ⟨SB2.out, HG2.out⟩⟩
end
section
-- BY HAND, AS IT STANDS
attribute [local go_sem ↓] some_setCell
def zSl : Sl := ⟨false, ⟨0, 0, 0, 0, 0, 0, 0, false⟩, false, 0⟩
def rdS (ss : List Sl) (k : Int) : Sl := ss.getD k.toNat zSl
def slotB (x : S51) : Bool := decide (1 ≤ x.f5) && decide (x.f5 ≤ 5)
theorem slotted_is (x : S51) : lease_slotted.f x.f0 x.f1 x.f2 x.f3 x.f4 x.f5 x.f6 x.f7 x.f8 x.f9 x.f10 = some (slotB x) := by
  unfold lease_slotted.f slotB
  by_cases h : x.f5 ≥ 1
  · rw [if_pos h, decide_eq_true (show 1 ≤ x.f5 from h), Bool.true_and]
  · rw [if_neg h, decide_eq_false (show ¬ 1 ≤ x.f5 from h), Bool.false_and]
theorem valid_fits {x : S51} (h : validB x = true) : fitsB x = true := by
  unfold validB at h
  simp only [Bool.and_eq_true] at h
  exact h.2.2.2.2.2.2.2.2.2.2
theorem slot_rng {x : S51} (h : validB x = true) (hs : slotB x = true) : 0 ≤ x.f6 ∧ x.f6 < 64 := by
  have hf := valid_fits h
  unfold slotB at hs
  simp only [Bool.and_eq_true, decide_eq_true_eq] at hs
  have key : ∀ (f : Fm) (d : Int), f.a0 = 0 → f.a1 = 63 → f.allB x d = true → 0 ≤ x.f6 ∧ x.f6 < 64 := by
    intro f d h0 h1 ha
    unfold Fm.allB holdsB at ha
    simp only [Bool.and_eq_true, decide_eq_true_eq] at ha
    omega
  have hk : x.f5 = 1 ∨ x.f5 = 2 ∨ x.f5 = 3 ∨ x.f5 = 4 ∨ x.f5 = 5 := by omega
  have hab : (formOf x.f5).a0 = 0 ∧ (formOf x.f5).a1 = 63 := by
    rcases hk with e | e | e | e | e <;> rw [e] <;> exact ⟨rfl, rfl⟩
  unfold fitsB at hf
  split at hf
  · cases hf
  · split at hf
    · split at hf
      · cases hf
      · exact key _ _ hab.1 hab.2 hf
    · split at hf
      · split at hf
        · cases hf
        · exact key _ _ hab.1 hab.2 hf
      · exact key _ _ hab.1 hab.2 hf
/-- The first error from statement i on. -/
def rightI (l : List S51) : Nat → Nat → List Sl → Int
  | 0, _, _ => 0
  | d + 1, i, ss => if validB (rd_T51 l i) = false then 2
    else if ((rd_T51 l i).f0 != (rd_T51 l 0).f0 || (rd_T51 l i).f1 != (rd_T51 l 0).f1) = true then 20
    else if (decide (0 < i) && decide ((rd_T51 l i).f4 < (rd_T51 l ((i : Int) - 1)).f4)) = true then 22
    else if slotB (rd_T51 l i) = false then rightI l d (i + 1) ss
    else if (rdS ss (rd_T51 l i).f6).fitsB (rd_T51 l i) = false then 18
    else rightI l d (i + 1) (ss.set (rd_T51 l i).f6.toNat ((rdS ss (rd_T51 l i).f6).takeS (rd_T51 l i)))
def lease_Right.f (l : List S51) : Option Int := some (rightI l l.length 0 (List.replicate 64 zSl))
theorem valid_at (x : S51) (W : World) (hG : GW W) (b : Bool) (h : validB x = b) : Calls Tryd.prog 53 #[.agg #[.int .i64 x.f0, .int .i64 x.f1, .int .i64 x.f2, .int .i64 x.f3, .int .i64 x.f4, .int .i64 x.f5, .int .i64 x.f6, .int .i64 x.f7, .int .i64 x.f8, .int .i64 x.f9, .int .i64 x.f10]] W fun e w' => e = .returned (.bool b) ∧ Below W.heap.size W w' := by
  subst h
  exact valid.calls x W hG
theorem fit_at (b : Nat) (T : TypeId) (ss : List Sl) (x : S51) (W : World) (hB : BlkIs W b T (flat Sl.enc ss)) (k : Nat) (hk : k < ss.length) (r : Bool) (h : ss[k].fitsB x = r) : Calls Tryd.prog 55 #[.pointer (some ⟨b, k * 11, none⟩), .agg #[.int .i64 x.f0, .int .i64 x.f1, .int .i64 x.f2, .int .i64 x.f3, .int .i64 x.f4, .int .i64 x.f5, .int .i64 x.f6, .int .i64 x.f7, .int .i64 x.f8, .int .i64 x.f9, .int .i64 x.f10]] W fun e w' => e = .returned (.bool r) ∧ Below W.heap.size W w' := by
  subst h
  exact slot_fits.calls b (k * 11) ss[k] x W (fun j v hj => by
    have hj11 : j < 11 := (List.getElem?_eq_some_iff.1 hj).1
    rw [hB.at_, fget Sl.len ss k j hk hj11, hj])
theorem split_flat (ss : List Sl) (k : Nat) (hk : k < ss.length) : flat Sl.enc ss = flat Sl.enc (ss.take k) ++ ss[k].enc ++ flat Sl.enc (ss.drop (k + 1)) := by
  have h : ss = ss.take k ++ ss[k] :: ss.drop (k + 1) := by rw [← List.drop_eq_getElem_cons hk, List.take_append_drop]
  have h2 := congrArg (flat Sl.enc) h
  rw [flat_append, flat_cons, ← List.append_assoc] at h2
  exact h2
theorem set_flat (ss : List Sl) (k : Nat) (hk : k < ss.length) (s : Sl) : flat Sl.enc (ss.set k s) = flat Sl.enc (ss.take k) ++ s.enc ++ flat Sl.enc (ss.drop (k + 1)) := by
  rw [List.set_eq_take_append_cons_drop, if_pos hk, flat_append, flat_cons, ← List.append_assoc]
theorem take_at (b : Nat) (T : TypeId) (ss : List Sl) (x : S51) (W : World) (hB : BlkIs W b T (flat Sl.enc ss)) (k : Nat) (hk : k < ss.length) : Calls Tryd.prog 51 #[.pointer (some ⟨b, k * 11, none⟩), .agg #[.int .i64 x.f0, .int .i64 x.f1, .int .i64 x.f2, .int .i64 x.f3, .int .i64 x.f4, .int .i64 x.f5, .int .i64 x.f6, .int .i64 x.f7, .int .i64 x.f8, .int .i64 x.f9, .int .i64 x.f10]] W fun e w' => e = .returned (.tuple #[]) ∧ Aside0 (BlkIs w' b T (flat Sl.enc (ss.set k (ss[k].takeS x)))) ∧ Aside0 (W.grownBy w' (some b)) := by
  rw [split_flat ss k hk] at hB
  have hlen : (flat Sl.enc (ss.take k)).length = k * 11 := by rw [flen Sl.len, List.length_take, Nat.min_eq_left (by omega)]
  have h := slot_take.calls b T _ _ ss[k] x W hB
  rw [hlen] at h
  refine h.mono fun e w' ⟨he, h1, h2⟩ => ⟨he, ⟨?_⟩, ⟨h2⟩⟩
  rw [set_flat ss k hk]
  exact h1
theorem zero_flat : Tryd.zeroCells96 = (flat Sl.enc (List.replicate 64 zSl)).toArray := by kernel_rfl
set_option maxHeartbeats 16000000 in
set_option maxRecDepth 100000 in
theorem lease_Right.calls (A0 : Option Addr) (c0 : Nat) (l : List S51) (r : Int) (w : World) (hG : GW w) (hr0 : Kd.C k51 w A0 l.length l) (hc0 : l.length ≤ c0) (h : lease_Right.f l = some r) :
    Calls Tryd.prog 40 #[.slice A0 l.length c0] w fun e w' => e = .returned (.int .i64 r) ∧ Below w.heap.size w w' := by
  have hr := Option.some.inj h
  clear h
  have hu := Tryd.underlying51
  have HG := Aside0.mk hG
  have HC := Aside0.mk hr0
  have HLM : Aside0 (l.length ≤ 9223372036854775807) := ⟨hr0.2.1⟩
  have HE := Aside0.mk hr
  clear hG hr0 hr hc0
  go_enter Tryd.func40, Tryd.ntmps40
  go_wp2_with (fail)
  have hz := zero_flat
  rw [hz]
  clear hz
  obtain ⟨W0, hW0⟩ : ∃ W0, W0 = w.alloc (.cells (flat Sl.enc (List.replicate 64 zSl)).toArray 96) := ⟨_, rfl⟩
  rw [← hW0]
  have HS0 : Aside0 (BlkIs W0 w.heap.size 96 (flat Sl.enc (List.replicate 64 zSl))) := ⟨by rw [hW0]; exact heap_alloc_new w _⟩
  have HB0 : Aside0 (Below w.heap.size w W0) := ⟨by rw [hW0]; exact below_alloc (Below.refl _ _) _⟩
  clear hW0
  go_loopg [9] l.length (fun kq v9 w' => ∃ (i : Nat) (ss : List Sl), v9 = .int .i64 i ∧ Aside0 (i + kq = l.length) ∧ Aside0 (rightI l kq i ss = r) ∧ Aside0 (ss.length = 64) ∧ Aside0 (BlkIs w' w.heap.size 96 (flat Sl.enc ss)) ∧ Aside0 (Below w.heap.size w w'))
  case atStart => exact ⟨0, List.replicate 64 zSl, rfl, ⟨by omega⟩, HE, ⟨List.length_replicate ..⟩, HS0, HB0⟩
  case round =>
    clear HS0 HB0 HE
    obtain ⟨i, ss, rfl, HI, HX, HLS, HS, HB⟩ := hrel
    cases gk with
    | zero =>
      have c4b0 : decide ((i : Int) < (l.length : Int)) = false := decide_eq_false (by have := HI.out; omega)
      have c4b1 : decide (i < l.length) = false := decide_eq_false (by have := HI.out; omega)
      have hre : (0 : Int) = r := HX.out
      subst hre
      go_wp2
      go_ret
      exact ⟨rfl, HB.out⟩
    | succ k1 =>
      have hil : i < l.length := by have := HI.out; omega
      have c4b0 : decide ((i : Int) < (l.length : Int)) = true := decide_eq_true (by omega)
      have c4b1 : decide (i < l.length) = true := decide_eq_true hil
      have hi64 : (i : Int) ≤ 9223372036854775806 := by have := HLM.out; omega
      have p1 : 0 ≤ (i : Int) := by omega
      have q1 : (i : Int) < (l.length : Int) := by omega
      obtain ⟨ad, e1, hx0, hx1, hx2, hx3, hx4, hx5, hx6, hx7, hx8, hx9, hx10⟩ := at_T51 HC.out i p1 q1
      cases e1
      obtain ⟨ad', e2, hy0, hy1, _⟩ := at_T51 HC.out 0 (by omega) (by omega)
      cases e2
      obtain ⟨y, hye⟩ : ∃ y, y = rd_T51 l 0 := ⟨_, rfl⟩
      rw [← hye] at hy0 hy1
      have EY := Aside0.mk hye
      have HY0 := Aside0.mk hy0
      have HY1 := Aside0.mk hy1
      clear hye hy0 hy1
      replace hx0 := (HB.out.cell (World.block_lt_of_cell? w _ hx0)).trans hx0
      replace hx1 := (HB.out.cell (World.block_lt_of_cell? w _ hx1)).trans hx1
      replace hx2 := (HB.out.cell (World.block_lt_of_cell? w _ hx2)).trans hx2
      replace hx3 := (HB.out.cell (World.block_lt_of_cell? w _ hx3)).trans hx3
      replace hx4 := (HB.out.cell (World.block_lt_of_cell? w _ hx4)).trans hx4
      replace hx5 := (HB.out.cell (World.block_lt_of_cell? w _ hx5)).trans hx5
      replace hx6 := (HB.out.cell (World.block_lt_of_cell? w _ hx6)).trans hx6
      replace hx7 := (HB.out.cell (World.block_lt_of_cell? w _ hx7)).trans hx7
      replace hx8 := (HB.out.cell (World.block_lt_of_cell? w _ hx8)).trans hx8
      replace hx9 := (HB.out.cell (World.block_lt_of_cell? w _ hx9)).trans hx9
      replace hx10 := (HB.out.cell (World.block_lt_of_cell? w _ hx10)).trans hx10
      rw [Int.toNat_natCast] at hx0 hx1 hx2 hx3 hx4 hx5 hx6 hx7 hx8 hx9 hx10
      obtain ⟨x, hxe⟩ : ∃ x, x = rd_T51 l (i : Int) := ⟨_, rfl⟩
      rw [← hxe] at hx0 hx1 hx2 hx3 hx4 hx5 hx6 hx7 hx8 hx9 hx10
      have EX := Aside0.mk hxe
      clear hxe
      have hHN := heap_alloc_new wr (.cells #[.int .i64 x.f0, .int .i64 x.f1, .int .i64 x.f2, .int .i64 x.f3, .int .i64 x.f4, .int .i64 x.f5, .int .i64 x.f6, .int .i64 x.f7, .int .i64 x.f8, .int .i64 x.f9, .int .i64 x.f10] 51)
      have hHS := HS.out.alloc (.cells #[.int .i64 x.f0, .int .i64 x.f1, .int .i64 x.f2, .int .i64 x.f3, .int .i64 x.f4, .int .i64 x.f5, .int .i64 x.f6, .int .i64 x.f7, .int .i64 x.f8, .int .i64 x.f9, .int .i64 x.f10] 51)
      have hHB := below_alloc HB.out (.cells #[.int .i64 x.f0, .int .i64 x.f1, .int .i64 x.f2, .int .i64 x.f3, .int .i64 x.f4, .int .i64 x.f5, .int .i64 x.f6, .int .i64 x.f7, .int .i64 x.f8, .int .i64 x.f9, .int .i64 x.f10] 51)
      have HNW : Aside0 (w.heap.size ≠ wr.heap.size) := ⟨fun e => by have := HS.out.lt; omega⟩
      go_upto_region 5 with (fail)
      generalize wr.alloc (.cells #[.int .i64 x.f0, .int .i64 x.f1, .int .i64 x.f2, .int .i64 x.f3, .int .i64 x.f4, .int .i64 x.f5, .int .i64 x.f6, .int .i64 x.f7, .int .i64 x.f8, .int .i64 x.f9, .int .i64 x.f10] 51) = w1 at hHN hHS hHB ⊢
      have HN1 : Aside0 (BlkIs w1 wr.heap.size 51 [.int .i64 x.f0, .int .i64 x.f1, .int .i64 x.f2, .int .i64 x.f3, .int .i64 x.f4, .int .i64 x.f5, .int .i64 x.f6, .int .i64 x.f7, .int .i64 x.f8, .int .i64 x.f9, .int .i64 x.f10]) := ⟨hHN⟩
      have HS1 := Aside0.mk hHS
      have HB1 := Aside0.mk hHB
      have HG1 := Aside0.mk (HG.out.below HB1.out)
      clear hHN hHS hHB hx0 hx1 hx2 hx3 hx4 hx5 hx6 hx7 hx8 hx9 hx10 HS HB
      have x0_1 : w1.cell? ⟨wr.heap.size, 0, none⟩ = some (.int .i64 x.f0) := HN1.out.at_ 0
      have x1_1 : w1.cell? ⟨wr.heap.size, 1, none⟩ = some (.int .i64 x.f1) := HN1.out.at_ 1
      have x2_1 : w1.cell? ⟨wr.heap.size, 2, none⟩ = some (.int .i64 x.f2) := HN1.out.at_ 2
      have x3_1 : w1.cell? ⟨wr.heap.size, 3, none⟩ = some (.int .i64 x.f3) := HN1.out.at_ 3
      have x4_1 : w1.cell? ⟨wr.heap.size, 4, none⟩ = some (.int .i64 x.f4) := HN1.out.at_ 4
      have x5_1 : w1.cell? ⟨wr.heap.size, 5, none⟩ = some (.int .i64 x.f5) := HN1.out.at_ 5
      have x6_1 : w1.cell? ⟨wr.heap.size, 6, none⟩ = some (.int .i64 x.f6) := HN1.out.at_ 6
      have x7_1 : w1.cell? ⟨wr.heap.size, 7, none⟩ = some (.int .i64 x.f7) := HN1.out.at_ 7
      have x8_1 : w1.cell? ⟨wr.heap.size, 8, none⟩ = some (.int .i64 x.f8) := HN1.out.at_ 8
      have x9_1 : w1.cell? ⟨wr.heap.size, 9, none⟩ = some (.int .i64 x.f9) := HN1.out.at_ 9
      have x10_1 : w1.cell? ⟨wr.heap.size, 10, none⟩ = some (.int .i64 x.f10) := HN1.out.at_ 10
      cases hv : validB x with
      | false =>
        have HV := Aside0.mk hv
        clear hv
        have hre : (2 : Int) = r := by
          rw [← HX.out, rightI, ← EX.out, ← EY.out, if_pos HV.out]
        subst hre
        go_wp2_with ((go_at_call 53; (with_reducible refine (valid_at x _ HG1.out false HV.out).mono ?_); rintro e w2 ⟨rfl, hb2⟩; have HN2 := Aside0.mk (HN1.out.below hb2); have HS2 := Aside0.mk (HS1.out.below hb2); have HB2 := Aside0.mk (below_step HB1.out hb2); clear hb2; have x0_2 : w2.cell? ⟨wr.heap.size, 0, none⟩ = some (.int .i64 x.f0) := HN2.out.at_ 0; have x1_2 : w2.cell? ⟨wr.heap.size, 1, none⟩ = some (.int .i64 x.f1) := HN2.out.at_ 1; have x2_2 : w2.cell? ⟨wr.heap.size, 2, none⟩ = some (.int .i64 x.f2) := HN2.out.at_ 2; have x3_2 : w2.cell? ⟨wr.heap.size, 3, none⟩ = some (.int .i64 x.f3) := HN2.out.at_ 3; have x4_2 : w2.cell? ⟨wr.heap.size, 4, none⟩ = some (.int .i64 x.f4) := HN2.out.at_ 4; have x5_2 : w2.cell? ⟨wr.heap.size, 5, none⟩ = some (.int .i64 x.f5) := HN2.out.at_ 5; have x6_2 : w2.cell? ⟨wr.heap.size, 6, none⟩ = some (.int .i64 x.f6) := HN2.out.at_ 6; have x7_2 : w2.cell? ⟨wr.heap.size, 7, none⟩ = some (.int .i64 x.f7) := HN2.out.at_ 7; have x8_2 : w2.cell? ⟨wr.heap.size, 8, none⟩ = some (.int .i64 x.f8) := HN2.out.at_ 8; have x9_2 : w2.cell? ⟨wr.heap.size, 9, none⟩ = some (.int .i64 x.f9) := HN2.out.at_ 9; have x10_2 : w2.cell? ⟨wr.heap.size, 10, none⟩ = some (.int .i64 x.f10) := HN2.out.at_ 10; have ya_2 := (HB2.out.cell (World.block_lt_of_cell? w _ HY0.out)).trans HY0.out; have yb_2 := (HB2.out.cell (World.block_lt_of_cell? w _ HY1.out)).trans HY1.out))
        go_ret
        exact ⟨rfl, by repeat (first | exact HB2.out | apply below_drew1 | apply pw_below_drewN)⟩
      | true =>
        have HV := Aside0.mk hv
        have HVN : Aside0 (¬ validB x = false) := ⟨by rw [hv]; decide⟩
        clear hv
        go_upto_region 7 with ((go_at_call 53; (with_reducible refine (valid_at x _ HG1.out true HV.out).mono ?_); rintro e w2 ⟨rfl, hb2⟩; have HN2 := Aside0.mk (HN1.out.below hb2); have HS2 := Aside0.mk (HS1.out.below hb2); have HB2 := Aside0.mk (below_step HB1.out hb2); clear hb2; have x0_2 : w2.cell? ⟨wr.heap.size, 0, none⟩ = some (.int .i64 x.f0) := HN2.out.at_ 0; have x1_2 : w2.cell? ⟨wr.heap.size, 1, none⟩ = some (.int .i64 x.f1) := HN2.out.at_ 1; have x2_2 : w2.cell? ⟨wr.heap.size, 2, none⟩ = some (.int .i64 x.f2) := HN2.out.at_ 2; have x3_2 : w2.cell? ⟨wr.heap.size, 3, none⟩ = some (.int .i64 x.f3) := HN2.out.at_ 3; have x4_2 : w2.cell? ⟨wr.heap.size, 4, none⟩ = some (.int .i64 x.f4) := HN2.out.at_ 4; have x5_2 : w2.cell? ⟨wr.heap.size, 5, none⟩ = some (.int .i64 x.f5) := HN2.out.at_ 5; have x6_2 : w2.cell? ⟨wr.heap.size, 6, none⟩ = some (.int .i64 x.f6) := HN2.out.at_ 6; have x7_2 : w2.cell? ⟨wr.heap.size, 7, none⟩ = some (.int .i64 x.f7) := HN2.out.at_ 7; have x8_2 : w2.cell? ⟨wr.heap.size, 8, none⟩ = some (.int .i64 x.f8) := HN2.out.at_ 8; have x9_2 : w2.cell? ⟨wr.heap.size, 9, none⟩ = some (.int .i64 x.f9) := HN2.out.at_ 9; have x10_2 : w2.cell? ⟨wr.heap.size, 10, none⟩ = some (.int .i64 x.f10) := HN2.out.at_ 10; have ya_2 := (HB2.out.cell (World.block_lt_of_cell? w _ HY0.out)).trans HY0.out; have yb_2 := (HB2.out.cell (World.block_lt_of_cell? w _ HY1.out)).trans HY1.out))
        have z2 : w2.cell? ad = some (.int .i64 y.f0) := ya_2
        have z3 : w2.cell? ⟨ad.block, ad.off + 1, none⟩ = some (.int .i64 y.f1) := yb_2
        have z0 : w2.cell? (ad.add 0) = some (.int .i64 y.f0) := ya_2
        have z1 : w2.cell? ⟨(ad.add 0).block, (ad.add 0).off + 1, none⟩ = some (.int .i64 y.f1) := yb_2
        have hl0 : (0 : Int) < (l.length : Int) := by omega
        have hl0n : 0 < l.length := by omega
        cases hp0 : (x.f0 != y.f0) with
        | true =>
          have HP : Aside0 ((x.f0 != y.f0 || x.f1 != y.f1) = true) := ⟨by rw [hp0]; rfl⟩
          have hre : (20 : Int) = r := by
            rw [← HX.out, rightI, ← EX.out, ← EY.out, if_neg HVN.out, if_pos HP.out]
          subst hre
          go_quiet ((fail))
          go_wp2
          go_ret
          exact ⟨rfl, by repeat (first | exact HB2.out | apply below_drew1 | apply pw_below_drewN)⟩
        | false =>
          cases hp1 : (x.f1 != y.f1) with
          | true =>
            have HP : Aside0 ((x.f0 != y.f0 || x.f1 != y.f1) = true) := ⟨by rw [hp0, hp1]; rfl⟩
            have hre : (20 : Int) = r := by
              rw [← HX.out, rightI, ← EX.out, ← EY.out, if_neg HVN.out, if_pos HP.out]
            subst hre
            go_quiet ((fail))
            go_wp2
            go_ret
            exact ⟨rfl, by repeat (first | exact HB2.out | apply below_drew1 | apply pw_below_drewN)⟩
          | false =>
            have HP : Aside0 (¬ (x.f0 != y.f0 || x.f1 != y.f1) = true) := ⟨by rw [hp0, hp1]; decide⟩
            go_quiet ((fail))
            go_upto_region 9 with (fail)
            have HN6 := Aside0.mk (HN2.out.drewN nq)
            have HS6 := Aside0.mk (HS2.out.drewN nq)
            have HB6 := Aside0.mk (pw_below_drewN HB2.out nq)
            generalize (World.drewN _ nq) = w2b at HN6 HS6 HB6 ⊢
            have x0_6 : w2b.cell? ⟨wr.heap.size, 0, none⟩ = some (.int .i64 x.f0) := HN6.out.at_ 0
            have x1_6 : w2b.cell? ⟨wr.heap.size, 1, none⟩ = some (.int .i64 x.f1) := HN6.out.at_ 1
            have x2_6 : w2b.cell? ⟨wr.heap.size, 2, none⟩ = some (.int .i64 x.f2) := HN6.out.at_ 2
            have x3_6 : w2b.cell? ⟨wr.heap.size, 3, none⟩ = some (.int .i64 x.f3) := HN6.out.at_ 3
            have x4_6 : w2b.cell? ⟨wr.heap.size, 4, none⟩ = some (.int .i64 x.f4) := HN6.out.at_ 4
            have x5_6 : w2b.cell? ⟨wr.heap.size, 5, none⟩ = some (.int .i64 x.f5) := HN6.out.at_ 5
            have x6_6 : w2b.cell? ⟨wr.heap.size, 6, none⟩ = some (.int .i64 x.f6) := HN6.out.at_ 6
            have x7_6 : w2b.cell? ⟨wr.heap.size, 7, none⟩ = some (.int .i64 x.f7) := HN6.out.at_ 7
            have x8_6 : w2b.cell? ⟨wr.heap.size, 8, none⟩ = some (.int .i64 x.f8) := HN6.out.at_ 8
            have x9_6 : w2b.cell? ⟨wr.heap.size, 9, none⟩ = some (.int .i64 x.f9) := HN6.out.at_ 9
            have x10_6 : w2b.cell? ⟨wr.heap.size, 10, none⟩ = some (.int .i64 x.f10) := HN6.out.at_ 10
            clear z0 z1 z2 z3 ya_2 yb_2 hl0 hl0n
            by_cases t0 : i = 0
            · have HT : Aside0 (¬ (decide (0 < i) && decide (x.f4 < (rd_T51 l ((i : Int) - 1)).f4)) = true) := ⟨by rw [decide_eq_false (show ¬ 0 < i by omega)]; simp⟩
              have d0 : decide (0 < (i : Int)) = false := decide_eq_false (by omega)
              have d0n : decide (0 < i) = false := decide_eq_false (by omega)
              clear t0
              go_quiet ((fail))
              go_upto_region 11 with (fail)
              have HN7 := Aside0.mk (HN6.out.drewN nq)
              have HS7 := Aside0.mk (HS6.out.drewN nq)
              have HB7 := Aside0.mk (pw_below_drewN HB6.out nq)
              generalize (World.drewN _ nq) = w2c at HN7 HS7 HB7 ⊢
              have x0_7 : w2c.cell? ⟨wr.heap.size, 0, none⟩ = some (.int .i64 x.f0) := HN7.out.at_ 0
              have x1_7 : w2c.cell? ⟨wr.heap.size, 1, none⟩ = some (.int .i64 x.f1) := HN7.out.at_ 1
              have x2_7 : w2c.cell? ⟨wr.heap.size, 2, none⟩ = some (.int .i64 x.f2) := HN7.out.at_ 2
              have x3_7 : w2c.cell? ⟨wr.heap.size, 3, none⟩ = some (.int .i64 x.f3) := HN7.out.at_ 3
              have x4_7 : w2c.cell? ⟨wr.heap.size, 4, none⟩ = some (.int .i64 x.f4) := HN7.out.at_ 4
              have x5_7 : w2c.cell? ⟨wr.heap.size, 5, none⟩ = some (.int .i64 x.f5) := HN7.out.at_ 5
              have x6_7 : w2c.cell? ⟨wr.heap.size, 6, none⟩ = some (.int .i64 x.f6) := HN7.out.at_ 6
              have x7_7 : w2c.cell? ⟨wr.heap.size, 7, none⟩ = some (.int .i64 x.f7) := HN7.out.at_ 7
              have x8_7 : w2c.cell? ⟨wr.heap.size, 8, none⟩ = some (.int .i64 x.f8) := HN7.out.at_ 8
              have x9_7 : w2c.cell? ⟨wr.heap.size, 9, none⟩ = some (.int .i64 x.f9) := HN7.out.at_ 9
              have x10_7 : w2c.cell? ⟨wr.heap.size, 10, none⟩ = some (.int .i64 x.f10) := HN7.out.at_ 10
              cases hs : slotB x with
              | false =>
                have HSL := Aside0.mk hs
                clear hs
                have hre : rightI l k1 (i + 1) ss = r := by
                  rw [← HX.out, rightI, ← EX.out, ← EY.out, if_neg HVN.out, if_neg HP.out, if_neg HT.out, if_pos HSL.out]
                have HRE := Aside0.mk hre
                clear hre
                go_wp2_with ((go_at_call 54; (with_reducible refine (lease_slotted.calls x.f0 x.f1 x.f2 x.f3 x.f4 x.f5 x.f6 x.f7 x.f8 x.f9 x.f10 false _ (by rw [slotted_is]; exact congrArg some HSL.out)).mono ?_); rintro e w3 ⟨rfl, hb3⟩; have HN3 := Aside0.mk (HN7.out.below hb3); have HS3 := Aside0.mk (HS7.out.below hb3); have HB3 := Aside0.mk (below_step HB7.out hb3); clear hb3; have x0_3 : w3.cell? ⟨wr.heap.size, 0, none⟩ = some (.int .i64 x.f0) := HN3.out.at_ 0; have x1_3 : w3.cell? ⟨wr.heap.size, 1, none⟩ = some (.int .i64 x.f1) := HN3.out.at_ 1; have x2_3 : w3.cell? ⟨wr.heap.size, 2, none⟩ = some (.int .i64 x.f2) := HN3.out.at_ 2; have x3_3 : w3.cell? ⟨wr.heap.size, 3, none⟩ = some (.int .i64 x.f3) := HN3.out.at_ 3; have x4_3 : w3.cell? ⟨wr.heap.size, 4, none⟩ = some (.int .i64 x.f4) := HN3.out.at_ 4; have x5_3 : w3.cell? ⟨wr.heap.size, 5, none⟩ = some (.int .i64 x.f5) := HN3.out.at_ 5; have x6_3 : w3.cell? ⟨wr.heap.size, 6, none⟩ = some (.int .i64 x.f6) := HN3.out.at_ 6; have x7_3 : w3.cell? ⟨wr.heap.size, 7, none⟩ = some (.int .i64 x.f7) := HN3.out.at_ 7; have x8_3 : w3.cell? ⟨wr.heap.size, 8, none⟩ = some (.int .i64 x.f8) := HN3.out.at_ 8; have x9_3 : w3.cell? ⟨wr.heap.size, 9, none⟩ = some (.int .i64 x.f9) := HN3.out.at_ 9; have x10_3 : w3.cell? ⟨wr.heap.size, 10, none⟩ = some (.int .i64 x.f10) := HN3.out.at_ 10))
                go_roundg k1
                case measure => omega
                case rel => exact ⟨i + 1, ss, by simp, ⟨by have := HI.out; omega⟩, HRE, HLS, HS3, HB3⟩
              | true =>
                have HSL := Aside0.mk hs
                have HSN : Aside0 (¬ slotB x = false) := ⟨by rw [hs]; decide⟩
                obtain ⟨f0, f64⟩ := slot_rng HV.out hs
                clear hs
                have HK : Aside0 (x.f6.toNat < ss.length) := ⟨by have := HLS.out; omega⟩
                have HRD : Aside0 (rdS ss x.f6 = ss[x.f6.toNat]'HK.out) := ⟨by unfold rdS; rw [List.getD_eq_getElem?_getD, List.getElem?_eq_getElem HK.out]; rfl⟩
                cases hf : (ss[x.f6.toNat]'HK.out).fitsB x with
                | false =>
                  have HFI := Aside0.mk hf
                  clear hf
                  have hre : (18 : Int) = r := by
                    rw [← HX.out, rightI, ← EX.out, ← EY.out, if_neg HVN.out, if_neg HP.out, if_neg HT.out, if_neg HSN.out, HRD.out, if_pos HFI.out]
                  subst hre
                  go_wp2_with (first | (go_at_call 54; (with_reducible refine (lease_slotted.calls x.f0 x.f1 x.f2 x.f3 x.f4 x.f5 x.f6 x.f7 x.f8 x.f9 x.f10 true _ (by rw [slotted_is]; exact congrArg some HSL.out)).mono ?_); rintro e w3 ⟨rfl, hb3⟩; have HN3 := Aside0.mk (HN7.out.below hb3); have HS3 := Aside0.mk (HS7.out.below hb3); have HB3 := Aside0.mk (below_step HB7.out hb3); clear hb3; have x0_3 : w3.cell? ⟨wr.heap.size, 0, none⟩ = some (.int .i64 x.f0) := HN3.out.at_ 0; have x1_3 : w3.cell? ⟨wr.heap.size, 1, none⟩ = some (.int .i64 x.f1) := HN3.out.at_ 1; have x2_3 : w3.cell? ⟨wr.heap.size, 2, none⟩ = some (.int .i64 x.f2) := HN3.out.at_ 2; have x3_3 : w3.cell? ⟨wr.heap.size, 3, none⟩ = some (.int .i64 x.f3) := HN3.out.at_ 3; have x4_3 : w3.cell? ⟨wr.heap.size, 4, none⟩ = some (.int .i64 x.f4) := HN3.out.at_ 4; have x5_3 : w3.cell? ⟨wr.heap.size, 5, none⟩ = some (.int .i64 x.f5) := HN3.out.at_ 5; have x6_3 : w3.cell? ⟨wr.heap.size, 6, none⟩ = some (.int .i64 x.f6) := HN3.out.at_ 6; have x7_3 : w3.cell? ⟨wr.heap.size, 7, none⟩ = some (.int .i64 x.f7) := HN3.out.at_ 7; have x8_3 : w3.cell? ⟨wr.heap.size, 8, none⟩ = some (.int .i64 x.f8) := HN3.out.at_ 8; have x9_3 : w3.cell? ⟨wr.heap.size, 9, none⟩ = some (.int .i64 x.f9) := HN3.out.at_ 9; have x10_3 : w3.cell? ⟨wr.heap.size, 10, none⟩ = some (.int .i64 x.f10) := HN3.out.at_ 10) | (go_at_call 55; (with_reducible refine (fit_at _ _ ss x _ HS3.out x.f6.toNat HK.out false HFI.out).mono ?_); rintro e w4 ⟨rfl, hb4⟩; have HN4 := Aside0.mk (HN3.out.below hb4); have HS4 := Aside0.mk (HS3.out.below hb4); have HB4 := Aside0.mk (below_step HB3.out hb4); clear hb4; have x0_4 : w4.cell? ⟨wr.heap.size, 0, none⟩ = some (.int .i64 x.f0) := HN4.out.at_ 0; have x1_4 : w4.cell? ⟨wr.heap.size, 1, none⟩ = some (.int .i64 x.f1) := HN4.out.at_ 1; have x2_4 : w4.cell? ⟨wr.heap.size, 2, none⟩ = some (.int .i64 x.f2) := HN4.out.at_ 2; have x3_4 : w4.cell? ⟨wr.heap.size, 3, none⟩ = some (.int .i64 x.f3) := HN4.out.at_ 3; have x4_4 : w4.cell? ⟨wr.heap.size, 4, none⟩ = some (.int .i64 x.f4) := HN4.out.at_ 4; have x5_4 : w4.cell? ⟨wr.heap.size, 5, none⟩ = some (.int .i64 x.f5) := HN4.out.at_ 5; have x6_4 : w4.cell? ⟨wr.heap.size, 6, none⟩ = some (.int .i64 x.f6) := HN4.out.at_ 6; have x7_4 : w4.cell? ⟨wr.heap.size, 7, none⟩ = some (.int .i64 x.f7) := HN4.out.at_ 7; have x8_4 : w4.cell? ⟨wr.heap.size, 8, none⟩ = some (.int .i64 x.f8) := HN4.out.at_ 8; have x9_4 : w4.cell? ⟨wr.heap.size, 9, none⟩ = some (.int .i64 x.f9) := HN4.out.at_ 9; have x10_4 : w4.cell? ⟨wr.heap.size, 10, none⟩ = some (.int .i64 x.f10) := HN4.out.at_ 10))
                  go_ret
                  exact ⟨rfl, HB4.out⟩
                | true =>
                  have HFI := Aside0.mk hf
                  have HFN : Aside0 (¬ (ss[x.f6.toNat]'HK.out).fitsB x = false) := ⟨by rw [hf]; decide⟩
                  clear hf
                  have hre : rightI l k1 (i + 1) (ss.set x.f6.toNat ((ss[x.f6.toNat]'HK.out).takeS x)) = r := by
                    rw [← HX.out, rightI, ← EX.out, ← EY.out, if_neg HVN.out, if_neg HP.out, if_neg HT.out, if_neg HSN.out, HRD.out, if_neg HFN.out]
                  have HRE := Aside0.mk hre
                  clear hre
                  go_wp2_with (first | (go_at_call 54; (with_reducible refine (lease_slotted.calls x.f0 x.f1 x.f2 x.f3 x.f4 x.f5 x.f6 x.f7 x.f8 x.f9 x.f10 true _ (by rw [slotted_is]; exact congrArg some HSL.out)).mono ?_); rintro e w3 ⟨rfl, hb3⟩; have HN3 := Aside0.mk (HN7.out.below hb3); have HS3 := Aside0.mk (HS7.out.below hb3); have HB3 := Aside0.mk (below_step HB7.out hb3); clear hb3; have x0_3 : w3.cell? ⟨wr.heap.size, 0, none⟩ = some (.int .i64 x.f0) := HN3.out.at_ 0; have x1_3 : w3.cell? ⟨wr.heap.size, 1, none⟩ = some (.int .i64 x.f1) := HN3.out.at_ 1; have x2_3 : w3.cell? ⟨wr.heap.size, 2, none⟩ = some (.int .i64 x.f2) := HN3.out.at_ 2; have x3_3 : w3.cell? ⟨wr.heap.size, 3, none⟩ = some (.int .i64 x.f3) := HN3.out.at_ 3; have x4_3 : w3.cell? ⟨wr.heap.size, 4, none⟩ = some (.int .i64 x.f4) := HN3.out.at_ 4; have x5_3 : w3.cell? ⟨wr.heap.size, 5, none⟩ = some (.int .i64 x.f5) := HN3.out.at_ 5; have x6_3 : w3.cell? ⟨wr.heap.size, 6, none⟩ = some (.int .i64 x.f6) := HN3.out.at_ 6; have x7_3 : w3.cell? ⟨wr.heap.size, 7, none⟩ = some (.int .i64 x.f7) := HN3.out.at_ 7; have x8_3 : w3.cell? ⟨wr.heap.size, 8, none⟩ = some (.int .i64 x.f8) := HN3.out.at_ 8; have x9_3 : w3.cell? ⟨wr.heap.size, 9, none⟩ = some (.int .i64 x.f9) := HN3.out.at_ 9; have x10_3 : w3.cell? ⟨wr.heap.size, 10, none⟩ = some (.int .i64 x.f10) := HN3.out.at_ 10) | (go_at_call 55; (with_reducible refine (fit_at _ _ ss x _ HS3.out x.f6.toNat HK.out true HFI.out).mono ?_); rintro e w4 ⟨rfl, hb4⟩; have HN4 := Aside0.mk (HN3.out.below hb4); have HS4 := Aside0.mk (HS3.out.below hb4); have HB4 := Aside0.mk (below_step HB3.out hb4); clear hb4; have x0_4 : w4.cell? ⟨wr.heap.size, 0, none⟩ = some (.int .i64 x.f0) := HN4.out.at_ 0; have x1_4 : w4.cell? ⟨wr.heap.size, 1, none⟩ = some (.int .i64 x.f1) := HN4.out.at_ 1; have x2_4 : w4.cell? ⟨wr.heap.size, 2, none⟩ = some (.int .i64 x.f2) := HN4.out.at_ 2; have x3_4 : w4.cell? ⟨wr.heap.size, 3, none⟩ = some (.int .i64 x.f3) := HN4.out.at_ 3; have x4_4 : w4.cell? ⟨wr.heap.size, 4, none⟩ = some (.int .i64 x.f4) := HN4.out.at_ 4; have x5_4 : w4.cell? ⟨wr.heap.size, 5, none⟩ = some (.int .i64 x.f5) := HN4.out.at_ 5; have x6_4 : w4.cell? ⟨wr.heap.size, 6, none⟩ = some (.int .i64 x.f6) := HN4.out.at_ 6; have x7_4 : w4.cell? ⟨wr.heap.size, 7, none⟩ = some (.int .i64 x.f7) := HN4.out.at_ 7; have x8_4 : w4.cell? ⟨wr.heap.size, 8, none⟩ = some (.int .i64 x.f8) := HN4.out.at_ 8; have x9_4 : w4.cell? ⟨wr.heap.size, 9, none⟩ = some (.int .i64 x.f9) := HN4.out.at_ 9; have x10_4 : w4.cell? ⟨wr.heap.size, 10, none⟩ = some (.int .i64 x.f10) := HN4.out.at_ 10) | (go_at_call 51; (with_reducible refine (take_at _ _ ss x _ HS4.out x.f6.toNat HK.out).mono ?_); rintro e w5 ⟨rfl, HS5, HG5⟩))
                  have hb5 := pw_below_grown HB4.out _ HB4.out.size HG5.out (by intro k hk; injection hk with hk; omega)
                  have HB5 := Aside0.mk hb5
                  clear hb5
                  go_roundg k1
                  case measure => omega
                  case rel => exact ⟨i + 1, _, by simp, ⟨by have := HI.out; omega⟩, HRE, ⟨by rw [List.length_set]; exact HLS.out⟩, HS5, HB5⟩
            · have d0 : decide (0 < (i : Int)) = true := decide_eq_true (by omega)
              have d0n : decide (0 < i) = true := decide_eq_true (by omega)
              have p2 : 0 ≤ (i : Int) - 1 := by omega
              have p2b : (1 : Int) ≤ (i : Int) := by omega
              have q2 : (i : Int) - 1 < (l.length : Int) := by omega
              obtain ⟨ad3, e3, _, _, _, _, hv4, _⟩ := at_T51 HC.out ((i : Int) - 1) p2 q2
              cases e3
              obtain ⟨v, hve⟩ : ∃ v, v = rd_T51 l ((i : Int) - 1) := ⟨_, rfl⟩
              rw [← hve] at hv4
              have EV := Aside0.mk hve
              clear hve
              have ht2 : ((i : Int) - 1).toNat = i - 1 := by omega
              rw [ht2] at hv4
              replace hv4 := (HB6.out.cell (World.block_lt_of_cell? w _ hv4)).trans hv4
              have hw2 : IntKind.i64.wrap ((i : Int) - 1) = (i : Int) - 1 := IntWalk.i64_in _ (by omega)
              have HIZ := Aside0.mk t0
              replace p2 := eq_true p2
              replace p2b := eq_true p2b
              replace q2 := eq_true q2
              clear t0
              cases ht : decide (x.f4 < v.f4) with
              | true =>
                have HT : Aside0 ((decide (0 < i) && decide (x.f4 < (rd_T51 l ((i : Int) - 1)).f4)) = true) := ⟨by rw [← EV.out, d0n, ht]; rfl⟩
                have hre : (22 : Int) = r := by
                  rw [← HX.out, rightI, ← EX.out, ← EY.out, if_neg HVN.out, if_neg HP.out, if_pos HT.out]
                subst hre
                go_quiet ((fail))
                go_wp2
                go_ret
                exact ⟨rfl, by repeat (first | exact HB6.out | apply below_drew1 | apply pw_below_drewN)⟩
              | false =>
                have HT : Aside0 (¬ (decide (0 < i) && decide (x.f4 < (rd_T51 l ((i : Int) - 1)).f4)) = true) := ⟨by rw [← EV.out, d0n, ht]; decide⟩
                go_quiet ((fail))
                go_upto_region 11 with (fail)
                clear hv4 hw2 p2 p2b q2 ht2 ht
                have HN7 := Aside0.mk (HN6.out.drewN nq)
                have HS7 := Aside0.mk (HS6.out.drewN nq)
                have HB7 := Aside0.mk (pw_below_drewN HB6.out nq)
                generalize (World.drewN _ nq) = w2c at HN7 HS7 HB7 ⊢
                have x0_7 : w2c.cell? ⟨wr.heap.size, 0, none⟩ = some (.int .i64 x.f0) := HN7.out.at_ 0
                have x1_7 : w2c.cell? ⟨wr.heap.size, 1, none⟩ = some (.int .i64 x.f1) := HN7.out.at_ 1
                have x2_7 : w2c.cell? ⟨wr.heap.size, 2, none⟩ = some (.int .i64 x.f2) := HN7.out.at_ 2
                have x3_7 : w2c.cell? ⟨wr.heap.size, 3, none⟩ = some (.int .i64 x.f3) := HN7.out.at_ 3
                have x4_7 : w2c.cell? ⟨wr.heap.size, 4, none⟩ = some (.int .i64 x.f4) := HN7.out.at_ 4
                have x5_7 : w2c.cell? ⟨wr.heap.size, 5, none⟩ = some (.int .i64 x.f5) := HN7.out.at_ 5
                have x6_7 : w2c.cell? ⟨wr.heap.size, 6, none⟩ = some (.int .i64 x.f6) := HN7.out.at_ 6
                have x7_7 : w2c.cell? ⟨wr.heap.size, 7, none⟩ = some (.int .i64 x.f7) := HN7.out.at_ 7
                have x8_7 : w2c.cell? ⟨wr.heap.size, 8, none⟩ = some (.int .i64 x.f8) := HN7.out.at_ 8
                have x9_7 : w2c.cell? ⟨wr.heap.size, 9, none⟩ = some (.int .i64 x.f9) := HN7.out.at_ 9
                have x10_7 : w2c.cell? ⟨wr.heap.size, 10, none⟩ = some (.int .i64 x.f10) := HN7.out.at_ 10
                cases hs : slotB x with
                | false =>
                  have HSL := Aside0.mk hs
                  clear hs
                  have hre : rightI l k1 (i + 1) ss = r := by
                    rw [← HX.out, rightI, ← EX.out, ← EY.out, if_neg HVN.out, if_neg HP.out, if_neg HT.out, if_pos HSL.out]
                  have HRE := Aside0.mk hre
                  clear hre
                  go_wp2_with ((go_at_call 54; (with_reducible refine (lease_slotted.calls x.f0 x.f1 x.f2 x.f3 x.f4 x.f5 x.f6 x.f7 x.f8 x.f9 x.f10 false _ (by rw [slotted_is]; exact congrArg some HSL.out)).mono ?_); rintro e w3 ⟨rfl, hb3⟩; have HN3 := Aside0.mk (HN7.out.below hb3); have HS3 := Aside0.mk (HS7.out.below hb3); have HB3 := Aside0.mk (below_step HB7.out hb3); clear hb3; have x0_3 : w3.cell? ⟨wr.heap.size, 0, none⟩ = some (.int .i64 x.f0) := HN3.out.at_ 0; have x1_3 : w3.cell? ⟨wr.heap.size, 1, none⟩ = some (.int .i64 x.f1) := HN3.out.at_ 1; have x2_3 : w3.cell? ⟨wr.heap.size, 2, none⟩ = some (.int .i64 x.f2) := HN3.out.at_ 2; have x3_3 : w3.cell? ⟨wr.heap.size, 3, none⟩ = some (.int .i64 x.f3) := HN3.out.at_ 3; have x4_3 : w3.cell? ⟨wr.heap.size, 4, none⟩ = some (.int .i64 x.f4) := HN3.out.at_ 4; have x5_3 : w3.cell? ⟨wr.heap.size, 5, none⟩ = some (.int .i64 x.f5) := HN3.out.at_ 5; have x6_3 : w3.cell? ⟨wr.heap.size, 6, none⟩ = some (.int .i64 x.f6) := HN3.out.at_ 6; have x7_3 : w3.cell? ⟨wr.heap.size, 7, none⟩ = some (.int .i64 x.f7) := HN3.out.at_ 7; have x8_3 : w3.cell? ⟨wr.heap.size, 8, none⟩ = some (.int .i64 x.f8) := HN3.out.at_ 8; have x9_3 : w3.cell? ⟨wr.heap.size, 9, none⟩ = some (.int .i64 x.f9) := HN3.out.at_ 9; have x10_3 : w3.cell? ⟨wr.heap.size, 10, none⟩ = some (.int .i64 x.f10) := HN3.out.at_ 10))
                  go_roundg k1
                  case measure => omega
                  case rel => exact ⟨i + 1, ss, by simp, ⟨by have := HI.out; omega⟩, HRE, HLS, HS3, HB3⟩
                | true =>
                  have HSL := Aside0.mk hs
                  have HSN : Aside0 (¬ slotB x = false) := ⟨by rw [hs]; decide⟩
                  obtain ⟨f0, f64⟩ := slot_rng HV.out hs
                  clear hs
                  have HK : Aside0 (x.f6.toNat < ss.length) := ⟨by have := HLS.out; omega⟩
                  have HRD : Aside0 (rdS ss x.f6 = ss[x.f6.toNat]'HK.out) := ⟨by unfold rdS; rw [List.getD_eq_getElem?_getD, List.getElem?_eq_getElem HK.out]; rfl⟩
                  cases hf : (ss[x.f6.toNat]'HK.out).fitsB x with
                  | false =>
                    have HFI := Aside0.mk hf
                    clear hf
                    have hre : (18 : Int) = r := by
                      rw [← HX.out, rightI, ← EX.out, ← EY.out, if_neg HVN.out, if_neg HP.out, if_neg HT.out, if_neg HSN.out, HRD.out, if_pos HFI.out]
                    subst hre
                    go_wp2_with (first | (go_at_call 54; (with_reducible refine (lease_slotted.calls x.f0 x.f1 x.f2 x.f3 x.f4 x.f5 x.f6 x.f7 x.f8 x.f9 x.f10 true _ (by rw [slotted_is]; exact congrArg some HSL.out)).mono ?_); rintro e w3 ⟨rfl, hb3⟩; have HN3 := Aside0.mk (HN7.out.below hb3); have HS3 := Aside0.mk (HS7.out.below hb3); have HB3 := Aside0.mk (below_step HB7.out hb3); clear hb3; have x0_3 : w3.cell? ⟨wr.heap.size, 0, none⟩ = some (.int .i64 x.f0) := HN3.out.at_ 0; have x1_3 : w3.cell? ⟨wr.heap.size, 1, none⟩ = some (.int .i64 x.f1) := HN3.out.at_ 1; have x2_3 : w3.cell? ⟨wr.heap.size, 2, none⟩ = some (.int .i64 x.f2) := HN3.out.at_ 2; have x3_3 : w3.cell? ⟨wr.heap.size, 3, none⟩ = some (.int .i64 x.f3) := HN3.out.at_ 3; have x4_3 : w3.cell? ⟨wr.heap.size, 4, none⟩ = some (.int .i64 x.f4) := HN3.out.at_ 4; have x5_3 : w3.cell? ⟨wr.heap.size, 5, none⟩ = some (.int .i64 x.f5) := HN3.out.at_ 5; have x6_3 : w3.cell? ⟨wr.heap.size, 6, none⟩ = some (.int .i64 x.f6) := HN3.out.at_ 6; have x7_3 : w3.cell? ⟨wr.heap.size, 7, none⟩ = some (.int .i64 x.f7) := HN3.out.at_ 7; have x8_3 : w3.cell? ⟨wr.heap.size, 8, none⟩ = some (.int .i64 x.f8) := HN3.out.at_ 8; have x9_3 : w3.cell? ⟨wr.heap.size, 9, none⟩ = some (.int .i64 x.f9) := HN3.out.at_ 9; have x10_3 : w3.cell? ⟨wr.heap.size, 10, none⟩ = some (.int .i64 x.f10) := HN3.out.at_ 10) | (go_at_call 55; (with_reducible refine (fit_at _ _ ss x _ HS3.out x.f6.toNat HK.out false HFI.out).mono ?_); rintro e w4 ⟨rfl, hb4⟩; have HN4 := Aside0.mk (HN3.out.below hb4); have HS4 := Aside0.mk (HS3.out.below hb4); have HB4 := Aside0.mk (below_step HB3.out hb4); clear hb4; have x0_4 : w4.cell? ⟨wr.heap.size, 0, none⟩ = some (.int .i64 x.f0) := HN4.out.at_ 0; have x1_4 : w4.cell? ⟨wr.heap.size, 1, none⟩ = some (.int .i64 x.f1) := HN4.out.at_ 1; have x2_4 : w4.cell? ⟨wr.heap.size, 2, none⟩ = some (.int .i64 x.f2) := HN4.out.at_ 2; have x3_4 : w4.cell? ⟨wr.heap.size, 3, none⟩ = some (.int .i64 x.f3) := HN4.out.at_ 3; have x4_4 : w4.cell? ⟨wr.heap.size, 4, none⟩ = some (.int .i64 x.f4) := HN4.out.at_ 4; have x5_4 : w4.cell? ⟨wr.heap.size, 5, none⟩ = some (.int .i64 x.f5) := HN4.out.at_ 5; have x6_4 : w4.cell? ⟨wr.heap.size, 6, none⟩ = some (.int .i64 x.f6) := HN4.out.at_ 6; have x7_4 : w4.cell? ⟨wr.heap.size, 7, none⟩ = some (.int .i64 x.f7) := HN4.out.at_ 7; have x8_4 : w4.cell? ⟨wr.heap.size, 8, none⟩ = some (.int .i64 x.f8) := HN4.out.at_ 8; have x9_4 : w4.cell? ⟨wr.heap.size, 9, none⟩ = some (.int .i64 x.f9) := HN4.out.at_ 9; have x10_4 : w4.cell? ⟨wr.heap.size, 10, none⟩ = some (.int .i64 x.f10) := HN4.out.at_ 10))
                    go_ret
                    exact ⟨rfl, HB4.out⟩
                  | true =>
                    have HFI := Aside0.mk hf
                    have HFN : Aside0 (¬ (ss[x.f6.toNat]'HK.out).fitsB x = false) := ⟨by rw [hf]; decide⟩
                    clear hf
                    have hre : rightI l k1 (i + 1) (ss.set x.f6.toNat ((ss[x.f6.toNat]'HK.out).takeS x)) = r := by
                      rw [← HX.out, rightI, ← EX.out, ← EY.out, if_neg HVN.out, if_neg HP.out, if_neg HT.out, if_neg HSN.out, HRD.out, if_neg HFN.out]
                    have HRE := Aside0.mk hre
                    clear hre
                    go_wp2_with (first | (go_at_call 54; (with_reducible refine (lease_slotted.calls x.f0 x.f1 x.f2 x.f3 x.f4 x.f5 x.f6 x.f7 x.f8 x.f9 x.f10 true _ (by rw [slotted_is]; exact congrArg some HSL.out)).mono ?_); rintro e w3 ⟨rfl, hb3⟩; have HN3 := Aside0.mk (HN7.out.below hb3); have HS3 := Aside0.mk (HS7.out.below hb3); have HB3 := Aside0.mk (below_step HB7.out hb3); clear hb3; have x0_3 : w3.cell? ⟨wr.heap.size, 0, none⟩ = some (.int .i64 x.f0) := HN3.out.at_ 0; have x1_3 : w3.cell? ⟨wr.heap.size, 1, none⟩ = some (.int .i64 x.f1) := HN3.out.at_ 1; have x2_3 : w3.cell? ⟨wr.heap.size, 2, none⟩ = some (.int .i64 x.f2) := HN3.out.at_ 2; have x3_3 : w3.cell? ⟨wr.heap.size, 3, none⟩ = some (.int .i64 x.f3) := HN3.out.at_ 3; have x4_3 : w3.cell? ⟨wr.heap.size, 4, none⟩ = some (.int .i64 x.f4) := HN3.out.at_ 4; have x5_3 : w3.cell? ⟨wr.heap.size, 5, none⟩ = some (.int .i64 x.f5) := HN3.out.at_ 5; have x6_3 : w3.cell? ⟨wr.heap.size, 6, none⟩ = some (.int .i64 x.f6) := HN3.out.at_ 6; have x7_3 : w3.cell? ⟨wr.heap.size, 7, none⟩ = some (.int .i64 x.f7) := HN3.out.at_ 7; have x8_3 : w3.cell? ⟨wr.heap.size, 8, none⟩ = some (.int .i64 x.f8) := HN3.out.at_ 8; have x9_3 : w3.cell? ⟨wr.heap.size, 9, none⟩ = some (.int .i64 x.f9) := HN3.out.at_ 9; have x10_3 : w3.cell? ⟨wr.heap.size, 10, none⟩ = some (.int .i64 x.f10) := HN3.out.at_ 10) | (go_at_call 55; (with_reducible refine (fit_at _ _ ss x _ HS3.out x.f6.toNat HK.out true HFI.out).mono ?_); rintro e w4 ⟨rfl, hb4⟩; have HN4 := Aside0.mk (HN3.out.below hb4); have HS4 := Aside0.mk (HS3.out.below hb4); have HB4 := Aside0.mk (below_step HB3.out hb4); clear hb4; have x0_4 : w4.cell? ⟨wr.heap.size, 0, none⟩ = some (.int .i64 x.f0) := HN4.out.at_ 0; have x1_4 : w4.cell? ⟨wr.heap.size, 1, none⟩ = some (.int .i64 x.f1) := HN4.out.at_ 1; have x2_4 : w4.cell? ⟨wr.heap.size, 2, none⟩ = some (.int .i64 x.f2) := HN4.out.at_ 2; have x3_4 : w4.cell? ⟨wr.heap.size, 3, none⟩ = some (.int .i64 x.f3) := HN4.out.at_ 3; have x4_4 : w4.cell? ⟨wr.heap.size, 4, none⟩ = some (.int .i64 x.f4) := HN4.out.at_ 4; have x5_4 : w4.cell? ⟨wr.heap.size, 5, none⟩ = some (.int .i64 x.f5) := HN4.out.at_ 5; have x6_4 : w4.cell? ⟨wr.heap.size, 6, none⟩ = some (.int .i64 x.f6) := HN4.out.at_ 6; have x7_4 : w4.cell? ⟨wr.heap.size, 7, none⟩ = some (.int .i64 x.f7) := HN4.out.at_ 7; have x8_4 : w4.cell? ⟨wr.heap.size, 8, none⟩ = some (.int .i64 x.f8) := HN4.out.at_ 8; have x9_4 : w4.cell? ⟨wr.heap.size, 9, none⟩ = some (.int .i64 x.f9) := HN4.out.at_ 9; have x10_4 : w4.cell? ⟨wr.heap.size, 10, none⟩ = some (.int .i64 x.f10) := HN4.out.at_ 10) | (go_at_call 51; (with_reducible refine (take_at _ _ ss x _ HS4.out x.f6.toNat HK.out).mono ?_); rintro e w5 ⟨rfl, HS5, HG5⟩))
                    have hb5 := pw_below_grown HB4.out _ HB4.out.size HG5.out (by intro k hk; injection hk with hk; omega)
                    have HB5 := Aside0.mk hb5
                    clear hb5
                    go_roundg k1
                    case measure => omega
                    case rel => exact ⟨i + 1, _, by simp, ⟨by have := HI.out; omega⟩, HRE, ⟨by rw [List.length_set]; exact HLS.out⟩, HS5, HB5⟩
end

end Go.Proofs.YtcgpbmafkgbbdaaDoor.PE
