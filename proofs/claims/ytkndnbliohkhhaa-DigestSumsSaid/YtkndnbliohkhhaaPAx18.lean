-- Written by a program of this claim's own (hookprint.py), after the pattern of the kit's print. Lean checks it.
import Derived.Test.YtkndnbliohkhhaaPAx0
import Derived.Test.YtkndnbliohkhhaaWire
namespace Go.Proofs.Ytkndnbliohkhhaa.PA
open Go.RowKit Go.Proofs.YtkndnbliohkhhaaW.PrintWords Go.Proofs.YtkndnbliohkhhaaW.PrintLast Go.Proofs.YtkndnbliohkhhaaW.PrintMore
attribute [local go_sem ↓] some_setCell
attribute [local go_sem] max2_int min2_int max_two min_two max_three min_three max_four min_four   -- for this text's walks alone
set_option linter.unusedVariables false
set_option linter.unusedSimpArgs false

section
variable {P : Program}
theorem wire_PutList.wp_bytes {ops : Array Oper} {rest : List Oper} {o : Oper} {a : Act} {W : World} {Q : Exit → Act → World → Prop} (hgd : o.guard = none) (s d : TypeId) (x : Operand) (ho : o.op = .convert s d x) (t : ByteArray) (hx : a.eval x = .string t) (hsz : t.size ≤ 35184372088832)
  (hs : P.underlying s = some .string) (hd : P.underlying d = some (.slice 5)) (he : P.underlying 5 = some (.int .u8))
  (h : ∀ w' v, Wire.BR w' W.heap.size v t.data.toList → Below W.heap.size W w' → wpList P ops Q rest (a.put o.dst v) w') : wpList P ops Q (o :: rest) a W := by
 (refine wpList_plain hgd fun _ hK => ?_); have hr := run_bytes_of_string (P := P) W s d 5 t hs hd he; unfold Oper.wp execOp; simp only [ho, hx, hr, Result.andThen_ok, Sem.run_bind, Sem.run_pure]; have hge := grownCap_ge W t.size 0 5; have e0 : t.data.toList.length = t.size := Array.length_toList ..
 have e1 : (bytesRow t (grownCap W t.size 0 5)).size = grownCap W t.size 0 5 := by
  have : t.data.size = t.size := rfl; unfold bytesRow; rw [Array.size_append, Array.size_map, Array.size_replicate]; omega
 refine hK _ _ (h _ _ ⟨_, _, _, _, W.heap.size, by rw [e0], Nat.le_refl _, heap_alloc_new W.drew _, fun j hj e => by omega, by rw [e0]; exact hge, e1, grownCap_le_maxLen W _ 0 5 (by simp only [maxLen]; omega), ?_⟩ (below_alloc (below_drew1 (Below.refl _ _)) _)); intro j hj; (have hj' : j < t.data.size := by rwa [Array.length_toList] at hj); unfold bytesRow; rw [Array.getElem?_append_left (by simpa using hj')]; simp only [Array.getElem?_map, Array.getElem?_eq_getElem hj', Option.map_some]; rfl
theorem wire_PutList.wp_text {ops : Array Oper} {rest : List Oper} {o : Oper} {a : Act} {W : World} {Q : Exit → Act → World → Prop} (hgd : o.guard = none) (s d : TypeId) (x : Operand) (ho : o.op = .convert s d x) (base : Nat) (v : Value) (l : List UInt8) (hx : a.eval x = v) (hb : Wire.BR W base v l)
  (hs : P.underlying s = some (.slice 5)) (he : P.underlying 5 = some (.int .u8)) (hd : P.underlying d = some .string)
  (h : wpList P ops Q rest (a.put o.dst (.string ⟨l.toArray⟩)) W) : wpList P ops Q (o :: rest) a W := by
 obtain ⟨g, cap, rfl⟩ := hb.spelt; (refine wpList_plain hgd fun _ hK => ?_); have hr := run_convert_bytes_back (P := P) W s d 5 ⟨g, 0, none⟩ cap l hs he hd (fun j hj => by rw [Addr.add_lit, Nat.zero_add]; exact hb.cell j hj); unfold Oper.wp execOp; simp only [ho, hx, hr, Result.andThen_ok, Sem.run_bind, Sem.run_pure]; exact hK _ _ h
end
def wire_PutList.bytes (l : List Int) : List UInt8 := l.flatMap fun x => Wire.grp (Wire.zig x)
theorem wire_PutList.bytes_len : ∀ l : List Int, (wire_PutList.bytes l).length ≤ l.length * 10
 | [] => Nat.le_refl _
 | x :: l => by
  have h1 := wire_PutList.bytes_len l; have h2 := Wire.grp_zig x; unfold wire_PutList.bytes at h1 ⊢; rw [List.flatMap_cons, List.length_append, List.length_cons]; omega
theorem wire_PutList.bytes_succ {l : List Int} {i : Nat} (h : i < l.length) : wire_PutList.bytes (l.take (i + 1)) = wire_PutList.bytes (l.take i) ++ Wire.grp (Wire.zig (rd l (i : Int))) := by
 have e : rd l (i : Int) = l[i] := by
  unfold rd; rw [Int.toNat_natCast, List.getD_eq_getElem?_getD, List.getElem?_eq_getElem h]; rfl
 rw [e, List.take_succ_eq_append_getElem h]; unfold wire_PutList.bytes; rw [List.flatMap_append, List.flatMap_cons, List.flatMap_nil, List.append_nil]
def wire_PutList.f (a0 : ByteArray) (l1 : List Int) : Option ByteArray := if a0.size ≤ 1000000 ∧ l1.length ≤ 1000000 then some ⟨(a0.data.toList ++ Wire.grp (Wire.zig (l1.length : Int)) ++ wire_PutList.bytes l1).toArray⟩ else none
set_option maxHeartbeats 2000000 in
set_option maxRecDepth 100000 in
theorem wire_PutList.calls (a0 : ByteArray) (A1 : Option Addr) (c1 : Nat) (l1 : List Int) (r : ByteArray) (w : World) (hr1 : Kd.C (Kd.int .i64) w A1 l1.length l1) (hc1 : l1.length ≤ c1) (h : wire_PutList.f a0 l1 = some r) :
  Calls Try.prog 22 #[.string a0, .slice A1 l1.length c1] w fun e w' => e = .returned (.string r) ∧ Below w.heap.size w w' := by
 unfold wire_PutList.f at h
 split at h
 ·rename_i hsz
  injection h with h; subst h; have HS := As hsz; have HR1 := As hr1; have HC1 := As hc1
  have HG0 : Aside0 ((a0.data.toList ++ Wire.grp (Wire.zig (l1.length : Int))).length ≤ 1000010) := ⟨by
   have h1 := Wire.grp_zig (l1.length : Int); have h2 : a0.data.toList.length = a0.size := Array.length_toList ..; rw [List.length_append]; omega⟩
  clear hsz hr1 hc1; go_enter Try.func22, Try.ntmps22; go_wp2_with (first | ((with_reducible refine gate_ (.convert 9 24 (.tmp 8)) rfl ?_); refine wire_PutList.wp_bytes rfl 9 24 (.tmp 8) rfl a0 rfl (by have := HS.out; omega) Try.underlying9 Try.underlying24 Try.underlying5 ?_; intro W1 v1 hb1 hbel; have HB1 := As hb1; have HE1 := As hbel; clear hb1 hbel) | (go_at_call 24; refine (Wire.put.calls _ a0.data.toList (l1.length : Int) _ w.heap.size HB1.out HE1.out.size (by have h2 : a0.data.toList.length = a0.size := Array.length_toList ..; have := HS.out; omega)).mono ?_; rintro e W2 ⟨v2, rfl, hb2, hbel2⟩; have HB2 := As hb2; have HE2 := As (HE1.out.trans hbel2); clear hb2 hbel2)); obtain ⟨g0, hg0⟩ : ∃ g0, g0 = a0.data.toList ++ Wire.grp (Wire.zig (l1.length : Int)) := ⟨_, rfl⟩; rw [← hg0] at HG0 HB2; have HGE := As hg0; clear hg0; go_loopg [5, 15] l1.length (fun kq v5 v15 w' => ∃ i : Nat, v15 = .int .i64 i ∧ Aside0 (i + kq = l1.length) ∧ Aside0 (Wire.BR w' w.heap.size v5 (g0 ++ wire_PutList.bytes (l1.take i))) ∧ Aside0 (Below w.heap.size w w'))
  case atStart => exact ⟨0, rfl, ⟨by omega⟩, ⟨by rw [List.take_zero]; unfold wire_PutList.bytes; rw [List.flatMap_nil, List.append_nil]; exact HB2.out⟩, HE2⟩
  case round =>
   clear HB2 HE2; obtain ⟨i, rfl, HI, HB, HE⟩ := hrel
   cases gk with
   | zero =>
    have c4b0 : decide ((i : Int) < (l1.length : Int)) = false := decide_eq_false (by have := HI.out; omega); have c4b1 : decide (i < l1.length) = false := decide_eq_false (by have := HI.out; omega); go_wp2_with ((with_reducible refine gate_ (.convert 24 9 (.tmp 23)) rfl ?_); refine wire_PutList.wp_text rfl 24 9 (.tmp 23) rfl w.heap.size _ _ rfl HB.out Try.underlying24 Try.underlying5 Try.underlying9 ?_); go_ret; refine ⟨?_, HE.out⟩; rw [HGE.out, List.take_of_length_le (by have := HI.out; omega)]
    rfl
   | succ k1 =>
    (have hil : i < l1.length := by have := HI.out; omega); have c4b0 : decide ((i : Int) < (l1.length : Int)) = true := decide_eq_true (by omega); have c4b1 : decide (i < l1.length) = true := decide_eq_true hil; (have p1 : 0 ≤ (i : Int) := by omega); (have q1 : (i : Int) < (l1.length : Int) := by omega); obtain ⟨ad, e1, hx0⟩ := Kd.at_int HR1.out i p1 q1; cases e1; replace hx0 := (HE.out.cell (World.block_lt_of_cell? w _ hx0)).trans hx0; rw [Int.toNat_natCast] at hx0; have HIL := As hil; (have hi64 : (i : Int) ≤ 9223372036854775806 := by have := HS.out.2; omega)
    have HLB : Aside0 ((g0 ++ wire_PutList.bytes (l1.take i)).length ≤ 35184372088832) := ⟨by
     have h1 := wire_PutList.bytes_len (l1.take i); have h2 : (l1.take i).length ≤ i := List.length_take_le ..; have h3 := HG0.out; have h4 := HS.out.2; rw [List.length_append]; omega⟩
    clear hil; go_wp2_with (go_at_call 24; refine (Wire.put.calls _ _ (rd l1 (i : Int)) _ w.heap.size HB.out HE.out.size HLB.out).mono ?_; rintro e W3 ⟨v3, rfl, hb3, hbel3⟩; have HB3 := As hb3; have HE3 := As (HE.out.trans hbel3); clear hb3 hbel3); go_roundg k1
    case measure => omega
    case rel => exact ⟨i + 1, by simp, ⟨by have := HI.out; omega⟩, ⟨by rw [wire_PutList.bytes_succ HIL.out, ← List.append_assoc]; exact HB3.out⟩, HE3⟩
 ·cases h

end Go.Proofs.Ytkndnbliohkhhaa.PA
