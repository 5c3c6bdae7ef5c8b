-- Printed by this claim's own program.
import Derived.Test.YtcgpbmafkgbbdaaDoorPSx0
import Derived.Test.YtcgpbmafkgbbdaaDoorWInv
import Derived.Test.YtcgpbmafkgbbdaaDoorPSx25
namespace Go.Proofs.YtcgpbmafkgbbdaaDoor.PS
open Go.RowKit Go.Proofs.YtcgpbmafkgbbdaaDoorW.PrintWords Go.Proofs.YtcgpbmafkgbbdaaDoorW.PrintLast Go.Proofs.YtcgpbmafkgbbdaaDoorW.PrintMore
attribute [local go_sem ↓] some_setCell
attribute [local go_sem] max2_int min2_int max_two min_two max_three min_three max_four min_four
set_option linter.unusedVariables false
set_option linter.unusedSimpArgs false
def make_People.l0 : Nat → Int → List (S49) → Int → Int → List Int → Int → Option ((List (S49)) × Int)
 | 0, _, _, _, _, _, _ => none
 | k + 1, x1, x5, x6, x7, x1000, x1001 => if x7 ≤ x1 then ((make_Deck_Next.f x1000 x1001 50).bind fun a5_ => (if x5.length < 8796093022208 then (make_People.l0 k x1 (x5 ++ [(⟨x7, wrap64 (x6 + (wrap64 (1 + a5_.1)))⟩ : S49)]) (wrap64 (x6 + (wrap64 (1 + a5_.1)))) (wrap64 (x7 + 1)) x1000 a5_.2) else (none))) else (some (x5, x1001))
def make_People.f (k : Nat) (s0_0 : List Int) (s0_1 : Int) (a1 : Int) : Option ((List (S49)) × Int) := make_People.l0 k a1 ([] : List (S49)) 0 1 s0_0 s0_1
theorem make_People.iq0F {w0 W : World} {g h j : Nat} {f0 : List Int} {f1 : Int} (h0 : IsS69 w0 W g f0 f1) (hne : Aside0 (g ≠ h)) (u : Value) : IsS69 w0 (W.setCell ⟨h, j, none⟩ u) g f0 f1 := IsS69.far h0 hne.out u
theorem make_People.iq0 {w0 W : World} {g : Nat} {f0 : List Int} {f1 : Int} (h : IsS69 w0 W g f0 f1 := by repeat (first | (with_reducible first | exact HI0.out | apply IsS69.alloc | apply IsS69.drewN | apply IsS69.drew | apply IsS69.set_1 | refine make_People.iq0F ?_ ‹_› _) | exact HI0.out)) : IsS69 w0 W g f0 f1 := h
theorem make_People.bq0 {w W : World} (h : Below w.heap.size w W := by repeat (first | (with_reducible first | exact HB.out | apply uA | apply uN | apply uD | refine uS ?_ (IsS69.ge HI0.out) | refine uS2 ?_ ‹_›) | exact HB.out)) : Below w.heap.size w W := h
set_option maxHeartbeats 8000000 in
set_option maxRecDepth 100000 in
theorem make_People.calls (k : Nat) (g : Nat) (s0_0 : List Int) (s0_1 : Int) (a1 : Int) (r1 : List (S49)) (r2 : Int) (w0 w : World) (hI : IsS69 w0 w g s0_0 s0_1) (hB : Below w0.heap.size w0 w) (h : make_People.f k s0_0 s0_1 a1 = some (r1, r2)) :
 Calls Tryd.prog 13 #[.pointer (some ⟨g, 0, none⟩), .int .i64 a1] w fun e w' => ∃ v0_ : Value, e = .returned (v0_) ∧ Kd.R k49 49 w' w.heap.size (fun _ => True) v0_ r1 ∧ IsS69 w0 w' g s0_0 r2 ∧ Below w0.heap.size w0 w' ∧ KeepBut w w' g none := by
 have hu49 := Tryd.underlying49; have HI0 := As hI; have HK := As (KeepBut.refl w g none); have HL := As hB.size; clear hI; have HW0 := As hB.size; have HB := As hB; clear hB; have H : (make_People.l0 k a1 ([] : List (S49)) 0 1 s0_0 s0_1) = some (r1, r2) := h; clear h; have H' := As H; clear H; go_enter Tryd.func13, Tryd.ntmps13; go_wp2; go_loopg [5, 6, 7] k (fun kq v5 v6 v7 w' => ∃ (a4_ : List (S49)) (a2_ : Int) (a0_ : Int) (a1_ : Int), v6 = .int .i64 a2_ ∧ v7 = .int .i64 a0_ ∧ Aside0 (make_People.l0 kq a1 a4_ a2_ a0_ s0_0 a1_ = some (r1, r2)) ∧ Aside0 (kq ≤ k) ∧ Aside0 (Kd.R k49 49 w' w.heap.size (fun _ => True) v5 a4_) ∧ Aside0 (IsS69 w0 w' g s0_0 a1_) ∧ Aside0 (KeepBut w w' g none) ∧ Aside0 (Below w0.heap.size w0 w'))
 case atStart => exact ⟨(([] : List (S49))), (0), (1), (s0_1), (by first | rfl | (simp; done) | (simp [*]; done)), (by first | rfl | (simp; done) | (simp [*]; done)), H', ⟨Nat.le_refl _⟩, ⟨by first | exact Kd.R_nil _ _ _ _ _ | exact Kd.N_nil _ _ _ _ _ | exact Kd.V_nil _ _ _ _ _ | exact Kd.Q_nil _ _ _ _ _ | exact Kd.S_nil _ _ _ _ _⟩, ⟨make_People.iq0⟩, ⟨hKq⟩, ⟨make_People.bq0⟩⟩
 case round =>
  clear H'; (try clear c1); (try clear p2); obtain ⟨a4_, a2_, a0_, a1_, rfl, rfl, HA, HK1, HO_5, HI0, HK, HB⟩ := hrel
  cases gk with
  | zero => exact absurd HA.out (by simp [make_People.l0])
  | succ k1 =>
   have H := HA.out; clear HA; simp only [make_People.l0] at H
   by_cases c3 : a0_ ≤ a1
   ·rw [if_pos c3] at H
    have a9_ : decide (a0_ ≤ a1) = true := decide_eq_true c3; clear c3; replace H := Option.bind_eq_some_iff.mp H; obtain ⟨⟨a3_, a6_⟩, A40, H⟩ := H; (try dsimp only at H); have A4 := As A40; clear A40
    by_cases c5 : a4_.length < 8796093022208
    ·rw [if_pos c5] at H
     have LMc5 := As c5; clear c5; obtain ⟨a7_, hy412⟩ : ∃ y_ : List (S49), y_ = (a4_ ++ [(⟨a0_, wrap64 (a2_ + (wrap64 (1 + a3_)))⟩ : S49)]) := ⟨_, rfl⟩; (replace H : (make_People.l0 k1 a1 a7_ (wrap64 (a2_ + (wrap64 (1 + a3_)))) (wrap64 (a0_ + 1)) s0_0 a6_) = some (r1, r2) := by first | (rw [hy412]; with_reducible exact H) | (have H2_ := (Option.bind_some _ _).symm.trans H; rw [hy412]; with_reducible exact H2_) | (have H2_ := (Option.bind_some _ _).symm.trans H; with_reducible exact H2_) | with_reducible exact H | (rw [hy412]; exact H) | exact H); have Ny412 := As hy412; clear hy412; have H' := As H; clear H
     go_wp2_with (first | ((with_reducible refine gate_callee (f := 23) rfl ?_); refine gL (some 15) Tryd.func23 #[.pointer (some ⟨g, 0, none⟩), .int .i64 50] ?_; (with_reducible refine (make_Deck_Next.calls g s0_0 a1_ 50 a3_ a6_ w0 _ ?side1 ?side2 A4.out).mono ?_); (case side1 => exact make_People.iq0); (case side2 => exact make_People.bq0); rintro e w6 ⟨rfl, hi, hb, hk⟩; refine ⟨_, rfl, ?_⟩; replace HO_5 := As (Kd.R_mono (Kd.R_keep (IsS69.apart (show IsS69 w0 _ g s0_0 a1_ from make_People.iq0) (rqR HO_5) (by decide)) hk (fun _ h => h.2)) (fun _ h => h.1)); replace HK := As (KeepBut.trans hKq hk (.inl rfl)); replace HB := As (hb); replace HI0 := As (hi); (try clear hb); (try clear hk); (try clear hi)) | ((with_reducible refine gate_builtin (b := .append) (xs := #[.tmp 18, .tmp 22]) rfl ?_); at_builtin; refine Kd.R_append k49 w.heap.size rfl (.tmp 18) (.tmp 22) 30 49 (.agg #[(.int .i64 0), (.int .i64 0)]) 16 rfl Tryd.underlying30 info49 rfl (by decide) (by omega) u5 a4_ (⟨a0_, wrap64 (a2_ + (wrap64 (1 + a3_)))⟩ : S49) [a0_, (wrap64 (a2_ + (wrap64 (1 + a3_))))] (fun _ => True) (fun _ => False) rfl rfl ?aP (fun _ hk => hk.elim) ?aF ?aO (Below.refl _ _) ?aS ?aL ?_; (case aP => exact k49_mkM _ _ _ (⟨a0_, wrap64 (a2_ + (wrap64 (1 + a3_)))⟩ : S49)); (case aF => exact (fun _ _ => trivial)); (case aO => exact (rqR HO_5)); (case aS => exact (keep_size (w := w) (g := g) (row := none) hKq)); (case aL => have := LMc5.out; omega); intro b0_ w7 ho hb hg hat; rw [← Ny412.out] at ho; replace HB := As (below_weaken (make_People.bq0) HL.out hb); replace HI0 := As (IsS69.grown (show IsS69 w0 _ g s0_0 a6_ from make_People.iq0) hg (IsS69.own_ne HI0.out HO_5.out (by decide))); replace HK := As (KeepBut.trans hKq (KeepBut.of_grown hg g) (Kd.R_base2 HO_5.out)); have a8_ := As (ho); clear HO_5; clear ho hb hg hat))
     go_roundg k1
     case measure => have := HK1.out; omega
     case rel => exact ⟨(a7_), (wrap64 (a2_ + (wrap64 (1 + a3_)))), (wrap64 (a0_ + 1)), (a6_), (by first | rfl | (simp; done) | (simp [*]; done)), (by first | rfl | (simp; done) | (simp [*]; done)), H', ⟨by have := HK1.out; omega⟩, ⟨by (with_reducible repeat (first | apply Kd.R_alloc | apply Kd.R_drewN | apply Kd.R_drew)); exact a8_.out⟩, ⟨make_People.iq0⟩, ⟨hKq⟩, ⟨make_People.bq0⟩⟩
    ·rw [if_neg c5] at H
     exact absurd H (by simp)
   ·rw [if_neg c3] at H
    have a9_ : decide (a0_ ≤ a1) = false := decide_eq_false c3; clear c3; simp only [Option.some.injEq, Prod.mk.injEq] at H; obtain ⟨rfl, rfl⟩ := H; go_wp2; go_ret; exact ⟨_, erq, by (with_reducible repeat (first | apply Kd.R_alloc | apply Kd.R_drewN | apply Kd.R_drew)); exact HO_5.out, make_People.iq0, make_People.bq0, hKq⟩
def ref15_Bytes.l0 : Nat → ByteArray → List Int → Int → Int → Option (ByteArray)
 | 0, _, _, _, _ => none
 | k + 1, x3, x26, x27, x28 => if x28 < x27 then (if 0 ≤ x28 then (if x28 < (x26.length : Int) then ((ref01_PutInt.f k x3 (rd x26 x28)).bind fun a4_ => (ref15_Bytes.l0 k a4_ x26 x27 (wrap64 (x28 + 1)))) else (none)) else (none)) else (some x3)
def ref15_Bytes.f (k : Nat) (a0_0 : Int) (a0_1 : Int) (a0_2 : Int) (a0_3 : Int) (a0_4 : Int) (a0_5 : Int) (a0_6 : Int) (a0_7 : Int) (a0_8 : Int) (a0_9 : Int) (a0_10 : Int) : Option (ByteArray) := (some (([a0_0, a0_1, a0_2, a0_3, a0_4, a0_5, a0_6, a0_7, a0_8, a0_9] : List Int) : List Int)).bind fun a1_ => (ref15_Bytes.l0 k (⟨#[]⟩ : ByteArray) a1_ (a1_.length : Int) 0)
set_option maxHeartbeats 8000000 in
set_option maxRecDepth 100000 in
theorem ref15_Bytes.calls (k : Nat) (a0_0 : Int) (a0_1 : Int) (a0_2 : Int) (a0_3 : Int) (a0_4 : Int) (a0_5 : Int) (a0_6 : Int) (a0_7 : Int) (a0_8 : Int) (a0_9 : Int) (a0_10 : Int) (r : ByteArray) (w : World) (h : ref15_Bytes.f k a0_0 a0_1 a0_2 a0_3 a0_4 a0_5 a0_6 a0_7 a0_8 a0_9 a0_10 = some r) :
 Calls Tryd.prog 45 #[.agg #[.int .i64 a0_0, .int .i64 a0_1, .int .i64 a0_2, .int .i64 a0_3, .int .i64 a0_4, .int .i64 a0_5, .int .i64 a0_6, .int .i64 a0_7, .int .i64 a0_8, .int .i64 a0_9, .int .i64 a0_10]] w fun e w' => e = .returned (.string r) ∧ Below w.heap.size w w' := by
 have hu51 := Tryd.underlying51; have HB := As (Below.refl w.heap.size w); have H : ((some (([a0_0, a0_1, a0_2, a0_3, a0_4, a0_5, a0_6, a0_7, a0_8, a0_9] : List Int) : List Int)).bind fun a1_ => (ref15_Bytes.l0 k (⟨#[]⟩ : ByteArray) a1_ (a1_.length : Int) 0)) = some r := h; clear h; obtain ⟨a1_, hy213⟩ : ∃ y_ : List Int, y_ = (([a0_0, a0_1, a0_2, a0_3, a0_4, a0_5, a0_6, a0_7, a0_8, a0_9] : List Int)) := ⟨_, rfl⟩; (replace H : (ref15_Bytes.l0 k (⟨#[]⟩ : ByteArray) a1_ (a1_.length : Int) 0) = some r := by first | (rw [hy213]; with_reducible exact H) | (have H2_ := (Option.bind_some _ _).symm.trans H; rw [hy213]; with_reducible exact H2_) | (have H2_ := (Option.bind_some _ _).symm.trans H; with_reducible exact H2_) | with_reducible exact H | (rw [hy213]; exact H) | exact H); have Ny213 := As hy213; clear hy213; have H' := As H; clear H; go_enter Tryd.func45, Tryd.ntmps45
 go_wp2_with (first | ((with_reducible refine gate_dst (N := 1) rfl ?_); refine bxE 1 #[a0_0, a0_1, a0_2, a0_3, a0_4, a0_5, a0_6, a0_7, a0_8, a0_9, a0_10] 51 ?_; intro a7_ hg w2 hbox hb; have a2_ := As (hbox); have a9_ := As (by rw [hg]; exact (below_size hBq) : w.heap.size ≤ a7_); replace HB := sBq hb; have b3_ := a9_; clear hb hbox hg; have hq0_ := cf11 a2_.out) | ((with_reducible refine gate_dst (N := 26) rfl ?_); refine Kd.R_lit (Kd.int .i64) _ 3 ?hg (N := 26) ?hd (xs := ([a0_0, a0_1, a0_2, a0_3, a0_4, a0_5, a0_6, a0_7, a0_8, a0_9] : List Int)) (inner := [a0_0, a0_1, a0_2, a0_3, a0_4, a0_5, a0_6, a0_7, a0_8, a0_9]) (ok := fun _ => True) (okp := fun _ => True) ?hr ?hp (fun _ hk => hk) trivial (Below.refl _ _) (Nat.le_refl _) (by simp) ?_; (case hd => rfl); (case hg => rfl); (case hr => first | (go_simp; done) | (go_simp; rfl)); (case hp => exact (Reps.one (show Kd.M (Kd.int .i64) _ _ _ a0_0 [a0_0] from rfl) (Reps.one (show Kd.M (Kd.int .i64) _ _ _ a0_1 [a0_1] from rfl) (Reps.one (show Kd.M (Kd.int .i64) _ _ _ a0_2 [a0_2] from rfl) (Reps.one (show Kd.M (Kd.int .i64) _ _ _ a0_3 [a0_3] from rfl) (Reps.one (show Kd.M (Kd.int .i64) _ _ _ a0_4 [a0_4] from rfl) (Reps.one (show Kd.M (Kd.int .i64) _ _ _ a0_5 [a0_5] from rfl) (Reps.one (show Kd.M (Kd.int .i64) _ _ _ a0_6 [a0_6] from rfl) (Reps.one (show Kd.M (Kd.int .i64) _ _ _ a0_7 [a0_7] from rfl) (Reps.one (show Kd.M (Kd.int .i64) _ _ _ a0_8 [a0_8] from rfl) (Reps.one (show Kd.M (Kd.int .i64) _ _ _ a0_9 [a0_9] from rfl) (Reps.none _ _)))))))))))); intro b5_ w4 ho5 hb hg_ hnew_; clear hg_ hnew_; (first | rw [← Ny213.out] at ho5 | (simp only [Int.reduceToNat] at ho5; rw [← Ny213.out] at ho5)); have a8_ := As (Kd.R_lower ho5 (below_size hBq)); replace a2_ := As (blk_below (plq a2_.out) hb); replace HB := sBq hb; clear hb ho5; obtain ⟨Ao6, co6, eo6⟩ := Kd.R_slice a8_.out; subst eo6))
 go_loopg [3, 28] k (fun kq v3 v28 w' => ∃ (a3_ : ByteArray) (a0_ : Int), v3 = .string a3_ ∧ v28 = .int .i64 a0_ ∧ Aside0 (ref15_Bytes.l0 kq a3_ a1_ (a1_.length : Int) a0_ = some r) ∧ Aside0 (kq ≤ k) ∧ Aside0 (Kd.R (Kd.int .i64) 3 w' w.heap.size (fun _ => True) (.slice Ao6 a1_.length co6) a1_) ∧ Aside0 (w'.heap[a7_]? = some (.cells #[a0_0, a0_1, a0_2, a0_3, a0_4, a0_5, a0_6, a0_7, a0_8, a0_9, a0_10] 51 (0, 0))) ∧ Aside0 (Below w.heap.size w w'))
 case atStart => exact ⟨((⟨#[]⟩ : ByteArray)), (0), (by first | rfl | (simp; done) | (simp [*]; done)), (by first | rfl | (simp; done) | (simp [*]; done)), H', ⟨Nat.le_refl _⟩, ⟨by (with_reducible repeat (first | apply Kd.R_alloc | apply Kd.R_drewN | apply Kd.R_drew)); exact a8_.out⟩, ⟨by refine plT ?_; exact a2_.out⟩, ⟨hBq⟩⟩
 case round =>
  clear H'; (try clear p2); (try clear c4); (try clear hq0_); (try clear hq0_); obtain ⟨a3_, a0_, rfl, rfl, HA, HK1, HO_26, a2_, HB⟩ := hrel
  cases gk with
  | zero => exact absurd HA.out (by simp [ref15_Bytes.l0])
  | succ k1 =>
   have H := HA.out; clear HA; simp only [ref15_Bytes.l0] at H
   by_cases c7 : a0_ < (a1_.length : Int)
   ·rw [if_pos c7] at H
    have b0_ : decide (a0_ < (a1_.length : Int)) = true := decide_eq_true c7; clear c7
    by_cases c8 : 0 ≤ a0_
    ·rw [if_pos c8] at H
     have b6_ : decide (0 ≤ a0_) = true := decide_eq_true c8; clear c8
     by_cases c9 : a0_ < (a1_.length : Int)
     ·rw [if_pos c9] at H
      have b7_ : decide (a0_ < (a1_.length : Int)) = true := decide_eq_true c9; clear c9; obtain ⟨a4_, A10, H⟩ := bnd H; (try dsimp only at H); have H' := As H; clear H; have a5_ : 0 ≤ (a0_ : Int) := dq; have a6_ : a0_ < (a1_.length : Int) := dq; obtain ⟨b4_, b1_, b2_⟩ := Kd.at_int (Kd.R_reads' HO_26.out).2.2 a0_ a5_ a6_; cases b1_; replace a5_ := eq_true a5_; replace a6_ := eq_true a6_
      go_wp2_with (first | ((with_reducible refine gate_callee (f := 60) rfl ?_); refine gL (some 34) Tryd.func60 #[.string a3_, (rd a1_ a0_)] ?_; (with_reducible refine (ref01_PutInt.calls k1 a3_ (rd a1_ a0_) a4_ _ A10.out).mono ?_); rintro e w11 ⟨rfl, hb⟩; refine ⟨_, rfl, ?_⟩; replace HO_26 := As (Kd.R_below (rqR HO_26) hb); replace a2_ := As (blk_below (plq a2_.out) hb); replace HB := sBq hb; (try clear hb))); go_roundg k1
      case measure => have := HK1.out; omega
      case rel => exact ⟨(a4_), (wrap64 (a0_ + 1)), (by first | rfl | (simp; done) | (simp [*]; done)), (by first | rfl | (simp; done) | (simp [*]; done)), H', ⟨by have := HK1.out; omega⟩, ⟨by (with_reducible repeat (first | apply Kd.R_alloc | apply Kd.R_drewN | apply Kd.R_drew)); exact HO_26.out⟩, ⟨by refine plT ?_; exact a2_.out⟩, ⟨hBq⟩⟩
     ·rw [if_neg c9] at H
      exact absurd H (by simp)
    ·rw [if_neg c8] at H
     exact absurd H (by simp)
   ·rw [if_neg c7] at H
    have b0_ : decide (a0_ < (a1_.length : Int)) = false := decide_eq_false c7; clear c7; obtain rfl := Option.some.inj H; go_wp2; go_ret; exact ⟨erq, hBq⟩
section
attribute [local go_sem ↓] some_setCell
attribute [local go_sem ↓] zcS_run
attribute [local go_sem] zcS_size
attribute [local simp] zcS_ne
def leaseR (s : Le) : S41 := ⟨s.o, s.k, s.s, s.h, s.z, s.fr, s.un, s.rc⟩
def rstep (t : Int) (s : St) (x : S51) : St := if x.f4 ≤ t then (s.sayS x).getD s else s
def rstA (l : List S51) (t : Int) : St := l.foldl (rstep t) St.zero
def rforce (s : St) (t : Int) (k : Nat) : List S41 := if s.force k t = true then [leaseR (s.le k)] else []
def rleases (s : St) (t : Int) (n : Nat) : List S41 := (List.range n).flatMap (rforce s t)
def ref16_Leases.f (l : List S51) (t : Int) : Option (List S41 × Int) :=
 if rrI l l.length 0 St.zero ≠ 0 then some ([], rrI l l.length 0 St.zero)
 else if t < 0 ∨ 1048576 < t then some ([], 1)
 else some (rleases (rstA l t) t 64, 0)
theorem rleases_succ (s : St) (t : Int) (i : Nat) : rleases s t (i + 1) = rleases s t i ++ rforce s t i := by
 unfold rleases
 rw [List.range_succ, List.flatMap_append]
 simp
theorem rleases_len (s : St) (t : Int) (i : Nat) : (rleases s t i).length ≤ i := by
 induction i with
 | zero => simp [rleases]
 | succ i ih =>
  rw [rleases_succ, List.length_append]
  have : (rforce s t i).length ≤ 1 := by
   unfold rforce
   split <;> simp
  omega
theorem getD_ok {s : St} {x : S51} (h : s.ok) : ((s.sayS x).getD s).ok := by
 cases hs : s.sayS x with
 | none => exact h
 | some s' => exact St.sayS_ok h hs
theorem rstA_succ {l : List S51} {t : Int} {i : Nat} {x : S51} (hi : i < l.length) (hx : l[i] = x) : rstA (l.take (i + 1)) t = rstep t (rstA (l.take i) t) x := by
 unfold rstA
 rw [List.take_succ_eq_append_getElem hi, List.foldl_append, hx]
 rfl
theorem rinfo : (Tryd.prog.info? 41).map (fun i => (i.zero, i.size, i.bytes)) = some (some (.agg #[.int .i64 0, .int .i64 0, .int .i64 0, .int .i64 0, .int .i64 0, .int .i64 0, .int .i64 0, .bool false]), 8, 64) := by kernel_rfl
theorem rr_ok {l : List S51} : ∀ (d i : Nat) (s : St), rrI l d i s = 0 → ∀ j : Nat, i ≤ j → j < i + d → validR (rd_T51 l j) = true
 | 0, i, s, _, j, h1, h2 => by omega
 | d + 1, i, s, h, j, h1, h2 => by
  rw [rrI] at h
  split at h
  ·cases h
  ·rename_i hv
   split at h
   ·cases h
   ·split at h
    ·cases h
    ·by_cases e : j = i
     ·subst e
      exact Bool.not_eq_false _ ▸ hv
     ·split at h
      ·cases h
      ·exact rr_ok d (i + 1) _ h j (by omega) (by omega)
set_option maxHeartbeats 16000000 in
set_option maxRecDepth 100000 in
theorem ref16_Leases.calls (A0 : Option Addr) (c0 : Nat) (l : List S51) (t : Int) (r1 : List S41) (r2 : Int) (w : World) (hr0 : Kd.C k51 w A0 l.length l) (hc0 : l.length ≤ c0) (h : ref16_Leases.f l t = some (r1, r2)) :
 Calls Tryd.prog 15 #[.slice A0 l.length c0, .int .i64 t] w fun e w' => ∃ v0_ : Value, e = .returned (.tuple #[v0_, .int .i64 r2]) ∧ Kd.R k41 41 w' w.heap.size (fun _ => True) v0_ r1 ∧ Below w.heap.size w w' := by
 have hu := Tryd.underlying51
 unfold ref16_Leases.f at h
 obtain ⟨r0, hr0e⟩ : ∃ r0, r0 = rrI l l.length 0 St.zero := ⟨_, rfl⟩
 rw [← hr0e] at h
 have HC := As hr0
 have HCC := As hc0
 have HLM : Aside0 (l.length ≤ 9223372036854775807) := ⟨hr0.2.1⟩
 have HR : Aside0 (ref16_Right.f l = some r0) := ⟨by rw [hr0e]; rfl⟩
 have HSR : Aside0 (r0 = 0 → ∀ j : Nat, j < l.length → validR (rd_T51 l j) = true) := ⟨fun e j hj => rr_ok l.length 0 St.zero (hr0e.symm.trans e) j (Nat.zero_le _) (by omega)⟩
 clear hr0 hc0 hr0e
 by_cases hz : r0 = 0
 ·rw [if_neg (fun h => h hz)] at h
  subst hz
  have HSS := As (HSR.out rfl)
  clear HSR
  by_cases ht : t < 0 ∨ 1048576 < t
  ·rw [if_pos ht] at h
   simp only [Option.some.injEq, Prod.mk.injEq] at h
   obtain ⟨rfl, rfl⟩ := h
   by_cases h0 : t < 0
   ·have a1_ : decide (t < 0) = true := decide_eq_true h0
    clear ht h0
    go_enter Tryd.func15, Tryd.ntmps15
    go_wp2_with ((go_at_call 35; (with_reducible refine (ref16_Right.calls A0 c0 l 0 _ HC.out HCC.out HR.out).mono ?_); rintro e w2 ⟨rfl, hb2⟩; have HB2 := As hb2; clear hb2))
    go_ret2
    exact ⟨_, rfl, Kd.R_nil _ _ _ _ _, by repeat (first | exact HB2.out | apply below_drew1 | apply pw_below_drewN)⟩
   ·have a1_ : decide (t < 0) = false := decide_eq_false h0
    have a2_ : decide (1048576 < t) = true := decide_eq_true (by omega)
    clear ht h0
    go_enter Tryd.func15, Tryd.ntmps15
    go_wp2_with ((go_at_call 35; (with_reducible refine (ref16_Right.calls A0 c0 l 0 _ HC.out HCC.out HR.out).mono ?_); rintro e w2 ⟨rfl, hb2⟩; have HB2 := As hb2; clear hb2))
    go_ret2
    exact ⟨_, rfl, Kd.R_nil _ _ _ _ _, by repeat (first | exact HB2.out | apply below_drew1 | apply pw_below_drewN)⟩
  ·rw [if_neg ht] at h
   simp only [Option.some.injEq, Prod.mk.injEq] at h
   obtain ⟨rfl, rfl⟩ := h
   have a1_ : decide (t < 0) = false := decide_eq_false (by omega)
   have a2_ : decide (1048576 < t) = false := decide_eq_false (by omega)
   clear ht
   go_enter Tryd.func15, Tryd.ntmps15
   go_upto_region 7 with (first | (go_at_call 35; (with_reducible refine (ref16_Right.calls A0 c0 l 0 _ HC.out HCC.out HR.out).mono ?_); rintro e w2 ⟨rfl, hb2⟩; have HB2 := As hb2; clear hb2) | (go_at_call 36; (with_reducible refine (empty.calls _).mono ?_); rintro e wa ⟨rfl, hba⟩; have HBA := As (below_step HB2.out hba); clear hba) | ((with_reducible refine gate_ (.store 76 (.tmp 7) (.tmp 23)) rfl ?_); refine blk_store rfl rfl 76 (.tmp 7) (.tmp 23) rfl (zero_blk wa) 0 (.agg St.zero.enc.toArray) St.zero.enc St.zero.enc ⟨_, rfl, rfl⟩ rfl rfl (by rw [St.len St.zero_ok]; kernel_rfl) (by rw [St.len St.zero_ok, St.len (stI_ok 0 (by omega))]; omega) ?h1 ?hE ?_; (case h1 => exact st_one _); (case hE => exact over_whole _ _ (by rw [St.len St.zero_ok, St.len (stI_ok 0 (by omega))])); intro wb HSb HGb))
   have HBb : Aside0 (Below w.heap.size w wb) := ⟨pw_below_grown (below_alloc HBA.out _) _ (below_alloc HBA.out _).size HGb.out (by intro k hk; injection hk with hk; have := HBA.out.size; omega)⟩
   obtain ⟨b, hb⟩ : ∃ b, b = wa.heap.size := ⟨_, rfl⟩
   have HBW : Aside0 (w.heap.size ≤ b) := ⟨by rw [hb]; exact HBA.out.size⟩
   rw [← hb] at HSb ⊢
   clear HBA HGb hb HB2
   go_wp2_with (fail)
   go_loopg [26] l.length (fun kq v26 w' => ∃ (i : Nat) (s : St), v26 = .int .i64 i ∧ Aside0 (i + kq = l.length) ∧ Aside0 (s = rstA (l.take i) t) ∧ Aside0 s.ok ∧ Aside0 (BlkIs w' b 76 s.enc) ∧ Aside0 (Below w.heap.size w w'))
   case atStart => exact ⟨0, St.zero, rfl, ⟨by omega⟩, ⟨rfl⟩, ⟨St.zero_ok⟩, HSb, HBb⟩
   case round =>
    clear HSb HBb
    obtain ⟨i, s, rfl, HI, HX, HOK, HS, HB⟩ := hrel
    cases gk with
    | zero =>
     have a3_ : decide ((i : Int) < (l.length : Int)) = false := decide_eq_false (by have := HI.out; omega)
     have a4_ : decide (i < l.length) = false := decide_eq_false (by have := HI.out; omega)
     have HSE : Aside0 (s = rstA l t) := ⟨by
      have := HX.out
      rw [show i = l.length by have := HI.out; omega, List.take_length] at this
      exact this⟩
     clear HX HI
     go_wp2_with (fail)
     obtain ⟨w4, hw4⟩ : ∃ w4, w4 = wr := ⟨_, rfl⟩
     rw [← hw4] at HS HB ⊢
     clear hw4
     go_loopg [10, 37] 64 (fun kq v10 v37 w' => ∃ n : Nat, v37 = .int .i64 n ∧ Aside0 (n + kq = 64) ∧ Aside0 (Kd.R k41 41 w' w4.heap.size (fun _ => True) v10 (rleases s t n)) ∧ Aside0 (Below w4.heap.size w4 w'))
     case atStart => exact ⟨0, rfl, ⟨rfl⟩, ⟨Kd.R_nil _ _ _ _ _⟩, ⟨Below.refl _ _⟩⟩
     case round =>
      obtain ⟨n, rfl, HN, HO, HB4⟩ := hrel
      cases gk with
      | zero =>
       have d4b0 : decide ((n : Int) < 64) = false := decide_eq_false (by have := HN.out; omega)
       have d4b1 : decide (n < 64) = false := decide_eq_false (by have := HN.out; omega)
       have HNE : Aside0 (n = 64) := ⟨by have := HN.out; omega⟩
       go_wp2
       go_ret2
       exact ⟨_, rfl, Kd.R_lower (by rw [← HSE.out, ← HNE.out]; exact HO.out) HB.out.size, below_step HB.out HB4.out⟩
      | succ k2 =>
       have hnl : n < 64 := by have := HN.out; omega
       have d4b0 : decide ((n : Int) < 64) = true := decide_eq_true (by omega)
       have d4b1 : decide (n < 64) = true := decide_eq_true hnl
       have hn64 : (n : Int) ≤ 9223372036854775806 := by omega
       have pn1 : 0 ≤ (n : Int) := by omega
       have pn2 : (n : Int) < 64 := by omega
       have HNL := As hnl
       have HS5 := As (HS.out.below HB4.out)
       cases hf : s.force n t with
       | false =>
        have HF : Aside0 (s.force ((n : Int)).toNat t = false) := ⟨by rw [Int.toNat_natCast]; exact hf⟩
        have HNX : Aside0 (Kd.R k41 41 wr w4.heap.size (fun _ => True) u10 (rleases s t (n + 1))) := ⟨by
         rw [rleases_succ, show rforce s t n = [] by unfold rforce; rw [hf]; rfl, List.append_nil]
         exact HO.out⟩
        clear hf
        go_wp2_with (go_at_call 38; (with_reducible refine (force.calls b s (n : Int) t _ HS5.out HOK.out pn1 pn2 false HF.out).mono ?_); rintro e w5 ⟨rfl, rfl⟩)
        go_roundg k2
        case measure => omega
        case rel => exact ⟨n + 1, by simp, ⟨by have := HN.out; omega⟩, HNX, HB4⟩
       | true =>
        have HF : Aside0 (s.force ((n : Int)).toNat t = true) := ⟨by rw [Int.toNat_natCast]; exact hf⟩
        have HFN := As hf
        clear hf
        have huL := Tryd.underlying41
        obtain ⟨le, hle⟩ : ∃ le, le = s.le n := ⟨_, rfl⟩
        have y0 : wr.cell? ⟨b, n * 8, none⟩ = some (.int .i64 (s.le n).o) := (HS5.out.at_ _).trans (St.get_le HOK.out n 0 HNL.out (by omega))
        have y1 : wr.cell? ⟨b, n * 8 + 1, none⟩ = some (.int .i64 (s.le n).k) := (HS5.out.at_ _).trans (St.get_le HOK.out n 1 HNL.out (by omega))
        have y2 : wr.cell? ⟨b, n * 8 + 2, none⟩ = some (.int .i64 (s.le n).s) := (HS5.out.at_ _).trans (St.get_le HOK.out n 2 HNL.out (by omega))
        have y3 : wr.cell? ⟨b, n * 8 + 3, none⟩ = some (.int .i64 (s.le n).h) := (HS5.out.at_ _).trans (St.get_le HOK.out n 3 HNL.out (by omega))
        have y4 : wr.cell? ⟨b, n * 8 + 4, none⟩ = some (.int .i64 (s.le n).z) := (HS5.out.at_ _).trans (St.get_le HOK.out n 4 HNL.out (by omega))
        have y5 : wr.cell? ⟨b, n * 8 + 5, none⟩ = some (.int .i64 (s.le n).fr) := (HS5.out.at_ _).trans (St.get_le HOK.out n 5 HNL.out (by omega))
        have y6 : wr.cell? ⟨b, n * 8 + 6, none⟩ = some (.int .i64 (s.le n).un) := (HS5.out.at_ _).trans (St.get_le HOK.out n 6 HNL.out (by omega))
        have y7 : wr.cell? ⟨b, n * 8 + 7, none⟩ = some (.bool (s.le n).rc) := (HS5.out.at_ _).trans (St.get_le HOK.out n 7 HNL.out (by omega))
        rw [← hle] at y0 y1 y2 y3 y4 y5 y6 y7
        have HLE := As hle
        clear hle
        go_wp2_with (first | (go_at_call 38; (with_reducible refine (force.calls b s (n : Int) t _ HS5.out HOK.out pn1 pn2 true HF.out).mono ?_); rintro e w5 ⟨rfl, rfl⟩) | ((with_reducible refine gate_ (.call { callee := .builtin .append, args := #[.tmp 43, .tmp 48], argTypes := #[37, 37] }) rfl ?_); refine Kd.R_append k41 (w0 := w4) w4.heap.size rfl (.tmp 43) (.tmp 48) 37 41 (.agg #[.int .i64 0, .int .i64 0, .int .i64 0, .int .i64 0, .int .i64 0, .int .i64 0, .int .i64 0, .bool false]) 64 rfl Tryd.underlying37 rinfo rfl (by decide) (by omega) u10 (rleases s t n) (leaseR le) [.int .i64 le.o, .int .i64 le.k, .int .i64 le.s, .int .i64 le.h, .int .i64 le.z, .int .i64 le.fr, .int .i64 le.un, .bool le.rc] (fun _ => True) (fun _ => False) rfl rfl ?aP (fun _ hk => hk.elim) ?aF ?aO ?aB ?aS ?aL ?_; (case aP => exact k41_mkM _ _ _ (leaseR le)); (case aF => exact fun _ _ => trivial); (case aO => exact HO.out); (case aB => exact HB4.out); (case aS => exact HB4.out.size); (case aL => have := rleases_len s t n; have := HNL.out; omega); intro v1 w5 ho hb5 hg5 hat5; have HNX : Aside0 (Kd.R k41 41 w5 w4.heap.size (fun _ => True) v1 (rleases s t (n + 1))) := ⟨by rw [rleases_succ, show rforce s t n = [leaseR le] by unfold rforce; rw [HFN.out, HLE.out]; rfl]; exact ho⟩; have HB5 := As hb5; clear ho hb5 hg5 hat5))
        go_roundg k2
        case measure => omega
        case rel => exact ⟨n + 1, by simp, ⟨by have := HN.out; omega⟩, HNX, HB5⟩
    | succ k1 =>
     have hil : i < l.length := by have := HI.out; omega
     have a3_ : decide ((i : Int) < (l.length : Int)) = true := decide_eq_true (by omega)
     have a4_ : decide (i < l.length) = true := decide_eq_true hil
     have a5_ : (i : Int) ≤ 9223372036854775806 := by have := HLM.out; omega
     have p1 : 0 ≤ (i : Int) := by omega
     have q1 : (i : Int) < (l.length : Int) := by omega
     obtain ⟨ad, e1, hx0, hx1, hx2, hx3, hx4, hx5, hx6, hx7, hx8, hx9, a0_⟩ := at_T51 HC.out i p1 q1
     cases e1
     replace hx0 := (HB.out.cell (World.block_lt_of_cell? w _ hx0)).trans hx0
     replace hx1 := (HB.out.cell (World.block_lt_of_cell? w _ hx1)).trans hx1
     replace hx2 := (HB.out.cell (World.block_lt_of_cell? w _ hx2)).trans hx2
     replace hx3 := (HB.out.cell (World.block_lt_of_cell? w _ hx3)).trans hx3
     replace hx4 := (HB.out.cell (World.block_lt_of_cell? w _ hx4)).trans hx4
     replace hx5 := (HB.out.cell (World.block_lt_of_cell? w _ hx5)).trans hx5
     replace hx6 := (HB.out.cell (World.block_lt_of_cell? w _ hx6)).trans hx6
     replace hx7 := (HB.out.cell (World.block_lt_of_cell? w _ hx7)).trans hx7
     replace hx8 := (HB.out.cell (World.block_lt_of_cell? w _ hx8)).trans hx8
     replace hx9 := (HB.out.cell (World.block_lt_of_cell? w _ hx9)).trans hx9
     replace a0_ := (HB.out.cell (World.block_lt_of_cell? w _ a0_)).trans a0_
     rw [Int.toNat_natCast] at hx0 hx1 hx2 hx3 hx4 hx5 hx6 hx7 hx8 hx9 a0_
     have hvv := HSS.out i hil
     obtain ⟨x, hxe⟩ : ∃ x, x = rd_T51 l (i : Int) := ⟨_, rfl⟩
     rw [← hxe] at hx0 hx1 hx2 hx3 hx4 hx5 hx6 hx7 hx8 hx9 a0_ hvv
     have HV := As hvv
     have EL : Aside0 (l[i] = x) := ⟨by rw [hxe]; unfold rd_T51; rw [Int.toNat_natCast, List.getD_eq_getElem?_getD, List.getElem?_eq_getElem hil]; rfl⟩
     have HIL := As hil
     clear hxe hvv
     have hHN := heap_alloc_new wr (.cells #[x.f0, x.f1, x.f2, x.f3, x.f4, x.f5, x.f6, x.f7, x.f8, x.f9, x.f10] 51)
     have hHS := HS.out.alloc (.cells #[x.f0, x.f1, x.f2, x.f3, x.f4, x.f5, x.f6, x.f7, x.f8, x.f9, x.f10] 51)
     have hHB := below_alloc HB.out (.cells #[x.f0, x.f1, x.f2, x.f3, x.f4, x.f5, x.f6, x.f7, x.f8, x.f9, x.f10] 51)
     go_upto_region 10 with (fail)
     generalize wr.alloc (.cells #[x.f0, x.f1, x.f2, x.f3, x.f4, x.f5, x.f6, x.f7, x.f8, x.f9, x.f10] 51) = w1 at hHN hHS hHB ⊢
     have HN1 : Aside0 (BlkIs w1 wr.heap.size 51 [x.f0, x.f1, x.f2, x.f3, x.f4, x.f5, x.f6, x.f7, x.f8, x.f9, x.f10]) := ⟨hHN⟩
     have HS1 := As hHS
     have HB1 := As hHB
     clear hHN hHS hHB hx0 hx1 hx2 hx3 hx4 hx5 hx6 hx7 hx8 hx9 a0_ HS HB
     have hq0_ := cs11 HN1.out
     cases ht : decide (x.f4 ≤ t) with
     | false =>
      have HXE : Aside0 (s = rstA (l.take (i + 1)) t) := ⟨by rw [rstA_succ HIL.out EL.out, ← HX.out]; unfold rstep; rw [if_neg (of_decide_eq_false ht)]⟩
      go_wp2_with (fail)
      go_roundg k1
      case measure => omega
      case rel => exact ⟨i + 1, s, by simp, ⟨by have := HI.out; omega⟩, HXE, HOK, HS1, HB1⟩
     | true =>
      have HXE : Aside0 ((s.sayS x).getD s = rstA (l.take (i + 1)) t) := ⟨by rw [rstA_succ HIL.out EL.out, ← HX.out]; unfold rstep; rw [if_pos (of_decide_eq_true ht)]⟩
      go_wp2_with (go_at_call 37; (with_reducible refine (say.calls b s x _ HS1.out HOK.out (fun h1 h5 => validR_rng HV.out h1 h5) _ rfl).mono ?_); rintro e w5 ⟨rfl, hs5, hg5⟩; have HS5 := As hs5; have HB5 : Aside0 (Below w.heap.size w w5) := ⟨pw_below_grown HB1.out _ HB1.out.size hg5 (by intro k hk; injection hk with hk; have := HBW.out; omega)⟩; clear hs5 hg5)
      go_roundg k1
      case measure => omega
      case rel => exact ⟨i + 1, _, by simp, ⟨by have := HI.out; omega⟩, HXE, ⟨getD_ok HOK.out⟩, HS5, HB5⟩
 ·rw [if_pos hz] at h
  simp only [Option.some.injEq, Prod.mk.injEq] at h
  obtain ⟨rfl, rfl⟩ := h
  have a6_ : (r0 == 0) = false := beq_eq_false_iff_ne.mpr hz
  have a7_ : (r0 != 0) = true := bne_iff_ne.mpr hz
  clear hz
  go_enter Tryd.func15, Tryd.ntmps15
  go_wp2_with ((go_at_call 35; (with_reducible refine (ref16_Right.calls A0 c0 l r0 _ HC.out HCC.out HR.out).mono ?_); rintro e w2 ⟨rfl, hb2⟩; have HB2 := As hb2; clear hb2))
  go_ret2
  exact ⟨_, rfl, Kd.R_nil _ _ _ _ _, by repeat (first | exact HB2.out | apply below_drew1 | apply pw_below_drewN)⟩
end
def make_mark.f (k : Nat) (a0_0 : Int) (a0_1 : Int) (a1_0 : Int) (a1_1 : Int) (a1_2 : Int) (a1_3 : Int) (a1_4 : Int) (a1_5 : Int) (a1_6 : Int) (a1_7 : Int) (a1_8 : Int) (a1_9 : Int) (a1_10 : Int) : Option (Int) := (ref15_Bytes.f k a1_0 a1_1 a1_2 a1_3 a1_4 a1_5 a1_6 a1_7 a1_8 a1_9 a1_10).bind fun a3_ => ((ref14_Sign.f k a0_1 a3_).bind fun a5_ => (some a5_.1))
def make_mark.T1 : Bool × List (List Nat × List Nat) := (true, [([], []), ([0], [0]), ([], []), ([2], [2]), ([1, 3, 3], [1, 3]), ([4], [4]), ([5], [5]), ([5], [5]), ([6, 4, 0, 1, 2, 3, 4, 5, 6], [6]), ([7, 8, 0, 1, 2, 3, 4, 5, 6, 7, 8], [7])])
def make_mark.B1 : List Nat := [0, 1, 0, 4, 15, 31, 63, 63, 127, 511]
theorem make_mark.tab1 : rtab .any (opsOf Tryd.f42 1) = make_mark.T1 := by kernel_rfl
theorem make_mark.bits1 : waitsOk make_mark.T1.2 make_mark.B1 = true := by kernel_rfl
set_option maxHeartbeats 8000000 in
set_option maxRecDepth 100000 in
theorem make_mark.calls (k : Nat) (a0_0 : Int) (a0_1 : Int) (a1_0 : Int) (a1_1 : Int) (a1_2 : Int) (a1_3 : Int) (a1_4 : Int) (a1_5 : Int) (a1_6 : Int) (a1_7 : Int) (a1_8 : Int) (a1_9 : Int) (a1_10 : Int) (r : Int) (w : World) (h : make_mark.f k a0_0 a0_1 a1_0 a1_1 a1_2 a1_3 a1_4 a1_5 a1_6 a1_7 a1_8 a1_9 a1_10 = some r) :
 Calls Tryd.prog 42 #[.agg #[.int .i64 a0_0, .int .i64 a0_1], .agg #[.int .i64 a1_0, .int .i64 a1_1, .int .i64 a1_2, .int .i64 a1_3, .int .i64 a1_4, .int .i64 a1_5, .int .i64 a1_6, .int .i64 a1_7, .int .i64 a1_8, .int .i64 a1_9, .int .i64 a1_10]] w fun e w' => e = .returned (.int .i64 r) ∧ Below w.heap.size w w' := by
 have hu49 := Tryd.underlying49; have hu51 := Tryd.underlying51; have HB := As (Below.refl w.heap.size w); have H : ((ref15_Bytes.f k a1_0 a1_1 a1_2 a1_3 a1_4 a1_5 a1_6 a1_7 a1_8 a1_9 a1_10).bind fun a3_ => ((ref14_Sign.f k a0_1 a3_).bind fun a5_ => (some a5_.1))) = some r := h; clear h; obtain ⟨a3_, A3, H⟩ := bnd H; (try dsimp only at H); replace H := Option.bind_eq_some_iff.mp H; obtain ⟨⟨b0_, b1_⟩, A40, H⟩ := H; (try dsimp only at H); have A4 := As A40; clear A40; obtain rfl := Option.some.inj H; go_enter Tryd.func42, Tryd.ntmps42
 (try go_wp2_with (first | ((with_reducible refine gate_dst (N := 2) rfl ?_); refine bxE 2 #[a0_0, a0_1] 49 ?_; intro a4_ hg w5 hbox hb; have a1_ := As (hbox); have a7_ := As (by rw [hg]; exact (below_size hBq) : w.heap.size ≤ a4_); replace HB := sBq hb; have b2_ := a7_; clear hb hbox hg) | ((with_reducible refine gate_dst (N := 3) rfl ?_); refine bxE 3 #[a1_0, a1_1, a1_2, a1_3, a1_4, a1_5, a1_6, a1_7, a1_8, a1_9, a1_10] 51 ?_; intro a2_ hg w6 hbox hb; have a0_ := As (hbox); have a8_ := As (by rw [hg]; exact (below_size hBq) : w.heap.size ≤ a2_); replace HB := sBq hb; have b3_ := a8_; have a6_ := As (by rw [hg]; exact Nat.ne_of_lt (blk_lt (g := a4_) (plq a1_.out)) : a4_ ≠ a2_); replace a1_ := As (blk_below (plq a1_.out) hb); have a9_ := As a6_.out.symm; clear hb hbox hg)))
 replace a1_ := As (blk_drew a1_.out); replace a0_ := As (blk_drew a0_.out); replace HB := As (below_drew1 HB.out)
 refine start_ (n := 10) (S := fun w' => w'.cell? ⟨a4_, 0, none⟩ = some (a0_0) ∧ w'.cell? ⟨a4_, 1, none⟩ = some (a0_1) ∧ w'.cell? ⟨a2_, 0, none⟩ = some (a1_0) ∧ w'.cell? ⟨a2_, 1, none⟩ = some (a1_1) ∧ w'.cell? ⟨a2_, 2, none⟩ = some (a1_2) ∧ w'.cell? ⟨a2_, 3, none⟩ = some (a1_3) ∧ w'.cell? ⟨a2_, 4, none⟩ = some (a1_4) ∧ w'.cell? ⟨a2_, 5, none⟩ = some (a1_5) ∧ w'.cell? ⟨a2_, 6, none⟩ = some (a1_6) ∧ w'.cell? ⟨a2_, 7, none⟩ = some (a1_7) ∧ w'.cell? ⟨a2_, 8, none⟩ = some (a1_8) ∧ w'.cell? ⟨a2_, 9, none⟩ = some (a1_9) ∧ w'.cell? ⟨a2_, 10, none⟩ = some (a1_10)) (ds := []) (marksOf 10 0) (by kernel_rfl) rfl rfl ⟨bc a1_ 0, bc a1_ 1, bc a0_ 0, bc a0_ 1, bc a0_ 2, bc a0_ 3, bc a0_ 4, bc a0_ 5, bc a0_ 6, bc a0_ 7, bc a0_ 8, bc a0_ 9, bc a0_ 10⟩ (fun hHeld => ?_); refine with_tabW make_mark.tab1 make_mark.bits1 (fun HT_ HW_ => ?_); generalize w6.drew = w7 at a1_ a0_ HB hHeld ⊢
 refine pv_ 0 8 10 1 ?_; (refine ta_ 1 9 10 3 ?_ rfl rfl (take_ofW HT_.out HW_.out (by kernel_rfl)) (fun _ _ _ h => h) (by rfl) ?_ hHeld ?_ ?_ ?_; rotate_left; rintro w' ⟨s0, s1, s2, s3, s4, s5, s6, s7, s8, s9, s10, s11, s12⟩; go_simp; with_reducible rfl; rotate_left; simp only [Act.put, q1, q2, q3, i64_w, i32_w]; rfl); (refine ta_ 2 10 10 7 ?_ rfl rfl (take_ofW HT_.out HW_.out (by kernel_rfl)) (fun _ _ _ h => h) (by rfl) ?_ hHeld ?_ ?_ ?_; rotate_left; rintro w' ⟨s0, s1, s2, s3, s4, s5, s6, s7, s8, s9, s10, s11, s12⟩; go_simp; with_reducible rfl; rotate_left; simp only [Act.put, q1, q2, q3, i64_w, i32_w]; rfl); refine one_ (i := 3) (N := some 11) (marksOf 10 15) rfl rfl (one_of HT_.out (by kernel_rfl)) (by decide) (fun K hK => ?_); refine goes_ Tryd.func45 (by kernel_rfl) rfl #[.agg #[a1_0, a1_1, a1_2, a1_3, a1_4, a1_5, a1_6, a1_7, a1_8, a1_9, a1_10]] (by rfl) rfl rfl gq ?_
 with_reducible refine (ref15_Bytes.calls k a1_0 a1_1 a1_2 a1_3 a1_4 a1_5 a1_6 a1_7 a1_8 a1_9 a1_10 a3_ _ A3.out).mono ?_
 rintro e w8 ⟨rfl, hb⟩; refine ⟨_, rfl, ?_⟩; replace a1_ := As (blk_below (plq a1_.out) hb); replace a0_ := As (blk_below (plq a0_.out) hb); replace HB := sBq hb; (try clear hb); refine hK.out _ _ ⟨bc a1_ 0, bc a1_ 1, bc a0_ 0, bc a0_ 1, bc a0_ 2, bc a0_ 3, bc a0_ 4, bc a0_ 5, bc a0_ 6, bc a0_ 7, bc a0_ 8, bc a0_ 9, bc a0_ 10⟩ (fun hHeld => ?_); clear hK K; refine norm_ (a' := ?_) ?_ ?_; rotate_left
 ·show Act.put _ (some 11) _ = _
  simp only [Act.put, q1, q2, q3, i64_w, i32_w]; rfl
 refine one_ (i := 4) (N := some 12) (marksOf 10 31) rfl rfl (one_of HT_.out (by kernel_rfl)) (by decide) (fun K hK => ?_); refine goes_ Tryd.func46 (by kernel_rfl) rfl #[a0_1, .string a3_] (by rfl) rfl rfl gq ?_
 with_reducible refine (ref14_Sign.calls k a0_1 a3_ b0_ b1_ _ A4.out).mono ?_
 rintro e w9 ⟨rfl, hb⟩; refine ⟨_, rfl, ?_⟩; replace a1_ := As (blk_below (plq a1_.out) hb); replace a0_ := As (blk_below (plq a0_.out) hb); replace HB := sBq hb; (try clear hb); refine hK.out _ _ ⟨bc a1_ 0, bc a1_ 1, bc a0_ 0, bc a0_ 1, bc a0_ 2, bc a0_ 3, bc a0_ 4, bc a0_ 5, bc a0_ 6, bc a0_ 7, bc a0_ 8, bc a0_ 9, bc a0_ 10⟩ (fun hHeld => ?_); clear hK K; refine norm_ (a' := ?_) ?_ ?_; rotate_left
 ·show Act.put _ (some 12) _ = _
  simp only [Act.put, q1, q2, q3, i64_w, i32_w]; rfl
 refine pv_ 5 7 10 63 ?_; refine pv_ 6 13 10 127 ?_; refine pv_ 7 14 10 255 ?_; refine pv_ 8 5 10 511 ?_; refine pv_ 9 6 10 1023 ?_; refine done_ (done_of HT_.out (by kernel_rfl)) ?_; (try go_wp2); go_ret; exact ⟨erq, hBq⟩
def account_Kept.l0 : Nat → Int → Int → List (S41) → Int → Int → Option (Int × Int)
 | 0, _, _, _, _, _ => none
 | k + 1, x7, x8, x17, x18, x19 => if x19 < x18 then (if 0 ≤ x19 then (if x19 < (x17.length : Int) then (account_Kept.l0 k x7 (wrap64 (x8 + ((rd_T41 x17 x19).f4))) x17 x18 (wrap64 (x19 + 1))) else (none)) else (none)) else (some (x8, x7))
def account_Kept.f (k : Nat) (l0 : List (S51)) (a1 : Int) : Option (Int × Int) := (lease_Leases.f l0 a1).bind fun a3_ => (account_Kept.l0 k a3_.2 0 a3_.1 (a3_.1.length : Int) 0)
theorem account_Kept.mono_l : ∀ k, (∀ y0 y1 y2 y3 y4, LeO (account_Kept.l0 k y0 y1 y2 y3 y4) (account_Kept.l0 (k + 1) y0 y1 y2 y3 y4))
 | 0 => fun _ _ _ _ _ r h => by simp [account_Kept.l0] at h
 | k + 1 => by
  have ih0 := account_Kept.mono_l k
  all_goals (intros; unfold account_Kept.l0; (repeat' first | (with_reducible first | exact LeO.refl _ | exact LeO.none _ | apply ih0 | apply LeO.ite | refine LeO.bind ?_ (fun _ => ?_)) | apply ih0 | exact LeO.none _ | apply LeO.ite | refine LeO.bind ?_ (fun _ => ?_)))
theorem account_Kept.mono : ∀ a0 a1 k, LeO (account_Kept.f k a0 a1) (account_Kept.f (k + 1) a0 a1) := by
 intro a0 a1 k; have ih0 := account_Kept.mono_l k; unfold account_Kept.f
 repeat' first | (with_reducible first | exact LeO.refl _ | exact LeO.none _ | apply ih0 | apply LeO.ite | refine LeO.bind ?_ (fun _ => ?_)) | apply ih0 | exact LeO.none _ | apply LeO.ite | refine LeO.bind ?_ (fun _ => ?_)
set_option maxHeartbeats 8000000 in
set_option maxRecDepth 100000 in
theorem account_Kept.calls (k : Nat) (A0 : Option Addr) (c0 : Nat) (l0 : List (S51)) (a1 : Int) (r1 : Int) (r2 : Int) (w : World) (hr0 : Kd.C k51 w A0 l0.length l0) (hc0 : l0.length ≤ c0) (h : account_Kept.f k l0 a1 = some (r1, r2)) (hG : GW w) :
 Calls Tryd.prog 18 #[.slice A0 l0.length c0, .int .i64 a1] w fun e w' => e = .returned (.tuple #[.int .i64 r1, .int .i64 r2]) ∧ Below w.heap.size w w' := by
 have HG := As hG; clear hG
 have hu41 := Tryd.underlying41; have HR0 := As hr0; have HC0 := As hc0; clear hr0 hc0; have HB := As (Below.refl w.heap.size w); have H : ((lease_Leases.f l0 a1).bind fun a3_ => (account_Kept.l0 k a3_.2 0 a3_.1 (a3_.1.length : Int) 0)) = some (r1, r2) := h; clear h; replace H := Option.bind_eq_some_iff.mp H; obtain ⟨⟨a1_, a8_⟩, A30, H⟩ := H; (try dsimp only at H); have A3 := As A30; clear A30; have H' := As H; clear H; go_enter Tryd.func18, Tryd.ntmps18
 go_wp2_with (first | ((with_reducible refine gate_callee (f := 39) rfl ?_); refine gL (some 14) Tryd.func39 #[.slice A0 l0.length c0, a1] ?_; (with_reducible refine (lease_Leases.calls _ _ l0 a1 a1_ a8_ _ ?side1 ?side2 A3.out ?gw_).mono ?_); (case gw_ => exact GW.below HG.out hBq); (case side1 => exact cq HR0); (case side2 => exact HC0.out); rintro e w4 ⟨b5_, rfl, ho0, hb⟩; refine ⟨_, rfl, ?_⟩; have a7_ := As (Kd.R_lower ho0 (below_size hBq)); replace HB := sBq hb; (try clear hb); (try clear ho0); obtain ⟨Ao5, co5, eo5⟩ := Kd.R_slice a7_.out; subst eo5))
 go_loopg [8, 19] k (fun kq v8 v19 w' => ∃ (a4_ : Int) (a0_ : Int), v8 = .int .i64 a4_ ∧ v19 = .int .i64 a0_ ∧ Aside0 (account_Kept.l0 kq a8_ a4_ a1_ (a1_.length : Int) a0_ = some (r1, r2)) ∧ Aside0 (kq ≤ k) ∧ Aside0 (Kd.R k41 41 w' w.heap.size (fun _ => True) (.slice Ao5 a1_.length co5) a1_) ∧ Aside0 (Below w.heap.size w w'))
 case atStart => exact ⟨(0), (0), (by first | rfl | (simp; done) | (simp [*]; done)), (by first | rfl | (simp; done) | (simp [*]; done)), H', ⟨Nat.le_refl _⟩, ⟨by (with_reducible repeat (first | apply Kd.R_alloc | apply Kd.R_drewN | apply Kd.R_drew)); exact a7_.out⟩, ⟨hBq⟩⟩
 case round =>
  clear H'; (try clear c1); (try clear p2); (try clear c3); obtain ⟨a4_, a0_, rfl, rfl, HA, HK1, HO_17, HB⟩ := hrel
  cases gk with
  | zero => exact absurd HA.out (by simp [account_Kept.l0])
  | succ k1 =>
   have H := HA.out; clear HA; simp only [account_Kept.l0] at H
   by_cases c6 : a0_ < (a1_.length : Int)
   ·rw [if_pos c6] at H
    have b1_ : decide (a0_ < (a1_.length : Int)) = true := decide_eq_true c6; clear c6
    by_cases c7 : 0 ≤ a0_
    ·rw [if_pos c7] at H
     have b6_ : decide (0 ≤ a0_) = true := decide_eq_true c7; clear c7
     by_cases c8 : a0_ < (a1_.length : Int)
     ·rw [if_pos c8] at H
      have b7_ : decide (a0_ < (a1_.length : Int)) = true := decide_eq_true c8; clear c8; have H' := As H; clear H; have a5_ : 0 ≤ (a0_ : Int) := dq; have a6_ : a0_ < (a1_.length : Int) := dq; obtain ⟨b3_, b2_, _, _, _, _, _, _, _, _⟩ := at_T41 (Kd.R_reads' HO_17.out).2.2 a0_ a5_ a6_; cases b2_; replace a5_ := eq_true a5_; replace a6_ := eq_true a6_
      go_wp2_with (first | ((with_reducible refine gate_dst (N := 10) rfl ?_); refine bxE 10 #[.int .i64 0, .int .i64 0, .int .i64 0, .int .i64 0, .int .i64 0, .int .i64 0, .int .i64 0, .bool false] 41 ?_; intro a2_ hg w9 hbox hb; replace HO_17 := As (Kd.R_below (Kd.R_elderB (rqR HO_17) a2_ (Nat.le_of_eq hg.symm)) hb); have a9_ := As (hbox); have b0_ := As (by rw [hg]; exact (below_size hBq) : w.heap.size ≤ a2_); replace HB := sBq hb; have b4_ := b0_; clear hb hbox hg; have := cf8 a9_.out))
      go_roundg k1
      case measure => have := HK1.out; omega
      case rel => exact ⟨(wrap64 (a4_ + ((rd_T41 a1_ a0_).f4))), (wrap64 (a0_ + 1)), (by first | rfl | (simp; done) | (simp [*]; done)), (by first | rfl | (simp; done) | (simp [*]; done)), H', ⟨by have := HK1.out; omega⟩, ⟨by (with_reducible repeat (first | apply Kd.R_alloc | apply Kd.R_drewN | apply Kd.R_drew)); exact Kd.R_mono (Kd.R_far (p := ⟨a2_, 7, none⟩) (Kd.R_far (p := ⟨a2_, 6, none⟩) (Kd.R_far (p := ⟨a2_, 5, none⟩) (Kd.R_far (p := ⟨a2_, 4, none⟩) (Kd.R_far (p := ⟨a2_, 3, none⟩) (Kd.R_far (p := ⟨a2_, 2, none⟩) (Kd.R_far (p := ⟨a2_, 1, none⟩) (Kd.R_far (p := ⟨a2_, 0, none⟩) (Kd.R_mono HO_17.out (fun k_ hk => (⟨hk, hk.2⟩ : _ ∧ k_ ≠ a2_))) (fun _ hk => hk.2) (((rd_T41 a1_ a0_).f0))) (fun _ hk => hk.2) (((rd_T41 a1_ a0_).f1))) (fun _ hk => hk.2) (((rd_T41 a1_ a0_).f2))) (fun _ hk => hk.2) (((rd_T41 a1_ a0_).f3))) (fun _ hk => hk.2) (((rd_T41 a1_ a0_).f4))) (fun _ hk => hk.2) (((rd_T41 a1_ a0_).f5))) (fun _ hk => hk.2) (((rd_T41 a1_ a0_).f6))) (fun _ hk => hk.2) (.bool ((rd_T41 a1_ a0_).f7))) (fun _ hk => trivial)⟩, ⟨hBq⟩⟩
     ·rw [if_neg c8] at H
      exact absurd H (by simp)
    ·rw [if_neg c7] at H
     exact absurd H (by simp)
   ·rw [if_neg c6] at H
    have b1_ : decide (a0_ < (a1_.length : Int)) = false := decide_eq_false c6; clear c6; simp only [Option.some.injEq, Prod.mk.injEq] at H; obtain ⟨rfl, rfl⟩ := H; go_wp2; go_ret2; exact ⟨erq, hBq⟩
def statement_Bytes.l0 : Nat → ByteArray → List Int → Int → Int → Option (ByteArray)
 | 0, _, _, _, _ => none
 | k + 1, x3, x26, x27, x28 => if x28 < x27 then (if 0 ≤ x28 then (if x28 < (x26.length : Int) then ((wire_PutInt.f x3 (rd x26 x28)).bind fun a4_ => (statement_Bytes.l0 k a4_ x26 x27 (wrap64 (x28 + 1)))) else (none)) else (none)) else (some x3)
def statement_Bytes.f (k : Nat) (a0_0 : Int) (a0_1 : Int) (a0_2 : Int) (a0_3 : Int) (a0_4 : Int) (a0_5 : Int) (a0_6 : Int) (a0_7 : Int) (a0_8 : Int) (a0_9 : Int) (a0_10 : Int) : Option (ByteArray) := (some (([a0_0, a0_1, a0_2, a0_3, a0_4, a0_5, a0_6, a0_7, a0_8, a0_9] : List Int) : List Int)).bind fun a1_ => (statement_Bytes.l0 k (⟨#[]⟩ : ByteArray) a1_ (a1_.length : Int) 0)
set_option maxHeartbeats 8000000 in
set_option maxRecDepth 100000 in
theorem statement_Bytes.calls (k : Nat) (a0_0 : Int) (a0_1 : Int) (a0_2 : Int) (a0_3 : Int) (a0_4 : Int) (a0_5 : Int) (a0_6 : Int) (a0_7 : Int) (a0_8 : Int) (a0_9 : Int) (a0_10 : Int) (r : ByteArray) (w : World) (h : statement_Bytes.f k a0_0 a0_1 a0_2 a0_3 a0_4 a0_5 a0_6 a0_7 a0_8 a0_9 a0_10 = some r) :
 Calls Tryd.prog 58 #[.agg #[.int .i64 a0_0, .int .i64 a0_1, .int .i64 a0_2, .int .i64 a0_3, .int .i64 a0_4, .int .i64 a0_5, .int .i64 a0_6, .int .i64 a0_7, .int .i64 a0_8, .int .i64 a0_9, .int .i64 a0_10]] w fun e w' => e = .returned (.string r) ∧ Below w.heap.size w w' := by
 have hu51 := Tryd.underlying51; have HB := As (Below.refl w.heap.size w); have H : ((some (([a0_0, a0_1, a0_2, a0_3, a0_4, a0_5, a0_6, a0_7, a0_8, a0_9] : List Int) : List Int)).bind fun a1_ => (statement_Bytes.l0 k (⟨#[]⟩ : ByteArray) a1_ (a1_.length : Int) 0)) = some r := h; clear h; obtain ⟨a1_, hy425⟩ : ∃ y_ : List Int, y_ = (([a0_0, a0_1, a0_2, a0_3, a0_4, a0_5, a0_6, a0_7, a0_8, a0_9] : List Int)) := ⟨_, rfl⟩; (replace H : (statement_Bytes.l0 k (⟨#[]⟩ : ByteArray) a1_ (a1_.length : Int) 0) = some r := by first | (rw [hy425]; with_reducible exact H) | (have H2_ := (Option.bind_some _ _).symm.trans H; rw [hy425]; with_reducible exact H2_) | (have H2_ := (Option.bind_some _ _).symm.trans H; with_reducible exact H2_) | with_reducible exact H | (rw [hy425]; exact H) | exact H); have Ny425 := As hy425; clear hy425; have H' := As H; clear H; go_enter Tryd.func58, Tryd.ntmps58
 go_wp2_with (first | ((with_reducible refine gate_dst (N := 1) rfl ?_); refine bxE 1 #[a0_0, a0_1, a0_2, a0_3, a0_4, a0_5, a0_6, a0_7, a0_8, a0_9, a0_10] 51 ?_; intro a7_ hg w2 hbox hb; have a2_ := As (hbox); have a9_ := As (by rw [hg]; exact (below_size hBq) : w.heap.size ≤ a7_); replace HB := sBq hb; have b3_ := a9_; clear hb hbox hg; have hq0_ := cf11 a2_.out) | ((with_reducible refine gate_dst (N := 26) rfl ?_); refine Kd.R_lit (Kd.int .i64) _ 3 ?hg (N := 26) ?hd (xs := ([a0_0, a0_1, a0_2, a0_3, a0_4, a0_5, a0_6, a0_7, a0_8, a0_9] : List Int)) (inner := [a0_0, a0_1, a0_2, a0_3, a0_4, a0_5, a0_6, a0_7, a0_8, a0_9]) (ok := fun _ => True) (okp := fun _ => True) ?hr ?hp (fun _ hk => hk) trivial (Below.refl _ _) (Nat.le_refl _) (by simp) ?_; (case hd => rfl); (case hg => rfl); (case hr => first | (go_simp; done) | (go_simp; rfl)); (case hp => exact (Reps.one (show Kd.M (Kd.int .i64) _ _ _ a0_0 [a0_0] from rfl) (Reps.one (show Kd.M (Kd.int .i64) _ _ _ a0_1 [a0_1] from rfl) (Reps.one (show Kd.M (Kd.int .i64) _ _ _ a0_2 [a0_2] from rfl) (Reps.one (show Kd.M (Kd.int .i64) _ _ _ a0_3 [a0_3] from rfl) (Reps.one (show Kd.M (Kd.int .i64) _ _ _ a0_4 [a0_4] from rfl) (Reps.one (show Kd.M (Kd.int .i64) _ _ _ a0_5 [a0_5] from rfl) (Reps.one (show Kd.M (Kd.int .i64) _ _ _ a0_6 [a0_6] from rfl) (Reps.one (show Kd.M (Kd.int .i64) _ _ _ a0_7 [a0_7] from rfl) (Reps.one (show Kd.M (Kd.int .i64) _ _ _ a0_8 [a0_8] from rfl) (Reps.one (show Kd.M (Kd.int .i64) _ _ _ a0_9 [a0_9] from rfl) (Reps.none _ _)))))))))))); intro b5_ w4 ho5 hb hg_ hnew_; clear hg_ hnew_; (first | rw [← Ny425.out] at ho5 | (simp only [Int.reduceToNat] at ho5; rw [← Ny425.out] at ho5)); have a8_ := As (Kd.R_lower ho5 (below_size hBq)); replace a2_ := As (blk_below (plq a2_.out) hb); replace HB := sBq hb; clear hb ho5; obtain ⟨Ao6, co6, eo6⟩ := Kd.R_slice a8_.out; subst eo6))
 go_loopg [3, 28] k (fun kq v3 v28 w' => ∃ (a3_ : ByteArray) (a0_ : Int), v3 = .string a3_ ∧ v28 = .int .i64 a0_ ∧ Aside0 (statement_Bytes.l0 kq a3_ a1_ (a1_.length : Int) a0_ = some r) ∧ Aside0 (kq ≤ k) ∧ Aside0 (Kd.R (Kd.int .i64) 3 w' w.heap.size (fun _ => True) (.slice Ao6 a1_.length co6) a1_) ∧ Aside0 (w'.heap[a7_]? = some (.cells #[a0_0, a0_1, a0_2, a0_3, a0_4, a0_5, a0_6, a0_7, a0_8, a0_9, a0_10] 51 (0, 0))) ∧ Aside0 (Below w.heap.size w w'))
 case atStart => exact ⟨((⟨#[]⟩ : ByteArray)), (0), (by first | rfl | (simp; done) | (simp [*]; done)), (by first | rfl | (simp; done) | (simp [*]; done)), H', ⟨Nat.le_refl _⟩, ⟨by (with_reducible repeat (first | apply Kd.R_alloc | apply Kd.R_drewN | apply Kd.R_drew)); exact a8_.out⟩, ⟨by refine plT ?_; exact a2_.out⟩, ⟨hBq⟩⟩
 case round =>
  clear H'; (try clear p2); (try clear c5); (try clear hq0_); (try clear hq0_); obtain ⟨a3_, a0_, rfl, rfl, HA, HK1, HO_26, a2_, HB⟩ := hrel
  cases gk with
  | zero => exact absurd HA.out (by simp [statement_Bytes.l0])
  | succ k1 =>
   have H := HA.out; clear HA; simp only [statement_Bytes.l0] at H
   by_cases c7 : a0_ < (a1_.length : Int)
   ·rw [if_pos c7] at H
    have b0_ : decide (a0_ < (a1_.length : Int)) = true := decide_eq_true c7; clear c7
    by_cases c8 : 0 ≤ a0_
    ·rw [if_pos c8] at H
     have b6_ : decide (0 ≤ a0_) = true := decide_eq_true c8; clear c8
     by_cases c9 : a0_ < (a1_.length : Int)
     ·rw [if_pos c9] at H
      have b7_ : decide (a0_ < (a1_.length : Int)) = true := decide_eq_true c9; clear c9; obtain ⟨a4_, A10, H⟩ := bnd H; (try dsimp only at H); have H' := As H; clear H; have a5_ : 0 ≤ (a0_ : Int) := dq; have a6_ : a0_ < (a1_.length : Int) := dq; obtain ⟨b4_, b1_, b2_⟩ := Kd.at_int (Kd.R_reads' HO_26.out).2.2 a0_ a5_ a6_; cases b1_; replace a5_ := eq_true a5_; replace a6_ := eq_true a6_
      go_wp2_with (first | ((with_reducible refine gate_callee (f := 67) rfl ?_); refine gL (some 34) Tryd.func67 #[.string a3_, (rd a1_ a0_)] ?_; (with_reducible refine (wire_PutInt.calls a3_ (rd a1_ a0_) a4_ _ A10.out).mono ?_); rintro e w11 ⟨rfl, hb⟩; refine ⟨_, rfl, ?_⟩; replace HO_26 := As (Kd.R_below (rqR HO_26) hb); replace a2_ := As (blk_below (plq a2_.out) hb); replace HB := sBq hb; (try clear hb))); go_roundg k1
      case measure => have := HK1.out; omega
      case rel => exact ⟨(a4_), (wrap64 (a0_ + 1)), (by first | rfl | (simp; done) | (simp [*]; done)), (by first | rfl | (simp; done) | (simp [*]; done)), H', ⟨by have := HK1.out; omega⟩, ⟨by (with_reducible repeat (first | apply Kd.R_alloc | apply Kd.R_drewN | apply Kd.R_drew)); exact HO_26.out⟩, ⟨by refine plT ?_; exact a2_.out⟩, ⟨hBq⟩⟩
     ·rw [if_neg c9] at H
      exact absurd H (by simp)
    ·rw [if_neg c8] at H
     exact absurd H (by simp)
   ·rw [if_neg c7] at H
    have b0_ : decide (a0_ < (a1_.length : Int)) = false := decide_eq_false c7; clear c7; obtain rfl := Option.some.inj H; go_wp2; go_ret; exact ⟨erq, hBq⟩
def ref17_Kept.l0 : Nat → Int → List (S41) → Int → Int → Option (Int × Int)
 | 0, _, _, _, _ => none
 | k + 1, x8, x20, x21, x22 => if x22 < x21 then (if 0 ≤ x22 then (if x22 < (x20.length : Int) then (ref17_Kept.l0 k (wrap64 (x8 + ((rd_T41 x20 x22).f4))) x20 x21 (wrap64 (x22 + 1))) else (none)) else (none)) else (some (x8, 0))
def ref17_Kept.f (k : Nat) (l0 : List (S51)) (a1 : Int) : Option (Int × Int) := (ref16_Leases.f l0 a1).bind fun a3_ => (if a3_.2 = 0 then (ref17_Kept.l0 k 0 a3_.1 (a3_.1.length : Int) 0) else (some (0, a3_.2)))
set_option maxHeartbeats 8000000 in
set_option maxRecDepth 100000 in
theorem ref17_Kept.calls (k : Nat) (A0 : Option Addr) (c0 : Nat) (l0 : List (S51)) (a1 : Int) (r1 : Int) (r2 : Int) (w : World) (hr0 : Kd.C k51 w A0 l0.length l0) (hc0 : l0.length ≤ c0) (h : ref17_Kept.f k l0 a1 = some (r1, r2)) :
 Calls Tryd.prog 28 #[.slice A0 l0.length c0, .int .i64 a1] w fun e w' => e = .returned (.tuple #[.int .i64 r1, .int .i64 r2]) ∧ Below w.heap.size w w' := by
 have hu41 := Tryd.underlying41; have HR0 := As hr0; have HC0 := As hc0; clear hr0 hc0; have HB := As (Below.refl w.heap.size w); have H : ((ref16_Leases.f l0 a1).bind fun a3_ => (if a3_.2 = 0 then (ref17_Kept.l0 k 0 a3_.1 (a3_.1.length : Int) 0) else (some (0, a3_.2)))) = some (r1, r2) := h; clear h; replace H := Option.bind_eq_some_iff.mp H; obtain ⟨⟨a1_, a4_⟩, A30, H⟩ := H; (try dsimp only at H); have A3 := As A30; clear A30
 by_cases c4 : a4_ = 0
 ·rw [if_pos c4] at H
  have a9_ : (a4_ == 0) = true := beq_iff_eq.mpr c4; have b0_ : (a4_ != 0) = false := bne_eq_false_iff_eq.mpr c4; clear c4; have H' := As H; clear H; go_enter Tryd.func28, Tryd.ntmps28; go_wp2_with (first | ((with_reducible refine gate_callee (f := 15) rfl ?_); refine gL (some 14) Tryd.func15 #[.slice A0 l0.length c0, a1] ?_; (with_reducible refine (ref16_Leases.calls _ _ l0 a1 a1_ a4_ _ ?side1 ?side2 A3.out).mono ?_); (case side1 => exact cq HR0); (case side2 => exact HC0.out); rintro e w5 ⟨b3_, rfl, ho0, hb⟩; refine ⟨_, rfl, ?_⟩; have a5_ := As (Kd.R_lower ho0 (below_size hBq)); replace HB := sBq hb; (try clear hb); (try clear ho0); obtain ⟨Ao6, co6, eo6⟩ := Kd.R_slice a5_.out; subst eo6))
  go_loopg [8, 22] k (fun kq v8 v22 w' => ∃ (a6_ : Int) (a0_ : Int), v8 = .int .i64 a6_ ∧ v22 = .int .i64 a0_ ∧ Aside0 (ref17_Kept.l0 kq a6_ a1_ (a1_.length : Int) a0_ = some (r1, r2)) ∧ Aside0 (kq ≤ k) ∧ Aside0 (Kd.R k41 41 w' w.heap.size (fun _ => True) (.slice Ao6 a1_.length co6) a1_) ∧ Aside0 (Below w.heap.size w w'))
  case atStart => exact ⟨(0), (0), (by first | rfl | (simp; done) | (simp [*]; done)), (by first | rfl | (simp; done) | (simp [*]; done)), H', ⟨Nat.le_refl _⟩, ⟨by (with_reducible repeat (first | apply Kd.R_alloc | apply Kd.R_drewN | apply Kd.R_drew)); exact a5_.out⟩, ⟨hBq⟩⟩
  case round =>
   clear H'; (try clear c1); (try clear c2); (try clear p2); (try clear c4); (try clear a9_); (try clear b0_); obtain ⟨a6_, a0_, rfl, rfl, HA, HK1, HO_20, HB⟩ := hrel
   cases gk with
   | zero => exact absurd HA.out (by simp [ref17_Kept.l0])
   | succ k1 =>
    have H := HA.out; clear HA; simp only [ref17_Kept.l0] at H
    by_cases c7 : a0_ < (a1_.length : Int)
    ·rw [if_pos c7] at H
     have b4_ : decide (a0_ < (a1_.length : Int)) = true := decide_eq_true c7; clear c7
     by_cases c8 : 0 ≤ a0_
     ·rw [if_pos c8] at H
      have b8_ : decide (0 ≤ a0_) = true := decide_eq_true c8; clear c8
      by_cases c9 : a0_ < (a1_.length : Int)
      ·rw [if_pos c9] at H
       have b9_ : decide (a0_ < (a1_.length : Int)) = true := decide_eq_true c9; clear c9; have H' := As H; clear H; have a7_ : 0 ≤ (a0_ : Int) := dq; have a8_ : a0_ < (a1_.length : Int) := dq; obtain ⟨b6_, b5_, _, _, _, _, _, _, _, _⟩ := at_T41 (Kd.R_reads' HO_20.out).2.2 a0_ a7_ a8_; cases b5_; replace a7_ := eq_true a7_; replace a8_ := eq_true a8_
       go_wp2_with (first | ((with_reducible refine gate_dst (N := 10) rfl ?_); refine bxE 10 #[.int .i64 0, .int .i64 0, .int .i64 0, .int .i64 0, .int .i64 0, .int .i64 0, .int .i64 0, .bool false] 41 ?_; intro a2_ hg w10 hbox hb; replace HO_20 := As (Kd.R_below (Kd.R_elderB (rqR HO_20) a2_ (Nat.le_of_eq hg.symm)) hb); have b1_ := As (hbox); have b2_ := As (by rw [hg]; exact (below_size hBq) : w.heap.size ≤ a2_); replace HB := sBq hb; have b7_ := b2_; clear hb hbox hg; have := cf8 b1_.out))
       go_roundg k1
       case measure => have := HK1.out; omega
       case rel => exact ⟨(wrap64 (a6_ + ((rd_T41 a1_ a0_).f4))), (wrap64 (a0_ + 1)), (by first | rfl | (simp; done) | (simp [*]; done)), (by first | rfl | (simp; done) | (simp [*]; done)), H', ⟨by have := HK1.out; omega⟩, ⟨by (with_reducible repeat (first | apply Kd.R_alloc | apply Kd.R_drewN | apply Kd.R_drew)); exact Kd.R_mono (Kd.R_far (p := ⟨a2_, 7, none⟩) (Kd.R_far (p := ⟨a2_, 6, none⟩) (Kd.R_far (p := ⟨a2_, 5, none⟩) (Kd.R_far (p := ⟨a2_, 4, none⟩) (Kd.R_far (p := ⟨a2_, 3, none⟩) (Kd.R_far (p := ⟨a2_, 2, none⟩) (Kd.R_far (p := ⟨a2_, 1, none⟩) (Kd.R_far (p := ⟨a2_, 0, none⟩) (Kd.R_mono HO_20.out (fun k_ hk => (⟨hk, hk.2⟩ : _ ∧ k_ ≠ a2_))) (fun _ hk => hk.2) (((rd_T41 a1_ a0_).f0))) (fun _ hk => hk.2) (((rd_T41 a1_ a0_).f1))) (fun _ hk => hk.2) (((rd_T41 a1_ a0_).f2))) (fun _ hk => hk.2) (((rd_T41 a1_ a0_).f3))) (fun _ hk => hk.2) (((rd_T41 a1_ a0_).f4))) (fun _ hk => hk.2) (((rd_T41 a1_ a0_).f5))) (fun _ hk => hk.2) (((rd_T41 a1_ a0_).f6))) (fun _ hk => hk.2) (.bool ((rd_T41 a1_ a0_).f7))) (fun _ hk => trivial)⟩, ⟨hBq⟩⟩
      ·rw [if_neg c9] at H
       exact absurd H (by simp)
     ·rw [if_neg c8] at H
      exact absurd H (by simp)
    ·rw [if_neg c7] at H
     have b4_ : decide (a0_ < (a1_.length : Int)) = false := decide_eq_false c7; clear c7; simp only [Option.some.injEq, Prod.mk.injEq] at H; obtain ⟨rfl, rfl⟩ := H; go_wp2; go_ret2; exact ⟨erq, hBq⟩
 ·rw [if_neg c4] at H
  have a9_ : (a4_ == 0) = false := beq_eq_false_iff_ne.mpr c4; have b0_ : (a4_ != 0) = true := bne_iff_ne.mpr c4; simp only [Option.some.injEq, Prod.mk.injEq] at H; obtain ⟨rfl, rfl⟩ := H; go_enter Tryd.func28, Tryd.ntmps28; go_wp2_with (first | ((with_reducible refine gate_callee (f := 15) rfl ?_); refine gL (some 14) Tryd.func15 #[.slice A0 l0.length c0, a1] ?_; (with_reducible refine (ref16_Leases.calls _ _ l0 a1 a1_ a4_ _ ?side1 ?side2 A3.out).mono ?_); (case side1 => exact cq HR0); (case side2 => exact HC0.out); rintro e w12 ⟨b3_, rfl, ho0, hb⟩; refine ⟨_, rfl, ?_⟩; have a5_ := As (Kd.R_lower ho0 (below_size hBq)); replace HB := sBq hb; (try clear hb); (try clear ho0))); go_ret2
  exact ⟨erq, hBq⟩
mutual
def ref15_Next.j0 : Nat → List (S51) → Int → Int → Int → Int → Int → Int → Int → Bool → Int → Int → Option (Int × Int × Int × Int × Int × Int × Int × Int × Int × Int × Int × Int)
 | 0, _, _, _, _, _, _, _, _, _, _, _ => none
 | k + 1, x0, x2, x3, x4, x5, x6, x7, x8, x33, x222000, x222001 => if x33 = true then (some (0, 0, 0, 0, 0, 0, 0, 0, 0, 0, 0, 1)) else (if (x0.length : Int) ≥ 256 then (some (0, 0, 0, 0, 0, 0, 0, 0, 0, 0, 0, 4)) else (ref15_Next.l0 k x0 x2 x3 x4 x5 x6 x7 x8 x0 (x0.length : Int) 0 x222000 x222001))
def ref15_Next.l0 : Nat → List (S51) → Int → Int → Int → Int → Int → Int → Int → List (S51) → Int → Int → Int → Int → Option (Int × Int × Int × Int × Int × Int × Int × Int × Int × Int × Int × Int)
 | 0, _, _, _, _, _, _, _, _, _, _, _, _, _ => none
 | k + 1, x0, x2, x3, x4, x5, x6, x7, x8, x39, x40, x41, x222000, x222001 => if x41 < x40 then (if 0 ≤ x41 then (if x41 < (x39.length : Int) then (if ((rd_T51 x39 x41).f0) = x222000 then (if ((rd_T51 x39 x41).f1) = x2 then (ref15_Next.l0 k x0 x2 x3 x4 x5 x6 x7 x8 x39 x40 (wrap64 (x41 + 1)) x222000 x222001) else (some (0, 0, 0, 0, 0, 0, 0, 0, 0, 0, 0, 16))) else (some (0, 0, 0, 0, 0, 0, 0, 0, 0, 0, 0, 16))) else (none)) else (none)) else (if (x0.length : Int) > 0 then (if 0 ≤ (wrap64 ((x0.length : Int) - 1)) then (if (wrap64 ((x0.length : Int) - 1)) < (x0.length : Int) then (if x3 < ((rd_T51 x0 (wrap64 ((x0.length : Int) - 1))).f4) then (some (0, 0, 0, 0, 0, 0, 0, 0, 0, 0, 0, 22)) else ((ref15_Bytes.f k ((rd_T51 x0 (wrap64 ((x0.length : Int) - 1))).f0) ((rd_T51 x0 (wrap64 ((x0.length : Int) - 1))).f1) ((rd_T51 x0 (wrap64 ((x0.length : Int) - 1))).f2) ((rd_T51 x0 (wrap64 ((x0.length : Int) - 1))).f3) ((rd_T51 x0 (wrap64 ((x0.length : Int) - 1))).f4) ((rd_T51 x0 (wrap64 ((x0.length : Int) - 1))).f5) ((rd_T51 x0 (wrap64 ((x0.length : Int) - 1))).f6) ((rd_T51 x0 (wrap64 ((x0.length : Int) - 1))).f7) ((rd_T51 x0 (wrap64 ((x0.length : Int) - 1))).f8) ((rd_T51 x0 (wrap64 ((x0.length : Int) - 1))).f9) ((rd_T51 x0 (wrap64 ((x0.length : Int) - 1))).f10)).bind fun f7_ => ((ref02_Sum.f k f7_).bind fun f9_ => (ref15_Next.j2 k x222000 x222001 x222000 x2 (wrap64 ((x0.length : Int) + 1)) f9_ x3 x4 x5 x6 x7 x8 0)))) else (none)) else (none)) else (ref15_Next.j2 k x222000 x222001 x222000 x2 (wrap64 ((x0.length : Int) + 1)) 0 x3 x4 x5 x6 x7 x8 0))
def ref15_Next.j2 : Nat → Int → Int → Int → Int → Int → Int → Int → Int → Int → Int → Int → Int → Int → Option (Int × Int × Int × Int × Int × Int × Int × Int × Int × Int × Int × Int)
 | 0, _, _, _, _, _, _, _, _, _, _, _, _, _ => none
 | k + 1, x222000, x222001, x228000, x228001, x228002, x228003, x228004, x228005, x228006, x228007, x228008, x228009, x228010 => (ref15_Bytes.f k x228000 x228001 x228002 x228003 x228004 x228005 x228006 x228007 x228008 x228009 x228010).bind fun f1_ => ((ref14_Sign.f k x222001 f1_).bind fun h2_ => ((ref15_Valid.f k x228000 x228001 x228002 x228003 x228004 x228005 x228006 x228007 x228008 x228009 h2_.1).bind fun g8_ => (if g8_ = true then (some (x228000, x228001, x228002, x228003, x228004, x228005, x228006, x228007, x228008, x228009, h2_.1, 0)) else (some (0, 0, 0, 0, 0, 0, 0, 0, 0, 0, 0, 2)))))
end
def ref15_Next.f (k : Nat) (l0 : List (S51)) (a1_0 : Int) (a1_1 : Int) (a2 : Int) (a3 : Int) (a4 : Int) (a5 : Int) (a6 : Int) (a7 : Int) (a8 : Int) : Option (Int × Int × Int × Int × Int × Int × Int × Int × Int × Int × Int × Int) := (ref15_in.f a1_0 1 2147483646).bind fun g3_ => (if g3_ = true then ((ref15_in.f a1_1 1 2147483646).bind fun g0_ => (ref15_Next.j0 k l0 a2 a3 a4 a5 a6 a7 a8 (!g0_) a1_0 a1_1)) else (ref15_Next.j0 k l0 a2 a3 a4 a5 a6 a7 a8 true a1_0 a1_1))
def ref15_Next.T17 : Bool × List (List Nat × List Nat) := (true, [([], []), ([0], [0]), ([], []), ([2], [2]), ([1, 3, 3], [1, 3]), ([4], [4]), ([5], [5]), ([5], [5]), ([0, 1, 2, 3, 4, 5, 6], []), ([8, 6, 4, 0, 1, 2, 3, 4, 5, 6], [6, 8])])
def ref15_Next.B17 : List Nat := [0, 1, 0, 4, 15, 31, 63, 63, 127, 383]
theorem ref15_Next.tab17 : rtab .any (opsOf Tryd.f24 17) = ref15_Next.T17 := by kernel_rfl
theorem ref15_Next.bits17 : waitsOk ref15_Next.T17.2 ref15_Next.B17 = true := by kernel_rfl
set_option maxHeartbeats 8000000 in
set_option maxRecDepth 100000 in
theorem ref15_Next.calls (k : Nat) (A0 : Option Addr) (c0 : Nat) (l0 : List (S51)) (a1_0 : Int) (a1_1 : Int) (a2 : Int) (a3 : Int) (a4 : Int) (a5 : Int) (a6 : Int) (a7 : Int) (a8 : Int) (r1 : Int) (r2 : Int) (r3 : Int) (r4 : Int) (r5 : Int) (r6 : Int) (r7 : Int) (r8 : Int) (r9 : Int) (r10 : Int) (r11 : Int) (r12 : Int) (w : World) (hr0 : Kd.C k51 w A0 l0.length l0) (hc0 : l0.length ≤ c0) (h : ref15_Next.f k l0 a1_0 a1_1 a2 a3 a4 a5 a6 a7 a8 = some (r1, r2, r3, r4, r5, r6, r7, r8, r9, r10, r11, r12)) :
 Calls Tryd.prog 24 #[.slice A0 l0.length c0, .agg #[.int .i64 a1_0, .int .i64 a1_1], .int .i64 a2, .int .i64 a3, .int .i64 a4, .int .i64 a5, .int .i64 a6, .int .i64 a7, .int .i64 a8] w fun e w' => e = .returned (.tuple #[.agg #[.int .i64 r1, .int .i64 r2, .int .i64 r3, .int .i64 r4, .int .i64 r5, .int .i64 r6, .int .i64 r7, .int .i64 r8, .int .i64 r9, .int .i64 r10, .int .i64 r11], .int .i64 r12]) ∧ Below w.heap.size w w' := by
 have hu49 := Tryd.underlying49; have hu51 := Tryd.underlying51; have HR0 := As hr0; have HC0 := As hc0; clear hr0 hc0; have HB := As (Below.refl w.heap.size w); have H : ((ref15_in.f a1_0 1 2147483646).bind fun g3_ => (if g3_ = true then ((ref15_in.f a1_1 1 2147483646).bind fun g0_ => (ref15_Next.j0 k l0 a2 a3 a4 a5 a6 a7 a8 (!g0_) a1_0 a1_1)) else (ref15_Next.j0 k l0 a2 a3 a4 a5 a6 a7 a8 true a1_0 a1_1))) = some (r1, r2, r3, r4, r5, r6, r7, r8, r9, r10, r11, r12) := h; clear h; have HC10 := As H; clear H; go_enter Tryd.func24, Tryd.ntmps24
 go_upto_region 1 with (first | ((with_reducible refine gate_dst (N := 10) rfl ?_); refine bxE 10 #[a1_0, a1_1] 49 ?_; intro a8_ hg w11 hbox hb; have a3_ := As (hbox); have l4_ := As (by rw [hg]; exact (below_size hBq) : w.heap.size ≤ a8_); replace HB := sBq hb; have o5_ := l4_; clear hb hbox hg) | ((with_reducible refine gate_dst (N := 18) rfl ?_); refine bxE 18 z11 51 ?_; intro a2_ hg w12 hbox hb; have a4_ := As (hbox); have l5_ := As (by rw [hg]; exact (below_size hBq) : w.heap.size ≤ a2_); replace HB := sBq hb; have o6_ := l5_; have a9_ := As (by rw [hg]; exact Nat.ne_of_lt (blk_lt (g := a8_) (plq a3_.out)) : a8_ ≠ a2_); replace a3_ := As (blk_below (plq a3_.out) hb); have c3_ := As a9_.out.symm; clear hb hbox hg))
 (try simp only [Act.put, List.setIfInBounds_toArray, List.set_cons_zero, List.set_cons_succ]); go_cut [33] (fun v33 wc => ∃ (kq : Nat) (g1_ : Bool), v33 = .bool g1_ ∧ Aside0 (ref15_Next.j0 kq l0 a2 a3 a4 a5 a6 a7 a8 g1_ a1_0 a1_1 = some (r1, r2, r3, r4, r5, r6, r7, r8, r9, r10, r11, r12)) ∧ Aside0 (kq ≤ k) ∧ Aside0 (wc.heap[a8_]? = some (.cells #[a1_0, a1_1] 49 (0, 0))) ∧ Aside0 (wc.heap[a2_]? = some (.cells z11 51 (0, 0))) ∧ Aside0 (Below w.heap.size w wc))
 case first =>
  have H := HC10.out; clear HC10; obtain ⟨g3_, A13, H⟩ := bnd H; (try dsimp only at H)
  by_cases c14 : g3_ = true
  ·subst c14
   rw [if_pos rfl] at H; obtain ⟨g0_, A15, H⟩ := bnd H; (try dsimp only at H); have H' := As H; clear H; have o7_ := a9_.out; have o8_ := c3_.out; have hq0_ := cf2 a3_.out
   go_wp2_with (first | ((with_reducible refine gate_callee (f := 43) rfl ?_); refine gL (some 26) Tryd.func43 #[a1_0, .int .i64 1, .int .i64 2147483646] ?_; (with_reducible refine (ref15_in.calls a1_0 1 2147483646 true _ A13.out).mono ?_); rintro e w' ⟨rfl, ⟨nd, rfl⟩⟩; refine ⟨_, rfl, ?_⟩) | (go_at_call 43; (with_reducible refine (ref15_in.calls a1_1 1 2147483646 g0_ _ A15.out).mono ?_); rintro e w' ⟨rfl, ⟨nd, rfl⟩⟩)); go_meet
   case rel => exact ⟨_, (!g0_), (by first | rfl | (simp; done) | (simp [*]; done)), H', ⟨by first | omega | exact Nat.le_refl _⟩, ⟨by refine plT ?_; exact a3_.out⟩, ⟨by refine plT ?_; exact a4_.out⟩, ⟨hBq⟩⟩
  ·replace c14 := Bool.eq_false_iff.mpr c14
   subst c14; rw [if_neg nft] at H; have H' := As H; clear H; have o9_ := a9_.out; have p0_ := c3_.out; have hq1_ := cf2 a3_.out; go_wp2_with (first | ((with_reducible refine gate_callee (f := 43) rfl ?_); refine gL (some 26) Tryd.func43 #[a1_0, .int .i64 1, .int .i64 2147483646] ?_; (with_reducible refine (ref15_in.calls a1_0 1 2147483646 false _ A13.out).mono ?_); rintro e w' ⟨rfl, ⟨nd, rfl⟩⟩; refine ⟨_, rfl, ?_⟩)); go_meet
   case rel => exact ⟨_, (true), (by first | rfl | (simp; done) | (simp [*]; done)), H', ⟨by first | omega | exact Nat.le_refl _⟩, ⟨by refine plT ?_; exact a3_.out⟩, ⟨by refine plT ?_; exact a4_.out⟩, ⟨hBq⟩⟩
 case rest =>
  clear HC10; (try clear c1); (try clear c2); (try clear p2); (try clear c4); (try clear c14); (try clear c16); (try clear c18); (try clear hq0_); (try clear hq1_); (try clear hq0_); (try clear hq1_); obtain ⟨kq, g1_, rfl, HA, HJ9, a3_, a4_, HB⟩ := hcut
  cases kq with
  | zero => exact absurd HA.out (by simp [ref15_Next.j0])
  | succ kj9 =>
   have H := HA.out; clear HA; simp only [ref15_Next.j0] at H
   by_cases c20 : g1_ = true
   ·subst c20
    rw [if_pos rfl] at H; simp only [Option.some.injEq, Prod.mk.injEq] at H; obtain ⟨rfl, rfl, rfl, rfl, rfl, rfl, rfl, rfl, rfl, rfl, rfl, rfl⟩ := H; have p1_ := c3_.out; have p2_ := a9_.out; have hq2_ := cf11 a4_.out
    go_wp2_with (first | ((with_reducible refine gate_store (t := 51) (p := 18) rfl ?_); refine store_event (t := 51) (p := 18) (v := ?vo_w23) (w1 := (((((((((((wc.setCell ⟨a2_, 0, none⟩ (.int .i64 0)).setCell ⟨a2_, 1, none⟩ (.int .i64 0)).setCell ⟨a2_, 2, none⟩ (.int .i64 0)).setCell ⟨a2_, 3, none⟩ (.int .i64 0)).setCell ⟨a2_, 4, none⟩ (.int .i64 0)).setCell ⟨a2_, 5, none⟩ (.int .i64 0)).setCell ⟨a2_, 6, none⟩ (.int .i64 0)).setCell ⟨a2_, 7, none⟩ (.int .i64 0)).setCell ⟨a2_, 8, none⟩ (.int .i64 0)).setCell ⟨a2_, 9, none⟩ (.int .i64 0)).setCell ⟨a2_, 10, none⟩ (.int .i64 0))) ?hg ?ho ?hn ?hr ?_; (case ho => rfl); (case hg => rfl); (case hn => rfl); (case hr => first | (go_simp; done) | (go_simp; rfl)); intro w23 hw; replace a3_ : Aside0 (w23.heap[a8_]? = some (.cells #[a1_0, a1_1] 49 (0, 0))) := ⟨(by rw [hw]; exact (by (iterate 11 (refine blk_far ?_ a9_.out _)); exact a3_.out))⟩; replace a4_ : Aside0 (w23.heap[a2_]? = some (.cells z11 51 (0, 0))) := ⟨(by rw [hw]; exact (by apply puts11; exact a4_.out))⟩; replace HB : Aside0 (Below w.heap.size w w23) := ⟨(by rw [hw]; exact hBq)⟩; clear hw))
    refine bodyPost_ret (results_ct rfl _ _ a2_ 51 z11 (0, 0) _ rfl (by refine plT ?_; exact a4_.out) Tryd.underlying51 rfl (by kernel_rfl)) rfl ?_; exact ⟨by first | rfl | (simp [errW_none, errW_some] <;> rfl) | (simp [*, errW_none, errW_some] <;> rfl), hBq⟩
   ·replace c20 := Bool.eq_false_iff.mpr c20
    subst c20; rw [if_neg nft] at H
    by_cases c24 : (l0.length : Int) ≥ 256
    ·rw [if_pos c24] at H
     have g5_ : decide (256 ≤ (l0.length : Int)) = true := decide_eq_true c24; have g6_ : decide (256 ≤ l0.length) = true := decide_eq_true (by omega); clear c24; simp only [Option.some.injEq, Prod.mk.injEq] at H; obtain ⟨rfl, rfl, rfl, rfl, rfl, rfl, rfl, rfl, rfl, rfl, rfl, rfl⟩ := H; have p3_ := c3_.out; have p4_ := a9_.out; have hq3_ := cf11 a4_.out
     go_wp2_with (first | ((with_reducible refine gate_store (t := 51) (p := 18) rfl ?_); refine store_event (t := 51) (p := 18) (v := ?vo_w27) (w1 := (((((((((((wc.setCell ⟨a2_, 0, none⟩ (.int .i64 0)).setCell ⟨a2_, 1, none⟩ (.int .i64 0)).setCell ⟨a2_, 2, none⟩ (.int .i64 0)).setCell ⟨a2_, 3, none⟩ (.int .i64 0)).setCell ⟨a2_, 4, none⟩ (.int .i64 0)).setCell ⟨a2_, 5, none⟩ (.int .i64 0)).setCell ⟨a2_, 6, none⟩ (.int .i64 0)).setCell ⟨a2_, 7, none⟩ (.int .i64 0)).setCell ⟨a2_, 8, none⟩ (.int .i64 0)).setCell ⟨a2_, 9, none⟩ (.int .i64 0)).setCell ⟨a2_, 10, none⟩ (.int .i64 0))) ?hg ?ho ?hn ?hr ?_; (case ho => rfl); (case hg => rfl); (case hn => rfl); (case hr => first | (go_simp; done) | (go_simp; rfl)); intro w27 hw; replace a3_ : Aside0 (w27.heap[a8_]? = some (.cells #[a1_0, a1_1] 49 (0, 0))) := ⟨(by rw [hw]; exact (by (iterate 11 (refine blk_far ?_ a9_.out _)); exact a3_.out))⟩; replace a4_ : Aside0 (w27.heap[a2_]? = some (.cells z11 51 (0, 0))) := ⟨(by rw [hw]; exact (by apply puts11; exact a4_.out))⟩; replace HB : Aside0 (Below w.heap.size w w27) := ⟨(by rw [hw]; exact hBq)⟩; clear hw))
     refine bodyPost_ret (results_ct rfl _ _ a2_ 51 z11 (0, 0) _ rfl (by refine plT ?_; exact a4_.out) Tryd.underlying51 rfl (by kernel_rfl)) rfl ?_; exact ⟨by first | rfl | (simp [errW_none, errW_some] <;> rfl) | (simp [*, errW_none, errW_some] <;> rfl), hBq⟩
    ·rw [if_neg c24] at H
     have g5_ : decide (256 ≤ (l0.length : Int)) = false := decide_eq_false c24; have g6_ : decide (256 ≤ l0.length) = false := decide_eq_false (by omega); clear c24; have H' := As H; clear H; go_wp2; go_loopg [41] kj9 (fun kq v41 w' => ∃ (a1_ : Int) (b1_ : Int) (b2_ : Int) (b3_ : Int) (b4_ : Int) (b5_ : Int) (b6_ : Int) (b7_ : Int) (b8_ : Int) (b9_ : Int) (c0_ : Int) (c1_ : Int), v41 = .int .i64 a1_ ∧ Aside0 (ref15_Next.l0 kq l0 a2 a3 a4 a5 a6 a7 a8 l0 (l0.length : Int) a1_ a1_0 a1_1 = some (r1, r2, r3, r4, r5, r6, r7, r8, r9, r10, r11, r12)) ∧ Aside0 (kq ≤ kj9) ∧ Aside0 (w'.heap[a8_]? = some (.cells #[a1_0, a1_1] 49 (0, 0))) ∧ Aside0 (w'.heap[a2_]? = some (.cells #[b1_, b2_, b3_, b4_, b5_, b6_, b7_, b8_, b9_, c0_, c1_] 51 (0, 0))) ∧ Aside0 (Below w.heap.size w w'))
     case atStart => exact ⟨(0), (0), (0), (0), (0), (0), (0), (0), (0), (0), (0), (0), (by first | rfl | (simp; done) | (simp [*]; done)), H', ⟨Nat.le_refl _⟩, ⟨by refine plT ?_; exact a3_.out⟩, ⟨by refine plT ?_; exact a4_.out⟩, ⟨hBq⟩⟩
     case round =>
      clear H'; (try clear c1); (try clear c2); (try clear p2); (try clear c4); (try clear c14); (try clear c16); (try clear c18); (try clear c20); (try clear c21); (try clear c24); (try clear g5_); (try clear g6_); (try clear c25); (try clear hq0_); (try clear hq1_); (try clear hq2_); (try clear hq3_); (try clear hq0_); (try clear hq1_); (try clear hq2_); (try clear hq3_); (try clear p2)
      obtain ⟨a1_, b1_, b2_, b3_, b4_, b5_, b6_, b7_, b8_, b9_, c0_, c1_, rfl, HA, HK2, a3_, a4_, HB⟩ := hrel
      cases gk with
      | zero => exact absurd HA.out (by simp [ref15_Next.l0])
      | succ k2 =>
       have H := HA.out; clear HA; simp only [ref15_Next.l0] at H
       by_cases c28 : a1_ < (l0.length : Int)
       ·rw [if_pos c28] at H
        have h3_ : decide (a1_ < (l0.length : Int)) = true := decide_eq_true c28; clear c28
        by_cases c29 : 0 ≤ a1_
        ·rw [if_pos c29] at H
         have l6_ : decide (0 ≤ a1_) = true := decide_eq_true c29; clear c29
         by_cases c30 : a1_ < (l0.length : Int)
         ·rw [if_pos c30] at H
          have l7_ : decide (a1_ < (l0.length : Int)) = true := decide_eq_true c30; clear c30
          by_cases c31 : ((rd_T51 l0 a1_).f0) = a1_0
          ·rw [if_pos c31] at H
           have h4_ : (((rd_T51 l0 a1_).f0) == a1_0) = true := beq_iff_eq.mpr c31; have h5_ : (((rd_T51 l0 a1_).f0) != a1_0) = false := bne_eq_false_iff_eq.mpr c31; clear c31
           by_cases c32 : ((rd_T51 l0 a1_).f1) = a2
           ·rw [if_pos c32] at H
            have h6_ : (((rd_T51 l0 a1_).f1) == a2) = true := beq_iff_eq.mpr c32; have h7_ : (((rd_T51 l0 a1_).f1) != a2) = false := bne_eq_false_iff_eq.mpr c32; clear c32; have H' := As H; clear H; have d7_ : 0 ≤ (a1_ : Int) := dq; have d8_ : a1_ < (l0.length : Int) := dq; obtain ⟨h8_, g4_, _, _, _, _, _, _, _, _, _, _, _⟩ := at_T51 (Kd.C_below HR0.out HB.out) a1_ d7_ d8_; cases g4_; replace d7_ := eq_true d7_; replace d8_ := eq_true d8_
            go_wp2_with (first | ((with_reducible refine gate_dst (N := 21) rfl ?_); refine bxE 21 z11 51 ?_; intro a6_ hg w33 hbox hb; have c8_ := As (hbox); have f8_ := As (by rw [hg]; exact (below_size hBq) : w.heap.size ≤ a6_); replace HB := sBq hb; have h9_ := f8_; have c4_ := As (by rw [hg]; exact Nat.ne_of_lt (blk_lt (g := a8_) (plq a3_.out)) : a8_ ≠ a6_); replace a3_ := As (blk_below (plq a3_.out) hb); have d6_ := As c4_.out.symm; have c5_ := As (by rw [hg]; exact Nat.ne_of_lt (blk_lt (g := a2_) (plq a4_.out)) : a2_ ≠ a6_); replace a4_ := As (blk_below (plq a4_.out) hb); have d0_ := As c5_.out.symm; clear hb hbox hg; have p5_ := d6_.out; have p6_ := c4_.out; have p7_ := d0_.out; have p8_ := c5_.out; have hq4_ := cf11 c8_.out) | ((with_reducible refine gate_store (t := 51) (p := 21) rfl ?_); refine store_event (t := 51) (p := 21) (v := ?vo_w37) (w1 := (((((((((((w33.setCell ⟨a6_, 0, none⟩ (((rd_T51 l0 a1_).f0))).setCell ⟨a6_, 1, none⟩ (((rd_T51 l0 a1_).f1))).setCell ⟨a6_, 2, none⟩ (((rd_T51 l0 a1_).f2))).setCell ⟨a6_, 3, none⟩ (((rd_T51 l0 a1_).f3))).setCell ⟨a6_, 4, none⟩ (((rd_T51 l0 a1_).f4))).setCell ⟨a6_, 5, none⟩ (((rd_T51 l0 a1_).f5))).setCell ⟨a6_, 6, none⟩ (((rd_T51 l0 a1_).f6))).setCell ⟨a6_, 7, none⟩ (((rd_T51 l0 a1_).f7))).setCell ⟨a6_, 8, none⟩ (((rd_T51 l0 a1_).f8))).setCell ⟨a6_, 9, none⟩ (((rd_T51 l0 a1_).f9))).setCell ⟨a6_, 10, none⟩ (((rd_T51 l0 a1_).f10)))) ?hg ?ho ?hn ?hr ?_; (case ho => rfl); (case hg => rfl); (case hn => rfl); (case hr => first | (go_simp; done) | (go_simp; rfl)); intro w37 hw; replace a3_ : Aside0 (w37.heap[a8_]? = some (.cells #[a1_0, a1_1] 49 (0, 0))) := ⟨(by rw [hw]; exact (by (iterate 11 (refine blk_far ?_ c4_.out _)); exact a3_.out))⟩; replace a4_ : Aside0 (w37.heap[a2_]? = some (.cells #[b1_, b2_, b3_, b4_, b5_, b6_, b7_, b8_, b9_, c0_, c1_] 51 (0, 0))) := ⟨(by rw [hw]; exact (by (iterate 11 (refine blk_far ?_ c5_.out _)); exact a4_.out))⟩; replace c8_ : Aside0 (w37.heap[a6_]? = some (.cells #[((rd_T51 l0 a1_).f0), ((rd_T51 l0 a1_).f1), ((rd_T51 l0 a1_).f2), ((rd_T51 l0 a1_).f3), ((rd_T51 l0 a1_).f4), ((rd_T51 l0 a1_).f5), ((rd_T51 l0 a1_).f6), ((rd_T51 l0 a1_).f7), ((rd_T51 l0 a1_).f8), ((rd_T51 l0 a1_).f9), ((rd_T51 l0 a1_).f10)] 51 (0, 0))) := ⟨(by rw [hw]; exact (by apply puts11; exact c8_.out))⟩; replace HB : Aside0 (Below w.heap.size w w37) := ⟨(by rw [hw]; exact hBq)⟩; clear hw; have hq5_ := cf11 c8_.out; have p9_ := a9_.out; have q0_ := c3_.out; have hq6_ := cf2 a3_.out))
            go_roundg k2
            case measure => have := HJ9.out; have := HK2.out; omega
            case rel => exact ⟨(wrap64 (a1_ + 1)), (b1_), (b2_), (b3_), (b4_), (b5_), (b6_), (b7_), (b8_), (b9_), (c0_), (c1_), (by first | rfl | (simp; done) | (simp [*]; done)), H', ⟨by have := HJ9.out; have := HK2.out; omega⟩, ⟨by refine plT ?_; exact a3_.out⟩, ⟨by refine plT ?_; exact a4_.out⟩, ⟨hBq⟩⟩
           ·rw [if_neg c32] at H
            have h6_ : (((rd_T51 l0 a1_).f1) == a2) = false := beq_eq_false_iff_ne.mpr c32; have h7_ : (((rd_T51 l0 a1_).f1) != a2) = true := bne_iff_ne.mpr c32; simp only [Option.some.injEq, Prod.mk.injEq] at H; obtain ⟨rfl, rfl, rfl, rfl, rfl, rfl, rfl, rfl, rfl, rfl, rfl, rfl⟩ := H; have d7_ : 0 ≤ (a1_ : Int) := dq; have d8_ : a1_ < (l0.length : Int) := dq; obtain ⟨h8_, g4_, _, _, _, _, _, _, _, _, _, _, _⟩ := at_T51 (Kd.C_below HR0.out HB.out) a1_ d7_ d8_; cases g4_; replace d7_ := eq_true d7_; replace d8_ := eq_true d8_
            go_wp2_with (first | ((with_reducible refine gate_dst (N := 21) rfl ?_); refine bxE 21 z11 51 ?_; intro a6_ hg w41 hbox hb; have c8_ := As (hbox); have f8_ := As (by rw [hg]; exact (below_size hBq) : w.heap.size ≤ a6_); replace HB := sBq hb; have h9_ := f8_; have c4_ := As (by rw [hg]; exact Nat.ne_of_lt (blk_lt (g := a8_) (plq a3_.out)) : a8_ ≠ a6_); replace a3_ := As (blk_below (plq a3_.out) hb); have d6_ := As c4_.out.symm; have c5_ := As (by rw [hg]; exact Nat.ne_of_lt (blk_lt (g := a2_) (plq a4_.out)) : a2_ ≠ a6_); replace a4_ := As (blk_below (plq a4_.out) hb); have d0_ := As c5_.out.symm; clear hb hbox hg; have q1_ := d6_.out; have q2_ := c4_.out; have q3_ := d0_.out; have q4_ := c5_.out; have hq7_ := cf11 c8_.out) | ((with_reducible refine gate_store (t := 51) (p := 21) rfl ?_); refine store_event (t := 51) (p := 21) (v := ?vo_w45) (w1 := (((((((((((w41.setCell ⟨a6_, 0, none⟩ (((rd_T51 l0 a1_).f0))).setCell ⟨a6_, 1, none⟩ (((rd_T51 l0 a1_).f1))).setCell ⟨a6_, 2, none⟩ (((rd_T51 l0 a1_).f2))).setCell ⟨a6_, 3, none⟩ (((rd_T51 l0 a1_).f3))).setCell ⟨a6_, 4, none⟩ (((rd_T51 l0 a1_).f4))).setCell ⟨a6_, 5, none⟩ (((rd_T51 l0 a1_).f5))).setCell ⟨a6_, 6, none⟩ (((rd_T51 l0 a1_).f6))).setCell ⟨a6_, 7, none⟩ (((rd_T51 l0 a1_).f7))).setCell ⟨a6_, 8, none⟩ (((rd_T51 l0 a1_).f8))).setCell ⟨a6_, 9, none⟩ (((rd_T51 l0 a1_).f9))).setCell ⟨a6_, 10, none⟩ (((rd_T51 l0 a1_).f10)))) ?hg ?ho ?hn ?hr ?_; (case ho => rfl); (case hg => rfl); (case hn => rfl); (case hr => first | (go_simp; done) | (go_simp; rfl)); intro w45 hw; replace a3_ : Aside0 (w45.heap[a8_]? = some (.cells #[a1_0, a1_1] 49 (0, 0))) := ⟨(by rw [hw]; exact (by (iterate 11 (refine blk_far ?_ c4_.out _)); exact a3_.out))⟩; replace a4_ : Aside0 (w45.heap[a2_]? = some (.cells #[b1_, b2_, b3_, b4_, b5_, b6_, b7_, b8_, b9_, c0_, c1_] 51 (0, 0))) := ⟨(by rw [hw]; exact (by (iterate 11 (refine blk_far ?_ c5_.out _)); exact a4_.out))⟩; replace c8_ : Aside0 (w45.heap[a6_]? = some (.cells #[((rd_T51 l0 a1_).f0), ((rd_T51 l0 a1_).f1), ((rd_T51 l0 a1_).f2), ((rd_T51 l0 a1_).f3), ((rd_T51 l0 a1_).f4), ((rd_T51 l0 a1_).f5), ((rd_T51 l0 a1_).f6), ((rd_T51 l0 a1_).f7), ((rd_T51 l0 a1_).f8), ((rd_T51 l0 a1_).f9), ((rd_T51 l0 a1_).f10)] 51 (0, 0))) := ⟨(by rw [hw]; exact (by apply puts11; exact c8_.out))⟩; replace HB : Aside0 (Below w.heap.size w w45) := ⟨(by rw [hw]; exact hBq)⟩; clear hw; have hq8_ := cf11 c8_.out; have q5_ := a9_.out; have q6_ := c3_.out; have hq9_ := cf2 a3_.out; have hq10_ := cf11 a4_.out) | ((with_reducible refine gate_store (t := 51) (p := 18) rfl ?_); refine store_event (t := 51) (p := 18) (v := ?vo_w50) (w1 := (((((((((((w45.setCell ⟨a2_, 0, none⟩ (.int .i64 0)).setCell ⟨a2_, 1, none⟩ (.int .i64 0)).setCell ⟨a2_, 2, none⟩ (.int .i64 0)).setCell ⟨a2_, 3, none⟩ (.int .i64 0)).setCell ⟨a2_, 4, none⟩ (.int .i64 0)).setCell ⟨a2_, 5, none⟩ (.int .i64 0)).setCell ⟨a2_, 6, none⟩ (.int .i64 0)).setCell ⟨a2_, 7, none⟩ (.int .i64 0)).setCell ⟨a2_, 8, none⟩ (.int .i64 0)).setCell ⟨a2_, 9, none⟩ (.int .i64 0)).setCell ⟨a2_, 10, none⟩ (.int .i64 0))) ?hg ?ho ?hn ?hr ?_; (case ho => rfl); (case hg => rfl); (case hn => rfl); (case hr => first | (go_simp; done) | (go_simp; rfl)); intro w50 hw; replace a3_ : Aside0 (w50.heap[a8_]? = some (.cells #[a1_0, a1_1] 49 (0, 0))) := ⟨(by rw [hw]; exact (by (iterate 11 (refine blk_far ?_ a9_.out _)); exact a3_.out))⟩; replace a4_ : Aside0 (w50.heap[a2_]? = some (.cells z11 51 (0, 0))) := ⟨(by rw [hw]; exact (by apply puts11; exact a4_.out))⟩; replace c8_ : Aside0 (w50.heap[a6_]? = some (.cells #[((rd_T51 l0 a1_).f0), ((rd_T51 l0 a1_).f1), ((rd_T51 l0 a1_).f2), ((rd_T51 l0 a1_).f3), ((rd_T51 l0 a1_).f4), ((rd_T51 l0 a1_).f5), ((rd_T51 l0 a1_).f6), ((rd_T51 l0 a1_).f7), ((rd_T51 l0 a1_).f8), ((rd_T51 l0 a1_).f9), ((rd_T51 l0 a1_).f10)] 51 (0, 0))) := ⟨(by rw [hw]; exact (by (iterate 11 (refine blk_far ?_ d0_.out _)); exact c8_.out))⟩; replace HB : Aside0 (Below w.heap.size w w50) := ⟨(by rw [hw]; exact hBq)⟩; clear hw))
            refine bodyPost_ret (results_ct rfl _ _ a2_ 51 z11 (0, 0) _ rfl (by refine plT ?_; exact a4_.out) Tryd.underlying51 rfl (by kernel_rfl)) rfl ?_; exact ⟨by first | rfl | (simp [errW_none, errW_some] <;> rfl) | (simp [*, errW_none, errW_some] <;> rfl), hBq⟩
          ·rw [if_neg c31] at H
           have h4_ : (((rd_T51 l0 a1_).f0) == a1_0) = false := beq_eq_false_iff_ne.mpr c31; have h5_ : (((rd_T51 l0 a1_).f0) != a1_0) = true := bne_iff_ne.mpr c31; simp only [Option.some.injEq, Prod.mk.injEq] at H; obtain ⟨rfl, rfl, rfl, rfl, rfl, rfl, rfl, rfl, rfl, rfl, rfl, rfl⟩ := H; have d7_ : 0 ≤ (a1_ : Int) := dq; have d8_ : a1_ < (l0.length : Int) := dq; obtain ⟨h8_, g4_, i1_, i2_, i3_, i4_, i5_, i6_, i7_, i8_, i9_, j0_, g9_⟩ := at_T51 (Kd.C_below HR0.out HB.out) a1_ d7_ d8_; cases g4_; replace d7_ := eq_true d7_; replace d8_ := eq_true d8_
           go_wp2_with (first | ((with_reducible refine gate_dst (N := 21) rfl ?_); refine bxE 21 z11 51 ?_; intro a6_ hg w51 hbox hb; have c8_ := As (hbox); have f8_ := As (by rw [hg]; exact (below_size hBq) : w.heap.size ≤ a6_); replace HB := sBq hb; have h9_ := f8_; have c4_ := As (by rw [hg]; exact Nat.ne_of_lt (blk_lt (g := a8_) (plq a3_.out)) : a8_ ≠ a6_); replace a3_ := As (blk_below (plq a3_.out) hb); have d6_ := As c4_.out.symm; have c5_ := As (by rw [hg]; exact Nat.ne_of_lt (blk_lt (g := a2_) (plq a4_.out)) : a2_ ≠ a6_); replace a4_ := As (blk_below (plq a4_.out) hb); have d0_ := As c5_.out.symm; clear hb hbox hg; have q7_ := d6_.out; have q8_ := c4_.out; have q9_ := d0_.out; have r0_ := c5_.out; have hq11_ := cf11 c8_.out) | ((with_reducible refine gate_store (t := 51) (p := 21) rfl ?_); refine store_event (t := 51) (p := 21) (v := ?vo_w55) (w1 := (((((((((((w51.setCell ⟨a6_, 0, none⟩ (((rd_T51 l0 a1_).f0))).setCell ⟨a6_, 1, none⟩ (((rd_T51 l0 a1_).f1))).setCell ⟨a6_, 2, none⟩ (((rd_T51 l0 a1_).f2))).setCell ⟨a6_, 3, none⟩ (((rd_T51 l0 a1_).f3))).setCell ⟨a6_, 4, none⟩ (((rd_T51 l0 a1_).f4))).setCell ⟨a6_, 5, none⟩ (((rd_T51 l0 a1_).f5))).setCell ⟨a6_, 6, none⟩ (((rd_T51 l0 a1_).f6))).setCell ⟨a6_, 7, none⟩ (((rd_T51 l0 a1_).f7))).setCell ⟨a6_, 8, none⟩ (((rd_T51 l0 a1_).f8))).setCell ⟨a6_, 9, none⟩ (((rd_T51 l0 a1_).f9))).setCell ⟨a6_, 10, none⟩ (((rd_T51 l0 a1_).f10)))) ?hg ?ho ?hn ?hr ?_; (case ho => rfl); (case hg => rfl); (case hn => rfl); (case hr => first | (go_simp; done) | (go_simp; rfl)); intro w55 hw; replace a3_ : Aside0 (w55.heap[a8_]? = some (.cells #[a1_0, a1_1] 49 (0, 0))) := ⟨(by rw [hw]; exact (by (iterate 11 (refine blk_far ?_ c4_.out _)); exact a3_.out))⟩; replace a4_ : Aside0 (w55.heap[a2_]? = some (.cells #[b1_, b2_, b3_, b4_, b5_, b6_, b7_, b8_, b9_, c0_, c1_] 51 (0, 0))) := ⟨(by rw [hw]; exact (by (iterate 11 (refine blk_far ?_ c5_.out _)); exact a4_.out))⟩; replace c8_ : Aside0 (w55.heap[a6_]? = some (.cells #[((rd_T51 l0 a1_).f0), ((rd_T51 l0 a1_).f1), ((rd_T51 l0 a1_).f2), ((rd_T51 l0 a1_).f3), ((rd_T51 l0 a1_).f4), ((rd_T51 l0 a1_).f5), ((rd_T51 l0 a1_).f6), ((rd_T51 l0 a1_).f7), ((rd_T51 l0 a1_).f8), ((rd_T51 l0 a1_).f9), ((rd_T51 l0 a1_).f10)] 51 (0, 0))) := ⟨(by rw [hw]; exact (by apply puts11; exact c8_.out))⟩; replace HB : Aside0 (Below w.heap.size w w55) := ⟨(by rw [hw]; exact hBq)⟩; clear hw; have hq12_ := cf11 c8_.out; have r1_ := a9_.out; have r2_ := c3_.out; have hq13_ := cf2 a3_.out; have hq14_ := cf11 a4_.out) | ((with_reducible refine gate_store (t := 51) (p := 18) rfl ?_); refine store_event (t := 51) (p := 18) (v := ?vo_w60) (w1 := (((((((((((w55.setCell ⟨a2_, 0, none⟩ (.int .i64 0)).setCell ⟨a2_, 1, none⟩ (.int .i64 0)).setCell ⟨a2_, 2, none⟩ (.int .i64 0)).setCell ⟨a2_, 3, none⟩ (.int .i64 0)).setCell ⟨a2_, 4, none⟩ (.int .i64 0)).setCell ⟨a2_, 5, none⟩ (.int .i64 0)).setCell ⟨a2_, 6, none⟩ (.int .i64 0)).setCell ⟨a2_, 7, none⟩ (.int .i64 0)).setCell ⟨a2_, 8, none⟩ (.int .i64 0)).setCell ⟨a2_, 9, none⟩ (.int .i64 0)).setCell ⟨a2_, 10, none⟩ (.int .i64 0))) ?hg ?ho ?hn ?hr ?_; (case ho => rfl); (case hg => rfl); (case hn => rfl); (case hr => first | (go_simp; done) | (go_simp; rfl)); intro w60 hw; replace a3_ : Aside0 (w60.heap[a8_]? = some (.cells #[a1_0, a1_1] 49 (0, 0))) := ⟨(by rw [hw]; exact (by (iterate 11 (refine blk_far ?_ a9_.out _)); exact a3_.out))⟩; replace a4_ : Aside0 (w60.heap[a2_]? = some (.cells z11 51 (0, 0))) := ⟨(by rw [hw]; exact (by apply puts11; exact a4_.out))⟩; replace c8_ : Aside0 (w60.heap[a6_]? = some (.cells #[((rd_T51 l0 a1_).f0), ((rd_T51 l0 a1_).f1), ((rd_T51 l0 a1_).f2), ((rd_T51 l0 a1_).f3), ((rd_T51 l0 a1_).f4), ((rd_T51 l0 a1_).f5), ((rd_T51 l0 a1_).f6), ((rd_T51 l0 a1_).f7), ((rd_T51 l0 a1_).f8), ((rd_T51 l0 a1_).f9), ((rd_T51 l0 a1_).f10)] 51 (0, 0))) := ⟨(by rw [hw]; exact (by (iterate 11 (refine blk_far ?_ d0_.out _)); exact c8_.out))⟩; replace HB : Aside0 (Below w.heap.size w w60) := ⟨(by rw [hw]; exact hBq)⟩; clear hw))
           refine bodyPost_ret (results_ct rfl _ _ a2_ 51 z11 (0, 0) _ rfl (by refine plT ?_; exact a4_.out) Tryd.underlying51 rfl (by kernel_rfl)) rfl ?_; exact ⟨by first | rfl | (simp [errW_none, errW_some] <;> rfl) | (simp [*, errW_none, errW_some] <;> rfl), hBq⟩
         ·rw [if_neg c30] at H
          exact absurd H (by simp)
        ·rw [if_neg c29] at H
         exact absurd H (by simp)
       ·rw [if_neg c28] at H
        have h3_ : decide (a1_ < (l0.length : Int)) = false := decide_eq_false c28; clear c28; have HC61 := As H; clear H; have r3_ := a9_.out; have r4_ := c3_.out; have hq15_ := cf2 a3_.out
        go_upto_if 73 with (first | ((with_reducible refine gate_dst (N := 22) rfl ?_); refine bxE 22 z11 51 ?_; intro a5_ hg w64 hbox hb; have a0_ := As (hbox); have l8_ := As (by rw [hg]; exact (below_size hBq) : w.heap.size ≤ a5_); replace HB := sBq hb; have r5_ := l8_; have c6_ := As (by rw [hg]; exact Nat.ne_of_lt (blk_lt (g := a8_) (plq a3_.out)) : a8_ ≠ a5_); replace a3_ := As (blk_below (plq a3_.out) hb); have d4_ := As c6_.out.symm; have c2_ := As (by rw [hg]; exact Nat.ne_of_lt (blk_lt (g := a2_) (plq a4_.out)) : a2_ ≠ a5_); replace a4_ := As (blk_below (plq a4_.out) hb); have c7_ := As c2_.out.symm; clear hb hbox hg; have r6_ := d4_.out; have r7_ := c6_.out; have r8_ := c7_.out; have r9_ := c2_.out; have hq16_ := cf11 a0_.out) | ((with_reducible refine gate_store (t := 51) (p := 22) rfl ?_); refine store_event (t := 51) (p := 22) (v := ?vo_w68) (w1 := (((((((((((w64.setCell ⟨a5_, 0, none⟩ (a1_0)).setCell ⟨a5_, 1, none⟩ (a2)).setCell ⟨a5_, 2, none⟩ ((wrap64 ((l0.length : Int) + 1)))).setCell ⟨a5_, 3, none⟩ (.int .i64 0)).setCell ⟨a5_, 4, none⟩ (a3)).setCell ⟨a5_, 5, none⟩ (a4)).setCell ⟨a5_, 6, none⟩ (a5)).setCell ⟨a5_, 7, none⟩ (a6)).setCell ⟨a5_, 8, none⟩ (a7)).setCell ⟨a5_, 9, none⟩ (a8)).setCell ⟨a5_, 10, none⟩ (.int .i64 0))) ?hg ?ho ?hn ?hr ?_; (case ho => rfl); (case hg => rfl); (case hn => rfl); (case hr => first | (go_simp; done) | (go_simp; rfl)); intro w68 hw; replace a3_ : Aside0 (w68.heap[a8_]? = some (.cells #[a1_0, a1_1] 49 (0, 0))) := ⟨(by rw [hw]; exact (by (iterate 11 (refine blk_far ?_ c6_.out _)); exact a3_.out))⟩; replace a4_ : Aside0 (w68.heap[a2_]? = some (.cells #[b1_, b2_, b3_, b4_, b5_, b6_, b7_, b8_, b9_, c0_, c1_] 51 (0, 0))) := ⟨(by rw [hw]; exact (by (iterate 11 (refine blk_far ?_ c2_.out _)); exact a4_.out))⟩; replace a0_ : Aside0 (w68.heap[a5_]? = some (.cells #[a1_0, a2, (wrap64 ((l0.length : Int) + 1)), .int .i64 0, a3, a4, a5, a6, a7, a8, .int .i64 0] 51 (0, 0))) := ⟨(by rw [hw]; exact (by apply puts11; exact a0_.out))⟩; replace HB : Aside0 (Below w.heap.size w w68) := ⟨(by rw [hw]; exact hBq)⟩; clear hw))
        (try simp only [Act.put, List.setIfInBounds_toArray, List.set_cons_zero, List.set_cons_succ]); go_cut [] (fun wc => ∃ (kq : Nat) (d9_ : Int) (e0_ : Int) (e1_ : Int) (e2_ : Int) (e3_ : Int) (e4_ : Int) (e5_ : Int) (e6_ : Int) (e7_ : Int) (e8_ : Int) (e9_ : Int) (a7_ : Int), Aside0 (ref15_Next.j2 kq a1_0 a1_1 a1_0 a2 (wrap64 ((l0.length : Int) + 1)) a7_ a3 a4 a5 a6 a7 a8 0 = some (r1, r2, r3, r4, r5, r6, r7, r8, r9, r10, r11, r12)) ∧ Aside0 (kq ≤ k2) ∧ Aside0 (wc.heap[a8_]? = some (.cells #[a1_0, a1_1] 49 (0, 0))) ∧ Aside0 (wc.heap[a2_]? = some (.cells #[d9_, e0_, e1_, e2_, e3_, e4_, e5_, e6_, e7_, e8_, e9_] 51 (0, 0))) ∧ Aside0 (wc.heap[a5_]? = some (.cells #[a1_0, a2, (wrap64 ((l0.length : Int) + 1)), a7_, a3, a4, a5, a6, a7, a8, .int .i64 0] 51 (0, 0))) ∧ Aside0 (Below w.heap.size w wc))
        case first =>
         have H := HC61.out; clear HC61
         by_cases c69 : (l0.length : Int) > 0
         ·rw [if_pos c69] at H
          have f6_ : decide (0 < (l0.length : Int)) = true := decide_eq_true c69; have g2_ : decide (0 < l0.length) = true := decide_eq_true (by omega); clear c69; (first | rw [f6_] | rw [g2_] | (simp only [i64_w, i32_w]; rw [f6_]) | skip); obtain ⟨ji70, hji70⟩ : ∃ j_ : Int, (wrap64 ((l0.length : Int) - 1)) = j_ := ⟨_, rfl⟩; (replace H : (if 0 ≤ (ji70) then (if (ji70) < (l0.length : Int) then (if a3 < ((rd_T51 l0 (ji70)).f4) then (some (0, 0, 0, 0, 0, 0, 0, 0, 0, 0, 0, 22)) else ((ref15_Bytes.f k2 ((rd_T51 l0 (ji70)).f0) ((rd_T51 l0 (ji70)).f1) ((rd_T51 l0 (ji70)).f2) ((rd_T51 l0 (ji70)).f3) ((rd_T51 l0 (ji70)).f4) ((rd_T51 l0 (ji70)).f5) ((rd_T51 l0 (ji70)).f6) ((rd_T51 l0 (ji70)).f7) ((rd_T51 l0 (ji70)).f8) ((rd_T51 l0 (ji70)).f9) ((rd_T51 l0 (ji70)).f10)).bind fun f7_ => ((ref02_Sum.f k2 f7_).bind fun f9_ => (ref15_Next.j2 k2 a1_0 a1_1 a1_0 a2 (wrap64 ((l0.length : Int) + 1)) f9_ a3 a4 a5 a6 a7 a8 0)))) else (none)) else (none)) = some (r1, r2, r3, r4, r5, r6, r7, r8, r9, r10, r11, r12) := by first | (rw [hji70] at H; exact H) | (simp only [hji70] at H ⊢; exact H)); have hji70w : (IntKind.i64.wrap ((l0.length : Int) - 1)) = ji70 := (i64_w _).trans hji70
          by_cases c71 : 0 ≤ (ji70)
          ·rw [if_pos c71] at H
           have l9_ : decide (0 ≤ (ji70)) = true := decide_eq_true c71; clear c71
           by_cases c72 : (ji70) < (l0.length : Int)
           ·rw [if_pos c72] at H
            have m0_ : decide ((ji70) < (l0.length : Int)) = true := decide_eq_true c72; clear c72
            by_cases c73 : a3 < ((rd_T51 l0 (ji70)).f4)
            ·rw [if_pos c73] at H
             have i0_ : decide (a3 < ((rd_T51 l0 (ji70)).f4)) = true := decide_eq_true c73; clear c73; simp only [Option.some.injEq, Prod.mk.injEq] at H; obtain ⟨rfl, rfl, rfl, rfl, rfl, rfl, rfl, rfl, rfl, rfl, rfl, rfl⟩ := H; have f2_ : 0 ≤ ((ji70) : Int) := dq; have f3_ : (ji70) < (l0.length : Int) := dq; obtain ⟨m1_, h0_, _, _, _, _, _, _, _, _, _, _, _⟩ := at_T51 (Kd.C_below HR0.out HB.out) (ji70) f2_ f3_; cases h0_; replace f2_ := eq_true f2_; replace f3_ := eq_true f3_
             go_wp2_with (first | ((with_reducible refine gate_dst (N := 23) rfl ?_); refine bxE 23 z11 51 ?_; intro b0_ hg w74 hbox hb; have c9_ := As (hbox); have g7_ := As (by rw [hg]; exact (below_size hBq) : w.heap.size ≤ b0_); replace HB := sBq hb; have m2_ := g7_; have d1_ := As (by rw [hg]; exact Nat.ne_of_lt (blk_lt (g := a8_) (plq a3_.out)) : a8_ ≠ b0_); replace a3_ := As (blk_below (plq a3_.out) hb); have f4_ := As d1_.out.symm; have d2_ := As (by rw [hg]; exact Nat.ne_of_lt (blk_lt (g := a2_) (plq a4_.out)) : a2_ ≠ b0_); replace a4_ := As (blk_below (plq a4_.out) hb); have f0_ := As d2_.out.symm; have d3_ := As (by rw [hg]; exact Nat.ne_of_lt (blk_lt (g := a5_) (plq a0_.out)) : a5_ ≠ b0_); replace a0_ := As (blk_below (plq a0_.out) hb); have f5_ := As d3_.out.symm; clear hb hbox hg; have s0_ := f4_.out; have s1_ := d1_.out; have s2_ := f0_.out; have s3_ := d2_.out; have s4_ := f5_.out; have s5_ := d3_.out; have hq17_ := cf11 c9_.out) | ((with_reducible refine gate_store (t := 51) (p := 23) rfl ?_); refine store_event (t := 51) (p := 23) (v := ?vo_w79) (w1 := (((((((((((w74.setCell ⟨b0_, 0, none⟩ (((rd_T51 l0 (ji70)).f0))).setCell ⟨b0_, 1, none⟩ (((rd_T51 l0 (ji70)).f1))).setCell ⟨b0_, 2, none⟩ (((rd_T51 l0 (ji70)).f2))).setCell ⟨b0_, 3, none⟩ (((rd_T51 l0 (ji70)).f3))).setCell ⟨b0_, 4, none⟩ (((rd_T51 l0 (ji70)).f4))).setCell ⟨b0_, 5, none⟩ (((rd_T51 l0 (ji70)).f5))).setCell ⟨b0_, 6, none⟩ (((rd_T51 l0 (ji70)).f6))).setCell ⟨b0_, 7, none⟩ (((rd_T51 l0 (ji70)).f7))).setCell ⟨b0_, 8, none⟩ (((rd_T51 l0 (ji70)).f8))).setCell ⟨b0_, 9, none⟩ (((rd_T51 l0 (ji70)).f9))).setCell ⟨b0_, 10, none⟩ (((rd_T51 l0 (ji70)).f10)))) ?hg ?ho ?hn ?hr ?_; (case ho => rfl); (case hg => rfl); (case hn => rfl); (case hr => first | (go_simp; done) | (go_simp; rfl)); intro w79 hw; replace a3_ : Aside0 (w79.heap[a8_]? = some (.cells #[a1_0, a1_1] 49 (0, 0))) := ⟨(by rw [hw]; exact (by (iterate 11 (refine blk_far ?_ d1_.out _)); exact a3_.out))⟩; replace a4_ : Aside0 (w79.heap[a2_]? = some (.cells #[b1_, b2_, b3_, b4_, b5_, b6_, b7_, b8_, b9_, c0_, c1_] 51 (0, 0))) := ⟨(by rw [hw]; exact (by (iterate 11 (refine blk_far ?_ d2_.out _)); exact a4_.out))⟩; replace a0_ : Aside0 (w79.heap[a5_]? = some (.cells #[a1_0, a2, (wrap64 ((l0.length : Int) + 1)), .int .i64 0, a3, a4, a5, a6, a7, a8, .int .i64 0] 51 (0, 0))) := ⟨(by rw [hw]; exact (by (iterate 11 (refine blk_far ?_ d3_.out _)); exact a0_.out))⟩; replace c9_ : Aside0 (w79.heap[b0_]? = some (.cells #[((rd_T51 l0 (ji70)).f0), ((rd_T51 l0 (ji70)).f1), ((rd_T51 l0 (ji70)).f2), ((rd_T51 l0 (ji70)).f3), ((rd_T51 l0 (ji70)).f4), ((rd_T51 l0 (ji70)).f5), ((rd_T51 l0 (ji70)).f6), ((rd_T51 l0 (ji70)).f7), ((rd_T51 l0 (ji70)).f8), ((rd_T51 l0 (ji70)).f9), ((rd_T51 l0 (ji70)).f10)] 51 (0, 0))) := ⟨(by rw [hw]; exact (by apply puts11; exact c9_.out))⟩; replace HB : Aside0 (Below w.heap.size w w79) := ⟨(by rw [hw]; exact hBq)⟩; clear hw; have hq18_ := cf11 c9_.out; have s6_ := c3_.out; have s7_ := a9_.out; have s8_ := c2_.out; have s9_ := c7_.out; have hq19_ := cf11 a4_.out) | ((with_reducible refine gate_store (t := 51) (p := 18) rfl ?_); refine store_event (t := 51) (p := 18) (v := ?vo_w84) (w1 := (((((((((((w79.setCell ⟨a2_, 0, none⟩ (.int .i64 0)).setCell ⟨a2_, 1, none⟩ (.int .i64 0)).setCell ⟨a2_, 2, none⟩ (.int .i64 0)).setCell ⟨a2_, 3, none⟩ (.int .i64 0)).setCell ⟨a2_, 4, none⟩ (.int .i64 0)).setCell ⟨a2_, 5, none⟩ (.int .i64 0)).setCell ⟨a2_, 6, none⟩ (.int .i64 0)).setCell ⟨a2_, 7, none⟩ (.int .i64 0)).setCell ⟨a2_, 8, none⟩ (.int .i64 0)).setCell ⟨a2_, 9, none⟩ (.int .i64 0)).setCell ⟨a2_, 10, none⟩ (.int .i64 0))) ?hg ?ho ?hn ?hr ?_; (case ho => rfl); (case hg => rfl); (case hn => rfl); (case hr => first | (go_simp; done) | (go_simp; rfl)); intro w84 hw; replace a3_ : Aside0 (w84.heap[a8_]? = some (.cells #[a1_0, a1_1] 49 (0, 0))) := ⟨(by rw [hw]; exact (by (iterate 11 (refine blk_far ?_ a9_.out _)); exact a3_.out))⟩; replace a4_ : Aside0 (w84.heap[a2_]? = some (.cells z11 51 (0, 0))) := ⟨(by rw [hw]; exact (by apply puts11; exact a4_.out))⟩; replace a0_ : Aside0 (w84.heap[a5_]? = some (.cells #[a1_0, a2, (wrap64 ((l0.length : Int) + 1)), .int .i64 0, a3, a4, a5, a6, a7, a8, .int .i64 0] 51 (0, 0))) := ⟨(by rw [hw]; exact (by (iterate 11 (refine blk_far ?_ c7_.out _)); exact a0_.out))⟩; replace c9_ : Aside0 (w84.heap[b0_]? = some (.cells #[((rd_T51 l0 (ji70)).f0), ((rd_T51 l0 (ji70)).f1), ((rd_T51 l0 (ji70)).f2), ((rd_T51 l0 (ji70)).f3), ((rd_T51 l0 (ji70)).f4), ((rd_T51 l0 (ji70)).f5), ((rd_T51 l0 (ji70)).f6), ((rd_T51 l0 (ji70)).f7), ((rd_T51 l0 (ji70)).f8), ((rd_T51 l0 (ji70)).f9), ((rd_T51 l0 (ji70)).f10)] 51 (0, 0))) := ⟨(by rw [hw]; exact (by (iterate 11 (refine blk_far ?_ f0_.out _)); exact c9_.out))⟩; replace HB : Aside0 (Below w.heap.size w w84) := ⟨(by rw [hw]; exact hBq)⟩; clear hw))
             refine bodyPost_ret (results_ct rfl _ _ a2_ 51 z11 (0, 0) _ rfl (by refine plT ?_; exact a4_.out) Tryd.underlying51 rfl (by kernel_rfl)) rfl ?_; exact ⟨by first | rfl | (simp [errW_none, errW_some] <;> rfl) | (simp only [← hji70]; first | rfl | (simp [errW_none, errW_some] <;> rfl)) | (simp [*, errW_none, errW_some] <;> rfl), hBq⟩
            ·rw [if_neg c73] at H
             have i0_ : decide (a3 < ((rd_T51 l0 (ji70)).f4)) = false := decide_eq_false c73; clear c73; obtain ⟨f7_, A85, H⟩ := bnd H; (try dsimp only at H); obtain ⟨f9_, A86, H⟩ := bnd H; (try dsimp only at H); have H' := As H; clear H; have f2_ : 0 ≤ ((ji70) : Int) := dq; have f3_ : (ji70) < (l0.length : Int) := dq; obtain ⟨m1_, h0_, j1_, j2_, j3_, j4_, j5_, j6_, j7_, j8_, j9_, l0_, h1_⟩ := at_T51 (Kd.C_below HR0.out HB.out) (ji70) f2_ f3_; cases h0_; replace f2_ := eq_true f2_; replace f3_ := eq_true f3_
             go_wp2_with (first | ((with_reducible refine gate_dst (N := 23) rfl ?_); refine bxE 23 z11 51 ?_; intro b0_ hg w87 hbox hb; have c9_ := As (hbox); have g7_ := As (by rw [hg]; exact (below_size hBq) : w.heap.size ≤ b0_); replace HB := sBq hb; have m2_ := g7_; have d1_ := As (by rw [hg]; exact Nat.ne_of_lt (blk_lt (g := a8_) (plq a3_.out)) : a8_ ≠ b0_); replace a3_ := As (blk_below (plq a3_.out) hb); have f4_ := As d1_.out.symm; have d2_ := As (by rw [hg]; exact Nat.ne_of_lt (blk_lt (g := a2_) (plq a4_.out)) : a2_ ≠ b0_); replace a4_ := As (blk_below (plq a4_.out) hb); have f0_ := As d2_.out.symm; have d3_ := As (by rw [hg]; exact Nat.ne_of_lt (blk_lt (g := a5_) (plq a0_.out)) : a5_ ≠ b0_); replace a0_ := As (blk_below (plq a0_.out) hb); have f5_ := As d3_.out.symm; clear hb hbox hg; have t0_ := f4_.out; have t1_ := d1_.out; have t2_ := f0_.out; have t3_ := d2_.out; have t4_ := f5_.out; have t5_ := d3_.out; have hq20_ := cf11 c9_.out) | ((with_reducible refine gate_store (t := 51) (p := 23) rfl ?_); refine store_event (t := 51) (p := 23) (v := ?vo_w92) (w1 := (((((((((((w87.setCell ⟨b0_, 0, none⟩ (((rd_T51 l0 (ji70)).f0))).setCell ⟨b0_, 1, none⟩ (((rd_T51 l0 (ji70)).f1))).setCell ⟨b0_, 2, none⟩ (((rd_T51 l0 (ji70)).f2))).setCell ⟨b0_, 3, none⟩ (((rd_T51 l0 (ji70)).f3))).setCell ⟨b0_, 4, none⟩ (((rd_T51 l0 (ji70)).f4))).setCell ⟨b0_, 5, none⟩ (((rd_T51 l0 (ji70)).f5))).setCell ⟨b0_, 6, none⟩ (((rd_T51 l0 (ji70)).f6))).setCell ⟨b0_, 7, none⟩ (((rd_T51 l0 (ji70)).f7))).setCell ⟨b0_, 8, none⟩ (((rd_T51 l0 (ji70)).f8))).setCell ⟨b0_, 9, none⟩ (((rd_T51 l0 (ji70)).f9))).setCell ⟨b0_, 10, none⟩ (((rd_T51 l0 (ji70)).f10)))) ?hg ?ho ?hn ?hr ?_; (case ho => rfl); (case hg => rfl); (case hn => rfl); (case hr => first | (go_simp; done) | (go_simp; rfl)); intro w92 hw; (replace a3_ : Aside0 (w92.heap[a8_]? = some (.cells #[a1_0, a1_1] 49 (0, 0))) := ⟨(by rw [hw]; exact (by (iterate 11 (refine plT ?_; refine blk_far ?_ d1_.out _)); refine plT ?_; exact a3_.out))⟩); (replace a4_ : Aside0 (w92.heap[a2_]? = some (.cells #[b1_, b2_, b3_, b4_, b5_, b6_, b7_, b8_, b9_, c0_, c1_] 51 (0, 0))) := ⟨(by rw [hw]; exact (by (iterate 11 (refine plT ?_; refine blk_far ?_ d2_.out _)); refine plT ?_; exact a4_.out))⟩); (replace a0_ : Aside0 (w92.heap[a5_]? = some (.cells #[a1_0, a2, (wrap64 ((l0.length : Int) + 1)), .int .i64 0, a3, a4, a5, a6, a7, a8, .int .i64 0] 51 (0, 0))) := ⟨(by rw [hw]; exact (by (iterate 11 (refine plT ?_; refine blk_far ?_ d3_.out _)); refine plT ?_; exact a0_.out))⟩); replace c9_ : Aside0 (w92.heap[b0_]? = some (.cells #[((rd_T51 l0 (ji70)).f0), ((rd_T51 l0 (ji70)).f1), ((rd_T51 l0 (ji70)).f2), ((rd_T51 l0 (ji70)).f3), ((rd_T51 l0 (ji70)).f4), ((rd_T51 l0 (ji70)).f5), ((rd_T51 l0 (ji70)).f6), ((rd_T51 l0 (ji70)).f7), ((rd_T51 l0 (ji70)).f8), ((rd_T51 l0 (ji70)).f9), ((rd_T51 l0 (ji70)).f10)] 51 (0, 0))) := ⟨(by rw [hw]; exact (by refine plT ?_; apply puts11; refine plT ?_; exact c9_.out))⟩; replace HB : Aside0 (Below w.heap.size w w92) := ⟨(by rw [hw]; exact hBq)⟩; clear hw; have hq21_ := cf11 c9_.out) | ((with_reducible refine gate_callee (f := 45) rfl ?_); refine goesL_ (some 86) rfl rfl Tryd.func45 (by kernel_rfl) rfl #[.agg #[((rd_T51 l0 (ji70)).f0), ((rd_T51 l0 (ji70)).f1), ((rd_T51 l0 (ji70)).f2), ((rd_T51 l0 (ji70)).f3), ((rd_T51 l0 (ji70)).f4), ((rd_T51 l0 (ji70)).f5), ((rd_T51 l0 (ji70)).f6), ((rd_T51 l0 (ji70)).f7), ((rd_T51 l0 (ji70)).f8), ((rd_T51 l0 (ji70)).f9), ((rd_T51 l0 (ji70)).f10)]] rfl (by (try simp only [m1, m2, m3]); first | done | (simp only [hji70]; rfl) | rfl | (simp only [List.length_drop, List.length_take]; rfl)) ?_; (with_reducible refine (ref15_Bytes.calls k2 ((rd_T51 l0 (ji70)).f0) ((rd_T51 l0 (ji70)).f1) ((rd_T51 l0 (ji70)).f2) ((rd_T51 l0 (ji70)).f3) ((rd_T51 l0 (ji70)).f4) ((rd_T51 l0 (ji70)).f5) ((rd_T51 l0 (ji70)).f6) ((rd_T51 l0 (ji70)).f7) ((rd_T51 l0 (ji70)).f8) ((rd_T51 l0 (ji70)).f9) ((rd_T51 l0 (ji70)).f10) f7_ _ A85.out).mono ?_); rintro e w94 ⟨rfl, hb⟩; refine ⟨_, rfl, ?_⟩; replace a3_ := As (blk_below (plq a3_.out) hb); replace a4_ := As (blk_below (plq a4_.out) hb); replace a0_ := As (blk_below (plq a0_.out) hb); replace c9_ := As (blk_below (plq c9_.out) hb); replace HB := sBq hb; (try clear hb)) | ((with_reducible refine gate_callee (f := 44) rfl ?_); refine gL (some 87) Tryd.func44 #[.string f7_] ?_; (with_reducible refine (ref02_Sum.calls k2 f7_ f9_ _ A86.out).mono ?_); rintro e w' ⟨rfl, ⟨nd, rfl⟩⟩; refine ⟨_, rfl, ?_⟩; (try (rw [drewN_self w94]; generalize hq_ : World.drewN w94 _ = w94; (replace a3_ : Aside0 (w94.heap[a8_]? = some (.cells #[a1_0, a1_1] 49 (0, 0))) := ⟨by rw [← hq_]; exact (by refine plT ?_; exact a3_.out)⟩); (replace a4_ : Aside0 (w94.heap[a2_]? = some (.cells #[b1_, b2_, b3_, b4_, b5_, b6_, b7_, b8_, b9_, c0_, c1_] 51 (0, 0))) := ⟨by rw [← hq_]; exact (by refine plT ?_; exact a4_.out)⟩); (replace a0_ : Aside0 (w94.heap[a5_]? = some (.cells #[a1_0, a2, (wrap64 ((l0.length : Int) + 1)), .int .i64 0, a3, a4, a5, a6, a7, a8, .int .i64 0] 51 (0, 0))) := ⟨by rw [← hq_]; exact (by refine plT ?_; exact a0_.out)⟩); (replace c9_ : Aside0 (w94.heap[b0_]? = some (.cells #[((rd_T51 l0 (ji70)).f0), ((rd_T51 l0 (ji70)).f1), ((rd_T51 l0 (ji70)).f2), ((rd_T51 l0 (ji70)).f3), ((rd_T51 l0 (ji70)).f4), ((rd_T51 l0 (ji70)).f5), ((rd_T51 l0 (ji70)).f6), ((rd_T51 l0 (ji70)).f7), ((rd_T51 l0 (ji70)).f8), ((rd_T51 l0 (ji70)).f9), ((rd_T51 l0 (ji70)).f10)] 51 (0, 0))) := ⟨by rw [← hq_]; exact (by refine plT ?_; exact c9_.out)⟩); (replace HB : Aside0 (Below w.heap.size w w94) := ⟨by rw [← hq_]; exact hBq⟩); clear hq_; have := cf2 a3_.out; have := cf11 a4_.out; have := cf11 a0_.out; have := cf11 c9_.out)); have t6_ := d4_.out; have t7_ := c6_.out; have t8_ := c7_.out; have t9_ := c2_.out; have hq22_ := cf11 a0_.out))
             go_meet
             case rel => exact ⟨_, (b1_), (b2_), (b3_), (b4_), (b5_), (b6_), (b7_), (b8_), (b9_), (c0_), (c1_), (f9_), H', ⟨by have := HJ9.out; have := HK2.out; first | omega | exact Nat.le_refl _⟩, ⟨by refine plT ?_; refine blk_far ?_ c6_.out _; refine plT ?_; exact a3_.out⟩, ⟨by refine plT ?_; refine blk_far ?_ c2_.out _; refine plT ?_; exact a4_.out⟩, ⟨by refine plT ?_; refine blk_put (cs := #[a1_0, a2, (wrap64 ((l0.length : Int) + 1)), .int .i64 0, a3, a4, a5, a6, a7, a8, .int .i64 0]) ?_ 3 _ rfl; refine plT ?_; exact a0_.out⟩, ⟨hBq⟩⟩
           ·rw [if_neg c72] at H
            exact absurd H (by simp)
          ·rw [if_neg c71] at H
           exact absurd H (by simp)
         ·rw [if_neg c69] at H
          have f6_ : decide (0 < (l0.length : Int)) = false := decide_eq_false c69; have g2_ : decide (0 < l0.length) = false := decide_eq_false (by omega); clear c69; (first | rw [f6_] | rw [g2_] | (simp only [i64_w, i32_w]; rw [f6_]) | skip); have H' := As H; clear H; go_wp2; go_meet
          case rel => exact ⟨_, (b1_), (b2_), (b3_), (b4_), (b5_), (b6_), (b7_), (b8_), (b9_), (c0_), (c1_), (0), H', ⟨by have := HJ9.out; have := HK2.out; first | omega | exact Nat.le_refl _⟩, ⟨by refine plT ?_; exact a3_.out⟩, ⟨by refine plT ?_; exact a4_.out⟩, ⟨by refine plT ?_; exact a0_.out⟩, ⟨hBq⟩⟩
        case rest =>
         clear HC61; (try clear c1); (try clear c2); (try clear p2); (try clear q2); (try clear hx2); (try clear c3); (try clear c4); (try clear c5); (try clear c6); (try clear p6); (try clear c7); (try clear c8); (try clear c9); (try clear c14); (try clear c16); (try clear c18); (try clear c20); (try clear c21); (try clear p22); (try clear q22); (try clear u2_); (try clear c24); (try clear g5_); (try clear g6_); (try clear c25); (try clear c28); (try clear h3_); (try clear c29); (try clear l6_); (try clear c30); (try clear l7_); (try clear c31); (try clear h4_); (try clear h5_); (try clear c32); (try clear h6_); (try clear h7_); (try clear c34); (try clear c35); (try clear c39); (try clear c42); (try clear c43); (try clear c44); (try clear c45); (try clear c47); (try clear c52); (try clear c53); (try clear c57); (try clear c62); (try clear p64); (try clear c65); (try clear c66); (try clear c69); (try clear f6_); (try clear g2_); (try clear c71); (try clear l9_); (try clear c72); (try clear m0_); (try clear c73); (try clear i0_); (try clear c75); (try clear c76); (try clear c77); (try clear c81); (try clear c82); (try clear c88); (try clear c89); (try clear c90); (try clear c95); (try clear c96); (try clear hq0_); (try clear hq1_); (try clear hq2_)
         (try clear hq2_); (try clear hq3_); (try clear hq4_); (try clear hq5_); (try clear hq6_); (try clear hq7_); (try clear hq8_); (try clear hq9_); (try clear hq10_)
         (try clear hq10_); (try clear hq11_); (try clear hq12_); (try clear hq13_); (try clear hq14_); (try clear hq15_); (try clear hq16_); (try clear hq17_); (try clear hq18_)
         (try clear hq18_); (try clear hq19_); (try clear hq20_); (try clear hq21_); (try clear hq22_); (try clear hq0_); (try clear hq1_); (try clear hq2_); (try clear hq3_)
         (try clear hq3_); (try clear hq4_); (try clear hq5_); (try clear hq6_); (try clear hq7_); (try clear hq8_); (try clear hq9_); (try clear hq10_); (try clear hq11_)
         (try clear hq11_); (try clear hq12_); (try clear hq13_); (try clear hq14_); (try clear hq15_); (try clear hq16_); (try clear hq17_); (try clear hq18_); (try clear hq19_)
         (try clear hq19_); (try clear hq20_); (try clear hq21_); (try clear hq22_); (try clear i1_ i2_ g9_ i3_ i4_ i5_ i6_ i7_ i8_ i9_ j0_); (try clear j1_ j2_ h1_ j3_ j4_ j5_ j6_ j7_ j8_ j9_ l0_); (try clear p2); (try clear d7_); (try clear f2_); (try clear d8_); (try clear f3_)
         obtain ⟨kq, d9_, e0_, e1_, e2_, e3_, e4_, e5_, e6_, e7_, e8_, e9_, a7_, HA, HJ60, a3_, a4_, a0_, HB⟩ := hcut
         cases kq with
         | zero => exact absurd HA.out (by simp [ref15_Next.j2])
         | succ kj60 =>
          have H := HA.out; clear HA; simp only [ref15_Next.j2] at H; obtain ⟨f1_, A98, H⟩ := bnd H; (try dsimp only at H); replace H := Option.bind_eq_some_iff.mp H; obtain ⟨⟨d5_, l1_⟩, l2_, H⟩ := H; (try dsimp only at H); have A99 := As l2_; clear l2_; obtain ⟨g8_, l3_, H⟩ := bnd H; (try dsimp only at H)
          by_cases c101 : g8_ = true
          ·subst c101
           rw [if_pos rfl] at H; simp only [Option.some.injEq, Prod.mk.injEq] at H; obtain ⟨rfl, rfl, rfl, rfl, rfl, rfl, rfl, rfl, rfl, rfl, rfl, rfl⟩ := H; (try go_wp2); replace a3_ := As (blk_drew a3_.out); replace a4_ := As (blk_drew a4_.out); replace a0_ := As (blk_drew a0_.out); replace HB := As (below_drew1 HB.out)
           refine start_ (n := 10) (S := fun w' => w'.cell? ⟨a8_, 0, none⟩ = some (a1_0) ∧ w'.cell? ⟨a8_, 1, none⟩ = some (a1_1) ∧ w'.cell? ⟨a5_, 0, none⟩ = some (a1_0) ∧ w'.cell? ⟨a5_, 1, none⟩ = some (a2) ∧ w'.cell? ⟨a5_, 2, none⟩ = some ((wrap64 ((l0.length : Int) + 1))) ∧ w'.cell? ⟨a5_, 3, none⟩ = some (a7_) ∧ w'.cell? ⟨a5_, 4, none⟩ = some (a3) ∧ w'.cell? ⟨a5_, 5, none⟩ = some (a4) ∧ w'.cell? ⟨a5_, 6, none⟩ = some (a5) ∧ w'.cell? ⟨a5_, 7, none⟩ = some (a6) ∧ w'.cell? ⟨a5_, 8, none⟩ = some (a7) ∧ w'.cell? ⟨a5_, 9, none⟩ = some (a8) ∧ w'.cell? ⟨a5_, 10, none⟩ = some (.int .i64 0)) (ds := [9]) (marksOf 10 0) (by kernel_rfl) rfl rfl ⟨bc a3_ 0, bc a3_ 1, bc a0_ 0, bc a0_ 1, bc a0_ 2, bc a0_ 3, bc a0_ 4, bc a0_ 5, bc a0_ 6, bc a0_ 7, bc a0_ 8, bc a0_ 9, bc a0_ 10⟩ (fun hHeld => ?_); refine with_tabW ref15_Next.tab17 ref15_Next.bits17 (fun HT_ HW_ => ?_); generalize wc.drew = w102 at a3_ a4_ a0_ HB hHeld ⊢
           refine pv_ 0 90 10 1 ?_; (refine ta_ 1 91 10 3 ?_ rfl rfl (take_ofW HT_.out HW_.out (by kernel_rfl)) (fun _ _ _ h => h) (by rfl) ?_ hHeld ?_ ?_ ?_; rotate_left; rintro w' ⟨s0, s1, s2, s3, s4, s5, s6, s7, s8, s9, s10, s11, s12⟩; go_simp; with_reducible rfl; rotate_left; simp only [Act.put, q1, q2, q3, i64_w, i32_w]; rfl); (refine ta_ 2 92 10 7 ?_ rfl rfl (take_ofW HT_.out HW_.out (by kernel_rfl)) (fun _ _ _ h => h) (by rfl) ?_ hHeld ?_ ?_ ?_; rotate_left; rintro w' ⟨s0, s1, s2, s3, s4, s5, s6, s7, s8, s9, s10, s11, s12⟩; go_simp; with_reducible rfl; rotate_left; simp only [Act.put, q1, q2, q3, i64_w, i32_w]; rfl); refine one_ (i := 3) (N := some 93) (marksOf 10 15) rfl rfl (one_of HT_.out (by kernel_rfl)) (by decide) (fun K hK => ?_); refine goes_ Tryd.func45 (by kernel_rfl) rfl #[.agg #[a1_0, a2, (wrap64 ((l0.length : Int) + 1)), a7_, a3, a4, a5, a6, a7, a8, .int .i64 0]] (by rfl) rfl rfl gq ?_
           with_reducible refine (ref15_Bytes.calls kj60 a1_0 a2 (wrap64 ((l0.length : Int) + 1)) a7_ a3 a4 a5 a6 a7 a8 0 f1_ _ A98.out).mono ?_
           rintro e w103 ⟨rfl, hb⟩; refine ⟨_, rfl, ?_⟩; replace a3_ := As (blk_below (plq a3_.out) hb); replace a4_ := As (blk_below (plq a4_.out) hb); replace a0_ := As (blk_below (plq a0_.out) hb); replace HB := sBq hb; (try clear hb)
           refine hK.out _ _ ⟨bc a3_ 0, bc a3_ 1, bc a0_ 0, bc a0_ 1, bc a0_ 2, bc a0_ 3, bc a0_ 4, bc a0_ 5, bc a0_ 6, bc a0_ 7, bc a0_ 8, bc a0_ 9, bc a0_ 10⟩ (fun hHeld => ?_); clear hK K; refine norm_ (a' := ?_) ?_ ?_; rotate_left
           ·show Act.put _ (some 93) _ = _
            simp only [Act.put, q1, q2, q3, i64_w, i32_w]; rfl
           refine one_ (i := 4) (N := some 94) (marksOf 10 31) rfl rfl (one_of HT_.out (by kernel_rfl)) (by decide) (fun K hK => ?_); refine goes_ Tryd.func46 (by kernel_rfl) rfl #[a1_1, .string f1_] (by rfl) rfl rfl gq ?_
           with_reducible refine (ref14_Sign.calls kj60 a1_1 f1_ d5_ l1_ _ A99.out).mono ?_
           rintro e w104 ⟨rfl, hb⟩; refine ⟨_, rfl, ?_⟩; replace a3_ := As (blk_below (plq a3_.out) hb); replace a4_ := As (blk_below (plq a4_.out) hb); replace a0_ := As (blk_below (plq a0_.out) hb); replace HB := sBq hb; (try clear hb)
           refine hK.out _ _ ⟨bc a3_ 0, bc a3_ 1, bc a0_ 0, bc a0_ 1, bc a0_ 2, bc a0_ 3, bc a0_ 4, bc a0_ 5, bc a0_ 6, bc a0_ 7, bc a0_ 8, bc a0_ 9, bc a0_ 10⟩ (fun hHeld => ?_); clear hK K; refine norm_ (a' := ?_) ?_ ?_; rotate_left
           ·show Act.put _ (some 94) _ = _
            simp only [Act.put, q1, q2, q3, i64_w, i32_w]; rfl
           refine pv_ 5 89 10 63 ?_; refine pv_ 6 95 10 127 ?_; refine pv_ 7 96 10 255 ?_; refine pv_ 8 97 10 511 ?_; refine last_ (i := 9) (N := none) (marksOf 10 1023) rfl rfl (one_of HT_.out (by kernel_rfl)) (by decide) (fun K hK => ?_); have u0_ : w104.cell? ⟨a5_, 10, none⟩ = some (.int .i64 0) := (blk_cell a0_.out 10).trans rfl; have n1_ := blk_frozen a0_.out 10; have m3_ := c6_.out; have m4_ := c2_.out; have m5_ := d4_.out; have m6_ := c7_.out; refine skip_ (w1 := ?_) (by rfl) rfl ?_ ?_; rotate_left
           ·go_simp
            rfl
           refine hK.out _ _ ?_; clear hK K; refine done_ (done_of HT_.out (by kernel_rfl)) ?_; have n2_ := d4_.out; have n3_ := c6_.out; have n4_ := c7_.out; have n5_ := c2_.out; have := cf11 a0_.out
           (try go_wp2_with (first | ((with_reducible refine gate_callee (f := 47) rfl ?_); refine gL (some 99) Tryd.func47 #[.agg #[a1_0, a2, (wrap64 ((l0.length : Int) + 1)), a7_, a3, a4, a5, a6, a7, a8, d5_]] ?_; (with_reducible refine (ref15_Valid.calls kj60 a1_0 a2 (wrap64 ((l0.length : Int) + 1)) a7_ a3 a4 a5 a6 a7 a8 d5_ true _ l3_.out).mono ?_); rintro e w109 ⟨rfl, hb⟩; refine ⟨_, rfl, ?_⟩; replace a3_ := As (blk_below (g := a8_) (o := .cells #[a1_0, a1_1] 49 (0, 0)) (by refine plT ?_; refine blk_far ?_ c6_.out _; refine plT ?_; exact a3_.out) hb); replace a4_ := As (blk_below (g := a2_) (o := .cells #[d9_, e0_, e1_, e2_, e3_, e4_, e5_, e6_, e7_, e8_, e9_] 51 (0, 0)) (by refine plT ?_; refine blk_far ?_ c2_.out _; refine plT ?_; exact a4_.out) hb); (replace a0_ := As (blk_below (g := a5_) (o := .cells #[a1_0, a2, (wrap64 ((l0.length : Int) + 1)), a7_, a3, a4, a5, a6, a7, a8, d5_] 51 (0, 0)) (by refine plT ?_; refine blk_put (cs := #[a1_0, a2, (wrap64 ((l0.length : Int) + 1)), a7_, a3, a4, a5, a6, a7, a8, .int .i64 0]) ?_ 10 _ rfl; refine plT ?_; exact a0_.out) hb)); replace HB := sBq hb; (try clear hb); have := cf11 a0_.out; have n6_ := c3_.out; have n7_ := a9_.out; have := cf11 a4_.out) | ((with_reducible refine gate_store (t := 51) (p := 18) rfl ?_); refine store_event (t := 51) (p := 18) (v := ?vo_w113) (w1 := (((((((((((w109.setCell ⟨a2_, 0, none⟩ (a1_0)).setCell ⟨a2_, 1, none⟩ (a2)).setCell ⟨a2_, 2, none⟩ ((wrap64 ((l0.length : Int) + 1)))).setCell ⟨a2_, 3, none⟩ (a7_)).setCell ⟨a2_, 4, none⟩ (a3)).setCell ⟨a2_, 5, none⟩ (a4)).setCell ⟨a2_, 6, none⟩ (a5)).setCell ⟨a2_, 7, none⟩ (a6)).setCell ⟨a2_, 8, none⟩ (a7)).setCell ⟨a2_, 9, none⟩ (a8)).setCell ⟨a2_, 10, none⟩ (d5_))) ?hg ?ho ?hn ?hr ?_; (case ho => rfl); (case hg => rfl); (case hn => rfl); (case hr => first | (go_simp; done) | (go_simp; rfl)); intro w113 hw; replace a3_ : Aside0 (w113.heap[a8_]? = some (.cells #[a1_0, a1_1] 49 (0, 0))) := ⟨(by rw [hw]; exact (by (iterate 11 (refine blk_far ?_ a9_.out _)); exact a3_.out))⟩; replace a4_ : Aside0 (w113.heap[a2_]? = some (.cells #[a1_0, a2, (wrap64 ((l0.length : Int) + 1)), a7_, a3, a4, a5, a6, a7, a8, d5_] 51 (0, 0))) := ⟨(by rw [hw]; exact (by apply puts11; exact a4_.out))⟩; replace a0_ : Aside0 (w113.heap[a5_]? = some (.cells #[a1_0, a2, (wrap64 ((l0.length : Int) + 1)), a7_, a3, a4, a5, a6, a7, a8, d5_] 51 (0, 0))) := ⟨(by rw [hw]; exact (by (iterate 11 (refine blk_far ?_ c7_.out _)); exact a0_.out))⟩; replace HB : Aside0 (Below w.heap.size w w113) := ⟨(by rw [hw]; exact hBq)⟩; clear hw)))
           refine bodyPost_ret (results_ct rfl _ _ a2_ 51 #[a1_0, a2, (wrap64 ((l0.length : Int) + 1)), a7_, a3, a4, a5, a6, a7, a8, d5_] (0, 0) _ rfl (by refine plT ?_; exact a4_.out) Tryd.underlying51 rfl (by kernel_rfl)) rfl ?_; exact ⟨by first | rfl | (simp [errW_none, errW_some] <;> rfl) | (simp [*, errW_none, errW_some] <;> rfl), hBq⟩
          ·replace c101 := Bool.eq_false_iff.mpr c101
           subst c101; rw [if_neg nft] at H; simp only [Option.some.injEq, Prod.mk.injEq] at H; obtain ⟨rfl, rfl, rfl, rfl, rfl, rfl, rfl, rfl, rfl, rfl, rfl, rfl⟩ := H; (try go_wp2); replace a3_ := As (blk_drew a3_.out); replace a4_ := As (blk_drew a4_.out); replace a0_ := As (blk_drew a0_.out); replace HB := As (below_drew1 HB.out)
           refine start_ (n := 10) (S := fun w' => w'.cell? ⟨a8_, 0, none⟩ = some (a1_0) ∧ w'.cell? ⟨a8_, 1, none⟩ = some (a1_1) ∧ w'.cell? ⟨a5_, 0, none⟩ = some (a1_0) ∧ w'.cell? ⟨a5_, 1, none⟩ = some (a2) ∧ w'.cell? ⟨a5_, 2, none⟩ = some ((wrap64 ((l0.length : Int) + 1))) ∧ w'.cell? ⟨a5_, 3, none⟩ = some (a7_) ∧ w'.cell? ⟨a5_, 4, none⟩ = some (a3) ∧ w'.cell? ⟨a5_, 5, none⟩ = some (a4) ∧ w'.cell? ⟨a5_, 6, none⟩ = some (a5) ∧ w'.cell? ⟨a5_, 7, none⟩ = some (a6) ∧ w'.cell? ⟨a5_, 8, none⟩ = some (a7) ∧ w'.cell? ⟨a5_, 9, none⟩ = some (a8) ∧ w'.cell? ⟨a5_, 10, none⟩ = some (.int .i64 0)) (ds := [9]) (marksOf 10 0) (by kernel_rfl) rfl rfl ⟨bc a3_ 0, bc a3_ 1, bc a0_ 0, bc a0_ 1, bc a0_ 2, bc a0_ 3, bc a0_ 4, bc a0_ 5, bc a0_ 6, bc a0_ 7, bc a0_ 8, bc a0_ 9, bc a0_ 10⟩ (fun hHeld => ?_); refine with_tabW ref15_Next.tab17 ref15_Next.bits17 (fun HT_ HW_ => ?_); generalize wc.drew = w114 at a3_ a4_ a0_ HB hHeld ⊢
           refine pv_ 0 90 10 1 ?_; (refine ta_ 1 91 10 3 ?_ rfl rfl (take_ofW HT_.out HW_.out (by kernel_rfl)) (fun _ _ _ h => h) (by rfl) ?_ hHeld ?_ ?_ ?_; rotate_left; rintro w' ⟨s0, s1, s2, s3, s4, s5, s6, s7, s8, s9, s10, s11, s12⟩; go_simp; with_reducible rfl; rotate_left; simp only [Act.put, q1, q2, q3, i64_w, i32_w]; rfl); (refine ta_ 2 92 10 7 ?_ rfl rfl (take_ofW HT_.out HW_.out (by kernel_rfl)) (fun _ _ _ h => h) (by rfl) ?_ hHeld ?_ ?_ ?_; rotate_left; rintro w' ⟨s0, s1, s2, s3, s4, s5, s6, s7, s8, s9, s10, s11, s12⟩; go_simp; with_reducible rfl; rotate_left; simp only [Act.put, q1, q2, q3, i64_w, i32_w]; rfl); refine one_ (i := 3) (N := some 93) (marksOf 10 15) rfl rfl (one_of HT_.out (by kernel_rfl)) (by decide) (fun K hK => ?_); refine goes_ Tryd.func45 (by kernel_rfl) rfl #[.agg #[a1_0, a2, (wrap64 ((l0.length : Int) + 1)), a7_, a3, a4, a5, a6, a7, a8, .int .i64 0]] (by rfl) rfl rfl gq ?_
           with_reducible refine (ref15_Bytes.calls kj60 a1_0 a2 (wrap64 ((l0.length : Int) + 1)) a7_ a3 a4 a5 a6 a7 a8 0 f1_ _ A98.out).mono ?_
           rintro e w115 ⟨rfl, hb⟩; refine ⟨_, rfl, ?_⟩; replace a3_ := As (blk_below (plq a3_.out) hb); replace a4_ := As (blk_below (plq a4_.out) hb); replace a0_ := As (blk_below (plq a0_.out) hb); replace HB := sBq hb; (try clear hb)
           refine hK.out _ _ ⟨bc a3_ 0, bc a3_ 1, bc a0_ 0, bc a0_ 1, bc a0_ 2, bc a0_ 3, bc a0_ 4, bc a0_ 5, bc a0_ 6, bc a0_ 7, bc a0_ 8, bc a0_ 9, bc a0_ 10⟩ (fun hHeld => ?_); clear hK K; refine norm_ (a' := ?_) ?_ ?_; rotate_left
           ·show Act.put _ (some 93) _ = _
            simp only [Act.put, q1, q2, q3, i64_w, i32_w]; rfl
           refine one_ (i := 4) (N := some 94) (marksOf 10 31) rfl rfl (one_of HT_.out (by kernel_rfl)) (by decide) (fun K hK => ?_); refine goes_ Tryd.func46 (by kernel_rfl) rfl #[a1_1, .string f1_] (by rfl) rfl rfl gq ?_
           with_reducible refine (ref14_Sign.calls kj60 a1_1 f1_ d5_ l1_ _ A99.out).mono ?_
           rintro e w116 ⟨rfl, hb⟩; refine ⟨_, rfl, ?_⟩; replace a3_ := As (blk_below (plq a3_.out) hb); replace a4_ := As (blk_below (plq a4_.out) hb); replace a0_ := As (blk_below (plq a0_.out) hb); replace HB := sBq hb; (try clear hb)
           refine hK.out _ _ ⟨bc a3_ 0, bc a3_ 1, bc a0_ 0, bc a0_ 1, bc a0_ 2, bc a0_ 3, bc a0_ 4, bc a0_ 5, bc a0_ 6, bc a0_ 7, bc a0_ 8, bc a0_ 9, bc a0_ 10⟩ (fun hHeld => ?_); clear hK K; refine norm_ (a' := ?_) ?_ ?_; rotate_left
           ·show Act.put _ (some 94) _ = _
            simp only [Act.put, q1, q2, q3, i64_w, i32_w]; rfl
           refine pv_ 5 89 10 63 ?_; refine pv_ 6 95 10 127 ?_; refine pv_ 7 96 10 255 ?_; refine pv_ 8 97 10 511 ?_; refine last_ (i := 9) (N := none) (marksOf 10 1023) rfl rfl (one_of HT_.out (by kernel_rfl)) (by decide) (fun K hK => ?_); have u1_ : w116.cell? ⟨a5_, 10, none⟩ = some (.int .i64 0) := (blk_cell a0_.out 10).trans rfl; have n8_ := blk_frozen a0_.out 10; have m7_ := c6_.out; have m8_ := c2_.out; have m9_ := d4_.out; have n0_ := c7_.out; refine skip_ (w1 := ?_) (by rfl) rfl ?_ ?_; rotate_left
           ·go_simp
            rfl
           refine hK.out _ _ ?_; clear hK K; refine done_ (done_of HT_.out (by kernel_rfl)) ?_; have n9_ := d4_.out; have o0_ := c6_.out; have o1_ := c7_.out; have o2_ := c2_.out; have := cf11 a0_.out
           (try go_wp2_with (first | ((with_reducible refine gate_callee (f := 47) rfl ?_); refine gL (some 99) Tryd.func47 #[.agg #[a1_0, a2, (wrap64 ((l0.length : Int) + 1)), a7_, a3, a4, a5, a6, a7, a8, d5_]] ?_; (with_reducible refine (ref15_Valid.calls kj60 a1_0 a2 (wrap64 ((l0.length : Int) + 1)) a7_ a3 a4 a5 a6 a7 a8 d5_ false _ l3_.out).mono ?_); rintro e w121 ⟨rfl, hb⟩; refine ⟨_, rfl, ?_⟩; replace a3_ := As (blk_below (g := a8_) (o := .cells #[a1_0, a1_1] 49 (0, 0)) (by refine plT ?_; refine blk_far ?_ c6_.out _; refine plT ?_; exact a3_.out) hb); replace a4_ := As (blk_below (g := a2_) (o := .cells #[d9_, e0_, e1_, e2_, e3_, e4_, e5_, e6_, e7_, e8_, e9_] 51 (0, 0)) (by refine plT ?_; refine blk_far ?_ c2_.out _; refine plT ?_; exact a4_.out) hb); (replace a0_ := As (blk_below (g := a5_) (o := .cells #[a1_0, a2, (wrap64 ((l0.length : Int) + 1)), a7_, a3, a4, a5, a6, a7, a8, d5_] 51 (0, 0)) (by refine plT ?_; refine blk_put (cs := #[a1_0, a2, (wrap64 ((l0.length : Int) + 1)), a7_, a3, a4, a5, a6, a7, a8, .int .i64 0]) ?_ 10 _ rfl; refine plT ?_; exact a0_.out) hb)); replace HB := sBq hb; (try clear hb); have o3_ := c3_.out; have o4_ := a9_.out; have := cf11 a4_.out) | ((with_reducible refine gate_store (t := 51) (p := 18) rfl ?_); refine store_event (t := 51) (p := 18) (v := ?vo_w124) (w1 := (((((((((((w121.setCell ⟨a2_, 0, none⟩ (.int .i64 0)).setCell ⟨a2_, 1, none⟩ (.int .i64 0)).setCell ⟨a2_, 2, none⟩ (.int .i64 0)).setCell ⟨a2_, 3, none⟩ (.int .i64 0)).setCell ⟨a2_, 4, none⟩ (.int .i64 0)).setCell ⟨a2_, 5, none⟩ (.int .i64 0)).setCell ⟨a2_, 6, none⟩ (.int .i64 0)).setCell ⟨a2_, 7, none⟩ (.int .i64 0)).setCell ⟨a2_, 8, none⟩ (.int .i64 0)).setCell ⟨a2_, 9, none⟩ (.int .i64 0)).setCell ⟨a2_, 10, none⟩ (.int .i64 0))) ?hg ?ho ?hn ?hr ?_; (case ho => rfl); (case hg => rfl); (case hn => rfl); (case hr => first | (go_simp; done) | (go_simp; rfl)); intro w124 hw; replace a3_ : Aside0 (w124.heap[a8_]? = some (.cells #[a1_0, a1_1] 49 (0, 0))) := ⟨(by rw [hw]; exact (by (iterate 11 (refine blk_far ?_ a9_.out _)); exact a3_.out))⟩; replace a4_ : Aside0 (w124.heap[a2_]? = some (.cells z11 51 (0, 0))) := ⟨(by rw [hw]; exact (by apply puts11; exact a4_.out))⟩; replace a0_ : Aside0 (w124.heap[a5_]? = some (.cells #[a1_0, a2, (wrap64 ((l0.length : Int) + 1)), a7_, a3, a4, a5, a6, a7, a8, d5_] 51 (0, 0))) := ⟨(by rw [hw]; exact (by (iterate 11 (refine blk_far ?_ c7_.out _)); exact a0_.out))⟩; replace HB : Aside0 (Below w.heap.size w w124) := ⟨(by rw [hw]; exact hBq)⟩; clear hw)))
           refine bodyPost_ret (results_ct rfl _ _ a2_ 51 z11 (0, 0) _ rfl (by refine plT ?_; exact a4_.out) Tryd.underlying51 rfl (by kernel_rfl)) rfl ?_; exact ⟨by first | rfl | (simp [errW_none, errW_some] <;> rfl) | (simp [*, errW_none, errW_some] <;> rfl), hBq⟩
end Go.Proofs.YtcgpbmafkgbbdaaDoor.PS
