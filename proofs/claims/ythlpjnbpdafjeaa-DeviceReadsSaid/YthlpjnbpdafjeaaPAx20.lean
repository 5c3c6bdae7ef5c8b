-- Written by a program of this claim's own (hookprint.py), after the pattern of the kit's print. Lean checks it.
import Derived.Test.YthlpjnbpdafjeaaPAx0
import Derived.Test.YthlpjnbpdafjeaaRow
namespace Go.Proofs.Ythlpjnbpdafjeaa.PA
open Go.RowKit Go.Proofs.YthlpjnbpdafjeaaW.PrintWords Go.Proofs.YthlpjnbpdafjeaaW.PrintLast Go.Proofs.YthlpjnbpdafjeaaW.PrintMore
attribute [local go_sem ↓] some_setCell
attribute [local go_sem] max2_int min2_int max_two min_two max_three min_three max_four min_four   -- for this text's walks alone
set_option linter.unusedVariables false
set_option linter.unusedSimpArgs false

def slices_Delete_int_int.enc (x : Int) : List Value := [.int .i64 x]
theorem slices_Delete_int_int.isFlat : Flat (Kd.int .i64) slices_Delete_int_int.enc := ⟨fun _ => rfl, fun h => h, fun _ _ _ _ => rfl, by decide⟩
theorem slices_Delete_int_int.encK {W : World} {x : Int} {cs : List Value} (h : (Kd.int .i64).K W x cs) : cs = slices_Delete_int_int.enc x := h
def slices_Delete_int_int.f (l0 : List Int) (a1 : Int) (a2 : Int) : Option (List Int) := if 0 ≤ a1 ∧ a1 ≤ a2 ∧ a2 ≤ (l0.length : Int) then some (l0.take a1.toNat ++ l0.drop a2.toNat) else none
theorem slices_Delete_int_int.zero (W : World) : (zeroValue 3).run Try.prog W = .ok (.int .i64 0) W := by kernel_rfl
set_option maxHeartbeats 8000000 in
set_option maxRecDepth 100000 in
theorem slices_Delete_int_int.same (u : Value) (n i : Nat) (g : Option Nat) (cap : Nat) (w : World) (hi : i ≤ n) (hc : n ≤ cap) (hcm : cap ≤ 9223372036854775807) (hu : u = .slice (g.map fun b => ⟨b, 0, none⟩) n cap) (h0 : g = none → n = 0 ∧ cap = 0) :
  Calls Try.prog 50 #[u, .int .i64 i, .int .i64 i] w fun e w' => e = .returned u ∧ w = w' := by
 subst hu; (have hic : i ≤ cap := by omega)
 cases g with
 | none =>
  obtain ⟨rfl, rfl⟩ := h0 rfl; (obtain rfl : i = 0 := by omega); clear h0; go_enter Try.func50, Try.ntmps50; go_wp2; go_ret
  exact ⟨rfl, rfl⟩
 | some b =>
  clear h0; go_enter Try.func50, Try.ntmps50; go_wp2
  all_goals (go_ret; exact ⟨rfl, rfl⟩)
set_option maxHeartbeats 8000000 in
set_option maxRecDepth 100000 in
theorem slices_Delete_int_int.shift (g n cap i j : Nat) (cur news : List Value) (w : World) (hH : w.heap[g]? = some (.cells cur.toArray 3 (0, 0))) (hcap : n ≤ cap) (hm : cap ≤ 9223372036854775807) (hij : i < j) (hj : j ≤ n) (hl : cur.length = cap * 1)
  (hnews : news = (cur.drop (j * 1)).take ((n - j) * 1)) (hone : ∀ u ∈ news, u.oneCell' = true) :
  Calls Try.prog 50 #[.slice (some ⟨g, 0, none⟩) n cap, .int .i64 i, .int .i64 j] w fun e w' => e = .returned (.slice (some ⟨g, 0, none⟩) (i + (n - j)) cap) ∧ Aside0 (w.grownBy w' (some g) ∧ ∃ cur' : List Value, w'.heap[g]? = some (.cells cur'.toArray 3 (0, 0)) ∧ cur'.length = cap * 1 ∧ cur'.take ((i + (n - j)) * 1) = cur.take (i * 1) ++ news) := by
 obtain ⟨i0, hi, hz0, hz1, hz2⟩ := info_parts info3; (have hlen : news.length = (n - j) * 1 := by rw [hnews, List.length_take, List.length_drop, hl]; omega)
 obtain ⟨A, hA, hsrc⟩ : ∃ A : Addr, (if cap = j then some (⟨g, 0, none⟩ : Addr) else some ⟨g, j * 1, none⟩) = some A ∧ Hid (∀ t u, news[t]? = some u → w.drew.cell? (A.add t) = some u) := by
  by_cases h : cap = j
  ·refine ⟨⟨g, 0, none⟩, by simp [h], fun t u hu => ?_⟩
   (have h0 : news.length = 0 := by rw [hlen]; omega); rw [List.length_eq_zero_iff.1 h0] at hu; simp at hu
  ·refine ⟨⟨g, j * 1, none⟩, by simp [h], fun t u hu => ?_⟩
   have ht : t < (n - j) * 1 := by
    have := (List.getElem?_eq_some_iff.1 hu).1
    rwa [hlen] at this
   rw [hnews, List.getElem?_take_of_lt ht, List.getElem?_drop] at hu; obtain ⟨hlt, hv⟩ := List.getElem?_eq_some_iff.1 hu; rw [Addr.add_lit]
   show w.cell? ⟨g, j * 1 + t, none⟩ = some u
   rw [cellAt hH _ hlt, hv]
 have s1 : Hid (news.length = (n - j) * 1) := hlen; have s2 : Hid (∀ u ∈ news, u.oneCell' = true) := hone
 have s3 : Hid (∀ t, t < news.length → (w.drew.cell? ⟨g, 0 + i * 1 + t, none⟩).isSome = true ∧ w.drew.frozen? ⟨g, 0 + i * 1 + t, none⟩ = false) := by
  intro t ht; rw [hlen] at ht; refine ⟨?_, frozenAt (w := w) hH _⟩
  show (w.cell? _).isSome = true
  rw [cellAt hH _ (by rw [hl]; omega)]; rfl
 obtain ⟨W1, hW1⟩ : ∃ W1, W1 = w.drew.setCells g (0 + i * 1) news := ⟨_, rfl⟩; (have hfit : i * 1 + news.length ≤ cur.length := by rw [hlen, hl]; omega)
 have hH1 : W1.heap[g]? = some (.cells (over cur (i * 1) news).toArray 3 (0, 0)) := by
  rw [hW1, Nat.zero_add]; exact setCells_heap (w := w.drew) hH _ _ hfit
 have hG1 : w.grownBy W1 (some g) := by
  rw [hW1, Nat.zero_add]; exact grown2 (grown_drew w _) (setCells_grown (w := w.drew) hH _ _ hfit)
 (have hl1 : (over cur (i * 1) news).length = cap * 1 := by rw [over_len _ _ _ hfit, hl]); have hzs : ((.int .i64 0) : Value).cells.size = 1 := rfl; obtain ⟨zs, hzl, hcl⟩ := run_clear_row (P := Try.prog) hH1 24 3 (.int .i64 0) Try.underlying24 (slices_Delete_int_int.zero W1) (by decide) ((i + (n - j)) * 1) (n - (i + (n - j))) (cap - (i + (n - j))) (by rw [hzs, hl1]; omega); rw [hzs] at hzl; (have hfit2 : (i + (n - j)) * 1 + zs.length ≤ (over cur (i * 1) news).length := by rw [hzl, hl1]; omega)
 have fin : Aside0 (w.grownBy (W1.setCells g ((i + (n - j)) * 1) zs) (some g) ∧ ∃ cur' : List Value, (W1.setCells g ((i + (n - j)) * 1) zs).heap[g]? = some (.cells cur'.toArray 3 (0, 0)) ∧ cur'.length = cap * 1 ∧ cur'.take ((i + (n - j)) * 1) = cur.take (i * 1) ++ news) := by
  refine ⟨grown2 hG1 (setCells_grown hH1 _ _ hfit2), _, setCells_heap hH1 _ _ hfit2, by rw [over_len _ _ _ hfit2, hl1], ?_⟩; rw [over_take _ _ _ (by rw [hl1]; omega), over_take2 _ _ _ _ (by rw [hl]; omega) (by rw [hlen]; omega)]
 have hW : Hid (W1 = w.drew.setCells g (0 + i * 1) news) := hW1; (have hic : i ≤ cap := by omega); (have hjc : j ≤ cap := by omega); (have hmc : i + (n - j) < cap := by omega); (have hmn : i + (n - j) ≤ n := by omega); clear hW1 hH1 hG1 hH hnews hlen hl hl1 hfit hfit2 hzl hzs hone hz0 hz2; simp only [Nat.mul_one] at hA hcl; go_enter Try.func50, Try.ntmps50; go_wp2_with fail; go_region_law (refine step_append_room rfl (.tmp 22) (.tmp 25) 24 rfl 3 i0 1 Try.underlying24 hi hz1 g 0 i cap (by simp [Act.eval, Act.put]) A (n - j) (cap - j) news (by simp [Act.eval, Act.put]) s1.out hsrc.out s2.out (by omega) s3.out ?_; rw [← hW.out]); go_wp2; go_ret; exact ⟨rfl, (by simpa only [Nat.mul_one] using fin)⟩
set_option maxHeartbeats 8000000 in
theorem slices_Delete_int_int.calls (P0_ : Nat → Prop) (u9000_ : Value) (l0 : List Int) (a1 : Int) (a2 : Int) (r : List Int) (w0 w : World) (hB : Below w0.heap.size w0 w) (ho0 : Kd.R (Kd.int .i64) 3 w w0.heap.size P0_ u9000_ l0) (h : slices_Delete_int_int.f l0 a1 a2 = some r) :
  Calls Try.prog 50 #[u9000_, .int .i64 a1, .int .i64 a2] w fun e w' => ∃ v0_ : Value, e = .returned (v0_) ∧ Kd.R (Kd.int .i64) 3 w' w0.heap.size (fun k_ => (P0_ k_ ∨ w.heap.size ≤ k_)) v0_ r ∧ Below w0.heap.size w0 w' ∧ Kept w w' (fun k_ => P0_ k_) := by
 unfold slices_Delete_int_int.f at h
 by_cases hc : 0 ≤ a1 ∧ a1 ≤ a2 ∧ a2 ≤ (l0.length : Int)
 ·rw [if_pos hc] at h
  obtain rfl := Option.some.inj h; obtain ⟨h1, h2, h3⟩ := hc; obtain ⟨i, rfl⟩ := Int.eq_ofNat_of_zero_le h1; obtain ⟨j, rfl⟩ := Int.eq_ofNat_of_zero_le (Int.le_trans h1 h2); rw [Int.toNat_natCast, Int.toNat_natCast]; (have hij : i ≤ j := by omega); (have hj : j ≤ l0.length := by omega); have wide : Kd.R (Kd.int .i64) 3 w w0.heap.size (fun k_ => (P0_ k_ ∨ w.heap.size ≤ k_)) u9000_ l0 := Kd.R_mono ho0 (fun k hk => .inl hk); (rcases slices_Delete_int_int.isFlat.block ho0 with ⟨rfl, rfl⟩ | ⟨g, cap, cur, rfl, hg, hok, hH, hnc, hcm, hl, htk⟩)
  ·obtain rfl : j = 0 := by simpa using hj
   (obtain rfl : i = 0 := by omega); refine (slices_Delete_int_int.same (.slice none 0 0) 0 0 none 0 w (by omega) (by omega) (by omega) rfl (fun _ => ⟨rfl, rfl⟩)).mono ?_; rintro e w' ⟨rfl, rfl⟩; exact ⟨_, rfl, wide, hB, Kept.refl _ _⟩
  ·have hcm' : cap ≤ 9223372036854775807 := by simpa [maxLen] using hcm
   by_cases he : i = j
   ·subst he
    refine (slices_Delete_int_int.same (.slice (some ⟨g, 0, none⟩) l0.length cap) l0.length i (some g) cap w (by omega) hnc hcm' rfl (fun h => by cases h)).mono ?_; rintro e w' ⟨rfl, rfl⟩; rw [List.take_append_drop]; exact ⟨_, rfl, wide, hB, Kept.refl _ _⟩
   ·have hnews : flat slices_Delete_int_int.enc (l0.drop j) = (cur.drop (j * 1)).take ((l0.length - j) * 1) := by
     have e1 := slices_Delete_int_int.isFlat.flat_drop l0 j; rw [← e1, ← htk]
     show ((cur.take (l0.length * 1)).drop (j * 1)) = _
     rw [List.drop_take]
     congr 1
     omega
    refine (slices_Delete_int_int.shift g l0.length cap i j cur (flat slices_Delete_int_int.enc (l0.drop j)) w hH hnc hcm' (by omega) hj hl hnews (slices_Delete_int_int.isFlat.one w _)).mono ?_; rintro e w' ⟨rfl, ⟨hgr, cur', hH', hl', ht'⟩⟩; refine ⟨_, rfl, ?_, below_grown hB hgr hg, kept_grown hgr hok⟩; refine slices_Delete_int_int.isFlat.own (by rw [List.length_append, List.length_take, List.length_drop]; omega) hg (.inl hok) hH' (by omega) hcm hl' ?_
    have e2 : cur.take (i * 1) = flat slices_Delete_int_int.enc (l0.take i) := by
     rw [← slices_Delete_int_int.isFlat.flat_take l0 i, ← htk]
     show _ = ((cur.take (l0.length * 1)).take (i * 1))
     rw [List.take_take]
     congr 1
     omega
    rw [flat_append, ← e2]; exact ht'
 ·rw [if_neg hc] at h
  exact absurd h (by simp)

end Go.Proofs.Ythlpjnbpdafjeaa.PA
