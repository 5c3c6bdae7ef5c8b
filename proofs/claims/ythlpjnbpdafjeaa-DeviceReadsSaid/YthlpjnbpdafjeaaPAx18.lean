-- Written by a program of this claim's own (hookprint.py), after the pattern of the kit's print. Lean checks it.
import Derived.Test.YthlpjnbpdafjeaaPAx0
import Derived.Test.YthlpjnbpdafjeaaRow
namespace Go.Proofs.Ythlpjnbpdafjeaa.PA
open Go.RowKit Go.Proofs.YthlpjnbpdafjeaaW.PrintWords Go.Proofs.YthlpjnbpdafjeaaW.PrintLast Go.Proofs.YthlpjnbpdafjeaaW.PrintMore
attribute [local go_sem ↓] some_setCell
attribute [local go_sem] max2_int min2_int max_two min_two max_three min_three max_four min_four   -- for this text's walks alone
set_option linter.unusedVariables false
set_option linter.unusedSimpArgs false

def slices_Insert_int_int.enc (x : Int) : List Value := [.int .i64 x]
theorem slices_Insert_int_int.isFlat : Flat (Kd.int .i64) slices_Insert_int_int.enc := ⟨fun _ => rfl, fun h => h, fun _ _ _ _ => rfl, by decide⟩
theorem slices_Insert_int_int.encK {W : World} {x : Int} {cs : List Value} (h : (Kd.int .i64).K W x cs) : cs = slices_Insert_int_int.enc x := h
def slices_Insert_int_int.f (l0 : List Int) (a1 : Int) (l2 : List Int) : Option (List Int) := if 0 ≤ a1 ∧ a1 ≤ (l0.length : Int) ∧ 1 ≤ l2.length ∧ l0.length + l2.length < 17592186044416 then some (l0.take a1.toNat ++ l2 ++ l0.drop a1.toNat) else none
set_option maxHeartbeats 8000000 in
set_option maxRecDepth 100000 in
theorem slices_Insert_int_int.room (g n cap i m g2 cap2 : Nat) (cur cur2 cs news : List Value) (w : World) (hH : w.heap[g]? = some (.cells cur.toArray 3 (0, 0))) (hH2 : w.heap[g2]? = some (.cells cur2.toArray 3 (0, 0))) (hne : g2 ≠ g) (hnm : n + m ≤ cap) (hm : cap ≤ 9223372036854775807) (hi : i < n) (hm1 : 1 ≤ m)
  (hl : cur.length = cap * 1) (hl2 : m * 1 ≤ cur2.length) (hcs : cs = (cur.drop (i * 1)).take ((n - i) * 1)) (hnews : news = cur2.take (m * 1)) (h1c : ∀ u ∈ cs, u.oneCell' = true) (h1v : ∀ u ∈ news, u.oneCell' = true) :
  Calls Try.prog 49 #[.slice (some ⟨g, 0, none⟩) n cap, .int .i64 i, .slice (some ⟨g2, 0, none⟩) m cap2] w fun e w' => e = .returned (.slice (some ⟨g, 0, none⟩) (n + m) cap) ∧ Aside0 (w.grownBy w' (some g) ∧ ∃ cur' : List Value, w'.heap[g]? = some (.cells cur'.toArray 3 (0, 0)) ∧ cur'.length = cap * 1 ∧ cur'.take ((n + m) * 1) = cur.take (i * 1) ++ news ++ cs) := by
 obtain ⟨i0, hi0, hz0, hz1, hz2⟩ := info_parts info3; (have hsz : (Try.prog.info? 3).map (·.size) = some 1 := by rw [hi0]; simp [hz1]); (have hzo : ∀ w, (Go.sizeOf 3).run Try.prog w = .ok 1 w := fun W => by simp [Go.sizeOf, typeInfo, hi0, hz1]); (have hcl : cs.length = (n - i) * 1 := by rw [hcs, List.length_take, List.length_drop, hl]; omega); (have hvl : news.length = m * 1 := by rw [hnews, List.length_take]; omega)
 have hov : ∀ lb cb, (callFunc 53 #[.slice (some ⟨g2, 0, none⟩) m cap2, .slice (some ⟨g, (i + m) * 1, none⟩) lb cb]).run Try.prog w = .ok (.value (.bool false)) w := fun lb cb => by
  rw [run_callFunc_extern Try.func53 (by kernel_rfl) (by kernel_rfl) (by kernel_rfl) (e := Extern.SlicesOverlaps.overlaps #[24, 24] #[4]) (by kernel_rfl),
   Lib.run_overlaps_apart w 24 4 3 Try.underlying24 1 hzo ⟨g2, 0, none⟩ ⟨g, (i + m) * 1, none⟩ m cap2 lb cb hne 3 3 cur2.length cur.length (shapeAt hH2) (shapeAt hH) (by rw [hl]; omega) (frozenAt hH2 _) (frozenAt hH2 _)]
  rfl
 (have hfit1 : (i + m) * 1 + cs.length ≤ cur.length := by rw [hcl, hl]; omega)
 have hcp1 : ∀ ty dc sc, (Builtin.copy_ #[24, 24] ty #[.slice (some ⟨g, (i + m) * 1, none⟩) (n + m - (i + m)) dc, .slice (some ⟨g, i * 1, none⟩) (n + m - i) sc]).run Try.prog w.drew = .ok (goInt ((n - i : Nat) : Int)) (w.drew.setCells g ((i + m) * 1) cs) := fun ty dc sc => by
  (have hmin : Nat.min (n + m - i) (n + m - (i + m)) = n - i := by simp only [Nat.min_def]; split <;> omega)
  have := run_copy_rows (P := Try.prog) (w := w.drew) hH 24 24 ty 3 1 Try.underlying24 hsz ((i + m) * 1) (n + m - (i + m)) dc ⟨g, i * 1, none⟩ (n + m - i) sc cs (by rw [hmin, hcl]) (fun j v hj => by
   rw [Addr.add_lit]; (have ht : j < (n - i) * 1 := by rw [← hcl]; exact (List.getElem?_eq_some_iff.1 hj).1); rw [hcs, List.getElem?_take_of_lt ht, List.getElem?_drop] at hj; obtain ⟨hlt, hv⟩ := List.getElem?_eq_some_iff.1 hj
   show w.cell? ⟨g, i * 1 + j, none⟩ = some v
   rw [cellAt hH _ hlt, hv]) hfit1 h1c
  rw [hmin] at this; exact this
 obtain ⟨W1, hW1⟩ : ∃ W1, W1 = w.drew.setCells g ((i + m) * 1) cs := ⟨_, rfl⟩; (have hH1 : W1.heap[g]? = some (.cells (over cur ((i + m) * 1) cs).toArray 3 (0, 0)) := by rw [hW1]; exact setCells_heap (w := w.drew) hH _ _ hfit1); (have hG1 : w.grownBy W1 (some g) := by rw [hW1]; exact grown2 (grown_drew w _) (setCells_grown (w := w.drew) hH _ _ hfit1)); have hH12 : W1.heap[g2]? = some (.cells cur2.toArray 3 (0, 0)) := (hG1.block g2 (blk_lt hH2) (fun e => hne (by injection e))).trans hH2; (have hl1 : (over cur ((i + m) * 1) cs).length = cap * 1 := by rw [over_len _ _ _ hfit1, hl]); (have hfit2 : i * 1 + news.length ≤ (over cur ((i + m) * 1) cs).length := by rw [hvl, hl1]; omega)
 have hcp2 : ∀ ty dc, (Builtin.copy_ #[24, 24] ty #[.slice (some ⟨g, i * 1, none⟩) (n + m - i) dc, .slice (some ⟨g2, 0, none⟩) m cap2]).run Try.prog W1 = .ok (goInt m) (W1.setCells g (i * 1) news) := fun ty dc => by
  (have hmin : Nat.min m (n + m - i) = m := by simp only [Nat.min_def]; split <;> omega)
  have := run_copy_rows (P := Try.prog) hH1 24 24 ty 3 1 Try.underlying24 hsz (i * 1) (n + m - i) dc ⟨g2, 0, none⟩ m cap2 news (by rw [hmin, hvl]) (fun j v hj => by
   rw [Addr.add_lit]; (have ht : j < m * 1 := by rw [← hvl]; exact (List.getElem?_eq_some_iff.1 hj).1); rw [hnews, List.getElem?_take_of_lt ht] at hj; obtain ⟨hlt, hv⟩ := List.getElem?_eq_some_iff.1 hj; rw [Nat.zero_add, cellAt hH12 _ hlt, hv]) hfit2 h1v
  rw [hmin] at this; exact this
 have fin : Aside0 (w.grownBy (W1.setCells g (i * 1) news) (some g) ∧ ∃ cur' : List Value, (W1.setCells g (i * 1) news).heap[g]? = some (.cells cur'.toArray 3 (0, 0)) ∧ cur'.length = cap * 1 ∧ cur'.take ((n + m) * 1) = cur.take (i * 1) ++ news ++ cs) := by
  refine ⟨grown2 hG1 (setCells_grown hH1 _ _ hfit2), _, setCells_heap hH1 _ _ hfit2, by rw [over_len _ _ _ hfit2, hl1], ?_⟩
  have e1 : (over cur ((i + m) * 1) cs).take (i * 1) = cur.take (i * 1) := by
   unfold over; rw [List.append_assoc, List.take_append_of_le_length (by rw [List.length_take, hl]; omega), List.take_take]
   congr 1
   omega
  have e2 : ((over cur ((i + m) * 1) cs).drop (i * 1 + news.length)).take (cs.length) = cs := by
   unfold over; (have hx : i * 1 + news.length = (cur.take ((i + m) * 1)).length := by rw [List.length_take, hvl, hl]; omega); rw [List.append_assoc, hx, List.drop_left, List.take_left]
  unfold over at *; rw [e1, List.take_append, List.take_of_length_le (by rw [List.length_append, List.length_take, hvl, hl]; omega)]
  congr 1
  rw [List.length_append, List.length_take, hvl, hl]; (have hx : (n + m) * 1 - (min (i * 1) (cap * 1) + m * 1) = cs.length := by rw [hcl]; omega); rw [hx, ← hvl]; exact e2
 rw [← hW1] at hcp1; have hcm : cap ≤ 9223372036854775807 := hm; (have hic : i ≤ cap := by omega); (have him : i + m < cap := by omega); (have himn : i + m < n + m := by omega); (have hz1' : ¬ ((m : Int) = 0) := by omega); (have hz2' : ¬ ((i : Int) = (n : Int)) := by omega); (have hw1 : IntKind.i64.wrap ((i : Int) + (m : Int)) = (i : Int) + (m : Int) := by rw [IntKind.wrap_i64]; omega); (have hb1 : (0 : Int) ≤ (i : Int) + (m : Int) := by omega); (have hin : i ≤ n := by omega); (have htn : ((i : Int) + (m : Int)).toNat = i + m := by omega); (have hb2 : ¬ (cap = i + m) := by omega); (have hb3 : (i : Int) ≤ (n : Int) + (m : Int) := by omega); (have hb4 : ¬ (cap = i) := by omega); clear hW1 hH hH1 hG1 hH12 hH2 hl hl1 hl2 hfit1 hfit2 hcl hvl hcs hnews h1c h1v hz0 hz1 hz2 hsz hzo hne; simp only [Nat.mul_one] at hov hcp1 hcp2; go_enter Try.func49, Try.ntmps49; go_wp2_with (simp only [hov]); go_region_law (refine step_copy_is rfl _ _ 24 24 rfl _ _ (by simp [Act.eval, Act.put]) (by simp [Act.eval, Act.put]) (hcp1 _ _ _) ?_); go_wp2_with (at_builtin; refine wpList_copy_is rfl _ _ 24 24 rfl _ _ rfl rfl (hcp2 _ _) ?_); go_ret; exact ⟨rfl, (by simpa only [Nat.mul_one] using fin)⟩
set_option maxHeartbeats 8000000 in
set_option maxRecDepth 100000 in
theorem slices_Insert_int_int.grow (g n cap i m g2 cap2 : Nat) (cur cur2 cs news : List Value) (w : World) (hH : w.heap[g]? = some (.cells cur.toArray 3 (0, 0))) (hH2 : w.heap[g2]? = some (.cells cur2.toArray 3 (0, 0))) (hnc : n ≤ cap) (hroom : cap < n + m) (hbig : (n + m) * 8 ≤ 140737488355328) (hi : i < n) (hm1 : 1 ≤ m)
  (hl : cur.length = cap * 1) (hl2 : m * 1 ≤ cur2.length) (hcs : cs = (cur.drop (i * 1)).take ((n - i) * 1)) (hnews : news = cur2.take (m * 1)) (h1c : ∀ u ∈ cs, u.oneCell' = true) (h1v : ∀ u ∈ news, u.oneCell' = true) :
  Calls Try.prog 49 #[.slice (some ⟨g, 0, none⟩) n cap, .int .i64 i, .slice (some ⟨g2, 0, none⟩) m cap2] w fun e w' => ∃ N G : Nat, e = .returned (.slice (some ⟨N, 0, none⟩) (n + m) G) ∧ Aside0 (Below w.heap.size w w' ∧ w.heap.size ≤ N ∧ n + m ≤ G ∧ G ≤ maxLen ∧ ∃ cur' : List Value, w'.heap[N]? = some (.cells cur'.toArray 3 (0, 0)) ∧ cur'.length = G * 1 ∧ cur'.take ((n + m) * 1) = cur.take (i * 1) ++ news ++ cs) := by
 obtain ⟨i0, hi0, hz0, hz1, hz2⟩ := info_parts info3; (have hsz : (Try.prog.info? 3).map (·.size) = some 1 := by rw [hi0]; simp [hz1]); (have hcl : cs.length = (n - i) * 1 := by rw [hcs, List.length_take, List.length_drop, hl]; omega); (have hvl : news.length = m * 1 := by rw [hnews, List.length_take]; omega); have hgw : g < w.heap.size := blk_lt hH; have hg2w : g2 < w.heap.size := blk_lt hH2; obtain ⟨N, hN⟩ : ∃ N, N = w.heap.size := ⟨_, rfl⟩; obtain ⟨G, hG⟩ : ∃ G, G = grownCap w (n + m) cap 3 := ⟨_, rfl⟩; (have hGn : n + m ≤ G := by rw [hG]; exact grownCap_ge w _ _ _)
 have hG63 : G ≤ maxLen := by
  have := grownCap_le_maxLen w (n + m) cap 3 (by unfold maxLen; omega); rw [hG]; exact this
 (have hik : i + (n + m - i) = n + m := by omega); (have hkk : (n : Int) + (m : Int) - (i : Int) = ((n + m - i : Nat) : Int) := by omega); obtain ⟨olds, holds⟩ : ∃ olds, olds = cur.take (i * 1) := ⟨_, rfl⟩; (have hol : olds.length = i * 1 := by rw [holds, List.length_take, hl]; omega)
 have hold : (Builtin.firstCells i0.size i (.slice (some ⟨g, 0, none⟩) i cap)).run Try.prog w.drew = .ok olds.toArray w.drew := by
  rw [hz1]
  exact run_firstCells_some w.drew 1 i ⟨g, 0, none⟩ i cap olds (by rw [hol]) (fun j v hj => by
   rw [Addr.add_lit]; (have ht : j < i * 1 := by rw [← hol]; exact (List.getElem?_eq_some_iff.1 hj).1); rw [holds, List.getElem?_take_of_lt ht] at hj; obtain ⟨hlt, hv⟩ := List.getElem?_eq_some_iff.1 hj
   show w.cell? ⟨g, 0 + j, none⟩ = some v
   rw [Nat.zero_add, cellAt hH _ hlt, hv])
 obtain ⟨row, hrow⟩ : ∃ row : List Value, row.toArray = olds.toArray ++ Builtin.zeroCells ((.int .i64 0) : Value).cells (n + m - i) ++ Builtin.zeroCells ((.int .i64 0) : Value).cells (G - (n + m)) := ⟨(olds.toArray ++ Builtin.zeroCells ((.int .i64 0) : Value).cells (n + m - i) ++ Builtin.zeroCells ((.int .i64 0) : Value).cells (G - (n + m))).toList, by simp⟩; have hzs : ((.int .i64 0) : Value).cells.size = 1 := rfl
 have hrl : row.length = G * 1 := by
  have := congrArg Array.size hrow; simp only [Array.size_append, List.size_toArray, Builtin.zeroCells, Array.size_map, Array.size_range, hzs, hol] at this; omega
 have hrt : row.take (i * 1) = olds := by
  have := congrArg Array.toList hrow; simp only [Array.toList_append] at this; rw [this, List.append_assoc, ← hol, List.take_left]
 obtain ⟨W1, hW1⟩ : ∃ W1, W1 = w.drew.alloc (.cells row.toArray 3) := ⟨_, rfl⟩
 have hrz : ∀ ty, (Builtin.append_ #[24, 3] ty #[.slice (some ⟨g, 0, none⟩) i cap, .int .i64 ((n : Int) + (m : Int) - (i : Int))]).run Try.prog w = .ok (.slice (some ⟨N, 0, none⟩) (n + m) G) W1 := fun ty => by
  have h := Lib.run_append_grow_zeros w 24 3 ty 3 i0 (.int .i64 0) .i64 .i64 Try.underlying24 Try.underlying3 hi0 hz0 (some ⟨g, 0, none⟩) i cap olds hold (n + m - i) (by omega) (by rw [hz1]; omega) (by omega) (by omega) (by rw [hz2]; omega) (by rw [hz2, hik]; exact growslice_fits hroom hbig); rw [hik] at h; rw [hkk, h, hW1, hrow, hN, hG]
 (have hH1 : W1.heap[N]? = some (.cells row.toArray 3 (0, 0)) := by rw [hW1, hN]; exact heap_alloc_new w.drew _); (have hB1 : Below w.heap.size w W1 := by rw [hW1]; exact below_alloc (below_drew (Below.refl _ _)) _); have hH21 : W1.heap[g2]? = some (.cells cur2.toArray 3 (0, 0)) := (hB1.block g2 hg2w).trans hH2; have hHg1 : W1.heap[g]? = some (.cells cur.toArray 3 (0, 0)) := (hB1.block g hgw).trans hH; (have hfit1 : i * 1 + news.length ≤ row.length := by rw [hvl, hrl]; omega)
 have hcpA : ∀ ty dc, (Builtin.copy_ #[24, 24] ty #[.slice (some ⟨N, i * 1, none⟩) (n + m - i) dc, .slice (some ⟨g2, 0, none⟩) m cap2]).run Try.prog W1 = .ok (goInt m) (W1.setCells N (i * 1) news) := fun ty dc => by
  (have hmin : Nat.min m (n + m - i) = m := by simp only [Nat.min_def]; split <;> omega)
  have := run_copy_rows (P := Try.prog) hH1 24 24 ty 3 1 Try.underlying24 hsz (i * 1) (n + m - i) dc ⟨g2, 0, none⟩ m cap2 news (by rw [hmin, hvl]) (fun j v hj => by
   rw [Addr.add_lit]; (have ht : j < m * 1 := by rw [← hvl]; exact (List.getElem?_eq_some_iff.1 hj).1); rw [hnews, List.getElem?_take_of_lt ht] at hj; obtain ⟨hlt, hv⟩ := List.getElem?_eq_some_iff.1 hj; rw [Nat.zero_add, cellAt hH21 _ hlt, hv]) hfit1 h1v
  rw [hmin] at this; exact this
 obtain ⟨W2, hW2⟩ : ∃ W2, W2 = W1.setCells N (i * 1) news := ⟨_, rfl⟩; (have hG2 : W1.grownBy W2 (some N) := by rw [hW2]; exact setCells_grown hH1 _ _ hfit1); (have hH2N : W2.heap[N]? = some (.cells (over row (i * 1) news).toArray 3 (0, 0)) := by rw [hW2]; exact setCells_heap hH1 _ _ hfit1); have hHg2 : W2.heap[g]? = some (.cells cur.toArray 3 (0, 0)) := (hG2.block g (blk_lt hHg1) (fun e => by injection e with e; omega)).trans hHg1; (have hl1 : (over row (i * 1) news).length = G * 1 := by rw [over_len _ _ _ hfit1, hrl]); (have hfit2 : (i + m) * 1 + cs.length ≤ (over row (i * 1) news).length := by rw [hcl, hl1]; omega)
 have hcpB : ∀ ty dc sc, (Builtin.copy_ #[24, 24] ty #[.slice (some ⟨N, (i + m) * 1, none⟩) (n + m - (i + m)) dc, .slice (some ⟨g, i * 1, none⟩) (n - i) sc]).run Try.prog W2.drew = .ok (goInt ((n - i : Nat) : Int)) (W2.drew.setCells N ((i + m) * 1) cs) := fun ty dc sc => by
  (have hmin : Nat.min (n - i) (n + m - (i + m)) = n - i := by simp only [Nat.min_def]; split <;> omega)
  have := run_copy_rows (P := Try.prog) (w := W2.drew) hH2N 24 24 ty 3 1 Try.underlying24 hsz ((i + m) * 1) (n + m - (i + m)) dc ⟨g, i * 1, none⟩ (n - i) sc cs (by rw [hmin, hcl]) (fun j v hj => by
   rw [Addr.add_lit]; (have ht : j < (n - i) * 1 := by rw [← hcl]; exact (List.getElem?_eq_some_iff.1 hj).1); rw [hcs, List.getElem?_take_of_lt ht, List.getElem?_drop] at hj; obtain ⟨hlt, hv⟩ := List.getElem?_eq_some_iff.1 hj
   show W2.cell? ⟨g, i * 1 + j, none⟩ = some v
   rw [cellAt hHg2 _ hlt, hv]) hfit2 h1c
  rw [hmin] at this; exact this
 have fin : Aside0 (Below w.heap.size w (W2.drew.setCells N ((i + m) * 1) cs) ∧ w.heap.size ≤ N ∧ n + m ≤ G ∧ G ≤ maxLen ∧ ∃ cur' : List Value, (W2.drew.setCells N ((i + m) * 1) cs).heap[N]? = some (.cells cur'.toArray 3 (0, 0)) ∧ cur'.length = G * 1 ∧ cur'.take ((n + m) * 1) = cur.take (i * 1) ++ news ++ cs) := by
  have hg3 : W1.grownBy (W2.drew.setCells N ((i + m) * 1) cs) (some N) := grown2 hG2 (grown2 (grown_drew W2 _) (setCells_grown (w := W2.drew) hH2N _ _ hfit2)); refine ⟨below_grown hB1 hg3 (by omega), by omega, hGn, hG63, _, setCells_heap (w := W2.drew) hH2N _ _ hfit2, by rw [over_len _ _ _ hfit2, hl1], ?_⟩; rw [over_take2 _ _ _ _ (by rw [hl1]; omega) (by rw [hcl]; omega), over_take2 _ _ _ _ (by rw [hrl]; omega) (by rw [hvl]; omega), hrt, holds]
 rw [← hW2] at hcpA; (have hz1' : ¬ ((m : Int) = 0) := by omega); (have hz2' : ¬ ((i : Int) = (n : Int)) := by omega); (have hz3' : (cap : Int) < (n : Int) + (m : Int) := by omega); (have hic : i ≤ cap := by omega); (have hGi : ¬ (G = i) := by omega); (have hGim : ¬ (G = i + m) := by omega); (have hci : ¬ (cap = i) := by omega); (have hG' : G ≤ 9223372036854775807 := by simpa [maxLen] using hG63); (have hw1 : IntKind.i64.wrap ((i : Int) + (m : Int)) = (i : Int) + (m : Int) := by rw [IntKind.wrap_i64]; omega); (have hb1 : (0 : Int) ≤ (i : Int) + (m : Int) := by omega); (have hin : i ≤ n := by omega); (have htn : ((i : Int) + (m : Int)).toNat = i + m := by omega); (have hb3 : (i : Int) ≤ (n : Int) := by omega); clear hW1 hW2 hH hH1 hG2 hH2N hHg2 hHg1 hH21 hB1 hH2 hl hl1 hl2 hfit1 hfit2 hcl hvl hcs hnews h1c h1v hz0 hz1 hz2 hsz hrow hrl hrt hold hol holds hG hN hkk hik hzs hG63; simp only [Nat.mul_one] at hcpA hcpB; go_enter Try.func49, Try.ntmps49; go_wp2_with (first | (at_builtin; refine Lib.wpList_append_run _ rfl _ _ _ _ rfl _ _ rfl rfl _ _ (hrz _) ?_) | (at_builtin; refine wpList_copy_is rfl _ _ 24 24 rfl _ _ rfl rfl (hcpA _ _) ?_)); go_region_law (refine step_copy_is rfl _ _ 24 24 rfl _ _ (by simp [Act.eval, Act.put]) (by simp [Act.eval, Act.put]) (hcpB _ _ _) ?_); go_wp2; go_ret; exact ⟨N, G, rfl, (by simpa only [Nat.mul_one] using fin)⟩
set_option maxHeartbeats 8000000 in
set_option maxRecDepth 100000 in
theorem slices_Insert_int_int.tail (P0_ P2_ : Nat → Prop) (u9000_ : Value) (l0 l2 : List Int) (g2 cap2 : Nat) (w0 w : World) (hB : Below w0.heap.size w0 w) (ho0 : Kd.R (Kd.int .i64) 3 w w0.heap.size P0_ u9000_ l0) (ho2 : Kd.R (Kd.int .i64) 3 w w0.heap.size P2_ (.slice (some ⟨g2, 0, none⟩) l2.length cap2) l2) (h1 : 1 ≤ l2.length) (hlim : l0.length + l2.length < 17592186044416) :
  Calls Try.prog 49 #[u9000_, .int .i64 (l0.length : Int), .slice (some ⟨g2, 0, none⟩) l2.length cap2] w fun e w' => ∃ v0_ : Value, e = .returned (v0_) ∧ Kd.R (Kd.int .i64) 3 w' w0.heap.size (fun k_ => (P0_ k_ ∨ w.heap.size ≤ k_)) v0_ (l0 ++ l2) ∧ Below w0.heap.size w0 w' ∧ Kept w w' (fun k_ => P0_ k_) := by
 have HL := As hlim; have HB := As hB; have HR := As (Kd.R_reads' ho2).2.2; have HO := As (Kd.R_mono (ok' := fun k_ => (P0_ k_ ∨ w.heap.size ≤ k_)) ho0 (fun k hk => .inl hk)); have HK := As ho0.1; (have hz1' : ¬ ((l2.length : Int) = 0) := by omega); have hbl := slices_Insert_int_int.isFlat.block ho0; clear hB ho2 hlim ho0; (rcases hbl with ⟨rfl, rfl⟩ | ⟨g, cap, cur, rfl, hg, hok, hH, hnc, hcm, hl, htk⟩)
 ·go_enter Try.func49, Try.ntmps49
  go_wp2_with (at_builtin; refine Kd.R_append_rows (Kd.int .i64) (w0 := w0) w0.heap.size rfl (.tmp 23) (.tmp 24) 24 3 (.int .i64 0) 8 rfl Try.underlying24 info3 rfl (by decide) (by omega) (.slice none 0 0) [] l2 (some ⟨g2, 0, none⟩) l2.length cap2 (fun k_ => (P0_ k_ ∨ w.heap.size ≤ k_)) (fun _ => False) rfl rfl HO.out HR.out (fun _ _ h => h) (fun _ h => h.elim) (fun _ h => .inr h) HB.out HB.out.size (by have := HL.out; simp at this ⊢; omega) ?_; intro v2 w2 h2a h2b h2c h2d); go_ret; exact ⟨_, rfl, h2a, h2b, Kept.of_grown h2c (Kept.refl _ _) (fun k hk => .inl (HK.out k hk))⟩
 ·have hcm' : cap ≤ 9223372036854775807 := by simpa [maxLen] using hcm
  clear hg hok hH hcm hl htk; go_enter Try.func49, Try.ntmps49; go_wp2_with (at_builtin; refine Kd.R_append_rows (Kd.int .i64) (w0 := w0) w0.heap.size rfl (.tmp 23) (.tmp 24) 24 3 (.int .i64 0) 8 rfl Try.underlying24 info3 rfl (by decide) (by omega) (.slice (some ⟨g, 0, none⟩) l0.length cap) l0 l2 (some ⟨g2, 0, none⟩) l2.length cap2 (fun k_ => (P0_ k_ ∨ w.heap.size ≤ k_)) (fun _ => False) rfl rfl HO.out HR.out (fun _ _ h => h) (fun _ h => h.elim) (fun _ h => .inr h) HB.out HB.out.size (by have := HL.out; omega) ?_; intro v2 w2 h2a h2b h2c h2d)
  all_goals (go_ret; exact ⟨_, rfl, h2a, h2b, Kept.of_grown h2c (Kept.refl _ _) (fun k hk => .inl (HK.out k hk))⟩)
set_option maxHeartbeats 8000000 in
theorem slices_Insert_int_int.calls (P0_ : Nat → Prop) (u9000_ : Value) (l0 : List Int) (a1 : Int) (P2_ : Nat → Prop) (u9001_ : Value) (l2 : List Int) (r : List Int) (w0 w : World) (hB : Below w0.heap.size w0 w) (ho0 : Kd.R (Kd.int .i64) 3 w w0.heap.size P0_ u9000_ l0) (hp0_2 : ∀ k_, P0_ k_ → ¬ P2_ k_) (ho2 : Kd.R (Kd.int .i64) 3 w w0.heap.size P2_ u9001_ l2) (hp2_0 : ∀ k_, P2_ k_ → ¬ P0_ k_) (h : slices_Insert_int_int.f l0 a1 l2 = some r) :
  Calls Try.prog 49 #[u9000_, .int .i64 a1, u9001_] w fun e w' => ∃ v0_ : Value, e = .returned (v0_) ∧ Kd.R (Kd.int .i64) 3 w' w0.heap.size (fun k_ => ((P0_ k_ ∨ P2_ k_) ∨ w.heap.size ≤ k_)) v0_ r ∧ Below w0.heap.size w0 w' ∧ Kept w w' (fun k_ => P0_ k_ ∨ P2_ k_) := by
 unfold slices_Insert_int_int.f at h
 by_cases hc : 0 ≤ a1 ∧ a1 ≤ (l0.length : Int) ∧ 1 ≤ l2.length ∧ l0.length + l2.length < 17592186044416
 ·rw [if_pos hc] at h
  obtain rfl := Option.some.inj h; obtain ⟨h1, h2, h3, h4⟩ := hc; obtain ⟨i, rfl⟩ := Int.eq_ofNat_of_zero_le h1; rw [Int.toNat_natCast]; (have hi : i ≤ l0.length := by omega); (rcases slices_Insert_int_int.isFlat.block ho2 with ⟨rfl, rfl⟩ | ⟨g2, cap2, cur2, rfl, hg2, hok2, hH2, a0_, hcm2, hl2, htk2⟩)
  ·simp at h3
  by_cases he : i = l0.length
  ·subst he
   refine (slices_Insert_int_int.tail P0_ P2_ u9000_ l0 l2 g2 cap2 w0 w hB ho0 ho2 h3 h4).mono ?_; rintro e w' ⟨v, rfl, hr, hb, hk⟩; rw [List.take_of_length_le (Nat.le_refl _), List.drop_of_length_le (Nat.le_refl _), List.append_nil]; exact ⟨_, rfl, Kd.R_mono hr (fun k hk => hk.elim (fun h => .inl (.inl h)) .inr), hb, hk.mono (fun k hk => .inl hk)⟩
  ·rcases slices_Insert_int_int.isFlat.block ho0 with ⟨rfl, rfl⟩ | ⟨g, cap, cur, rfl, hg, hok, hH, hnc, hcm, hl, htk⟩
   ·exact absurd (by simpa using hi : i = 0) (fun h => he (by simpa using h))
   have hcs : flat slices_Insert_int_int.enc (l0.drop i) = (cur.drop (i * 1)).take ((l0.length - i) * 1) := by
    have e1 := slices_Insert_int_int.isFlat.flat_drop l0 i; rw [← e1, ← htk]
    show ((cur.take (l0.length * 1)).drop (i * 1)) = _
    rw [List.drop_take]
    congr 1
    omega
   have e2 : cur.take (i * 1) = flat slices_Insert_int_int.enc (l0.take i) := by
    rw [← slices_Insert_int_int.isFlat.flat_take l0 i, ← htk]
    show _ = ((cur.take (l0.length * 1)).take (i * 1))
    rw [List.take_take]
    congr 1
    omega
   (have hl2' : l2.length * 1 ≤ cur2.length := by rw [hl2]; exact Nat.mul_le_mul_right _ a0_); (have hgg : g2 ≠ g := fun e => hp0_2 g hok (e ▸ hok2)); (have hlen : (l0.take i ++ l2 ++ l0.drop i).length = l0.length + l2.length := by rw [List.length_append, List.length_append, List.length_take, List.length_drop]; omega)
   by_cases hroom : l0.length + l2.length ≤ cap
   ·refine (slices_Insert_int_int.room g l0.length cap i l2.length g2 cap2 cur cur2 (flat slices_Insert_int_int.enc (l0.drop i)) (flat slices_Insert_int_int.enc l2) w hH hH2 hgg hroom (by simpa [maxLen] using hcm) (by omega) h3 hl hl2' hcs htk2.symm (slices_Insert_int_int.isFlat.one w _) (slices_Insert_int_int.isFlat.one w _)).mono ?_
    rintro e w' ⟨rfl, ⟨hgr, cur', hH', hl', ht'⟩⟩; refine ⟨_, rfl, ?_, below_grown hB hgr hg, (kept_grown hgr hok).mono (fun k hk => .inl hk)⟩; refine slices_Insert_int_int.isFlat.own hlen hg (.inl (.inl hok)) hH' hroom hcm hl' ?_; rw [flat_append, flat_append, ← e2]; exact ht'
   ·refine (slices_Insert_int_int.grow g l0.length cap i l2.length g2 cap2 cur cur2 (flat slices_Insert_int_int.enc (l0.drop i)) (flat slices_Insert_int_int.enc l2) w hH hH2 hnc (by omega) (by omega) (by omega) h3 hl hl2' hcs htk2.symm (slices_Insert_int_int.isFlat.one w _) (slices_Insert_int_int.isFlat.one w _)).mono ?_
    rintro e w' ⟨N, G, rfl, ⟨hbw, hN, hGn, hGm, cur', hH', hl', ht'⟩⟩; refine ⟨_, rfl, ?_, below_then hB hB.size hbw, Kept.of_below hbw _⟩; refine slices_Insert_int_int.isFlat.own hlen (Nat.le_trans hB.size hN) (.inr hN) hH' hGn hGm hl' ?_; rw [flat_append, flat_append, ← e2]; exact ht'
 ·rw [if_neg hc] at h
  exact absurd h (by simp)

end Go.Proofs.Ythlpjnbpdafjeaa.PA
