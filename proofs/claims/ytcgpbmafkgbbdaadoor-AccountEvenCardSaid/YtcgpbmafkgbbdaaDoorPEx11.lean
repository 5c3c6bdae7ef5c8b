-- Written by a program of this claim's own (hookprint.py), after the pattern of the kit's print. Lean checks it.
import Derived.Test.YtcgpbmafkgbbdaaDoorPEx0
import Derived.Test.YtcgpbmafkgbbdaaDoorPEx5
import Derived.Test.YtcgpbmafkgbbdaaDoorPEx6
import Derived.Test.YtcgpbmafkgbbdaaDoorPEx9
import Derived.Test.YtcgpbmafkgbbdaaDoorRow
namespace Go.Proofs.YtcgpbmafkgbbdaaDoor.PE
open Go.RowKit Go.Proofs.YtcgpbmafkgbbdaaDoorW.PrintWords Go.Proofs.YtcgpbmafkgbbdaaDoorW.PrintLast Go.Proofs.YtcgpbmafkgbbdaaDoorW.PrintMore
attribute [local go_sem] max2_int min2_int max_two min_two max_three min_three max_four min_four   -- for this text's walks alone
set_option linter.unusedVariables false
set_option linter.unusedSimpArgs false

/-! ### lease_Leases: function 39, by hand -/
section
-- BY HAND, AS IT STANDS
attribute [local go_sem ↓] some_setCell
def wantB (t : Int) (x : S51) : Bool := slotB x && decide (x.f4 ≤ t)
def bucket (l : List S51) (t : Int) (s : Nat) : List S51 := l.filter (fun x => wantB t x && decide (x.f6.toNat = s))
def rowV (V : Nat → Value) : List Value := (List.range 64).map V
def updV (V : Nat → Value) (k : Nat) (v : Value) : Nat → Value := fun s => if s = k then v else V s
theorem rowV_len (V : Nat → Value) : (rowV V).length = 64 := by simp [rowV]
theorem rowV_get (V : Nat → Value) (k : Nat) (h : k < 64) : (rowV V)[k]? = some (V k) := by simp [rowV, h]
theorem rowV_set (V : Nat → Value) (k : Nat) (v : Value) : (rowV V).set k v = rowV (updV V k v) := by
  apply List.ext_getElem?
  intro j
  by_cases hj : j < 64
  · rw [rowV_get _ _ hj, List.getElem?_set]
    unfold updV
    by_cases e : k = j
    · subst e
      rw [if_pos rfl, if_pos (by rw [rowV_len]; exact hj), if_pos rfl]
    · rw [if_neg e, if_neg (fun h => e h.symm), rowV_get _ _ hj]
  · rw [List.getElem?_eq_none (by rw [List.length_set, rowV_len]; omega), List.getElem?_eq_none (by rw [rowV_len]; omega)]
theorem over_one (L : List Value) (k : Nat) (v : Value) (h : k < L.length) : over L k [v] = L.set k v := by
  unfold over
  rw [List.set_eq_take_append_cons_drop, if_pos h]
  simp
theorem flat51 : Flat k51 (fun (x : S51) => [.int .i64 x.f0, .int .i64 x.f1, .int .i64 x.f2, .int .i64 x.f3, .int .i64 x.f4, .int .i64 x.f5, .int .i64 x.f6, .int .i64 x.f7, .int .i64 x.f8, .int .i64 x.f9, .int .i64 x.f10]) := ⟨fun _ => rfl, fun h => k51_openM h, fun w base ok x => k51_mkM w base ok x, by decide⟩
theorem own_only {W : World} {base : Nat} {ok : Nat → Prop} {v : Value} {xs : List S51} (h : Kd.R k51 51 W base ok v xs) : Kd.R k51 51 W base (fun k => v.ownBlock = some k) v xs := by
  rcases flat51.block h with ⟨rfl, rfl⟩ | ⟨g, cap, cur, rfl, hg, hok, hH, hnc, hcm, hl, htk⟩
  · exact Kd.R_nil _ _ _ _ _
  · exact flat51.own rfl hg rfl hH hnc hcm hl htk
/-- Sixty-four rows of the call's own, apart from each other. -/
structure Bk (W : World) (base : Nat) (V : Nat → Value) (bs : Nat → List S51) : Prop where
  row : ∀ s, s < 64 → Kd.R k51 51 W base (fun k => (V s).ownBlock = some k) (V s) (bs s)
  apart : ∀ s t, s < 64 → t < 64 → s ≠ t → (V s).ownBlock = none ∨ (V s).ownBlock ≠ (V t).ownBlock
theorem Bk.below {W W' : World} {base : Nat} {V : Nat → Value} {bs : Nat → List S51} (h : Bk W base V bs) (hb : Below W.heap.size W W') : Bk W' base V bs := ⟨fun s hs => Kd.R_below (h.row s hs) hb, h.apart⟩
theorem Bk.far {W W' : World} {base g : Nat} {V : Nat → Value} {bs : Nat → List S51} (h : Bk W base V bs) (hg : W.grownBy W' (some g)) (hlt : g < base) : Bk W' base V bs :=
  ⟨fun s hs => Kd.R_grown (h.row s hs) hg (fun k hk e => by
    injection e with e
    have := Kd.R_base (h.row s hs) k hk
    omega), h.apart⟩
theorem Bk.put {W W' : World} {base k : Nat} {V : Nat → Value} {bs : Nat → List S51} {v : Value} {ok : Nat → Prop} {ys : List S51} (hk : k < 64) (h : Bk W base V bs) (hg : W.grownBy W' (V k).ownBlock) (hv : Kd.R k51 51 W' base ok v ys) (hat : v.ownBlock = (V k).ownBlock ∨ ∃ b, v.ownBlock = some b ∧ W.heap.size ≤ b) :
    Bk W' base (updV V k v) (fun s => if s = k then ys else bs s) := by
  have hne : ∀ s, s < 64 → s ≠ k → (V s).ownBlock = none ∨ (V s).ownBlock ≠ v.ownBlock := by
    intro s hs e
    rcases hat with e2 | ⟨b, e2, hb⟩
    · rw [e2]
      exact h.apart s k hs hk e
    · cases ho : (V s).ownBlock with
      | none => exact .inl rfl
      | some q =>
        refine .inr (fun e3 => ?_)
        have := Kd.R_lt (h.row s hs) q ho
        rw [e2] at e3
        injection e3 with e3
        omega
  refine ⟨fun s hs => ?_, fun s t hs ht e => ?_⟩
  · by_cases e : s = k
    · subst e
      simp only [updV, if_pos rfl]
      exact own_only hv
    · simp only [updV, if_neg e]
      refine Kd.R_grown (h.row s hs) hg (fun q hq e2 => ?_)
      rcases h.apart s k hs hk e with h1 | h1
      · rw [h1] at hq; cases hq
      · exact h1 (hq.trans e2)
  · unfold updV
    by_cases e1 : s = k
    · subst e1
      rw [if_pos rfl, if_neg (fun h => e h.symm)]
      rcases hne t ht (fun h => e h.symm) with h1 | h1
      · cases hv' : v.ownBlock with
        | none => exact .inl rfl
        | some q => exact .inr (fun h2 => by rw [h1] at h2; cases h2)
      · exact .inr (fun h2 => h1 h2.symm)
    · rw [if_neg e1]
      by_cases e2 : t = k
      · subst e2
        rw [if_pos rfl]
        exact hne s hs e1
      · rw [if_neg e2]
        exact h.apart s t hs ht e
theorem bucket_no {l : List S51} {t : Int} {i : Nat} {x : S51} (hi : i < l.length) (hx : l[i] = x) (hw : wantB t x = false) (s : Nat) : bucket (l.take (i + 1)) t s = bucket (l.take i) t s := by
  unfold bucket
  rw [List.take_succ_eq_append_getElem hi, List.filter_append, hx]
  simp [hw]
theorem bucket_yes {l : List S51} {t : Int} {i : Nat} {x : S51} (hi : i < l.length) (hx : l[i] = x) (hw : wantB t x = true) (s : Nat) : bucket (l.take (i + 1)) t s = if s = x.f6.toNat then bucket (l.take i) t x.f6.toNat ++ [x] else bucket (l.take i) t s := by
  unfold bucket
  rw [List.take_succ_eq_append_getElem hi, List.filter_append, hx]
  by_cases e : s = x.f6.toNat
  · subst e
    simp [hw]
  · rw [if_neg e]
    have e2 : decide (x.f6.toNat = s) = false := decide_eq_false (fun h => e h.symm)
    simp only [List.filter_cons, List.filter_nil, hw, e2, Bool.and_false, Bool.false_eq_true, if_false, List.append_nil]
theorem bucket_len (l : List S51) (t : Int) (i s : Nat) : (bucket (l.take i) t s).length ≤ i := by
  unfold bucket
  exact Nat.le_trans (List.length_filter_le _ _) (by rw [List.length_take]; omega)
theorem zero_rows : #[Value.slice none 0 0, Value.slice none 0 0, Value.slice none 0 0, Value.slice none 0 0, Value.slice none 0 0, Value.slice none 0 0, Value.slice none 0 0, Value.slice none 0 0, Value.slice none 0 0, Value.slice none 0 0, Value.slice none 0 0, Value.slice none 0 0, Value.slice none 0 0, Value.slice none 0 0, Value.slice none 0 0, Value.slice none 0 0, Value.slice none 0 0, Value.slice none 0 0, Value.slice none 0 0, Value.slice none 0 0, Value.slice none 0 0, Value.slice none 0 0, Value.slice none 0 0, Value.slice none 0 0, Value.slice none 0 0, Value.slice none 0 0, Value.slice none 0 0, Value.slice none 0 0, Value.slice none 0 0, Value.slice none 0 0, Value.slice none 0 0, Value.slice none 0 0, Value.slice none 0 0, Value.slice none 0 0, Value.slice none 0 0, Value.slice none 0 0, Value.slice none 0 0, Value.slice none 0 0, Value.slice none 0 0, Value.slice none 0 0, Value.slice none 0 0, Value.slice none 0 0, Value.slice none 0 0, Value.slice none 0 0, Value.slice none 0 0, Value.slice none 0 0, Value.slice none 0 0, Value.slice none 0 0, Value.slice none 0 0, Value.slice none 0 0, Value.slice none 0 0, Value.slice none 0 0, Value.slice none 0 0, Value.slice none 0 0, Value.slice none 0 0, Value.slice none 0 0, Value.slice none 0 0, Value.slice none 0 0, Value.slice none 0 0, Value.slice none 0 0, Value.slice none 0 0, Value.slice none 0 0, Value.slice none 0 0, Value.slice none 0 0] = (rowV (fun _ => .slice none 0 0)).toArray := by kernel_rfl
theorem infoS : (Tryd.prog.info? 51).map (fun i => (i.zero, i.size, i.bytes)) = some (some (.agg #[.int .i64 0, .int .i64 0, .int .i64 0, .int .i64 0, .int .i64 0, .int .i64 0, .int .i64 0, .int .i64 0, .int .i64 0, .int .i64 0, .int .i64 0]), 11, 88) := by kernel_rfl
theorem over_all (L M : List Value) (h : M.length = L.length) : over L 0 M = M := by
  unfold over
  rw [List.take_zero, Nat.zero_add, h, List.drop_length, List.nil_append, List.append_nil]
theorem slice_form {W : World} {base : Nat} {ok : Nat → Prop} {v : Value} {xs : List S51} (h : Kd.R k51 51 W base ok v xs) : ∃ A n c, v = .slice A n c := by
  obtain ⟨A, c, e⟩ := Kd.R_slice h
  exact ⟨A, _, c, e⟩
theorem slice_cells {W : World} {base : Nat} {ok : Nat → Prop} {v u : Value} {xs : List S51} (h : Kd.R k51 51 W base ok v xs) (e : v = u) : u.cells.toList = [u] := by
  obtain ⟨A, n, c, rfl⟩ := slice_form h
  subst e
  rfl
theorem slice_one {W : World} {base : Nat} {ok : Nat → Prop} {v u : Value} {xs : List S51} (h : Kd.R k51 51 W base ok v xs) (e : v = u) : ∀ q ∈ [u], q.oneCell' = true := by
  obtain ⟨A, n, c, rfl⟩ := slice_form h
  subst e
  intro q hq
  rw [List.mem_singleton] at hq
  subst hq
  rfl
theorem rowV_one {W : World} {base : Nat} {V : Nat → Value} {bs : Nat → List S51} (h : Bk W base V bs) : ∀ q ∈ rowV V, q.oneCell' = true := by
  intro q hq
  unfold rowV at hq
  obtain ⟨s, hs, rfl⟩ := List.mem_map.mp hq
  obtain ⟨A, n, c, e⟩ := slice_form (h.row s (List.mem_range.mp hs))
  rw [e]
  rfl
theorem below_of2 {w W W1 : World} {b2 : Nat} {r : Option Nat} (h : Below w.heap.size w W) (h2 : Below b2 w W1) (hle : b2 ≤ W.heap.size) (hg : W.drew.grownBy W1 r) (hr : ∀ k, r = some k → w.heap.size ≤ k) : Below w.heap.size w W1 :=
  pw_below_grown (below_drew1 h) _ h.size hg hr
def sorted.T6 : Bool × List (List Nat × List Nat) := (true, [([], []), ([0], [0]), ([], []), ([2], [2]), ([3], [3]), ([4], [4]), ([], []), ([6], [6]), ([5, 7], [5, 7]), ([1, 0, 1, 2, 3, 4, 5, 6, 7, 8], [1]), ([9, 8, 8, 0, 1, 2, 3, 4, 5, 6, 7, 8], [8, 9])])
def sorted.B6 : List Nat := [0, 1, 0, 4, 12, 28, 0, 64, 252, 511, 1023]
theorem sorted.tab6 : rtab .any (opsOf Tryd.f50 6) = sorted.T6 := by kernel_rfl
theorem sorted.bits6 : waitsOk sorted.T6.2 sorted.B6 = true := by kernel_rfl
/-- What sorted hands back: sixty-four rows that can be read. -/
def SortedPost (l : List S51) (t : Int) (w : World) (e : Ending) (w' : World) : Prop := ∃ V : Nat → Value, e = .returned (.agg (rowV V).toArray) ∧ (∀ s, s < 64 → ∃ A n c, V s = .slice A n c ∧ n = (bucket l t s).length ∧ n ≤ c ∧ Kd.C k51 w' A (bucket l t s).length (bucket l t s)) ∧ Below w.heap.size w w'
set_option maxHeartbeats 16000000 in
set_option maxRecDepth 100000 in
theorem sorted.calls (A0 : Option Addr) (c0 : Nat) (l : List S51) (t : Int) (w : World) (hr0 : Kd.C k51 w A0 l.length l) (hc0 : l.length ≤ c0) (hlim : l.length < 1599289640401) (hS : ∀ x ∈ l, slotB x = true → 0 ≤ x.f6 ∧ x.f6 < 64) :
    Calls Tryd.prog 50 #[.slice A0 l.length c0, .int .i64 t] w (SortedPost l t w) := by
  have hu := Tryd.underlying51
  have HC := Aside0.mk hr0
  have HLM := Aside0.mk hlim
  have HSL := Aside0.mk hS
  clear hr0 hlim hS hc0
  go_enter Tryd.func50, Tryd.ntmps50
  go_wp2_with (fail)
  rw [zero_rows]
  obtain ⟨W0, hW0⟩ : ∃ W0, W0 = (w.alloc (.cells (rowV (fun _ => .slice none 0 0)).toArray 90)).alloc (.cells (rowV (fun _ => .slice none 0 0)).toArray 90) := ⟨_, rfl⟩
  rw [← hW0]
  have HZ0 : Aside0 (BlkIs W0 w.heap.size 90 (rowV (fun _ => .slice none 0 0))) := ⟨by rw [hW0]; exact BlkIs.alloc (heap_alloc_new w _) _⟩
  have HV0 : Aside0 (BlkIs W0 (w.heap.size + 1) 90 (rowV (fun _ => .slice none 0 0))) := ⟨by
    rw [hW0]
    have := heap_alloc_new (w.alloc (.cells (rowV (fun _ => .slice none 0 0)).toArray 90)) (.cells (rowV (fun _ => .slice none 0 0)).toArray 90)
    rwa [World.size_alloc] at this⟩
  have HB0 : Aside0 (Below w.heap.size w W0) := ⟨by rw [hW0]; exact below_alloc (below_alloc (Below.refl _ _) _) _⟩
  have HK0 : Aside0 (Bk W0 (w.heap.size + 2) (fun _ => .slice none 0 0) (fun s => bucket (l.take 0) t s)) := ⟨⟨fun s _ => by
    have : bucket (l.take 0) t s = [] := rfl
    rw [this]
    exact Kd.R_nil _ _ _ _ _, fun s t _ _ _ => .inl rfl⟩⟩
  clear hW0
  go_loopg [10] l.length (fun kq v10 w' => ∃ (i : Nat) (V : Nat → Value), v10 = .int .i64 i ∧ Aside0 (i + kq = l.length) ∧ Aside0 (BlkIs w' w.heap.size 90 (rowV (fun _ => .slice none 0 0))) ∧ Aside0 (BlkIs w' (w.heap.size + 1) 90 (rowV V)) ∧ Aside0 (Bk w' (w.heap.size + 2) V (fun s => bucket (l.take i) t s)) ∧ Aside0 (Below w.heap.size w w'))
  case atStart => exact ⟨0, _, rfl, ⟨by omega⟩, HZ0, HV0, HK0, HB0⟩
  case round =>
    clear HZ0 HV0 HK0 HB0
    obtain ⟨i, V, rfl, HI, HZ, HV, HK, HB⟩ := hrel
    cases gk with
    | zero =>
      have c4b0 : decide ((i : Int) < (l.length : Int)) = false := decide_eq_false (by have := HI.out; omega)
      have c4b1 : decide (i < l.length) = false := decide_eq_false (by have := HI.out; omega)
      have hil : i = l.length := by have := HI.out; omega
      have HIL := Aside0.mk hil
      clear hil
      go_wp2_with (first | ((with_reducible refine gate_ (.load 90 (.tmp 5)) rfl ?_); refine blk_load rfl 90 (.tmp 5) rfl HV.out rfl _ Tryd.underlying90 rfl (by rw [rowV_len]; kernel_rfl) ?_) | ((with_reducible refine gate_ (.store 90 (.tmp 4) (.tmp 33)) rfl ?_); refine blk_store rfl rfl 90 (.tmp 4) (.tmp 33) rfl HZ.out 0 (.agg (rowV V).toArray) (rowV V) (rowV V) ⟨_, rfl, rfl⟩ rfl rfl (by rw [rowV_len]; kernel_rfl) (by rw [rowV_len, rowV_len]; omega) ?h1 ?hE ?_; (case h1 => exact rowV_one HK.out); (case hE => exact over_all _ _ (by rw [rowV_len, rowV_len])); intro w1 HZ1 HG1))
      refine bodyPost_ret (results_cell rfl _ rfl HZ1.out _ Tryd.underlying90 rfl (by rw [rowV_len]; kernel_rfl)) rfl ?_
      refine ⟨V, rfl, fun s hs => ?_, ?_⟩
      · have h1 := (HK.out.far HG1.out (by omega)).row s hs
        obtain ⟨A, c, e1, hc1, hC⟩ := Kd.R_reads h1
        have e2 : bucket (l.take i) t s = bucket l t s := by rw [HIL.out, List.take_length]
        rw [← e2]
        exact ⟨A, _, c, e1, rfl, hc1, hC⟩
      · exact pw_below_grown HB.out _ HB.out.size HG1.out (by intro k hk; injection hk with hk; omega)
    | succ k1 =>
      have hil : i < l.length := by have := HI.out; omega
      have c4b0 : decide ((i : Int) < (l.length : Int)) = true := decide_eq_true (by omega)
      have c4b1 : decide (i < l.length) = true := decide_eq_true hil
      have hi64 : (i : Int) ≤ 9223372036854775806 := by have := HLM.out; omega
      have p1 : 0 ≤ (i : Int) := by omega
      have q1 : (i : Int) < (l.length : Int) := by omega
      obtain ⟨ad, e1, hx0, hx1, hx2, hx3, hx4, hx5, hx6, hx7, hx8, hx9, hx10⟩ := at_T51 HC.out i p1 q1
      cases e1
      replace hx0 := (HB.out.cell (World.block_lt_of_cell? w _ hx0)).trans hx0
      replace hx1 := (HB.out.cell (World.block_lt_of_cell? w _ hx1)).trans hx1
      replace hx2 := (HB.out.cell (World.block_lt_of_cell? w _ hx2)).trans hx2
      replace hx3 := (HB.out.cell (World.block_lt_of_cell? w _ hx3)).trans hx3
      replace hx4 := (HB.out.cell (World.block_lt_of_cell? w _ hx4)).trans hx4
      replace hx5 := (HB.out.cell (World.block_lt_of_cell? w _ hx5)).trans hx5
      replace hx6 := (HB.out.cell (World.block_lt_of_cell? w _ hx6)).trans hx6
      replace hx7 := (HB.out.cell (World.block_lt_of_cell? w _ hx7)).trans hx7
      replace hx8 := (HB.out.cell (World.block_lt_of_cell? w _ hx8)).trans hx8
      replace hx9 := (HB.out.cell (World.block_lt_of_cell? w _ hx9)).trans hx9
      replace hx10 := (HB.out.cell (World.block_lt_of_cell? w _ hx10)).trans hx10
      rw [Int.toNat_natCast] at hx0 hx1 hx2 hx3 hx4 hx5 hx6 hx7 hx8 hx9 hx10
      obtain ⟨x, hxe⟩ : ∃ x, x = rd_T51 l (i : Int) := ⟨_, rfl⟩
      rw [← hxe] at hx0 hx1 hx2 hx3 hx4 hx5 hx6 hx7 hx8 hx9 hx10
      have EL : Aside0 (l[i] = x) := ⟨by rw [hxe]; unfold rd_T51; rw [Int.toNat_natCast, List.getD_eq_getElem?_getD, List.getElem?_eq_getElem hil]; rfl⟩
      clear hxe
      have hHN := heap_alloc_new wr (.cells #[.int .i64 x.f0, .int .i64 x.f1, .int .i64 x.f2, .int .i64 x.f3, .int .i64 x.f4, .int .i64 x.f5, .int .i64 x.f6, .int .i64 x.f7, .int .i64 x.f8, .int .i64 x.f9, .int .i64 x.f10] 51)
      have hHZ := HZ.out.alloc (.cells #[.int .i64 x.f0, .int .i64 x.f1, .int .i64 x.f2, .int .i64 x.f3, .int .i64 x.f4, .int .i64 x.f5, .int .i64 x.f6, .int .i64 x.f7, .int .i64 x.f8, .int .i64 x.f9, .int .i64 x.f10] 51)
      have hHV := HV.out.alloc (.cells #[.int .i64 x.f0, .int .i64 x.f1, .int .i64 x.f2, .int .i64 x.f3, .int .i64 x.f4, .int .i64 x.f5, .int .i64 x.f6, .int .i64 x.f7, .int .i64 x.f8, .int .i64 x.f9, .int .i64 x.f10] 51)
      have hHK := HK.out.below (below_alloc (Below.refl _ _) (.cells #[.int .i64 x.f0, .int .i64 x.f1, .int .i64 x.f2, .int .i64 x.f3, .int .i64 x.f4, .int .i64 x.f5, .int .i64 x.f6, .int .i64 x.f7, .int .i64 x.f8, .int .i64 x.f9, .int .i64 x.f10] 51))
      have hHB := below_alloc HB.out (.cells #[.int .i64 x.f0, .int .i64 x.f1, .int .i64 x.f2, .int .i64 x.f3, .int .i64 x.f4, .int .i64 x.f5, .int .i64 x.f6, .int .i64 x.f7, .int .i64 x.f8, .int .i64 x.f9, .int .i64 x.f10] 51)
      have HNW : Aside0 (w.heap.size + 2 ≤ wr.heap.size) := ⟨by have := HV.out.lt; omega⟩
      have HOW : Aside0 (∀ s, s < 64 → ∀ k, (V s).ownBlock = some k → k < wr.heap.size) := ⟨fun s hs k hk => Kd.R_lt (HK.out.row s hs) k hk⟩
      go_upto_region 5 with (fail)
      generalize wr.alloc (.cells #[.int .i64 x.f0, .int .i64 x.f1, .int .i64 x.f2, .int .i64 x.f3, .int .i64 x.f4, .int .i64 x.f5, .int .i64 x.f6, .int .i64 x.f7, .int .i64 x.f8, .int .i64 x.f9, .int .i64 x.f10] 51) = w1 at hHN hHZ hHV hHK hHB ⊢
      have HN1 : Aside0 (BlkIs w1 wr.heap.size 51 [.int .i64 x.f0, .int .i64 x.f1, .int .i64 x.f2, .int .i64 x.f3, .int .i64 x.f4, .int .i64 x.f5, .int .i64 x.f6, .int .i64 x.f7, .int .i64 x.f8, .int .i64 x.f9, .int .i64 x.f10]) := ⟨hHN⟩
      have HZ1 := Aside0.mk hHZ
      have HV1 := Aside0.mk hHV
      have HK1 := Aside0.mk hHK
      have HB1 := Aside0.mk hHB
      clear hHN hHZ hHV hHK hHB hx0 hx1 hx2 hx3 hx4 hx5 hx6 hx7 hx8 hx9 hx10 HZ HV HK HB
      have x0_1 : w1.cell? ⟨wr.heap.size, 0, none⟩ = some (.int .i64 x.f0) := HN1.out.at_ 0
      have x1_1 : w1.cell? ⟨wr.heap.size, 1, none⟩ = some (.int .i64 x.f1) := HN1.out.at_ 1
      have x2_1 : w1.cell? ⟨wr.heap.size, 2, none⟩ = some (.int .i64 x.f2) := HN1.out.at_ 2
      have x3_1 : w1.cell? ⟨wr.heap.size, 3, none⟩ = some (.int .i64 x.f3) := HN1.out.at_ 3
      have x4_1 : w1.cell? ⟨wr.heap.size, 4, none⟩ = some (.int .i64 x.f4) := HN1.out.at_ 4
      have x5_1 : w1.cell? ⟨wr.heap.size, 5, none⟩ = some (.int .i64 x.f5) := HN1.out.at_ 5
      have x6_1 : w1.cell? ⟨wr.heap.size, 6, none⟩ = some (.int .i64 x.f6) := HN1.out.at_ 6
      have x7_1 : w1.cell? ⟨wr.heap.size, 7, none⟩ = some (.int .i64 x.f7) := HN1.out.at_ 7
      have x8_1 : w1.cell? ⟨wr.heap.size, 8, none⟩ = some (.int .i64 x.f8) := HN1.out.at_ 8
      have x9_1 : w1.cell? ⟨wr.heap.size, 9, none⟩ = some (.int .i64 x.f9) := HN1.out.at_ 9
      have x10_1 : w1.cell? ⟨wr.heap.size, 10, none⟩ = some (.int .i64 x.f10) := HN1.out.at_ 10
      cases hs : slotB x with
      | false =>
        have HSB := Aside0.mk hs
        have HWB : Aside0 (wantB t x = false) := ⟨by unfold wantB; rw [hs]; rfl⟩
        clear hs
        go_wp2_with (go_at_call 54; (with_reducible refine (lease_slotted.calls x.f0 x.f1 x.f2 x.f3 x.f4 x.f5 x.f6 x.f7 x.f8 x.f9 x.f10 false _ (by rw [slotted_is]; exact congrArg some HSB.out)).mono ?_); rintro e w3 ⟨rfl, hb3⟩; have HN3 := Aside0.mk (HN1.out.below hb3); have HZ3 := Aside0.mk (HZ1.out.below hb3); have HV3 := Aside0.mk (HV1.out.below hb3); have HK3 := Aside0.mk (HK1.out.below hb3); have HB3 := Aside0.mk (below_step HB1.out hb3); clear hb3; have x0_3 : w3.cell? ⟨wr.heap.size, 0, none⟩ = some (.int .i64 x.f0) := HN3.out.at_ 0; have x1_3 : w3.cell? ⟨wr.heap.size, 1, none⟩ = some (.int .i64 x.f1) := HN3.out.at_ 1; have x2_3 : w3.cell? ⟨wr.heap.size, 2, none⟩ = some (.int .i64 x.f2) := HN3.out.at_ 2; have x3_3 : w3.cell? ⟨wr.heap.size, 3, none⟩ = some (.int .i64 x.f3) := HN3.out.at_ 3; have x4_3 : w3.cell? ⟨wr.heap.size, 4, none⟩ = some (.int .i64 x.f4) := HN3.out.at_ 4; have x5_3 : w3.cell? ⟨wr.heap.size, 5, none⟩ = some (.int .i64 x.f5) := HN3.out.at_ 5; have x6_3 : w3.cell? ⟨wr.heap.size, 6, none⟩ = some (.int .i64 x.f6) := HN3.out.at_ 6; have x7_3 : w3.cell? ⟨wr.heap.size, 7, none⟩ = some (.int .i64 x.f7) := HN3.out.at_ 7; have x8_3 : w3.cell? ⟨wr.heap.size, 8, none⟩ = some (.int .i64 x.f8) := HN3.out.at_ 8; have x9_3 : w3.cell? ⟨wr.heap.size, 9, none⟩ = some (.int .i64 x.f9) := HN3.out.at_ 9; have x10_3 : w3.cell? ⟨wr.heap.size, 10, none⟩ = some (.int .i64 x.f10) := HN3.out.at_ 10)
        have HKN : Aside0 (Bk w3 (w.heap.size + 2) V (fun s => bucket (l.take (i + 1)) t s)) := ⟨by rw [show (fun s => bucket (l.take (i + 1)) t s) = (fun s => bucket (l.take i) t s) from funext (fun s => bucket_no hil EL.out HWB.out s)]; exact HK3.out⟩
        go_roundg k1
        case measure => omega
        case rel => exact ⟨i + 1, V, by simp, ⟨by have := HI.out; omega⟩, HZ3, HV3, HKN, HB3⟩
      | true =>
        have HSB := Aside0.mk hs
        cases ht : decide (x.f4 ≤ t) with
        | false =>
          have HWB : Aside0 (wantB t x = false) := ⟨by unfold wantB; rw [hs, ht]; rfl⟩
          clear hs
          go_wp2_with (go_at_call 54; (with_reducible refine (lease_slotted.calls x.f0 x.f1 x.f2 x.f3 x.f4 x.f5 x.f6 x.f7 x.f8 x.f9 x.f10 true _ (by rw [slotted_is]; exact congrArg some HSB.out)).mono ?_); rintro e w3 ⟨rfl, hb3⟩; have HN3 := Aside0.mk (HN1.out.below hb3); have HZ3 := Aside0.mk (HZ1.out.below hb3); have HV3 := Aside0.mk (HV1.out.below hb3); have HK3 := Aside0.mk (HK1.out.below hb3); have HB3 := Aside0.mk (below_step HB1.out hb3); clear hb3; have x0_3 : w3.cell? ⟨wr.heap.size, 0, none⟩ = some (.int .i64 x.f0) := HN3.out.at_ 0; have x1_3 : w3.cell? ⟨wr.heap.size, 1, none⟩ = some (.int .i64 x.f1) := HN3.out.at_ 1; have x2_3 : w3.cell? ⟨wr.heap.size, 2, none⟩ = some (.int .i64 x.f2) := HN3.out.at_ 2; have x3_3 : w3.cell? ⟨wr.heap.size, 3, none⟩ = some (.int .i64 x.f3) := HN3.out.at_ 3; have x4_3 : w3.cell? ⟨wr.heap.size, 4, none⟩ = some (.int .i64 x.f4) := HN3.out.at_ 4; have x5_3 : w3.cell? ⟨wr.heap.size, 5, none⟩ = some (.int .i64 x.f5) := HN3.out.at_ 5; have x6_3 : w3.cell? ⟨wr.heap.size, 6, none⟩ = some (.int .i64 x.f6) := HN3.out.at_ 6; have x7_3 : w3.cell? ⟨wr.heap.size, 7, none⟩ = some (.int .i64 x.f7) := HN3.out.at_ 7; have x8_3 : w3.cell? ⟨wr.heap.size, 8, none⟩ = some (.int .i64 x.f8) := HN3.out.at_ 8; have x9_3 : w3.cell? ⟨wr.heap.size, 9, none⟩ = some (.int .i64 x.f9) := HN3.out.at_ 9; have x10_3 : w3.cell? ⟨wr.heap.size, 10, none⟩ = some (.int .i64 x.f10) := HN3.out.at_ 10)
          have HKN : Aside0 (Bk w3 (w.heap.size + 2) V (fun s => bucket (l.take (i + 1)) t s)) := ⟨by rw [show (fun s => bucket (l.take (i + 1)) t s) = (fun s => bucket (l.take i) t s) from funext (fun s => bucket_no hil EL.out HWB.out s)]; exact HK3.out⟩
          go_roundg k1
          case measure => omega
          case rel => exact ⟨i + 1, V, by simp, ⟨by have := HI.out; omega⟩, HZ3, HV3, HKN, HB3⟩
        | true =>
          have HWB : Aside0 (wantB t x = true) := ⟨by unfold wantB; rw [hs, ht]; rfl⟩
          obtain ⟨f0, f64⟩ := HSL.out x (by rw [← EL.out]; exact List.getElem_mem hil) hs
          clear hs
          go_upto_region 6 with (go_at_call 54; (with_reducible refine (lease_slotted.calls x.f0 x.f1 x.f2 x.f3 x.f4 x.f5 x.f6 x.f7 x.f8 x.f9 x.f10 true _ (by rw [slotted_is]; exact congrArg some HSB.out)).mono ?_); rintro e w3 ⟨rfl, hb3⟩; have HN3 := Aside0.mk (HN1.out.below hb3); have HZ3 := Aside0.mk (HZ1.out.below hb3); have HV3 := Aside0.mk (HV1.out.below hb3); have HK3 := Aside0.mk (HK1.out.below hb3); have HB3 := Aside0.mk (below_step HB1.out hb3); clear hb3; have x0_3 : w3.cell? ⟨wr.heap.size, 0, none⟩ = some (.int .i64 x.f0) := HN3.out.at_ 0; have x1_3 : w3.cell? ⟨wr.heap.size, 1, none⟩ = some (.int .i64 x.f1) := HN3.out.at_ 1; have x2_3 : w3.cell? ⟨wr.heap.size, 2, none⟩ = some (.int .i64 x.f2) := HN3.out.at_ 2; have x3_3 : w3.cell? ⟨wr.heap.size, 3, none⟩ = some (.int .i64 x.f3) := HN3.out.at_ 3; have x4_3 : w3.cell? ⟨wr.heap.size, 4, none⟩ = some (.int .i64 x.f4) := HN3.out.at_ 4; have x5_3 : w3.cell? ⟨wr.heap.size, 5, none⟩ = some (.int .i64 x.f5) := HN3.out.at_ 5; have x6_3 : w3.cell? ⟨wr.heap.size, 6, none⟩ = some (.int .i64 x.f6) := HN3.out.at_ 6; have x7_3 : w3.cell? ⟨wr.heap.size, 7, none⟩ = some (.int .i64 x.f7) := HN3.out.at_ 7; have x8_3 : w3.cell? ⟨wr.heap.size, 8, none⟩ = some (.int .i64 x.f8) := HN3.out.at_ 8; have x9_3 : w3.cell? ⟨wr.heap.size, 9, none⟩ = some (.int .i64 x.f9) := HN3.out.at_ 9; have x10_3 : w3.cell? ⟨wr.heap.size, 10, none⟩ = some (.int .i64 x.f10) := HN3.out.at_ 10)
          have HKL : Aside0 (x.f6.toNat < 64) := ⟨by omega⟩
          obtain ⟨k, hk⟩ : ∃ k, k = x.f6.toNat := ⟨_, rfl⟩
          have HKE := Aside0.mk hk
          clear hk
          refine start_ (n := 11) (S := fun w' => w'.cell? ⟨wr.heap.size, 0, none⟩ = some (.int .i64 x.f0) ∧ w'.cell? ⟨wr.heap.size, 1, none⟩ = some (.int .i64 x.f1) ∧ w'.cell? ⟨wr.heap.size, 2, none⟩ = some (.int .i64 x.f2) ∧ w'.cell? ⟨wr.heap.size, 3, none⟩ = some (.int .i64 x.f3) ∧ w'.cell? ⟨wr.heap.size, 4, none⟩ = some (.int .i64 x.f4) ∧ w'.cell? ⟨wr.heap.size, 5, none⟩ = some (.int .i64 x.f5) ∧ w'.cell? ⟨wr.heap.size, 6, none⟩ = some (.int .i64 x.f6) ∧ w'.cell? ⟨wr.heap.size, 7, none⟩ = some (.int .i64 x.f7) ∧ w'.cell? ⟨wr.heap.size, 8, none⟩ = some (.int .i64 x.f8) ∧ w'.cell? ⟨wr.heap.size, 9, none⟩ = some (.int .i64 x.f9) ∧ w'.cell? ⟨wr.heap.size, 10, none⟩ = some (.int .i64 x.f10) ∧ w'.cell? ⟨w.heap.size + 1, x.f6.toNat, none⟩ = some (V x.f6.toNat)) (ds := [10]) (marksOf 11 0) (by kernel_rfl) rfl rfl ⟨HN3.out.drew.at_ 0, HN3.out.drew.at_ 1, HN3.out.drew.at_ 2, HN3.out.drew.at_ 3, HN3.out.drew.at_ 4, HN3.out.drew.at_ 5, HN3.out.drew.at_ 6, HN3.out.drew.at_ 7, HN3.out.drew.at_ 8, HN3.out.drew.at_ 9, HN3.out.drew.at_ 10, (HV3.out.drew.at_ _).trans (rowV_get V _ HKL.out)⟩ (fun hHeld => ?_)
          refine with_tabW sorted.tab6 sorted.bits6 (fun HT_ HW_ => ?_)
          have HN4 := Aside0.mk HN3.out.drew
          have HZ4 := Aside0.mk HZ3.out.drew
          have HV4 := Aside0.mk HV3.out.drew
          have HB4 := Aside0.mk (below_drew1 HB3.out)
          have HK4 := Aside0.mk (HK3.out.below (below_drew1 (Below.refl _ _)))
          generalize w3.drew = w4 at HN4 HZ4 HV4 HB4 HK4 hHeld ⊢
          refine pu_ 0 22 11 1 ?_ rfl rfl (any_of HT_.out (by kernel_rfl)) (fun _ _ _ h => h) (by rfl) ?_ ?_ ?_ ?_
          rotate_left
          · intro w'
            go_simp
            with_reducible rfl
          rotate_left
          · simp only [Act.put, List.setIfInBounds_toArray, List.set_cons_zero, List.set_cons_succ, q1, q2, q3, i64_w, i32_w]
            rfl
          refine ta_ 1 23 11 3 ?_ rfl rfl (take_ofW HT_.out HW_.out (by kernel_rfl)) (fun _ _ _ h => h) (by rfl) ?_ hHeld ?_ ?_ ?_
          rotate_left
          · rintro w' ⟨s0, s1, s2, s3, s4, s5, s6, s7, s8, s9, s10, s11⟩
            go_simp
            with_reducible rfl
          rotate_left
          · simp only [Act.put, List.setIfInBounds_toArray, List.set_cons_zero, List.set_cons_succ, q1, q2, q3, i64_w, i32_w]
            rfl
          refine pu_ 2 24 11 7 ?_ rfl rfl (any_of HT_.out (by kernel_rfl)) (fun _ _ _ h => h) (by rfl) ?_ ?_ ?_ ?_
          rotate_left
          · intro w'
            go_simp
            with_reducible rfl
          rotate_left
          · simp only [Act.put, List.setIfInBounds_toArray, List.set_cons_zero, List.set_cons_succ, q1, q2, q3, i64_w, i32_w]
            rfl
          refine ta_ 3 25 11 15 ?_ rfl rfl (take_ofW HT_.out HW_.out (by kernel_rfl)) (fun _ _ _ h => h) (by rfl) ?_ hHeld ?_ ?_ ?_
          rotate_left
          · rintro w' ⟨s0, s1, s2, s3, s4, s5, s6, s7, s8, s9, s10, s11⟩
            go_simp
            with_reducible rfl
          rotate_left
          · simp only [Act.put, List.setIfInBounds_toArray, List.set_cons_zero, List.set_cons_succ, q1, q2, q3, i64_w, i32_w]
            rfl
          refine pu_ 4 26 11 31 ?_ rfl rfl (any_of HT_.out (by kernel_rfl)) (fun _ _ _ h => h) (by rfl) ?_ ?_ ?_ ?_
          rotate_left
          · intro w'
            go_simp
            with_reducible rfl
          rotate_left
          · simp only [Act.put, List.setIfInBounds_toArray, List.set_cons_zero, List.set_cons_succ, q1, q2, q3, i64_w, i32_w]
            rfl
          refine ta_ 5 27 11 63 ?_ rfl rfl (take_ofW HT_.out HW_.out (by kernel_rfl)) (fun _ _ _ h => h) (by rfl) ?_ hHeld ?_ ?_ ?_
          rotate_left
          · rintro w' ⟨s0, s1, s2, s3, s4, s5, s6, s7, s8, s9, s10, s11⟩
            go_simp
            with_reducible rfl
          rotate_left
          · simp only [Act.put, List.setIfInBounds_toArray, List.set_cons_zero, List.set_cons_succ, q1, q2, q3, i64_w, i32_w]
            rfl
          refine ta_ 6 28 11 127 ?_ rfl rfl (take_ofW HT_.out HW_.out (by kernel_rfl)) (fun _ _ _ h => h) (by rfl) ?_ hHeld ?_ ?_ ?_
          rotate_left
          · rintro w' ⟨s0, s1, s2, s3, s4, s5, s6, s7, s8, s9, s10, s11⟩
            go_simp
            with_reducible rfl
          rotate_left
          · simp only [Act.put, List.setIfInBounds_toArray, List.set_cons_zero, List.set_cons_succ, q1, q2, q3, i64_w, i32_w]
            rfl
          refine one_ (i := 7) (N := some 29) (marksOf 11 255) rfl rfl (one_of HT_.out (by kernel_rfl)) (by decide) (fun K hK => ?_)
          refine value_ (w1 := ?_) (v := ?_) (by rfl) rfl ?_ ?_
          rotate_left 2
          · go_simp
            constructor
            · rfl
            · rfl
          refine hK.out _ _ ⟨(HN4.out.alloc _).at_ 0, (HN4.out.alloc _).at_ 1, (HN4.out.alloc _).at_ 2, (HN4.out.alloc _).at_ 3, (HN4.out.alloc _).at_ 4, (HN4.out.alloc _).at_ 5, (HN4.out.alloc _).at_ 6, (HN4.out.alloc _).at_ 7, (HN4.out.alloc _).at_ 8, (HN4.out.alloc _).at_ 9, (HN4.out.alloc _).at_ 10, ((HV4.out.alloc _).at_ _).trans (rowV_get V _ HKL.out)⟩ (fun hHeld => ?_)
          clear hK K
          refine norm_ (a' := ?_) ?_ ?_
          rotate_left
          · show Act.put _ (some 29) _ = _
            simp only [Act.put, List.setIfInBounds_toArray, List.set_cons_zero, List.set_cons_succ, q1, q2, q3, i64_w, i32_w]
            rfl
          refine one_ (i := 8) (N := some 30) (marksOf 11 511) rfl rfl (one_of HT_.out (by kernel_rfl)) (by decide) (fun K hK => ?_)
          refine Kd.R_append_step k51 (w0 := w4) (w.heap.size + 2) (by rfl) (.tmp 27) (.tmp 29) 27 51 (.agg #[.int .i64 0, .int .i64 0, .int .i64 0, .int .i64 0, .int .i64 0, .int .i64 0, .int .i64 0, .int .i64 0, .int .i64 0, .int .i64 0, .int .i64 0]) 88 rfl Tryd.underlying27 infoS rfl (by decide) (by omega) (V x.f6.toNat) (bucket (l.take i) t x.f6.toNat) x [.int .i64 x.f0, .int .i64 x.f1, .int .i64 x.f2, .int .i64 x.f3, .int .i64 x.f4, .int .i64 x.f5, .int .i64 x.f6, .int .i64 x.f7, .int .i64 x.f8, .int .i64 x.f9, .int .i64 x.f10] (fun _ => True) (fun _ => False) rfl rfl ?aP (fun _ hk => hk.elim) ?aF ?aO ?aB ?aS ?aL ?_
          case aP => exact k51_mkM _ _ _ x
          case aF => exact fun _ _ => trivial
          case aO => exact Kd.R_mono (HK4.out.row _ HKL.out) (fun _ _ => trivial)
          case aB => exact Below.refl _ _
          case aS => have := HV4.out.lt; omega
          case aL => have := bucket_len l t i x.f6.toNat; have := HLM.out; omega
          intro v1 w5 ho hb5 hg5 hat5
          have hne5 : ∀ g, g < w.heap.size + 2 ∨ g = wr.heap.size → some g ≠ (V x.f6.toNat).ownBlock := by
            intro g hg e
            have h1 := Kd.R_base (HK3.out.row _ HKL.out) g e.symm
            have h2 := HOW.out _ HKL.out g e.symm
            omega
          have HN5 := Aside0.mk (HN4.out.grown hg5 (hne5 _ (.inr rfl)))
          have HZ5 := Aside0.mk (HZ4.out.grown hg5 (hne5 _ (.inl (by omega))))
          have HV5 := Aside0.mk (HV4.out.grown hg5 (hne5 _ (.inl (by omega))))
          have HK5 : Aside0 (Bk w5 (w.heap.size + 2) (updV V x.f6.toNat v1) (fun s => if s = x.f6.toNat then bucket (l.take i) t x.f6.toNat ++ [x] else bucket (l.take i) t s)) := ⟨Bk.put HKL.out HK4.out hg5 ho hat5⟩
          have HB5 : Aside0 (Below w.heap.size w w5) := ⟨pw_below_grown HB4.out _ HB4.out.size hg5 (fun k hk => by have := Kd.R_base (HK3.out.row _ HKL.out) k hk; omega)⟩
          clear ho hb5 hg5 hat5 hne5
          refine hK.out _ _ ⟨HN5.out.at_ 0, HN5.out.at_ 1, HN5.out.at_ 2, HN5.out.at_ 3, HN5.out.at_ 4, HN5.out.at_ 5, HN5.out.at_ 6, HN5.out.at_ 7, HN5.out.at_ 8, HN5.out.at_ 9, HN5.out.at_ 10, (HV5.out.at_ _).trans (rowV_get V _ HKL.out)⟩ (fun hHeld => ?_)
          clear hK K
          refine norm_ (a' := ?_) ?_ ?_
          rotate_left
          · show Act.put _ (some 30) _ = _
            simp only [Act.put, List.setIfInBounds_toArray, List.set_cons_zero, List.set_cons_succ, q1, q2, q3, i64_w, i32_w]
            rfl
          refine pu_ 9 31 11 1023 ?_ rfl rfl (any_of HT_.out (by kernel_rfl)) (fun _ _ _ h => h) (by rfl) ?_ ?_ ?_ ?_
          rotate_left
          · intro w'
            go_simp
            with_reducible rfl
          rotate_left
          · simp only [Act.put, List.setIfInBounds_toArray, List.set_cons_zero, List.set_cons_succ, q1, q2, q3, i64_w, i32_w]
            rfl
          refine last_ (i := 10) (N := none) (marksOf 11 2047) rfl rfl (one_of HT_.out (by kernel_rfl)) (by decide) (fun K hK => ?_)
          refine blk_store_step ?hw ?hN 27 (.tmp 31) (.tmp 30) ?ho HV5.out x.f6.toNat v1 [v1] (rowV (updV V x.f6.toNat v1)) ?ha ?hx ?hu ?ht ?hf ?h1 ?hE ?_
          case hw => rfl
          case hN => rfl
          case ho => rfl
          case ha => exact ⟨_, rfl, rfl⟩
          case hx => rfl
          case hu => exact slice_cells (HK5.out.row _ HKL.out) (by simp [updV])
          case ht => kernel_rfl
          case hf => rw [rowV_len]; have := HKL.out; show x.f6.toNat + 1 ≤ 64; omega
          case h1 => exact slice_one (HK5.out.row _ HKL.out) (by simp [updV])
          case hE => rw [over_one _ _ _ (by rw [rowV_len]; exact HKL.out), rowV_set]
          intro w6 HV6 hg6
          have HZ6 := Aside0.mk (HZ5.out.grown hg6.out (fun e => by injection e with e; omega))
          have HK6 := Aside0.mk (HK5.out.far hg6.out (by omega))
          have HB6 : Aside0 (Below w.heap.size w w6) := ⟨pw_below_grown HB5.out _ HB5.out.size hg6.out (by intro k hk; injection hk with hk; omega)⟩
          clear hg6
          refine hK.out _ _ ?_
          refine done_ (done_of HT_.out (by kernel_rfl)) ?_
          have HKN : Aside0 (Bk w6 (w.heap.size + 2) (updV V x.f6.toNat v1) (fun s => bucket (l.take (i + 1)) t s)) := ⟨by rw [show (fun s => bucket (l.take (i + 1)) t s) = (fun s => if s = x.f6.toNat then bucket (l.take i) t x.f6.toNat ++ [x] else bucket (l.take i) t s) from funext (fun s => bucket_yes hil EL.out HWB.out s)]; exact HK6.out⟩
          go_wp2
          go_roundg k1
          case measure => omega
          case rel => exact ⟨i + 1, _, by simp, ⟨by have := HI.out; omega⟩, HZ6, HV6, HKN, HB6⟩
end
section
-- BY HAND, AS IT STANDS
attribute [local go_sem ↓] some_setCell
def Le.rec_ (s : Le) : S41 := ⟨s.o, s.k, s.s, s.h, s.z, s.fr, s.un, s.rc⟩
def lastS (l : List S51) : Sl := l.foldl Sl.takeS zSl
def inForce (l : List S51) (t : Int) (s : Nat) : List S41 := if (lastS (bucket l t s)).inB t = true then [(lastS (bucket l t s)).l.rec_] else []
def leasesL (l : List S51) (t : Int) (k : Nat) : List S41 := (List.range k).flatMap (inForce l t)
def lease_Leases.f (l : List S51) (t : Int) : Option (List S41 × Int) :=
  if 1599289640401 ≤ l.length then none
  else if rightI l l.length 0 (List.replicate 64 zSl) ≠ 0 then some ([], rightI l l.length 0 (List.replicate 64 zSl))
  else if t < 0 ∨ 1048576 < t then some ([], 1)
  else some (leasesL l t 64, 0)
theorem leasesL_succ (l : List S51) (t : Int) (i : Nat) : leasesL l t (i + 1) = leasesL l t i ++ inForce l t i := by
  unfold leasesL
  rw [List.range_succ, List.flatMap_append]
  simp
theorem leasesL_len (l : List S51) (t : Int) (i : Nat) : (leasesL l t i).length ≤ i := by
  induction i with
  | zero => simp [leasesL]
  | succ i ih =>
    rw [leasesL_succ, List.length_append]
    have : (inForce l t i).length ≤ 1 := by
      unfold inForce
      split <;> simp
    omega
theorem lastS_succ {L : List S51} {j : Nat} {x : S51} (hj : j < L.length) (hx : L[j] = x) : lastS (L.take (j + 1)) = (lastS (L.take j)).takeS x := by
  unfold lastS
  rw [List.take_succ_eq_append_getElem hj, List.foldl_append, hx]
  rfl
theorem take0 (b : Nat) (s : Sl) (x : S51) (W : World) (hB : BlkIs W b 93 s.enc) : Calls Tryd.prog 51 #[.pointer (some ⟨b, 0, none⟩), .agg #[.int .i64 x.f0, .int .i64 x.f1, .int .i64 x.f2, .int .i64 x.f3, .int .i64 x.f4, .int .i64 x.f5, .int .i64 x.f6, .int .i64 x.f7, .int .i64 x.f8, .int .i64 x.f9, .int .i64 x.f10]] W fun e w' => e = .returned (.tuple #[]) ∧ Aside0 (BlkIs w' b 93 (s.takeS x).enc) ∧ Aside0 (W.grownBy w' (some b)) :=
  (slot_take.calls b 93 [] [] s x W hB).mono fun e w' ⟨he, h1, h2⟩ => ⟨he, ⟨h1⟩, ⟨h2⟩⟩
theorem in0 (b : Nat) (s : Sl) (t : Int) (W : World) (hB : BlkIs W b 93 s.enc) (r : Bool) (h : s.inB t = r) : Calls Tryd.prog 52 #[.pointer (some ⟨b, 0, none⟩), .int .i64 t] W fun e w' => e = .returned (.bool r) ∧ w' = W := by
  subst h
  exact slot_in.calls b 0 s t W (fun j v hj => by rw [hB.at_, Nat.zero_add]; exact hj)
theorem index_list {P : Program} {ops : Array Oper} {rest : List Oper} {o : Oper} {a : Act} {Q : Exit → Act → World → Prop} {W : World} {L : List Value} (hgd : o.guard = none) (ty e : TypeId) (q y : Operand) (ho : o.op = .index ty q y) (n k : Nat) (v : Value) (hq : a.eval q = .agg L.toArray) (hy : a.eval y = .int .i64 (k : Int))
    (hu : P.underlying ty = some (.array n e)) (hk : k < n) (hv : L[k]? = some v) (d : TypeDesc) (he : P.underlying e = some d) (hd : (match d with | .struct _ => true | .array _ _ => true | _ => false) = false) (hi : (P.info? e).map (·.size) = some 1)
    (h : wpList P ops Q rest (a.put o.dst v) W) : wpList P ops Q (o :: rest) a W := by
  have hr := index_run (P := P) (W := W) ty e n k v hu hk hv d he hd hi
  refine wpList_plain hgd fun K hK => ?_
  unfold Oper.wp execOp
  simp only [ho, hq, hy, Sem.run_bind, Sem.run_pure, Result.andThen_ok, hr]
  exact hK _ _ h
theorem infoL : (Tryd.prog.info? 41).map (fun i => (i.zero, i.size, i.bytes)) = some (some (.agg #[.int .i64 0, .int .i64 0, .int .i64 0, .int .i64 0, .int .i64 0, .int .i64 0, .int .i64 0, .bool false]), 8, 64) := by kernel_rfl
theorem right_ok {l : List S51} : ∀ (d i : Nat) (ss : List Sl), rightI l d i ss = 0 → ∀ j : Nat, i ≤ j → j < i + d → validB (rd_T51 l j) = true
  | 0, i, ss, _, j, h1, h2 => by omega
  | d + 1, i, ss, h, j, h1, h2 => by
    rw [rightI] at h
    split at h
    · cases h
    · rename_i hv
      split at h
      · cases h
      · split at h
        · cases h
        · by_cases e : j = i
          · subst e
            exact Bool.not_eq_false _ ▸ hv
          · split at h
            · exact right_ok d (i + 1) _ h j (by omega) (by omega)
            · split at h
              · cases h
              · exact right_ok d (i + 1) _ h j (by omega) (by omega)
theorem right_slots {l : List S51} (h : rightI l l.length 0 (List.replicate 64 zSl) = 0) : ∀ x ∈ l, slotB x = true → 0 ≤ x.f6 ∧ x.f6 < 64 := by
  intro x hx hs
  obtain ⟨j, hj, rfl⟩ := List.getElem_of_mem hx
  have h1 := right_ok l.length 0 _ h j (Nat.zero_le _) (by omega)
  have h2 : rd_T51 l (j : Int) = l[j] := by
    unfold rd_T51
    rw [Int.toNat_natCast, List.getD_eq_getElem?_getD, List.getElem?_eq_getElem hj]
    rfl
  rw [h2] at h1
  exact slot_rng h1 hs
theorem flat41 : Flat k41 (fun (x : S41) => [.int .i64 x.f0, .int .i64 x.f1, .int .i64 x.f2, .int .i64 x.f3, .int .i64 x.f4, .int .i64 x.f5, .int .i64 x.f6, .bool x.f7]) := ⟨fun _ => rfl, fun h => k41_openM h, fun w base ok x => k41_mkM w base ok x, by decide⟩
theorem own_keep {W W' : World} {base b : Nat} {v : Value} {xs : List S41} (h : Kd.R k41 41 W base (fun _ => True) v xs) (hg : W.grownBy W' (some b)) (hne : ∀ k, v.ownBlock = some k → k < b) : Kd.R k41 41 W' base (fun _ => True) v xs := by
  rcases flat41.block h with ⟨rfl, rfl⟩ | ⟨g, cap, cur, rfl, hg2, hok, hH, hnc, hcm, hl, htk⟩
  · exact Kd.R_nil _ _ _ _ _
  · have h1 : Kd.R k41 41 W base (fun k => (Value.slice (some ⟨g, 0, none⟩) xs.length cap).ownBlock = some k) (.slice (some ⟨g, 0, none⟩) xs.length cap) xs := flat41.own rfl hg2 rfl hH hnc hcm hl htk
    refine Kd.R_mono (Kd.R_grown h1 hg (fun k hk e => ?_)) (fun _ _ => trivial)
    injection e with e
    have := hne k hk
    omega
set_option maxHeartbeats 16000000 in
set_option maxRecDepth 100000 in
theorem lease_Leases.calls (A0 : Option Addr) (c0 : Nat) (l : List S51) (t : Int) (r1 : List S41) (r2 : Int) (w : World) (hr0 : Kd.C k51 w A0 l.length l) (hc0 : l.length ≤ c0) (h : lease_Leases.f l t = some (r1, r2)) (hG : GW w) :
    Calls Tryd.prog 39 #[.slice A0 l.length c0, .int .i64 t] w fun e w' => ∃ v0_ : Value, e = .returned (.tuple #[v0_, .int .i64 r2]) ∧ Kd.R k41 41 w' w.heap.size (fun _ => True) v0_ r1 ∧ Below w.heap.size w w' := by
  unfold lease_Leases.f at h
  by_cases hl : 1599289640401 ≤ l.length
  · rw [if_pos hl] at h
    cases h
  rw [if_neg hl] at h
  obtain ⟨r0, hr0e⟩ : ∃ r0, r0 = rightI l l.length 0 (List.replicate 64 zSl) := ⟨_, rfl⟩
  rw [← hr0e] at h
  have HG := Aside0.mk hG
  have HC := Aside0.mk hr0
  have HCC := Aside0.mk hc0
  have HR : Aside0 (lease_Right.f l = some r0) := ⟨by rw [hr0e]; rfl⟩
  have HLM : Aside0 (l.length < 1599289640401) := ⟨by omega⟩
  have HSR : Aside0 (r0 = 0 → ∀ x ∈ l, slotB x = true → 0 ≤ x.f6 ∧ x.f6 < 64) := ⟨fun e => right_slots (hr0e.symm.trans e)⟩
  clear hG hr0 hc0 hr0e hl
  by_cases hz : r0 = 0
  · rw [if_neg (fun h => h hz)] at h
    subst hz
    have HSS := Aside0.mk (HSR.out rfl)
    clear HSR
    by_cases ht : t < 0 ∨ 1048576 < t
    · rw [if_pos ht] at h
      simp only [Option.some.injEq, Prod.mk.injEq] at h
      obtain ⟨rfl, rfl⟩ := h
      by_cases h0 : t < 0
      · have c1b0 : decide (t < 0) = true := decide_eq_true h0
        clear ht h0
        go_enter Tryd.func39, Tryd.ntmps39
        go_wp2_with ((go_at_call 40; (with_reducible refine (lease_Right.calls A0 c0 l 0 _ HG.out HC.out HCC.out HR.out).mono ?_); rintro e w2 ⟨rfl, hb2⟩; have HB2 := Aside0.mk hb2; clear hb2))
        go_ret2
        exact ⟨_, rfl, Kd.R_nil _ _ _ _ _, by repeat (first | exact HB2.out | apply below_drew1 | apply pw_below_drewN)⟩
      · have c1b0 : decide (t < 0) = false := decide_eq_false h0
        have c2b0 : decide (1048576 < t) = true := decide_eq_true (by omega)
        clear ht h0
        go_enter Tryd.func39, Tryd.ntmps39
        go_wp2_with ((go_at_call 40; (with_reducible refine (lease_Right.calls A0 c0 l 0 _ HG.out HC.out HCC.out HR.out).mono ?_); rintro e w2 ⟨rfl, hb2⟩; have HB2 := Aside0.mk hb2; clear hb2))
        go_ret2
        exact ⟨_, rfl, Kd.R_nil _ _ _ _ _, by repeat (first | exact HB2.out | apply below_drew1 | apply pw_below_drewN)⟩
    · rw [if_neg ht] at h
      simp only [Option.some.injEq, Prod.mk.injEq] at h
      obtain ⟨rfl, rfl⟩ := h
      have c1b0 : decide (t < 0) = false := decide_eq_false (by omega)
      have c2b0 : decide (1048576 < t) = false := decide_eq_false (by omega)
      clear ht
      go_enter Tryd.func39, Tryd.ntmps39
      go_wp2_with (first | (go_at_call 40; (with_reducible refine (lease_Right.calls A0 c0 l 0 _ HG.out HC.out HCC.out HR.out).mono ?_); rintro e w2 ⟨rfl, hb2⟩; have HB2 := Aside0.mk hb2; clear hb2) | (go_at_call 50; go_loud ((with_reducible refine (sorted.calls A0 c0 l t _ (Kd.C_below HC.out HB2.out) HCC.out HLM.out HSS.out).mono ?_); rintro e w3 ⟨V, rfl, HV0, hb3⟩; have HV := Aside0.mk HV0; have HB3 := Aside0.mk (below_step HB2.out hb3); clear HV0 hb3)))
      go_loopg [7, 27] 64 (fun kq v7 v27 w' => ∃ i : Nat, v27 = .int .i64 i ∧ Aside0 (i + kq = 64) ∧ Aside0 (Kd.R k41 41 w' w3.heap.size (fun _ => True) v7 (leasesL l t i)) ∧ Aside0 (Below w3.heap.size w3 w'))
      case atStart => exact ⟨0, rfl, ⟨rfl⟩, ⟨Kd.R_nil _ _ _ _ _⟩, ⟨Below.refl _ _⟩⟩
      case round =>
        obtain ⟨i, rfl, HI, HO, HB⟩ := hrel
        cases gk with
        | zero =>
          have c4b0 : decide ((i : Int) < 64) = false := decide_eq_false (by have := HI.out; omega)
          have c4b1 : decide (i < 64) = false := decide_eq_false (by have := HI.out; omega)
          have HIE : Aside0 (i = 64) := ⟨by have := HI.out; omega⟩
          go_wp2
          go_ret2
          exact ⟨_, rfl, Kd.R_lower (by rw [← HIE.out]; exact HO.out) HB3.out.size, below_step HB3.out HB.out⟩
        | succ k1 =>
          have hil : i < 64 := by have := HI.out; omega
          have HIL := Aside0.mk hil
          have hi64 : (i : Int) ≤ 9223372036854775806 := by omega
          have pi1 : 0 ≤ (i : Int) := by omega
          have c4b0 : decide ((i : Int) < 64) = true := decide_eq_true (by omega)
          have c4b1 : decide (i < 64) = true := decide_eq_true hil
          obtain ⟨A, n, cp, hVi, hn, hnc, hC⟩ := HV.out i hil
          subst hn
          obtain ⟨L, hL⟩ : ∃ L, L = bucket l t i := ⟨_, rfl⟩
          rw [← hL] at hVi hnc hC
          have HL := Aside0.mk hL
          have HVI := Aside0.mk hVi
          have HCL := Aside0.mk hC
          have HLL : Aside0 (L.length ≤ 9223372036854775807) := ⟨hC.2.1⟩
          have HNC := Aside0.mk hnc
          clear hL hVi hC hnc hil
          obtain ⟨b, hb⟩ : ∃ b, b = wr.heap.size := ⟨_, rfl⟩
          have hON : BlkIs (wr.alloc (.cells zSl.enc.toArray 93)) b 93 zSl.enc := by rw [hb]; exact heap_alloc_new wr _
          have hOO := Kd.R_below HO.out (below_alloc (Below.refl _ _) (.cells zSl.enc.toArray 93))
          have hOB := below_alloc HB.out (.cells zSl.enc.toArray 93)
          have HOL : Aside0 (∀ k, u7.ownBlock = some k → k < b) := ⟨fun k hk => by rw [hb]; exact Kd.R_lt HO.out k hk⟩
          have HBL : Aside0 (w3.heap.size ≤ b) := ⟨by rw [hb]; exact HB.out.size⟩
          go_upto_region 11 with ((with_reducible refine gate_ (.index 90 (.tmp 26) (.tmp 27)) rfl ?_); refine index_list rfl 90 27 (.tmp 26) (.tmp 27) rfl 64 i (.slice A L.length cp) rfl rfl Tryd.underlying90 HIL.out ((rowV_get V i HIL.out).trans (congrArg some HVI.out)) _ Tryd.underlying27 rfl (by kernel_rfl) ?_)
          rw [← hb]
          rw [show (#[.bool false, .int .i64 0, .int .i64 0, .int .i64 0, .int .i64 0, .int .i64 0, .int .i64 0, .int .i64 0, .bool false, .bool false, .int .i64 0] : Array Value) = zSl.enc.toArray from rfl]
          generalize wr.alloc (.cells zSl.enc.toArray 93) = w1 at hON hOO hOB ⊢
          have HN1 := Aside0.mk hON
          have HO1 := Aside0.mk hOO
          have HB1 := Aside0.mk hOB
          clear hON hOO hOB hb HO HB
          go_wp2_with (fail)
          go_loopg [32] L.length (fun kq v32 w' => ∃ j : Nat, v32 = .int .i64 j ∧ Aside0 (j + kq = L.length) ∧ Aside0 (BlkIs w' b 93 (lastS (L.take j)).enc) ∧ Aside0 (Kd.R k41 41 w' w3.heap.size (fun _ => True) u7 (leasesL l t i)) ∧ Aside0 (Below w3.heap.size w3 w'))
          case atStart => exact ⟨0, rfl, ⟨by omega⟩, HN1, HO1, HB1⟩
          case round =>
            clear HN1 HO1 HB1
            obtain ⟨j, rfl, HJ, HN, HO, HB⟩ := hrel
            cases gk with
            | zero =>
              have d4b0 : decide ((j : Int) < (L.length : Int)) = false := decide_eq_false (by have := HJ.out; omega)
              have d4b1 : decide (j < L.length) = false := decide_eq_false (by have := HJ.out; omega)
              have HN2 : Aside0 (BlkIs wr b 93 (lastS L).enc) := ⟨by
                have := HN.out
                rw [show j = L.length by have := HJ.out; omega, List.take_length] at this
                exact this⟩
              clear HN
              cases hin : (lastS L).inB t with
              | false =>
                have HIN := Aside0.mk hin
                clear hin
                have HNX : Aside0 (Kd.R k41 41 wr w3.heap.size (fun _ => True) u7 (leasesL l t (i + 1))) := ⟨by
                  rw [leasesL_succ, show inForce l t i = [] by unfold inForce; rw [← HL.out, HIN.out]; rfl, List.append_nil]
                  exact HO.out⟩
                go_wp2_with (go_at_call 52; (with_reducible refine (in0 b (lastS L) t _ HN2.out false HIN.out).mono ?_); rintro e w5 ⟨rfl, rfl⟩)
                go_roundg k1
                case measure => omega
                case rel => exact ⟨i + 1, by simp, ⟨by have := HI.out; omega⟩, HNX, HB⟩
              | true =>
                have HIN := Aside0.mk hin
                clear hin
                obtain ⟨s, hs⟩ : ∃ s, s = lastS L := ⟨_, rfl⟩
                rw [← hs] at HN2 HIN
                have HS := Aside0.mk hs
                clear hs
                have huL := Tryd.underlying41
                have y1 : wr.cell? ⟨b, 1, none⟩ = some (.int .i64 s.l.o) := HN2.out.at_ 1
                have y2 : wr.cell? ⟨b, 2, none⟩ = some (.int .i64 s.l.k) := HN2.out.at_ 2
                have y3 : wr.cell? ⟨b, 3, none⟩ = some (.int .i64 s.l.s) := HN2.out.at_ 3
                have y4 : wr.cell? ⟨b, 4, none⟩ = some (.int .i64 s.l.h) := HN2.out.at_ 4
                have y5 : wr.cell? ⟨b, 5, none⟩ = some (.int .i64 s.l.z) := HN2.out.at_ 5
                have y6 : wr.cell? ⟨b, 6, none⟩ = some (.int .i64 s.l.fr) := HN2.out.at_ 6
                have y7 : wr.cell? ⟨b, 7, none⟩ = some (.int .i64 s.l.un) := HN2.out.at_ 7
                have y8 : wr.cell? ⟨b, 8, none⟩ = some (.bool s.l.rc) := HN2.out.at_ 8
                go_wp2_with (first | (go_at_call 52; (with_reducible refine (in0 b s t _ HN2.out true HIN.out).mono ?_); rintro e w5 ⟨rfl, rfl⟩) | ((with_reducible refine gate_ (.call { callee := .builtin .append, args := #[.tmp 41, .tmp 44], argTypes := #[37, 37] }) rfl ?_); refine Kd.R_append k41 (w0 := w3) w3.heap.size rfl (.tmp 41) (.tmp 44) 37 41 (.agg #[.int .i64 0, .int .i64 0, .int .i64 0, .int .i64 0, .int .i64 0, .int .i64 0, .int .i64 0, .bool false]) 64 rfl Tryd.underlying37 infoL rfl (by decide) (by omega) u7 (leasesL l t i) s.l.rec_ [.int .i64 s.l.o, .int .i64 s.l.k, .int .i64 s.l.s, .int .i64 s.l.h, .int .i64 s.l.z, .int .i64 s.l.fr, .int .i64 s.l.un, .bool s.l.rc] (fun _ => True) (fun _ => False) rfl rfl ?aP (fun _ hk => hk.elim) ?aF ?aO ?aB ?aS ?aL ?_; (case aP => exact k41_mkM _ _ _ s.l.rec_); (case aF => exact fun _ _ => trivial); (case aO => exact HO.out); (case aB => exact HB.out); (case aS => exact HB.out.size); (case aL => have := leasesL_len l t i; have := HIL.out; omega); intro v1 w5 ho hb5 hg5 hat5; have HNX : Aside0 (Kd.R k41 41 w5 w3.heap.size (fun _ => True) v1 (leasesL l t (i + 1))) := ⟨by rw [leasesL_succ, show inForce l t i = [s.l.rec_] by unfold inForce; rw [← HL.out, ← HS.out, HIN.out]; rfl]; exact ho⟩; have HB5 := Aside0.mk hb5; clear ho hb5 hg5 hat5))
                go_roundg k1
                case measure => omega
                case rel => exact ⟨i + 1, by simp, ⟨by have := HI.out; omega⟩, HNX, HB5⟩
            | succ k2 =>
              have hjl : j < L.length := by have := HJ.out; omega
              have d4b0 : decide ((j : Int) < (L.length : Int)) = true := decide_eq_true (by omega)
              have d4b1 : decide (j < L.length) = true := decide_eq_true hjl
              have hj64 : (j : Int) ≤ 9223372036854775806 := by have := HLL.out; omega
              have p1 : 0 ≤ (j : Int) := by omega
              have q1 : (j : Int) < (L.length : Int) := by omega
              obtain ⟨ad, e1, hx0, hx1, hx2, hx3, hx4, hx5, hx6, hx7, hx8, hx9, hx10⟩ := at_T51 HCL.out j p1 q1
              cases e1
              replace hx0 := (HB.out.cell (World.block_lt_of_cell? w3 _ hx0)).trans hx0
              replace hx1 := (HB.out.cell (World.block_lt_of_cell? w3 _ hx1)).trans hx1
              replace hx2 := (HB.out.cell (World.block_lt_of_cell? w3 _ hx2)).trans hx2
              replace hx3 := (HB.out.cell (World.block_lt_of_cell? w3 _ hx3)).trans hx3
              replace hx4 := (HB.out.cell (World.block_lt_of_cell? w3 _ hx4)).trans hx4
              replace hx5 := (HB.out.cell (World.block_lt_of_cell? w3 _ hx5)).trans hx5
              replace hx6 := (HB.out.cell (World.block_lt_of_cell? w3 _ hx6)).trans hx6
              replace hx7 := (HB.out.cell (World.block_lt_of_cell? w3 _ hx7)).trans hx7
              replace hx8 := (HB.out.cell (World.block_lt_of_cell? w3 _ hx8)).trans hx8
              replace hx9 := (HB.out.cell (World.block_lt_of_cell? w3 _ hx9)).trans hx9
              replace hx10 := (HB.out.cell (World.block_lt_of_cell? w3 _ hx10)).trans hx10
              rw [Int.toNat_natCast] at hx0 hx1 hx2 hx3 hx4 hx5 hx6 hx7 hx8 hx9 hx10
              obtain ⟨x, hxe⟩ : ∃ x, x = rd_T51 L (j : Int) := ⟨_, rfl⟩
              rw [← hxe] at hx0 hx1 hx2 hx3 hx4 hx5 hx6 hx7 hx8 hx9 hx10
              have EL : Aside0 (L[j] = x) := ⟨by rw [hxe]; unfold rd_T51; rw [Int.toNat_natCast, List.getD_eq_getElem?_getD, List.getElem?_eq_getElem hjl]; rfl⟩
              have HJL := Aside0.mk hjl
              clear hxe
              have hHN := heap_alloc_new wr (.cells #[.int .i64 x.f0, .int .i64 x.f1, .int .i64 x.f2, .int .i64 x.f3, .int .i64 x.f4, .int .i64 x.f5, .int .i64 x.f6, .int .i64 x.f7, .int .i64 x.f8, .int .i64 x.f9, .int .i64 x.f10] 51)
              have hHS := HN.out.alloc (.cells #[.int .i64 x.f0, .int .i64 x.f1, .int .i64 x.f2, .int .i64 x.f3, .int .i64 x.f4, .int .i64 x.f5, .int .i64 x.f6, .int .i64 x.f7, .int .i64 x.f8, .int .i64 x.f9, .int .i64 x.f10] 51)
              have hHO := Kd.R_below HO.out (below_alloc (Below.refl _ _) (.cells #[.int .i64 x.f0, .int .i64 x.f1, .int .i64 x.f2, .int .i64 x.f3, .int .i64 x.f4, .int .i64 x.f5, .int .i64 x.f6, .int .i64 x.f7, .int .i64 x.f8, .int .i64 x.f9, .int .i64 x.f10] 51))
              have hHB := below_alloc HB.out (.cells #[.int .i64 x.f0, .int .i64 x.f1, .int .i64 x.f2, .int .i64 x.f3, .int .i64 x.f4, .int .i64 x.f5, .int .i64 x.f6, .int .i64 x.f7, .int .i64 x.f8, .int .i64 x.f9, .int .i64 x.f10] 51)
              go_upto_region 14 with (fail)
              generalize wr.alloc (.cells #[.int .i64 x.f0, .int .i64 x.f1, .int .i64 x.f2, .int .i64 x.f3, .int .i64 x.f4, .int .i64 x.f5, .int .i64 x.f6, .int .i64 x.f7, .int .i64 x.f8, .int .i64 x.f9, .int .i64 x.f10] 51) = w4 at hHN hHS hHO hHB ⊢
              have HX4 : Aside0 (BlkIs w4 wr.heap.size 51 [.int .i64 x.f0, .int .i64 x.f1, .int .i64 x.f2, .int .i64 x.f3, .int .i64 x.f4, .int .i64 x.f5, .int .i64 x.f6, .int .i64 x.f7, .int .i64 x.f8, .int .i64 x.f9, .int .i64 x.f10]) := ⟨hHN⟩
              have HN4 := Aside0.mk hHS
              have HO4 := Aside0.mk hHO
              have HB4 := Aside0.mk hHB
              clear hHN hHS hHO hHB hx0 hx1 hx2 hx3 hx4 hx5 hx6 hx7 hx8 hx9 hx10 HN HO HB
              have x0_4 : w4.cell? ⟨wr.heap.size, 0, none⟩ = some (.int .i64 x.f0) := HX4.out.at_ 0
              have x1_4 : w4.cell? ⟨wr.heap.size, 1, none⟩ = some (.int .i64 x.f1) := HX4.out.at_ 1
              have x2_4 : w4.cell? ⟨wr.heap.size, 2, none⟩ = some (.int .i64 x.f2) := HX4.out.at_ 2
              have x3_4 : w4.cell? ⟨wr.heap.size, 3, none⟩ = some (.int .i64 x.f3) := HX4.out.at_ 3
              have x4_4 : w4.cell? ⟨wr.heap.size, 4, none⟩ = some (.int .i64 x.f4) := HX4.out.at_ 4
              have x5_4 : w4.cell? ⟨wr.heap.size, 5, none⟩ = some (.int .i64 x.f5) := HX4.out.at_ 5
              have x6_4 : w4.cell? ⟨wr.heap.size, 6, none⟩ = some (.int .i64 x.f6) := HX4.out.at_ 6
              have x7_4 : w4.cell? ⟨wr.heap.size, 7, none⟩ = some (.int .i64 x.f7) := HX4.out.at_ 7
              have x8_4 : w4.cell? ⟨wr.heap.size, 8, none⟩ = some (.int .i64 x.f8) := HX4.out.at_ 8
              have x9_4 : w4.cell? ⟨wr.heap.size, 9, none⟩ = some (.int .i64 x.f9) := HX4.out.at_ 9
              have x10_4 : w4.cell? ⟨wr.heap.size, 10, none⟩ = some (.int .i64 x.f10) := HX4.out.at_ 10
              go_wp2_with (go_at_call 51; (with_reducible refine (take0 b (lastS (L.take j)) x _ HN4.out).mono ?_); rintro e w5 ⟨rfl, HN5, HG5⟩)
              have HN6 : Aside0 (BlkIs w5 b 93 (lastS (L.take (j + 1))).enc) := ⟨by rw [lastS_succ HJL.out EL.out]; exact HN5.out⟩
              have HO6 : Aside0 (Kd.R k41 41 w5 w3.heap.size (fun _ => True) u7 (leasesL l t i)) := ⟨own_keep HO4.out HG5.out HOL.out⟩
              have HB6 : Aside0 (Below w3.heap.size w3 w5) := ⟨pw_below_grown HB4.out _ HB4.out.size HG5.out (by intro k hk; injection hk with hk; have := HBL.out; omega)⟩
              go_roundg k2
              case measure => omega
              case rel => exact ⟨j + 1, by simp, ⟨by have := HJ.out; omega⟩, HN6, HO6, HB6⟩
  · rw [if_pos hz] at h
    simp only [Option.some.injEq, Prod.mk.injEq] at h
    obtain ⟨rfl, rfl⟩ := h
    have c0b0 : (r0 == 0) = false := beq_eq_false_iff_ne.mpr hz
    have c0b1 : (r0 != 0) = true := bne_iff_ne.mpr hz
    clear hz
    go_enter Tryd.func39, Tryd.ntmps39
    go_wp2_with ((go_at_call 40; (with_reducible refine (lease_Right.calls A0 c0 l r0 _ HG.out HC.out HCC.out HR.out).mono ?_); rintro e w2 ⟨rfl, hb2⟩; have HB2 := Aside0.mk hb2; clear hb2))
    go_ret2
    exact ⟨_, rfl, Kd.R_nil _ _ _ _ _, by repeat (first | exact HB2.out | apply below_drew1 | apply pw_below_drewN)⟩
end

end Go.Proofs.YtcgpbmafkgbbdaaDoor.PE
