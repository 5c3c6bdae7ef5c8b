/- What the functions of the package device return for valid devices. -/
import Derived.Test.YthlpjnbpdafjeaaBin
import Derived.Test.YthlpjnbpdafjeaaPAx1
import Derived.Test.YthlpjnbpdafjeaaPAx2
import Derived.Test.YthlpjnbpdafjeaaPAx3
import Derived.Test.YthlpjnbpdafjeaaPAx4
import Derived.Test.YthlpjnbpdafjeaaPAx5
import Derived.Test.YthlpjnbpdafjeaaPAx6
import Derived.Test.YthlpjnbpdafjeaaPAx7
import Derived.Test.YthlpjnbpdafjeaaPAx8
import Derived.Test.YthlpjnbpdafjeaaPAx13
import Derived.Test.YthlpjnbpdafjeaaPAx18
import Derived.Test.YthlpjnbpdafjeaaPAx19
import Derived.Test.YthlpjnbpdafjeaaPAx20
import Derived.Test.YthlpjnbpdafjeaaPAx21
import Derived.Test.YthlpjnbpdafjeaaPAx22
import Derived.Test.YthlpjnbpdafjeaaPAx23
import Derived.Test.YthlpjnbpdafjeaaPAx24
set_option linter.unusedVariables false
namespace Go.Proofs.Ythlpjnbpdafjeaa.PA
open Go.RowKit Go.Proofs.YthlpjnbpdafjeaaW.PrintWords Go.Proofs.YthlpjnbpdafjeaaW.PrintLast

theorem brds (l : List ByteArray) (i : Nat) : rdOf ByteArray.empty l (i : Int) = l.getD i ByteArray.empty := by unfold rdOf; rw [Int.toNat_natCast]
/-- Numbers of blocks: they ascend, and their blocks are empty. -/
structure Marked (bl : List ByteArray) (l : List Int) : Prop where
  up : Up l
  lo : ∀ x ∈ l, 0 ≤ x ∧ x < bl.length
  em : ∀ x ∈ l, (bl.getD x.toNat ByteArray.empty).toList = []
structure DvOk (size : Int) (bl : List ByteArray) (torn bad : List Int) (fuse : Int) : Prop where
  s0 : 16 ≤ size
  s1 : size ≤ 64
  b0 : 1 ≤ bl.length
  b1 : bl.length ≤ 512
  bs : ∀ x ∈ bl, (x.size : Int) ≤ size
  f0 : 0 ≤ fuse
  f1 : fuse ≤ 1048576
  tm : Marked bl torn
  bm : Marked bl bad
theorem Up.len {bl : List ByteArray} {l : List Int} (h : Marked bl l) : l.length ≤ bl.length := by
  have key : ∀ j, j < l.length → (j : Int) ≤ l.getD j 0 := by
    intro j
    induction j with
    | zero => intro hj; exact (h.lo _ (getD_mem hj)).1
    | succ j ih =>
      intro hj
      have a := ih (by omega)
      have b := h.up j (j + 1) (by omega) hj
      omega
  rcases Nat.eq_zero_or_pos l.length with h0 | h0
  · omega
  · have a := key (l.length - 1) (by omega)
    have b := (h.lo _ (getD_mem (l := l) (j := l.length - 1) (by omega))).2
    omega
theorem marked_loop (c0 : Int) (bl : List ByteArray) (c2 c3 : List Int) (c4 : Int) (c5 : Bool) (l : List Int) (hb : bl.length ≤ 512) (h : Marked bl l) : ∀ (d j k : Nat) (last : Int), j + d = l.length → d < k → (∀ q, j ≤ q → q < l.length → last < l.getD q 0) →
    device_marked.l0 k last l (l.length : Int) (j : Int) c0 bl c2 c3 c4 c5 = some true
  | 0, j, k, last, hj, hk, hl => by
    obtain ⟨k, rfl⟩ : ∃ m, k = m + 1 := ⟨k - 1, by omega⟩
    rw [device_marked.l0]
    rw [if_neg (by omega)]
  | d + 1, j, k, last, hj, hk, hl => by
    obtain ⟨k, rfl⟩ : ∃ m, k = m + 1 := ⟨k - 1, by omega⟩
    have hlen := Up.len h
    have hm : l.getD j 0 ∈ l := getD_mem (by omega)
    have a := h.lo _ hm
    have b := h.em _ hm
    have c := hl j (Nat.le_refl _) (by omega)
    have e : rdOf ByteArray.empty bl (l.getD j 0) = bl.getD (l.getD j 0).toNat ByteArray.empty := rfl
    rw [device_marked.l0]
    rw [if_pos (by omega), if_pos (by omega), if_pos (by omega), brd, if_neg (by omega), if_neg (by omega), if_pos a.1, if_pos a.2, e, if_pos b, bw64 (by omega) (by omega)]
    exact marked_loop c0 bl c2 c3 c4 c5 l hb h d (j + 1) k _ (by omega) (by omega) (fun q hq hq2 => h.up j q (by omega) hq2)
theorem marked_some (c0 : Int) (bl : List ByteArray) (c2 c3 : List Int) (c4 : Int) (c5 : Bool) (l : List Int) (hb : bl.length ≤ 512) (h : Marked bl l) (k : Nat) (hk : 600 < k) : device_marked.f k c0 bl c2 c3 c4 c5 l = some true := by
  have hlen := Up.len h
  unfold device_marked.f
  exact marked_loop c0 bl c2 c3 c4 c5 l hb h l.length 0 k (-1) (by omega) (by omega) (fun q _ hq => by have := (h.lo _ (getD_mem hq)).1; omega)
theorem valid_loop (size : Int) (bl : List ByteArray) (torn bad : List Int) (fuse : Int) (down : Bool) (h : DvOk size bl torn bad fuse) : ∀ (d j k : Nat), j + d = bl.length → d + 700 < k → device_valid.l0 k bl (bl.length : Int) (j : Int) size bl torn bad fuse down = some true
  | 0, j, k, hj, hk => by
    obtain ⟨k, rfl⟩ : ∃ m, k = m + 1 := ⟨k - 1, by omega⟩
    rw [device_valid.l0]
    rw [if_neg (by omega), marked_some size bl torn bad fuse down torn h.b1 h.tm k (by omega), marked_some size bl torn bad fuse down bad h.b1 h.bm k (by omega)]
    rfl
  | d + 1, j, k, hj, hk => by
    obtain ⟨k, rfl⟩ : ∃ m, k = m + 1 := ⟨k - 1, by omega⟩
    have hb := h.b1
    have hm : bl.getD j ByteArray.empty ∈ bl := by
      rw [List.getD_eq_getElem?_getD, List.getElem?_eq_getElem (by omega)]
      exact List.getElem_mem (by omega)
    have := h.bs _ hm
    rw [device_valid.l0]
    rw [if_pos (by omega), if_pos (by omega), if_pos (by omega), brds, if_neg (by omega), bw64 (by omega) (by omega)]
    exact valid_loop size bl torn bad fuse down h d (j + 1) k (by omega) (by omega)
theorem valid_some {size : Int} {bl : List ByteArray} {torn bad : List Int} {fuse : Int} (down : Bool) (h : DvOk size bl torn bad fuse) (k : Nat) (hk : 1300 < k) : device_valid.f k size bl torn bad fuse down = some true := by
  have s0 := h.s0
  have s1 := h.s1
  have b0 := h.b0
  have b1 := h.b1
  have f0 := h.f0
  have f1 := h.f1
  unfold device_valid.f
  rw [if_neg (by omega), if_neg (by omega), if_neg (by omega), if_neg (by omega), if_neg (by omega), decide_eq_false (by omega)]
  obtain ⟨k, rfl⟩ : ∃ m, k = m + 1 := ⟨k - 1, by omega⟩
  rw [device_valid.j0]
  rw [if_neg (by decide)]
  exact valid_loop size bl torn bad fuse down h bl.length 0 k (by omega) (by omega)
theorem ready_some {size : Int} {bl : List ByteArray} {torn bad : List Int} {fuse : Int} (down : Bool) (h : DvOk size bl torn bad fuse) (n : Int) (k : Nat) (hk : 1300 < k) :
    device_ready.f k size bl torn bad fuse down n = some (if down = true then 11 else if n < 0 ∨ n ≥ bl.length then 1 else 0) := by
  unfold device_ready.f
  rw [valid_some down h k hk]
  simp only [Option.bind_some, if_true]
  cases down with
  | true => simp
  | false =>
    by_cases c1 : n < 0
    · simp [c1]
    · by_cases c2 : n ≥ (bl.length : Int)
      · simp [c1, c2]
      · simp [c1, c2]
theorem ready_ok {size : Int} {bl : List ByteArray} {torn bad : List Int} {fuse : Int} (h : DvOk size bl torn bad fuse) (n : Nat) (hn : n < bl.length) (k : Nat) (hk : 1300 < k) :
    device_ready.f k size bl torn bad fuse false (n : Int) = some 0 := by
  rw [ready_some false h n k hk, if_neg (by decide), if_neg (by omega)]
theorem has_some {bl : List ByteArray} {l : List Int} (hb : bl.length ≤ 512) (h : Marked bl l) (x : Int) (k : Nat) (hk : 1300 < k) : device_has.f k l x = some (decide (x ∈ l)) := by
  have hlen := Up.len h
  obtain ⟨p, e, h1, h2, h3⟩ := bin_some l x (by omega) h.up k (by omega)
  unfold device_has.f
  rw [e]
  simp only [Option.bind_some]
  congr 1
  exact decide_eq_decide.mpr (found h.up h1 h2 h3)
theorem with_some {bl : List ByteArray} {l : List Int} (hb : bl.length ≤ 512) (h : Marked bl l) (x : Int) (k : Nat) (hk : 1300 < k) : device_with.f k l x = some (put1 l x) := by
  have hlen := Up.len h
  obtain ⟨p, e, h1, h2, h3⟩ := bin_some l x (by omega) h.up k (by omega)
  have et := up_take h1 h2 h3
  have ed := up_drop h.up h1 h2 h3
  unfold device_with.f
  rw [e]
  simp only [Option.bind_some]
  unfold put1
  rw [et, ed]
  by_cases c : p < l.length ∧ l.getD p 0 = x
  · rw [decide_eq_true c, if_pos rfl, if_pos c]
    congr 1
    have : l.drop p = x :: l.drop (p + 1) := by
      rw [List.drop_eq_getElem_cons c.1]
      congr 1
      have := c.2
      rw [List.getD_eq_getElem?_getD, List.getElem?_eq_getElem c.1] at this
      exact this
    rw [← this, List.take_append_drop]
  · rw [decide_eq_false c, if_neg (by decide), if_neg c]
    unfold slices_Insert_int_int.f
    rw [if_pos ⟨by omega, by omega, by simp, by simp; omega⟩]
    simp
theorem without_some {bl : List ByteArray} {l : List Int} (hb : bl.length ≤ 512) (h : Marked bl l) (x : Int) (k : Nat) (hk : 1300 < k) : device_without.f k l x = some (cut1 l x) := by
  have hlen := Up.len h
  obtain ⟨p, e, h1, h2, h3⟩ := bin_some l x (by omega) h.up k (by omega)
  have et := up_take h1 h2 h3
  have ed := up_drop h.up h1 h2 h3
  unfold device_without.f
  rw [e]
  simp only [Option.bind_some]
  rw [cut_split h.up, et, ed]
  by_cases c : p < l.length ∧ l.getD p 0 = x
  · rw [decide_eq_true c, if_pos rfl, if_pos c, bw64 (by omega) (by omega)]
    unfold slices_Delete_int_int.f
    rw [if_pos ⟨by omega, by omega, by omega⟩]
    simp only [Option.bind_some]
    have : ((p : Int) + 1).toNat = p + 1 := by omega
    rw [this, Int.toNat_natCast]
  · rw [decide_eq_false c, if_neg (by decide), if_neg c, List.take_append_drop]
theorem twin_some (size : Int) (bl : List ByteArray) (torn bad : List Int) (fuse : Int) (down : Bool) (h : DvOk size bl torn bad fuse) : device_twin.f size bl torn bad fuse down = some (size, bl, torn, bad, fuse, down) := by
  have b1 := h.b1
  have h1 := Up.len h.tm
  have h2 := Up.len h.bm
  unfold device_twin.f slices_Clone_string_string.f slices_Clone_int_int.f
  rw [if_pos (by omega), if_pos (by omega), if_pos (by omega)]
  rfl
/-- A block is written (or torn). -/
theorem write_some {size : Int} {bl : List ByteArray} {torn bad : List Int} {fuse : Int} (h : DvOk size bl torn bad fuse) (n : Nat) (hn : n < bl.length) (s : ByteArray) (hs : (s.size : Int) ≤ size) (hbad : (n : Int) ∉ bad) (k : Nat) (hk : 1300 < k) :
    device_Write.f k size bl torn bad fuse false (n : Int) s = some (if fuse = 1 then (size, bl.set n ⟨#[]⟩, put1 torn n, bad, 0, true, 11) else (size, bl.set n s, cut1 torn n, bad, mx 0 (fuse - 1), false, 0)) := by
  have f0 := h.f0
  have f1 := h.f1
  unfold device_Write.f
  rw [ready_ok h n hn k hk]
  simp only [Option.bind_some, if_true]
  rw [if_neg (by omega), has_some h.b1 h.bm n k hk, decide_eq_false hbad]
  simp only [Option.bind_some, Bool.false_eq_true, if_false]
  rw [twin_some size bl torn bad fuse false h]
  simp only [Option.bind_some]
  rw [with_some h.b1 h.tm n k hk, without_some h.b1 h.tm n k hk]
  simp only [Option.bind_some, Int.toNat_natCast]
  by_cases c : fuse = 1
  · rw [if_pos c, if_pos (by omega), if_pos (by omega), if_pos c]
  · rw [if_neg c, if_pos (by omega), if_pos (by omega), if_neg c, bw64 (by omega) (by omega)]
theorem read_some {size : Int} {bl : List ByteArray} {torn bad : List Int} {fuse : Int} (h : DvOk size bl torn bad fuse) (n : Nat) (hn : n < bl.length) (k : Nat) (hk : 1300 < k) :
    device_Read.f k size bl torn bad fuse false (n : Int) = some (if (n : Int) ∈ bad then (⟨#[]⟩, 12) else if (n : Int) ∈ torn then (⟨#[]⟩, 13) else (bl.getD n ByteArray.empty, 0)) := by
  unfold device_Read.f
  rw [ready_ok h n hn k hk]
  simp only [Option.bind_some, if_true]
  rw [has_some h.b1 h.bm n k hk, has_some h.b1 h.tm n k hk]
  simp only [Option.bind_some]
  by_cases c1 : (n : Int) ∈ bad
  · rw [decide_eq_true c1, if_pos rfl, if_pos c1]
  · rw [decide_eq_false c1, if_neg (by decide), if_neg c1]
    by_cases c2 : (n : Int) ∈ torn
    · rw [decide_eq_true c2, if_pos rfl, if_pos c2]
    · rw [decide_eq_false c2, if_neg (by decide), if_neg c2, if_pos (by omega), if_pos (by omega), brds]
theorem arm_some {size : Int} {bl : List ByteArray} {torn bad : List Int} {fuse : Int} (down : Bool) (h : DvOk size bl torn bad fuse) (n : Int) (hn : 0 ≤ n ∧ n ≤ 1048576) (k : Nat) (hk : 1300 < k) :
    device_Arm.f k size bl torn bad fuse down n = some (size, bl, torn, bad, n, down, 0) := by
  unfold device_Arm.f
  rw [valid_some down h k hk]
  simp only [Option.bind_some, if_true]
  rw [if_neg (by omega), if_neg (by omega), twin_some size bl torn bad fuse down h]
  rfl
theorem start_some {size : Int} {bl : List ByteArray} {torn bad : List Int} {fuse : Int} (down : Bool) (h : DvOk size bl torn bad fuse) (k : Nat) (hk : 1300 < k) :
    device_Start.f k size bl torn bad fuse down = some (size, bl, torn, bad, if down = true then 0 else fuse, false, 0) := by
  unfold device_Start.f
  rw [valid_some down h k hk]
  simp only [Option.bind_some, if_true]
  rw [twin_some size bl torn bad fuse down h]
  simp only [Option.bind_some]
  cases down <;> rfl
theorem new_some (size blocks : Int) (h : 16 ≤ size ∧ size ≤ 64) (h2 : 1 ≤ blocks ∧ blocks ≤ 512) : device_New.f size blocks = some (size, List.replicate blocks.toNat ⟨#[]⟩, [], [], 0, false, 0) := by
  unfold device_New.f
  rw [if_neg (by omega), if_neg (by omega), if_neg (by omega), if_neg (by omega), if_pos (by omega), if_pos (by omega)]
theorem new_ok (size : Int) (n : Nat) (h : 16 ≤ size ∧ size ≤ 64) (h2 : 1 ≤ n ∧ n ≤ 512) (fuse : Int) (hf : 0 ≤ fuse ∧ fuse ≤ 1048576) : DvOk size (List.replicate n ⟨#[]⟩) [] [] fuse := by
  have mk : Marked (List.replicate n ⟨#[]⟩) [] := ⟨fun i j _ h => by simp at h, fun x hx => by simp at hx, fun x hx => by simp at hx⟩
  refine ⟨h.1, h.2, by simp; omega, by simp; omega, ?_, hf.1, hf.2, mk, mk⟩
  intro x hx
  rw [(List.mem_replicate.mp hx).2]
  show (0 : Int) ≤ size
  omega
end Go.Proofs.Ythlpjnbpdafjeaa.PA
