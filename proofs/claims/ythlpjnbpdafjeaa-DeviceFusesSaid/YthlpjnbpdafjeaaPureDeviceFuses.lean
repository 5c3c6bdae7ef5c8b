/- A fuse of k: k - 1 blocks are written, the k-th is torn, the device is down; once started anew it reads so: the plain statement that is left of the law DeviceFuses. -/
import Derived.Test.YthlpjnbpdafjeaaDev
import Derived.Test.YthlpjnbpdafjeaaPAx11
import Derived.Test.YthlpjnbpdafjeaaPAx12
set_option linter.unusedVariables false
namespace Go.Proofs.Ythlpjnbpdafjeaa.Pure
open Go.RowKit Go.Proofs.Ythlpjnbpdafjeaa.PA Go.Proofs.YthlpjnbpdafjeaaW.PrintWords Go.Proofs.YthlpjnbpdafjeaaW.PrintLast
theorem sane_some (k : Nat) (hk : 1300 < k) : storagebarterlaw10_sane.f k = some true := by
  have h : Ev (fun k => storagebarterlaw10_sane.f k) true := Ev.of storagebarterlaw10_sane.mono (k := 40) (by decide +kernel)
  have h40 : storagebarterlaw10_sane.f 40 = some true := by decide +kernel
  have key : ∀ d, storagebarterlaw10_sane.f (40 + d) = some true := by
    intro d
    induction d with
    | zero => exact h40
    | succ d ih => exact storagebarterlaw10_sane.mono _ _ ih
  have := key (k - 40)
  rwa [show 40 + (k - 40) = k by omega] at this
def we : ByteArray := ⟨#[119]⟩
def em : ByteArray := ⟨#[]⟩
theorem em_list : em.toList = ([] : List UInt8) := by decide +kernel
theorem we_list : we.toList = ([119] : List UInt8) := by decide +kernel
def bw (i : Nat) : List ByteArray := (List.range 40).map fun j => if j < i then we else em
theorem bw_len (i : Nat) : (bw i).length = 40 := by simp [bw]
theorem bw_at (i j : Nat) (h : j < 40) : (bw i).getD j ByteArray.empty = if j < i then we else em := by
  unfold bw
  rw [List.getD_eq_getElem?_getD]
  simp [h]
theorem bw_zero : bw 0 = List.replicate 40 em := by decide
theorem bw_set (i : Nat) : (bw i).set i we = bw (i + 1) := by
  apply List.ext_getElem
  · rw [List.length_set, bw_len, bw_len]
  · intro j h1 h2
    rw [List.getElem_set]
    simp only [bw, List.getElem_map, List.getElem_range]
    by_cases c : i = j
    · subst c
      rw [if_pos rfl, if_pos (by omega)]
    · rw [if_neg c]
      by_cases c2 : j < i
      · rw [if_pos c2, if_pos (by omega)]
      · rw [if_neg c2, if_neg (by omega)]
theorem bw_torn (i : Nat) : (bw i).set i em = bw i := by
  apply List.ext_getElem
  · rw [List.length_set]
  · intro j h1 h2
    rw [List.getElem_set]
    by_cases c : i = j
    · subst c
      rw [if_pos rfl]
      simp only [bw, List.getElem_map, List.getElem_range]
      rw [if_neg (by omega)]
    · rw [if_neg c]
theorem bw_size (i : Nat) (x : ByteArray) (h : x ∈ bw i) : (x.size : Int) ≤ 1 := by
  simp only [bw, List.mem_map] at h
  obtain ⟨j, _, rfl⟩ := h
  split <;> decide
theorem ok_up (size : Int) (hs : 16 ≤ size ∧ size ≤ 64) (i : Nat) (fuse : Int) (hf : 0 ≤ fuse ∧ fuse ≤ 1048576) : DvOk size (bw i) [] [] fuse := by
  have mk : Marked (bw i) [] := ⟨fun i j _ h => by simp at h, fun x hx => by simp at hx, fun x hx => by simp at hx⟩
  exact ⟨hs.1, hs.2, by rw [bw_len]; omega, by rw [bw_len]; omega, fun x hx => by have := bw_size i x hx; omega, hf.1, hf.2, mk, mk⟩
theorem ok_down (size : Int) (hs : 16 ≤ size ∧ size ≤ 64) (i : Nat) (hi : i < 40) : DvOk size (bw i) [(i : Int)] [] 0 := by
  have mk : Marked (bw i) [] := ⟨fun i j _ h => by simp at h, fun x hx => by simp at hx, fun x hx => by simp at hx⟩
  have mk2 : Marked (bw i) [(i : Int)] := by
    refine ⟨fun a b h1 h2 => by simp at h2; omega, ?_, ?_⟩
    · intro x hx
      obtain rfl := List.mem_singleton.mp hx
      rw [bw_len]
      omega
    · intro x hx
      obtain rfl := List.mem_singleton.mp hx
      rw [Int.toNat_natCast, bw_at i i hi, if_neg (by omega)]
      exact em_list
  exact ⟨hs.1, hs.2, by rw [bw_len]; omega, by rw [bw_len]; omega, fun x hx => by have := bw_size i x hx; omega, by decide, by decide, mk2, mk⟩
/-- The device is up again: every block reads as it was written. -/
theorem reads (size : Int) (hs : 16 ≤ size ∧ size ≤ 64) (p : Nat) (hp : p < 20) : ∀ (d j k : Nat), j + d = 40 → d + 1400 < k →
    storagebarterlaw10_DeviceFuses.l1 k ((p : Int) + 1) 0 (j : Int) size (bw p) [(p : Int)] [] 0 false = some true
  | 0, j, k, hj, hk => by
    obtain ⟨k, rfl⟩ : ∃ m, k = m + 1 := ⟨k - 1, by omega⟩
    rw [storagebarterlaw10_DeviceFuses.l1]
    rw [if_neg (by omega)]
    rfl
  | d + 1, j, k, hj, hk => by
    obtain ⟨k, rfl⟩ : ∃ m, k = m + 1 := ⟨k - 1, by omega⟩
    have e1 : wrap64 ((p : Int) + 1 - 1) = p := by rw [bw64 (by omega) (by omega)]; omega
    have e2 : wrap64 ((j : Int) + 1) = ((j + 1 : Nat) : Int) := by rw [bw64 (by omega) (by omega)]; omega
    have ih := reads size hs p hp d (j + 1) k (by omega) (by omega)
    have hr := read_some (ok_down size hs p (by omega)) j (by rw [bw_len]; omega) k (by omega)
    rw [if_neg (by simp), bw_at p j (by omega)] at hr
    rw [storagebarterlaw10_DeviceFuses.l1]
    rw [if_pos (by omega), e1, e2]
    rcases Nat.lt_trichotomy j p with c | c | c
    · rw [if_neg (by simp; omega), if_pos c] at hr
      rw [hr]
      simp only [Option.bind_some, if_true]
      rw [if_pos (by omega), if_pos we_list, if_neg (by omega), if_neg (by omega)]
      exact ih
    · subst c
      rw [if_pos (by simp)] at hr
      rw [hr]
      simp only [Option.bind_some, if_true]
      rw [if_neg (by omega), if_neg (by omega)]
      exact ih
    · rw [if_neg (by simp; omega), if_neg (by omega)] at hr
      rw [hr]
      simp only [Option.bind_some, if_true]
      rw [if_neg (by omega), if_neg (by omega), if_pos (by omega), if_pos em_list]
      exact ih
theorem downs (x1 : Int) (m : Nat) (size : Int) (hs : 16 ≤ size ∧ size ≤ 64) (p : Nat) (hp : p < 20) (hm : wrap64 ((p : Int) + 1 + wrap64 (Int.tmod x1 10)) = m) (hm2 : m < 40) : ∀ (d i k : Nat), i + d = m → p < i → 2 * d + 1500 < k →
    storagebarterlaw10_DeviceFuses.l0 k x1 ((p : Int) + 1) (i : Int) size (bw p) [(p : Int)] [] 0 true = some true
  | 0, i, k, hi, h0, hk => by
    obtain ⟨k, rfl⟩ : ∃ m, k = m + 1 := ⟨k - 1, by omega⟩
    rw [storagebarterlaw10_DeviceFuses.l0]
    rw [hm, if_neg (by omega), start_some true (ok_down size hs p (by omega)) k (by omega)]
    simp only [Option.bind_some, if_true]
    exact reads size hs p hp 40 0 k (by omega) (by omega)
  | d + 1, i, k, hi, h0, hk => by
    obtain ⟨k, rfl⟩ : ∃ m, k = m + 2 := ⟨k - 2, by omega⟩
    have e1 : wrap64 ((p : Int) + 1 - 1) = p := by rw [bw64 (by omega) (by omega)]; omega
    have e2 : wrap64 ((i : Int) + 1) = ((i + 1 : Nat) : Int) := by rw [bw64 (by omega) (by omega)]; omega
    rw [storagebarterlaw10_DeviceFuses.l0]
    rw [hm, if_pos (by omega), write_down (ok_down size hs p (by omega)) i _ _ (by omega)]
    simp only [Option.bind_some]
    rw [e1, if_neg (by omega), if_pos trivial, if_neg (by omega)]
    rw [storagebarterlaw10_DeviceFuses.j2]
    rw [if_neg (by decide), e1, if_neg (by omega), e2]
    exact downs x1 m size hs p hp hm hm2 d (i + 1) k (by omega) (by omega) (by omega)
theorem ups (x1 : Int) (m : Nat) (size : Int) (hs : 16 ≤ size ∧ size ≤ 64) (p : Nat) (hp : p < 20) (hm : wrap64 ((p : Int) + 1 + wrap64 (Int.tmod x1 10)) = m) (hm2 : m < 40) (hpm : p < m) : ∀ (d i k : Nat), i + d = p → d + 2000 < k →
    storagebarterlaw10_DeviceFuses.l0 k x1 ((p : Int) + 1) (i : Int) size (bw i) [] [] ((p : Int) + 1 - i) false = some true
  | 0, i, k, hi, hk => by
    obtain rfl : i = p := by omega
    obtain ⟨k, rfl⟩ : ∃ m, k = m + 2 := ⟨k - 2, by omega⟩
    have e1 : wrap64 ((i : Int) + 1 - 1) = i := by rw [bw64 (by omega) (by omega)]; omega
    have e2 : wrap64 ((i : Int) + 1) = ((i + 1 : Nat) : Int) := by rw [bw64 (by omega) (by omega)]; omega
    rw [storagebarterlaw10_DeviceFuses.l0]
    rw [hm, if_pos (by omega), write_some (ok_up size hs i _ (by omega)) i (by rw [bw_len]; omega) _ (by show (1 : Int) ≤ size; omega) (by simp) _ (by omega), if_pos (by omega)]
    simp only [Option.bind_some]
    rw [e1, if_neg (by omega), if_pos rfl, if_pos trivial]
    rw [storagebarterlaw10_DeviceFuses.j2]
    rw [if_neg (by decide), e1, if_pos rfl, e2]
    have e3 : (bw i).set i ⟨#[]⟩ = bw i := bw_torn i
    have e4 : put1 [] (i : Int) = [(i : Int)] := rfl
    rw [e3, e4]
    exact downs x1 m size hs i hp hm hm2 (m - (i + 1)) (i + 1) k (by omega) (by omega) (by omega)
  | d + 1, i, k, hi, hk => by
    obtain ⟨k, rfl⟩ : ∃ m, k = m + 1 := ⟨k - 1, by omega⟩
    have e1 : wrap64 ((p : Int) + 1 - 1) = p := by rw [bw64 (by omega) (by omega)]; omega
    have e2 : wrap64 ((i : Int) + 1) = ((i + 1 : Nat) : Int) := by rw [bw64 (by omega) (by omega)]; omega
    rw [storagebarterlaw10_DeviceFuses.l0]
    rw [hm, if_pos (by omega), write_some (ok_up size hs i _ (by omega)) i (by rw [bw_len]; omega) _ (by show (1 : Int) ≤ size; omega) (by simp) _ (by omega), if_neg (by omega)]
    simp only [Option.bind_some]
    rw [e1, if_pos (by omega), if_pos trivial, e2]
    have e3 : (bw i).set i ⟨#[119]⟩ = bw (i + 1) := bw_set i
    have e4 : cut1 [] (i : Int) = [] := rfl
    have e5 : mx 0 ((p : Int) + 1 - i - 1) = (p : Int) + 1 - ((i + 1 : Nat) : Int) := by unfold mx; omega
    rw [e3, e4, e5]
    exact ups x1 m size hs p hp hm hm2 hpm d (i + 1) k (by omega) (by omega)
theorem byte_rng {a : Int} (h : (Lit.int .u8 a).wf = true) : 0 ≤ a ∧ a ≤ 255 := by
  simp [Lit.wf, IntKind.min, IntKind.max, IntKind.bits, IntKind.signed] at h
  omega
theorem DeviceFuses : storagebarterlaw10_DeviceFuses.Pure := by
  intro a0 a1 a2 h0 h1 h2
  have r0 := byte_rng h0
  have r1 := byte_rng h1
  have r2 := byte_rng h2
  refine ⟨3000, ?_⟩
  obtain ⟨k, hk⟩ : ∃ k, k = 3000 := ⟨_, rfl⟩
  rw [← hk]
  unfold storagebarterlaw10_DeviceFuses.f
  rw [sane_some k (by omega)]
  simp only [Option.bind_some, if_true]
  have t0 : 0 ≤ Int.tmod a0 20 ∧ Int.tmod a0 20 < 20 := ⟨by rw [Int.tmod_eq_emod_of_nonneg r0.1]; omega, by rw [Int.tmod_eq_emod_of_nonneg r0.1]; omega⟩
  have t1 : 0 ≤ Int.tmod a1 10 ∧ Int.tmod a1 10 < 10 := ⟨by rw [Int.tmod_eq_emod_of_nonneg r1.1]; omega, by rw [Int.tmod_eq_emod_of_nonneg r1.1]; omega⟩
  have t2 : 0 ≤ Int.tmod a2 49 ∧ Int.tmod a2 49 < 49 := ⟨by rw [Int.tmod_eq_emod_of_nonneg r2.1]; omega, by rw [Int.tmod_eq_emod_of_nonneg r2.1]; omega⟩
  obtain ⟨p, hp⟩ : ∃ p : Nat, Int.tmod a0 20 = p := ⟨(Int.tmod a0 20).toNat, by omega⟩
  obtain ⟨m, hm⟩ : ∃ m : Nat, (p : Int) + 1 + Int.tmod a1 10 = m := ⟨((p : Int) + 1 + Int.tmod a1 10).toNat, by omega⟩
  obtain ⟨size, hz⟩ : ∃ size, size = 16 + Int.tmod a2 49 := ⟨_, rfl⟩
  rw [bw64 (n := Int.tmod a2 49) (by omega) (by omega), bw64 (n := Int.tmod a0 20) (by omega) (by omega), ← hz, bw64 (n := size) (by omega) (by omega), hp, bw64 (n := 1 + (p : Int)) (by omega) (by omega)]
  rw [new_some size 40 (by omega) (by decide)]
  have e40 : List.replicate (40 : Int).toNat (⟨#[]⟩ : ByteArray) = bw 0 := bw_zero.symm
  simp only [Option.bind_some]
  rw [e40, arm_some false (ok_up size (by omega) 0 0 (by decide)) (1 + (p : Int)) (by omega) k (by omega)]
  simp only [Option.bind_some, if_true]
  obtain ⟨k, rfl⟩ : ∃ m, k = m + 1 := ⟨k - 1, by omega⟩
  rw [storagebarterlaw10_DeviceFuses.j0]
  rw [if_neg (by decide)]
  have hw : wrap64 ((p : Int) + 1 + wrap64 (Int.tmod a1 10)) = m := by rw [bw64 (n := Int.tmod a1 10) (by omega) (by omega), hm, bw64 (by omega) (by omega)]
  have := ups a1 m size (by omega) p (by omega) hw (by omega) (by omega) p 0 k (by omega) (by omega)
  rw [show (1 : Int) + (p : Int) = (p : Int) + 1 by omega]
  simpa using this
end Go.Proofs.Ythlpjnbpdafjeaa.Pure
