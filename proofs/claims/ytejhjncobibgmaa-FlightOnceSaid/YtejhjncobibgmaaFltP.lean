/- Flights in plain lists: a tick that passes, a parcel that is sent, dice, and what a drawn flight is. -/
import Derived.Test.YtejhjncobibgmaaFlt
import Derived.Test.YtejhjncobibgmaaPAx0
import Derived.Test.YtejhjncobibgmaaPAx2
import Derived.Test.YtejhjncobibgmaaPAx3
import Derived.Test.YtejhjncobibgmaaPAx15
import Derived.Test.YtejhjncobibgmaaPAx17
import Derived.Test.YtejhjncobibgmaaPAx18
import Derived.Test.YtejhjncobibgmaaPAx21
import Derived.Test.YtejhjncobibgmaaPAx22
import Derived.Test.YtejhjncobibgmaaPAx32
set_option linter.unusedVariables false
set_option linter.unusedSimpArgs false
namespace Go.Proofs.Ytejhjncobibgmaa.PA
open Go.RowKit Go.Proofs.YtejhjncobibgmaaW.PrintWords Go.Proofs.YtejhjncobibgmaaW.PrintLast
/-- What is due by a tick, and what is later. -/
def upTo (l : List S27) (d : Int) : List S27 := l.filter (fun x => decide (x.f2 ≤ d))
def beyond (l : List S27) (d : Int) : List S27 := l.filter (fun x => decide (d < x.f2))
theorem asc_cut (l : List S27) (h : Asc l) (d : Int) : upTo l d ++ beyond l d = l := by
  induction l with
  | nil => rfl
  | cons x l ih =>
    have h2 := List.pairwise_cons.mp h
    unfold upTo beyond at ih ⊢
    by_cases c : x.f2 ≤ d
    · rw [List.filter_cons_of_pos (by simpa using c), List.filter_cons_of_neg (by simp; omega), List.cons_append, ih h2.2]
    · have e : l.filter (fun x => decide (x.f2 ≤ d)) = [] := by
        rw [List.filter_eq_nil_iff]
        intro y hy
        have := h2.1 y hy
        unfold Bf at this
        simp
        omega
      have e2 : l.filter (fun x => decide (d < x.f2)) = l := by
        rw [List.filter_eq_self]
        intro y hy
        have := h2.1 y hy
        unfold Bf at this
        simp
        omega
      rw [List.filter_cons_of_neg (by simpa using c), List.filter_cons_of_pos (by simp; omega), e, e2, List.nil_append]
theorem upTo_take (l : List S27) (h : Asc l) (d : Int) (n : Nat) (hn : n = (upTo l d).length) : l.take n = upTo l d ∧ l.drop n = beyond l d := by
  have e := asc_cut l h d
  subst hn
  generalize upTo l d = A at e ⊢
  generalize beyond l d = B at e ⊢
  subst e
  exact ⟨by simp, by simp⟩
theorem Asc.filter {l : List S27} (h : Asc l) (p : S27 → Bool) : Asc (l.filter p) := List.Pairwise.filter p h
/-- A parcel whose number is greater than all: behind those that are due as early. -/
def put2 (l : List S27) (p : S27) : List S27 := upTo l p.f2 ++ p :: beyond l p.f2
theorem put1_eq (l : List S27) (p : S27) (h : ∀ x ∈ l, x.f3 < p.f3) : put1 l p = put2 l p := by
  unfold put1 put2 upTo beyond
  have hb : ∀ x ∈ l, (Bf x p ↔ x.f2 ≤ p.f2) := by
    intro x hx
    have := h x hx
    unfold Bf
    omega
  congr 1
  · exact List.filter_congr fun x hx => decide_eq_decide.mpr (hb x hx)
  · congr 1
    exact List.filter_congr fun x hx => decide_eq_decide.mpr ⟨fun h' => Int.not_le.mp fun h2 => h' ((hb x hx).mpr h2), fun h' hB => by have := (hb x hx).mp hB; omega⟩
theorem put2_asc {l : List S27} {p : S27} (h : Asc l) (hn : ∀ x ∈ l, x.f3 < p.f3) : Asc (put2 l p) := by
  unfold Asc put2
  rw [List.pairwise_append]
  refine ⟨h.filter _, ?_, ?_⟩
  · rw [List.pairwise_cons]
    refine ⟨fun x hx => ?_, h.filter _⟩
    have := (List.mem_filter.mp hx).2
    simp at this
    exact .inl this
  · intro x hx y hy
    have h1 := (List.mem_filter.mp hx).2
    have h1m := (List.mem_filter.mp hx).1
    simp at h1
    rcases List.mem_cons.mp hy with rfl | hy
    · have := hn x h1m
      unfold Bf
      omega
    · have h2 := (List.mem_filter.mp hy).2
      simp at h2
      exact .inl (by omega)
theorem put2_mem {l : List S27} {p x : S27} : x ∈ put2 l p ↔ x = p ∨ x ∈ l := by
  unfold put2 upTo beyond
  rw [List.mem_append, List.mem_cons, List.mem_filter, List.mem_filter]
  constructor
  · rintro (h | h | h)
    · exact .inr h.1
    · exact .inl h
    · exact .inr h.1
  · rintro (h | h)
    · exact .inr (.inl h)
    · by_cases c : x.f2 ≤ p.f2
      · exact .inl ⟨h, by simpa using c⟩
      · exact .inr (.inr ⟨h, by simp; omega⟩)
theorem put2_length (l : List S27) (h : Asc l) (p : S27) : (put2 l p).length = l.length + 1 := by
  have := congrArg List.length (asc_cut l h p.f2)
  rw [List.length_append] at this
  unfold put2
  rw [List.length_append, List.length_cons]
  omega
/-- A tick that passes. -/
theorem pass_loop (l : List S27) (hu : Asc l) (hl : l.length ≤ 1000000) (t delay next : Int) : ∀ (d i k : Nat), i + d = (upTo l t).length → d < k →
    flight_Pass.l0 k (i : Int) t delay next l = some (t, delay, next, beyond l t, upTo l t, 0)
  | 0, i, k, hi, hk => by
    obtain ⟨k, rfl⟩ : ∃ m, k = m + 1 := ⟨k - 1, by omega⟩
    obtain ⟨e1, e2⟩ := upTo_take l hu t i (by omega)
    have hle : (upTo l t).length ≤ l.length := List.length_filter_le _ _
    have hc : copyOver (List.replicate i z27) l = upTo l t := by
      unfold copyOver
      rw [List.length_replicate, e1, List.drop_of_length_le (by rw [List.length_replicate]; omega), List.append_nil]
    have hd : api_Parcel_30.f l 0 (i : Int) = some (beyond l t) := by
      unfold api_Parcel_30.f
      rw [if_pos ⟨by omega, by omega, by omega⟩, Int.toNat_natCast, e2]
      rfl
    rw [flight_Pass.l0]
    by_cases c : i < l.length
    · have hlate : ¬ (rd_T27 l (i : Int)).f2 ≤ t := by
        rw [rd27, getD27 c]
        have hm : l[i] ∈ beyond l t := by
          rw [← e2, List.mem_iff_getElem]
          exact ⟨0, by rw [List.length_drop]; omega, by simp⟩
        have := (List.mem_filter.mp hm).2
        simp at this
        omega
      rw [if_pos (by omega), if_pos (by omega), if_neg hlate, Int.toNat_natCast, if_pos (by omega), hd]
      simp only [Option.bind_some]
      rw [hc]
    · rw [if_neg (by omega), if_pos (by omega), Int.toNat_natCast, if_pos (by omega), hd]
      simp only [Option.bind_some]
      rw [hc]
  | d + 1, i, k, hi, hk => by
    obtain ⟨k, rfl⟩ : ∃ m, k = m + 1 := ⟨k - 1, by omega⟩
    have hle : (upTo l t).length ≤ l.length := List.length_filter_le _ _
    obtain ⟨e1, e2⟩ := upTo_take l hu t _ rfl
    have hm : l[i]'(by omega) ∈ upTo l t := by
      rw [← e1, List.mem_iff_getElem]
      exact ⟨i, by rw [List.length_take]; omega, by rw [List.getElem_take]⟩
    have hdue : (rd_T27 l (i : Int)).f2 ≤ t := by
      rw [rd27, getD27 (by omega)]
      have := (List.mem_filter.mp hm).2
      simpa using this
    rw [flight_Pass.l0]
    rw [if_pos (by omega), if_pos (by omega), if_pos hdue, fw64 (by omega) (by omega), show (i : Int) + 1 = ((i + 1 : Nat) : Int) by omega]
    exact pass_loop l hu hl t delay next d (i + 1) k (by omega) (by omega)
theorem pass_some (tick delay next : Int) (l : List S27) (hu : Asc l) (hl : l.length ≤ 1000000) (ht : 0 ≤ tick ∧ tick < 1048576) (k : Nat) (hk : l.length < k) :
    flight_Pass.f k tick delay next l = some (tick + 1, delay, next, beyond l (tick + 1), upTo l (tick + 1), 0) := by
  unfold flight_Pass.f flight_own.f api_Parcel_33.f
  rw [if_pos (by omega)]
  simp only [Option.bind_some]
  rw [if_neg (by omega), fw64 (by omega) (by omega)]
  have hle : (upTo l (tick + 1)).length ≤ l.length := List.length_filter_le _ _
  exact pass_loop l hu hl (tick + 1) delay next (upTo l (tick + 1)).length 0 k (by omega) (by omega)
theorem send2_some (tick delay next : Int) (l : List S27) (hu : Asc l) (hl : l.length < 1024) (hnum : ∀ x ∈ l, x.f3 < next) (from_ to_ wait : Int) (s : ByteArray) (hf : 1 ≤ from_ ∧ from_ ≤ 16) (ht : 1 ≤ to_ ∧ to_ ≤ 16) (hw : 0 ≤ wait ∧ wait < delay) (hd : delay ≤ 1000) (htick : 0 ≤ tick ∧ tick ≤ 1048576) (hn : 0 ≤ next ∧ next ≤ 1000000) (hs : s.size ≤ 16384) (k : Nat) (hk : l.length + 10 < k) :
    flight_Send.f k tick delay next l from_ to_ wait s = some (tick, delay, next + 1, put2 l ⟨from_, to_, tick + wait + 1, next, s⟩, 0) := by
  rw [send_some tick delay next l hu (by omega) from_ to_ wait s hf ht hw hd htick hn hs k hk, if_neg (by omega), put1_eq l _ hnum]
/-- Dice. -/
def Bytes_ (s : List Int) : Prop := s.length ≤ 1000 ∧ ∀ x ∈ s, 0 ≤ x ∧ x ≤ 255
theorem pick_some (s : List Int) (hs : Bytes_ s) (at_ : Int) (h0 : 0 ≤ at_) (h1 : at_ ≤ s.length) (n : Int) (hn : 1 ≤ n) (hn2 : n ≤ 1000000) :
    ∃ v a, storagebarterplay_Dice_Pick.f s at_ n = some (v, a) ∧ 0 ≤ v ∧ v < n ∧ 0 ≤ a ∧ a ≤ s.length := by
  unfold storagebarterplay_Dice_Pick.f
  have hl := hs.1
  by_cases c : at_ ≥ (s.length : Int)
  · rw [if_pos c]
    exact ⟨0, at_, rfl, by omega, by omega, h0, h1⟩
  · obtain ⟨j, rfl⟩ := Int.eq_ofNat_of_zero_le h0
    have hj : j < s.length := by omega
    have e : rd s (j : Int) = s[j] := by
      unfold rd
      simp [List.getD_eq_getElem?_getD, List.getElem?_eq_getElem hj]
    have hb := hs.2 s[j] (List.getElem_mem hj)
    have e1 : wrap64 (wrap64 ((j : Int) + 1) - 1) = (j : Int) := by rw [fw64 (n := (j : Int) + 1) (by omega) (by omega), fw64 (by omega) (by omega)]; omega
    rw [if_neg c, e1, if_pos (by omega), if_pos (by omega), if_neg (by omega), e, fw64 (n := s[j]) (by omega) (by omega), fw64 (n := (j : Int) + 1) (by omega) (by omega)]
    refine ⟨_, _, rfl, ?_, ?_, by omega, by omega⟩
    · rw [Int.tmod_eq_emod_of_nonneg hb.1]
      exact Int.emod_nonneg _ (by omega)
    · rw [Int.tmod_eq_emod_of_nonneg hb.1]
      exact Int.emod_lt_of_pos _ (by omega)
theorem byte_in {a : Int} (h : (Lit.int .u8 a).wf = true) : 0 ≤ a ∧ a ≤ 255 := by
  simp [Lit.wf, IntKind.min, IntKind.max, IntKind.bits, IntKind.signed] at h
  omega
theorem new_some (l : List Int) (h : ∀ x ∈ l, (Lit.int .u8 x).wf = true) : ∃ s, storagebarterplay_New.f l = some (s, 0) ∧ Bytes_ s := by
  unfold storagebarterplay_New.f
  by_cases c : (l.length : Int) > 300
  · rw [if_pos c, if_pos (by omega)]
    exact ⟨_, rfl, by rw [List.length_take]; omega, fun x hx => byte_in (h x (List.mem_of_mem_take hx))⟩
  · rw [if_neg c]
    exact ⟨_, rfl, by omega, fun x hx => byte_in (h x hx)⟩
end Go.Proofs.Ytejhjncobibgmaa.PA
