/- slices.IndexFunc and slices.DeleteFunc at records, with any function value that makes new memory alone. -/
import Derived.Test.YtghepgcbciikmaaPAx0
import Derived.Test.YtghepgcbciikmaaRow
import Derived.Test.YtghepgcbciikmaaDel
import Derived.Shelf.Abstract
set_option linter.unusedVariables false
set_option linter.unusedSimpArgs false
namespace Go.Proofs.YtghepgcbciikmaaW.PrintWords
open Go.RowKit
section
variable {P : Program} {W : World} {α : Type} {d : Kd α} {enc : α → List Value}
theorem over_takeN (cur : List Value) (o m : Nat) (vs : List Value) (h : o + vs.length ≤ m) (hm : m ≤ cur.length) : (over cur o vs).take m = over (cur.take m) o vs := by
 unfold over
 rw [List.take_append, List.take_of_length_le (by rw [List.length_append, List.length_take]; omega), List.length_append, List.length_take, List.take_take, Nat.min_eq_left (show o ≤ m by omega), List.drop_take]
 congr 2
 omega
theorem Flat.flat_set (F : Flat d enc) (xs : List α) (i : Nat) (x : α) (hi : i < xs.length) : over (flat enc xs) (i * d.sz) (enc x) = flat enc (xs.set i x) := by
 unfold over
 rw [F.flat_take, F.len, show i * d.sz + d.sz = (i + 1) * d.sz by rw [Nat.succ_mul], F.flat_drop, List.set_eq_take_append_cons_drop, if_pos hi, flat_append, flat_cons, List.append_assoc]
theorem Flat.put_run (F : Flat d enc) {e : TypeId} {base g n c i : Nat} {ok : Nat → Prop} {xs : List α} (HO : d.R e W base ok (.slice (some ⟨g, 0, none⟩) n c) xs) (hn : xs.length = n) (hi : i < n) (x : α) (t : TypeId) (u : Value) (hu : u.cells.toList = enc x) (ht : (P.info? t).map (·.size) = some d.sz) :
 ∃ w1, (Instr.storeAt t (.pointer (some ⟨g, i * d.sz, none⟩)) u).run P W = .ok () w1 ∧ d.R e w1 base ok (.slice (some ⟨g, 0, none⟩) n c) (xs.set i x) ∧ W.grownBy w1 (some g) := by
 rcases F.block HO with ⟨h, _⟩ | ⟨g', c', cur, hv, hg, hok, hH, hnc, hcm, hl, htk⟩
 ·cases h
 injection hv with ha _ hc
 injection ha with ha
 injection ha with hgg
 subst hgg; subst hc
 have h2 : i * d.sz + d.sz ≤ n * d.sz := by rw [← Nat.succ_mul]; exact Nat.mul_le_mul_right _ hi
 have h3 : n * d.sz ≤ c * d.sz := Nat.mul_le_mul_right _ (by omega)
 have hfit : i * d.sz + (enc x).length ≤ cur.length := by rw [F.len, hl]; omega
 refine ⟨_, run_store_run t u (enc x) hH hu (by rw [F.len]; exact ht) (by simpa using hfit) (fun q hq => F.one W [x] q (by rw [flat_cons]; simpa [flat_nil] using hq)), ?_, setCells_grown hH _ _ hfit⟩
 refine F.own (by rw [List.length_set]; exact hn) hg hok (setCells_heap hH _ _ hfit) (by omega) hcm (by rw [over_len _ _ _ hfit, hl]) ?_
 rw [hn] at htk
 rw [over_takeN _ _ _ _ (by rw [F.len]; omega) (by rw [hl]; omega), htk, F.flat_set xs i x (by omega)]
theorem Flat.put_list {ops : Array Oper} {rest : List Oper} {o : Oper} {a : Act} {Q : Exit → Act → World → Prop} (F : Flat d enc) (hN : o.dst = none) (hgd : o.guard = none) (t : TypeId) (q y : Operand) (ho : o.op = .store t q y)
 {e : TypeId} {base g n c i o' : Nat} {ok : Nat → Prop} {xs : List α} (HO : d.R e W base ok (.slice (some ⟨g, 0, none⟩) n c) xs) (hn : xs.length = n) (hi : i < n) (x : α) (u : Value) (haddr : a.eval q = .pointer (some ⟨g, o', none⟩)) (hoff : o' = i * d.sz) (hx : a.eval y = u) (hu : u.cells.toList = enc x) (ht : (P.info? t).map (·.size) = some d.sz)
 (h : ∀ w1, d.R e w1 base ok (.slice (some ⟨g, 0, none⟩) n c) (xs.set i x) → W.grownBy w1 (some g) → wpList P ops Q rest a w1) : wpList P ops Q (o :: rest) a W := by
 subst hoff
 obtain ⟨w1, hr, h1, h2⟩ := F.put_run (P := P) HO hn hi x t u hu ht
 refine wpList_plain hgd fun K hK => ?_
 unfold Oper.wp execOp
 simp only [ho, haddr, hx, Sem.run_bind, Sem.run_pure, Result.andThen_ok, hr]
 show K (a.put o.dst undef) _
 rw [hN]
 exact hK a _ (h _ h1 h2)
end
end Go.Proofs.YtghepgcbciikmaaW.PrintWords
namespace Go.Proofs.Ytghepgcbciikmaa.PA
open Go.RowKit Go.Proofs.YtghepgcbciikmaaW.PrintWords Go.Proofs.YtghepgcbciikmaaW.PrintLast Go.Proofs.YtghepgcbciikmaaW.PrintMore
def idxFrom {α : Type} (p : α → Bool) : List α → Nat → Int
 | [], _ => -1
 | x :: l, i => if p x = true then (i : Int) else idxFrom p l (i + 1)
theorem idxFrom_at {α : Type} (p : α → Bool) (l : List α) (i : Nat) (h : i < l.length) : idxFrom p (l.drop i) i = if p l[i] = true then (i : Int) else idxFrom p (l.drop (i + 1)) (i + 1) := by
 rw [List.drop_eq_getElem_cons h]
 rfl
theorem idxFrom_cases {α : Type} (p : α → Bool) : ∀ (l : List α) (i : Nat), (idxFrom p l i = -1 ∧ ∀ x ∈ l, p x = false) ∨ ∃ j, ∃ h : j < l.length, idxFrom p l i = ((i + j : Nat) : Int) ∧ p l[j] = true ∧ ∀ x ∈ l.take j, p x = false
 | [], i => .inl ⟨rfl, by simp⟩
 | y :: l, i => by
  rw [idxFrom]
  by_cases h : p y = true
  ·rw [if_pos h]
   exact .inr ⟨0, by simp, by simp, by simpa using h, by simp⟩
  ·rw [if_neg h]
   have h' : p y = false := by simpa using h
   rcases idxFrom_cases p l (i + 1) with ⟨h1, h2⟩ | ⟨j, hj, h1, h2, h3⟩
   ·exact .inl ⟨h1, fun x hx => by rcases List.mem_cons.mp hx with rfl | hx; exact h'; exact h2 x hx⟩
   ·refine .inr ⟨j + 1, by simpa using hj, by rw [h1]; congr 1; omega, by simpa using h2, fun x hx => ?_⟩
    rw [List.take_succ_cons] at hx
    rcases List.mem_cons.mp hx with rfl | hx
    ·exact h'
    ·exact h3 x hx
def enc35 (x : S35) : List Value := [.int .i64 x.f0, .int .i64 x.f1, .int .i64 x.f2, .int .i64 x.f3, .int .i64 x.f4, .int .i64 x.f5]
theorem flat35 : Flat k35 enc35 := ⟨fun _ => rfl, fun h => k35_openM h, fun w base ok x => k35_mkM w base ok x, by decide⟩
def Tells (P : Program) (f : Nat) (lb : Array Value) (p : S35 → Bool) (w : World) (g : Option Nat) : Prop :=
 ∀ (W : World) (x : S35), w.grownBy W g → Calls P f (#[.agg #[.int .i64 x.f0, .int .i64 x.f1, .int .i64 x.f2, .int .i64 x.f3, .int .i64 x.f4, .int .i64 x.f5]] ++ lb) W fun e w' => e = .returned (.bool (p x)) ∧ Below W.heap.size W w'
theorem grownBy_of_below {w W : World} {g : Option Nat} (h : Below w.heap.size w W) : w.grownBy W g := ⟨h.os, h.tape, h.output, h.size, fun k hk _ => h.block k hk⟩
set_option maxHeartbeats 4000000 in
theorem IndexFunc.calls (A0 : Option Addr) (c0 : Nat) (l0 : List S35) (f : Nat) (lb : Array Value) (p : S35 → Bool) (w : World) (g : Option Nat) (hr0 : Kd.C k35 w A0 l0.length l0) (hc0 : l0.length ≤ c0)
 (eg : ∀ args w, (callFunc f args).run Try.prog w = .ok (.enter f args) w) (hp : Tells Try.prog f lb p w g) :
 Calls Try.prog 45 #[.slice A0 l0.length c0, .func (.func f) #[] lb] w fun e w' => e = .returned (.int .i64 (idxFrom p l0 0)) ∧ Below w.heap.size w w' := by
 obtain ⟨r, hr⟩ : ∃ r, idxFrom p l0 0 = r := ⟨_, rfl⟩
 rw [hr]
 have HR := Aside0.mk hr0
 have HP := Aside0.mk hp
 have HE := Aside0.mk hr
 have HLM : Aside0 (l0.length ≤ 9223372036854775807) := ⟨hr0.2.1⟩
 clear hr0 hp hr
 go_enter Try.func45, Try.ntmps45
 go_wp2
 go_loopg [8] l0.length (fun kq v8 w' => ∃ i : Nat, v8 = .int .i64 i ∧ Aside0 (i + kq = l0.length) ∧ Aside0 (idxFrom p (l0.drop i) i = r) ∧ Aside0 (Below w.heap.size w w'))
 case atStart => exact ⟨0, rfl, ⟨by omega⟩, ⟨by rw [List.drop_zero]; exact HE.out⟩, ⟨Below.refl _ _⟩⟩
 case round =>
  obtain ⟨i, rfl, HI, HX, HBr⟩ := hrel
  cases gk with
  | zero =>
   have c4b0 : decide ((i : Int) < (l0.length : Int)) = false := decide_eq_false (by have := HI.out; omega)
   have c4b1 : decide (i < l0.length) = false := decide_eq_false (by have := HI.out; omega)
   have hr : (-1 : Int) = r := by
    rw [← HX.out, List.drop_eq_nil_of_le (by have := HI.out; omega)]
    rfl
   subst hr
   go_wp2
   go_ret
   exact ⟨rfl, HBr.out⟩
  | succ k1 =>
   have hil : i < l0.length := by have := HI.out; omega
   have c4b0 : decide ((i : Int) < (l0.length : Int)) = true := decide_eq_true (by omega)
   have c4b1 : decide (i < l0.length) = true := decide_eq_true hil
   have hi64 : (i : Int) ≤ 9223372036854775806 := by have := HLM.out; omega
   have p1 : 0 ≤ (i : Int) := by omega
   have q1 : (i : Int) < (l0.length : Int) := by omega
   obtain ⟨ad, e1, hx0, hx1, hx2, hx3, hx4, hx5⟩ := at_T35 HR.out i p1 q1
   cases e1
   replace hx0 := (HBr.out.cell (World.block_lt_of_cell? w _ hx0)).trans hx0
   replace hx1 := (HBr.out.cell (World.block_lt_of_cell? w _ hx1)).trans hx1
   replace hx2 := (HBr.out.cell (World.block_lt_of_cell? w _ hx2)).trans hx2
   replace hx3 := (HBr.out.cell (World.block_lt_of_cell? w _ hx3)).trans hx3
   replace hx4 := (HBr.out.cell (World.block_lt_of_cell? w _ hx4)).trans hx4
   replace hx5 := (HBr.out.cell (World.block_lt_of_cell? w _ hx5)).trans hx5
   have eX := idxFrom_at p l0 i hil
   have ex : rd_T35 l0 (i : Int) = l0[i] := by unfold rd_T35; rw [Int.toNat_natCast, List.getD_eq_getElem?_getD, List.getElem?_eq_getElem hil]; rfl
   rw [HX.out, ← ex] at eX
   have EX := Aside0.mk eX
   clear eX ex HX
   have hc := HP.out wr (rd_T35 l0 (i : Int)) (grownBy_of_below HBr.out)
   rw [Int.toNat_natCast] at hx0 hx1 hx2 hx3 hx4 hx5
   generalize rd_T35 l0 (i : Int) = x at hx0 hx1 hx2 hx3 hx4 hx5 hc EX
   cases hpx : p x with
   | true =>
    rw [hpx] at hc
    have hr : r = (i : Int) := by rw [EX.out, if_pos hpx]
    subst hr
    clear hpx EX
    go_wp2_with (go_at_fn f; refine hc.mono ?_; rintro e w' ⟨rfl, hb'⟩)
    go_ret
    exact ⟨rfl, HBr.out.trans (hb'.mono HBr.out.size)⟩
   | false =>
    rw [hpx] at hc
    have hr : idxFrom p (l0.drop (i + 1)) (i + 1) = r := by rw [EX.out, if_neg (by rw [hpx]; decide)]
    have HR2 := Aside0.mk hr
    clear hr hpx EX
    go_wp2_with (go_at_fn f; refine hc.mono ?_; rintro e w' ⟨rfl, hb'⟩)
    go_roundg k1
    case measure => omega
    case rel => exact ⟨i + 1, by simp, ⟨by have := HI.out; omega⟩, HR2, ⟨HBr.out.trans (hb'.mono HBr.out.size)⟩⟩
theorem del_read {p : S35 → Bool} {xs ys : List S35} {i j : Nat} (h : Del.At p xs ys i j) (hj : j < xs.length) : rd_T35 ys (j : Int) = xs[j] := by
 unfold rd_T35
 rw [Int.toNat_natCast, List.getD_eq_getElem?_getD, List.getElem?_eq_getElem (by rw [h.len]; exact hj), ← h.read p hj]
 rfl
theorem kd_seg (x : S35) : (Value.agg #[.int .i64 x.f0, .int .i64 x.f1, .int .i64 x.f2, .int .i64 x.f3, .int .i64 x.f4, .int .i64 x.f5]).cells.toList = enc35 x := rfl
theorem size35 : (Try.prog.info? 35).map (·.size) = some k35.sz := by kernel_rfl
set_option maxHeartbeats 8000000 in
set_option maxRecDepth 100000 in
theorem DeleteFunc.block (g n cap : Nat) (l0 : List S35) (f : Nat) (lb : Array Value) (p : S35 → Bool) (w0 w : World) (ok : Nat → Prop) (hok : ok g) (hr0 : Kd.R k35 35 w w0.heap.size ok (.slice (some ⟨g, 0, none⟩) n cap) l0) (hn : n = l0.length) (hB : Below w0.heap.size w0 w)
 (eg : ∀ args w, (callFunc f args).run Try.prog w = .ok (.enter f args) w) (hp : Tells Try.prog f lb p w (some g)) :
 Calls Try.prog 35 #[.slice (some ⟨g, 0, none⟩) n cap, .func (.func f) #[] lb] w fun e w' => ∃ v0_ : Value, e = .returned v0_ ∧ Kd.R k35 35 w' w0.heap.size ok v0_ (l0.filter (fun x => !p x)) ∧ w.grownBy w' (some g) := by
 subst hn
 obtain ⟨_, hnc, hC⟩ := Kd.R_reads' hr0
 have hgb : w0.heap.size ≤ g := Kd.R_base hr0 _ (by simp [Value.ownBlock])
 have hlm : l0.length ≤ 9223372036854775807 := hC.2.1
 have hI := IndexFunc.calls (some ⟨g, 0, none⟩) cap l0 f lb p w (some g) hC hnc eg hp
 rcases idxFrom_cases p l0 0 with ⟨h1, h2⟩ | ⟨j0, hj0, h1, h2, h3⟩
 ·rw [h1] at hI
  have hf : l0.filter (fun x => !p x) = l0 := List.filter_eq_self.mpr (fun x hx => by rw [h2 x hx]; rfl)
  rw [hf]
  have HR := Aside0.mk hr0
  clear hr0 hC hp h1 h2 hf hB
  go_enter Try.func35, Try.ntmps35
  go_wp2_with (go_at_call 45; refine hI.mono ?_; rintro e w' ⟨rfl, hb'⟩)
  go_ret
  exact ⟨_, rfl, Kd.R_below HR.out hb', grownBy_of_below hb'⟩
 ·rw [Nat.zero_add] at h1
  rw [h1] at hI
  have HA : Aside0 (Del.At p l0 (l0) j0 j0) := ⟨Del.At.start p (by omega) h3⟩
  have HA1 : Aside0 (Del.At p l0 l0 j0 (j0 + 1)) := ⟨HA.out.skip p hj0 h2⟩
  have HR := Aside0.mk hr0
  have HP := Aside0.mk hp
  have HB := Aside0.mk hB
  have HOK := Aside0.mk hok
  have HG := Aside0.mk hgb
  have c1 : (((j0 : Nat) : Int) == -1) = false := beq_eq_false_iff_ne.mpr (by omega)
  have hjj : (j0 : Int) ≤ 9223372036854775806 := by omega
  have hw1 : IntKind.i64.wrap ((j0 : Int) + 1) = (j0 : Int) + 1 := IntWalk.i64_in _ (by omega)
  clear hr0 hC hp h1 h2 h3 hB HA hok hgb
  go_enter Try.func35, Try.ntmps35
  go_wp2_with (go_at_call 45; refine hI.mono ?_; rintro e w' ⟨rfl, hb'⟩)
  have hz : ∀ W, (zeroValue 35).run Try.prog W = .ok (.agg #[(.int .i64 0), (.int .i64 0), (.int .i64 0), (.int .i64 0), (.int .i64 0), (.int .i64 0)]) W := fun W => by kernel_rfl
  have HZ := Aside0.mk hz
  have hR1 := Kd.R_below HR.out hb'
  have hG1 := grownBy_of_below (g := some g) hb'
  have HR1 := Aside0.mk hR1
  have HG1 := Aside0.mk hG1
  clear hR1 hG1 hb' HR hI hz
  go_loopg [5, 6] (l0.length - (j0 + 1)) (fun kq v5 v6 w' => ∃ (i j : Nat) (ys : List S35), v5 = .int .i64 i ∧ v6 = .int .i64 j ∧ Aside0 (j + kq = l0.length) ∧ Aside0 (Del.At p l0 ys i j) ∧ Aside0 (i < j) ∧ Aside0 (Kd.R k35 35 w' w0.heap.size ok (.slice (some ⟨g, 0, none⟩) l0.length cap) ys) ∧ Aside0 (w.grownBy w' (some g)))
  case atStart => exact ⟨j0, j0 + 1, l0, rfl, by simp, ⟨by omega⟩, HA1, ⟨by omega⟩, HR1, HG1⟩
  case round =>
   clear HR1 HG1 HA1 hw1 c1 hjj
   obtain ⟨i, j, ys, rfl, rfl, HJ, HA, HIJ, HR, HGr⟩ := hrel
   cases gk with
   | zero =>
    have c4b0 : decide ((j : Int) < (l0.length : Int)) = false := decide_eq_false (by have := HJ.out; omega)
    have c4b1 : decide (j < l0.length) = false := decide_eq_false (by have := HJ.out; omega)
    have hij := HIJ.out
    have hjl : j = l0.length := by have := HJ.out; omega
    have hin : i ≤ l0.length := by omega
    have hic : i ≤ cap := by omega
    have hicl : i < cap := by omega
    have hcne : ¬ cap = i := by omega
    have hp0 : (0 : Int) ≤ (i : Int) := by omega
    rcases flat35.block HR.out with ⟨h, _⟩ | ⟨g', c', cur, hv, hg', hok', hH, hnc', hcm, hl, htk⟩
    ·cases h
    injection hv with ha hlen0 hcc
    injection ha with ha
    injection ha with hgg
    subst hgg; subst hcc
    have hyl := HA.out.len
    obtain ⟨zs, hzl, hcl⟩ := run_clear_row (P := Try.prog) hH 27 35 (.agg #[(.int .i64 0), (.int .i64 0), (.int .i64 0), (.int .i64 0), (.int .i64 0), (.int .i64 0)]) Try.underlying27 (HZ.out wr) (by decide) (i * 6) (l0.length - i) (cap - i) (by show i * 6 + (l0.length - i) * 6 ≤ cur.length; rw [hl]; show i * 6 + (l0.length - i) * 6 ≤ cap * 6; omega)
    have hzs : zs.length = (l0.length - i) * 6 := hzl
    have hl' : cur.length = cap * 6 := hl
    have hfit : i * 6 + zs.length ≤ cur.length := by rw [hzs, hl']; omega
    have fin : Aside0 (Kd.R k35 35 (wr.setCells g (i * 6) zs) w0.heap.size ok (.slice (some ⟨g, 0, none⟩) i cap) (l0.filter (fun x => !p x)) ∧ w.grownBy (wr.setCells g (i * 6) zs) (some g)) := by
     refine ⟨?_, grown2 HGr.out (setCells_grown hH _ _ hfit)⟩
     have hd : l0.filter (fun x => !p x) = ys.take i := by
      have h1 := HA.out
      rw [hjl] at h1
      exact (h1.done p).symm
     rw [hd]
     refine flat35.own (by rw [List.length_take]; omega) hg' hok' (setCells_heap hH _ _ hfit) (by omega) hcm (by rw [over_len _ _ _ hfit, hl]) ?_
     show (over cur (i * 6) zs).take (i * 6) = _
     rw [over_take _ _ _ (by rw [hl']; omega)]
     have e1 : cur.take (i * 6) = (cur.take (ys.length * 6)).take (i * 6) := by rw [List.take_take, Nat.min_eq_left (Nat.mul_le_mul_right _ (by omega))]
     rw [e1]
     exact (congrArg (List.take (i * 6)) htk).trans (flat35.flat_take ys i)
    clear hlen0 hH hok' hg' htk hzl hzs hl hl' hfit hcm hnc' hyl hij hjl HZ HR HA HIJ HJ HP HB HOK HG HGr
    go_wp2
    go_ret
    exact ⟨_, rfl, fin.out.1, fin.out.2⟩
   | succ k1 =>
    have hjl : j < l0.length := by have := HJ.out; omega
    have c4b0 : decide ((j : Int) < (l0.length : Int)) = true := decide_eq_true (by omega)
    have c4b1 : decide (j < l0.length) = true := decide_eq_true hjl
    have hij := HIJ.out
    have p1 : 0 ≤ (j : Int) := by omega
    have q1 : (j : Int) < (l0.length : Int) := by omega
    have hj64 : (j : Int) ≤ 9223372036854775806 := by omega
    obtain ⟨hyl, hy2, hC⟩ := Kd.R_reads' HR.out
    obtain ⟨ad, e1, hx0, hx1, hx2, hx3, hx4, hx5⟩ := at_T35 hC j p1 (by omega)
    cases e1
    clear hyl hy2
    rw [del_read HA.out hjl, Int.toNat_natCast] at hx0 hx1 hx2 hx3 hx4 hx5
    simp only [Addr.add_lit, Nat.zero_add] at hx0 hx1 hx2 hx3 hx4 hx5
    obtain ⟨x, hxe⟩ : ∃ x, x = l0[j] := ⟨_, rfl⟩
    rw [← hxe] at hx0 hx1 hx2 hx3 hx4 hx5
    have hgr2 : w.grownBy (wr.alloc (.cells #[.int .i64 x.f0, .int .i64 x.f1, .int .i64 x.f2, .int .i64 x.f3, .int .i64 x.f4, .int .i64 x.f5] 35)) (some g) := grown2 HGr.out (grownBy_of_below (below_alloc (Below.refl _ _) _))
    have hRa := Kd.R_alloc HR.out (.cells #[.int .i64 x.f0, .int .i64 x.f1, .int .i64 x.f2, .int .i64 x.f3, .int .i64 x.f4, .int .i64 x.f5] 35)
    have hc := HP.out _ x hgr2
    have hin : i < l0.length := by omega
    have hylen : ys.length = l0.length := HA.out.len
    cases hpx : p x with
    | true =>
     rw [hpx] at hc
     have HA2 := Aside0.mk (HA.out.skip p hjl (by rw [← hxe]; exact hpx))
     have HRa := Aside0.mk hRa
     have HG2 := Aside0.mk hgr2
     clear hpx hRa hgr2 HA HR HGr hC hxe HB HOK HG hylen
     go_wp2_with (go_at_fn f; refine hc.mono ?_; rintro e w' ⟨rfl, hb'⟩)
     go_roundg k1
     case measure => omega
     case rel => exact ⟨i, j + 1, ys, rfl, by simp, ⟨by have := HJ.out; omega⟩, HA2, ⟨by omega⟩, ⟨Kd.R_below HRa.out hb'⟩, ⟨grown2 HG2.out (grownBy_of_below hb')⟩⟩
    | false =>
     rw [hpx] at hc
     have HA2 := Aside0.mk (HA.out.keep p hjl (by rw [← hxe]; exact hpx))
     rw [← hxe] at HA2
     have HRa := Aside0.mk hRa
     have HG2 := Aside0.mk hgr2
     have HYL := Aside0.mk hylen
     have hi64 : (i : Int) ≤ 9223372036854775806 := by omega
     have pi0 : 0 ≤ (i : Int) := by omega
     have qi0 : (i : Int) < (l0.length : Int) := by omega
     have hv0 : ∀ w', Below (wr.alloc (.cells #[.int .i64 x.f0, .int .i64 x.f1, .int .i64 x.f2, .int .i64 x.f3, .int .i64 x.f4, .int .i64 x.f5] 35)).heap.size (wr.alloc (.cells #[.int .i64 x.f0, .int .i64 x.f1, .int .i64 x.f2, .int .i64 x.f3, .int .i64 x.f4, .int .i64 x.f5] 35)) w' → w'.cell? ⟨wr.heap.size, 0, none⟩ = some (.int .i64 x.f0) := fun w' hb => (blk_cell (blk_below (heap_alloc_new wr _) hb) 0).trans rfl
     have hv1 : ∀ w', Below (wr.alloc (.cells #[.int .i64 x.f0, .int .i64 x.f1, .int .i64 x.f2, .int .i64 x.f3, .int .i64 x.f4, .int .i64 x.f5] 35)).heap.size (wr.alloc (.cells #[.int .i64 x.f0, .int .i64 x.f1, .int .i64 x.f2, .int .i64 x.f3, .int .i64 x.f4, .int .i64 x.f5] 35)) w' → w'.cell? ⟨wr.heap.size, 1, none⟩ = some (.int .i64 x.f1) := fun w' hb => (blk_cell (blk_below (heap_alloc_new wr _) hb) 1).trans rfl
     have hv2 : ∀ w', Below (wr.alloc (.cells #[.int .i64 x.f0, .int .i64 x.f1, .int .i64 x.f2, .int .i64 x.f3, .int .i64 x.f4, .int .i64 x.f5] 35)).heap.size (wr.alloc (.cells #[.int .i64 x.f0, .int .i64 x.f1, .int .i64 x.f2, .int .i64 x.f3, .int .i64 x.f4, .int .i64 x.f5] 35)) w' → w'.cell? ⟨wr.heap.size, 2, none⟩ = some (.int .i64 x.f2) := fun w' hb => (blk_cell (blk_below (heap_alloc_new wr _) hb) 2).trans rfl
     have hv3 : ∀ w', Below (wr.alloc (.cells #[.int .i64 x.f0, .int .i64 x.f1, .int .i64 x.f2, .int .i64 x.f3, .int .i64 x.f4, .int .i64 x.f5] 35)).heap.size (wr.alloc (.cells #[.int .i64 x.f0, .int .i64 x.f1, .int .i64 x.f2, .int .i64 x.f3, .int .i64 x.f4, .int .i64 x.f5] 35)) w' → w'.cell? ⟨wr.heap.size, 3, none⟩ = some (.int .i64 x.f3) := fun w' hb => (blk_cell (blk_below (heap_alloc_new wr _) hb) 3).trans rfl
     have hv4 : ∀ w', Below (wr.alloc (.cells #[.int .i64 x.f0, .int .i64 x.f1, .int .i64 x.f2, .int .i64 x.f3, .int .i64 x.f4, .int .i64 x.f5] 35)).heap.size (wr.alloc (.cells #[.int .i64 x.f0, .int .i64 x.f1, .int .i64 x.f2, .int .i64 x.f3, .int .i64 x.f4, .int .i64 x.f5] 35)) w' → w'.cell? ⟨wr.heap.size, 4, none⟩ = some (.int .i64 x.f4) := fun w' hb => (blk_cell (blk_below (heap_alloc_new wr _) hb) 4).trans rfl
     have hv5 : ∀ w', Below (wr.alloc (.cells #[.int .i64 x.f0, .int .i64 x.f1, .int .i64 x.f2, .int .i64 x.f3, .int .i64 x.f4, .int .i64 x.f5] 35)).heap.size (wr.alloc (.cells #[.int .i64 x.f0, .int .i64 x.f1, .int .i64 x.f2, .int .i64 x.f3, .int .i64 x.f4, .int .i64 x.f5] 35)) w' → w'.cell? ⟨wr.heap.size, 5, none⟩ = some (.int .i64 x.f5) := fun w' hb => (blk_cell (blk_below (heap_alloc_new wr _) hb) 5).trans rfl
     clear hpx hRa hgr2 HA HR HGr hC hxe HB HOK HG hylen
     go_wp2_with (first | (go_at_fn f; refine hc.mono ?_; rintro e w' ⟨rfl, hb'⟩; have hy0 := hv0 w' hb'; have hy1 := hv1 w' hb'; have hy2 := hv2 w' hb'; have hy3 := hv3 w' hb'; have hy4 := hv4 w' hb'; have hy5 := hv5 w' hb'; have HR2 := Aside0.mk (Kd.R_below HRa.out hb'); have HG3 := Aside0.mk (grown2 HG2.out (grownBy_of_below hb'))) | ((with_reducible refine gate_ (.store 35 (.tmp 33) (.tmp 32)) rfl ?_); refine flat35.put_list (o' := i * 6) ?hN ?hgd 35 (.tmp 33) (.tmp 32) ?ho HR2.out HYL.out hin x (.agg #[.int .i64 x.f0, .int .i64 x.f1, .int .i64 x.f2, .int .i64 x.f3, .int .i64 x.f4, .int .i64 x.f5]) ?ha ?hf ?hx (kd_seg x) size35 ?_; (case hN => rfl); (case hgd => rfl); (case ho => rfl); (case ha => rfl); (case hf => rfl); (case hx => rfl); intro w9 h9 hg9))
     go_roundg k1
     case measure => omega
     case rel => exact ⟨i + 1, j + 1, ys.set i x, by simp, by simp, ⟨by have := HJ.out; omega⟩, HA2, ⟨by omega⟩, ⟨h9⟩, ⟨grown2 HG3.out hg9⟩⟩
theorem Tells.none {P : Program} {f : Nat} {lb : Array Value} {p : S35 → Bool} {w : World} {g : Option Nat} (h : Tells P f lb p w g) : Tells P f lb p w none := fun W x hg => h W x ⟨hg.os, hg.tape, hg.output, hg.size, fun k hk _ => hg.block k hk (by simp)⟩
set_option maxHeartbeats 8000000 in
set_option maxRecDepth 100000 in
theorem DeleteFunc.calls (v : Value) (l0 : List S35) (f : Nat) (lb : Array Value) (p : S35 → Bool) (w0 w : World) (ok : Nat → Prop) (hr0 : Kd.R k35 35 w w0.heap.size ok v l0) (hB : Below w0.heap.size w0 w)
 (eg : ∀ args w, (callFunc f args).run Try.prog w = .ok (.enter f args) w) (hp : ∀ g, w0.heap.size ≤ g → Tells Try.prog f lb p w (some g)) :
 Calls Try.prog 35 #[v, .func (.func f) #[] lb] w fun e w' => ∃ v0_ : Value, e = .returned v0_ ∧ Kd.R k35 35 w' w0.heap.size ok v0_ (l0.filter (fun x => !p x)) ∧ Below w0.heap.size w0 w' := by
 rcases flat35.block hr0 with ⟨rfl, rfl⟩ | ⟨g, cap, cur, rfl, hg, hok, _, _, _, _, _⟩
 ·have hC : Kd.C k35 w none ([] : List S35).length [] := (Kd.R_reads' hr0).2.2
  have hI := IndexFunc.calls none 0 [] f lb p w none hC (Nat.le_refl _) eg (hp w0.heap.size (Nat.le_refl _)).none
  have HR := Aside0.mk hr0
  have HB := Aside0.mk hB
  clear hC hr0 hB hp
  go_enter Try.func35, Try.ntmps35
  go_wp2_with (go_at_call 45; refine hI.mono ?_; rintro e w' ⟨rfl, hb'⟩)
  go_ret
  exact ⟨_, rfl, Kd.R_below HR.out hb', HB.out.trans (hb'.mono HB.out.size)⟩
 ·refine (DeleteFunc.block g _ cap l0 f lb p w0 w ok hok hr0 rfl hB eg (hp g hg)).mono ?_
  rintro e w' ⟨v0_, he, hr, hgr⟩
  exact ⟨v0_, he, hr, below_grown hB hgr hg⟩
end Go.Proofs.Ytghepgcbciikmaa.PA
