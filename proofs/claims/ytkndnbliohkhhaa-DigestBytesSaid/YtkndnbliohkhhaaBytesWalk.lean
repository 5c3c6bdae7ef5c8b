/- The walk of the law DigestBytes: the bytes of a text in memory of the call's own, one of them written, and read back as a text. -/
import Derived.Test.YtkndnbliohkhhaaEvDigestBytes
import Derived.Laws.IdiomStrings
set_option linter.unusedVariables false
set_option linter.unusedSimpArgs false
namespace Go.Proofs.Ytkndnbliohkhhaa.PDigestBytes
open Go.RowKit Go.Proofs.YtkndnbliohkhhaaW.PrintWords Go.Proofs.YtkndnbliohkhhaaW.PrintLast Go.Proofs.Ytkndnbliohkhhaa.Dig
section
variable {P : Program}
/-- '[]byte(s)': a new block that holds the bytes, and whose cells are not frozen. -/
def BytesAt (W : World) (g : Nat) (l : List UInt8) : Prop := ∃ (C : Array Value) (e : TypeId) (n : Nat), W.heap[g]? = some (.cells C e (n, n + 1)) ∧ l.length ≤ n ∧ ∀ j (hj : j < l.length), C[j]? = some (.int .u8 (l[j].toNat : Int))
theorem BytesAt.cell {W : World} {g : Nat} {l : List UInt8} (h : BytesAt W g l) (j : Nat) (hj : j < l.length) : W.cell? ⟨g, j, none⟩ = some (.int .u8 (l[j].toNat : Int)) := by
  obtain ⟨C, e, n, hb, hn, hc⟩ := h
  simp [World.cell?, hb, hc j hj]
theorem BytesAt.frozen {W : World} {g : Nat} {l : List UInt8} (h : BytesAt W g l) (j : Nat) (hj : j < l.length) : W.frozen? ⟨g, j, none⟩ = false := by
  obtain ⟨C, e, n, hb, hn, hc⟩ := h
  simp [World.frozen?, hb]
  omega
theorem wpList_bytes {ops : Array Oper} {rest : List Oper} {o : Oper} {a : Act} {W : World} {Q : Exit → Act → World → Prop} (hgd : o.guard = none) (s d e : TypeId) (x : Operand) (ho : o.op = .convert s d x) (t : ByteArray) (hx : a.eval x = .string t)
    (hs : P.underlying s = some .string) (hd : P.underlying d = some (.slice e)) (he : P.underlying e = some (.int .u8))
    (h : ∀ w' c, BytesAt w' W.heap.size (bs t) → Below W.heap.size W w' → wpList P ops Q rest (a.put o.dst (.slice (some ⟨W.heap.size, 0, none⟩) t.size c)) w') : wpList P ops Q (o :: rest) a W := by
  refine wpList_plain hgd fun _ hK => ?_
  have hr := run_bytes_of_string (P := P) W s d e t hs hd he
  unfold Oper.wp execOp
  simp only [ho, hx, hr, Result.andThen_ok, Sem.run_bind, Sem.run_pure]
  refine hK _ _ (h _ _ ⟨_, e, _, heap_alloc_new W.drew _, ?_, ?_⟩ (below_alloc (below_drew1 (Below.refl _ _)) _))
  · simp [bytesRow, bs_length]
  · intro j hj
    have hj' : j < t.data.size := hj
    have e1 : (bytesRow t (grownCap W t.size 0 e))[j]? = some (.int .u8 (t.data[j].toNat : Int)) := by
      unfold bytesRow
      rw [Array.getElem?_append_left (by simpa using hj')]
      simp only [Array.getElem?_map, Array.getElem?_eq_getElem hj', Option.map_some]
    rw [e1]
    rfl
theorem wpList_text {ops : Array Oper} {rest : List Oper} {o : Oper} {a : Act} {W : World} {Q : Exit → Act → World → Prop} (hgd : o.guard = none) (s d e : TypeId) (x : Operand) (ho : o.op = .convert s d x) (g n c : Nat) (l : List UInt8) (hx : a.eval x = .slice (some ⟨g, 0, none⟩) n c) (hn : n = l.length)
    (hs : P.underlying s = some (.slice e)) (he : P.underlying e = some (.int .u8)) (hd : P.underlying d = some .string) (hc : ∀ j (hj : j < l.length), W.cell? ⟨g, j, none⟩ = some (.int .u8 (l[j].toNat : Int)))
    (h : wpList P ops Q rest (a.put o.dst (.string ⟨l.toArray⟩)) W) : wpList P ops Q (o :: rest) a W := by
  subst hn
  refine wpList_plain hgd fun _ hK => ?_
  have hr := run_convert_bytes_back (P := P) W s d e ⟨g, 0, none⟩ c l hs he hd (fun j hj => by rw [Addr.add_lit, Nat.zero_add]; exact hc j hj)
  unfold Oper.wp execOp
  simp only [ho, hx, hr, Result.andThen_ok, Sem.run_bind, Sem.run_pure]
  exact hK _ _ h
end
theorem BytesAt.at_ {W : World} {g : Nat} {l : List UInt8} (h : BytesAt W g l) {i : Nat} {c : UInt8} (hc : l[i]? = some c) : W.cell? ⟨g, i, none⟩ = some (.int .u8 (c.toNat : Int)) ∧ W.frozen? ⟨g, i, none⟩ = false := by
  obtain ⟨hi, rfl⟩ := List.getElem?_eq_some_iff.1 hc
  exact ⟨h.cell i hi, h.frozen i hi⟩
theorem set_cell {W : World} {g : Nat} {l : List UInt8} (h : BytesAt W g l) (i : Nat) (hi : i < l.length) (b : UInt8) : ∀ j (hj : j < (l.set i b).length), (W.setCell ⟨g, i, none⟩ (.int .u8 (b.toNat : Int))).cell? ⟨g, j, none⟩ = some (.int .u8 ((l.set i b)[j].toNat : Int)) := by
  intro j hj
  rw [List.length_set] at hj
  by_cases hij : i = j
  · subst hij
    rw [List.getElem_set_self]
    exact World.cell?_setCell_same _ _ _ (h.cell i hi)
  · rw [List.getElem_set_ne hij]
    rw [World.cell?_setCell_other _ _ _ _ (fun e => hij (by injection e))]
    exact h.cell j hj
set_option maxHeartbeats 8000000 in
set_option maxRecDepth 100000 in
theorem bytes_calls (k : Nat) (s : ByteArray) (a1 a2 a3 m : Int) (b cb : UInt8) (i : Nat) (d1 d2 v1 v2 : Int) (w : World) (hsane : storagebarterlaw02_sane.f k = some true)
    (hs : s.size ≠ 0) (h64 : s.size ≤ 562949953405408) (ha2 : a2 = (b.toNat : Int)) (hi : i < (bs s).length) (hcb : (bs s)[i]? = some cb) (hidx : Int.tmod (wrap64 a1) (s.size : Int) = (i : Int)) (hm : storagebartermake_Mod.f a3 2147483646 = some m)
    (hd1 : digest_Sum.f k s = some d1) (hd2 : digest_Sum.f k ⟨((bs s).set i b).toArray⟩ = some d2) (hv1 : digest_At.f k s (wrap64 (1 + m)) = some v1) (hv2 : digest_At.f k ⟨((bs s).set i b).toArray⟩ (wrap64 (1 + m)) = some v2)
    (he1 : (d1 == d2) = ((cb.toNat : Int) == (b.toNat : Int))) (he2 : (v1 == v2) = ((cb.toNat : Int) == (b.toNat : Int))) :
    Calls Try.prog 3 #[.string s, .int .u16 a1, .int .u8 a2, .int .i64 a3] w fun e w' => e = .returned (.bool true) ∧ Below w.heap.size w w' := by
  subst ha2
  have HB := Aside0.mk (Below.refl w.heap.size w)
  have HSET : Aside0 (∀ {W : World} {g : Nat}, BytesAt W g (bs s) → ∀ j (hj : j < ((bs s).set i b).length), (W.setCell ⟨g, i, none⟩ (.int .u8 (b.toNat : Int))).cell? ⟨g, j, none⟩ = some (.int .u8 (((bs s).set i b)[j].toNat : Int))) := ⟨fun h => set_cell h i hi b⟩
  have hlen : (bs s).length = s.size := bs_length s
  have c1 : ((s.size : Int) == 0) = false := beq_eq_false_iff_ne.mpr (by omega)
  have c1b : (s.size == 0) = false := beq_eq_false_iff_ne.mpr hs
  have c1c : (s.size = 0) = False := eq_false hs
  have p1 : (0 : Int) ≤ (i : Int) := by omega
  have q1 : (i : Int) < (s.size : Int) := by omega
  have HI := Aside0.mk hi
  have HL := Aside0.mk hlen
  have HSa := Aside0.mk hsane
  have HM := Aside0.mk hm
  have HD1 := Aside0.mk hd1
  have HD2 := Aside0.mk hd2
  have HV1 := Aside0.mk hv1
  have HV2 := Aside0.mk hv2
  have HU := Aside0.mk hcb
  clear hi hlen hsane hm hd1 hd2 hv1 hv2 hs h64 hcb
  go_enter Try.func3, Try.ntmps3
  go_wp2_with (first | (go_at_call 8; (with_reducible refine (storagebarterlaw02_sane.calls k true _ HSa.out).mono ?_); rintro e w' ⟨rfl, ⟨nd, rfl⟩⟩) | ((with_reducible refine gate_ (.convert 9 24 (.tmp 19)) rfl ?_); refine wpList_bytes rfl 9 24 5 (.tmp 19) rfl s rfl Try.underlying9 Try.underlying24 Try.underlying5 ?_; intro W1 c hb1 hbel; replace hb1 : BytesAt W1 w.heap.size (bs s) := hb1; replace hbel := Aside0.mk hbel; obtain ⟨hx0, hf0⟩ := hb1.at_ HU.out; have hset := Aside0.mk (HSET.out hb1); clear hb1) | ((with_reducible refine gate_ (.convert 24 9 (.tmp 36)) rfl ?_); refine wpList_text rfl 24 9 5 (.tmp 36) rfl w.heap.size s.size c ((bs s).set i b) rfl (by rw [List.length_set]; exact HL.out.symm) Try.underlying24 Try.underlying5 Try.underlying9 hset.out ?_; clear hset hx0 hf0; have hB2 := Aside0.mk (Below.setCell (p := ⟨w.heap.size, i, none⟩) ((pw_below_drewN HB.out nd).trans hbel.out) (Nat.le_refl _) (.int .u8 (b.toNat : Int))); clear hbel; generalize W1.setCell ⟨w.heap.size, i, none⟩ (.int .u8 (b.toNat : Int)) = W2 at hB2 ⊢) | (go_at_call 9; (with_reducible refine (storagebartermake_Mod.calls a3 2147483646 m _ HM.out).mono ?_); rintro e w' ⟨rfl, ⟨nd, rfl⟩⟩) | (go_at_call 10; (with_reducible refine (digest_Sum.calls k s d1 _ HD1.out).mono ?_); rintro e w' ⟨rfl, ⟨nd, rfl⟩⟩) | (go_at_call 10; (with_reducible refine (digest_Sum.calls k ⟨((bs s).set i b).toArray⟩ d2 _ HD2.out).mono ?_); rintro e w' ⟨rfl, ⟨nd, rfl⟩⟩) | (go_at_call 11; (with_reducible refine (digest_At.calls k s (wrap64 (1 + m)) v1 _ HV1.out).mono ?_); rintro e w' ⟨rfl, ⟨nd, rfl⟩⟩) | (go_at_call 11; (with_reducible refine (digest_At.calls k ⟨((bs s).set i b).toArray⟩ (wrap64 (1 + m)) v2 _ HV2.out).mono ?_); rintro e w' ⟨rfl, ⟨nd, rfl⟩⟩))
  go_ret
  exact ⟨by rfl, by repeat (first | exact hB2.out | apply below_drew1 | apply pw_below_drewN)⟩
set_option maxHeartbeats 4000000 in
theorem empty_calls (k : Nat) (s : ByteArray) (a1 a2 a3 : Int) (w : World) (hsane : storagebarterlaw02_sane.f k = some true) (hs : s.size = 0) :
    Calls Try.prog 3 #[.string s, .int .u16 a1, .int .u8 a2, .int .i64 a3] w fun e w' => e = .returned (.bool true) ∧ Below w.heap.size w w' := by
  have HB := Aside0.mk (Below.refl w.heap.size w)
  have HSa := Aside0.mk hsane
  clear hsane
  have c1 : ((s.size : Int) == 0) = true := by rw [hs]; rfl
  go_enter Try.func3, Try.ntmps3
  go_wp2_with (first | (go_at_call 8; (with_reducible refine (storagebarterlaw02_sane.calls k true _ HSa.out).mono ?_); rintro e w' ⟨rfl, ⟨nd, rfl⟩⟩))
  go_ret
  exact ⟨by rfl, by repeat (first | exact HB.out | apply below_drew1 | apply pw_below_drewN)⟩
theorem Mod_is (a n : Int) (hn : 1 ≤ n) (hn2 : n ≤ 4611686018427387904) : storagebartermake_Mod.f a n = some (a % n) := by
  unfold storagebartermake_Mod.f
  rw [if_neg (by omega)]
  have h := Int.tmod_eq_emod (a := a) (b := n)
  have h0 : 0 ≤ a % n := Int.emod_nonneg _ (by omega)
  have h1 : a % n < n := Int.emod_lt_of_pos _ (by omega)
  have hab : ((n.natAbs : Nat) : Int) = n := by omega
  have key : Int.tmod (Int.tmod a n + n) n = a % n := by
    have e : (Int.tmod a n + n) % n = a % n := by
      rw [Int.add_emod_right]
      split at h
      · rw [h]; simp
      · rw [h, hab, Int.sub_emod]
        simp
    rw [Int.tmod_eq_emod_of_nonneg (by split at h <;> omega), e]
  rw [w64_id (by split at h <;> omega) (by split at h <;> omega), key]
theorem split_at (l : List UInt8) (i : Nat) (hi : i < l.length) (b : UInt8) : l = l.take i ++ l[i] :: l.drop (i + 1) ∧ l.set i b = l.take i ++ b :: l.drop (i + 1) := by
  constructor
  · rw [← List.drop_eq_getElem_cons hi, List.take_append_drop]
  · exact List.set_eq_take_append_cons_drop.trans (by rw [if_pos hi])
theorem differ_sum (l : List UInt8) (i : Nat) (hi : i < l.length) (b : UInt8) : (dsum l 1 == dsum (l.set i b) 1) = ((l[i].toNat : Int) == (b.toNat : Int)) := by
  obtain ⟨e1, e2⟩ := split_at l i hi b
  rw [e2]
  have h1 : dsum l 1 = dsum (l.take i ++ l[i] :: l.drop (i + 1)) 1 := congrArg (fun x => dsum x 1) e1
  rw [h1]
  generalize l[i] = c
  by_cases h : c = b
  · subst h
    rw [beq_self_eq_true, beq_self_eq_true]
  · rw [beq_eq_false_iff_ne.mpr (fun e => h (dsum_differs _ _ _ _ e)), beq_eq_false_iff_ne.mpr]
    intro e
    exact h (UInt8.toNat_inj.mp (by omega))
theorem differ_at (l : List UInt8) (i : Nat) (hi : i < l.length) (b : UInt8) (x : Int) (hx : ¬ P ∣ x) : (dat l x == dat (l.set i b) x) = ((l[i].toNat : Int) == (b.toNat : Int)) := by
  obtain ⟨e1, e2⟩ := split_at l i hi b
  rw [e2]
  have h1 : dat l x = dat (l.take i ++ l[i] :: l.drop (i + 1)) x := congrArg (fun z => dat z x) e1
  rw [h1]
  generalize l[i] = c
  by_cases h : c = b
  · subst h
    rw [beq_self_eq_true, beq_self_eq_true]
  · rw [beq_eq_false_iff_ne.mpr (fun e => h (dat_differs _ _ _ _ x hx e)), beq_eq_false_iff_ne.mpr]
    intro e
    exact h (UInt8.toNat_inj.mp (by omega))
theorem byte_rng {a : Int} (h : (Lit.int .u8 a).wf = true) : 0 ≤ a ∧ a ≤ 255 := by
  simp [Lit.wf, IntKind.min, IntKind.max, IntKind.bits, IntKind.signed] at h
  omega
theorem half_rng {a : Int} (h : (Lit.int .u16 a).wf = true) : 0 ≤ a ∧ a ≤ 65535 := by
  simp [Lit.wf, IntKind.min, IntKind.max, IntKind.bits, IntKind.signed] at h
  omega
theorem bytes_walk (s : ByteArray) (a1 a2 a3 : Int) (w : World) (w0 : s.size ≤ 140737488351232) (w1 : (Lit.int .u16 a1).wf = true) (w2 : (Lit.int .u8 a2).wf = true) (w3 : (Lit.int .i64 a3).wf = true) :
    Calls Try.prog 3 #[.string s, .int .u16 a1, .int .u8 a2, .int .i64 a3] w fun e w' => e = .returned (.bool true) ∧ Below w.heap.size w w' := by
  obtain ⟨k, hk0⟩ : ∃ k, s.size + 64 ≤ k := ⟨_, Nat.le_refl _⟩
  have r1 := half_rng w1
  have r2 := byte_rng w2
  by_cases hs : s.size = 0
  · exact empty_calls k s a1 a2 a3 w (sane_some k (by omega)) hs
  · have hmod : 0 ≤ a1 % (s.size : Int) := Int.emod_nonneg _ (by omega)
    have hmod2 : a1 % (s.size : Int) < (s.size : Int) := Int.emod_lt_of_pos _ (by omega)
    obtain ⟨i, hi⟩ := Int.eq_ofNat_of_zero_le hmod
    have hil : i < (bs s).length := by rw [bs_length]; omega
    have hidx : Int.tmod (wrap64 a1) (s.size : Int) = (i : Int) := by
      rw [w64_id (by omega) (by omega), Int.tmod_eq_emod_of_nonneg r1.1, hi]
    have hsz : (⟨((bs s).set i (UInt8.ofNat a2.toNat)).toArray⟩ : ByteArray).size = s.size := by
      show ((bs s).set i (UInt8.ofNat a2.toNat)).toArray.size = s.size
      simp [bs]
    have hbs : bs (⟨((bs s).set i (UInt8.ofNat a2.toNat)).toArray⟩ : ByteArray) = (bs s).set i (UInt8.ofNat a2.toNat) := rfl
    have hm0 : 0 ≤ a3 % 2147483646 := Int.emod_nonneg _ (by decide)
    have hm1 : a3 % 2147483646 < 2147483646 := Int.emod_lt_of_pos _ (by decide)
    have hb2 : ((UInt8.ofNat a2.toNat).toNat : Int) = a2 := by
      rw [UInt8.toNat_ofNat_of_lt' (by show a2.toNat < 256; omega)]
      omega
    have hpt : wrap64 (1 + a3 % 2147483646) = 1 + a3 % 2147483646 := w64_id (by omega) (by omega)
    have hnd : ¬ P ∣ (1 + a3 % 2147483646) := by
      intro h
      have := small_div _ h (by unfold P; omega) (by unfold P; omega)
      omega
    refine bytes_calls k s a1 a2 a3 (a3 % 2147483646) (UInt8.ofNat a2.toNat) ((bs s)[i]) i _ _ _ _ w (sane_some k (by omega)) hs (by omega) hb2.symm hil (List.getElem?_eq_getElem hil) hidx (Mod_is _ _ (by decide) (by decide))
      (sum_some s (by omega) k (by omega)) (sum_some _ (by rw [hsz]; omega) k (by rw [hsz]; omega)) (at_some s (by omega) _ k (by omega)) (at_some _ (by rw [hsz]; omega) _ k (by rw [hsz]; omega)) ?_ ?_
    · rw [hbs]
      exact differ_sum _ _ hil _
    · rw [hbs, hpt]
      exact differ_at _ _ hil _ _ hnd
end Go.Proofs.Ytkndnbliohkhhaa.PDigestBytes
