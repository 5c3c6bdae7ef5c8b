-- The law's row, after the pattern of the printed rows; its second parameter is a struct of a slice of records.
import Derived.Test.YtpifbgkppfginaaRows
import Derived.Test.YtpifbgkppfginaaPZx36
import Derived.Test.YtpifbgkppfginaaPureRefsDoes
import Derived.WalkKit
import Derived.ProofKit
import Derived.OpenShut
import Derived.ShutString
import Derived.ChangeOld
import Derived.ChangeSame
import Derived.Below
import Derived.SizedLaws
import Derived.Deep.Slices
import Derived.Deep.Fields
import Derived.Test.YtpifbgkppfginaaWSized
namespace Go.Proofs.Ytpifbgkppfginaa.refsDoes
open Go.ChangeShapes Go.WideShapes Go.ChangeAt Go.RowKit
open Go.ChangeMaps (open_string shut_string)
set_option linter.unusedVariables false
theorem own : ownKnob Try.prog.godebug = none := by kernel_rfl
theorem laidOut : laidOutB Try.prog = true := by kernel_rfl
def IsRow (k : IntKind) (w : World) (a : Option Addr) (len cap : Nat) (zs : List Int) : Prop :=
 (a = none ∧ len = 0 ∧ cap = 0 ∧ zs = []) ∨
 ∃ x, a = some x ∧ len ≤ cap ∧ cap ≤ maxLen ∧ zs.length = cap ∧ (∀ i, i < zs.length → w.cell? (x.add i) = some (.int k (zs.getD i 0))) ∧ ∀ n ∈ zs, (Lit.int k n).wf = true
theorem rows_open {H : Type} {enc : TypeId × Value → H} {W : World} {base : Nat} {spare : Nat → Bool} {held : Bool} {fuel : Nat} {v : Value} {x : DataW H × List MemPlace} (h : DataW.trod enc Try.prog W base spare held fuel 23 [v] = some x) :
 ∃ (A : Option Addr) (c : Nat) (l : List PZ.S33), v = .slice A l.length c ∧ l.length ≤ c ∧ l.length ≤ maxLen ∧ Go.Proofs.YtpifbgkppfginaaW.PrintWords.Kd.C PZ.k33 W A l.length l := by
 rcases Go.Deep.open_slice Try.underlying23 h with ⟨hc, _⟩ | ⟨a, len, cap, m, n, D, Pl, hcs, hb, hl, hm, hmm, hx, hi⟩
 ·simp only [List.cons.injEq, and_true] at hc
  subst hc
  exact ⟨none, 0, [], rfl, Nat.le_refl _, Nat.zero_le _, rfl, by decide, fun hn => absurd hn (by decide)⟩
 ·simp only [List.cons.injEq, and_true] at hcs
  subst hcs
  have hlm : len ≤ m := by rw [hmm]; split <;> omega
  have hC : Try.prog.cellsOf 33 = 3 := by kernel_rfl
  have key : ∀ i, i < len → ∃ r : PZ.S33, ∀ j u, ([.int .i64 r.f0, .int .i64 r.f1, .string r.f2] : List Value)[j]? = some u → W.cell? (a.add (i * 3 + j)) = some u := by
   intro i hil
   obtain ⟨cs', hc, ht'⟩ := hi i (by omega)
   rw [hC] at hc
   obtain ⟨_, hcl, hat⟩ := World.cells?_some hc
   obtain ⟨xs, n', _, _, _, hlen, hf⟩ := DataW.trod_struct Try.underlying33 ht'
   match cs', hcl with
   | [c0, c1, c2], _ =>
    have hxl : xs.length = 3 := hlen
    have g0 := hf 0 _ rfl
    have g1 := hf 1 _ rfl
    have g2 := hf 2 _ rfl
    rw [List.getElem?_eq_getElem (by omega)] at g0 g1 g2
    have q0 : DataW.trod enc Try.prog W base spare held n' 3 [c0] = some xs[0] := g0
    have q1 : DataW.trod enc Try.prog W base spare held n' 3 [c1] = some xs[1] := g1
    have q2 : DataW.trod enc Try.prog W base spare held n' 9 [c2] = some xs[2] := g2
    obtain ⟨n0, e0, _, _⟩ := DataW.trod_int Try.underlying3 q0
    obtain ⟨n1, e1, _, _⟩ := DataW.trod_int Try.underlying3 q1
    obtain ⟨s2, e2, _, _⟩ := DataW.trod_string Try.underlying9 q2
    simp only [List.cons.injEq, and_true] at e0 e1 e2
    subst e0 e1 e2
    refine ⟨⟨n0, n1, s2⟩, fun j u hj => ?_⟩
    obtain ⟨hjl, hju⟩ := List.getElem?_eq_some_iff.1 hj
    have := hat j (by simpa using hjl)
    rw [← Go.Deep.add_add, this]
    exact hj
  let f : Nat → PZ.S33 := fun i => if h : i < len then (key i h).choose else ⟨0, 0, ByteArray.empty⟩
  have hlf : ((List.range len).map f).length = len := by simp
  refine ⟨some a, cap, (List.range len).map f, by rw [hlf], by rw [hlf]; exact hl, by rw [hlf]; exact Nat.le_trans hl hm, rfl, by rw [hlf]; exact Nat.le_trans hl (Nat.le_trans hm (by decide)), fun _ => ⟨a, rfl, fun j p hj => ?_⟩⟩
  obtain ⟨hjl, rfl⟩ := List.getElem?_eq_some_iff.1 hj
  rw [hlf] at hjl
  have ef : ((List.range len).map f)[j]'(by rw [hlf]; exact hjl) = (key j hjl).choose := by
   rw [List.getElem_map, List.getElem_range]
   exact dif_pos hjl
  rw [ef]
  exact ⟨_, rfl, PZ.k33_mk W _, (key j hjl).choose_spec⟩
set_option maxHeartbeats 4000000 in
set_option maxRecDepth 100000 in
theorem lifted (os : Os) (started : os.Started) (H : Type) (enc : TypeId × Value → H) :
 ReturnsInHanded {} Try.checked os 7 .any (Rows.refsDoesSpec.pre6 enc Try.prog Try.f7 Rows.refsDoesRow.domain false) (Rows.refsDoesSpec.post enc Try.prog Try.f7 false true false false) := by
 refine returnsInHanded_of_change_sized (C := Try.checked) own started (by kernel_rfl) Try.func7
  (ChangeSpec.witness6 (enc := enc) (C := Try.checked) false ⟨#[], #[.slice none 0 0, .agg #[.slice none 0 0], .string ByteArray.empty, .int .i64 0, .int .i64 0], []⟩ 8 (by kernel_rfl) (by kernel_rfl) (by kernel_rfl) (by kernel_rfl)) ?_
 intro W base args ds gs before hval0 hW hcnd hsz0 _
 have hsz : (DataW.weightsEach Try.prog (Try.f7.params.toList ++ Rows.refsDoesSpec.plain.varTypes Try.prog) (ds ++ gs)).all (· ≤ reachBytes) = true := hsz0
 have hval : ∀ (j : Nat) t v, Try.f7.params[j]? = some t → args[j]? = some v → Value.okWide Try.prog W .any base t v := hval0
 have hW' := hW
 obtain ⟨p, q, hA0, hV, rfl, hfz, hnd⟩ := hW
 have hA : DataW.TrodAll enc Try.prog W 0 (fun _ => true) true Try.f7.params.toList args.toList ds p := hA0
 rw [Try.params7] at hA hval hsz
 obtain ⟨v0, vs0, d0, ds0, p0, q0, hargs, rfl, rfl, h0, r0⟩ := trodAll_cons hA
 obtain ⟨v1, vs1, d1, ds1, p1, q1, rfl, rfl, rfl, h1, r1⟩ := trodAll_cons r0
 obtain ⟨v2, vs2, d2, ds2, p2, q2, rfl, rfl, rfl, h2, r2⟩ := trodAll_cons r1
 obtain ⟨v3, vs3, d3, ds3, p3, q3, rfl, rfl, rfl, h3, r3⟩ := trodAll_cons r2
 obtain ⟨v4, vs4, d4, ds4, p4, q4, rfl, rfl, rfl, h4, r4⟩ := trodAll_cons r3
 obtain ⟨rfl, rfl, rfl⟩ := trodAll_nil r4
 obtain rfl : args = #[v0, v1, v2, v3, v4] := by cases args; simp_all
 obtain ⟨rfl, rfl⟩ := trodVars_none hV
 obtain ⟨a0, len0, cap0, rfl⟩ := okWide_slice Try.underlying36 (hval 0 36 v0 rfl rfl)
 have k0 := h0
 have lt0 : ∀ x ∈ p0, x.block < W.heap.size := by obtain ⟨m, hm⟩ := k0; exact DataW.trod_lt m _ _ _ hm
 obtain ⟨z0, w0⟩ : ∃ zs, IsRow .i64 W a0 len0 cap0 zs := by
  obtain ⟨fuel, hf⟩ := h0
  rcases open_ints Try.underlying36 Try.underlying3 (by kernel_rfl) hf with ⟨hcs, _⟩ | ⟨x, l, c, zs, hcs, _, hl, hm, hz, _, hcell, hwz⟩
  ·simp [Value.cells] at hcs
   obtain ⟨rfl, rfl, rfl⟩ := hcs
   exact ⟨[], .inl ⟨rfl, rfl, rfl, rfl⟩⟩
  ·simp [Value.cells] at hcs
   obtain ⟨rfl, rfl, rfl⟩ := hcs
   exact ⟨zs, .inr ⟨_, rfl, hl, hm, by simpa using hz, hcell, hwz⟩⟩
 have y0 : len0 * 8 ≤ 140737488351232 := Go.Proofs.YtpifbgkppfginaaW.PrintWords.sized_ints hsz (j := 0) (t := 36) rfl rfl Try.underlying36 Try.underlying3 (by kernel_rfl) (by kernel_rfl) h0
 have k1 := h1
 have lt1 : ∀ x ∈ p1, x.block < W.heap.size := by obtain ⟨m, hm⟩ := k1; exact DataW.trod_lt m _ _ _ hm
 obtain ⟨A1, c1, l1, rfl, hc1, hm1, hr1⟩ : ∃ (A : Option Addr) (c : Nat) (l : List PZ.S33), v1 = .agg #[.slice A l.length c] ∧ l.length ≤ c ∧ l.length ≤ maxLen ∧ Go.Proofs.YtpifbgkppfginaaW.PrintWords.Kd.C PZ.k33 W A l.length l := by
  obtain ⟨cs, rfl, hcs⟩ := okWide_struct Try.underlying25 (hval 1 25 v1 rfl rfl)
  obtain ⟨fuel, hf⟩ := h1
  obtain ⟨y, n, _, _, ht⟩ := trod_struct1 Try.underlying25 hf
  have hC : Try.prog.cellsOf 25 = 1 := by kernel_rfl
  have hs1 : cs.size = 1 := hcs.trans hC
  obtain ⟨u, rfl⟩ := Array.size_eq_one_iff.1 hs1
  have ht' : DataW.trod enc Try.prog W 0 (fun _ => true) true n 23 [u] = some y := ht
  obtain ⟨A, c, l, rfl, r⟩ := rows_open ht'
  exact ⟨A, c, l, rfl, r⟩
 obtain ⟨a2, rfl, rfl, rfl, y2⟩ := open_string Try.underlying9 (hval 2 9 v2 rfl rfl) h2
 have w2 : a2.size ≤ 140737488351232 := by
  have z := sized_string hsz (j := 2) (t := 9) rfl rfl
  rw [Array.length_toList] at z
  exact z
 obtain ⟨a3, rfl, rfl, rfl, w3⟩ := open_int Try.underlying3 (hval 3 3 v3 rfl rfl) h3
 obtain ⟨a4, rfl, rfl, rfl, w4⟩ := open_int Try.underlying3 (hval 4 3 v4 rfl rfl) h4
 clear hA0 hval0 hsz0 hsz
 obtain ⟨l0, rfl, hr0, hm0, hw0, hc0⟩ := Go.Proofs.YtpifbgkppfginaaW.PrintWords.ReadsInt.ofRowC w0
 obtain ⟨k, hk⟩ := Pure.RefsDoes l0 l1 a2 a3 a4 hm0 y0 hw0 hm1 w2
 refine (PZ.law09_RefsDoes.calls k _ _ l0 (fun k_ => k_ < W.heap.size) A1 c1 l1 a2 a3 a4 true W (Go.Proofs.YtpifbgkppfginaaW.PrintWords.Kd.C_of_reads (d := (0 : Int)) (h1 := fun _ => rfl) hr0) hc0 (fun _ h => h) (Go.Proofs.YtpifbgkppfginaaW.PrintWords.Kd.V_mk hc1 (Go.Proofs.YtpifbgkppfginaaW.PrintWords.Kd.C_F ⟨fun _ h => h⟩ hr1)) hk).mono fun e W' ⟨he, bel⟩ => ?_
 subst he
 exact ⟨_, rfl, _, _, _, [], _, [], hW', trodAll_mk1 (shut_bool Try.underlying4 _), (trodAll_cons_mk (Below.trod laidOut (by kernel_rfl) (of_decide_eq_true (by kernel_rfl)) k0 bel lt0) (trodAll_cons_mk (Below.trod laidOut (by kernel_rfl) (of_decide_eq_true (by kernel_rfl)) k1 bel lt1) (trodAll_cons_mk (shut_string Try.underlying9 y2) (trodAll_cons_mk (shut_int Try.underlying3 w3) (trodAll_cons_mk (shut_int Try.underlying3 w4) trodAll_mk0))))), rfl, bel.frame _, fun h => by cases h⟩
theorem over : Rows.refsDoesRow.holds Try.pinned (OpenSpec.ofChange Rows.refsDoesSpec) :=
 OpenClaim.holds_of_wide 7 Try.f7 rfl rfl rfl rfl rfl rfl rfl ⟨rfl, rfl, rfl, rfl, rfl⟩ rfl rfl rfl rfl rfl (by kernel_rfl) Try.func7 (by kernel_rfl)
  (of_decide_eq_true (by kernel_rfl)) (by unfold Func.isWrapper; first | (rw [if_pos (by decide +kernel)]; kernel_rfl) | (rw [if_neg (by decide +kernel)]; exact ⟨rfl, rfl⟩))
  (fun os started H enc _ => lifted os started H enc)
theorem proved : Rows.RefsDoesSaid := over
#print axioms proved
end Go.Proofs.Ytpifbgkppfginaa.refsDoes
namespace Go.Proofs.Ytpifbgkppfginaa
theorem refsDoes_holds : Rows.RefsDoesSaid := refsDoes.proved
end Go.Proofs.Ytpifbgkppfginaa
