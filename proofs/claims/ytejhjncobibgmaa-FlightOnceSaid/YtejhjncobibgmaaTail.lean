/- The rest of a region that draws its order, at once: what is left are moves and choices that tell true, and operations that are not wanted. -/
import Derived.Test.YtejhjncobibgmaaMine
import Derived.Test.YtejhjncobibgmaaWTab
set_option linter.unusedVariables false
namespace Go.Proofs.YtejhjncobibgmaaW.PrintWords
open Go.RowKit
section
open Go.Proofs.YtejhjncobibgmaaW.PrintLast
variable {P : Program} {ops : Array Oper} {Q : Exit → Act → World → Prop} {md : Region.Mode} {S : World → Prop} {ds : List Nat}
/-- A move or a choice: what it tells. -/
def tailVal (a : Act) (o : Oper) : Value := match o.op with
  | .move x => a.eval x
  | .pick c t f => match a.eval c with
    | .bool true => a.eval t
    | _ => undef
  | _ => undef
def tailOne (ops : Array Oper) (a : Act) (o : Oper) (b : Bool) : Bool := match b with
  | true => Region.wanted o (yielded ops a.tmps) && match o.op with
    | .move x => match a.eval x with
      | .bool true => true
      | _ => false
    | .pick c t f => match a.eval c, a.eval t with
      | .bool true, .bool true => true
      | _, _ => false
    | _ => false
  | false => !Region.wanted o (yielded ops a.tmps)
def tailV (b : Bool) : Value := if b then .bool true else undef
theorem tailOne_yields {a : Act} {o : Oper} {b : Bool} (h : tailOne ops a o b = true) : Yields P ops o (tailV b) a := by
  cases b with
  | false =>
    unfold tailOne at h
    exact Or.inr ⟨by simpa using h, rfl⟩
  | true =>
    unfold tailOne at h
    simp only [Bool.and_eq_true] at h
    refine Or.inl ⟨h.1, fun w => ?_⟩
    have h2 := h.2
    unfold execOp
    cases ho : o.op with
    | move x =>
      simp only [ho] at h2 ⊢
      split at h2
      · rename_i e
        rw [e]
        rfl
      · cases h2
    | pick c t f =>
      simp only [ho] at h2 ⊢
      split at h2
      · rename_i e1 e2
        rw [e1, e2]
        rfl
      · cases h2
    | _ => simp only [ho] at h2; cases h2
def tailRun (T : Bool × List (List Nat × List Nat)) (ops : Array Oper) : List (Nat × Nat × Bool) → List Bool → Act → Bool
  | [], _, _ => true
  | (i, N, b) :: r, l, a => T.1 && freeT T.2 l i && readyAt T.2 l i && (match ops[i]? with
    | some o => (o.dst == some N) && tailOne ops a o b
    | none => false) && tailRun T ops r (l.set i true) (a.put (some N) (tailV b))
def tailMarks : List (Nat × Nat × Bool) → Array Bool → Array Bool
  | [], l => l
  | (i, _, _) :: r, l => tailMarks r (l.setIfInBounds i true)
def tailAct : List (Nat × Nat × Bool) → Act → Act
  | [], a => a
  | (_, N, b) :: r, a => tailAct r (a.put (some N) (tailV b))
theorem tails_ {T : Bool × List (List Nat × List Nat)} (hT : rtab md ops = T) (hQ : ∀ (c : List PanicEntry) (a : Act) (N : Tmp) (v : Value) (w : World), Q (.panic c) (a.put (some N) v) w → Q (.panic c) a w) : ∀ (is : List (Nat × Nat × Bool)) {n fuel : Nat} {l : Array Bool} {a : Act} {w : World} (hn : n = fuel + is.length) (hr : tailRun T ops is l.toList a = true)
    (h : wpAnyLast P md ops Q S ds fuel (tailMarks is l) (tailAct is a) w), wpAnyLast P md ops Q S ds n l a w
  | [], n, fuel, l, a, w, hn, hr, h => by
    subst hn
    exact h
  | (i, N, b) :: r, n, fuel, l, a, w, hn, hr, h => by
    obtain rfl : n = (fuel + r.length) + 1 := by rw [hn, List.length_cons]; omega
    unfold tailRun at hr
    simp only [Bool.and_eq_true] at hr
    obtain ⟨⟨⟨⟨h1, h2⟩, h3⟩, h4⟩, h5⟩ := hr
    cases ho : ops[i]? with
    | none => rw [ho] at h4; cases h4
    | some o =>
      rw [ho] at h4
      simp only [Bool.and_eq_true, beq_iff_eq] at h4
      refine pure_ (l.setIfInBounds i true) ho h4.1 (any_of hT ?_) (fun c a1 w1 hq => hQ c a1 N _ w1 (by rw [h4.1] at hq; exact hq)) (tailOne_yields h4.2) rfl ?_
      · unfold anyT
        rw [h1, h2, h3, Array.toList_setIfInBounds]
        simp
      · exact tails_ hT hQ r rfl (by rw [Array.toList_setIfInBounds]; exact h5) h
end
end Go.Proofs.YtejhjncobibgmaaW.PrintWords
