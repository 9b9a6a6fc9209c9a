/- Tables that are filled place by place. -/
import Derived.Test.YtmiajpoclgdhbaaDoorRelTab
namespace Go.Proofs.YtmiajpoclgdhbaaDoor
open Go.RowKit
set_option linter.unusedVariables false

/-- A table filled as far as row i, place k. -/
def fillTo (X : Nat → Nat → Bool) (i k : Nat) : Nat → Nat → Bool := fun a b => decide (a < i ∨ a = i ∧ b < k) && X a b
theorem fill_zero (X : Nat → Nat → Bool) : fillTo X 0 0 = fun _ _ => false := by
  funext a b; unfold fillTo; rw [decide_eq_false (by omega)]; rfl
theorem fill_step (X : Nat → Nat → Bool) (i k : Nat) : updT (fillTo X i k) i k (X i k) = fillTo X i (k + 1) := by
  funext a b
  unfold updT fillTo
  by_cases h : a = i ∧ b = k
  · rw [if_pos h, h.1, h.2, decide_eq_true (by omega)]; rfl
  · rw [if_neg h]
    congr 1
    rw [decide_eq_decide]; omega
theorem TabAt.fillNext {w : World} {g n i : Nat} {X : Nat → Nat → Bool} (h : TabAt w g n (fillTo X i n)) : TabAt w g n (fillTo X (i + 1) 0) :=
  h.congr fun a b ha hb => by unfold fillTo; congr 1; rw [decide_eq_decide]; omega
theorem TabAt.filled {w : World} {g n : Nat} {X : Nat → Nat → Bool} (h : TabAt w g n (fillTo X n 0)) : TabAt w g n X :=
  h.congr fun a b ha hb => by unfold fillTo; rw [decide_eq_true (by omega)]; rfl
theorem TabAt.fill {w : World} {g n i k : Nat} {X : Nat → Nat → Bool} (h : TabAt w g n (fillTo X i k)) (hi : i < n) (v : Bool) (hv : X i k = v) : TabAt (w.setCell ⟨g + 1 + i, k, none⟩ (.bool v)) g n (fillTo X i (k + 1)) := by
  rw [← fill_step, hv]; exact h.set hi v
/-- A step that its guard leaves out (still_step's refine is very slow where a guard wants false and the slot is true). -/
theorem wpStill_skip {P : Program} {ops : Array Oper} {w : World} {Q : Act → Prop} {a : Act} {o : Oper} {rest : List Oper} (hw : Region.wanted o (yielded ops a.tmps) = false) (h : wpStill P ops w Q rest (a.put o.dst undef)) : wpStill P ops w Q (o :: rest) a := by
  unfold wpStill
  rw [if_neg (by rw [hw]; decide)]
  exact h
end Go.Proofs.YtmiajpoclgdhbaaDoor
