/- A region that draws its order, by one condition on its states that each of its operations keeps: no order is branched over. -/
import Derived.Deep.RegionHeld
namespace Go.Proofs.Yteepoohcdmjmhaa
open Go
section
variable {P : Program} {ops : Array Oper} {Q : Exit → Act → World → Prop} {md : Region.Mode} {S : World → Prop}

theorem count_set : ∀ (l : List Bool) (i : Nat), l[i]? = some false → (l.set i true).count false + 1 = l.count false
  | [], i, h => by simp at h
  | b :: l, 0, h => by simp at h; subst h; simp
  | b :: l, i + 1, h => by
    have := count_set l i (by simpa using h)
    simp only [List.set_cons_succ, List.count_cons]
    omega
theorem arr_getD {l : Array Bool} {i : Nat} (h : l.getD i true = false) : l.toList[i]? = some false := by
  rw [Array.getD_eq_getD_getElem?] at h
  rcases h2 : l[i]? with _ | b
  · rw [h2] at h; cases h
  · rw [h2] at h; simp at h; subst h; rw [← h2]; simp
theorem inv_any {J : Array Bool → Act → World → Prop} (hS : ∀ l a w, J l a w → S w)
    (hend : ∀ l a w, J l a w → Region.ready md ops l = [] → Q .normal a w)
    (hstep : ∀ l a w, J l a w → ∀ i, i ∈ Region.ready md ops l → wpOp P ops Q i (fun a' w' => J (l.setIfInBounds i true) a' w') a w) :
    ∀ (fuel : Nat) (l : Array Bool) (a : Act) (w : World), l.toList.count false ≤ fuel → J l a w → wpAnyH P md ops Q S fuel l a w
  | 0, l, a, w, hc, hJ => by
    have h0 : Region.ready md ops l = [] := by
      rcases hr : Region.ready md ops l with _ | ⟨i, rs⟩
      · rfl
      · have h1 := (mem_ready.1 (show i ∈ Region.ready md ops l by rw [hr]; simp)).1
        have h2 := count_set l.toList i (arr_getD h1)
        omega
    exact ⟨h0, hend l a w hJ h0⟩
  | fuel + 1, l, a, w, hc, hJ => by
    refine ⟨hend l a w hJ, fun i hi => ?_⟩
    have h1 := count_set l.toList i (arr_getD (mem_ready.1 hi).1)
    refine wpOp_mono (fun a' w' h => ⟨hS _ _ _ h, inv_any hS hend hstep fuel _ a' w' ?_ h⟩) (hstep l a w hJ i hi)
    simp only [Array.toList_setIfInBounds]
    omega
/-- The same, with the state at which it begins handed to the condition. -/
theorem inv_at {J0 : Act → Array Bool → Act → World → Prop} {a0 : Act} {fuel : Nat} {l : Array Bool} {w : World} (hc : l.toList.count false ≤ fuel) (hJ : J0 a0 l a0 w)
    (hS : ∀ l a w, J0 a0 l a w → S w)
    (hend : ∀ l a w, J0 a0 l a w → Region.ready md ops l = [] → Q .normal a w)
    (hstep : ∀ l a w, J0 a0 l a w → ∀ i, i ∈ Region.ready md ops l → wpOp P ops Q i (fun a' w' => J0 a0 (l.setIfInBounds i true) a' w') a w) :
    wpAnyH P md ops Q S fuel l a0 w := inv_any hS hend hstep fuel l a0 w hc hJ
theorem ready_fin2 {F : Bool → Bool → Array Bool} (h : (decide (∀ b1 b2 : Bool, Region.ready md ops (F b1 b2) = [] → (b1 && b2) = true)) = true) {b1 b2 : Bool} (hr : Region.ready md ops (F b1 b2) = []) : b1 = true ∧ b2 = true := by
  simpa [Bool.and_eq_true] using of_decide_eq_true h b1 b2 hr
theorem ready_fin3 {F : Bool → Bool → Bool → Array Bool} (h : (decide (∀ b1 b2 b3 : Bool, Region.ready md ops (F b1 b2 b3) = [] → (b1 && b2 && b3) = true)) = true) {b1 b2 b3 : Bool} (hr : Region.ready md ops (F b1 b2 b3) = []) : b1 = true ∧ b2 = true ∧ b3 = true := by
  simpa [Bool.and_eq_true, and_assoc] using of_decide_eq_true h b1 b2 b3 hr
theorem ready_after' {l : Array Bool} {i : Nat} (hi : i ∈ Region.ready md ops l) (o : Oper) (ho : ops[i]? = some o) (k : Nat) (hk : (o.after.any fun e => Region.binds md e && e.on == k) = true) : l.getD k false = true := by
  obtain ⟨_, o', ho', hall⟩ := mem_ready.1 hi
  obtain rfl : o = o' := Option.some.inj (ho.symm.trans ho')
  obtain ⟨j, hj, h⟩ := Array.any_eq_true.1 hk
  simp only [Bool.and_eq_true, beq_iff_eq] at h
  rw [← h.2]
  exact hall _ (Array.getElem_mem hj) h.1
end
end Go.Proofs.Yteepoohcdmjmhaa
