/- Do at any instruction that may be; what it leaves alone, and what it hangs on. -/
import Derived.Test.YtikflhigenijdaaRegsDo
import Derived.Test.YtikflhigenijdaaRegsTold
import Derived.Test.YtikflhigenijdaaRegsTaken
import Derived.Test.YtikflhigenijdaaRight3
namespace Go.Proofs.Ytikflhigenijdaa
open Go.RowKit

def doesB (op : Int) : Bool := op == 6 || op == 7 || op == 8 || op == 9 || op == 10 || op == 11 || op == 12 || op == 13 || op == 23
def doX (op d n m imm kind : Int) (sys x : List Int) : List Int := if doesB op then setX x d (valZ op (getX x n) (getX x m) imm kind sys) else x
def doS (op n m : Int) (x : List Int) (same : Bool) : Bool := if op == 13 then (getX x n == getX x m) else same

theorem do_any (g : Nat) (op d n m imm kind : Int) {x : List Int} {same : Bool} {sys : List Int} (hop : opB op = true) (h6 : op = 6 → (0 ≤ imm ∧ imm ≤ 65535) ∧ 0 ≤ kind ∧ kind ≤ 3) (h23 : op = 23 → 0 ≤ kind ∧ kind ≤ 2) :
    DoSaid g op d n m imm kind x (doX op d n m imm kind sys x) same (doS op n m x same) sys := by
  rcases opB_cases hop with rfl | rfl | rfl | rfl | rfl | rfl | rfl | rfl | rfl | rfl | rfl | rfl | rfl | rfl | rfl | rfl | rfl | rfl | rfl | rfl | rfl | rfl | rfl
  all_goals first
    | exact do_arith g _ d n m imm kind (by decide)
    | exact do_movz g d n m imm kind (h6 rfl).2
    | exact do_subs g d n m imm kind
    | exact do_mrs g d n m imm kind (h23 rfl)
    | exact do_none g _ d n m imm kind (by decide)

theorem getX_setX_ne (x : List Int) (d k v : Int) (h : k ≠ d) : getX (setX x d v) k = getX x k := by
  unfold setX
  split
  · unfold getX
    split
    · have hne : d.toNat ≠ k.toNat := by omega
      simp [List.getD, List.getElem?_set_ne hne]
    · rfl
  · rfl
theorem mem_addL_nil (d k : Int) : k ∈ addL [] d ↔ k = d ∧ d ≠ 31 := by
  unfold addL
  by_cases h : d = 31
  · simp [h]
  · simp [h]
theorem getX_setX_31 (x : List Int) (v : Int) : setX x 31 v = x := by unfold setX; rw [if_neg (by omega)]
theorem doX_kept (op d n m imm kind : Int) (sys x : List Int) (k : Int) (hop : opB op = true) (hk : k ∉ setsL op d) : getX (doX op d n m imm kind sys x) k = getX x k := by
  unfold doX
  cases h : doesB op
  · rfl
  · simp only [if_true]
    by_cases hd : d = 31
    · subst hd; rw [getX_setX_31]
    · refine getX_setX_ne x d k _ (fun e => hk ?_)
      subst e
      have hm : k ∈ addL [] k := (mem_addL_nil k k).2 ⟨rfl, hd⟩
      unfold setsL
      simp only [doesB, Bool.or_eq_true, beq_iff_eq] at h
      by_cases h13 : op = 13
      · subst h13; simp [hm]
      · rw [if_pos (by omega)]; exact hm
theorem doS_kept (op d n m : Int) (x : List Int) (same : Bool) (h : (32 : Int) ∉ setsL op d) : doS op n m x same = same := by
  unfold doS
  by_cases h13 : op = 13
  · subst h13; exact absurd (by simp [setsL]) h
  · simp [h13]
theorem setsL_len (op d : Int) : (setsL op d).length ≤ 2 := by
  have := addL_len [] d
  simp only [List.length_nil, Nat.zero_add] at this
  unfold setsL
  split
  · omega
  · split
    · simp; omega
    · simp

/-- z is not among the first j, unless b. -/
def NotTo (z : Int) (l : List Int) (j : Nat) (b : Bool) : Prop := b = false → z ∉ l.take j
theorem NotTo.zero {z : Int} {l : List Int} {b : Bool} : NotTo z l 0 b := fun _ => by simp
theorem NotTo.yes {z : Int} {l : List Int} {j : Nat} : NotTo z l j true := fun h => by cases h
theorem NotTo.step {z : Int} {l : List Int} {j : Nat} (h : NotTo z l j false) (hj : j < l.length) : NotTo z l (j + 1) (l.getD j 0 == z) := fun hb => notin_take hj (h rfl) hb
theorem NotTo.all {z : Int} {l : List Int} {b : Bool} (h : NotTo z l l.length b) (hb : b = false) : z ∉ l := by
  have := h hb; rwa [List.take_length] at this
end Go.Proofs.Ytikflhigenijdaa
