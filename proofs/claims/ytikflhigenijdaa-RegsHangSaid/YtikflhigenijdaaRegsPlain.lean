/- Registers as lists of numbers: plain. -/
import Derived.Test.YtikflhigenijdaaBase
namespace Go.Proofs.Ytikflhigenijdaa
open Go.RowKit

def u64s (x : List Int) : List Value := x.map (Value.int .u64)
def fileCells (x : List Int) (same : Bool) (sys : List Int) : List Value := u64s x ++ [.bool same] ++ u64s sys
def getX (x : List Int) (n : Int) : Int := if 0 ≤ n ∧ n < 31 then x.getD n.toNat 0 else 0
def setX (x : List Int) (n v : Int) : List Int := if 0 ≤ n ∧ n < 31 then x.set n.toNat v else x
/-- A block that holds a file. -/
def FileAt (w : World) (T : TypeId) (g : Nat) (x : List Int) (same : Bool) (sys : List Int) : Prop :=
  w.heap[g]? = some (.cells (fileCells x same sys).toArray T (0, 0)) ∧ x.length = 31 ∧ sys.length = 3

theorem u64s_length (x : List Int) : (u64s x).length = x.length := by simp [u64s]
theorem fileCells_length {x : List Int} {same : Bool} {sys : List Int} (hx : x.length = 31) (hs : sys.length = 3) : (fileCells x same sys).length = 35 := by
  simp [fileCells, u64s, hx, hs]

section
variable {w : World} {T : TypeId} {g : Nat} {x : List Int} {same : Bool} {sys : List Int}
theorem FileAt.lt (h : FileAt w T g x same sys) : g < w.heap.size := (Array.getElem?_eq_some_iff.1 h.1).1
theorem FileAt.reg (h : FileAt w T g x same sys) (k : Nat) (hk : k < 31) : w.cell? ⟨g, k, none⟩ = some (.int .u64 (x.getD k 0)) := by
  rw [cell_of_row _ _ _ _ _ _ h.1]
  have hl := h.2.1
  simp [fileCells, u64s, List.getElem?_append, hl, hk, List.getD]
theorem FileAt.flag (h : FileAt w T g x same sys) : w.cell? ⟨g, 31, none⟩ = some (.bool same) := by
  rw [cell_of_row _ _ _ _ _ _ h.1]
  have hl := h.2.1
  simp [fileCells, u64s, hl]
theorem FileAt.sysAt (h : FileAt w T g x same sys) (k : Nat) (hk : k < 3) : w.cell? ⟨g, 32 + k, none⟩ = some (.int .u64 (sys.getD k 0)) := by
  rw [cell_of_row _ _ _ _ _ _ h.1]
  have hl := h.2.1
  have hs := h.2.2
  have e1 : 32 + k - 31 = k + 1 := by omega
  have e2 : ¬ 32 + k < 31 := by omega
  simp [fileCells, u64s, List.getElem?_append, hl, e1, e2, List.getD, List.getElem?_eq_getElem (show k < sys.length by omega)]
theorem FileAt.free (h : FileAt w T g x same sys) (j : Nat) : w.frozen? ⟨g, j, none⟩ = false := frozen_of_row w g j _ T h.1
theorem FileAt.kept {w' : World} {row : Option Nat} (h : FileAt w T g x same sys) (hg : w.grownBy w' row) (hne : some g ≠ row) : FileAt w' T g x same sys :=
  ⟨(hg.block g h.lt hne).trans h.1, h.2⟩
theorem FileAt.below {w' : World} (h : FileAt w T g x same sys) (hb : Below w.heap.size w w') : FileAt w' T g x same sys :=
  ⟨(hb.block g h.lt).trans h.1, h.2⟩
theorem FileAt.setReg (h : FileAt w T g x same sys) (k : Nat) (v : Int) (hk : k < 31) : FileAt (w.setCell ⟨g, k, none⟩ (.int .u64 v)) T g (x.set k v) same sys := by
  have hl := h.2.1
  refine ⟨?_, by simpa using h.2.1, h.2.2⟩
  rw [heap_setCell_same w g k _ T _ h.1]
  congr 2
  apply Array.toList_inj.1
  rw [Array.toList_setIfInBounds]
  have hk' : k < (u64s x).length := by simp [u64s]; omega
  have hk2 : k < (u64s x ++ [Value.bool same]).length := by simp [u64s]; omega
  show (u64s x ++ [Value.bool same] ++ u64s sys).set k (Value.int .u64 v) = u64s (x.set k v) ++ [Value.bool same] ++ u64s sys
  rw [List.set_append_left _ _ hk2, List.set_append_left _ _ hk']
  simp [u64s, List.map_set]
theorem FileAt.setFlag (h : FileAt w T g x same sys) (b : Bool) : FileAt (w.setCell ⟨g, 31, none⟩ (.bool b)) T g x b sys := by
  have hl := h.2.1
  refine ⟨?_, h.2.1, h.2.2⟩
  rw [heap_setCell_same w g 31 _ T _ h.1]
  congr 2
  apply Array.toList_inj.1
  rw [Array.toList_setIfInBounds]
  have e : (u64s x ++ [Value.bool same]).length = 32 := by simp [u64s]; omega
  show (u64s x ++ [Value.bool same] ++ u64s sys).set 31 (Value.bool b) = u64s x ++ [Value.bool b] ++ u64s sys
  rw [List.set_append_left _ _ (by omega), List.set_append_right _ _ (by simp [u64s]; omega)]
  have e2 : 31 - (u64s x).length = 0 := by simp [u64s]; omega
  rw [e2]; rfl
end

theorem setX_length (x : List Int) (n v : Int) : (setX x n v).length = x.length := by unfold setX; split <;> simp
theorem getX_in (x : List Int) (k : Nat) (hk : k < 31) : getX x (k : Int) = x.getD k 0 := by
  unfold getX; rw [if_pos (by omega), Int.toNat_natCast]
theorem getX_out (x : List Int) (n : Int) (h : ¬ (0 ≤ n ∧ n < 31)) : getX x n = 0 := by unfold getX; rw [if_neg h]

end Go.Proofs.Ytikflhigenijdaa
