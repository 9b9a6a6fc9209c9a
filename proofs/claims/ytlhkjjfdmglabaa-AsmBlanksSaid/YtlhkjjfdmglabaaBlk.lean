/- A block of cells, known whole. -/
import Derived.Test.YtlhkjjfdmglabaaBase
import Derived.Laws.Rows
namespace Go.Proofs.Ytlhkjjfdmglabaa
open Go.RowKit

/-- Block g holds just these cells, none of them frozen. -/
def Blk (w : World) (T : TypeId) (g : Nat) (cs : List Value) : Prop := w.heap[g]? = some (.cells cs.toArray T (0, 0))
section
variable {w w' : World} {T : TypeId} {g : Nat} {cs : List Value}
theorem Blk.new (w : World) (T : TypeId) (cs : List Value) : Blk (w.alloc (.cells cs.toArray T)) T w.heap.size cs := heap_alloc_new w _
theorem Blk.lt (h : Blk w T g cs) : g < w.heap.size := (Array.getElem?_eq_some_iff.1 h).1
theorem Blk.cell (h : Blk w T g cs) (j : Nat) : w.cell? ⟨g, j, none⟩ = cs[j]? := by rw [cell_of_row _ _ _ _ _ _ h]; simp
theorem Blk.free (h : Blk w T g cs) (j : Nat) : w.frozen? ⟨g, j, none⟩ = false := frozen_of_row w g j _ T h
theorem Blk.below (h : Blk w T g cs) (hb : Below w.heap.size w w') : Blk w' T g cs := (hb.block g h.lt).trans h
theorem Blk.belowB {B : Nat} (h : Blk w T g cs) (hb : Below B w w') (hB : g < B) : Blk w' T g cs := (hb.block g hB).trans h
theorem Blk.kept {row : Option Nat} (h : Blk w T g cs) (hg : w.grownBy w' row) (hne : some g ≠ row) : Blk w' T g cs := (hg.block g h.lt hne).trans h
theorem Blk.alloc (h : Blk w T g cs) (o : Obj) : Blk (w.alloc o) T g cs := (Below.heap_alloc w o g h.lt).trans h
theorem Blk.dn (h : Blk w T g cs) (k : Nat) : Blk (w.drewN k) T g cs := h
theorem Blk.set (h : Blk w T g cs) (j : Nat) (v : Value) : Blk (w.setCell ⟨g, j, none⟩ v) T g (cs.set j v) := by
  unfold Blk; rw [heap_setCell_same w g j _ T _ h]; simp
theorem Blk.other (h : Blk w T g cs) {p : Addr} (hne : g ≠ p.block) (v : Value) : Blk (w.setCell p v) T g cs :=
  (Below.heap_setCell w p v g hne).trans h
end
theorem cell_alloc {w : World} {p : Addr} {u : Value} (h : w.cell? p = some u) (o : Obj) : (w.alloc o).cell? p = some u := (World.cell?_alloc_lt w o p (World.block_lt_of_cell? w p h)).trans h
theorem cell_below {w w' : World} {p : Addr} {u : Value} (h : w.cell? p = some u) (hb : Below w.heap.size w w') : w'.cell? p = some u := (hb.cell (World.block_lt_of_cell? w p h)).trans h
end Go.Proofs.Ytlhkjjfdmglabaa
