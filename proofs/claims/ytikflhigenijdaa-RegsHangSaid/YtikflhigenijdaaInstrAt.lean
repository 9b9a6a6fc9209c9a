/- A block that holds an instruction. -/
import Derived.Test.YtikflhigenijdaaBase
namespace Go.Proofs.Ytikflhigenijdaa
open Go.RowKit

def InstrAt (w : World) (T : TypeId) (g : Nat) (op d n m imm kind : Int) : Prop :=
  w.heap[g]? = some (.cells #[.int .i64 op, .int .i64 d, .int .i64 n, .int .i64 m, .int .i64 imm, .int .i64 kind] T (0, 0))
section
variable {w w' : World} {T : TypeId} {g : Nat} {op d n m imm kind : Int}
theorem InstrAt.new (w : World) (T : TypeId) (op d n m imm kind : Int) : InstrAt (w.alloc (.cells #[.int .i64 op, .int .i64 d, .int .i64 n, .int .i64 m, .int .i64 imm, .int .i64 kind] T)) T w.heap.size op d n m imm kind := heap_alloc_new w _
theorem InstrAt.lt (h : InstrAt w T g op d n m imm kind) : g < w.heap.size := (Array.getElem?_eq_some_iff.1 h).1
theorem InstrAt.below (h : InstrAt w T g op d n m imm kind) (hb : Below w.heap.size w w') : InstrAt w' T g op d n m imm kind := (hb.block g h.lt).trans h
theorem InstrAt.kept {row : Option Nat} (h : InstrAt w T g op d n m imm kind) (hg : w.grownBy w' row) (hne : some g ≠ row) : InstrAt w' T g op d n m imm kind := (hg.block g h.lt hne).trans h
theorem InstrAt.cells (h : InstrAt w T g op d n m imm kind) :
    w.cell? ⟨g, 0, none⟩ = some (.int .i64 op) ∧ w.cell? ⟨g, 1, none⟩ = some (.int .i64 d) ∧ w.cell? ⟨g, 2, none⟩ = some (.int .i64 n) ∧ w.cell? ⟨g, 3, none⟩ = some (.int .i64 m) ∧ w.cell? ⟨g, 4, none⟩ = some (.int .i64 imm) ∧ w.cell? ⟨g, 5, none⟩ = some (.int .i64 kind) := by
  refine ⟨?_, ?_, ?_, ?_, ?_, ?_⟩ <;> (rw [cell_of_row _ _ _ _ _ _ h]; rfl)
end
end Go.Proofs.Ytikflhigenijdaa
