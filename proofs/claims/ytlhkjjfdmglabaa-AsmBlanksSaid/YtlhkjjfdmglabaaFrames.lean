/- What is let be when one block may change. -/
import Derived.Test.YtlhkjjfdmglabaaBlk
import Derived.Test.YtlhkjjfdmglabaaRds
namespace Go.Proofs.Ytlhkjjfdmglabaa
open Go.RowKit

theorem Rds.grownR {w w' : World} {size n : Nat} {p : Option Addr} {xs : List Value} {row : Option Nat} (h : Rds w size p n xs) (hg : w.grownBy w' row) (hne : ∀ a, p = some a → some a.block ≠ row) : Rds w' size p n xs := by
  refine ⟨h.1, fun hn => ?_⟩
  obtain ⟨g, off, hp, hc⟩ := h.2 hn
  refine ⟨g, off, hp, fun j hj => ?_⟩
  have h1 := hc j hj
  rw [List.getElem?_eq_getElem (show j < xs.length by have := h.1; omega)] at h1 ⊢
  exact hg.cell h1 (hne ⟨g, off, none⟩ hp)
theorem grown_below {w w' : World} {row : Option Nat} (hb : Below w.heap.size w w') : w.grownBy w' row := ⟨hb.os, hb.tape, hb.output, hb.size, fun i hi _ => hb.block i hi⟩
theorem grown_thenR {a b c : World} {row : Option Nat} (h : a.grownBy b row) (k : b.grownBy c row) : a.grownBy c row :=
  ⟨k.os.trans h.os, k.tape.trans h.tape, k.output.trans h.output, Nat.le_trans h.size k.size, fun i hi hne => (k.block i (Nat.lt_of_lt_of_le hi h.size) hne).trans (h.block i hi hne)⟩
theorem grown_setR (w : World) (b j : Nat) (v : Value) : w.grownBy (w.setCell ⟨b, j, none⟩ v) (some b) :=
  ⟨rfl, rfl, rfl, by simp, fun k _ hne => Below.heap_setCell w _ v k (fun e => hne (by rw [e]))⟩
end Go.Proofs.Ytlhkjjfdmglabaa
