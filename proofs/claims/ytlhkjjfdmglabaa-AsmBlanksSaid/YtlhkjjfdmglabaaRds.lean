/- A slice that reads as these cells; nil and empty ones too. -/
import Derived.Test.YtlhkjjfdmglabaaBase
namespace Go.Proofs.Ytlhkjjfdmglabaa
open Go.RowKit

/-- n elements of so many cells each lie at p. -/
def Rds (w : World) (size : Nat) (p : Option Addr) (n : Nat) (xs : List Value) : Prop :=
  xs.length = n * size ∧ (0 < n → ∃ g off, p = some ⟨g, off, none⟩ ∧ ∀ j, j < n * size → w.cell? ⟨g, off + j, none⟩ = xs[j]?)
section
variable {w w' : World} {size n : Nat} {p : Option Addr} {xs : List Value}
theorem Rds.of_read {v : Value} (h : readRow w v n xs) : ∃ p c, v = .slice p n c ∧ Rds w 1 p n xs ∧ n ≤ c ∧ c ≤ maxLen := by
  obtain ⟨hl, ⟨rfl, rfl⟩ | ⟨g, off, c, rfl, h3, h4, hc⟩⟩ := h
  · exact ⟨_, _, rfl, ⟨by simpa using hl, fun h => absurd h (by omega)⟩, Nat.le_refl _, by unfold maxLen; omega⟩
  · exact ⟨_, _, rfl, ⟨by simpa using hl, fun _ => ⟨g, off, rfl, fun j hj => hc j (by omega)⟩⟩, h3, h4⟩
theorem Rds.keep (h : Rds w size p n xs) (hk : ∀ (a : Addr) (v : Value), w.cell? a = some v → w'.cell? a = some v) : Rds w' size p n xs := by
  refine ⟨h.1, fun hn => ?_⟩
  obtain ⟨g, off, hp, hc⟩ := h.2 hn
  refine ⟨g, off, hp, fun j hj => ?_⟩
  have h1 := hc j hj
  rw [List.getElem?_eq_getElem (show j < xs.length by have := h.1; omega)] at h1 ⊢
  exact hk _ _ h1
theorem Rds.below (h : Rds w size p n xs) (hb : Below w.heap.size w w') : Rds w' size p n xs := h.keep fun _ _ hc => (hb.cell (World.block_lt_of_cell? w _ hc)).trans hc
theorem Rds.dn (h : Rds w size p n xs) (k : Nat) : Rds (w.drewN k) size p n xs := h
theorem Rds.at_ (h : Rds w size p n xs) {j : Nat} (hj : j < n * size) : ∃ g off u, p = some ⟨g, off, none⟩ ∧ xs[j]? = some u ∧ w.cell? ⟨g, off + j, none⟩ = some u := by
  have hn : 0 < n := by
    rcases Nat.eq_zero_or_pos n with h0 | h0
    · subst h0; omega
    · exact h0
  obtain ⟨g, off, hp, hc⟩ := h.2 hn
  have hl : j < xs.length := by have := h.1; omega
  exact ⟨g, off, xs[j], hp, List.getElem?_eq_getElem hl, (hc j hj).trans (List.getElem?_eq_getElem hl)⟩
/-- Of numbers. -/
theorem Rds.int_at {k : IntKind} {zs : List Int} (h : Rds w 1 p zs.length (zs.map (Value.int k))) {j : Nat} (hj : j < zs.length) : ∃ g off, p = some ⟨g, off, none⟩ ∧ w.cell? ⟨g, off + j, none⟩ = some (.int k (zs.getD j 0)) := by
  obtain ⟨g, off, u, hp, hu, hc⟩ := h.at_ (j := j) (by omega)
  refine ⟨g, off, hp, ?_⟩
  rw [hc, ← hu]
  simp [List.getD, List.getElem?_eq_getElem hj]
end
theorem Rds.of_own {w : World} {base : Nat} {e : TypeId} {size : Nat} {v : Value} {n : Nat} {xs : List Value} (h : w.ownsRow base e size v n xs) : ∃ p c, v = .slice p n c ∧ Rds w size p n xs ∧ n ≤ c := by
  have h' := h
  obtain ⟨hl, ⟨rfl, rfl⟩ | ⟨g, cap, cur, rfl, hb, hg, hnc, hc, _⟩⟩ := h
  · exact ⟨_, _, rfl, ⟨hl, fun h => absurd h (by omega)⟩, Nat.le_refl _⟩
  · exact ⟨_, _, rfl, ⟨hl, fun _ => ⟨g, 0, rfl, fun j hj => by rw [Nat.zero_add]; exact h'.cellAt j (by omega)⟩⟩, hnc⟩
end Go.Proofs.Ytlhkjjfdmglabaa
