/- How many lines and tokens there are; where their cells lie. -/
import Derived.Test.YtpfeeoogjeobdaaLexTok
import Derived.Test.YtpfeeoogjeobdaaLexRows
import Derived.Test.YtpfeeoogjeobdaaRds
namespace Go.Proofs.Ytpfeeoogjeobdaa
open Go.RowKit
set_option linter.unusedVariables false

theorem rowCells_get (s : ByteArray) : ∀ (l : List (Nat × Nat)) (i : Nat) (h : i < l.length), (rowCells s l)[i * 2]? = some (.string (s.extract l[i].1 l[i].2)) ∧ (rowCells s l)[i * 2 + 1]? = some (.int .i64 (l[i].1 : Nat))
  | r :: l, 0, _ => by simp [rowCells]
  | r :: l, i + 1, h => by
    have := rowCells_get s l i (by simpa using h)
    have e : rowCells s (r :: l) = [.string (s.extract r.1 r.2), .int .i64 (r.1 : Nat)] ++ rowCells s l := rfl
    rw [e, List.getElem?_append_right (by simp; omega), List.getElem?_append_right (by simp; omega)]
    simp only [List.length_cons, List.length_nil, List.getElem_cons_succ]
    rw [show (i + 1) * 2 - (0 + 1 + 1) = i * 2 by omega, show (i + 1) * 2 + 1 - (0 + 1 + 1) = i * 2 + 1 by omega]
    exact this
theorem row_at {w : World} {p : Option Addr} {s : ByteArray} {l : List (Nat × Nat)} (h : Rds w 2 p l.length (rowCells s l)) {i : Nat} (hi : i < l.length) :
    ∃ g off, p = some ⟨g, off, none⟩ ∧ w.cell? ⟨g, off + i * 2, none⟩ = some (.string (s.extract l[i].1 l[i].2)) ∧ w.cell? ⟨g, off + i * 2 + 1, none⟩ = some (.int .i64 (l[i].1 : Nat)) := by
  obtain ⟨g, off, hp, hc⟩ := h.2 (by omega)
  obtain ⟨h0, h1⟩ := rowCells_get s l i hi
  exact ⟨g, off, hp, (hc _ (by omega)).trans h0, (hc (i * 2 + 1) (by omega)).trans h1⟩
theorem rowsF_len : ∀ (n : Nat) (s : ByteArray) (f : Nat) (acc : List (Nat × Nat)), s.size + 1 - f = n → (rowsF s f acc).length ≤ acc.length + (s.size + 1 - f) := by
  intro n
  induction n using Nat.strongRecOn with
  | _ n ih =>
    intro s f acc hn
    by_cases h : f ≤ s.size
    · rw [rowsF_step h]
      have hg := (scan_ge (nlB s) s.size _ f rfl).1
      have := ih (s.size + 1 - (scan (nlB s) s.size f + 1)) (by omega) s (scan (nlB s) s.size f + 1) (if headF s f (scan (nlB s) s.size f) < tailF s f (scan (nlB s) s.size f) then acc ++ [(headF s f (scan (nlB s) s.size f), tailF s f (scan (nlB s) s.size f))] else acc) rfl
      split at this
      · rename_i h0; rw [if_pos h0]; simp at this; omega
      · rename_i h0; rw [if_neg h0]; omega
    · rw [rowsF_end h]; omega

theorem toksF_len : ∀ (n : Nat) (s : ByteArray) (i : Nat) (acc : List (Nat × Nat × Nat)), s.size - i = n → (toksF s i acc).1.length ≤ acc.length + (s.size - i) + 1 := by
  intro n
  induction n using Nat.strongRecOn with
  | _ n ih =>
    intro s i acc hn
    rw [toksF]
    by_cases h : i < s.size
    · rw [dif_pos h]
      by_cases h9 : (stepF s i).1 = 9
      · rw [if_pos h9]; simp
      · rw [if_neg h9]
        by_cases h2 : i < (stepF s i).2.1
        · rw [dif_pos h2]
          have := ih (s.size - (stepF s i).2.1) (by omega) s (stepF s i).2.1 (if (stepF s i).1 = 0 then acc else acc ++ [((stepF s i).1, i, (stepF s i).2.1)]) rfl
          split at this
          · rename_i h0; rw [if_pos h0]; omega
          · rename_i h0; rw [if_neg h0]; simp at this; omega
        · rw [dif_neg h2]; simp
    · rw [dif_neg h]; simp

end Go.Proofs.Ytpfeeoogjeobdaa
