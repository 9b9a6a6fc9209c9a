
/- The contracts of First, in both. -/
import Derived.Test.YteepoohcdmjmhaaLexWalkP
import Derived.Laws.Rows
namespace Go.Proofs.Yteepoohcdmjmhaa
open Go.RowKit
set_option linter.unusedVariables false

/-- Where a name ends. -/
def nonLet (s : ByteArray) (k : Nat) : Bool := !letterB (bt s k)
def wordE (s : ByteArray) (i : Nat) : Nat := scan (nonLet s) s.size i
theorem wordE_bd (s : ByteArray) (i : Nat) : i ≤ wordE s i ∧ (i ≤ s.size → wordE s i ≤ s.size) := scan_ge _ _ _ _ rfl
theorem bt_extract (s : ByteArray) (i k : Nat) (hi : i ≤ s.size) : bt (s.extract i s.size) k = bt s (i + k) := by
  unfold bt
  have e : (s.extract i s.size).size = s.size - i := by simp
  by_cases h : k < s.size - i
  · rw [dif_pos (by omega), dif_pos (by omega)]
    congr 2
    exact ByteArray.getElem_extract ..
  · rw [dif_neg (by omega), dif_neg (by omega)]
theorem scan_shift (p q : Nat → Bool) (d : Nat) (h : ∀ k, p k = q (d + k)) : ∀ (n to i : Nat), to - i = n → d + scan p to i = scan q (d + to) (d + i) := by
  intro n
  induction n with
  | zero => intro to i hn; rw [scan_stop (by omega), scan_stop (by omega)]
  | succ n ih =>
    intro to i hn
    cases hp : p i
    · rw [scan_miss (by omega) hp, scan_miss (p := q) (to := d + to) (i := d + i) (by omega) (by rw [← h]; exact hp)]
      exact ih to (i + 1) (by omega)
    · rw [scan_hit (by omega) hp, scan_hit (p := q) (to := d + to) (i := d + i) (by omega) (by rw [← h]; exact hp)]
theorem wordE_extract (s : ByteArray) (i : Nat) (hi : i ≤ s.size) : i + wordE (s.extract i s.size) 0 = wordE s i := by
  unfold wordE
  have e : (s.extract i s.size).size = s.size - i := by simp
  rw [e, scan_shift (nonLet (s.extract i s.size)) (nonLet s) i (fun k => by unfold nonLet; rw [bt_extract s i k hi]) _ _ _ rfl]
  congr 1 <;> omega
theorem extract_extract' (s : ByteArray) (i n : Nat) (hi : i + n ≤ s.size) : (s.extract i s.size).extract 0 n = s.extract i (i + n) := by
  rw [ByteArray.extract_extract]
  congr 1; omega

end Go.Proofs.Yteepoohcdmjmhaa
