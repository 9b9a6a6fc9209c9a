
/- Tokens: plain. -/
import Derived.Test.YteepoohcdmjmhaaLexFirstP
import Derived.Test.YteepoohcdmjmhaaLexSignsP
namespace Go.Proofs.Yteepoohcdmjmhaa
open Go.RowKit

/-- The code that a number's text has. -/
def numE (s : ByteArray) (i n : Nat) : Nat := (parseL (s.extract i n).data.toList).2
/-- What stands at a place: its kind (0 a blank, 1 a word, 2 a number, 3 a sign, 9 a fault), where it ends, the fault's code. -/
def stepF (s : ByteArray) (i : Nat) : Nat × Nat × Nat :=
  if blankB (bt s i) = true then (0, i + 1, 0)
  else if 0 < signB (s.extract i s.size) then (3, i + signB (s.extract i s.size), 0)
  else if letterB (bt s i) = false then (9, i, 100)
  else if 24 < wordE s i - i then (9, i, 101)
  else if digitB (bt s i) = true then (if numE s i (wordE s i) = 0 then (2, wordE s i, 0) else (9, i, numE s i (wordE s i)))
  else (1, wordE s i, 0)
/-- The tokens from a place on behind those that are there: kind, from, to; the fault's code and place. -/
def toksF (s : ByteArray) (i : Nat) (acc : List (Nat × Nat × Nat)) : List (Nat × Nat × Nat) × Nat × Nat :=
  if h : i < s.size then
    (if (stepF s i).1 = 9 then ([], (stepF s i).2.2, i)
     else if _h2 : i < (stepF s i).2.1 then toksF s (stepF s i).2.1 (if (stepF s i).1 = 0 then acc else acc ++ [((stepF s i).1, i, (stepF s i).2.1)])
     else ([], 0, 0))
  else (acc ++ [(4, s.size, s.size)], 0, s.size)
  termination_by s.size - i
theorem toksF_end {s : ByteArray} {i : Nat} {acc : List (Nat × Nat × Nat)} (h : ¬ i < s.size) : toksF s i acc = (acc ++ [(4, s.size, s.size)], 0, s.size) := by rw [toksF, dif_neg h]
theorem toksF_bad {s : ByteArray} {i : Nat} {acc : List (Nat × Nat × Nat)} {c n : Nat} (h : i < s.size) (hs : stepF s i = (9, n, c)) : toksF s i acc = ([], c, i) := by
  rw [toksF, dif_pos h, if_pos (by rw [hs])]; rw [hs]
theorem toksF_skip {s : ByteArray} {i : Nat} {acc : List (Nat × Nat × Nat)} (h : i < s.size) (hb : blankB (bt s i) = true) : toksF s i acc = toksF s (i + 1) acc := by
  have hs : stepF s i = (0, i + 1, 0) := by unfold stepF; rw [if_pos hb]
  rw [toksF, dif_pos h, hs, if_neg (by simp), dif_pos (by simp)]; rfl
theorem toksF_tok {s : ByteArray} {i : Nat} {acc : List (Nat × Nat × Nat)} {k n c : Nat} (h : i < s.size) (hs : stepF s i = (k, n, c)) (hk : k = 1 ∨ k = 2 ∨ k = 3) (hn : i < n) : toksF s i acc = toksF s n (acc ++ [(k, i, n)]) := by
  rw [toksF, dif_pos h, hs, if_neg (by simp; omega), dif_pos hn]
  simp only []
  rw [if_neg (by omega)]
theorem stepF_sign {s : ByteArray} {i : Nat} (hb : blankB (bt s i) = false) (hn : 0 < signB (s.extract i s.size)) : stepF s i = (3, i + signB (s.extract i s.size), 0) := by
  unfold stepF; rw [if_neg (by simp [hb]), if_pos hn]
theorem stepF_byte {s : ByteArray} {i : Nat} (hb : blankB (bt s i) = false) (hn : signB (s.extract i s.size) = 0) (hl : letterB (bt s i) = false) : stepF s i = (9, i, 100) := by
  unfold stepF; rw [if_neg (by simp [hb]), if_neg (by omega), if_pos hl]
theorem stepF_long {s : ByteArray} {i : Nat} (hb : blankB (bt s i) = false) (hn : signB (s.extract i s.size) = 0) (hl : letterB (bt s i) = true) (h24 : 24 < wordE s i - i) : stepF s i = (9, i, 101) := by
  unfold stepF; rw [if_neg (by simp [hb]), if_neg (by omega), if_neg (by simp [hl]), if_pos h24]
theorem stepF_word {s : ByteArray} {i : Nat} (hb : blankB (bt s i) = false) (hn : signB (s.extract i s.size) = 0) (hl : letterB (bt s i) = true) (h24 : ¬ 24 < wordE s i - i) (hd : digitB (bt s i) = false) : stepF s i = (1, wordE s i, 0) := by
  unfold stepF; rw [if_neg (by simp [hb]), if_neg (by omega), if_neg (by simp [hl]), if_neg h24, if_neg (by simp [hd])]
theorem stepF_num {s : ByteArray} {i : Nat} (hb : blankB (bt s i) = false) (hn : signB (s.extract i s.size) = 0) (hl : letterB (bt s i) = true) (h24 : ¬ 24 < wordE s i - i) (hd : digitB (bt s i) = true) (he : numE s i (wordE s i) = 0) : stepF s i = (2, wordE s i, 0) := by
  unfold stepF; rw [if_neg (by simp [hb]), if_neg (by omega), if_neg (by simp [hl]), if_neg h24, if_pos hd, if_pos he]
theorem stepF_bad {s : ByteArray} {i : Nat} (hb : blankB (bt s i) = false) (hn : signB (s.extract i s.size) = 0) (hl : letterB (bt s i) = true) (h24 : ¬ 24 < wordE s i - i) (hd : digitB (bt s i) = true) (he : numE s i (wordE s i) ≠ 0) : stepF s i = (9, i, numE s i (wordE s i)) := by
  unfold stepF; rw [if_neg (by simp [hb]), if_neg (by omega), if_neg (by simp [hl]), if_neg h24, if_pos hd, if_neg he]
theorem wordE_gt {s : ByteArray} {i : Nat} (h : i < s.size) (hl : letterB (bt s i) = true) : i < wordE s i := by
  unfold wordE
  rw [scan_miss h (by unfold nonLet; rw [hl]; rfl)]
  exact (scan_ge (nonLet s) s.size _ (i + 1) rfl).1
theorem wordE_eq {s : ByteArray} {i : Nat} (h : i < s.size) (hl : letterB (bt s i) = false) : wordE s i = i := by
  unfold wordE
  exact scan_hit h (by unfold nonLet; rw [hl]; rfl)
theorem signB_le {t : ByteArray} (h : 0 < t.size) : signB t ≤ t.size := by
  unfold signB
  split
  · omega
  · split <;> omega

/-- The cells of tokens. -/
def tokCells (s : ByteArray) (at_ : Nat) (l : List (Nat × Nat × Nat)) : List Value := l.flatMap fun r => [.int .i64 (r.1 : Nat), .string (s.extract r.2.1 r.2.2), .int .i64 ((at_ : Int) + (r.2.1 : Nat))]
theorem tokCells_snoc (s : ByteArray) (at_ : Nat) (l : List (Nat × Nat × Nat)) (k a e : Nat) : tokCells s at_ (l ++ [(k, a, e)]) = tokCells s at_ l ++ [.int .i64 (k : Nat), .string (s.extract a e), .int .i64 ((at_ : Int) + (a : Nat))] := by simp [tokCells]
theorem tokCells_len (s : ByteArray) (at_ : Nat) (l : List (Nat × Nat × Nat)) : (tokCells s at_ l).length = l.length * 3 := by
  induction l with
  | nil => rfl
  | cons r l ih => rw [tokCells, List.flatMap_cons, List.length_append]; show 3 + (tokCells s at_ l).length = _; rw [ih]; simp; omega
/-- Where a fault is told: a line without one tells no place. -/
def toksAt (at_ : Nat) (r : List (Nat × Nat × Nat) × Nat × Nat) : Int := if r.2.1 = 0 then 0 else (at_ : Int) + (r.2.2 : Nat)
theorem numE_lt (s : ByteArray) (i n : Nat) : numE s i n < 100 := parseL_code _
theorem empty_at_end (s : ByteArray) : s.extract s.size s.size = ByteArray.empty := by simp
end Go.Proofs.Yteepoohcdmjmhaa
