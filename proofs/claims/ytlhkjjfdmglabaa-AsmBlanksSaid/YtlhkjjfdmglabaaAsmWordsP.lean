/- A text's parts, plainly. -/
import Derived.Test.YtlhkjjfdmglabaaTextPlain
import Derived.Lib.IndexAny
namespace Go.Proofs.Ytlhkjjfdmglabaa
set_option linter.unusedVariables false
set_option linter.unusedSimpArgs false

def blankC (c : UInt8) : Bool := c == 32 || c == 9
def ownC (c : UInt8) : Bool := c == 44 || c == 91 || c == 93
/-- A byte of a word. -/
def wc (c : UInt8) : Bool := !(blankC c || ownC c)
/-- A byte ahead of a text's parts: it is the first one's, or a part for itself. -/
def glueW (c : UInt8) (l : List UInt8) (ws : List (List UInt8)) : List (List UInt8) :=
  match l, ws with
  | d :: _, w :: ws' => if wc d then (c :: w) :: ws' else [c] :: w :: ws'
  | _, ws => [c] :: ws
/-- A text's parts: words, and the signs , [ ]. -/
def wordsL : List UInt8 → List (List UInt8)
  | [] => []
  | c :: l => if blankC c then wordsL l else if ownC c then [c] :: wordsL l else glueW c l (wordsL l)
theorem wordsL_blank {c : UInt8} (h : blankC c = true) (l : List UInt8) : wordsL (c :: l) = wordsL l := by simp [wordsL, h]
theorem wordsL_own {c : UInt8} (h1 : blankC c = false) (h : ownC c = true) (l : List UInt8) : wordsL (c :: l) = [c] :: wordsL l := by simp [wordsL, h, h1]
theorem wc_not {c : UInt8} (h : wc c = true) : blankC c = false ∧ ownC c = false := by simpa [wc] using h
theorem wordsL_ne {c : UInt8} (h : wc c = true) (l : List UInt8) : ∃ w ws, wordsL (c :: l) = w :: ws := by
  obtain ⟨h1, h2⟩ := wc_not h
  unfold wordsL
  rw [h1, h2]
  simp only [Bool.false_eq_true, if_false]
  unfold glueW
  split
  · split <;> exact ⟨_, _, rfl⟩
  · exact ⟨_, _, rfl⟩
theorem wordsL_word : ∀ (l : List UInt8) (c : UInt8), wc c = true → wordsL (c :: l) = (c :: l.takeWhile wc) :: wordsL (l.dropWhile wc)
  | [], c, h => by
    obtain ⟨h1, h2⟩ := wc_not h
    simp [wordsL, h1, h2, glueW]
  | d :: l, c, h => by
    obtain ⟨h1, h2⟩ := wc_not h
    have e : wordsL (c :: d :: l) = glueW c (d :: l) (wordsL (d :: l)) := by rw [wordsL, h1, h2]; simp
    rw [e]
    cases hd : wc d with
    | true =>
      rw [wordsL_word l d hd]
      simp [glueW, hd]
    | false =>
      have hw : (d :: l).takeWhile wc = [] := by simp [hd]
      have hw2 : (d :: l).dropWhile wc = d :: l := by simp [hd]
      rw [hw, hw2]
      unfold glueW
      cases hh : wordsL (d :: l) with
      | nil => rfl
      | cons w ws => simp [hd]
def spanN (l : List UInt8) : Nat := (l.takeWhile wc).length
theorem spanN_le (l : List UInt8) : spanN l ≤ l.length := by
  unfold spanN; exact (List.takeWhile_prefix wc).length_le
theorem spanN_pos {c : UInt8} (h : wc c = true) (l : List UInt8) : 1 ≤ spanN (c :: l) := by simp [spanN, h]
theorem take_span : ∀ l : List UInt8, l.take (spanN l) = l.takeWhile wc
  | [] => rfl
  | c :: l => by
    unfold spanN
    cases h : wc c with
    | true => have := take_span l; unfold spanN at this; simp [h, this]
    | false => simp [h]
theorem drop_span : ∀ l : List UInt8, l.drop (spanN l) = l.dropWhile wc
  | [] => rfl
  | c :: l => by
    unfold spanN
    cases h : wc c with
    | true => have := drop_span l; unfold spanN at this; simp [h, this]
    | false => simp [h]
def sepC : List UInt8 := [32, 9, 44, 91, 93]
theorem sepC_wc (c : UInt8) : sepC.contains c = !wc c := by
  unfold sepC wc blankC ownC
  rw [List.contains_eq_any_beq]
  simp only [List.any_cons, List.any_nil, Bool.or_false, Bool.not_not]
  simp [Bool.or_assoc]
theorem index_span : ∀ l : List UInt8, (Lib.indexAny l sepC = -1 ∧ spanN l = l.length) ∨ (Lib.indexAny l sepC = (spanN l : Nat) ∧ spanN l < l.length)
  | [] => .inl ⟨rfl, rfl⟩
  | c :: l => by
    have ih := index_span l
    unfold Lib.indexAny
    rw [sepC_wc]
    cases h : wc c with
    | false => right; simp [spanN, h]
    | true =>
      have e : spanN (c :: l) = spanN l + 1 := by simp [spanN, h]
      rw [e]
      rcases ih with ⟨h1, h2⟩ | ⟨h1, h2⟩
      · left; simp [h1, h2]
      · right
        rw [h1]
        have : ¬ ((spanN l : Nat) : Int) = -1 := by omega
        simp [this, h2]
/-- The parts of what is left from a place on. -/
theorem words_at {l : List UInt8} {i : Nat} {c : UInt8} (h : l[i]? = some c) : l.drop i = c :: l.drop (i + 1) := by
  obtain ⟨hi, rfl⟩ := List.getElem?_eq_some_iff.1 h
  exact List.drop_eq_getElem_cons hi
theorem words_blank {l : List UInt8} {i : Nat} {c : UInt8} (h : l[i]? = some c) (hb : blankC c = true) {acc : List (List UInt8)} (ha : acc ++ wordsL (l.drop i) = wordsL l) : acc ++ wordsL (l.drop (i + 1)) = wordsL l := by
  rw [words_at h, wordsL_blank hb] at ha; exact ha
theorem words_own {l : List UInt8} {i : Nat} {c : UInt8} (h : l[i]? = some c) (hb : blankC c = false) (ho : ownC c = true) {acc : List (List UInt8)} (ha : acc ++ wordsL (l.drop i) = wordsL l) : (acc ++ [[c]]) ++ wordsL (l.drop (i + 1)) = wordsL l := by
  rw [words_at h, wordsL_own hb ho] at ha; simpa using ha
theorem words_word {l : List UInt8} {i : Nat} {c : UInt8} (h : l[i]? = some c) (hw : wc c = true) {acc : List (List UInt8)} (ha : acc ++ wordsL (l.drop i) = wordsL l) : (acc ++ [(l.drop i).take (spanN (l.drop i))]) ++ wordsL (l.drop (i + spanN (l.drop i))) = wordsL l := by
  have e : l.drop (i + spanN (l.drop i)) = (l.drop i).drop (spanN (l.drop i)) := by rw [List.drop_drop]
  rw [e, drop_span, take_span]
  have h2 := words_at h
  rw [h2] at ha ⊢
  rw [wordsL_word _ _ hw] at ha
  simpa [hw] using ha
theorem wordsL_len : ∀ l : List UInt8, (wordsL l).length ≤ l.length
  | [] => Nat.le_refl _
  | c :: l => by
    have ih := wordsL_len l
    unfold wordsL
    split
    · simp; omega
    · split
      · simp; omega
      · unfold glueW
        split
        · rename_i h; rw [h] at ih; split <;> simp at ih ⊢ <;> omega
        · simp; omega
theorem words_inv {l : List UInt8} {i : Nat} {acc : List (List UInt8)} (ha : acc ++ wordsL (l.drop i) = wordsL l) : acc.length ≤ l.length := by
  have h1 := wordsL_len l
  rw [← ha] at h1
  simp at h1; omega
end Go.Proofs.Ytlhkjjfdmglabaa
