/- An instruction is read from its own text: plainly. -/
import Derived.Test.YtlhkjjfdmglabaaAsmMod
import Derived.Test.YtlhkjjfdmglabaaAsmPrint
namespace Go.Proofs.Ytlhkjjfdmglabaa
open Go.RowKit
set_option linter.unusedVariables false
set_option linter.unusedSimpArgs false

def wordB (w : List UInt8) : Bool := !w.isEmpty && w.all wc
def startB (r : List UInt8) : Bool := match r with | [] => true | c :: _ => !wc c
theorem tw_app : ∀ (w r : List UInt8), w.all wc = true → startB r = true → (w ++ r).takeWhile wc = w ∧ (w ++ r).dropWhile wc = r
  | [], r, _, hr => by
    cases r with
    | nil => exact ⟨rfl, rfl⟩
    | cons c r => have : wc c = false := by simpa [startB] using hr
                  simp [this]
  | c :: w, r, hw, hr => by
    simp only [List.all_cons, Bool.and_eq_true] at hw
    obtain ⟨h1, h2⟩ := tw_app w r hw.2 hr
    simp [hw.1, h1, h2]
theorem wl {w r : List UInt8} (hw : wordB w = true) (hr : startB r = true) : wordsL (w ++ r) = w :: wordsL r := by
  cases w with
  | nil => simp [wordB] at hw
  | cons c w =>
    simp only [wordB, List.isEmpty_cons, Bool.not_false, Bool.true_and, List.all_cons, Bool.and_eq_true] at hw
    obtain ⟨h1, h2⟩ := tw_app w r hw.2 hr
    rw [List.cons_append, wordsL_word _ _ hw.1, h1, h2]
theorem wl_end {w : List UInt8} (hw : wordB w = true) : wordsL w = [w] := by
  have := wl (w := w) (r := []) hw rfl
  simpa [wordsL] using this
theorem wl_sp (r : List UInt8) : wordsL (32 :: r) = wordsL r := wordsL_blank rfl r
theorem wl_c (r : List UInt8) : wordsL (44 :: r) = [44] :: wordsL r := wordsL_own rfl rfl r
theorem wl_o (r : List UInt8) : wordsL (91 :: r) = [91] :: wordsL r := wordsL_own rfl rfl r
theorem wl_k (r : List UInt8) : wordsL (93 :: r) = [93] :: wordsL r := wordsL_own rfl rfl r
theorem dg_wc (d : Nat) (h : d < 16) : wc (dg d) = true := by
  have : ∀ d, d < 16 → wc (dg d) = true := by decide
  exact this d h
theorem txt_wc (n : Nat) : (txt 10 n).all wc = true ∧ txt 10 n ≠ [] := by
  obtain ⟨h1, _, h3⟩ := txt_digits 10 (by decide) (by decide) (n + 1) n (by omega)
  refine ⟨List.all_eq_true.2 fun c hc => ?_, h3⟩
  obtain ⟨d, hd, rfl⟩ := h1 c hc
  exact dg_wc d (by omega)
theorem intL_wc (n : Int) : wordB (intL n) = true := by
  unfold intL wordB
  split
  · obtain ⟨h1, h2⟩ := txt_wc (-n).toNat
    simp [h1]; decide
  · obtain ⟨h1, h2⟩ := txt_wc n.toNat
    simp [h1, h2]
theorem cons_wc {c : UInt8} {w : List UInt8} (hc : wc c = true) (hw : wordB w = true) : wordB (c :: w) = true := by
  unfold wordB at hw ⊢; simp at hw ⊢; exact ⟨hc, hw.2⟩
theorem immL_wc (n : Int) : wordB (immL n) = true := cons_wc rfl (intL_wc n)
theorem targetL_wc (n : Int) : wordB (targetL n) = true := by
  unfold targetL; split
  · exact cons_wc rfl (intL_wc n)
  · exact cons_wc rfl (cons_wc rfl (intL_wc n))
theorem regL_wc {n : Int} (h0 : 0 ≤ n) (h1 : n ≤ 31) : wordB (regL n) = true := by
  unfold regL; split
  · rfl
  · rw [if_pos (by omega)]; exact cons_wc rfl (intL_wc n)
theorem regN_reg {n : Int} (h0 : 0 ≤ n) (h1 : n ≤ 31) : regN (ba (regL n)) = some n.toNat := by
  have : ∀ j : Nat, j < 32 → regN (ba (regL (j : Int))) = some j := by decide +kernel
  have h := this n.toNat (by omega)
  rw [Int.toNat_of_nonneg h0] at h; exact h
theorem regA_reg {n : Int} (h0 : 0 ≤ n) (h1 : n ≤ 31) (ws : List (List UInt8)) (b : Bool) : regA (regL n :: ws, b) = (n, (ws, b)) := by
  unfold regA
  simp only [nextA, regN_reg h0 h1, Int.toNat_of_nonneg h0]
theorem mustA_yes (t : List UInt8) (ws : List (List UInt8)) (b : Bool) : mustA (t :: ws, b) t = (ws, b) := by simp [mustA, nextA, badA]
theorem mayA_yes (t : List UInt8) (ws : List (List UInt8)) (b : Bool) : mayA (t :: ws, b) t = (true, (ws, b)) := by simp [mayA]
theorem numberA_int {n : Int} (h0 : 0 ≤ n) (h1 : n ≤ 1099511627776) (s : AS) : numberA s (intL n) = (n, s) := by
  have e : intL n = txt 10 n.toNat := by unfold intL; rw [if_neg (by omega)]
  unfold numberA
  rw [e, dec_parse _ (by omega)]
  simp only [true_and]
  rw [if_pos (by omega), Int.toNat_of_nonneg h0]
theorem countA_imm {n : Int} (h0 : 0 ≤ n) (h1 : n ≤ 1099511627776) (ws : List (List UInt8)) (b : Bool) : countA (immL n :: ws, b) = (n, (ws, b)) := by
  have e : cutA [35] (immL n) = (intL n, true) := by simp [cutA, immL]
  unfold countA
  simp only [nextA, e, Bool.not_true, numberA_int h0 h1]
  simp [badA]
theorem branchA_tgt {n : Int} (h0 : -1099511627776 ≤ n) (h1 : n ≤ 1099511627776) (ws : List (List UInt8)) (b : Bool) : branchA (targetL n :: ws, b) = (n, (ws, b)) := by
  unfold branchA targetL
  by_cases h : n < 0
  · have e : intL n = 45 :: intL (-n) := by
      unfold intL; rw [if_pos h, if_neg (by omega)]; rfl
    have e1 : cutA [46, 43] ([46] ++ intL n) = ([46] ++ intL n, false) := by rw [e]; simp [cutA]
    have e2 : cutA [46, 45] ([46] ++ intL n) = (intL (-n), true) := by rw [e]; simp [cutA]
    rw [if_pos h]
    simp only [nextA, e1, e2, Bool.not_true, numberA_int (n := -n) (by omega) (by omega)]
    simp [badA]
  · have e1 : cutA [46, 43] ([46, 43] ++ intL n) = (intL n, true) := by simp [cutA]
    rw [if_neg h]
    simp only [nextA, e1, numberA_int (n := n) (by omega) h1]
    simp
theorem kindA_at {most : Nat} {name : Nat → List UInt8} {k : Nat} (hk : k < most) (h0 : name k ≠ []) (h : (List.range most).find? (fun j => decide (name j = name k)) = some k) (ws : List (List UInt8)) (b : Bool) : kindA (name k :: ws, b) most name = (((k : Nat) : Int), (ws, b)) := by
  unfold kindA
  have e : nextA (name k :: ws, b) = (name k, (ws, b)) := rfl
  rw [e, if_neg h0, h]
theorem kindA_bar {k : Int} (h : (9 ≤ k ∧ k ≤ 11) ∨ (13 ≤ k ∧ k ≤ 15)) (ws : List (List UInt8)) (b : Bool) : kindA (barL k :: ws, b) 16 barN = (k, (ws, b)) ∧ wordB (barL k) = true := by
  have hh : k = 9 ∨ k = 10 ∨ k = 11 ∨ k = 13 ∨ k = 14 ∨ k = 15 := by omega
  rcases hh with rfl | rfl | rfl | rfl | rfl | rfl
  · exact ⟨kindA_at (most := 16) (name := barN) (k := 9) (by decide) (by decide) (by decide +kernel) ws b, by decide⟩
  · exact ⟨kindA_at (most := 16) (name := barN) (k := 10) (by decide) (by decide) (by decide +kernel) ws b, by decide⟩
  · exact ⟨kindA_at (most := 16) (name := barN) (k := 11) (by decide) (by decide) (by decide +kernel) ws b, by decide⟩
  · exact ⟨kindA_at (most := 16) (name := barN) (k := 13) (by decide) (by decide) (by decide +kernel) ws b, by decide⟩
  · exact ⟨kindA_at (most := 16) (name := barN) (k := 14) (by decide) (by decide) (by decide +kernel) ws b, by decide⟩
  · exact ⟨kindA_at (most := 16) (name := barN) (k := 15) (by decide) (by decide) (by decide +kernel) ws b, by decide⟩
theorem kindA_flush {k : Int} (h : 0 ≤ k ∧ k ≤ 7) (ws : List (List UInt8)) (b : Bool) : kindA (flushL k :: ws, b) 8 flushN = (k, (ws, b)) ∧ wordB (flushL k) = true := by
  have hh : k = 0 ∨ k = 1 ∨ k = 2 ∨ k = 3 ∨ k = 4 ∨ k = 5 ∨ k = 6 ∨ k = 7 := by omega
  rcases hh with rfl | rfl | rfl | rfl | rfl | rfl | rfl | rfl
  · exact ⟨kindA_at (most := 8) (name := flushN) (k := 0) (by decide) (by decide) (by decide +kernel) ws b, by decide⟩
  · exact ⟨kindA_at (most := 8) (name := flushN) (k := 1) (by decide) (by decide) (by decide +kernel) ws b, by decide⟩
  · exact ⟨kindA_at (most := 8) (name := flushN) (k := 2) (by decide) (by decide) (by decide +kernel) ws b, by decide⟩
  · exact ⟨kindA_at (most := 8) (name := flushN) (k := 3) (by decide) (by decide) (by decide +kernel) ws b, by decide⟩
  · exact ⟨kindA_at (most := 8) (name := flushN) (k := 4) (by decide) (by decide) (by decide +kernel) ws b, by decide⟩
  · exact ⟨kindA_at (most := 8) (name := flushN) (k := 5) (by decide) (by decide) (by decide +kernel) ws b, by decide⟩
  · exact ⟨kindA_at (most := 8) (name := flushN) (k := 6) (by decide) (by decide) (by decide +kernel) ws b, by decide⟩
  · exact ⟨kindA_at (most := 8) (name := flushN) (k := 7) (by decide) (by decide) (by decide +kernel) ws b, by decide⟩
theorem kindA_sys {k : Int} (h : 0 ≤ k ∧ k ≤ 2) (ws : List (List UInt8)) (b : Bool) : kindA (sysL k :: ws, b) 3 sysN = (k, (ws, b)) ∧ wordB (sysL k) = true := by
  have hh : k = 0 ∨ k = 1 ∨ k = 2 := by omega
  rcases hh with rfl | rfl | rfl
  · exact ⟨kindA_at (most := 3) (name := sysN) (k := 0) (by decide) (by decide) (by decide +kernel) ws b, by decide⟩
  · exact ⟨kindA_at (most := 3) (name := sysN) (k := 1) (by decide) (by decide) (by decide +kernel) ws b, by decide⟩
  · exact ⟨kindA_at (most := 3) (name := sysN) (k := 2) (by decide) (by decide) (by decide +kernel) ws b, by decide⟩
end Go.Proofs.Ytlhkjjfdmglabaa
