/- Each printed line is read as what it says: plain. -/
import Derived.Test.YtmnojnopejhebaaGreatMgag
import Derived.Test.YtmnojnopejhebaaGreatMgaq
import Derived.Test.YtmnojnopejhebaaGreatMgaw
namespace Go.Proofs.YtmnojnopejhebaaGreat
set_option linter.unusedVariables false
set_option linter.unusedSimpArgs false
set_option maxRecDepth 100000
set_option maxHeartbeats 25600000
section
open Go.RowKit
def wordB (w : List UInt8) : Bool := !w.isEmpty && w.all wc
def startB (r : List UInt8) : Bool := match r with | [] => true | c :: _ => !wc c
theorem tw_app : ∀ (w r : List UInt8), w.all wc = true → startB r = true → (w ++ r).takeWhile wc = w ∧ (w ++ r).dropWhile wc = r
 | [], r, _, hr => by
  cases r with
  | nil => exact ⟨rfl, rfl⟩
  | cons c r => have : wc c = false := by simpa [startB] using hr
                simp [this]
 | c :: w, r, hw, hr => by
  simp only [List.all_cons, Bool.and_eq_true] at hw
  obtain ⟨h1, h2⟩ := tw_app w r hw.2 hr
  simp [hw.1, h1, h2]
theorem wl {w r : List UInt8} (hw : wordB w = true) (hr : startB r = true) : wordsL (w ++ r) = w :: wordsL r := by
 cases w with
 | nil => simp [wordB] at hw
 | cons c w =>
  simp only [wordB, List.isEmpty_cons, Bool.not_false, Bool.true_and, List.all_cons, Bool.and_eq_true] at hw
  obtain ⟨h1, h2⟩ := tw_app w r hw.2 hr
  rw [List.cons_append, wordsL_word _ _ hw.1, h1, h2]
theorem wl_sp (r : List UInt8) : wordsL (32 :: r) = wordsL r := wordsL_blank rfl r
theorem wl_c (r : List UInt8) : wordsL (44 :: r) = [44] :: wordsL r := wordsL_own rfl rfl r
theorem wl_o (r : List UInt8) : wordsL (91 :: r) = [91] :: wordsL r := wordsL_own rfl rfl r
theorem wl_k (r : List UInt8) : wordsL (93 :: r) = [93] :: wordsL r := wordsL_own rfl rfl r
theorem dg_wc (d : Nat) (h : d < 16) : wc (dg d) = true := by
 have : ∀ d, d < 16 → wc (dg d) = true := by decide
 exact this d h
theorem txt_wc (n : Nat) : (txt 10 n).all wc = true ∧ txt 10 n ≠ [] := by
 obtain ⟨h1, _, h3⟩ := txt_digits 10 (by decide) (by decide) (n + 1) n (by omega)
 refine ⟨List.all_eq_true.2 fun c hc => ?_, h3⟩
 obtain ⟨d, hd, rfl⟩ := h1 c hc
 exact dg_wc d (by omega)
theorem intL_wc (n : Int) : wordB (intL n) = true := by
 unfold intL wordB
 split
 ·obtain ⟨h1, h2⟩ := txt_wc (-n).toNat
  simp [h1]; decide
 ·obtain ⟨h1, h2⟩ := txt_wc n.toNat
  simp [h1, h2]
theorem cons_wc {c : UInt8} {w : List UInt8} (hc : wc c = true) (hw : wordB w = true) : wordB (c :: w) = true := by
 unfold wordB at hw ⊢; simp at hw ⊢; exact ⟨hc, hw.2⟩
theorem immL_wc (n : Int) : wordB (immL n) = true := cons_wc rfl (intL_wc n)
theorem targetL_wc (n : Int) : wordB (targetL n) = true := by
 unfold targetL; split
 ·exact cons_wc rfl (intL_wc n)
 ·exact cons_wc rfl (cons_wc rfl (intL_wc n))
theorem regL_wc {n : Int} (h0 : 0 ≤ n) (h1 : n ≤ 31) : wordB (regL n) = true := by
 unfold regL; split
 ·rfl
 ·rw [if_pos (by omega)]; exact cons_wc rfl (intL_wc n)
theorem regN_reg {n : Int} (h0 : 0 ≤ n) (h1 : n ≤ 31) : regN (ba (regL n)) = some n.toNat := by
 have : ∀ j : Nat, j < 32 → regN (ba (regL (j : Int))) = some j := by decide +kernel
 have h := this n.toNat (by omega)
 rw [Int.toNat_of_nonneg h0] at h; exact h
theorem regA_reg {n : Int} (h0 : 0 ≤ n) (h1 : n ≤ 31) (ws : List (List UInt8)) (b : Bool) : regA (regL n :: ws, b) = (n, (ws, b)) := by
 unfold regA
 simp only [nextA, regN_reg h0 h1, Int.toNat_of_nonneg h0]
theorem mustA_yes (t : List UInt8) (ws : List (List UInt8)) (b : Bool) : mustA (t :: ws, b) t = (ws, b) := by simp [mustA, nextA, badA]
theorem mayA_yes (t : List UInt8) (ws : List (List UInt8)) (b : Bool) : mayA (t :: ws, b) t = (true, (ws, b)) := by simp [mayA]
theorem numberA_int {n : Int} (h0 : 0 ≤ n) (h1 : n ≤ 1099511627776) (s : AS) : numberA s (intL n) = (n, s) := by
 have e : intL n = txt 10 n.toNat := by unfold intL; rw [if_neg (by omega)]
 unfold numberA
 rw [e, dec_parse _ (by omega)]
 simp only [true_and]
 rw [if_pos (by omega), Int.toNat_of_nonneg h0]
theorem countA_imm {n : Int} (h0 : 0 ≤ n) (h1 : n ≤ 1099511627776) (ws : List (List UInt8)) (b : Bool) : countA (immL n :: ws, b) = (n, (ws, b)) := by
 have e : cutA [35] (immL n) = (intL n, true) := by simp [cutA, immL]
 unfold countA
 simp only [nextA, e, Bool.not_true, numberA_int h0 h1]
 simp [badA]
theorem branchA_tgt {n : Int} (h0 : -1099511627776 ≤ n) (h1 : n ≤ 1099511627776) (ws : List (List UInt8)) (b : Bool) : branchA (targetL n :: ws, b) = (n, (ws, b)) := by
 unfold branchA targetL
 by_cases h : n < 0
 ·have e : intL n = 45 :: intL (-n) := by
   unfold intL; rw [if_pos h, if_neg (by omega)]; rfl
  have e1 : cutA [46, 43] ([46] ++ intL n) = ([46] ++ intL n, false) := by rw [e]; simp [cutA]
  have e2 : cutA [46, 45] ([46] ++ intL n) = (intL (-n), true) := by rw [e]; simp [cutA]
  rw [if_pos h]
  simp only [nextA, e1, e2, Bool.not_true, numberA_int (n := -n) (by omega) (by omega)]
  simp [badA]
 ·have e1 : cutA [46, 43] ([46, 43] ++ intL n) = (intL n, true) := by simp [cutA]
  rw [if_neg h]
  simp only [nextA, e1, numberA_int (n := n) (by omega) h1]
  simp
theorem kindA_at {most : Nat} {name : Nat → List UInt8} {k : Nat} (hk : k < most) (h0 : name k ≠ []) (h : (List.range most).find? (fun j => decide (name j = name k)) = some k) (ws : List (List UInt8)) (b : Bool) : kindA (name k :: ws, b) most name = (((k : Nat) : Int), (ws, b)) := by
 unfold kindA
 have e : nextA (name k :: ws, b) = (name k, (ws, b)) := rfl
 rw [e, if_neg h0, h]
theorem kindA_bar {k : Int} (h : (9 ≤ k ∧ k ≤ 11) ∨ (13 ≤ k ∧ k ≤ 15)) (ws : List (List UInt8)) (b : Bool) : kindA (barL k :: ws, b) 16 barN = (k, (ws, b)) ∧ wordB (barL k) = true := by
 have hh : k = 9 ∨ k = 10 ∨ k = 11 ∨ k = 13 ∨ k = 14 ∨ k = 15 := by omega
 rcases hh with rfl | rfl | rfl | rfl | rfl | rfl
 ·exact ⟨kindA_at (most := 16) (name := barN) (k := 9) (by decide) (by decide) (by decide +kernel) ws b, by decide⟩
 ·exact ⟨kindA_at (most := 16) (name := barN) (k := 10) (by decide) (by decide) (by decide +kernel) ws b, by decide⟩
 ·exact ⟨kindA_at (most := 16) (name := barN) (k := 11) (by decide) (by decide) (by decide +kernel) ws b, by decide⟩
 ·exact ⟨kindA_at (most := 16) (name := barN) (k := 13) (by decide) (by decide) (by decide +kernel) ws b, by decide⟩
 ·exact ⟨kindA_at (most := 16) (name := barN) (k := 14) (by decide) (by decide) (by decide +kernel) ws b, by decide⟩
 ·exact ⟨kindA_at (most := 16) (name := barN) (k := 15) (by decide) (by decide) (by decide +kernel) ws b, by decide⟩
theorem kindA_flush {k : Int} (h : 0 ≤ k ∧ k ≤ 7) (ws : List (List UInt8)) (b : Bool) : kindA (flushL k :: ws, b) 8 flushN = (k, (ws, b)) ∧ wordB (flushL k) = true := by
 have hh : k = 0 ∨ k = 1 ∨ k = 2 ∨ k = 3 ∨ k = 4 ∨ k = 5 ∨ k = 6 ∨ k = 7 := by omega
 rcases hh with rfl | rfl | rfl | rfl | rfl | rfl | rfl | rfl
 ·exact ⟨kindA_at (most := 8) (name := flushN) (k := 0) (by decide) (by decide) (by decide +kernel) ws b, by decide⟩
 ·exact ⟨kindA_at (most := 8) (name := flushN) (k := 1) (by decide) (by decide) (by decide +kernel) ws b, by decide⟩
 ·exact ⟨kindA_at (most := 8) (name := flushN) (k := 2) (by decide) (by decide) (by decide +kernel) ws b, by decide⟩
 ·exact ⟨kindA_at (most := 8) (name := flushN) (k := 3) (by decide) (by decide) (by decide +kernel) ws b, by decide⟩
 ·exact ⟨kindA_at (most := 8) (name := flushN) (k := 4) (by decide) (by decide) (by decide +kernel) ws b, by decide⟩
 ·exact ⟨kindA_at (most := 8) (name := flushN) (k := 5) (by decide) (by decide) (by decide +kernel) ws b, by decide⟩
 ·exact ⟨kindA_at (most := 8) (name := flushN) (k := 6) (by decide) (by decide) (by decide +kernel) ws b, by decide⟩
 ·exact ⟨kindA_at (most := 8) (name := flushN) (k := 7) (by decide) (by decide) (by decide +kernel) ws b, by decide⟩
theorem kindA_sys {k : Int} (h : 0 ≤ k ∧ k ≤ 2) (ws : List (List UInt8)) (b : Bool) : kindA (sysL k :: ws, b) 3 sysN = (k, (ws, b)) ∧ wordB (sysL k) = true := by
 have hh : k = 0 ∨ k = 1 ∨ k = 2 := by omega
 rcases hh with rfl | rfl | rfl
 ·exact ⟨kindA_at (most := 3) (name := sysN) (k := 0) (by decide) (by decide) (by decide +kernel) ws b, by decide⟩
 ·exact ⟨kindA_at (most := 3) (name := sysN) (k := 1) (by decide) (by decide) (by decide +kernel) ws b, by decide⟩
 ·exact ⟨kindA_at (most := 3) (name := sysN) (k := 2) (by decide) (by decide) (by decide +kernel) ws b, by decide⟩
end
section
open Go.RowKit
theorem back_1 : instrA (wordsL [78, 79, 80], false) = (⟨1, 0, 0, 0, 0, 0⟩, ([], false)) := by kernel_rfl
theorem back_20 : instrA (wordsL [73, 83, 66], false) = (⟨20, 0, 0, 0, 0, 0⟩, ([], false)) := by kernel_rfl
theorem back_22 : instrA (wordsL [69, 82, 69, 84], false) = (⟨22, 0, 0, 0, 0, 0⟩, ([], false)) := by kernel_rfl
theorem back_2a (d n m imm kind : Int) (hd0 : 0 ≤ d) (hd1 : d ≤ 31) (hn0 : 0 ≤ n) (hn1 : n ≤ 31) (hm0 : 0 ≤ m) (hm1 : m ≤ 31) (h0 : 0 ≤ imm) (h1 : imm ≤ 1099511627776) (hz : ¬ imm = 0) : instrA (wordsL (textA 2 d n m imm kind), false) = (⟨2, d, n, 0, imm, 0⟩, ([], false)) := by
 have e : textA 2 d n m imm kind = ([76, 68, 82] : List UInt8) ++ (32 :: (regL d ++ (44 :: (91 :: (regL n ++ (44 :: (immL imm ++ (93 :: [])))))))) := by unfold textA; simp [nameL, hz]
 have ew : wordsL (textA 2 d n m imm kind) = [([76, 68, 82] : List UInt8), regL d, [44], [91], regL n, [44], immL imm, [93]] := by
  rw [e]
  rw [wl (by decide) rfl, wl_sp, wl (regL_wc hd0 hd1) rfl, wl_c, wl_o, wl (regL_wc hn0 hn1) rfl, wl_c, wl (immL_wc imm) rfl, wl_k]
  rfl
 rw [ew]
 show bodyA [76, 68, 82] ([regL d, [44], [91], regL n, [44], immL imm, [93]], false) = _
 rw [show ∀ s, bodyA [76, 68, 82] s = memoryA s 2 from fun _ => rfl]
 simp only [memoryA, placeA, regA_reg hd0 hd1, regA_reg hn0 hn1, mustA_yes, mayA_yes, countA_imm h0 h1, if_true]
 try rfl
theorem back_3a (d n m imm kind : Int) (hd0 : 0 ≤ d) (hd1 : d ≤ 31) (hn0 : 0 ≤ n) (hn1 : n ≤ 31) (hm0 : 0 ≤ m) (hm1 : m ≤ 31) (h0 : 0 ≤ imm) (h1 : imm ≤ 1099511627776) (hz : ¬ imm = 0) : instrA (wordsL (textA 3 d n m imm kind), false) = (⟨3, d, n, 0, imm, 0⟩, ([], false)) := by
 have e : textA 3 d n m imm kind = ([83, 84, 82] : List UInt8) ++ (32 :: (regL d ++ (44 :: (91 :: (regL n ++ (44 :: (immL imm ++ (93 :: [])))))))) := by unfold textA; simp [nameL, hz]
 have ew : wordsL (textA 3 d n m imm kind) = [([83, 84, 82] : List UInt8), regL d, [44], [91], regL n, [44], immL imm, [93]] := by
  rw [e]
  rw [wl (by decide) rfl, wl_sp, wl (regL_wc hd0 hd1) rfl, wl_c, wl_o, wl (regL_wc hn0 hn1) rfl, wl_c, wl (immL_wc imm) rfl, wl_k]
  rfl
 rw [ew]
 show bodyA [83, 84, 82] ([regL d, [44], [91], regL n, [44], immL imm, [93]], false) = _
 rw [show ∀ s, bodyA [83, 84, 82] s = memoryA s 3 from fun _ => rfl]
 simp only [memoryA, placeA, regA_reg hd0 hd1, regA_reg hn0 hn1, mustA_yes, mayA_yes, countA_imm h0 h1, if_true]
 try rfl
theorem back_2b (d n m imm kind : Int) (hd0 : 0 ≤ d) (hd1 : d ≤ 31) (hn0 : 0 ≤ n) (hn1 : n ≤ 31) (hm0 : 0 ≤ m) (hm1 : m ≤ 31)  : instrA (wordsL (textA 2 d n m 0 kind), false) = (⟨2, d, n, 0, 0, 0⟩, ([], false)) := by
 have e : textA 2 d n m 0 kind = ([76, 68, 82] : List UInt8) ++ (32 :: (regL d ++ (44 :: (91 :: (regL n ++ (93 :: [])))))) := by unfold textA; simp [nameL]
 have ew : wordsL (textA 2 d n m 0 kind) = [([76, 68, 82] : List UInt8), regL d, [44], [91], regL n, [93]] := by
  rw [e]
  rw [wl (by decide) rfl, wl_sp, wl (regL_wc hd0 hd1) rfl, wl_c, wl_o, wl (regL_wc hn0 hn1) rfl, wl_k]
  rfl
 rw [ew]
 show bodyA [76, 68, 82] ([regL d, [44], [91], regL n, [93]], false) = _
 rw [show ∀ s, bodyA [76, 68, 82] s = memoryA s 2 from fun _ => rfl]
 simp only [memoryA, placeA, regA_reg hd0 hd1, regA_reg hn0 hn1, mustA_yes]
 simp [mayA, mustA_yes]
theorem back_3b (d n m imm kind : Int) (hd0 : 0 ≤ d) (hd1 : d ≤ 31) (hn0 : 0 ≤ n) (hn1 : n ≤ 31) (hm0 : 0 ≤ m) (hm1 : m ≤ 31)  : instrA (wordsL (textA 3 d n m 0 kind), false) = (⟨3, d, n, 0, 0, 0⟩, ([], false)) := by
 have e : textA 3 d n m 0 kind = ([83, 84, 82] : List UInt8) ++ (32 :: (regL d ++ (44 :: (91 :: (regL n ++ (93 :: [])))))) := by unfold textA; simp [nameL]
 have ew : wordsL (textA 3 d n m 0 kind) = [([83, 84, 82] : List UInt8), regL d, [44], [91], regL n, [93]] := by
  rw [e]
  rw [wl (by decide) rfl, wl_sp, wl (regL_wc hd0 hd1) rfl, wl_c, wl_o, wl (regL_wc hn0 hn1) rfl, wl_k]
  rfl
 rw [ew]
 show bodyA [83, 84, 82] ([regL d, [44], [91], regL n, [93]], false) = _
 rw [show ∀ s, bodyA [83, 84, 82] s = memoryA s 3 from fun _ => rfl]
 simp only [memoryA, placeA, regA_reg hd0 hd1, regA_reg hn0 hn1, mustA_yes]
 simp [mayA, mustA_yes]
theorem back_4b (d n m imm kind : Int) (hd0 : 0 ≤ d) (hd1 : d ≤ 31) (hn0 : 0 ≤ n) (hn1 : n ≤ 31) (hm0 : 0 ≤ m) (hm1 : m ≤ 31)  : instrA (wordsL (textA 4 d n m 0 kind), false) = (⟨4, d, n, 0, 0, 0⟩, ([], false)) := by
 have e : textA 4 d n m 0 kind = ([76, 68, 65, 82] : List UInt8) ++ (32 :: (regL d ++ (44 :: (91 :: (regL n ++ (93 :: [])))))) := by unfold textA; simp [nameL]
 have ew : wordsL (textA 4 d n m 0 kind) = [([76, 68, 65, 82] : List UInt8), regL d, [44], [91], regL n, [93]] := by
  rw [e]
  rw [wl (by decide) rfl, wl_sp, wl (regL_wc hd0 hd1) rfl, wl_c, wl_o, wl (regL_wc hn0 hn1) rfl, wl_k]
  rfl
 rw [ew]
 show bodyA [76, 68, 65, 82] ([regL d, [44], [91], regL n, [93]], false) = _
 rw [show ∀ s, bodyA [76, 68, 65, 82] s = memoryA s 4 from fun _ => rfl]
 simp only [memoryA, placeA, regA_reg hd0 hd1, regA_reg hn0 hn1, mustA_yes]
 simp [mayA, mustA_yes]
theorem back_5b (d n m imm kind : Int) (hd0 : 0 ≤ d) (hd1 : d ≤ 31) (hn0 : 0 ≤ n) (hn1 : n ≤ 31) (hm0 : 0 ≤ m) (hm1 : m ≤ 31)  : instrA (wordsL (textA 5 d n m 0 kind), false) = (⟨5, d, n, 0, 0, 0⟩, ([], false)) := by
 have e : textA 5 d n m 0 kind = ([83, 84, 76, 82] : List UInt8) ++ (32 :: (regL d ++ (44 :: (91 :: (regL n ++ (93 :: [])))))) := by unfold textA; simp [nameL]
 have ew : wordsL (textA 5 d n m 0 kind) = [([83, 84, 76, 82] : List UInt8), regL d, [44], [91], regL n, [93]] := by
  rw [e]
  rw [wl (by decide) rfl, wl_sp, wl (regL_wc hd0 hd1) rfl, wl_c, wl_o, wl (regL_wc hn0 hn1) rfl, wl_k]
  rfl
 rw [ew]
 show bodyA [83, 84, 76, 82] ([regL d, [44], [91], regL n, [93]], false) = _
 rw [show ∀ s, bodyA [83, 84, 76, 82] s = memoryA s 5 from fun _ => rfl]
 simp only [memoryA, placeA, regA_reg hd0 hd1, regA_reg hn0 hn1, mustA_yes]
 simp [mayA, mustA_yes]
theorem back_6a (d n m imm kind : Int) (hd0 : 0 ≤ d) (hd1 : d ≤ 31) (hn0 : 0 ≤ n) (hn1 : n ≤ 31) (hm0 : 0 ≤ m) (hm1 : m ≤ 31) (h0 : 0 ≤ imm) (h1 : imm ≤ 1099511627776) : instrA (wordsL (textA 6 d n m imm 0), false) = (⟨6, d, 0, 0, imm, 0⟩, ([], false)) := by
 have e : textA 6 d n m imm 0 = ([77, 79, 86] : List UInt8) ++ (32 :: (regL d ++ (44 :: (immL imm ++ ([]))))) := by unfold textA; simp
 have ew : wordsL (textA 6 d n m imm 0) = [([77, 79, 86] : List UInt8), regL d, [44], immL imm] := by
  rw [e]
  rw [wl (by decide) rfl, wl_sp, wl (regL_wc hd0 hd1) rfl, wl_c, wl (immL_wc imm) rfl]
  rfl
 rw [ew]
 show bodyA [77, 79, 86] ([regL d, [44], immL imm], false) = _
 rw [show ∀ s, bodyA [77, 79, 86] s = moveA s from fun _ => rfl]
 simp only [moveA, regA_reg hd0 hd1, mustA_yes, countA_imm h0 h1]
 simp [mayA]
theorem back_6b (d n m imm kind : Int) (hd0 : 0 ≤ d) (hd1 : d ≤ 31) (hn0 : 0 ≤ n) (hn1 : n ≤ 31) (hm0 : 0 ≤ m) (hm1 : m ≤ 31) (h0 : 0 ≤ imm) (h1 : imm ≤ 1099511627776) (hk0 : 0 ≤ kind) (hk1 : kind ≤ 3) (hz : ¬ kind = 0) : instrA (wordsL (textA 6 d n m imm kind), false) = (⟨6, d, 0, 0, imm, kind⟩, ([], false)) := by
 have e : textA 6 d n m imm kind = ([77, 79, 86, 90] : List UInt8) ++ (32 :: (regL d ++ (44 :: (immL imm ++ (44 :: (([76, 83, 76] : List UInt8) ++ (32 :: (immL (16 * kind) ++ ([]))))))))) := by unfold textA; simp [hz, immL]
 have ew : wordsL (textA 6 d n m imm kind) = [([77, 79, 86, 90] : List UInt8), regL d, [44], immL imm, [44], ([76, 83, 76] : List UInt8), immL (16 * kind)] := by
  rw [e]
  rw [wl (by decide) rfl, wl_sp, wl (regL_wc hd0 hd1) rfl, wl_c, wl (immL_wc imm) rfl, wl_c, wl (by decide) rfl, wl_sp, wl (immL_wc (16 * kind)) rfl]
  rfl
 rw [ew]
 show bodyA [77, 79, 86, 90] ([regL d, [44], immL imm, [44], ([76, 83, 76] : List UInt8), immL (16 * kind)], false) = _
 rw [show ∀ s, bodyA [77, 79, 86, 90] s = moveA s from fun _ => rfl]
 simp only [moveA, regA_reg hd0 hd1, mustA_yes, countA_imm h0 h1, mayA_yes, if_true, countA_imm (n := 16 * kind) (by omega) (by omega)]
 have e1 : 16 * kind / 16 = kind := by omega
 have e2 : 16 * kind % 16 = 0 := by omega
 simp [e1, e2, badA]
theorem back_7 (d n m imm kind : Int) (hd0 : 0 ≤ d) (hd1 : d ≤ 31) (hn0 : 0 ≤ n) (hn1 : n ≤ 31) (hm0 : 0 ≤ m) (hm1 : m ≤ 31) (h0 : 0 ≤ imm) (h1 : imm ≤ 1099511627776) : instrA (wordsL (textA 7 d n m imm kind), false) = (⟨7, d, n, 0, imm, 0⟩, ([], false)) := by
 have e : textA 7 d n m imm kind = ([65, 68, 68] : List UInt8) ++ (32 :: (regL d ++ (44 :: (regL n ++ (44 :: (immL imm ++ ([]))))))) := by unfold textA; simp
 have ew : wordsL (textA 7 d n m imm kind) = [([65, 68, 68] : List UInt8), regL d, [44], regL n, [44], immL imm] := by
  rw [e]
  rw [wl (by decide) rfl, wl_sp, wl (regL_wc hd0 hd1) rfl, wl_c, wl (regL_wc hn0 hn1) rfl, wl_c, wl (immL_wc imm) rfl]
  rfl
 rw [ew]
 show bodyA [65, 68, 68] ([regL d, [44], regL n, [44], immL imm], false) = _
 rw [show ∀ s, bodyA [65, 68, 68] s = addA s from fun _ => rfl]
 simp only [addA, regA_reg hd0 hd1, regA_reg hn0 hn1, mustA_yes]
 rw [if_pos (show hashA ([immL imm], false) = true from by simp [hashA, immL])]
 simp only [countA_imm h0 h1]
theorem hash_reg {m : Int} (h0 : 0 ≤ m) (h1 : m ≤ 31) : hashA ([regL m], false) = false := by
 show ([35] : List UInt8).isPrefixOf (regL m) = false
 unfold regL
 split
 ·rfl
 ·rw [if_pos (by omega)]; rfl
theorem back_8 (d n m imm kind : Int) (hd0 : 0 ≤ d) (hd1 : d ≤ 31) (hn0 : 0 ≤ n) (hn1 : n ≤ 31) (hm0 : 0 ≤ m) (hm1 : m ≤ 31)  : instrA (wordsL (textA 8 d n m imm kind), false) = (⟨8, d, n, m, 0, 0⟩, ([], false)) := by
 have e : textA 8 d n m imm kind = ([65, 68, 68] : List UInt8) ++ (32 :: (regL d ++ (44 :: (regL n ++ (44 :: (regL m ++ ([]))))))) := by unfold textA; simp [nameL, threeL]
 have ew : wordsL (textA 8 d n m imm kind) = [([65, 68, 68] : List UInt8), regL d, [44], regL n, [44], regL m] := by
  rw [e]
  rw [wl (by decide) rfl, wl_sp, wl (regL_wc hd0 hd1) rfl, wl_c, wl (regL_wc hn0 hn1) rfl, wl_c, wl (regL_wc hm0 hm1) rfl]
  rfl
 rw [ew]
 show bodyA [65, 68, 68] ([regL d, [44], regL n, [44], regL m], false) = _
 rw [show ∀ s, bodyA [65, 68, 68] s = addA s from fun _ => rfl]
 simp only [addA, regA_reg hd0 hd1, regA_reg hn0 hn1, mustA_yes, hash_reg hm0 hm1, regA_reg hm0 hm1]
 rfl
theorem back_9 (d n m imm kind : Int) (hd0 : 0 ≤ d) (hd1 : d ≤ 31) (hn0 : 0 ≤ n) (hn1 : n ≤ 31) (hm0 : 0 ≤ m) (hm1 : m ≤ 31)  : instrA (wordsL (textA 9 d n m imm kind), false) = (⟨9, d, n, m, 0, 0⟩, ([], false)) := by
 have e : textA 9 d n m imm kind = ([83, 85, 66] : List UInt8) ++ (32 :: (regL d ++ (44 :: (regL n ++ (44 :: (regL m ++ ([]))))))) := by unfold textA; simp [nameL, threeL]
 have ew : wordsL (textA 9 d n m imm kind) = [([83, 85, 66] : List UInt8), regL d, [44], regL n, [44], regL m] := by
  rw [e]
  rw [wl (by decide) rfl, wl_sp, wl (regL_wc hd0 hd1) rfl, wl_c, wl (regL_wc hn0 hn1) rfl, wl_c, wl (regL_wc hm0 hm1) rfl]
  rfl
 rw [ew]
 show bodyA [83, 85, 66] ([regL d, [44], regL n, [44], regL m], false) = _
 rw [show ∀ s, bodyA [83, 85, 66] s = threeA s 9 from fun _ => rfl]
 simp only [threeA, regA_reg hd0 hd1, regA_reg hn0 hn1, mustA_yes, regA_reg hm0 hm1]
theorem back_10 (d n m imm kind : Int) (hd0 : 0 ≤ d) (hd1 : d ≤ 31) (hn0 : 0 ≤ n) (hn1 : n ≤ 31) (hm0 : 0 ≤ m) (hm1 : m ≤ 31)  : instrA (wordsL (textA 10 d n m imm kind), false) = (⟨10, d, n, m, 0, 0⟩, ([], false)) := by
 have e : textA 10 d n m imm kind = ([65, 78, 68] : List UInt8) ++ (32 :: (regL d ++ (44 :: (regL n ++ (44 :: (regL m ++ ([]))))))) := by unfold textA; simp [nameL, threeL]
 have ew : wordsL (textA 10 d n m imm kind) = [([65, 78, 68] : List UInt8), regL d, [44], regL n, [44], regL m] := by
  rw [e]
  rw [wl (by decide) rfl, wl_sp, wl (regL_wc hd0 hd1) rfl, wl_c, wl (regL_wc hn0 hn1) rfl, wl_c, wl (regL_wc hm0 hm1) rfl]
  rfl
 rw [ew]
 show bodyA [65, 78, 68] ([regL d, [44], regL n, [44], regL m], false) = _
 rw [show ∀ s, bodyA [65, 78, 68] s = threeA s 10 from fun _ => rfl]
 simp only [threeA, regA_reg hd0 hd1, regA_reg hn0 hn1, mustA_yes, regA_reg hm0 hm1]
theorem back_11 (d n m imm kind : Int) (hd0 : 0 ≤ d) (hd1 : d ≤ 31) (hn0 : 0 ≤ n) (hn1 : n ≤ 31) (hm0 : 0 ≤ m) (hm1 : m ≤ 31)  : instrA (wordsL (textA 11 d n m imm kind), false) = (⟨11, d, n, m, 0, 0⟩, ([], false)) := by
 have e : textA 11 d n m imm kind = ([79, 82, 82] : List UInt8) ++ (32 :: (regL d ++ (44 :: (regL n ++ (44 :: (regL m ++ ([]))))))) := by unfold textA; simp [nameL, threeL]
 have ew : wordsL (textA 11 d n m imm kind) = [([79, 82, 82] : List UInt8), regL d, [44], regL n, [44], regL m] := by
  rw [e]
  rw [wl (by decide) rfl, wl_sp, wl (regL_wc hd0 hd1) rfl, wl_c, wl (regL_wc hn0 hn1) rfl, wl_c, wl (regL_wc hm0 hm1) rfl]
  rfl
 rw [ew]
 show bodyA [79, 82, 82] ([regL d, [44], regL n, [44], regL m], false) = _
 rw [show ∀ s, bodyA [79, 82, 82] s = threeA s 11 from fun _ => rfl]
 simp only [threeA, regA_reg hd0 hd1, regA_reg hn0 hn1, mustA_yes, regA_reg hm0 hm1]
theorem back_12 (d n m imm kind : Int) (hd0 : 0 ≤ d) (hd1 : d ≤ 31) (hn0 : 0 ≤ n) (hn1 : n ≤ 31) (hm0 : 0 ≤ m) (hm1 : m ≤ 31)  : instrA (wordsL (textA 12 d n m imm kind), false) = (⟨12, d, n, m, 0, 0⟩, ([], false)) := by
 have e : textA 12 d n m imm kind = ([69, 79, 82] : List UInt8) ++ (32 :: (regL d ++ (44 :: (regL n ++ (44 :: (regL m ++ ([]))))))) := by unfold textA; simp [nameL, threeL]
 have ew : wordsL (textA 12 d n m imm kind) = [([69, 79, 82] : List UInt8), regL d, [44], regL n, [44], regL m] := by
  rw [e]
  rw [wl (by decide) rfl, wl_sp, wl (regL_wc hd0 hd1) rfl, wl_c, wl (regL_wc hn0 hn1) rfl, wl_c, wl (regL_wc hm0 hm1) rfl]
  rfl
 rw [ew]
 show bodyA [69, 79, 82] ([regL d, [44], regL n, [44], regL m], false) = _
 rw [show ∀ s, bodyA [69, 79, 82] s = threeA s 12 from fun _ => rfl]
 simp only [threeA, regA_reg hd0 hd1, regA_reg hn0 hn1, mustA_yes, regA_reg hm0 hm1]
theorem back_13a (d n m imm kind : Int) (hd0 : 0 ≤ d) (hd1 : d ≤ 31) (hn0 : 0 ≤ n) (hn1 : n ≤ 31) (hm0 : 0 ≤ m) (hm1 : m ≤ 31)  : instrA (wordsL (textA 13 31 n m imm kind), false) = (⟨13, 31, n, m, 0, 0⟩, ([], false)) := by
 have e : textA 13 31 n m imm kind = ([67, 77, 80] : List UInt8) ++ (32 :: (regL n ++ (44 :: (regL m ++ ([]))))) := by unfold textA; simp
 have ew : wordsL (textA 13 31 n m imm kind) = [([67, 77, 80] : List UInt8), regL n, [44], regL m] := by
  rw [e]
  rw [wl (by decide) rfl, wl_sp, wl (regL_wc hn0 hn1) rfl, wl_c, wl (regL_wc hm0 hm1) rfl]
  rfl
 rw [ew]
 show bodyA [67, 77, 80] ([regL n, [44], regL m], false) = _
 rw [show ∀ s, bodyA [67, 77, 80] s = cmpA s from fun _ => rfl]
 simp only [cmpA, regA_reg hn0 hn1, mustA_yes, regA_reg hm0 hm1]
theorem back_13b (d n m imm kind : Int) (hd0 : 0 ≤ d) (hd1 : d ≤ 31) (hn0 : 0 ≤ n) (hn1 : n ≤ 31) (hm0 : 0 ≤ m) (hm1 : m ≤ 31) (hz : ¬ d = 31) : instrA (wordsL (textA 13 d n m imm kind), false) = (⟨13, d, n, m, 0, 0⟩, ([], false)) := by
 have e : textA 13 d n m imm kind = ([83, 85, 66, 83] : List UInt8) ++ (32 :: (regL d ++ (44 :: (regL n ++ (44 :: (regL m ++ ([]))))))) := by unfold textA; simp [nameL, threeL, hz]
 have ew : wordsL (textA 13 d n m imm kind) = [([83, 85, 66, 83] : List UInt8), regL d, [44], regL n, [44], regL m] := by
  rw [e]
  rw [wl (by decide) rfl, wl_sp, wl (regL_wc hd0 hd1) rfl, wl_c, wl (regL_wc hn0 hn1) rfl, wl_c, wl (regL_wc hm0 hm1) rfl]
  rfl
 rw [ew]
 show bodyA [83, 85, 66, 83] ([regL d, [44], regL n, [44], regL m], false) = _
 rw [show ∀ s, bodyA [83, 85, 66, 83] s = threeA s 13 from fun _ => rfl]
 simp only [threeA, regA_reg hd0 hd1, regA_reg hn0 hn1, mustA_yes, regA_reg hm0 hm1]
theorem back_14 (d n m imm kind : Int) (hd0 : 0 ≤ d) (hd1 : d ≤ 31) (hn0 : 0 ≤ n) (hn1 : n ≤ 31) (hm0 : 0 ≤ m) (hm1 : m ≤ 31) (h0 : -1099511627776 ≤ imm) (h1 : imm ≤ 1099511627776) : instrA (wordsL (textA 14 d n m imm kind), false) = (⟨14, 0, 0, 0, imm, 0⟩, ([], false)) := by
 have e : textA 14 d n m imm kind = ([66] : List UInt8) ++ (32 :: (targetL imm ++ ([]))) := by unfold textA; simp
 have ew : wordsL (textA 14 d n m imm kind) = [([66] : List UInt8), targetL imm] := by
  rw [e]
  rw [wl (by decide) rfl, wl_sp, wl (targetL_wc imm) rfl]
  rfl
 rw [ew]
 show bodyA [66] ([targetL imm], false) = _
 rw [show ∀ s, bodyA [66] s = (⟨14, 0, 0, 0, (branchA s).1, 0⟩, (branchA s).2) from fun _ => rfl]
 simp only [branchA_tgt h0 h1]
theorem back_15 (d n m imm kind : Int) (hd0 : 0 ≤ d) (hd1 : d ≤ 31) (hn0 : 0 ≤ n) (hn1 : n ≤ 31) (hm0 : 0 ≤ m) (hm1 : m ≤ 31) (h0 : -1099511627776 ≤ imm) (h1 : imm ≤ 1099511627776) : instrA (wordsL (textA 15 d n m imm kind), false) = (⟨15, d, 0, 0, imm, 0⟩, ([], false)) := by
 have e : textA 15 d n m imm kind = ([67, 66, 90] : List UInt8) ++ (32 :: (regL d ++ (44 :: (targetL imm ++ ([]))))) := by unfold textA; simp [nameL]
 have ew : wordsL (textA 15 d n m imm kind) = [([67, 66, 90] : List UInt8), regL d, [44], targetL imm] := by
  rw [e]
  rw [wl (by decide) rfl, wl_sp, wl (regL_wc hd0 hd1) rfl, wl_c, wl (targetL_wc imm) rfl]
  rfl
 rw [ew]
 show bodyA [67, 66, 90] ([regL d, [44], targetL imm], false) = _
 rw [show ∀ s, bodyA [67, 66, 90] s = testA s 15 from fun _ => rfl]
 simp only [testA, regA_reg hd0 hd1, mustA_yes, branchA_tgt h0 h1]
theorem back_16 (d n m imm kind : Int) (hd0 : 0 ≤ d) (hd1 : d ≤ 31) (hn0 : 0 ≤ n) (hn1 : n ≤ 31) (hm0 : 0 ≤ m) (hm1 : m ≤ 31) (h0 : -1099511627776 ≤ imm) (h1 : imm ≤ 1099511627776) : instrA (wordsL (textA 16 d n m imm kind), false) = (⟨16, d, 0, 0, imm, 0⟩, ([], false)) := by
 have e : textA 16 d n m imm kind = ([67, 66, 78, 90] : List UInt8) ++ (32 :: (regL d ++ (44 :: (targetL imm ++ ([]))))) := by unfold textA; simp [nameL]
 have ew : wordsL (textA 16 d n m imm kind) = [([67, 66, 78, 90] : List UInt8), regL d, [44], targetL imm] := by
  rw [e]
  rw [wl (by decide) rfl, wl_sp, wl (regL_wc hd0 hd1) rfl, wl_c, wl (targetL_wc imm) rfl]
  rfl
 rw [ew]
 show bodyA [67, 66, 78, 90] ([regL d, [44], targetL imm], false) = _
 rw [show ∀ s, bodyA [67, 66, 78, 90] s = testA s 16 from fun _ => rfl]
 simp only [testA, regA_reg hd0 hd1, mustA_yes, branchA_tgt h0 h1]
theorem back_17a (d n m imm kind : Int) (hd0 : 0 ≤ d) (hd1 : d ≤ 31) (hn0 : 0 ≤ n) (hn1 : n ≤ 31) (hm0 : 0 ≤ m) (hm1 : m ≤ 31) (h0 : -1099511627776 ≤ imm) (h1 : imm ≤ 1099511627776) : instrA (wordsL (textA 17 d n m imm 0), false) = (⟨17, 0, 0, 0, imm, 0⟩, ([], false)) := by
 have e : textA 17 d n m imm 0 = ([66, 46, 69, 81] : List UInt8) ++ (32 :: (targetL imm ++ ([]))) := by unfold textA; simp
 have ew : wordsL (textA 17 d n m imm 0) = [([66, 46, 69, 81] : List UInt8), targetL imm] := by
  rw [e]
  rw [wl (by decide) rfl, wl_sp, wl (targetL_wc imm) rfl]
  rfl
 rw [ew]
 show bodyA [66, 46, 69, 81] ([targetL imm], false) = _
 rw [show ∀ s, bodyA [66, 46, 69, 81] s = (⟨17, 0, 0, 0, (branchA s).1, 0⟩, (branchA s).2) from fun _ => rfl]
 simp only [branchA_tgt h0 h1]
theorem back_17b (d n m imm kind : Int) (hd0 : 0 ≤ d) (hd1 : d ≤ 31) (hn0 : 0 ≤ n) (hn1 : n ≤ 31) (hm0 : 0 ≤ m) (hm1 : m ≤ 31) (h0 : -1099511627776 ≤ imm) (h1 : imm ≤ 1099511627776) : instrA (wordsL (textA 17 d n m imm 1), false) = (⟨17, 0, 0, 0, imm, 1⟩, ([], false)) := by
 have e : textA 17 d n m imm 1 = ([66, 46, 78, 69] : List UInt8) ++ (32 :: (targetL imm ++ ([]))) := by unfold textA; simp
 have ew : wordsL (textA 17 d n m imm 1) = [([66, 46, 78, 69] : List UInt8), targetL imm] := by
  rw [e]
  rw [wl (by decide) rfl, wl_sp, wl (targetL_wc imm) rfl]
  rfl
 rw [ew]
 show bodyA [66, 46, 78, 69] ([targetL imm], false) = _
 rw [show ∀ s, bodyA [66, 46, 78, 69] s = (⟨17, 0, 0, 0, (branchA s).1, 1⟩, (branchA s).2) from fun _ => rfl]
 simp only [branchA_tgt h0 h1]
theorem back_18 (d n m imm kind : Int) (hd0 : 0 ≤ d) (hd1 : d ≤ 31) (hn0 : 0 ≤ n) (hn1 : n ≤ 31) (hm0 : 0 ≤ m) (hm1 : m ≤ 31) (hk : (9 ≤ kind ∧ kind ≤ 11) ∨ (13 ≤ kind ∧ kind ≤ 15)) : instrA (wordsL (textA 18 d n m imm kind), false) = (⟨18, 0, 0, 0, 0, kind⟩, ([], false)) := by
 have e : textA 18 d n m imm kind = ([68, 77, 66] : List UInt8) ++ (32 :: (barL kind ++ ([]))) := by unfold textA; simp
 have ew : wordsL (textA 18 d n m imm kind) = [([68, 77, 66] : List UInt8), barL kind] := by
  rw [e]
  rw [wl (by decide) rfl, wl_sp, wl (kindA_bar hk [] false).2 rfl]
  rfl
 rw [ew]
 show bodyA [68, 77, 66] ([barL kind], false) = _
 rw [show ∀ s, bodyA [68, 77, 66] s = (⟨18, 0, 0, 0, 0, (kindA s 16 barN).1⟩, (kindA s 16 barN).2) from fun _ => rfl]
 simp only [(kindA_bar hk [] false).1]
theorem back_19 (d n m imm kind : Int) (hd0 : 0 ≤ d) (hd1 : d ≤ 31) (hn0 : 0 ≤ n) (hn1 : n ≤ 31) (hm0 : 0 ≤ m) (hm1 : m ≤ 31) (hk : (9 ≤ kind ∧ kind ≤ 11) ∨ (13 ≤ kind ∧ kind ≤ 15)) : instrA (wordsL (textA 19 d n m imm kind), false) = (⟨19, 0, 0, 0, 0, kind⟩, ([], false)) := by
 have e : textA 19 d n m imm kind = ([68, 83, 66] : List UInt8) ++ (32 :: (barL kind ++ ([]))) := by unfold textA; simp
 have ew : wordsL (textA 19 d n m imm kind) = [([68, 83, 66] : List UInt8), barL kind] := by
  rw [e]
  rw [wl (by decide) rfl, wl_sp, wl (kindA_bar hk [] false).2 rfl]
  rfl
 rw [ew]
 show bodyA [68, 83, 66] ([barL kind], false) = _
 rw [show ∀ s, bodyA [68, 83, 66] s = (⟨19, 0, 0, 0, 0, (kindA s 16 barN).1⟩, (kindA s 16 barN).2) from fun _ => rfl]
 simp only [(kindA_bar hk [] false).1]
theorem back_21a (d n m imm kind : Int) (hd0 : 0 ≤ d) (hd1 : d ≤ 31) (hn0 : 0 ≤ n) (hn1 : n ≤ 31) (hm0 : 0 ≤ m) (hm1 : m ≤ 31) (hk : 0 ≤ kind ∧ kind ≤ 7) (hz : kind % 4 = 0) : instrA (wordsL (textA 21 d n m imm kind), false) = (⟨21, 31, 0, 0, 0, kind⟩, ([], false)) := by
 have e : textA 21 d n m imm kind = ([84, 76, 66, 73] : List UInt8) ++ (32 :: (flushL kind ++ ([]))) := by unfold textA; simp [hz]
 have ew : wordsL (textA 21 d n m imm kind) = [([84, 76, 66, 73] : List UInt8), flushL kind] := by
  rw [e]
  rw [wl (by decide) rfl, wl_sp, wl (kindA_flush hk [] false).2 rfl]
  rfl
 rw [ew]
 show bodyA [84, 76, 66, 73] ([flushL kind], false) = _
 rw [show ∀ s, bodyA [84, 76, 66, 73] s = flushA s from fun _ => rfl]
 simp only [flushA, (kindA_flush hk [] false).1]
 simp [hz]
theorem back_21b (d n m imm kind : Int) (hd0 : 0 ≤ d) (hd1 : d ≤ 31) (hn0 : 0 ≤ n) (hn1 : n ≤ 31) (hm0 : 0 ≤ m) (hm1 : m ≤ 31) (hk : 0 ≤ kind ∧ kind ≤ 7) (hz : ¬ kind % 4 = 0) : instrA (wordsL (textA 21 d n m imm kind), false) = (⟨21, d, 0, 0, 0, kind⟩, ([], false)) := by
 have e : textA 21 d n m imm kind = ([84, 76, 66, 73] : List UInt8) ++ (32 :: (flushL kind ++ (44 :: (regL d ++ ([]))))) := by unfold textA; simp [hz]
 have ew : wordsL (textA 21 d n m imm kind) = [([84, 76, 66, 73] : List UInt8), flushL kind, [44], regL d] := by
  rw [e]
  rw [wl (by decide) rfl, wl_sp, wl (kindA_flush hk [] false).2 rfl, wl_c, wl (regL_wc hd0 hd1) rfl]
  rfl
 rw [ew]
 show bodyA [84, 76, 66, 73] ([flushL kind, [44], regL d], false) = _
 rw [show ∀ s, bodyA [84, 76, 66, 73] s = flushA s from fun _ => rfl]
 simp only [flushA, (kindA_flush hk _ false).1, mustA_yes, regA_reg hd0 hd1]
 simp [hz]
theorem back_23 (d n m imm kind : Int) (hd0 : 0 ≤ d) (hd1 : d ≤ 31) (hn0 : 0 ≤ n) (hn1 : n ≤ 31) (hm0 : 0 ≤ m) (hm1 : m ≤ 31) (hk : 0 ≤ kind ∧ kind ≤ 2) : instrA (wordsL (textA 23 d n m imm kind), false) = (⟨23, d, 0, 0, 0, kind⟩, ([], false)) := by
 have e : textA 23 d n m imm kind = ([77, 82, 83] : List UInt8) ++ (32 :: (regL d ++ (44 :: (sysL kind ++ ([]))))) := by unfold textA; simp
 have ew : wordsL (textA 23 d n m imm kind) = [([77, 82, 83] : List UInt8), regL d, [44], sysL kind] := by
  rw [e]
  rw [wl (by decide) rfl, wl_sp, wl (regL_wc hd0 hd1) rfl, wl_c, wl (kindA_sys hk [] false).2 rfl]
  rfl
 rw [ew]
 show bodyA [77, 82, 83] ([regL d, [44], sysL kind], false) = _
 rw [show ∀ s, bodyA [77, 82, 83] s = mrsA s from fun _ => rfl]
 simp only [mrsA, (kindA_sys hk [] false).1, mustA_yes, regA_reg hd0 hd1]
theorem back_words {op d n m imm kind : Int} (h : rightP op d n m imm kind) : instrA (wordsL (textA op d n m imm kind), false) = (⟨op, d, n, m, imm, kind⟩, ([], false)) := by
 obtain ⟨⟨hop, ⟨hd0, hd1⟩, ⟨hn0, hn1⟩, ⟨hm0, hm1⟩⟩, hB, hC, hD⟩ := h
 have ho : op = 1 ∨ op = 2 ∨ op = 3 ∨ op = 4 ∨ op = 5 ∨ op = 6 ∨ op = 7 ∨ op = 8 ∨ op = 9 ∨ op = 10 ∨ op = 11 ∨ op = 12 ∨ op = 13 ∨ op = 14 ∨ op = 15 ∨ op = 16 ∨ op = 17 ∨ op = 18 ∨ op = 19 ∨ op = 20 ∨ op = 21 ∨ op = 22 ∨ op = 23 := by omega
 unfold rightB at hB
 unfold rightC at hC
 unfold rightD at hD
 rcases ho with rfl | rfl | rfl | rfl | rfl | rfl | rfl | rfl | rfl | rfl | rfl | rfl | rfl | rfl | rfl | rfl | rfl | rfl | rfl | rfl | rfl | rfl | rfl
 ·skip
  obtain rfl : d = 0 := by omega
  obtain rfl : n = 0 := by omega
  obtain rfl : m = 0 := by omega
  obtain rfl : imm = 0 := by omega
  obtain rfl : kind = 0 := by omega
  have e : textA 1 0 0 0 0 0 = [78, 79, 80] := by kernel_rfl
  rw [e]; exact back_1
 ·skip
  obtain rfl : m = 0 := by omega
  obtain rfl : kind = 0 := by omega
  by_cases hz : imm = 0
  ·subst hz; exact back_2b d n 0 0 0 hd0 hd1 hn0 hn1 hm0 hm1
  ·exact back_2a d n 0 imm 0 hd0 hd1 hn0 hn1 hm0 hm1 (by omega) (by omega) hz
 ·skip
  obtain rfl : m = 0 := by omega
  obtain rfl : kind = 0 := by omega
  by_cases hz : imm = 0
  ·subst hz; exact back_3b d n 0 0 0 hd0 hd1 hn0 hn1 hm0 hm1
  ·exact back_3a d n 0 imm 0 hd0 hd1 hn0 hn1 hm0 hm1 (by omega) (by omega) hz
 ·skip
  obtain rfl : m = 0 := by omega
  obtain rfl : kind = 0 := by omega
  obtain rfl : imm = 0 := by omega
  exact back_4b d n 0 0 0 hd0 hd1 hn0 hn1 hm0 hm1
 ·skip
  obtain rfl : m = 0 := by omega
  obtain rfl : kind = 0 := by omega
  obtain rfl : imm = 0 := by omega
  exact back_5b d n 0 0 0 hd0 hd1 hn0 hn1 hm0 hm1
 ·skip
  obtain rfl : n = 0 := by omega
  obtain rfl : m = 0 := by omega
  by_cases hz : kind = 0
  ·subst hz; exact back_6a d 0 0 imm 0 hd0 hd1 hn0 hn1 hm0 hm1 (by omega) (by omega)
  ·exact back_6b d 0 0 imm kind hd0 hd1 hn0 hn1 hm0 hm1 (by omega) (by omega) (by omega) (by omega) hz
 ·skip
  obtain rfl : m = 0 := by omega
  obtain rfl : kind = 0 := by omega
  exact back_7 d n 0 imm 0 hd0 hd1 hn0 hn1 hm0 hm1 (by omega) (by omega)
 ·skip
  obtain rfl : imm = 0 := by omega
  obtain rfl : kind = 0 := by omega
  exact back_8 d n m 0 0 hd0 hd1 hn0 hn1 hm0 hm1
 ·skip
  obtain rfl : imm = 0 := by omega
  obtain rfl : kind = 0 := by omega
  exact back_9 d n m 0 0 hd0 hd1 hn0 hn1 hm0 hm1
 ·skip
  obtain rfl : imm = 0 := by omega
  obtain rfl : kind = 0 := by omega
  exact back_10 d n m 0 0 hd0 hd1 hn0 hn1 hm0 hm1
 ·skip
  obtain rfl : imm = 0 := by omega
  obtain rfl : kind = 0 := by omega
  exact back_11 d n m 0 0 hd0 hd1 hn0 hn1 hm0 hm1
 ·skip
  obtain rfl : imm = 0 := by omega
  obtain rfl : kind = 0 := by omega
  exact back_12 d n m 0 0 hd0 hd1 hn0 hn1 hm0 hm1
 ·skip
  obtain rfl : imm = 0 := by omega
  obtain rfl : kind = 0 := by omega
  by_cases hz : d = 31
  ·subst hz; exact back_13a 31 n m 0 0 hd0 hd1 hn0 hn1 hm0 hm1
  ·exact back_13b d n m 0 0 hd0 hd1 hn0 hn1 hm0 hm1 hz
 ·skip
  obtain rfl : d = 0 := by omega
  obtain rfl : n = 0 := by omega
  obtain rfl : m = 0 := by omega
  obtain rfl : kind = 0 := by omega
  exact back_14 0 0 0 imm 0 hd0 hd1 hn0 hn1 hm0 hm1 (by omega) (by omega)
 ·skip
  obtain rfl : n = 0 := by omega
  obtain rfl : m = 0 := by omega
  obtain rfl : kind = 0 := by omega
  exact back_15 d 0 0 imm 0 hd0 hd1 hn0 hn1 hm0 hm1 (by omega) (by omega)
 ·skip
  obtain rfl : n = 0 := by omega
  obtain rfl : m = 0 := by omega
  obtain rfl : kind = 0 := by omega
  exact back_16 d 0 0 imm 0 hd0 hd1 hn0 hn1 hm0 hm1 (by omega) (by omega)
 ·skip
  obtain rfl : d = 0 := by omega
  obtain rfl : n = 0 := by omega
  obtain rfl : m = 0 := by omega
  have hk : kind = 0 ∨ kind = 1 := by omega
  rcases hk with rfl | rfl
  ·exact back_17a 0 0 0 imm 0 hd0 hd1 hn0 hn1 hm0 hm1 (by omega) (by omega)
  ·exact back_17b 0 0 0 imm 1 hd0 hd1 hn0 hn1 hm0 hm1 (by omega) (by omega)
 ·skip
  obtain rfl : d = 0 := by omega
  obtain rfl : n = 0 := by omega
  obtain rfl : m = 0 := by omega
  obtain rfl : imm = 0 := by omega
  exact back_18 0 0 0 0 kind hd0 hd1 hn0 hn1 hm0 hm1 (by omega)
 ·skip
  obtain rfl : d = 0 := by omega
  obtain rfl : n = 0 := by omega
  obtain rfl : m = 0 := by omega
  obtain rfl : imm = 0 := by omega
  exact back_19 0 0 0 0 kind hd0 hd1 hn0 hn1 hm0 hm1 (by omega)
 ·skip
  obtain rfl : d = 0 := by omega
  obtain rfl : n = 0 := by omega
  obtain rfl : m = 0 := by omega
  obtain rfl : imm = 0 := by omega
  obtain rfl : kind = 0 := by omega
  have e : textA 20 0 0 0 0 0 = [73, 83, 66] := by kernel_rfl
  rw [e]; exact back_20
 ·skip
  obtain rfl : n = 0 := by omega
  obtain rfl : m = 0 := by omega
  obtain rfl : imm = 0 := by omega
  by_cases hz : kind % 4 = 0
  ·obtain rfl : d = 31 := by omega
   exact back_21a 31 0 0 0 kind hd0 hd1 hn0 hn1 hm0 hm1 (by omega) hz
  ·exact back_21b d 0 0 0 kind hd0 hd1 hn0 hn1 hm0 hm1 (by omega) hz
 ·skip
  obtain rfl : d = 0 := by omega
  obtain rfl : n = 0 := by omega
  obtain rfl : m = 0 := by omega
  obtain rfl : imm = 0 := by omega
  obtain rfl : kind = 0 := by omega
  have e : textA 22 0 0 0 0 0 = [69, 82, 69, 84] := by kernel_rfl
  rw [e]; exact back_22
 ·skip
  obtain rfl : n = 0 := by omega
  obtain rfl : m = 0 := by omega
  obtain rfl : imm = 0 := by omega
  exact back_23 d 0 0 0 kind hd0 hd1 hn0 hn1 hm0 hm1 (by omega)
theorem back_any {op d n m imm kind : Int} (h : rightP op d n m imm kind) {l : List UInt8} (hl : wordsL l = wordsL (textA op d n m imm kind)) : parseA l = (⟨op, d, n, m, imm, kind⟩, 0) :=
 parseA_yes (hl ▸ back_words h) rfl rfl h
end
section
open Go.RowKit
theorem kt_at (s : ByteArray) (a b : Nat) (l : List (Nat × Nat × Nat)) : (tkOf s a l).map kt = (tkOf s b l).map kt := by
 unfold tkOf; rw [List.map_map, List.map_map]; rfl
theorem line_key {y : SrcA} {w : List UInt8} {ps : List Pc} (hok : okPs ((1, w) :: ps)) (hk : keyB (ba w) = true) (h4 : ¬ y.after = 4) (h0 : decide (y.after = 0) = decide (ba w = wTest)) (a : Nat) :
  ∃ tk : List Tk, (tk.map kt).drop 1 = tkP ps ++ [(4, ByteArray.empty)] ∧ rowA y (ba (flat ((1, w) :: ps))) a = ((switchR tk y ⟨1, 0, 0⟩ (ba w) a).1, (endR tk (switchR tk y ⟨1, 0, 0⟩ (ba w) a).2).code, (endR tk (switchR tk y ⟨1, 0, 0⟩ (ba w) a).2).at_) := by
 obtain ⟨K, h1, h2⟩ := lex_pieces _ hok
 have hw : (ba (flat ((1, w) :: ps))).extract 0 (wordE (ba (flat ((1, w) :: ps))) 0) = ba w := by
  have hs : startsOK (flat ps) = true := hok.2.1 (.inl rfl)
  have hlet : w.all letU = true := by
   rcases hok.1 with h | h | h | h
   ·exact absurd h.1 (by simp)
   ·exact absurd h.1 (by simp)
   ·exact h.2.1
   ·exact absurd h.1 (by simp)
  have e := wordE_run [] w (flat ps) hlet hs
  have e2 := ba_extract [] w (flat ps)
  simp only [List.nil_append, List.length_nil, Nat.zero_add] at e e2
  show (ba (w ++ flat ps)).extract 0 (wordE (ba (w ++ flat ps)) 0) = ba w
  rw [e]; exact e2
 refine ⟨tkOf (ba (flat ((1, w) :: ps))) a K, ?_, ?_⟩
 ·rw [kt_at _ a 0, h2]; rfl
 ·have hd : ((tkOf (ba (flat ((1, w) :: ps))) a K).map kt).drop 0 = (1, ba w) :: (tkP ps ++ [(4, ByteArray.empty)]) := by
   rw [List.drop_zero, kt_at _ a 0, h2]; rfl
  have hn := next_at (A := 0) hd (by simp)
  unfold rowA
  rw [hw, h1]
  dsimp only
  rw [if_neg (by simp [h4, h0]), if_neg (by simp [hk]), if_neg (by simp), hn]
theorem end_at {tk : List Tk} {k : Nat} (h : (tk.map kt).drop k = [(4, ByteArray.empty)]) : endR tk ⟨k, 0, 0⟩ = ⟨k, 0, 0⟩ := by
 unfold endR; rw [(pk_at (A := 0) h).1, if_pos rfl]
def kwTest : List UInt8 := [116, 101, 115, 116]
def kwTable : List UInt8 := [116, 97, 98, 108, 101]
def kwCell : List UInt8 := [99, 101, 108, 108]
def kwCore : List UInt8 := [99, 111, 114, 101]
def kwSpace : List UInt8 := [115, 112, 97, 99, 101]
def kwReg : List UInt8 := [114, 101, 103]
def kwHandler : List UInt8 := [104, 97, 110, 100, 108, 101, 114]
def kwExists : List UInt8 := [101, 120, 105, 115, 116, 115]
def kwForall : List UInt8 := [102, 111, 114, 97, 108, 108]
def headOk : List UInt8 → Bool
 | c :: _ => !digitB (c.toNat : Int)
 | [] => false
theorem pc_kw {w : List UInt8} (h : w ∈ [kwTest, kwTable, kwCell, kwCore, kwSpace, kwReg, kwHandler, kwExists, kwForall]) : pcOK (1, w) := by
 have key : ∀ w ∈ [kwTest, kwTable, kwCell, kwCore, kwSpace, kwReg, kwHandler, kwExists, kwForall], (w.all letU && decide (w.length ≤ 24) && headOk w) = true := by decide +kernel
 have hk := key w h
 rw [Bool.and_eq_true, Bool.and_eq_true, decide_eq_true_iff] at hk
 refine .inr (.inr (.inl ⟨rfl, hk.1.1, hk.1.2, ?_⟩))
 cases w with
 | nil => exact absurd hk.2 (by decide)
 | cons c l => exact ⟨c, l, rfl, by simpa [headOk] using hk.2⟩
theorem pc_int (n : Nat) (hn : n < 65536) : pcOK (2, intL (n : Nat)) ∧ parseL (intL (n : Nat)) = (n, 0) := by
 have e : intL (n : Nat) = txt 10 n := by unfold intL; rw [if_neg (by omega)]; rfl
 obtain ⟨h1, _, h3⟩ := txt_digits 10 (by decide) (by decide) (n + 1) n (by omega)
 have hl := txt_len 10 (by decide) 4 n (by omega)
 have hp := dec_parse n (by omega)
 have hd : ∀ d, d < 10 → letU (dg d) = true ∧ digitB ((dg d).toNat : Int) = true := by decide +kernel
 rw [e]
 refine ⟨.inr (.inr (.inr ⟨rfl, List.all_eq_true.2 fun c hc => ?_, by show (txt 10 n).length ≤ 24; omega, ?_, by show (parseL (txt 10 n)).2 = 0; rw [hp]⟩)), hp⟩
 ·obtain ⟨d, hd1, rfl⟩ := h1 c hc
  exact (hd d (by omega)).1
 ·cases hq : txt 10 n with
  | nil => exact absurd hq h3
  | cons c l =>
   obtain ⟨d, hd1, e2⟩ := h1 c (by rw [hq]; simp)
   exact ⟨c, l, rfl, by rw [e2]; exact (hd d (by omega)).2⟩
theorem pc_eq : pcOK (3, [61]) := pc_sign (by decide)
def psTest (name : List UInt8) : List Pc := [(0, [32]), (1, name)]
def psTable (v : Nat) : List Pc := [(0, [32]), (2, hexL v)]
def psCell (a v : Nat) : List Pc := [(0, [32]), (2, hexL a), (0, [32]), (3, [61]), (0, [32]), (2, hexL v)]
def psCore (i sp tb : Nat) : List Pc := (0, [32]) :: (2, intL (i : Nat)) :: ((if sp = 0 then [] else [(0, [32]), (1, kwSpace), (0, [32]), (2, intL (sp : Nat))]) ++ [(0, [32]), (1, kwTable), (0, [32]), (2, hexL tb)])
def psReg (n v : Nat) : List Pc := [(0, [32]), (1, regL (n : Nat)), (0, [32]), (3, [61]), (0, [32]), (2, hexL v)]
theorem line_test {y : SrcA} (h0 : y.after = 0) {name : List UInt8} (hn : pcOK (1, name)) (a : Nat) : (rowA y (ba (flat ((1, kwTest) :: psTest name))) a).2.1 = 0 ∧ nx (rowA y (ba (flat ((1, kwTest) :: psTest name))) a).1 = nx { y with name := ba name, after := 1 } := by
 obtain ⟨tk, hd, hr⟩ := line_key (y := y) (w := kwTest) (ps := psTest name) ⟨pc_kw (by decide), fun _ => rfl, pc_blank, by simp, hn, fun _ => rfl, trivial⟩ (by decide) (by omega) (by rw [h0]; decide) a
 have hd1 : (tk.map kt).drop 1 = (1, ba name) :: [(4, ByteArray.empty)] := hd
 obtain ⟨p1, p2, p3⟩ := pk_at (A := 0) hd1
 have hx : switchR tk y ⟨1, 0, 0⟩ (ba kwTest) a = ({ y with name := ba name, after := 1 }, ⟨2, 0, 0⟩) := by
  unfold switchR; rw [if_pos (by decide)]
  unfold testR; rw [p1, p2, if_pos rfl, next_at (A := 0) hd1 (by simp)]
 rw [hr, hx]; dsimp only; rw [end_at p3]; exact ⟨rfl, rfl⟩
theorem line_table {y : SrcA} (h1 : y.after = 1) {v : Nat} (hv : v < W64) (a : Nat) : (rowA y (ba (flat ((1, kwTable) :: psTable v))) a).2.1 = 0 ∧ nx (rowA y (ba (flat ((1, kwTable) :: psTable v))) a).1 = nx { y with tables := y.tables ++ [v] } := by
 obtain ⟨tk, hd, hr⟩ := line_key (y := y) (w := kwTable) (ps := psTable v) ⟨pc_kw (by decide), fun _ => rfl, pc_blank, by simp, pc_hex v hv, fun _ => rfl, trivial⟩ (by decide) (by omega) (by rw [h1]; decide) a
 have hd1 : (tk.map kt).drop 1 = (2, ba (hexL v)) :: [(4, ByteArray.empty)] := hd
 have hn := number_at (A := 0) hd1 (hex_letters v hv).2.2.2
 obtain ⟨p1, p2, p3⟩ := pk_at (A := 0) hd1
 have hx : switchR tk y ⟨1, 0, 0⟩ (ba kwTable) a = ({ y with tables := y.tables ++ [v], pT := y.pT ++ [(a : Int)] }, ⟨2, 0, 0⟩) := by
  unfold switchR; rw [if_neg (by decide), if_pos (by decide)]
  unfold tableR; rw [if_pos h1, hn]
 rw [hr, hx]; dsimp only; rw [end_at p3]; exact ⟨rfl, rfl⟩
theorem wis_no {tk : List Tk} {k : Nat} {x : KT} {xs : List KT} (h : (tk.map kt).drop k = x :: xs) (hx : ¬ x.1 = 1) (t : ByteArray) : wIsR tk ⟨k, 0, 0⟩ t = (false, ⟨k, 0, 0⟩) := by
 have e : isR tk ⟨k, 0, 0⟩ 1 t = false := by rw [is_at h, decide_eq_false hx]; rfl
 unfold wIsR; rw [e]; rfl
theorem litV_hex {tk : List Tk} {k v : Nat} {xs : List KT} (hv : v < W64) (h : (tk.map kt).drop k = (2, ba (hexL v)) :: xs) : litV tk ⟨k, 0, 0⟩ = (v, ⟨k + 1, 0, 0⟩) := by
 unfold litV
 dsimp only
 rw [wis_no h (by simp), wis_no h (by simp), wis_no h (by simp)]
 simp only [Bool.false_eq_true, if_false]
 exact number_at h (hex_letters v hv).2.2.2
theorem line_cell {y : SrcA} (h1 : y.after = 1) {b v : Nat} (hb : b < W64) (hv : v < W64) (a : Nat) : (rowA y (ba (flat ((1, kwCell) :: psCell b v))) a).2.1 = 0 ∧ nx (rowA y (ba (flat ((1, kwCell) :: psCell b v))) a).1 = nx { y with cells := y.cells ++ [(b, v)] } := by
 obtain ⟨tk, hd, hr⟩ := line_key (y := y) (w := kwCell) (ps := psCell b v) ⟨pc_kw (by decide), fun _ => rfl, pc_blank, by simp, pc_hex b hb, fun _ => rfl, pc_blank, by simp, pc_eq, by simp, pc_blank, by simp, pc_hex v hv, fun _ => rfl, trivial⟩ (by decide) (by omega) (by rw [h1]; decide) a
 have hd1 : (tk.map kt).drop 1 = (2, ba (hexL b)) :: (3, ba [61]) :: (2, ba (hexL v)) :: [(4, ByteArray.empty)] := hd
 have hn := number_at (A := 0) hd1 (hex_letters b hb).2.2.2
 have hd2 := (pk_at (A := 0) hd1).2.2
 have hm : mustR tk ⟨2, 0, 0⟩ 3 ⟨#[61]⟩ = ⟨3, 0, 0⟩ := must_at hd2 (by simp)
 have hd3 := (pk_at (A := 0) hd2).2.2
 have hl := litV_hex hv hd3
 have hd4 := (pk_at (A := 0) hd3).2.2
 have hx : switchR tk y ⟨1, 0, 0⟩ (ba kwCell) a = ({ y with cells := y.cells ++ [(b, v)], pC := y.pC ++ [(a : Int)] }, ⟨4, 0, 0⟩) := by
  unfold switchR; rw [if_neg (by decide), if_neg (by decide), if_pos (by decide)]
  unfold cellR; rw [if_pos h1, hn]; dsimp only; rw [hm, hl]
 rw [hr, hx]; dsimp only; rw [end_at hd4]; exact ⟨rfl, rfl⟩
theorem line_core {y : SrcA} (h4 : ¬ y.after = 4) (h0 : ¬ y.after = 0) {sp tb : Nat} (hi : y.cores.length < 65536) (hs : sp < 65536) (ht : tb < W64) (a : Nat) : (rowA y (ba (flat ((1, kwCore) :: psCore y.cores.length sp tb))) a).2.1 = 0 ∧ nx (rowA y (ba (flat ((1, kwCore) :: psCore y.cores.length sp tb))) a).1 = nx { y with cores := y.cores ++ [⟨List.replicate 31 0, sp, tb, [], []⟩], after := 2 } := by
 obtain ⟨i1, i2⟩ := pc_int _ hi
 obtain ⟨s1, s2⟩ := pc_int sp hs
 have hok : okPs ((1, kwCore) :: psCore y.cores.length sp tb) := by
  refine ⟨pc_kw (by decide), fun _ => rfl, pc_blank, by simp, i1, fun _ => ?_, ?_⟩
  ·by_cases e : sp = 0
   ·rw [if_pos e]; rfl
   ·rw [if_neg e]; rfl
  ·by_cases e : sp = 0
   ·rw [if_pos e]; exact ⟨pc_blank, by simp, pc_kw (by decide), fun _ => rfl, pc_blank, by simp, pc_hex tb ht, fun _ => rfl, trivial⟩
   ·rw [if_neg e]; exact ⟨pc_blank, by simp, pc_kw (by decide), fun _ => rfl, pc_blank, by simp, s1, fun _ => rfl, pc_blank, by simp, pc_kw (by decide), fun _ => rfl, pc_blank, by simp, pc_hex tb ht, fun _ => rfl, trivial⟩
 obtain ⟨tk, hd, hr⟩ := line_key (y := y) (w := kwCore) hok (by decide) h4 (by rw [decide_eq_false h0]; decide) a
 suffices hx : ∃ k, (tk.map kt).drop k = [(4, ByteArray.empty)] ∧ switchR tk y ⟨1, 0, 0⟩ (ba kwCore) a = ({ y with cores := y.cores ++ [⟨List.replicate 31 0, sp, tb, [], []⟩], pCo := y.pCo ++ [(a : Int)], pI := y.pI ++ [[]], after := 2 }, ⟨k, 0, 0⟩) by
  obtain ⟨k, hk, hx⟩ := hx
  rw [hr, hx]; dsimp only; rw [end_at hk]; exact ⟨rfl, rfl⟩
 by_cases e : sp = 0
 ·subst e
  have hd1 : (tk.map kt).drop 1 = (2, ba (intL (y.cores.length : Nat))) :: (1, ba kwTable) :: (2, ba (hexL tb)) :: [(4, ByteArray.empty)] := hd
  have hn := small_at (A := 0) (most := 65536) hd1 i2 hi
  have hd2 := (pk_at (A := 0) hd1).2.2
  have hd3 := (pk_at (A := 0) hd2).2.2
  have hd4 := (pk_at (A := 0) hd3).2.2
  have hw : wIsR tk ⟨2, 0, 0⟩ ⟨#[115, 112, 97, 99, 101]⟩ = (false, ⟨2, 0, 0⟩) := by
   have e : isR tk ⟨2, 0, 0⟩ 1 ⟨#[115, 112, 97, 99, 101]⟩ = false := by rw [is_at hd2]; decide
   unfold wIsR; rw [e]; rfl
  have hm : mustR tk ⟨2, 0, 0⟩ 1 wTable = ⟨3, 0, 0⟩ := must_at hd2 (by simp)
  have hb := number_at (A := 0) hd3 (hex_letters tb ht).2.2.2
  refine ⟨4, hd4, ?_⟩
  unfold switchR; rw [if_neg (by decide), if_neg (by decide), if_neg (by decide), if_pos (by decide)]
  unfold coreR; dsimp only; rw [hn]; dsimp only; rw [if_pos rfl, hw]; dsimp only
  simp only [Bool.false_eq_true, if_false]
  rw [hm, hb]
 ·have hd1 : (tk.map kt).drop 1 = (2, ba (intL (y.cores.length : Nat))) :: (1, ba kwSpace) :: (2, ba (intL (sp : Nat))) :: (1, ba kwTable) :: (2, ba (hexL tb)) :: [(4, ByteArray.empty)] := by
   rw [hd]; unfold psCore; rw [if_neg e]; rfl
  have hn := small_at (A := 0) (most := 65536) hd1 i2 hi
  have hd2 := (pk_at (A := 0) hd1).2.2
  have hd3 := (pk_at (A := 0) hd2).2.2
  have hd4 := (pk_at (A := 0) hd3).2.2
  have hd5 := (pk_at (A := 0) hd4).2.2
  have hd6 := (pk_at (A := 0) hd5).2.2
  have hw : wIsR tk ⟨2, 0, 0⟩ ⟨#[115, 112, 97, 99, 101]⟩ = (true, ⟨3, 0, 0⟩) := by
   have e : isR tk ⟨2, 0, 0⟩ 1 ⟨#[115, 112, 97, 99, 101]⟩ = true := by rw [is_at hd2]; decide
   unfold wIsR; rw [e, next_at (A := 0) hd2 (by simp)]; rfl
  have hsm := small_at (A := 0) (most := 65536) hd3 s2 hs
  have hm : mustR tk ⟨4, 0, 0⟩ 1 wTable = ⟨5, 0, 0⟩ := must_at hd4 (by simp)
  have hb := number_at (A := 0) hd5 (hex_letters tb ht).2.2.2
  refine ⟨6, hd6, ?_⟩
  unfold switchR; rw [if_neg (by decide), if_neg (by decide), if_neg (by decide), if_pos (by decide)]
  unfold coreR; dsimp only; rw [hn]; dsimp only; rw [if_pos rfl, hw]; dsimp only
  rw [if_pos rfl, hsm]; dsimp only; rw [hm, hb]
theorem line_reg {y : SrcA} {l : List CoreA} {c : CoreA} (hx : y.cores = l ++ [c]) (h2 : y.after = 2) (hc : c.code = []) {n v : Nat} (hn : n < 31) (hv : v < W64) (a : Nat) : (rowA y (ba (flat ((1, kwReg) :: psReg n v))) a).2.1 = 0 ∧ nx (rowA y (ba (flat ((1, kwReg) :: psReg n v))) a).1 = nx { y with cores := l ++ [{ c with regs := c.regs.set n v }] } := by
 obtain ⟨tk, hd, hr⟩ := line_key (y := y) (w := kwReg) (ps := psReg n v) ⟨pc_kw (by decide), fun _ => rfl, pc_blank, by simp, pc_reg (by omega), fun _ => rfl, pc_blank, by simp, pc_eq, by simp, pc_blank, by simp, pc_hex v hv, fun _ => rfl, trivial⟩ (by decide) (by omega) (by rw [h2]; decide) a
 have hd1 : (tk.map kt).drop 1 = (1, ba (regL (n : Nat))) :: (3, ba [61]) :: (2, ba (hexL v)) :: [(4, ByteArray.empty)] := hd
 obtain ⟨p1, p2, hd2⟩ := pk_at (A := 0) hd1
 have hm : mustR tk ⟨2, 0, 0⟩ 3 ⟨#[61]⟩ = ⟨3, 0, 0⟩ := must_at hd2 (by simp)
 have hd3 := (pk_at (A := 0) hd2).2.2
 have hl := litV_hex hv hd3
 have hd4 := (pk_at (A := 0) hd3).2.2
 have hrn : regN (ba (regL (n : Nat))) = some n := (reg_names n hn).2.2.2
 have hx2 : switchR tk y ⟨1, 0, 0⟩ (ba kwReg) a = ({ y with cores := l ++ [{ c with regs := c.regs.set n v }] }, ⟨4, 0, 0⟩) := by
  unfold switchR; rw [if_neg (by decide), if_neg (by decide), if_neg (by decide), if_neg (by decide), if_pos (by decide)]
  have hok : regOk tk y ⟨1, 0, 0⟩ = true := by
   unfold regOk; rw [p1, p2]
   have e1 : (1, ba (regL (n : Nat))).2 = ba (regL (n : Nat)) := rfl
   rw [e1, hrn, hx, h2]
   simp [hc]; omega
  unfold regR'; rw [if_pos hok]; dsimp only
  rw [next_at (A := 0) hd1 (by simp), hm, hl, lastF_eq hx, p2]
  have e1 : (1, ba (regL (n : Nat))).2 = ba (regL (n : Nat)) := rfl
  rw [e1, hrn]; rfl
 rw [hr, hx2]; dsimp only; rw [end_at hd4]; exact ⟨rfl, rfl⟩
theorem line_hand {y : SrcA} (h2 : y.after = 2) (a : Nat) : (rowA y (ba kwHandler) a).2.1 = 0 ∧ nx (rowA y (ba kwHandler) a).1 = nx { y with after := 3 } := by
 obtain ⟨tk, hd, hr⟩ := line_key (y := y) (w := kwHandler) (ps := []) ⟨pc_kw (by decide), fun _ => rfl, trivial⟩ (by decide) (by omega) (by rw [h2]; decide) a
 have hx : switchR tk y ⟨1, 0, 0⟩ (ba kwHandler) a = ({ y with after := 3 }, ⟨1, 0, 0⟩) := by
  unfold switchR; rw [if_neg (by decide), if_neg (by decide), if_neg (by decide), if_neg (by decide), if_neg (by decide), if_pos (by decide)]
  unfold handR; rw [if_pos h2]
 have e : flat ((1, kwHandler) :: []) = kwHandler := by simp [flat]
 rw [e] at hr
 rw [hr, hx]; dsimp only; rw [end_at hd]; exact ⟨rfl, rfl⟩
theorem parse_at {t : CT} (h : RT t) (hc : countT t ≤ 64) {tk : List Tk} {k : Nat} (hd : (tk.map kt).drop k = tT t ++ [(4, ByteArray.empty)]) (hk : k ≤ 3) : parseC tk ⟨k, 0, 0⟩ = (normT t, ⟨k + (tT t).length, 0, 0⟩) := by
 have hlen : (tT t).length + 1 ≤ tk.length := by
  have := congrArg List.length hd
  simp at this; omega
 have n1 : ∀ b, notIs [((4 : Int), ByteArray.empty)] (3, b) := fun b => notIs_cons (fun e => by cases congrArg Prod.fst e)
 have he := either_done (read_all h).1 (A := 0) (m := 0) (f := 4 * tk.length + 3) hd (n1 _) (n1 _) (by omega) (by omega)
 unfold parseC
 rw [he]
 dsimp only
 rw [end_at (drop_add hd)]
theorem line_cond {y : SrcA} (h4 : ¬ y.after = 4) (h0 : ¬ y.after = 0) (fa : Bool) {t : CT} (h : RT t) (hc : countT t ≤ 64) (a : Nat) : (rowA y (ba (flat ((1, if fa then kwForall else kwExists) :: (0, [32]) :: pcT t))) a).2.1 = 0 ∧ nx (rowA y (ba (flat ((1, if fa then kwForall else kwExists) :: (0, [32]) :: pcT t))) a).1 = nx { y with fa := fa, cond := normT t, after := 4 } := by
 have hok : okPs (pcT t) := by
  have := ok_pcT h [] trivial rfl
  rwa [List.append_nil] at this
 have hw : (if fa then kwForall else kwExists) ∈ [kwTest, kwTable, kwCell, kwCore, kwSpace, kwReg, kwHandler, kwExists, kwForall] := by cases fa <;> decide
 obtain ⟨tk, hd, hr⟩ := line_key (y := y) (w := if fa then kwForall else kwExists) (ps := (0, [32]) :: pcT t) ⟨pc_kw hw, fun _ => rfl, pc_blank, by simp, hok⟩ (by cases fa <;> decide) h4 (by rw [decide_eq_false h0]; cases fa <;> decide) a
 have hd1 : (tk.map kt).drop 1 = tT t ++ [(4, ByteArray.empty)] := hd
 have hp := parse_at h hc hd1 (by decide)
 have hx : switchR tk y ⟨1, 0, 0⟩ (ba (if fa then kwForall else kwExists)) a = ({ y with fa := fa, cond := normT t, pCond := a, after := 4 }, ⟨1 + (tT t).length, 0, 0⟩) := by
  unfold switchR
  cases fa
  ·rw [if_neg (by decide), if_neg (by decide), if_neg (by decide), if_neg (by decide), if_neg (by decide), if_neg (by decide)]
   unfold condR; rw [hp]; rfl
  ·rw [if_neg (by decide), if_neg (by decide), if_neg (by decide), if_neg (by decide), if_neg (by decide), if_neg (by decide)]
   unfold condR; rw [hp]; rfl
 rw [hr, hx]; dsimp only; rw [end_at (drop_add hd1)]; exact ⟨rfl, rfl⟩
end
end Go.Proofs.YtmnojnopejhebaaGreat
