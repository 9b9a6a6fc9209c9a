/- Each instruction is read from its own text: plainly. -/
import Derived.Test.YtlhkjjfdmglabaaAsmBackP
import Derived.Test.YtlhkjjfdmglabaaAsmParse
namespace Go.Proofs.Ytlhkjjfdmglabaa
open Go.RowKit
set_option linter.unusedVariables false
set_option linter.unusedSimpArgs false

theorem back_1 : instrA (wordsL [78, 79, 80], false) = (⟨1, 0, 0, 0, 0, 0⟩, ([], false)) := by kernel_rfl
theorem back_20 : instrA (wordsL [73, 83, 66], false) = (⟨20, 0, 0, 0, 0, 0⟩, ([], false)) := by kernel_rfl
theorem back_22 : instrA (wordsL [69, 82, 69, 84], false) = (⟨22, 0, 0, 0, 0, 0⟩, ([], false)) := by kernel_rfl
theorem back_2a (d n m imm kind : Int) (hd0 : 0 ≤ d) (hd1 : d ≤ 31) (hn0 : 0 ≤ n) (hn1 : n ≤ 31) (hm0 : 0 ≤ m) (hm1 : m ≤ 31) (h0 : 0 ≤ imm) (h1 : imm ≤ 1099511627776) (hz : ¬ imm = 0) : instrA (wordsL (textA 2 d n m imm kind), false) = (⟨2, d, n, 0, imm, 0⟩, ([], false)) := by
  have e : textA 2 d n m imm kind = ([76, 68, 82] : List UInt8) ++ (32 :: (regL d ++ (44 :: (91 :: (regL n ++ (44 :: (immL imm ++ (93 :: [])))))))) := by unfold textA; simp [nameL, hz]
  have ew : wordsL (textA 2 d n m imm kind) = [([76, 68, 82] : List UInt8), regL d, [44], [91], regL n, [44], immL imm, [93]] := by
    rw [e]
    rw [wl (by decide) rfl, wl_sp, wl (regL_wc hd0 hd1) rfl, wl_c, wl_o, wl (regL_wc hn0 hn1) rfl, wl_c, wl (immL_wc imm) rfl, wl_k]
    rfl
  rw [ew]
  show bodyA [76, 68, 82] ([regL d, [44], [91], regL n, [44], immL imm, [93]], false) = _
  rw [show ∀ s, bodyA [76, 68, 82] s = memoryA s 2 from fun _ => rfl]
  simp only [memoryA, placeA, regA_reg hd0 hd1, regA_reg hn0 hn1, mustA_yes, mayA_yes, countA_imm h0 h1, if_true]
  try rfl

theorem back_3a (d n m imm kind : Int) (hd0 : 0 ≤ d) (hd1 : d ≤ 31) (hn0 : 0 ≤ n) (hn1 : n ≤ 31) (hm0 : 0 ≤ m) (hm1 : m ≤ 31) (h0 : 0 ≤ imm) (h1 : imm ≤ 1099511627776) (hz : ¬ imm = 0) : instrA (wordsL (textA 3 d n m imm kind), false) = (⟨3, d, n, 0, imm, 0⟩, ([], false)) := by
  have e : textA 3 d n m imm kind = ([83, 84, 82] : List UInt8) ++ (32 :: (regL d ++ (44 :: (91 :: (regL n ++ (44 :: (immL imm ++ (93 :: [])))))))) := by unfold textA; simp [nameL, hz]
  have ew : wordsL (textA 3 d n m imm kind) = [([83, 84, 82] : List UInt8), regL d, [44], [91], regL n, [44], immL imm, [93]] := by
    rw [e]
    rw [wl (by decide) rfl, wl_sp, wl (regL_wc hd0 hd1) rfl, wl_c, wl_o, wl (regL_wc hn0 hn1) rfl, wl_c, wl (immL_wc imm) rfl, wl_k]
    rfl
  rw [ew]
  show bodyA [83, 84, 82] ([regL d, [44], [91], regL n, [44], immL imm, [93]], false) = _
  rw [show ∀ s, bodyA [83, 84, 82] s = memoryA s 3 from fun _ => rfl]
  simp only [memoryA, placeA, regA_reg hd0 hd1, regA_reg hn0 hn1, mustA_yes, mayA_yes, countA_imm h0 h1, if_true]
  try rfl

theorem back_2b (d n m imm kind : Int) (hd0 : 0 ≤ d) (hd1 : d ≤ 31) (hn0 : 0 ≤ n) (hn1 : n ≤ 31) (hm0 : 0 ≤ m) (hm1 : m ≤ 31)  : instrA (wordsL (textA 2 d n m 0 kind), false) = (⟨2, d, n, 0, 0, 0⟩, ([], false)) := by
  have e : textA 2 d n m 0 kind = ([76, 68, 82] : List UInt8) ++ (32 :: (regL d ++ (44 :: (91 :: (regL n ++ (93 :: [])))))) := by unfold textA; simp [nameL]
  have ew : wordsL (textA 2 d n m 0 kind) = [([76, 68, 82] : List UInt8), regL d, [44], [91], regL n, [93]] := by
    rw [e]
    rw [wl (by decide) rfl, wl_sp, wl (regL_wc hd0 hd1) rfl, wl_c, wl_o, wl (regL_wc hn0 hn1) rfl, wl_k]
    rfl
  rw [ew]
  show bodyA [76, 68, 82] ([regL d, [44], [91], regL n, [93]], false) = _
  rw [show ∀ s, bodyA [76, 68, 82] s = memoryA s 2 from fun _ => rfl]
  simp only [memoryA, placeA, regA_reg hd0 hd1, regA_reg hn0 hn1, mustA_yes]
  simp [mayA, mustA_yes]

theorem back_3b (d n m imm kind : Int) (hd0 : 0 ≤ d) (hd1 : d ≤ 31) (hn0 : 0 ≤ n) (hn1 : n ≤ 31) (hm0 : 0 ≤ m) (hm1 : m ≤ 31)  : instrA (wordsL (textA 3 d n m 0 kind), false) = (⟨3, d, n, 0, 0, 0⟩, ([], false)) := by
  have e : textA 3 d n m 0 kind = ([83, 84, 82] : List UInt8) ++ (32 :: (regL d ++ (44 :: (91 :: (regL n ++ (93 :: [])))))) := by unfold textA; simp [nameL]
  have ew : wordsL (textA 3 d n m 0 kind) = [([83, 84, 82] : List UInt8), regL d, [44], [91], regL n, [93]] := by
    rw [e]
    rw [wl (by decide) rfl, wl_sp, wl (regL_wc hd0 hd1) rfl, wl_c, wl_o, wl (regL_wc hn0 hn1) rfl, wl_k]
    rfl
  rw [ew]
  show bodyA [83, 84, 82] ([regL d, [44], [91], regL n, [93]], false) = _
  rw [show ∀ s, bodyA [83, 84, 82] s = memoryA s 3 from fun _ => rfl]
  simp only [memoryA, placeA, regA_reg hd0 hd1, regA_reg hn0 hn1, mustA_yes]
  simp [mayA, mustA_yes]

theorem back_4b (d n m imm kind : Int) (hd0 : 0 ≤ d) (hd1 : d ≤ 31) (hn0 : 0 ≤ n) (hn1 : n ≤ 31) (hm0 : 0 ≤ m) (hm1 : m ≤ 31)  : instrA (wordsL (textA 4 d n m 0 kind), false) = (⟨4, d, n, 0, 0, 0⟩, ([], false)) := by
  have e : textA 4 d n m 0 kind = ([76, 68, 65, 82] : List UInt8) ++ (32 :: (regL d ++ (44 :: (91 :: (regL n ++ (93 :: [])))))) := by unfold textA; simp [nameL]
  have ew : wordsL (textA 4 d n m 0 kind) = [([76, 68, 65, 82] : List UInt8), regL d, [44], [91], regL n, [93]] := by
    rw [e]
    rw [wl (by decide) rfl, wl_sp, wl (regL_wc hd0 hd1) rfl, wl_c, wl_o, wl (regL_wc hn0 hn1) rfl, wl_k]
    rfl
  rw [ew]
  show bodyA [76, 68, 65, 82] ([regL d, [44], [91], regL n, [93]], false) = _
  rw [show ∀ s, bodyA [76, 68, 65, 82] s = memoryA s 4 from fun _ => rfl]
  simp only [memoryA, placeA, regA_reg hd0 hd1, regA_reg hn0 hn1, mustA_yes]
  simp [mayA, mustA_yes]

theorem back_5b (d n m imm kind : Int) (hd0 : 0 ≤ d) (hd1 : d ≤ 31) (hn0 : 0 ≤ n) (hn1 : n ≤ 31) (hm0 : 0 ≤ m) (hm1 : m ≤ 31)  : instrA (wordsL (textA 5 d n m 0 kind), false) = (⟨5, d, n, 0, 0, 0⟩, ([], false)) := by
  have e : textA 5 d n m 0 kind = ([83, 84, 76, 82] : List UInt8) ++ (32 :: (regL d ++ (44 :: (91 :: (regL n ++ (93 :: [])))))) := by unfold textA; simp [nameL]
  have ew : wordsL (textA 5 d n m 0 kind) = [([83, 84, 76, 82] : List UInt8), regL d, [44], [91], regL n, [93]] := by
    rw [e]
    rw [wl (by decide) rfl, wl_sp, wl (regL_wc hd0 hd1) rfl, wl_c, wl_o, wl (regL_wc hn0 hn1) rfl, wl_k]
    rfl
  rw [ew]
  show bodyA [83, 84, 76, 82] ([regL d, [44], [91], regL n, [93]], false) = _
  rw [show ∀ s, bodyA [83, 84, 76, 82] s = memoryA s 5 from fun _ => rfl]
  simp only [memoryA, placeA, regA_reg hd0 hd1, regA_reg hn0 hn1, mustA_yes]
  simp [mayA, mustA_yes]

theorem back_6a (d n m imm kind : Int) (hd0 : 0 ≤ d) (hd1 : d ≤ 31) (hn0 : 0 ≤ n) (hn1 : n ≤ 31) (hm0 : 0 ≤ m) (hm1 : m ≤ 31) (h0 : 0 ≤ imm) (h1 : imm ≤ 1099511627776) : instrA (wordsL (textA 6 d n m imm 0), false) = (⟨6, d, 0, 0, imm, 0⟩, ([], false)) := by
  have e : textA 6 d n m imm 0 = ([77, 79, 86] : List UInt8) ++ (32 :: (regL d ++ (44 :: (immL imm ++ ([]))))) := by unfold textA; simp
  have ew : wordsL (textA 6 d n m imm 0) = [([77, 79, 86] : List UInt8), regL d, [44], immL imm] := by
    rw [e]
    rw [wl (by decide) rfl, wl_sp, wl (regL_wc hd0 hd1) rfl, wl_c, wl (immL_wc imm) rfl]
    rfl
  rw [ew]
  show bodyA [77, 79, 86] ([regL d, [44], immL imm], false) = _
  rw [show ∀ s, bodyA [77, 79, 86] s = moveA s from fun _ => rfl]
  simp only [moveA, regA_reg hd0 hd1, mustA_yes, countA_imm h0 h1]
  simp [mayA]

theorem back_6b (d n m imm kind : Int) (hd0 : 0 ≤ d) (hd1 : d ≤ 31) (hn0 : 0 ≤ n) (hn1 : n ≤ 31) (hm0 : 0 ≤ m) (hm1 : m ≤ 31) (h0 : 0 ≤ imm) (h1 : imm ≤ 1099511627776) (hk0 : 0 ≤ kind) (hk1 : kind ≤ 3) (hz : ¬ kind = 0) : instrA (wordsL (textA 6 d n m imm kind), false) = (⟨6, d, 0, 0, imm, kind⟩, ([], false)) := by
  have e : textA 6 d n m imm kind = ([77, 79, 86, 90] : List UInt8) ++ (32 :: (regL d ++ (44 :: (immL imm ++ (44 :: (([76, 83, 76] : List UInt8) ++ (32 :: (immL (16 * kind) ++ ([]))))))))) := by unfold textA; simp [hz, immL]
  have ew : wordsL (textA 6 d n m imm kind) = [([77, 79, 86, 90] : List UInt8), regL d, [44], immL imm, [44], ([76, 83, 76] : List UInt8), immL (16 * kind)] := by
    rw [e]
    rw [wl (by decide) rfl, wl_sp, wl (regL_wc hd0 hd1) rfl, wl_c, wl (immL_wc imm) rfl, wl_c, wl (by decide) rfl, wl_sp, wl (immL_wc (16 * kind)) rfl]
    rfl
  rw [ew]
  show bodyA [77, 79, 86, 90] ([regL d, [44], immL imm, [44], ([76, 83, 76] : List UInt8), immL (16 * kind)], false) = _
  rw [show ∀ s, bodyA [77, 79, 86, 90] s = moveA s from fun _ => rfl]
  simp only [moveA, regA_reg hd0 hd1, mustA_yes, countA_imm h0 h1, mayA_yes, if_true, countA_imm (n := 16 * kind) (by omega) (by omega)]
  have e1 : 16 * kind / 16 = kind := by omega
  have e2 : 16 * kind % 16 = 0 := by omega
  simp [e1, e2, badA]

theorem back_7 (d n m imm kind : Int) (hd0 : 0 ≤ d) (hd1 : d ≤ 31) (hn0 : 0 ≤ n) (hn1 : n ≤ 31) (hm0 : 0 ≤ m) (hm1 : m ≤ 31) (h0 : 0 ≤ imm) (h1 : imm ≤ 1099511627776) : instrA (wordsL (textA 7 d n m imm kind), false) = (⟨7, d, n, 0, imm, 0⟩, ([], false)) := by
  have e : textA 7 d n m imm kind = ([65, 68, 68] : List UInt8) ++ (32 :: (regL d ++ (44 :: (regL n ++ (44 :: (immL imm ++ ([]))))))) := by unfold textA; simp
  have ew : wordsL (textA 7 d n m imm kind) = [([65, 68, 68] : List UInt8), regL d, [44], regL n, [44], immL imm] := by
    rw [e]
    rw [wl (by decide) rfl, wl_sp, wl (regL_wc hd0 hd1) rfl, wl_c, wl (regL_wc hn0 hn1) rfl, wl_c, wl (immL_wc imm) rfl]
    rfl
  rw [ew]
  show bodyA [65, 68, 68] ([regL d, [44], regL n, [44], immL imm], false) = _
  rw [show ∀ s, bodyA [65, 68, 68] s = addA s from fun _ => rfl]
  simp only [addA, regA_reg hd0 hd1, regA_reg hn0 hn1, mustA_yes]
  rw [if_pos (show hashA ([immL imm], false) = true from by simp [hashA, immL])]
  simp only [countA_imm h0 h1]

theorem hash_reg {m : Int} (h0 : 0 ≤ m) (h1 : m ≤ 31) : hashA ([regL m], false) = false := by
  show ([35] : List UInt8).isPrefixOf (regL m) = false
  unfold regL
  split
  · rfl
  · rw [if_pos (by omega)]; rfl
theorem back_8 (d n m imm kind : Int) (hd0 : 0 ≤ d) (hd1 : d ≤ 31) (hn0 : 0 ≤ n) (hn1 : n ≤ 31) (hm0 : 0 ≤ m) (hm1 : m ≤ 31)  : instrA (wordsL (textA 8 d n m imm kind), false) = (⟨8, d, n, m, 0, 0⟩, ([], false)) := by
  have e : textA 8 d n m imm kind = ([65, 68, 68] : List UInt8) ++ (32 :: (regL d ++ (44 :: (regL n ++ (44 :: (regL m ++ ([]))))))) := by unfold textA; simp [nameL, threeL]
  have ew : wordsL (textA 8 d n m imm kind) = [([65, 68, 68] : List UInt8), regL d, [44], regL n, [44], regL m] := by
    rw [e]
    rw [wl (by decide) rfl, wl_sp, wl (regL_wc hd0 hd1) rfl, wl_c, wl (regL_wc hn0 hn1) rfl, wl_c, wl (regL_wc hm0 hm1) rfl]
    rfl
  rw [ew]
  show bodyA [65, 68, 68] ([regL d, [44], regL n, [44], regL m], false) = _
  rw [show ∀ s, bodyA [65, 68, 68] s = addA s from fun _ => rfl]
  simp only [addA, regA_reg hd0 hd1, regA_reg hn0 hn1, mustA_yes, hash_reg hm0 hm1, regA_reg hm0 hm1]
  rfl

theorem back_9 (d n m imm kind : Int) (hd0 : 0 ≤ d) (hd1 : d ≤ 31) (hn0 : 0 ≤ n) (hn1 : n ≤ 31) (hm0 : 0 ≤ m) (hm1 : m ≤ 31)  : instrA (wordsL (textA 9 d n m imm kind), false) = (⟨9, d, n, m, 0, 0⟩, ([], false)) := by
  have e : textA 9 d n m imm kind = ([83, 85, 66] : List UInt8) ++ (32 :: (regL d ++ (44 :: (regL n ++ (44 :: (regL m ++ ([]))))))) := by unfold textA; simp [nameL, threeL]
  have ew : wordsL (textA 9 d n m imm kind) = [([83, 85, 66] : List UInt8), regL d, [44], regL n, [44], regL m] := by
    rw [e]
    rw [wl (by decide) rfl, wl_sp, wl (regL_wc hd0 hd1) rfl, wl_c, wl (regL_wc hn0 hn1) rfl, wl_c, wl (regL_wc hm0 hm1) rfl]
    rfl
  rw [ew]
  show bodyA [83, 85, 66] ([regL d, [44], regL n, [44], regL m], false) = _
  rw [show ∀ s, bodyA [83, 85, 66] s = threeA s 9 from fun _ => rfl]
  simp only [threeA, regA_reg hd0 hd1, regA_reg hn0 hn1, mustA_yes, regA_reg hm0 hm1]

theorem back_10 (d n m imm kind : Int) (hd0 : 0 ≤ d) (hd1 : d ≤ 31) (hn0 : 0 ≤ n) (hn1 : n ≤ 31) (hm0 : 0 ≤ m) (hm1 : m ≤ 31)  : instrA (wordsL (textA 10 d n m imm kind), false) = (⟨10, d, n, m, 0, 0⟩, ([], false)) := by
  have e : textA 10 d n m imm kind = ([65, 78, 68] : List UInt8) ++ (32 :: (regL d ++ (44 :: (regL n ++ (44 :: (regL m ++ ([]))))))) := by unfold textA; simp [nameL, threeL]
  have ew : wordsL (textA 10 d n m imm kind) = [([65, 78, 68] : List UInt8), regL d, [44], regL n, [44], regL m] := by
    rw [e]
    rw [wl (by decide) rfl, wl_sp, wl (regL_wc hd0 hd1) rfl, wl_c, wl (regL_wc hn0 hn1) rfl, wl_c, wl (regL_wc hm0 hm1) rfl]
    rfl
  rw [ew]
  show bodyA [65, 78, 68] ([regL d, [44], regL n, [44], regL m], false) = _
  rw [show ∀ s, bodyA [65, 78, 68] s = threeA s 10 from fun _ => rfl]
  simp only [threeA, regA_reg hd0 hd1, regA_reg hn0 hn1, mustA_yes, regA_reg hm0 hm1]

theorem back_11 (d n m imm kind : Int) (hd0 : 0 ≤ d) (hd1 : d ≤ 31) (hn0 : 0 ≤ n) (hn1 : n ≤ 31) (hm0 : 0 ≤ m) (hm1 : m ≤ 31)  : instrA (wordsL (textA 11 d n m imm kind), false) = (⟨11, d, n, m, 0, 0⟩, ([], false)) := by
  have e : textA 11 d n m imm kind = ([79, 82, 82] : List UInt8) ++ (32 :: (regL d ++ (44 :: (regL n ++ (44 :: (regL m ++ ([]))))))) := by unfold textA; simp [nameL, threeL]
  have ew : wordsL (textA 11 d n m imm kind) = [([79, 82, 82] : List UInt8), regL d, [44], regL n, [44], regL m] := by
    rw [e]
    rw [wl (by decide) rfl, wl_sp, wl (regL_wc hd0 hd1) rfl, wl_c, wl (regL_wc hn0 hn1) rfl, wl_c, wl (regL_wc hm0 hm1) rfl]
    rfl
  rw [ew]
  show bodyA [79, 82, 82] ([regL d, [44], regL n, [44], regL m], false) = _
  rw [show ∀ s, bodyA [79, 82, 82] s = threeA s 11 from fun _ => rfl]
  simp only [threeA, regA_reg hd0 hd1, regA_reg hn0 hn1, mustA_yes, regA_reg hm0 hm1]

theorem back_12 (d n m imm kind : Int) (hd0 : 0 ≤ d) (hd1 : d ≤ 31) (hn0 : 0 ≤ n) (hn1 : n ≤ 31) (hm0 : 0 ≤ m) (hm1 : m ≤ 31)  : instrA (wordsL (textA 12 d n m imm kind), false) = (⟨12, d, n, m, 0, 0⟩, ([], false)) := by
  have e : textA 12 d n m imm kind = ([69, 79, 82] : List UInt8) ++ (32 :: (regL d ++ (44 :: (regL n ++ (44 :: (regL m ++ ([]))))))) := by unfold textA; simp [nameL, threeL]
  have ew : wordsL (textA 12 d n m imm kind) = [([69, 79, 82] : List UInt8), regL d, [44], regL n, [44], regL m] := by
    rw [e]
    rw [wl (by decide) rfl, wl_sp, wl (regL_wc hd0 hd1) rfl, wl_c, wl (regL_wc hn0 hn1) rfl, wl_c, wl (regL_wc hm0 hm1) rfl]
    rfl
  rw [ew]
  show bodyA [69, 79, 82] ([regL d, [44], regL n, [44], regL m], false) = _
  rw [show ∀ s, bodyA [69, 79, 82] s = threeA s 12 from fun _ => rfl]
  simp only [threeA, regA_reg hd0 hd1, regA_reg hn0 hn1, mustA_yes, regA_reg hm0 hm1]

theorem back_13a (d n m imm kind : Int) (hd0 : 0 ≤ d) (hd1 : d ≤ 31) (hn0 : 0 ≤ n) (hn1 : n ≤ 31) (hm0 : 0 ≤ m) (hm1 : m ≤ 31)  : instrA (wordsL (textA 13 31 n m imm kind), false) = (⟨13, 31, n, m, 0, 0⟩, ([], false)) := by
  have e : textA 13 31 n m imm kind = ([67, 77, 80] : List UInt8) ++ (32 :: (regL n ++ (44 :: (regL m ++ ([]))))) := by unfold textA; simp
  have ew : wordsL (textA 13 31 n m imm kind) = [([67, 77, 80] : List UInt8), regL n, [44], regL m] := by
    rw [e]
    rw [wl (by decide) rfl, wl_sp, wl (regL_wc hn0 hn1) rfl, wl_c, wl (regL_wc hm0 hm1) rfl]
    rfl
  rw [ew]
  show bodyA [67, 77, 80] ([regL n, [44], regL m], false) = _
  rw [show ∀ s, bodyA [67, 77, 80] s = cmpA s from fun _ => rfl]
  simp only [cmpA, regA_reg hn0 hn1, mustA_yes, regA_reg hm0 hm1]

theorem back_13b (d n m imm kind : Int) (hd0 : 0 ≤ d) (hd1 : d ≤ 31) (hn0 : 0 ≤ n) (hn1 : n ≤ 31) (hm0 : 0 ≤ m) (hm1 : m ≤ 31) (hz : ¬ d = 31) : instrA (wordsL (textA 13 d n m imm kind), false) = (⟨13, d, n, m, 0, 0⟩, ([], false)) := by
  have e : textA 13 d n m imm kind = ([83, 85, 66, 83] : List UInt8) ++ (32 :: (regL d ++ (44 :: (regL n ++ (44 :: (regL m ++ ([]))))))) := by unfold textA; simp [nameL, threeL, hz]
  have ew : wordsL (textA 13 d n m imm kind) = [([83, 85, 66, 83] : List UInt8), regL d, [44], regL n, [44], regL m] := by
    rw [e]
    rw [wl (by decide) rfl, wl_sp, wl (regL_wc hd0 hd1) rfl, wl_c, wl (regL_wc hn0 hn1) rfl, wl_c, wl (regL_wc hm0 hm1) rfl]
    rfl
  rw [ew]
  show bodyA [83, 85, 66, 83] ([regL d, [44], regL n, [44], regL m], false) = _
  rw [show ∀ s, bodyA [83, 85, 66, 83] s = threeA s 13 from fun _ => rfl]
  simp only [threeA, regA_reg hd0 hd1, regA_reg hn0 hn1, mustA_yes, regA_reg hm0 hm1]

theorem back_14 (d n m imm kind : Int) (hd0 : 0 ≤ d) (hd1 : d ≤ 31) (hn0 : 0 ≤ n) (hn1 : n ≤ 31) (hm0 : 0 ≤ m) (hm1 : m ≤ 31) (h0 : -1099511627776 ≤ imm) (h1 : imm ≤ 1099511627776) : instrA (wordsL (textA 14 d n m imm kind), false) = (⟨14, 0, 0, 0, imm, 0⟩, ([], false)) := by
  have e : textA 14 d n m imm kind = ([66] : List UInt8) ++ (32 :: (targetL imm ++ ([]))) := by unfold textA; simp
  have ew : wordsL (textA 14 d n m imm kind) = [([66] : List UInt8), targetL imm] := by
    rw [e]
    rw [wl (by decide) rfl, wl_sp, wl (targetL_wc imm) rfl]
    rfl
  rw [ew]
  show bodyA [66] ([targetL imm], false) = _
  rw [show ∀ s, bodyA [66] s = (⟨14, 0, 0, 0, (branchA s).1, 0⟩, (branchA s).2) from fun _ => rfl]
  simp only [branchA_tgt h0 h1]

theorem back_15 (d n m imm kind : Int) (hd0 : 0 ≤ d) (hd1 : d ≤ 31) (hn0 : 0 ≤ n) (hn1 : n ≤ 31) (hm0 : 0 ≤ m) (hm1 : m ≤ 31) (h0 : -1099511627776 ≤ imm) (h1 : imm ≤ 1099511627776) : instrA (wordsL (textA 15 d n m imm kind), false) = (⟨15, d, 0, 0, imm, 0⟩, ([], false)) := by
  have e : textA 15 d n m imm kind = ([67, 66, 90] : List UInt8) ++ (32 :: (regL d ++ (44 :: (targetL imm ++ ([]))))) := by unfold textA; simp [nameL]
  have ew : wordsL (textA 15 d n m imm kind) = [([67, 66, 90] : List UInt8), regL d, [44], targetL imm] := by
    rw [e]
    rw [wl (by decide) rfl, wl_sp, wl (regL_wc hd0 hd1) rfl, wl_c, wl (targetL_wc imm) rfl]
    rfl
  rw [ew]
  show bodyA [67, 66, 90] ([regL d, [44], targetL imm], false) = _
  rw [show ∀ s, bodyA [67, 66, 90] s = testA s 15 from fun _ => rfl]
  simp only [testA, regA_reg hd0 hd1, mustA_yes, branchA_tgt h0 h1]

theorem back_16 (d n m imm kind : Int) (hd0 : 0 ≤ d) (hd1 : d ≤ 31) (hn0 : 0 ≤ n) (hn1 : n ≤ 31) (hm0 : 0 ≤ m) (hm1 : m ≤ 31) (h0 : -1099511627776 ≤ imm) (h1 : imm ≤ 1099511627776) : instrA (wordsL (textA 16 d n m imm kind), false) = (⟨16, d, 0, 0, imm, 0⟩, ([], false)) := by
  have e : textA 16 d n m imm kind = ([67, 66, 78, 90] : List UInt8) ++ (32 :: (regL d ++ (44 :: (targetL imm ++ ([]))))) := by unfold textA; simp [nameL]
  have ew : wordsL (textA 16 d n m imm kind) = [([67, 66, 78, 90] : List UInt8), regL d, [44], targetL imm] := by
    rw [e]
    rw [wl (by decide) rfl, wl_sp, wl (regL_wc hd0 hd1) rfl, wl_c, wl (targetL_wc imm) rfl]
    rfl
  rw [ew]
  show bodyA [67, 66, 78, 90] ([regL d, [44], targetL imm], false) = _
  rw [show ∀ s, bodyA [67, 66, 78, 90] s = testA s 16 from fun _ => rfl]
  simp only [testA, regA_reg hd0 hd1, mustA_yes, branchA_tgt h0 h1]

theorem back_17a (d n m imm kind : Int) (hd0 : 0 ≤ d) (hd1 : d ≤ 31) (hn0 : 0 ≤ n) (hn1 : n ≤ 31) (hm0 : 0 ≤ m) (hm1 : m ≤ 31) (h0 : -1099511627776 ≤ imm) (h1 : imm ≤ 1099511627776) : instrA (wordsL (textA 17 d n m imm 0), false) = (⟨17, 0, 0, 0, imm, 0⟩, ([], false)) := by
  have e : textA 17 d n m imm 0 = ([66, 46, 69, 81] : List UInt8) ++ (32 :: (targetL imm ++ ([]))) := by unfold textA; simp
  have ew : wordsL (textA 17 d n m imm 0) = [([66, 46, 69, 81] : List UInt8), targetL imm] := by
    rw [e]
    rw [wl (by decide) rfl, wl_sp, wl (targetL_wc imm) rfl]
    rfl
  rw [ew]
  show bodyA [66, 46, 69, 81] ([targetL imm], false) = _
  rw [show ∀ s, bodyA [66, 46, 69, 81] s = (⟨17, 0, 0, 0, (branchA s).1, 0⟩, (branchA s).2) from fun _ => rfl]
  simp only [branchA_tgt h0 h1]

theorem back_17b (d n m imm kind : Int) (hd0 : 0 ≤ d) (hd1 : d ≤ 31) (hn0 : 0 ≤ n) (hn1 : n ≤ 31) (hm0 : 0 ≤ m) (hm1 : m ≤ 31) (h0 : -1099511627776 ≤ imm) (h1 : imm ≤ 1099511627776) : instrA (wordsL (textA 17 d n m imm 1), false) = (⟨17, 0, 0, 0, imm, 1⟩, ([], false)) := by
  have e : textA 17 d n m imm 1 = ([66, 46, 78, 69] : List UInt8) ++ (32 :: (targetL imm ++ ([]))) := by unfold textA; simp
  have ew : wordsL (textA 17 d n m imm 1) = [([66, 46, 78, 69] : List UInt8), targetL imm] := by
    rw [e]
    rw [wl (by decide) rfl, wl_sp, wl (targetL_wc imm) rfl]
    rfl
  rw [ew]
  show bodyA [66, 46, 78, 69] ([targetL imm], false) = _
  rw [show ∀ s, bodyA [66, 46, 78, 69] s = (⟨17, 0, 0, 0, (branchA s).1, 1⟩, (branchA s).2) from fun _ => rfl]
  simp only [branchA_tgt h0 h1]

theorem back_18 (d n m imm kind : Int) (hd0 : 0 ≤ d) (hd1 : d ≤ 31) (hn0 : 0 ≤ n) (hn1 : n ≤ 31) (hm0 : 0 ≤ m) (hm1 : m ≤ 31) (hk : (9 ≤ kind ∧ kind ≤ 11) ∨ (13 ≤ kind ∧ kind ≤ 15)) : instrA (wordsL (textA 18 d n m imm kind), false) = (⟨18, 0, 0, 0, 0, kind⟩, ([], false)) := by
  have e : textA 18 d n m imm kind = ([68, 77, 66] : List UInt8) ++ (32 :: (barL kind ++ ([]))) := by unfold textA; simp
  have ew : wordsL (textA 18 d n m imm kind) = [([68, 77, 66] : List UInt8), barL kind] := by
    rw [e]
    rw [wl (by decide) rfl, wl_sp, wl (kindA_bar hk [] false).2 rfl]
    rfl
  rw [ew]
  show bodyA [68, 77, 66] ([barL kind], false) = _
  rw [show ∀ s, bodyA [68, 77, 66] s = (⟨18, 0, 0, 0, 0, (kindA s 16 barN).1⟩, (kindA s 16 barN).2) from fun _ => rfl]
  simp only [(kindA_bar hk [] false).1]

theorem back_19 (d n m imm kind : Int) (hd0 : 0 ≤ d) (hd1 : d ≤ 31) (hn0 : 0 ≤ n) (hn1 : n ≤ 31) (hm0 : 0 ≤ m) (hm1 : m ≤ 31) (hk : (9 ≤ kind ∧ kind ≤ 11) ∨ (13 ≤ kind ∧ kind ≤ 15)) : instrA (wordsL (textA 19 d n m imm kind), false) = (⟨19, 0, 0, 0, 0, kind⟩, ([], false)) := by
  have e : textA 19 d n m imm kind = ([68, 83, 66] : List UInt8) ++ (32 :: (barL kind ++ ([]))) := by unfold textA; simp
  have ew : wordsL (textA 19 d n m imm kind) = [([68, 83, 66] : List UInt8), barL kind] := by
    rw [e]
    rw [wl (by decide) rfl, wl_sp, wl (kindA_bar hk [] false).2 rfl]
    rfl
  rw [ew]
  show bodyA [68, 83, 66] ([barL kind], false) = _
  rw [show ∀ s, bodyA [68, 83, 66] s = (⟨19, 0, 0, 0, 0, (kindA s 16 barN).1⟩, (kindA s 16 barN).2) from fun _ => rfl]
  simp only [(kindA_bar hk [] false).1]

theorem back_21a (d n m imm kind : Int) (hd0 : 0 ≤ d) (hd1 : d ≤ 31) (hn0 : 0 ≤ n) (hn1 : n ≤ 31) (hm0 : 0 ≤ m) (hm1 : m ≤ 31) (hk : 0 ≤ kind ∧ kind ≤ 7) (hz : kind % 4 = 0) : instrA (wordsL (textA 21 d n m imm kind), false) = (⟨21, 31, 0, 0, 0, kind⟩, ([], false)) := by
  have e : textA 21 d n m imm kind = ([84, 76, 66, 73] : List UInt8) ++ (32 :: (flushL kind ++ ([]))) := by unfold textA; simp [hz]
  have ew : wordsL (textA 21 d n m imm kind) = [([84, 76, 66, 73] : List UInt8), flushL kind] := by
    rw [e]
    rw [wl (by decide) rfl, wl_sp, wl (kindA_flush hk [] false).2 rfl]
    rfl
  rw [ew]
  show bodyA [84, 76, 66, 73] ([flushL kind], false) = _
  rw [show ∀ s, bodyA [84, 76, 66, 73] s = flushA s from fun _ => rfl]
  simp only [flushA, (kindA_flush hk [] false).1]
  simp [hz]

theorem back_21b (d n m imm kind : Int) (hd0 : 0 ≤ d) (hd1 : d ≤ 31) (hn0 : 0 ≤ n) (hn1 : n ≤ 31) (hm0 : 0 ≤ m) (hm1 : m ≤ 31) (hk : 0 ≤ kind ∧ kind ≤ 7) (hz : ¬ kind % 4 = 0) : instrA (wordsL (textA 21 d n m imm kind), false) = (⟨21, d, 0, 0, 0, kind⟩, ([], false)) := by
  have e : textA 21 d n m imm kind = ([84, 76, 66, 73] : List UInt8) ++ (32 :: (flushL kind ++ (44 :: (regL d ++ ([]))))) := by unfold textA; simp [hz]
  have ew : wordsL (textA 21 d n m imm kind) = [([84, 76, 66, 73] : List UInt8), flushL kind, [44], regL d] := by
    rw [e]
    rw [wl (by decide) rfl, wl_sp, wl (kindA_flush hk [] false).2 rfl, wl_c, wl (regL_wc hd0 hd1) rfl]
    rfl
  rw [ew]
  show bodyA [84, 76, 66, 73] ([flushL kind, [44], regL d], false) = _
  rw [show ∀ s, bodyA [84, 76, 66, 73] s = flushA s from fun _ => rfl]
  simp only [flushA, (kindA_flush hk _ false).1, mustA_yes, regA_reg hd0 hd1]
  simp [hz]

theorem back_23 (d n m imm kind : Int) (hd0 : 0 ≤ d) (hd1 : d ≤ 31) (hn0 : 0 ≤ n) (hn1 : n ≤ 31) (hm0 : 0 ≤ m) (hm1 : m ≤ 31) (hk : 0 ≤ kind ∧ kind ≤ 2) : instrA (wordsL (textA 23 d n m imm kind), false) = (⟨23, d, 0, 0, 0, kind⟩, ([], false)) := by
  have e : textA 23 d n m imm kind = ([77, 82, 83] : List UInt8) ++ (32 :: (regL d ++ (44 :: (sysL kind ++ ([]))))) := by unfold textA; simp
  have ew : wordsL (textA 23 d n m imm kind) = [([77, 82, 83] : List UInt8), regL d, [44], sysL kind] := by
    rw [e]
    rw [wl (by decide) rfl, wl_sp, wl (regL_wc hd0 hd1) rfl, wl_c, wl (kindA_sys hk [] false).2 rfl]
    rfl
  rw [ew]
  show bodyA [77, 82, 83] ([regL d, [44], sysL kind], false) = _
  rw [show ∀ s, bodyA [77, 82, 83] s = mrsA s from fun _ => rfl]
  simp only [mrsA, (kindA_sys hk [] false).1, mustA_yes, regA_reg hd0 hd1]

set_option maxHeartbeats 6400000 in
/-- A right instruction's text is read as it. -/
theorem back_words {op d n m imm kind : Int} (h : rightP op d n m imm kind) : instrA (wordsL (textA op d n m imm kind), false) = (⟨op, d, n, m, imm, kind⟩, ([], false)) := by
  obtain ⟨⟨hop, ⟨hd0, hd1⟩, ⟨hn0, hn1⟩, ⟨hm0, hm1⟩⟩, hB, hC, hD⟩ := h
  have ho : op = 1 ∨ op = 2 ∨ op = 3 ∨ op = 4 ∨ op = 5 ∨ op = 6 ∨ op = 7 ∨ op = 8 ∨ op = 9 ∨ op = 10 ∨ op = 11 ∨ op = 12 ∨ op = 13 ∨ op = 14 ∨ op = 15 ∨ op = 16 ∨ op = 17 ∨ op = 18 ∨ op = 19 ∨ op = 20 ∨ op = 21 ∨ op = 22 ∨ op = 23 := by omega
  unfold rightB at hB
  unfold rightC at hC
  unfold rightD at hD
  rcases ho with rfl | rfl | rfl | rfl | rfl | rfl | rfl | rfl | rfl | rfl | rfl | rfl | rfl | rfl | rfl | rfl | rfl | rfl | rfl | rfl | rfl | rfl | rfl
  · skip
    obtain rfl : d = 0 := by omega
    obtain rfl : n = 0 := by omega
    obtain rfl : m = 0 := by omega
    obtain rfl : imm = 0 := by omega
    obtain rfl : kind = 0 := by omega
    have e : textA 1 0 0 0 0 0 = [78, 79, 80] := by kernel_rfl
    rw [e]; exact back_1
  · skip
    obtain rfl : m = 0 := by omega
    obtain rfl : kind = 0 := by omega
    by_cases hz : imm = 0
    · subst hz; exact back_2b d n 0 0 0 hd0 hd1 hn0 hn1 hm0 hm1
    · exact back_2a d n 0 imm 0 hd0 hd1 hn0 hn1 hm0 hm1 (by omega) (by omega) hz
  · skip
    obtain rfl : m = 0 := by omega
    obtain rfl : kind = 0 := by omega
    by_cases hz : imm = 0
    · subst hz; exact back_3b d n 0 0 0 hd0 hd1 hn0 hn1 hm0 hm1
    · exact back_3a d n 0 imm 0 hd0 hd1 hn0 hn1 hm0 hm1 (by omega) (by omega) hz
  · skip
    obtain rfl : m = 0 := by omega
    obtain rfl : kind = 0 := by omega
    obtain rfl : imm = 0 := by omega
    exact back_4b d n 0 0 0 hd0 hd1 hn0 hn1 hm0 hm1
  · skip
    obtain rfl : m = 0 := by omega
    obtain rfl : kind = 0 := by omega
    obtain rfl : imm = 0 := by omega
    exact back_5b d n 0 0 0 hd0 hd1 hn0 hn1 hm0 hm1
  · skip
    obtain rfl : n = 0 := by omega
    obtain rfl : m = 0 := by omega
    by_cases hz : kind = 0
    · subst hz; exact back_6a d 0 0 imm 0 hd0 hd1 hn0 hn1 hm0 hm1 (by omega) (by omega)
    · exact back_6b d 0 0 imm kind hd0 hd1 hn0 hn1 hm0 hm1 (by omega) (by omega) (by omega) (by omega) hz
  · skip
    obtain rfl : m = 0 := by omega
    obtain rfl : kind = 0 := by omega
    exact back_7 d n 0 imm 0 hd0 hd1 hn0 hn1 hm0 hm1 (by omega) (by omega)
  · skip
    obtain rfl : imm = 0 := by omega
    obtain rfl : kind = 0 := by omega
    exact back_8 d n m 0 0 hd0 hd1 hn0 hn1 hm0 hm1
  · skip
    obtain rfl : imm = 0 := by omega
    obtain rfl : kind = 0 := by omega
    exact back_9 d n m 0 0 hd0 hd1 hn0 hn1 hm0 hm1
  · skip
    obtain rfl : imm = 0 := by omega
    obtain rfl : kind = 0 := by omega
    exact back_10 d n m 0 0 hd0 hd1 hn0 hn1 hm0 hm1
  · skip
    obtain rfl : imm = 0 := by omega
    obtain rfl : kind = 0 := by omega
    exact back_11 d n m 0 0 hd0 hd1 hn0 hn1 hm0 hm1
  · skip
    obtain rfl : imm = 0 := by omega
    obtain rfl : kind = 0 := by omega
    exact back_12 d n m 0 0 hd0 hd1 hn0 hn1 hm0 hm1
  · skip
    obtain rfl : imm = 0 := by omega
    obtain rfl : kind = 0 := by omega
    by_cases hz : d = 31
    · subst hz; exact back_13a 31 n m 0 0 hd0 hd1 hn0 hn1 hm0 hm1
    · exact back_13b d n m 0 0 hd0 hd1 hn0 hn1 hm0 hm1 hz
  · skip
    obtain rfl : d = 0 := by omega
    obtain rfl : n = 0 := by omega
    obtain rfl : m = 0 := by omega
    obtain rfl : kind = 0 := by omega
    exact back_14 0 0 0 imm 0 hd0 hd1 hn0 hn1 hm0 hm1 (by omega) (by omega)
  · skip
    obtain rfl : n = 0 := by omega
    obtain rfl : m = 0 := by omega
    obtain rfl : kind = 0 := by omega
    exact back_15 d 0 0 imm 0 hd0 hd1 hn0 hn1 hm0 hm1 (by omega) (by omega)
  · skip
    obtain rfl : n = 0 := by omega
    obtain rfl : m = 0 := by omega
    obtain rfl : kind = 0 := by omega
    exact back_16 d 0 0 imm 0 hd0 hd1 hn0 hn1 hm0 hm1 (by omega) (by omega)
  · skip
    obtain rfl : d = 0 := by omega
    obtain rfl : n = 0 := by omega
    obtain rfl : m = 0 := by omega
    have hk : kind = 0 ∨ kind = 1 := by omega
    rcases hk with rfl | rfl
    · exact back_17a 0 0 0 imm 0 hd0 hd1 hn0 hn1 hm0 hm1 (by omega) (by omega)
    · exact back_17b 0 0 0 imm 1 hd0 hd1 hn0 hn1 hm0 hm1 (by omega) (by omega)
  · skip
    obtain rfl : d = 0 := by omega
    obtain rfl : n = 0 := by omega
    obtain rfl : m = 0 := by omega
    obtain rfl : imm = 0 := by omega
    exact back_18 0 0 0 0 kind hd0 hd1 hn0 hn1 hm0 hm1 (by omega)
  · skip
    obtain rfl : d = 0 := by omega
    obtain rfl : n = 0 := by omega
    obtain rfl : m = 0 := by omega
    obtain rfl : imm = 0 := by omega
    exact back_19 0 0 0 0 kind hd0 hd1 hn0 hn1 hm0 hm1 (by omega)
  · skip
    obtain rfl : d = 0 := by omega
    obtain rfl : n = 0 := by omega
    obtain rfl : m = 0 := by omega
    obtain rfl : imm = 0 := by omega
    obtain rfl : kind = 0 := by omega
    have e : textA 20 0 0 0 0 0 = [73, 83, 66] := by kernel_rfl
    rw [e]; exact back_20
  · skip
    obtain rfl : n = 0 := by omega
    obtain rfl : m = 0 := by omega
    obtain rfl : imm = 0 := by omega
    by_cases hz : kind % 4 = 0
    · obtain rfl : d = 31 := by omega
      exact back_21a 31 0 0 0 kind hd0 hd1 hn0 hn1 hm0 hm1 (by omega) hz
    · exact back_21b d 0 0 0 kind hd0 hd1 hn0 hn1 hm0 hm1 (by omega) hz
  · skip
    obtain rfl : d = 0 := by omega
    obtain rfl : n = 0 := by omega
    obtain rfl : m = 0 := by omega
    obtain rfl : imm = 0 := by omega
    obtain rfl : kind = 0 := by omega
    have e : textA 22 0 0 0 0 0 = [69, 82, 69, 84] := by kernel_rfl
    rw [e]; exact back_22
  · skip
    obtain rfl : n = 0 := by omega
    obtain rfl : m = 0 := by omega
    obtain rfl : imm = 0 := by omega
    exact back_23 d 0 0 0 kind hd0 hd1 hn0 hn1 hm0 hm1 (by omega)
/-- What has the parts of a right instruction's text is read as it. -/
theorem back_any {op d n m imm kind : Int} (h : rightP op d n m imm kind) {l : List UInt8} (hl : wordsL l = wordsL (textA op d n m imm kind)) : parseA l = (⟨op, d, n, m, imm, kind⟩, 0) :=
  parseA_yes (hl ▸ back_words h) rfl rfl h
end Go.Proofs.Ytlhkjjfdmglabaa
