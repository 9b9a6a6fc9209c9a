/- Names of operations and of kinds, as texts; an instruction's text. -/
import Derived.Test.YtlhkjjfdmglabaaAsmRight2
import Derived.Test.YtlhkjjfdmglabaaAsmName
import Derived.Test.YtlhkjjfdmglabaaRTextI
namespace Go.Proofs.Ytlhkjjfdmglabaa
open Go.RowKit
set_option linter.unusedVariables false
set_option linter.unusedSimpArgs false

def nameL (op : Int) : List UInt8 := if op = 1 then [78, 79, 80] else if op = 2 then [76, 68, 82] else if op = 3 then [83, 84, 82] else if op = 4 then [76, 68, 65, 82] else if op = 5 then [83, 84, 76, 82] else if op = 7 then [65, 68, 68] else if op = 8 then [65, 68, 68] else if op = 9 then [83, 85, 66] else if op = 10 then [65, 78, 68] else if op = 11 then [79, 82, 82] else if op = 12 then [69, 79, 82] else if op = 13 then [83, 85, 66, 83] else if op = 14 then [66] else if op = 15 then [67, 66, 90] else if op = 16 then [67, 66, 78, 90] else if op = 20 then [73, 83, 66] else if op = 22 then [69, 82, 69, 84] else []
def barL (k : Int) : List UInt8 := if k = 15 then [83, 89] else if k = 13 then [76, 68] else if k = 14 then [83, 84] else if k = 11 then [73, 83, 72] else if k = 9 then [73, 83, 72, 76, 68] else if k = 10 then [73, 83, 72, 83, 84] else []
def flushL (k : Int) : List UInt8 := if k = 0 then [86, 77, 65, 76, 76, 69, 49, 73, 83] else if k = 1 then [86, 65, 69, 49, 73, 83] else if k = 2 then [86, 65, 65, 69, 49, 73, 83] else if k = 3 then [65, 83, 73, 68, 69, 49, 73, 83] else if k = 4 then [86, 77, 65, 76, 76, 69, 49] else if k = 5 then [86, 65, 69, 49] else if k = 6 then [86, 65, 65, 69, 49] else if k = 7 then [65, 83, 73, 68, 69, 49] else []
def sysL (k : Int) : List UInt8 := if k = 0 then [69, 83, 82, 95, 69, 76, 49] else if k = 1 then [70, 65, 82, 95, 69, 76, 49] else if k = 2 then [69, 76, 82, 95, 69, 76, 49] else []
def targetL (n : Int) : List UInt8 := if n < 0 then [46] ++ intL n else [46, 43] ++ intL n
def immL (n : Int) : List UInt8 := [35] ++ intL n
def threeL (op d n m : Int) : List UInt8 := nameL op ++ [32] ++ regL d ++ [44] ++ regL n ++ [44] ++ regL m
/-- The text of an instruction that may be. -/
def textA (op d n m imm kind : Int) : List UInt8 :=
  if op = 1 ∨ op = 20 ∨ op = 22 then nameL op
  else if (op = 2 ∨ op = 3) ∧ ¬ imm = 0 then nameL op ++ [32] ++ regL d ++ [44, 91] ++ regL n ++ [44] ++ immL imm ++ [93]
  else if op = 2 ∨ op = 3 ∨ op = 4 ∨ op = 5 then nameL op ++ [32] ++ regL d ++ [44, 91] ++ regL n ++ [93]
  else if op = 6 then (if kind = 0 then [77, 79, 86, 32] ++ regL d ++ [44] ++ immL imm else [77, 79, 86, 90, 32] ++ regL d ++ [44] ++ immL imm ++ [44, 76, 83, 76, 32, 35] ++ intL (16 * kind))
  else if op = 7 then [65, 68, 68, 32] ++ regL d ++ [44] ++ regL n ++ [44] ++ immL imm
  else if op = 14 then [66, 32] ++ targetL imm
  else if op = 15 ∨ op = 16 then nameL op ++ [32] ++ regL d ++ [44] ++ targetL imm
  else if op = 17 then (if kind = 0 then [66, 46, 69, 81, 32] ++ targetL imm else [66, 46, 78, 69, 32] ++ targetL imm)
  else if op = 18 then [68, 77, 66, 32] ++ barL kind
  else if op = 19 then [68, 83, 66, 32] ++ barL kind
  else if op = 21 then (if kind % 4 = 0 then [84, 76, 66, 73, 32] ++ flushL kind else [84, 76, 66, 73, 32] ++ flushL kind ++ [44] ++ regL d)
  else if op = 23 then [77, 82, 83, 32] ++ regL d ++ [44] ++ sysL kind
  else if op = 13 ∧ d = 31 then [67, 77, 80, 32] ++ regL n ++ [44] ++ regL m
  else threeL op d n m
def printA (op d n m imm kind : Int) : List UInt8 := if rightP op d n m imm kind then textA op d n m imm kind else []
theorem aname_1 (w : World) : Calls Try.prog 20 #[.int .i64 1] w fun e w' => e = .returned (.string { data := #[78, 79, 80] }) ∧ w = w' := by
  go_enter Try.func20, Try.ntmps20
  go_wp2
  go_ret
  exact ⟨rfl, rfl⟩
theorem aname_2 (w : World) : Calls Try.prog 20 #[.int .i64 2] w fun e w' => e = .returned (.string { data := #[76, 68, 82] }) ∧ w = w' := by
  go_enter Try.func20, Try.ntmps20
  go_wp2
  go_ret
  exact ⟨rfl, rfl⟩
theorem aname_3 (w : World) : Calls Try.prog 20 #[.int .i64 3] w fun e w' => e = .returned (.string { data := #[83, 84, 82] }) ∧ w = w' := by
  go_enter Try.func20, Try.ntmps20
  go_wp2
  go_ret
  exact ⟨rfl, rfl⟩
theorem aname_4 (w : World) : Calls Try.prog 20 #[.int .i64 4] w fun e w' => e = .returned (.string { data := #[76, 68, 65, 82] }) ∧ w = w' := by
  go_enter Try.func20, Try.ntmps20
  go_wp2
  go_ret
  exact ⟨rfl, rfl⟩
theorem aname_5 (w : World) : Calls Try.prog 20 #[.int .i64 5] w fun e w' => e = .returned (.string { data := #[83, 84, 76, 82] }) ∧ w = w' := by
  go_enter Try.func20, Try.ntmps20
  go_wp2
  go_ret
  exact ⟨rfl, rfl⟩
theorem aname_7 (w : World) : Calls Try.prog 20 #[.int .i64 7] w fun e w' => e = .returned (.string { data := #[65, 68, 68] }) ∧ w = w' := by
  go_enter Try.func20, Try.ntmps20
  go_wp2
  go_ret
  exact ⟨rfl, rfl⟩
theorem aname_8 (w : World) : Calls Try.prog 20 #[.int .i64 8] w fun e w' => e = .returned (.string { data := #[65, 68, 68] }) ∧ w = w' := by
  go_enter Try.func20, Try.ntmps20
  go_wp2
  go_ret
  exact ⟨rfl, rfl⟩
theorem aname_9 (w : World) : Calls Try.prog 20 #[.int .i64 9] w fun e w' => e = .returned (.string { data := #[83, 85, 66] }) ∧ w = w' := by
  go_enter Try.func20, Try.ntmps20
  go_wp2
  go_ret
  exact ⟨rfl, rfl⟩
theorem aname_10 (w : World) : Calls Try.prog 20 #[.int .i64 10] w fun e w' => e = .returned (.string { data := #[65, 78, 68] }) ∧ w = w' := by
  go_enter Try.func20, Try.ntmps20
  go_wp2
  go_ret
  exact ⟨rfl, rfl⟩
theorem aname_11 (w : World) : Calls Try.prog 20 #[.int .i64 11] w fun e w' => e = .returned (.string { data := #[79, 82, 82] }) ∧ w = w' := by
  go_enter Try.func20, Try.ntmps20
  go_wp2
  go_ret
  exact ⟨rfl, rfl⟩
theorem aname_12 (w : World) : Calls Try.prog 20 #[.int .i64 12] w fun e w' => e = .returned (.string { data := #[69, 79, 82] }) ∧ w = w' := by
  go_enter Try.func20, Try.ntmps20
  go_wp2
  go_ret
  exact ⟨rfl, rfl⟩
theorem aname_13 (w : World) : Calls Try.prog 20 #[.int .i64 13] w fun e w' => e = .returned (.string { data := #[83, 85, 66, 83] }) ∧ w = w' := by
  go_enter Try.func20, Try.ntmps20
  go_wp2
  go_ret
  exact ⟨rfl, rfl⟩
theorem aname_14 (w : World) : Calls Try.prog 20 #[.int .i64 14] w fun e w' => e = .returned (.string { data := #[66] }) ∧ w = w' := by
  go_enter Try.func20, Try.ntmps20
  go_wp2
  go_ret
  exact ⟨rfl, rfl⟩
theorem aname_15 (w : World) : Calls Try.prog 20 #[.int .i64 15] w fun e w' => e = .returned (.string { data := #[67, 66, 90] }) ∧ w = w' := by
  go_enter Try.func20, Try.ntmps20
  go_wp2
  go_ret
  exact ⟨rfl, rfl⟩
theorem aname_16 (w : World) : Calls Try.prog 20 #[.int .i64 16] w fun e w' => e = .returned (.string { data := #[67, 66, 78, 90] }) ∧ w = w' := by
  go_enter Try.func20, Try.ntmps20
  go_wp2
  go_ret
  exact ⟨rfl, rfl⟩
theorem aname_20 (w : World) : Calls Try.prog 20 #[.int .i64 20] w fun e w' => e = .returned (.string { data := #[73, 83, 66] }) ∧ w = w' := by
  go_enter Try.func20, Try.ntmps20
  go_wp2
  go_ret
  exact ⟨rfl, rfl⟩
theorem aname_22 (w : World) : Calls Try.prog 20 #[.int .i64 22] w fun e w' => e = .returned (.string { data := #[69, 82, 69, 84] }) ∧ w = w' := by
  go_enter Try.func20, Try.ntmps20
  go_wp2
  go_ret
  exact ⟨rfl, rfl⟩
theorem abar_15 (w : World) : Calls Try.prog 37 #[.int .i64 15] w fun e w' => e = .returned (.string { data := #[83, 89] }) ∧ w = w' := by
  go_enter Try.func37, Try.ntmps37
  go_wp2
  go_ret
  exact ⟨rfl, rfl⟩
theorem abar_13 (w : World) : Calls Try.prog 37 #[.int .i64 13] w fun e w' => e = .returned (.string { data := #[76, 68] }) ∧ w = w' := by
  go_enter Try.func37, Try.ntmps37
  go_wp2
  go_ret
  exact ⟨rfl, rfl⟩
theorem abar_14 (w : World) : Calls Try.prog 37 #[.int .i64 14] w fun e w' => e = .returned (.string { data := #[83, 84] }) ∧ w = w' := by
  go_enter Try.func37, Try.ntmps37
  go_wp2
  go_ret
  exact ⟨rfl, rfl⟩
theorem abar_11 (w : World) : Calls Try.prog 37 #[.int .i64 11] w fun e w' => e = .returned (.string { data := #[73, 83, 72] }) ∧ w = w' := by
  go_enter Try.func37, Try.ntmps37
  go_wp2
  go_ret
  exact ⟨rfl, rfl⟩
theorem abar_9 (w : World) : Calls Try.prog 37 #[.int .i64 9] w fun e w' => e = .returned (.string { data := #[73, 83, 72, 76, 68] }) ∧ w = w' := by
  go_enter Try.func37, Try.ntmps37
  go_wp2
  go_ret
  exact ⟨rfl, rfl⟩
theorem abar_10 (w : World) : Calls Try.prog 37 #[.int .i64 10] w fun e w' => e = .returned (.string { data := #[73, 83, 72, 83, 84] }) ∧ w = w' := by
  go_enter Try.func37, Try.ntmps37
  go_wp2
  go_ret
  exact ⟨rfl, rfl⟩
theorem aflush_0 (w : World) : Calls Try.prog 38 #[.int .i64 0] w fun e w' => e = .returned (.string { data := #[86, 77, 65, 76, 76, 69, 49, 73, 83] }) ∧ w = w' := by
  go_enter Try.func38, Try.ntmps38
  go_wp2
  go_ret
  exact ⟨rfl, rfl⟩
theorem aflush_1 (w : World) : Calls Try.prog 38 #[.int .i64 1] w fun e w' => e = .returned (.string { data := #[86, 65, 69, 49, 73, 83] }) ∧ w = w' := by
  go_enter Try.func38, Try.ntmps38
  go_wp2
  go_ret
  exact ⟨rfl, rfl⟩
theorem aflush_2 (w : World) : Calls Try.prog 38 #[.int .i64 2] w fun e w' => e = .returned (.string { data := #[86, 65, 65, 69, 49, 73, 83] }) ∧ w = w' := by
  go_enter Try.func38, Try.ntmps38
  go_wp2
  go_ret
  exact ⟨rfl, rfl⟩
theorem aflush_3 (w : World) : Calls Try.prog 38 #[.int .i64 3] w fun e w' => e = .returned (.string { data := #[65, 83, 73, 68, 69, 49, 73, 83] }) ∧ w = w' := by
  go_enter Try.func38, Try.ntmps38
  go_wp2
  go_ret
  exact ⟨rfl, rfl⟩
theorem aflush_4 (w : World) : Calls Try.prog 38 #[.int .i64 4] w fun e w' => e = .returned (.string { data := #[86, 77, 65, 76, 76, 69, 49] }) ∧ w = w' := by
  go_enter Try.func38, Try.ntmps38
  go_wp2
  go_ret
  exact ⟨rfl, rfl⟩
theorem aflush_5 (w : World) : Calls Try.prog 38 #[.int .i64 5] w fun e w' => e = .returned (.string { data := #[86, 65, 69, 49] }) ∧ w = w' := by
  go_enter Try.func38, Try.ntmps38
  go_wp2
  go_ret
  exact ⟨rfl, rfl⟩
theorem aflush_6 (w : World) : Calls Try.prog 38 #[.int .i64 6] w fun e w' => e = .returned (.string { data := #[86, 65, 65, 69, 49] }) ∧ w = w' := by
  go_enter Try.func38, Try.ntmps38
  go_wp2
  go_ret
  exact ⟨rfl, rfl⟩
theorem aflush_7 (w : World) : Calls Try.prog 38 #[.int .i64 7] w fun e w' => e = .returned (.string { data := #[65, 83, 73, 68, 69, 49] }) ∧ w = w' := by
  go_enter Try.func38, Try.ntmps38
  go_wp2
  go_ret
  exact ⟨rfl, rfl⟩
theorem asys_0 (w : World) : Calls Try.prog 39 #[.int .i64 0] w fun e w' => e = .returned (.string { data := #[69, 83, 82, 95, 69, 76, 49] }) ∧ w = w' := by
  go_enter Try.func39, Try.ntmps39
  go_wp2
  go_ret
  exact ⟨rfl, rfl⟩
theorem asys_1 (w : World) : Calls Try.prog 39 #[.int .i64 1] w fun e w' => e = .returned (.string { data := #[70, 65, 82, 95, 69, 76, 49] }) ∧ w = w' := by
  go_enter Try.func39, Try.ntmps39
  go_wp2
  go_ret
  exact ⟨rfl, rfl⟩
theorem asys_2 (w : World) : Calls Try.prog 39 #[.int .i64 2] w fun e w' => e = .returned (.string { data := #[69, 76, 82, 95, 69, 76, 49] }) ∧ w = w' := by
  go_enter Try.func39, Try.ntmps39
  go_wp2
  go_ret
  exact ⟨rfl, rfl⟩
theorem target_any (n : Int) (w : World) (hn : -9223372036854775808 ≤ n ∧ n ≤ 9223372036854775807) :
    Calls Try.prog 21 #[.int .i64 n] w fun e w' => e = .returned (.string (ba (targetL n))) ∧ ∃ m, w' = w.drewN m := by
  have b1 := intL_len n hn
  have HI := Lib.hid (fun w1 : World => int_any n w1 hn)
  by_cases h : n < 0
  · have H := Lib.hid (show targetL n = [46] ++ intL n by unfold targetL; rw [if_pos h])
    have hcat : ∀ wx : World, (Op.stringOp .add { data := #[46] } (ba (intL n))).run Try.prog wx = .ok (.string (ba ([46] ++ intL n))) wx := cat_ba (P := Try.prog) [46] (intL n) (by simp; omega)
    go_enter Try.func21, Try.ntmps21
    go_wp2_with fail
    refine (HI.out _).mono ?_
    rintro e w' ⟨rfl, m, rfl⟩
    go_wp2_with fail
    go_ret
    exact ⟨by rw [H.out]; rfl, _, rfl⟩
  · have H := Lib.hid (show targetL n = [46, 43] ++ intL n by unfold targetL; rw [if_neg h])
    have hcat : ∀ wx : World, (Op.stringOp .add { data := #[46, 43] } (ba (intL n))).run Try.prog wx = .ok (.string (ba ([46, 43] ++ intL n))) wx := cat_ba (P := Try.prog) [46, 43] (intL n) (by simp; omega)
    go_enter Try.func21, Try.ntmps21
    go_wp2_with fail
    refine (HI.out _).mono ?_
    rintro e w' ⟨rfl, m, rfl⟩
    go_wp2_with fail
    go_ret
    exact ⟨by rw [H.out]; rfl, _, rfl⟩
end Go.Proofs.Ytlhkjjfdmglabaa
