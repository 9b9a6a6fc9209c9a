/- Registers by their names. -/
import Derived.Test.YtlhkjjfdmglabaaTextWalk
import Derived.Test.YtlhkjjfdmglabaaRTextI
namespace Go.Proofs.Ytlhkjjfdmglabaa
open Go.RowKit
set_option linter.unusedVariables false

abbrev I64 (n : Int) : Prop := -9223372036854775808 ≤ n ∧ n ≤ 9223372036854775807
theorem toList_ne {a b : ByteArray} (h : ¬ a = b) : (a.toList == b.toList) = false := by
  rw [beq_eq_false_iff_ne]
  intro e
  rw [toList_ba, toList_ba] at e
  exact h (ByteArray.ext (Array.toList_inj.1 e))
set_option linter.unusedSimpArgs false

/-- A register's name. -/
def regL (n : Int) : List UInt8 := if n = 31 then [88, 90, 82] else if 0 ≤ n ∧ n < 31 then [88] ++ intL n else []
theorem intL_len (n : Int) (h : -9223372036854775808 ≤ n ∧ n ≤ 9223372036854775807) : (intL n).length ≤ 65 := by
  unfold intL
  split
  · have := txt_len64 10 (-n).toNat (by decide) (by omega)
    simp; omega
  · have := txt_len64 10 n.toNat (by decide) (by omega)
    omega
theorem regasm_any (n : Int) (w : World) (hn : -9223372036854775808 ≤ n ∧ n ≤ 9223372036854775807) :
    Calls Try.prog 17 #[.int .i64 n] w fun e w' => e = .returned (.string (ba (regL n))) ∧ ∃ m, w' = w.drewN m := by
  by_cases h31 : n = 31
  · subst h31
    go_enter Try.func17, Try.ntmps17
    go_wp2_with fail
    go_ret
    exact ⟨rfl, 0, rfl⟩
  · by_cases hr : 0 ≤ n ∧ n < 31
    · have H := Lib.hid (show regL n = [88] ++ intL n by unfold regL; rw [if_neg h31, if_pos hr])
      obtain ⟨h0, h1⟩ := hr
      have b1 := intL_len n hn
      have hcat : ∀ wx : World, (Op.stringOp .add { data := #[88] } (ba (intL n))).run Try.prog wx = .ok (.string (ba ([88] ++ intL n))) wx := cat_ba (P := Try.prog) [88] (intL n) (by simp; omega)
      have HI := Lib.hid (fun w1 : World => int_any n w1 hn)
      go_enter Try.func17, Try.ntmps17
      go_wp2_with fail
      refine (HI.out _).mono ?_
      rintro e w' ⟨rfl, m, rfl⟩
      go_wp2_with fail
      go_ret
      exact ⟨by rw [H.out]; rfl, _, rfl⟩
    · have H := Lib.hid (show regL n = [] by unfold regL; rw [if_neg h31, if_neg hr])
      by_cases h0 : 0 ≤ n
      · have h1 : ¬ n < 31 := fun h => hr ⟨h0, h⟩
        go_enter Try.func17, Try.ntmps17
        go_wp2_with fail
        go_ret
        exact ⟨by rw [H.out]; rfl, 0, rfl⟩
      · go_enter Try.func17, Try.ntmps17
        go_wp2_with fail
        go_ret
        exact ⟨by rw [H.out]; rfl, 0, rfl⟩
/-- Which register a text names: the first of the 32 names that it is. -/
def regN (s : ByteArray) : Option Nat := (List.range 32).find? fun j => decide (s = ba (regL (j : Nat)))
theorem regN_lt {s : ByteArray} {j : Nat} (h : regN s = some j) : j < 32 := by
  unfold regN at h
  rw [List.find?_range_eq_some] at h
  simpa using h.2.1
def regNV : Option Nat → Value
  | some j => .tuple #[.int .i64 (j : Nat), .bool true]
  | none => .tuple #[.int .i64 0, .bool false]
theorem regN_hit {s : ByteArray} {j : Nat} (hj : j < 32) (h : s = ba (regL (j : Nat))) (hp : ∀ i, i < j → ¬ s = ba (regL (i : Nat))) : regN s = some j := by
  unfold regN
  rw [List.find?_range_eq_some]
  refine ⟨by simpa using h, by simpa using hj, fun i hi => by simpa using hp i hi⟩
theorem regN_none {s : ByteArray} (hp : ∀ i, i < 32 → ¬ s = ba (regL (i : Nat))) : regN s = none := by
  unfold regN
  rw [List.find?_range_eq_none]
  intro i hi
  simpa using hp i hi
set_option maxRecDepth 100000 in
set_option maxHeartbeats 1600000 in
theorem numberOf_any (s : ByteArray) (w : World) :
    Calls Try.prog 15 #[.string s] w fun e w' => e = .returned (regNV (regN s)) ∧ ∃ m, w' = w.drewN m := by
  have HH := Lib.hid (fun j hj h hp => regN_hit (s := s) (j := j) hj h hp)
  have HN := Lib.hid (fun hp => regN_none (s := s) hp)
  generalize regN s = R at *
  go_enter Try.func15, Try.ntmps15
  go_wp2_with fail
  go_loopw [5] (fun i wr => ∃ k : Nat, k ≤ 32 ∧ i = .int .i64 k ∧ (∀ i, i < k → ¬ s = ba (regL (i : Nat))) ∧ ∃ m, wr = w.drewN m) (fun i _ => 32 - (intOf i).toNat)
  case atStart => exact ⟨0, by omega, rfl, fun i hi => by omega, 0, rfl⟩
  case round =>
    obtain ⟨k, hk, rfl, hP, m, rfl⟩ := hrel
    have HP := Lib.hid hP
    clear hP
    by_cases hkl : k < 32
    · have hk0 : (0 : Int) ≤ k := by omega
      have hkn : (k : Int) < 32 := by omega
      have HR := Lib.hid (regasm_any (k : Int) (w.drewN m) (by omega))
      have HC := Lib.hid (fun (h : s = ba (regL (k : Nat))) => HH.out k hkl h HP.out)
      have HE := Lib.hid (fun (h : ¬ s = ba (regL (k : Nat))) => toList_ne h)
      obtain ⟨x, hx⟩ : ∃ x, x = ba (regL (k : Nat)) := ⟨_, rfl⟩
      have HX := Lib.hid hx.symm
      rw [← hx] at HR HC HE
      clear hx
      go_wp2_with fail
      refine (HR.out).mono ?_
      rintro e w' ⟨rfl, m2, rfl⟩
      by_cases hs : s = x
      · have HC2 := Lib.hid (HC.out hs)
        clear HC
        subst hs
        go_wp2_with fail
        go_ret2
        exact ⟨by rw [HC2.out]; rfl, _, rfl⟩
      · have he := HE.out hs
        have HP2 := Lib.hid (show ∀ i, i < k + 1 → ¬ s = ba (regL (i : Nat)) from fun i hi => by
          by_cases e : i = k
          · subst e; rw [HX.out]; exact hs
          · exact HP.out i (by omega))
        go_wp2_with fail
        go_roundw
        case rel => exact ⟨k + 1, by omega, by go_num, HP2.out, _, rfl⟩
        case measure => simp [intOf]; omega
    · obtain rfl : k = 32 := by omega
      have HF := Lib.hid (HN.out HP.out)
      go_wp2_with fail
      go_ret2
      exact ⟨by rw [HF.out]; rfl, m, rfl⟩
theorem rreg_any (n : Int) (w : World) (hn : -9223372036854775808 ≤ n ∧ n ≤ 9223372036854775807) :
    Calls Try.prog 16 #[.int .i64 n] w fun e w' => e = .returned (.string (ba (regL n))) ∧ ∃ m, w' = w.drewN m := by
  by_cases h31 : n = 31
  · subst h31
    go_enter Try.func16, Try.ntmps16
    go_wp2_with fail
    go_ret
    exact ⟨rfl, 0, rfl⟩
  · by_cases hr : 0 ≤ n ∧ n < 31
    · have H := Lib.hid (show regL n = [88] ++ intL n by unfold regL; rw [if_neg h31, if_pos hr])
      obtain ⟨h0, h1⟩ := hr
      have h1a : ¬ (30 : Int) < n := by omega
      have h0a : ¬ n < 0 := by omega
      have h31b : (n == 31) = false := by rw [beq_eq_false_iff_ne]; exact h31
      have b1 := intL_len n hn
      have hcat : ∀ wx : World, (Op.stringOp .add { data := #[88] } (ba (intL n))).run Try.prog wx = .ok (.string (ba ([88] ++ intL n))) wx := cat_ba (P := Try.prog) [88] (intL n) (by simp; omega)
      have HI := Lib.hid (fun w1 : World => rint_any n w1 hn)
      go_enter Try.func16, Try.ntmps16
      go_wp2_with fail
      refine (HI.out _).mono ?_
      rintro e w' ⟨rfl, m, rfl⟩
      go_wp2_with fail
      go_ret
      exact ⟨by rw [H.out]; rfl, _, rfl⟩
    · have H := Lib.hid (show regL n = [] by unfold regL; rw [if_neg h31, if_neg hr])
      have h31b : (n == 31) = false := by rw [beq_eq_false_iff_ne]; exact h31
      by_cases h0 : 0 ≤ n
      · have h1 : ¬ n < 31 := fun h => hr ⟨h0, h⟩
        have h0a : ¬ n < 0 := by omega
        have h1b : (30 : Int) < n := by omega
        go_enter Try.func16, Try.ntmps16
        go_wp2_with fail
        go_ret
        exact ⟨by rw [H.out]; rfl, 0, rfl⟩
      · go_enter Try.func16, Try.ntmps16
        go_wp2_with fail
        go_ret
        exact ⟨by rw [H.out]; rfl, 0, rfl⟩
end Go.Proofs.Ytlhkjjfdmglabaa
