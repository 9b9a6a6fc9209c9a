/- Contracts of the parts-of-words functions of the package field. -/
import Derived.Test.YtdkjokffeeiilaaRows
import Derived.Test.YtdkjokffeeiilaaBase
import Derived.Test.YtdkjokffeeiilaaFieldPlain
namespace Go.Proofs.Ytdkjokffeeiilaa
open Go.RowKit

theorem mask_any (n : Int) (w : World) (h0 : 0 ≤ n) :
    Calls Try.prog 38 #[.int .i64 n] w fun e w' => e = .returned (.int .u64 (maskN n)) ∧ ∃ m, w' = w.drewN m := by
  by_cases h : 64 ≤ n
  · have H := Lib.hid (maskN_big n h)
    go_enter Try.func38, Try.ntmps38
    go_wp2
    go_ret
    exact ⟨ret_int (by rw [H.out]; rfl), 0, rfl⟩
  · have H := Lib.hid (mask_walk n (by omega))
    go_enter Try.func38, Try.ntmps38
    go_wp2
    go_ret
    exact ⟨ret_int H.out, 0, rfl⟩

theorem right_any (hi lo : Int) (w : World) :
    Calls Try.prog 37 #[.int .i64 hi, .int .i64 lo] w fun e w' => e = .returned (.bool (mayB hi lo)) ∧ w = w' := by
  have H : Hid (mayB hi lo = decide (0 ≤ lo ∧ lo ≤ hi ∧ hi < 64)) := rfl
  by_cases h1 : 0 ≤ lo <;> by_cases h2 : lo ≤ hi <;> by_cases h3 : hi < 64 <;> (
    go_enter Try.func37, Try.ntmps37
    go_wp2
    go_ret
    refine ⟨ret_bool ?_, rfl⟩
    rw [H.out]
    simp [h1, h2, h3])

theorem get_any (x hi lo : Int) (w : World) (hx : 0 ≤ x ∧ x < 18446744073709551616) :
    Calls Try.prog 14 #[.int .u64 x, .int .i64 hi, .int .i64 lo] w fun e w' => e = .returned (.int .u64 (getN x hi lo)) ∧ ∃ n, w' = w.drewN n := by
  cases hm : mayB hi lo
  · have H := Lib.hid (show getN x hi lo = 0 by simp [getN, hm])
    go_enter Try.func14, Try.ntmps14
    go_wp2_with (go_at_call 37; refine (right_any _ _ _).mono ?_; rintro e w' ⟨rfl, rfl⟩)
    go_ret
    exact ⟨ret_int (by rw [H.out]; rfl), 0, rfl⟩
  · have H := Lib.hid (get_walk x hi lo hx hm)
    have hm' := hm
    simp only [mayB, decide_eq_true_eq] at hm'
    obtain ⟨h1, h2, h3⟩ := hm'
    have e1 : IntKind.i64.wrap (hi - lo) = hi - lo := IntWalk.i64_in _ (by omega)
    have e2 : IntKind.i64.wrap (hi - lo + 1) = hi - lo + 1 := IntWalk.i64_in _ (by omega)
    go_enter Try.func14, Try.ntmps14
    go_wp2_with (go_at_call 37; refine (right_any _ _ _).mono ?_; rintro e w' ⟨rfl, rfl⟩)
    go_quiet ((go_at_call 38; exact quiet_of (mask_any _ _ (by clear e1 e2; omega))))
    go_wp2
    go_ret
    exact ⟨ret_int H.out, _, rfl⟩

theorem bit_any (x n : Int) (w : World) (hx : 0 ≤ x ∧ x < 18446744073709551616) :
    Calls Try.prog 16 #[.int .u64 x, .int .i64 n] w fun e w' => e = .returned (.bool ((getN x n n : Int) == 1)) ∧ ∃ n, w' = w.drewN n := by
  go_enter Try.func16, Try.ntmps16
  go_wp2_with (go_at_call 14; refine (get_any _ _ _ _ hx).mono ?_; rintro e w' ⟨rfl, m, rfl⟩)
  go_ret
  exact ⟨rfl, _, rfl⟩

theorem put_any (x hi lo v : Int) (w : World) (hx : 0 ≤ x ∧ x < 18446744073709551616) (hv : 0 ≤ v ∧ v < 18446744073709551616) :
    Calls Try.prog 20 #[.int .u64 x, .int .i64 hi, .int .i64 lo, .int .u64 v] w fun e w' => e = .returned (.int .u64 (putN x hi lo v)) ∧ ∃ n, w' = w.drewN n := by
  cases hm : mayB hi lo
  · have H := Lib.hid (show (putN x hi lo v : Int) = x by simp [putN, hm]; omega)
    go_enter Try.func20, Try.ntmps20
    go_wp2_with (go_at_call 37; refine (right_any _ _ _).mono ?_; rintro e w' ⟨rfl, rfl⟩)
    go_ret
    exact ⟨ret_int (by rw [H.out]), 0, rfl⟩
  · have H := Lib.hid (put_walk x hi lo v hx hv hm)
    have hm' := hm
    simp only [mayB, decide_eq_true_eq] at hm'
    obtain ⟨h1, h2, h3⟩ := hm'
    go_enter Try.func20, Try.ntmps20
    go_wp2_with (first | (go_at_call 37; refine (right_any _ _ _).mono ?_; rintro e w' ⟨rfl, rfl⟩) | (go_at_call 38; refine (mask_any _ _ (by omega)).mono ?_; rintro e w' ⟨rfl, m, rfl⟩))
    go_quiet (fail)
    go_wp2
    go_ret
    exact ⟨ret_int H.out, _, by rw [World.drewN_drewN]⟩


theorem signed_any (x n : Int) (w : World) (hx : 0 ≤ x ∧ x < 18446744073709551616) :
    Calls Try.prog 17 #[.int .u64 x, .int .i64 n] w fun e w' => e = .returned (.int .i64 (signedZ x n)) ∧ ∃ n, w' = w.drewN n := by
  by_cases hn : 1 ≤ n ∧ n ≤ 63
  · obtain ⟨r, hl, ⟨ht, hs⟩ | ⟨ht, hs⟩⟩ := signed_facts x n hx hn
    all_goals
      have HS := Lib.hid hs
      clear hs hx
      obtain ⟨hn1, hn2⟩ := hn
      go_enter Try.func17, Try.ntmps17
      go_wp2_with (go_at_call 38; refine (mask_any _ _ (by omega)).mono ?_; rintro e w' ⟨rfl, m, rfl⟩)
      go_ret
      exact ⟨ret_int (by first | exact HS.out | exact hl.trans HS.out.symm), _, rfl⟩
  · have H := Lib.hid (show signedZ x n = 0 by unfold signedZ; rw [if_neg hn])
    by_cases h1 : n < 1
    · clear hn
      go_enter Try.func17, Try.ntmps17
      go_wp2
      go_ret
      exact ⟨ret_int (by rw [H.out]), 0, rfl⟩
    · have h2 : 63 < n := by omega
      clear hn
      go_enter Try.func17, Try.ntmps17
      go_wp2
      go_ret
      exact ⟨ret_int (by rw [H.out]), 0, rfl⟩

theorem fits_any (v n : Int) (w : World) :
    Calls Try.prog 19 #[.int .i64 v, .int .i64 n] w fun e w' => e = .returned (.bool (fitsB v n)) ∧ ∃ n, w' = w.drewN n := by
  by_cases hn : 1 ≤ n ∧ n ≤ 63
  · have H := Lib.hid (fits_eq v n hn)
    obtain ⟨hn1, hn2⟩ := hn
    by_cases h4 : wrap64 (-2 ^ (n.toNat - 1)) ≤ v
    all_goals
      go_enter Try.func19, Try.ntmps19
      go_wp2
      go_ret
      refine ⟨ret_bool ?_, 0, rfl⟩
      rw [H.out]
      simp [h4]
      try omega
  · have H := Lib.hid (show fitsB v n = false by unfold fitsB; rw [decide_eq_false]; omega)
    by_cases h1 : n < 1
    · clear hn
      go_enter Try.func19, Try.ntmps19
      go_wp2
      go_ret
      exact ⟨ret_bool (by rw [H.out]), 0, rfl⟩
    · have h2 : 63 < n := by omega
      clear hn
      go_enter Try.func19, Try.ntmps19
      go_wp2
      go_ret
      exact ⟨ret_bool (by rw [H.out]), 0, rfl⟩

theorem down_any (x n : Int) (w : World) (hx : 0 ≤ x ∧ x < 18446744073709551616) :
    Calls Try.prog 24 #[.int .u64 x, .int .i64 n] w fun e w' => e = .returned (.int .u64 (downN x n)) ∧ ∃ n, w' = w.drewN n := by
  by_cases hn : n ≤ 0
  · have H := Lib.hid (show (downN x n : Int) = x by unfold downN; rw [show n.toNat = 0 by omega]; simp; omega)
    go_enter Try.func24, Try.ntmps24
    go_wp2
    go_ret
    exact ⟨ret_int (by rw [H.out]), 0, rfl⟩
  · have H := Lib.hid (down_walk x n hx)
    go_enter Try.func24, Try.ntmps24
    go_wp2_with (go_at_call 38; refine (mask_any _ _ (by omega)).mono ?_; rintro e w' ⟨rfl, m, rfl⟩)
    go_ret
    exact ⟨ret_int H.out, _, rfl⟩

theorem aligned_any (x n : Int) (w : World) (hx : 0 ≤ x ∧ x < 18446744073709551616) :
    Calls Try.prog 25 #[.int .u64 x, .int .i64 n] w fun e w' => e = .returned (.bool (alignedB x n)) ∧ ∃ n, w' = w.drewN n := by
  by_cases hn : n ≤ 0
  · have H := Lib.hid (show alignedB x n = true by unfold alignedB; rw [show n.toNat = 0 by omega]; simp [Nat.mod_one])
    go_enter Try.func25, Try.ntmps25
    go_wp2
    go_ret
    exact ⟨ret_bool (by rw [H.out]), 0, rfl⟩
  · have H := Lib.hid (aligned_walk x n hx)
    go_enter Try.func25, Try.ntmps25
    go_wp2_with (go_at_call 38; refine (mask_any _ _ (by omega)).mono ?_; rintro e w' ⟨rfl, m, rfl⟩)
    go_ret
    exact ⟨ret_bool H.out, _, rfl⟩

theorem page_any (x : Int) (w : World) (hx : 0 ≤ x ∧ x < 18446744073709551616) :
    Calls Try.prog 26 #[.int .u64 x] w fun e w' => e = .returned (.int .u64 (downN x 12)) ∧ ∃ n, w' = w.drewN n := by
  go_enter Try.func26, Try.ntmps26
  go_wp2_with (go_at_call 24; refine (down_any _ _ _ hx).mono ?_; rintro e w' ⟨rfl, m, rfl⟩)
  go_ret
  exact ⟨rfl, _, rfl⟩

theorem slot_any (a level : Int) (w : World) (hx : 0 ≤ a ∧ a < 18446744073709551616) :
    Calls Try.prog 27 #[.int .u64 a, .int .i64 level] w fun e w' => e = .returned (.int .i64 (slotZ a level)) ∧ ∃ n, w' = w.drewN n := by
  have b1 := getN_field a 29 21 9 (by decide)
  have b2 := getN_field a 20 12 9 (by decide)
  by_cases h1 : level = 1
  · subst h1
    have H := Lib.hid (show slotZ a 1 = (getN a 29 21 : Int) by simp [slotZ])
    go_enter Try.func27, Try.ntmps27
    go_wp2_with (go_at_call 14; refine (get_any _ _ _ _ hx).mono ?_; rintro e w' ⟨rfl, m, rfl⟩)
    go_ret
    exact ⟨ret_int (by rw [H.out]), _, rfl⟩
  · by_cases h2 : level = 2
    · subst h2
      have H := Lib.hid (show slotZ a 2 = (getN a 20 12 : Int) by simp [slotZ])
      go_enter Try.func27, Try.ntmps27
      go_wp2_with (go_at_call 14; refine (get_any _ _ _ _ hx).mono ?_; rintro e w' ⟨rfl, m, rfl⟩)
      go_ret
      exact ⟨ret_int (by rw [H.out]), _, rfl⟩
    · have H := Lib.hid (show slotZ a level = 0 by simp [slotZ, h1, h2])
      have e1 : (level == 1) = false := by rw [beq_eq_false_iff_ne]; exact h1
      have e2 : (level == 2) = false := by rw [beq_eq_false_iff_ne]; exact h2
      have e3 : ((1 : Int) == level) = false := by rw [beq_eq_false_iff_ne]; exact fun h => h1 h.symm
      have e4 : ((2 : Int) == level) = false := by rw [beq_eq_false_iff_ne]; exact fun h => h2 h.symm
      clear h1 h2
      go_enter Try.func27, Try.ntmps27
      go_wp2
      go_ret
      exact ⟨ret_int (by rw [H.out]), 0, rfl⟩

theorem within_any (a : Int) (w : World) :
    Calls Try.prog 28 #[.int .u64 a] w fun e w' => e = .returned (.bool (decide (a < 1073741824))) ∧ ∃ n, w' = w.drewN n := by
  go_enter Try.func28, Try.ntmps28
  go_wp2
  go_ret
  exact ⟨rfl, 0, rfl⟩

end Go.Proofs.Ytdkjokffeeiilaa
