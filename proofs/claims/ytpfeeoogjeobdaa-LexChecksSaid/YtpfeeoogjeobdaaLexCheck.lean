/- Contracts of Check, in both. -/
import Derived.Test.YtpfeeoogjeobdaaLexWalk
import Derived.Laws.Rows
namespace Go.Proofs.Ytpfeeoogjeobdaa
open Go.RowKit
set_option linter.unusedVariables false

theorem checkZ_long {s : ByteArray} (h : 16384 < s.size) : checkZ s = (2, 0) := by unfold checkZ; rw [if_pos h]
theorem checkZ_bad {s : ByteArray} {k : Nat} (h : ¬ 16384 < s.size) (hk : k < s.size) (hs : scan (badB s) s.size k = scan (badB s) s.size 0) (hb : badB s k = true) : checkZ s = (100, (k : Int)) := by
  unfold checkZ; rw [if_neg h, ← hs, scan_hit hk hb, if_pos hk]
theorem checkZ_ok {s : ByteArray} (h : ¬ 16384 < s.size) (hs : scan (badB s) s.size s.size = scan (badB s) s.size 0) : checkZ s = (0, 0) := by
  unfold checkZ; rw [if_neg h, ← hs, scan_stop (by omega), if_neg (by omega)]
theorem badB_eq {s : ByteArray} {k : Nat} (h : k < s.size) : badB s k = !okB (s[k].toNat : Int) := by unfold badB; rw [bt_eq h]

set_option maxHeartbeats 1600000 in
theorem check_any (s : ByteArray) (w : World) (hs : s.size ≤ maxLen) :
    Calls Try.prog 15 #[.string s] w fun e w' => e = .returned (.agg #[.int .i64 (checkZ s).1, .int .i64 (checkZ s).2]) ∧ Below w.heap.size w w' := by
  unfold maxLen at hs
  have HN := Lib.hid (fun (a b : Int) => show (w.alloc (.cells #[.int .i64 a, .int .i64 b] 26)).heap[w.heap.size]? = some (.cells #[.int .i64 a, .int .i64 b] 26 (0, 0)) from heap_alloc_new w _)
  have HE := Lib.hid (fun (p : Int × Int) (h : checkZ s = p) => show Ending.returned (.agg #[.int .i64 p.1, .int .i64 p.2]) = Ending.returned (.agg #[.int .i64 (checkZ s).1, .int .i64 (checkZ s).2]) from by rw [h])
  by_cases hl : 16384 < s.size
  · have hl' : (16384 : Int) < s.size := by omega
    have HZ := Lib.hid (checkZ_long hl)
    go_enter Try.func15, Try.ntmps15
    go_wp2
    exact bodyPost_ret (results_cell_row rfl _ _ w.heap.size 26 #[.int .i64 2, .int .i64 0] (0, 0) _ rfl (HN.out 2 0) Try.underlying26 rfl (by kernel_rfl)) rfl ⟨HE.out _ HZ.out, below_alloc (Below.refl _ _) _⟩
  · have hl' : (s.size : Int) ≤ 16384 := by omega
    have HL := Lib.hid hl
    clear hl
    go_enter Try.func15, Try.ntmps15
    go_wp2_with fail
    go_loop [11] (fun i => ∃ k : Nat, k ≤ s.size ∧ i = .int .i64 k ∧ scan (badB s) s.size k = scan (badB s) s.size 0) (fun i => s.size - (intOf i).toNat)
    case atStart => exact ⟨0, by omega, rfl, rfl⟩
    case round =>
      obtain ⟨k, hk, rfl, hsc⟩ := hrel
      have HS := Lib.hid hsc
      clear hsc
      by_cases hlt : k < s.size
      · have HB := Lib.hid (badB_eq hlt)
        have HBad := Lib.hid (fun h => checkZ_bad HL.out hlt HS.out h)
        have HMiss := Lib.hid (fun (h : badB s k = false) => (scan_miss (to := s.size) hlt h).symm.trans HS.out)
        have hbd := byte_bd s[k]
        obtain ⟨hb0, hb1⟩ := hbd
        by_cases hok : okB (s[k].toNat : Int) = true
        · have HN2 := Lib.hid (HMiss.out (by rw [HB.out, hok]; rfl))
          have HOK := Lib.hid (show okB (s[k].toNat : Int) = ((s[k].toNat : Int) == 10 || blankB (s[k].toNat : Int) || (decide (32 ≤ (s[k].toNat : Int)) && decide ((s[k].toNat : Int) ≤ 126))) from rfl)
          cases e10 : ((s[k].toNat : Int) == 10) <;> cases eb : blankB (s[k].toNat : Int)
          · have n10 : ((s[k].toNat : Int) != 10) = true := by simp only [bne, e10, Bool.not_false]
            have h32 : 32 ≤ (s[k].toNat : Int) ∧ (s[k].toNat : Int) ≤ 126 := by have := HOK.out; rw [hok, e10, eb] at this; simpa using this.symm
            obtain ⟨h32a, h32b⟩ := h32
            clear hok
            go_wp2_with (go_at_call 17; refine (blank_any _ _).mono ?_; rintro e w' ⟨rfl, rfl⟩)
            go_round
            case rel => exact ⟨k + 1, by omega, by go_num, HN2.out⟩
            case measure => simp [intOf]; omega
          all_goals
            first | have n10 : ((s[k].toNat : Int) != 10) = true := by simp only [bne, e10, Bool.not_false] | have n10 : ((s[k].toNat : Int) != 10) = false := by simp only [bne, e10, Bool.not_true]
            clear hok
            go_wp2_with (go_at_call 17; refine (blank_any _ _).mono ?_; rintro e w' ⟨rfl, rfl⟩)
            go_round
            case rel => exact ⟨k + 1, by omega, by go_num, HN2.out⟩
            case measure => simp [intOf]; omega
        · have hok' : okB (s[k].toNat : Int) = false := by simpa using hok
          have HZ := Lib.hid (HBad.out (by rw [HB.out, hok']; rfl))
          have h3 : ((s[k].toNat : Int) == 10) = false ∧ blankB (s[k].toNat : Int) = false ∧ ((s[k].toNat : Int) < 32 ∨ 126 < (s[k].toNat : Int)) := by
            unfold okB at hok'
            simp only [Bool.or_eq_false_iff, Bool.and_eq_false_iff, decide_eq_false_iff_not] at hok'
            exact ⟨hok'.1.1, hok'.1.2, by omega⟩
          obtain ⟨e10, eb, h4⟩ := h3
          have n10 : ((s[k].toNat : Int) != 10) = true := by simp only [bne, e10, Bool.not_false]
          clear hok hok'
          by_cases h5 : (s[k].toNat : Int) < 32
          all_goals
            first | have h6 : (s[k].toNat : Int) < 32 := h5 | have h6 : 126 < (s[k].toNat : Int) := by omega
            clear h4
            go_wp2_with (go_at_call 17; refine (blank_any _ _).mono ?_; rintro e w' ⟨rfl, rfl⟩)
            exact bodyPost_ret (results_cell_row rfl _ _ w.heap.size 26 #[.int .i64 100, .int .i64 k] (0, 0) _ rfl (HN.out 100 k) Try.underlying26 rfl (by kernel_rfl)) rfl ⟨HE.out _ HZ.out, below_alloc (Below.refl _ _) _⟩
      · obtain rfl : k = s.size := by omega
        have HZ := Lib.hid (checkZ_ok HL.out HS.out)
        go_wp2
        exact bodyPost_ret (results_cell_row rfl _ _ w.heap.size 26 #[.int .i64 0, .int .i64 0] (0, 0) _ rfl (HN.out 0 0) Try.underlying26 rfl (by kernel_rfl)) rfl ⟨HE.out _ HZ.out, below_alloc (Below.refl _ _) _⟩
set_option maxHeartbeats 1600000 in
theorem rcheck_any (s : ByteArray) (w : World) (hs : s.size ≤ maxLen) :
    Calls Try.prog 16 #[.string s] w fun e w' => e = .returned (.tuple #[.int .i64 (checkZ s).1, .int .i64 (checkZ s).2]) ∧ w = w' := by
  unfold maxLen at hs
  have HE := Lib.hid (fun (p : Int × Int) (h : checkZ s = p) => show Ending.returned (.tuple #[.int .i64 p.1, .int .i64 p.2]) = Ending.returned (.tuple #[.int .i64 (checkZ s).1, .int .i64 (checkZ s).2]) from by rw [h])
  by_cases hl : 16384 < s.size
  · have hl' : (16384 : Int) < s.size := by omega
    have HZ := Lib.hid (checkZ_long hl)
    go_enter Try.func16, Try.ntmps16
    go_wp2
    go_ret2
    exact ⟨HE.out _ HZ.out, rfl⟩
  · have hl' : (s.size : Int) ≤ 16384 := by omega
    have HL := Lib.hid hl
    clear hl
    go_enter Try.func16, Try.ntmps16
    go_wp2_with fail
    go_loop [4] (fun i => ∃ k : Nat, k ≤ s.size ∧ i = .int .i64 k ∧ scan (badB s) s.size k = scan (badB s) s.size 0) (fun i => s.size - (intOf i).toNat)
    case atStart => exact ⟨0, by omega, rfl, rfl⟩
    case round =>
      obtain ⟨k, hk, rfl, hsc⟩ := hrel
      have HS := Lib.hid hsc
      clear hsc
      by_cases hlt : k < s.size
      · have HB := Lib.hid (badB_eq hlt)
        have HBad := Lib.hid (fun h => checkZ_bad HL.out hlt HS.out h)
        have HMiss := Lib.hid (fun (h : badB s k = false) => (scan_miss (to := s.size) hlt h).symm.trans HS.out)
        have hbd := byte_bd s[k]
        obtain ⟨hb0, hb1⟩ := hbd
        by_cases hok : okB (s[k].toNat : Int) = true
        · have HN2 := Lib.hid (HMiss.out (by rw [HB.out, hok]; rfl))
          have HOK := Lib.hid (show okB (s[k].toNat : Int) = ((s[k].toNat : Int) == 10 || blankB (s[k].toNat : Int) || (decide (32 ≤ (s[k].toNat : Int)) && decide ((s[k].toNat : Int) ≤ 126))) from rfl)
          cases e10 : ((s[k].toNat : Int) == 10) <;> cases eb : blankB (s[k].toNat : Int)
          · have n10 : ((s[k].toNat : Int) != 10) = true := by simp only [bne, e10, Bool.not_false]
            have h32 : 32 ≤ (s[k].toNat : Int) ∧ (s[k].toNat : Int) ≤ 126 := by have := HOK.out; rw [hok, e10, eb] at this; simpa using this.symm
            obtain ⟨h32a, h32b⟩ := h32
            clear hok
            go_wp2_with (go_at_call 22; refine (rblank_any _ _).mono ?_; rintro e w' ⟨rfl, rfl⟩)
            go_round
            case rel => exact ⟨k + 1, by omega, by go_num, HN2.out⟩
            case measure => simp [intOf]; omega
          all_goals
            first | have n10 : ((s[k].toNat : Int) != 10) = true := by simp only [bne, e10, Bool.not_false] | have n10 : ((s[k].toNat : Int) != 10) = false := by simp only [bne, e10, Bool.not_true]
            clear hok
            go_wp2_with (go_at_call 22; refine (rblank_any _ _).mono ?_; rintro e w' ⟨rfl, rfl⟩)
            go_round
            case rel => exact ⟨k + 1, by omega, by go_num, HN2.out⟩
            case measure => simp [intOf]; omega
        · have hok' : okB (s[k].toNat : Int) = false := by simpa using hok
          have HZ := Lib.hid (HBad.out (by rw [HB.out, hok']; rfl))
          have h3 : ((s[k].toNat : Int) == 10) = false ∧ blankB (s[k].toNat : Int) = false ∧ ((s[k].toNat : Int) < 32 ∨ 126 < (s[k].toNat : Int)) := by
            unfold okB at hok'
            simp only [Bool.or_eq_false_iff, Bool.and_eq_false_iff, decide_eq_false_iff_not] at hok'
            exact ⟨hok'.1.1, hok'.1.2, by omega⟩
          obtain ⟨e10, eb, h4⟩ := h3
          have n10 : ((s[k].toNat : Int) != 10) = true := by simp only [bne, e10, Bool.not_false]
          clear hok hok'
          by_cases h5 : (s[k].toNat : Int) < 32
          all_goals
            first | have h6 : (s[k].toNat : Int) < 32 := h5 | have h6 : 126 < (s[k].toNat : Int) := by omega
            clear h4
            go_wp2_with (go_at_call 22; refine (rblank_any _ _).mono ?_; rintro e w' ⟨rfl, rfl⟩)
            go_ret2
            exact ⟨HE.out _ HZ.out, rfl⟩
      · obtain rfl : k = s.size := by omega
        have HZ := Lib.hid (checkZ_ok HL.out HS.out)
        go_wp2
        go_ret2
        exact ⟨HE.out _ HZ.out, rfl⟩
end Go.Proofs.Ytpfeeoogjeobdaa
