
/- Contracts of the small functions of lex and of granuleref10. -/
import Derived.Test.YteepoohcdmjmhaaRows
import Derived.Test.YteepoohcdmjmhaaBase
import Derived.Test.YteepoohcdmjmhaaBlk
import Derived.Test.YteepoohcdmjmhaaLexPlain
namespace Go.Proofs.Yteepoohcdmjmhaa
open Go.RowKit
set_option linter.unusedVariables false

theorem blank_any (c : Int) (w : World) : Calls Try.prog 34 #[.int .u8 c] w fun e w' => e = .returned (.bool (blankB c)) ∧ w = w' := by
  have H := Lib.hid (show blankB c = (c == 32 || c == 9 || c == 13) from rfl)
  cases h1 : c == 32 <;> cases h2 : c == 9 <;> cases h3 : c == 13
  all_goals
    go_enter Try.func34, Try.ntmps34
    go_wp2
    go_ret
    exact ⟨ret_bool (by rw [H.out, h1, h2, h3]; rfl), rfl⟩

theorem ldigit_any (c : Int) (w : World) : Calls Try.prog 37 #[.int .u8 c] w fun e w' => e = .returned (.bool (digitB c)) ∧ w = w' := by
  have H := Lib.hid (show digitB c = (decide (48 ≤ c) && decide (c ≤ 57)) from rfl)
  by_cases h1 : c < 48
  · go_enter Try.func37, Try.ntmps37
    go_wp2
    go_ret
    exact ⟨ret_bool (by rw [H.out]; simp; omega), rfl⟩
  by_cases h2 : 57 < c
  · have h1' : 48 ≤ c := by omega
    clear h1
    go_enter Try.func37, Try.ntmps37
    go_wp2
    go_ret
    exact ⟨ret_bool (by rw [H.out]; simp; omega), rfl⟩
  · have h1' : 48 ≤ c := by omega
    have h2' : c ≤ 57 := by omega
    clear h1 h2
    go_enter Try.func37, Try.ntmps37
    go_wp2
    go_ret
    exact ⟨ret_bool (by rw [H.out]; simp; omega), rfl⟩

theorem letter_any (c : Int) (w : World) : Calls Try.prog 36 #[.int .u8 c] w fun e w' => e = .returned (.bool (letterB c)) ∧ w = w' := by
  have H := Lib.hid (show letterB c = ((decide (97 ≤ c) && decide (c ≤ 122)) || (decide (65 ≤ c) && decide (c ≤ 90)) || c == 95 || (decide (48 ≤ c) && decide (c ≤ 57))) from rfl)
  have hall : (c < 48) ∨ (48 ≤ c ∧ c ≤ 57) ∨ (58 ≤ c ∧ c ≤ 64) ∨ (65 ≤ c ∧ c ≤ 90) ∨ (91 ≤ c ∧ c ≤ 94) ∨ (c = 95) ∨ (c = 96) ∨ (97 ≤ c ∧ c ≤ 122) ∨ (123 ≤ c) := by omega
  rcases hall with h1 | ⟨h1, h2⟩ | ⟨h1, h2⟩ | ⟨h1, h2⟩ | ⟨h1, h2⟩ | rfl | rfl | ⟨h1, h2⟩ | h1
  all_goals
    try have n95 : (c == 95) = false := beq_eq_false_iff_ne.2 (by omega)
    go_enter Try.func36, Try.ntmps36
    go_wp2_with (go_at_call 37; refine (ldigit_any _ _).mono ?_; rintro e w' ⟨rfl, rfl⟩)
    go_ret
    exact ⟨ret_bool (by rw [H.out]; first | rfl | ((try unfold digitB); rw [Bool.eq_iff_iff]; simp; omega) | ((try unfold digitB); simp; omega) | ((try unfold digitB); simp)), rfl⟩

end Go.Proofs.Yteepoohcdmjmhaa
