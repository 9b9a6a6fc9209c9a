/- The examples of layer 2 are answered as the page says. -/
import Derived.Test.YtdkjokffeeiilaaFieldWalk
import Derived.Test.YtdkjokffeeiilaaParseWalk
namespace Go.Proofs.Ytdkjokffeeiilaa
open Go.RowKit

theorem awake_any (w : World) :
    Calls Try.prog 11 #[] w fun e w' => e = .returned (.bool true) ∧ ∃ m, w' = w.drewN m := by
  have e1 : parseL [48, 120, 49, 70] = (31, 0) := by decide
  have e2 : getN 43981 11 4 = 188 := by decide
  have e3 : signedZ 255 8 = -1 := by decide
  go_enter Try.func11, Try.ntmps11
  go_wp2_with (first | (go_at_call 12; refine (parse_any _ _ (by decide)).mono ?_; rintro e w' ⟨rfl, m, rfl⟩) | (go_at_call 14; refine (get_any _ _ _ _ (by decide)).mono ?_; rintro e w' ⟨rfl, m, rfl⟩) | (go_at_call 17; refine (signed_any _ _ _ (by decide)).mono ?_; rintro e w' ⟨rfl, m, rfl⟩))
  all_goals
  go_ret
  exact ⟨rfl, _, by rfl⟩

end Go.Proofs.Ytdkjokffeeiilaa
