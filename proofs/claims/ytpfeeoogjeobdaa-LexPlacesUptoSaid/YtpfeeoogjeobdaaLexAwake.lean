/- awake of layer 10. -/
import Derived.Test.YtpfeeoogjeobdaaLexTokens
import Derived.Test.YtpfeeoogjeobdaaLexSame
import Derived.Test.YtpfeeoogjeobdaaLexRows
import Derived.Test.YtpfeeoogjeobdaaBlk
namespace Go.Proofs.Ytpfeeoogjeobdaa
open Go.RowKit
set_option linter.unusedVariables false

def AWT : ByteArray := ⟨#[114, 101, 103, 32, 88, 49, 32, 61, 32, 48, 120, 49, 48, 32, 47, 47, 32, 115, 111]⟩
def AWL : ByteArray := ⟨#[114, 101, 103, 32, 88, 49, 32, 61, 32, 48, 120, 49, 48]⟩
theorem AWT_cut : AWT.extract 0 13 = AWL := by decide +kernel
theorem rows_aw : rowsF AWT 0 [] = [(0, 13)] := by kernel_rfl
theorem toks_aw : toksF AWL 0 [] = ([(1, 0, 3), (1, 4, 6), (3, 7, 8), (2, 9, 13), (4, 13, 13)], 0, 13) := by kernel_rfl

set_option maxHeartbeats 1600000 in
theorem awake_any (w : World) :
    Calls Try.prog 7 #[] w fun e w' => e = .returned (.bool true) ∧ Below w.heap.size w w' := by
  go_enter Try.func7, Try.ntmps7
  go_wp2_with fail
  refine (rows_any AWT _ (by decide) (by decide)).mono ?_
  rintro e w1 ⟨v, rfl, ho, hb⟩
  rw [rows_aw] at ho
  obtain ⟨p, c, rfl, hr, hc⟩ := Rds.of_own ho
  obtain ⟨g, off, rfl, hcs⟩ := hr.2 (by decide)
  have c0 : w1.cell? ⟨g, off, none⟩ = some (.string AWL) := (hcs 0 (by decide)).trans (by rw [← AWT_cut]; rfl)
  have c1 : w1.cell? ⟨g, off + 1, none⟩ = some (.int .i64 0) := (hcs 1 (by decide)).trans (by rfl)
  have hc1 : (1 : Nat) ≤ c := hc
  have HB := Lib.hid hb
  clear ho hr hcs hb hc
  go_wp2_with fail
  refine (tokens_any AWL 0 _ (by decide) (by decide)).mono ?_
  rintro e w2 ⟨v, rfl, ho, hb⟩
  unfold toksAt
  rw [toks_aw] at ho ⊢
  obtain ⟨p, c2, rfl, hr, hc⟩ := Rds.of_own ho
  obtain ⟨g2, off2, rfl, hcs⟩ := hr.2 (by decide)
  have d3 : w2.cell? ⟨g2, off2 + 9, none⟩ = some (.int .i64 2) := (hcs 9 (by decide)).trans (by rfl)
  have d4 : w2.cell? ⟨g2, off2 + 12, none⟩ = some (.int .i64 4) := (hcs 12 (by decide)).trans (by rfl)
  have hc2 : (5 : Nat) ≤ c2 := hc
  have HB2 := Lib.hid (below_trans HB.out hb)
  clear ho hr hcs hb hc
  have d3a := fun o => cell_alloc d3 o
  have d4a := fun o => cell_alloc d4 o
  go_wp2_with fail
  go_ret
  exact ⟨rfl, below_alloc HB2.out _⟩
end Go.Proofs.Ytpfeeoogjeobdaa
