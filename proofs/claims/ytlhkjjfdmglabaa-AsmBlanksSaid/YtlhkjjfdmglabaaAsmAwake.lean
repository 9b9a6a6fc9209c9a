/- The page's examples of layer 4. -/
import Derived.Test.YtlhkjjfdmglabaaAsmParse
import Derived.Test.YtlhkjjfdmglabaaAsmPrint
namespace Go.Proofs.Ytlhkjjfdmglabaa
open Go.RowKit
set_option linter.unusedVariables false
set_option linter.unusedSimpArgs false

theorem awp1 (w : World) : Calls Try.prog 12 #[.string { data := #[32, 77, 79, 86, 32, 88, 48, 32, 44, 32, 35, 48, 120, 49, 48, 32] }] w fun e w' => e = .returned (.tuple #[.agg #[.int .i64 6, .int .i64 0, .int .i64 0, .int .i64 0, .int .i64 16, .int .i64 0], .int .i64 0]) ∧ Below w.heap.size w w' := by
  have h := aparse_any { data := #[32, 77, 79, 86, 32, 88, 48, 32, 44, 32, 35, 48, 120, 49, 48, 32] } w (by decide)
  rw [show parseA ({ data := #[32, 77, 79, 86, 32, 88, 48, 32, 44, 32, 35, 48, 120, 49, 48, 32] } : ByteArray).data.toList = (⟨6, 0, 0, 0, 16, 0⟩, 0) from parseA_one] at h
  exact h
theorem awp2 (w : World) : Calls Try.prog 12 #[.string { data := #[108, 100, 114, 32, 88, 49] }] w fun e w' => e = .returned (.tuple #[.agg #[.int .i64 0, .int .i64 0, .int .i64 0, .int .i64 0, .int .i64 0, .int .i64 0], .int .i64 40]) ∧ Below w.heap.size w w' := by
  have h := aparse_any { data := #[108, 100, 114, 32, 88, 49] } w (by decide)
  rw [show parseA ({ data := #[108, 100, 114, 32, 88, 49] } : ByteArray).data.toList = (Ins.none, 40) from parseA_two] at h
  exact h
theorem awp3 (w : World) : Calls Try.prog 9 #[.agg #[.int .i64 2, .int .i64 1, .int .i64 2, .int .i64 0, .int .i64 8, .int .i64 0]] w fun e w' => e = .returned (.string { data := #[76, 68, 82, 32, 88, 49, 44, 91, 88, 50, 44, 35, 56, 93] }) ∧ Below w.heap.size w w' := by
  have h := aprint_any 2 1 2 0 8 0 w (by decide)
  rw [show printA 2 1 2 0 8 0 = [76, 68, 82, 32, 88, 49, 44, 91, 88, 50, 44, 35, 56, 93] by kernel_rfl] at h
  exact h
set_option maxRecDepth 100000 in
set_option maxHeartbeats 1600000 in
theorem awake_any (w : World) : Calls Try.prog 8 #[] w fun e w' => e = .returned (.bool true) ∧ Below w.heap.size w w' := by
  go_enter Try.func8, Try.ntmps8
  go_wp2_with fail
  refine (awp1 _).mono ?_
  rintro e w2 ⟨rfl, hb⟩
  have HB := Lib.hid (below_alloc hb (.cells #[.int .i64 6, .int .i64 0, .int .i64 0, .int .i64 0, .int .i64 16, .int .i64 0] 23))
  have HA := Lib.hid (own_instr w2 6 0 0 0 16 0)
  clear hb
  go_wp2_with fail
  refine (awp2 _).mono ?_
  rintro e w3 ⟨rfl, hb⟩
  have HA3 := Lib.hid (HA.out.below hb)
  have HB3 := Lib.hid (below_alloc (below_trans HB.out hb) (.cells #[.int .i64 0, .int .i64 0, .int .i64 0, .int .i64 0, .int .i64 0, .int .i64 0] 23))
  obtain ⟨a0, a1, a2, a3, a4, a5⟩ := blk_instr HA3.out
  have hl := HA3.out.lt
  clear hb HA HB
  go_wp2_with fail
  refine (awp3 _).mono ?_
  rintro e w4 ⟨rfl, hb⟩
  have HB4 := Lib.hid (below_trans HB3.out hb)
  clear hb
  go_wp2_with fail
  go_ret
  exact ⟨rfl, HB4.out⟩
end Go.Proofs.Ytlhkjjfdmglabaa
