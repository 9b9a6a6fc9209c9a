/- granuleref04.Print: the document's text of an instruction. -/
import Derived.Test.YtlhkjjfdmglabaaAsmPrint
namespace Go.Proofs.Ytlhkjjfdmglabaa
open Go.RowKit
set_option linter.unusedVariables false
set_option linter.unusedSimpArgs false
set_option maxRecDepth 100000 in
theorem rname_1 (w : World) : Calls Try.prog 24 #[.int .i64 1] w fun e w' => e = .returned (.string { data := #[78, 79, 80] }) ∧ Below w.heap.size w w' := by
  go_enter Try.func24, Try.ntmps24
  go_wp2
  go_ret
  exact ⟨rfl, below_alloc (Below.refl _ _) _⟩
set_option maxRecDepth 100000 in
theorem rname_2 (w : World) : Calls Try.prog 24 #[.int .i64 2] w fun e w' => e = .returned (.string { data := #[76, 68, 82] }) ∧ Below w.heap.size w w' := by
  go_enter Try.func24, Try.ntmps24
  go_wp2
  go_ret
  exact ⟨rfl, below_alloc (Below.refl _ _) _⟩
set_option maxRecDepth 100000 in
theorem rname_3 (w : World) : Calls Try.prog 24 #[.int .i64 3] w fun e w' => e = .returned (.string { data := #[83, 84, 82] }) ∧ Below w.heap.size w w' := by
  go_enter Try.func24, Try.ntmps24
  go_wp2
  go_ret
  exact ⟨rfl, below_alloc (Below.refl _ _) _⟩
set_option maxRecDepth 100000 in
theorem rname_4 (w : World) : Calls Try.prog 24 #[.int .i64 4] w fun e w' => e = .returned (.string { data := #[76, 68, 65, 82] }) ∧ Below w.heap.size w w' := by
  go_enter Try.func24, Try.ntmps24
  go_wp2
  go_ret
  exact ⟨rfl, below_alloc (Below.refl _ _) _⟩
set_option maxRecDepth 100000 in
theorem rname_5 (w : World) : Calls Try.prog 24 #[.int .i64 5] w fun e w' => e = .returned (.string { data := #[83, 84, 76, 82] }) ∧ Below w.heap.size w w' := by
  go_enter Try.func24, Try.ntmps24
  go_wp2
  go_ret
  exact ⟨rfl, below_alloc (Below.refl _ _) _⟩
set_option maxRecDepth 100000 in
theorem rname_6 (w : World) : Calls Try.prog 24 #[.int .i64 6] w fun e w' => e = .returned (.string { data := #[] }) ∧ Below w.heap.size w w' := by
  go_enter Try.func24, Try.ntmps24
  go_wp2
  go_ret
  exact ⟨rfl, below_alloc (Below.refl _ _) _⟩
set_option maxRecDepth 100000 in
theorem rname_7 (w : World) : Calls Try.prog 24 #[.int .i64 7] w fun e w' => e = .returned (.string { data := #[65, 68, 68] }) ∧ Below w.heap.size w w' := by
  go_enter Try.func24, Try.ntmps24
  go_wp2
  go_ret
  exact ⟨rfl, below_alloc (Below.refl _ _) _⟩
set_option maxRecDepth 100000 in
theorem rname_8 (w : World) : Calls Try.prog 24 #[.int .i64 8] w fun e w' => e = .returned (.string { data := #[65, 68, 68] }) ∧ Below w.heap.size w w' := by
  go_enter Try.func24, Try.ntmps24
  go_wp2
  go_ret
  exact ⟨rfl, below_alloc (Below.refl _ _) _⟩
set_option maxRecDepth 100000 in
theorem rname_9 (w : World) : Calls Try.prog 24 #[.int .i64 9] w fun e w' => e = .returned (.string { data := #[83, 85, 66] }) ∧ Below w.heap.size w w' := by
  go_enter Try.func24, Try.ntmps24
  go_wp2
  go_ret
  exact ⟨rfl, below_alloc (Below.refl _ _) _⟩
set_option maxRecDepth 100000 in
theorem rname_10 (w : World) : Calls Try.prog 24 #[.int .i64 10] w fun e w' => e = .returned (.string { data := #[65, 78, 68] }) ∧ Below w.heap.size w w' := by
  go_enter Try.func24, Try.ntmps24
  go_wp2
  go_ret
  exact ⟨rfl, below_alloc (Below.refl _ _) _⟩
set_option maxRecDepth 100000 in
theorem rname_11 (w : World) : Calls Try.prog 24 #[.int .i64 11] w fun e w' => e = .returned (.string { data := #[79, 82, 82] }) ∧ Below w.heap.size w w' := by
  go_enter Try.func24, Try.ntmps24
  go_wp2
  go_ret
  exact ⟨rfl, below_alloc (Below.refl _ _) _⟩
set_option maxRecDepth 100000 in
theorem rname_12 (w : World) : Calls Try.prog 24 #[.int .i64 12] w fun e w' => e = .returned (.string { data := #[69, 79, 82] }) ∧ Below w.heap.size w w' := by
  go_enter Try.func24, Try.ntmps24
  go_wp2
  go_ret
  exact ⟨rfl, below_alloc (Below.refl _ _) _⟩
set_option maxRecDepth 100000 in
theorem rname_13 (w : World) : Calls Try.prog 24 #[.int .i64 13] w fun e w' => e = .returned (.string { data := #[83, 85, 66, 83] }) ∧ Below w.heap.size w w' := by
  go_enter Try.func24, Try.ntmps24
  go_wp2
  go_ret
  exact ⟨rfl, below_alloc (Below.refl _ _) _⟩
set_option maxRecDepth 100000 in
theorem rname_14 (w : World) : Calls Try.prog 24 #[.int .i64 14] w fun e w' => e = .returned (.string { data := #[66] }) ∧ Below w.heap.size w w' := by
  go_enter Try.func24, Try.ntmps24
  go_wp2
  go_ret
  exact ⟨rfl, below_alloc (Below.refl _ _) _⟩
set_option maxRecDepth 100000 in
theorem rname_15 (w : World) : Calls Try.prog 24 #[.int .i64 15] w fun e w' => e = .returned (.string { data := #[67, 66, 90] }) ∧ Below w.heap.size w w' := by
  go_enter Try.func24, Try.ntmps24
  go_wp2
  go_ret
  exact ⟨rfl, below_alloc (Below.refl _ _) _⟩
set_option maxRecDepth 100000 in
theorem rname_16 (w : World) : Calls Try.prog 24 #[.int .i64 16] w fun e w' => e = .returned (.string { data := #[67, 66, 78, 90] }) ∧ Below w.heap.size w w' := by
  go_enter Try.func24, Try.ntmps24
  go_wp2
  go_ret
  exact ⟨rfl, below_alloc (Below.refl _ _) _⟩
set_option maxRecDepth 100000 in
theorem rname_17 (w : World) : Calls Try.prog 24 #[.int .i64 17] w fun e w' => e = .returned (.string { data := #[] }) ∧ Below w.heap.size w w' := by
  go_enter Try.func24, Try.ntmps24
  go_wp2
  go_ret
  exact ⟨rfl, below_alloc (Below.refl _ _) _⟩
set_option maxRecDepth 100000 in
theorem rname_18 (w : World) : Calls Try.prog 24 #[.int .i64 18] w fun e w' => e = .returned (.string { data := #[68, 77, 66] }) ∧ Below w.heap.size w w' := by
  go_enter Try.func24, Try.ntmps24
  go_wp2
  go_ret
  exact ⟨rfl, below_alloc (Below.refl _ _) _⟩
set_option maxRecDepth 100000 in
theorem rname_19 (w : World) : Calls Try.prog 24 #[.int .i64 19] w fun e w' => e = .returned (.string { data := #[68, 83, 66] }) ∧ Below w.heap.size w w' := by
  go_enter Try.func24, Try.ntmps24
  go_wp2
  go_ret
  exact ⟨rfl, below_alloc (Below.refl _ _) _⟩
set_option maxRecDepth 100000 in
theorem rname_20 (w : World) : Calls Try.prog 24 #[.int .i64 20] w fun e w' => e = .returned (.string { data := #[73, 83, 66] }) ∧ Below w.heap.size w w' := by
  go_enter Try.func24, Try.ntmps24
  go_wp2
  go_ret
  exact ⟨rfl, below_alloc (Below.refl _ _) _⟩
set_option maxRecDepth 100000 in
theorem rname_21 (w : World) : Calls Try.prog 24 #[.int .i64 21] w fun e w' => e = .returned (.string { data := #[84, 76, 66, 73] }) ∧ Below w.heap.size w w' := by
  go_enter Try.func24, Try.ntmps24
  go_wp2
  go_ret
  exact ⟨rfl, below_alloc (Below.refl _ _) _⟩
set_option maxRecDepth 100000 in
theorem rname_22 (w : World) : Calls Try.prog 24 #[.int .i64 22] w fun e w' => e = .returned (.string { data := #[69, 82, 69, 84] }) ∧ Below w.heap.size w w' := by
  go_enter Try.func24, Try.ntmps24
  go_wp2
  go_ret
  exact ⟨rfl, below_alloc (Below.refl _ _) _⟩
set_option maxRecDepth 100000 in
theorem rname_23 (w : World) : Calls Try.prog 24 #[.int .i64 23] w fun e w' => e = .returned (.string { data := #[77, 82, 83] }) ∧ Below w.heap.size w w' := by
  go_enter Try.func24, Try.ntmps24
  go_wp2
  go_ret
  exact ⟨rfl, below_alloc (Below.refl _ _) _⟩
set_option maxRecDepth 100000 in
theorem rbar_15 (w : World) : Calls Try.prog 25 #[.int .i64 15] w fun e w' => e = .returned (.string { data := #[83, 89] }) ∧ Below w.heap.size w w' := by
  go_enter Try.func25, Try.ntmps25
  go_wp2
  go_ret
  exact ⟨rfl, below_alloc (Below.refl _ _) _⟩
set_option maxRecDepth 100000 in
theorem rbar_13 (w : World) : Calls Try.prog 25 #[.int .i64 13] w fun e w' => e = .returned (.string { data := #[76, 68] }) ∧ Below w.heap.size w w' := by
  go_enter Try.func25, Try.ntmps25
  go_wp2
  go_ret
  exact ⟨rfl, below_alloc (Below.refl _ _) _⟩
set_option maxRecDepth 100000 in
theorem rbar_14 (w : World) : Calls Try.prog 25 #[.int .i64 14] w fun e w' => e = .returned (.string { data := #[83, 84] }) ∧ Below w.heap.size w w' := by
  go_enter Try.func25, Try.ntmps25
  go_wp2
  go_ret
  exact ⟨rfl, below_alloc (Below.refl _ _) _⟩
set_option maxRecDepth 100000 in
theorem rbar_11 (w : World) : Calls Try.prog 25 #[.int .i64 11] w fun e w' => e = .returned (.string { data := #[73, 83, 72] }) ∧ Below w.heap.size w w' := by
  go_enter Try.func25, Try.ntmps25
  go_wp2
  go_ret
  exact ⟨rfl, below_alloc (Below.refl _ _) _⟩
set_option maxRecDepth 100000 in
theorem rbar_9 (w : World) : Calls Try.prog 25 #[.int .i64 9] w fun e w' => e = .returned (.string { data := #[73, 83, 72, 76, 68] }) ∧ Below w.heap.size w w' := by
  go_enter Try.func25, Try.ntmps25
  go_wp2
  go_ret
  exact ⟨rfl, below_alloc (Below.refl _ _) _⟩
set_option maxRecDepth 100000 in
theorem rbar_10 (w : World) : Calls Try.prog 25 #[.int .i64 10] w fun e w' => e = .returned (.string { data := #[73, 83, 72, 83, 84] }) ∧ Below w.heap.size w w' := by
  go_enter Try.func25, Try.ntmps25
  go_wp2
  go_ret
  exact ⟨rfl, below_alloc (Below.refl _ _) _⟩
set_option maxRecDepth 100000 in
theorem rflush_0 (w : World) : Calls Try.prog 26 #[.int .i64 0] w fun e w' => e = .returned (.string { data := #[86, 77, 65, 76, 76, 69, 49, 73, 83] }) ∧ Below w.heap.size w w' := by
  go_enter Try.func26, Try.ntmps26
  go_wp2
  go_ret
  exact ⟨rfl, below_alloc (Below.refl _ _) _⟩
set_option maxRecDepth 100000 in
theorem rflush_1 (w : World) : Calls Try.prog 26 #[.int .i64 1] w fun e w' => e = .returned (.string { data := #[86, 65, 69, 49, 73, 83] }) ∧ Below w.heap.size w w' := by
  go_enter Try.func26, Try.ntmps26
  go_wp2
  go_ret
  exact ⟨rfl, below_alloc (Below.refl _ _) _⟩
set_option maxRecDepth 100000 in
theorem rflush_2 (w : World) : Calls Try.prog 26 #[.int .i64 2] w fun e w' => e = .returned (.string { data := #[86, 65, 65, 69, 49, 73, 83] }) ∧ Below w.heap.size w w' := by
  go_enter Try.func26, Try.ntmps26
  go_wp2
  go_ret
  exact ⟨rfl, below_alloc (Below.refl _ _) _⟩
set_option maxRecDepth 100000 in
theorem rflush_3 (w : World) : Calls Try.prog 26 #[.int .i64 3] w fun e w' => e = .returned (.string { data := #[65, 83, 73, 68, 69, 49, 73, 83] }) ∧ Below w.heap.size w w' := by
  go_enter Try.func26, Try.ntmps26
  go_wp2
  go_ret
  exact ⟨rfl, below_alloc (Below.refl _ _) _⟩
set_option maxRecDepth 100000 in
theorem rflush_4 (w : World) : Calls Try.prog 26 #[.int .i64 4] w fun e w' => e = .returned (.string { data := #[86, 77, 65, 76, 76, 69, 49] }) ∧ Below w.heap.size w w' := by
  go_enter Try.func26, Try.ntmps26
  go_wp2
  go_ret
  exact ⟨rfl, below_alloc (Below.refl _ _) _⟩
set_option maxRecDepth 100000 in
theorem rflush_5 (w : World) : Calls Try.prog 26 #[.int .i64 5] w fun e w' => e = .returned (.string { data := #[86, 65, 69, 49] }) ∧ Below w.heap.size w w' := by
  go_enter Try.func26, Try.ntmps26
  go_wp2
  go_ret
  exact ⟨rfl, below_alloc (Below.refl _ _) _⟩
set_option maxRecDepth 100000 in
theorem rflush_6 (w : World) : Calls Try.prog 26 #[.int .i64 6] w fun e w' => e = .returned (.string { data := #[86, 65, 65, 69, 49] }) ∧ Below w.heap.size w w' := by
  go_enter Try.func26, Try.ntmps26
  go_wp2
  go_ret
  exact ⟨rfl, below_alloc (Below.refl _ _) _⟩
set_option maxRecDepth 100000 in
theorem rflush_7 (w : World) : Calls Try.prog 26 #[.int .i64 7] w fun e w' => e = .returned (.string { data := #[65, 83, 73, 68, 69, 49] }) ∧ Below w.heap.size w w' := by
  go_enter Try.func26, Try.ntmps26
  go_wp2
  go_ret
  exact ⟨rfl, below_alloc (Below.refl _ _) _⟩
end Go.Proofs.Ytlhkjjfdmglabaa
