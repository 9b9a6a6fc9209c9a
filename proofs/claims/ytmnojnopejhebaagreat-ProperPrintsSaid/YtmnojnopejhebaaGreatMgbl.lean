/- granuleref04.Print: the document's text of an instruction. -/
import Derived.Test.YtmnojnopejhebaaGreatMgbf
import Derived.Test.YtmnojnopejhebaaGreatMgbj
import Derived.Test.YtmnojnopejhebaaGreatMgbk
namespace Go.Proofs.YtmnojnopejhebaaGreat
set_option linter.unusedVariables false
set_option linter.unusedSimpArgs false
set_option maxRecDepth 100000
set_option maxHeartbeats 25600000
section
open Go.RowKit
theorem m1p (w : World) : Calls Tryz.prog 66 #[.int .i64 1] w fun e w' => e = .returned (.string { data := #[78, 79, 80] }) ∧ Below w.heap.size w w' := by
 go_enter Tryz.func66, Tryz.ntmps66
 go_wp2
 go_ret
 exact ⟨rfl, bl_ (Below.refl _ _) _⟩
theorem m1o (w : World) : Calls Tryz.prog 66 #[.int .i64 2] w fun e w' => e = .returned (.string { data := #[76, 68, 82] }) ∧ Below w.heap.size w w' := by
 go_enter Tryz.func66, Tryz.ntmps66
 go_wp2
 go_ret
 exact ⟨rfl, bl_ (Below.refl _ _) _⟩
theorem m1n (w : World) : Calls Tryz.prog 66 #[.int .i64 3] w fun e w' => e = .returned (.string { data := #[83, 84, 82] }) ∧ Below w.heap.size w w' := by
 go_enter Tryz.func66, Tryz.ntmps66
 go_wp2
 go_ret
 exact ⟨rfl, bl_ (Below.refl _ _) _⟩
theorem m1m (w : World) : Calls Tryz.prog 66 #[.int .i64 4] w fun e w' => e = .returned (.string { data := #[76, 68, 65, 82] }) ∧ Below w.heap.size w w' := by
 go_enter Tryz.func66, Tryz.ntmps66
 go_wp2
 go_ret
 exact ⟨rfl, bl_ (Below.refl _ _) _⟩
theorem m1l (w : World) : Calls Tryz.prog 66 #[.int .i64 5] w fun e w' => e = .returned (.string { data := #[83, 84, 76, 82] }) ∧ Below w.heap.size w w' := by
 go_enter Tryz.func66, Tryz.ntmps66
 go_wp2
 go_ret
 exact ⟨rfl, bl_ (Below.refl _ _) _⟩
theorem m1k (w : World) : Calls Tryz.prog 66 #[.int .i64 6] w fun e w' => e = .returned (.string { data := #[] }) ∧ Below w.heap.size w w' := by
 go_enter Tryz.func66, Tryz.ntmps66
 go_wp2
 go_ret
 exact ⟨rfl, bl_ (Below.refl _ _) _⟩
theorem m1j (w : World) : Calls Tryz.prog 66 #[.int .i64 7] w fun e w' => e = .returned (.string { data := #[65, 68, 68] }) ∧ Below w.heap.size w w' := by
 go_enter Tryz.func66, Tryz.ntmps66
 go_wp2
 go_ret
 exact ⟨rfl, bl_ (Below.refl _ _) _⟩
theorem m1i (w : World) : Calls Tryz.prog 66 #[.int .i64 8] w fun e w' => e = .returned (.string { data := #[65, 68, 68] }) ∧ Below w.heap.size w w' := by
 go_enter Tryz.func66, Tryz.ntmps66
 go_wp2
 go_ret
 exact ⟨rfl, bl_ (Below.refl _ _) _⟩
theorem m1h (w : World) : Calls Tryz.prog 66 #[.int .i64 9] w fun e w' => e = .returned (.string { data := #[83, 85, 66] }) ∧ Below w.heap.size w w' := by
 go_enter Tryz.func66, Tryz.ntmps66
 go_wp2
 go_ret
 exact ⟨rfl, bl_ (Below.refl _ _) _⟩
theorem g1n (w : World) : Calls Tryz.prog 66 #[.int .i64 10] w fun e w' => e = .returned (.string { data := #[65, 78, 68] }) ∧ Below w.heap.size w w' := by
 go_enter Tryz.func66, Tryz.ntmps66
 go_wp2
 go_ret
 exact ⟨rfl, bl_ (Below.refl _ _) _⟩
theorem g1m (w : World) : Calls Tryz.prog 66 #[.int .i64 11] w fun e w' => e = .returned (.string { data := #[79, 82, 82] }) ∧ Below w.heap.size w w' := by
 go_enter Tryz.func66, Tryz.ntmps66
 go_wp2
 go_ret
 exact ⟨rfl, bl_ (Below.refl _ _) _⟩
theorem g1l (w : World) : Calls Tryz.prog 66 #[.int .i64 12] w fun e w' => e = .returned (.string { data := #[69, 79, 82] }) ∧ Below w.heap.size w w' := by
 go_enter Tryz.func66, Tryz.ntmps66
 go_wp2
 go_ret
 exact ⟨rfl, bl_ (Below.refl _ _) _⟩
theorem g1j (w : World) : Calls Tryz.prog 66 #[.int .i64 13] w fun e w' => e = .returned (.string { data := #[83, 85, 66, 83] }) ∧ Below w.heap.size w w' := by
 go_enter Tryz.func66, Tryz.ntmps66
 go_wp2
 go_ret
 exact ⟨rfl, bl_ (Below.refl _ _) _⟩
theorem g1i (w : World) : Calls Tryz.prog 66 #[.int .i64 14] w fun e w' => e = .returned (.string { data := #[66] }) ∧ Below w.heap.size w w' := by
 go_enter Tryz.func66, Tryz.ntmps66
 go_wp2
 go_ret
 exact ⟨rfl, bl_ (Below.refl _ _) _⟩
theorem g1h (w : World) : Calls Tryz.prog 66 #[.int .i64 15] w fun e w' => e = .returned (.string { data := #[67, 66, 90] }) ∧ Below w.heap.size w w' := by
 go_enter Tryz.func66, Tryz.ntmps66
 go_wp2
 go_ret
 exact ⟨rfl, bl_ (Below.refl _ _) _⟩
theorem g1g (w : World) : Calls Tryz.prog 66 #[.int .i64 16] w fun e w' => e = .returned (.string { data := #[67, 66, 78, 90] }) ∧ Below w.heap.size w w' := by
 go_enter Tryz.func66, Tryz.ntmps66
 go_wp2
 go_ret
 exact ⟨rfl, bl_ (Below.refl _ _) _⟩
theorem g1f (w : World) : Calls Tryz.prog 66 #[.int .i64 17] w fun e w' => e = .returned (.string { data := #[] }) ∧ Below w.heap.size w w' := by
 go_enter Tryz.func66, Tryz.ntmps66
 go_wp2
 go_ret
 exact ⟨rfl, bl_ (Below.refl _ _) _⟩
theorem g1e (w : World) : Calls Tryz.prog 66 #[.int .i64 18] w fun e w' => e = .returned (.string { data := #[68, 77, 66] }) ∧ Below w.heap.size w w' := by
 go_enter Tryz.func66, Tryz.ntmps66
 go_wp2
 go_ret
 exact ⟨rfl, bl_ (Below.refl _ _) _⟩
theorem g1d (w : World) : Calls Tryz.prog 66 #[.int .i64 19] w fun e w' => e = .returned (.string { data := #[68, 83, 66] }) ∧ Below w.heap.size w w' := by
 go_enter Tryz.func66, Tryz.ntmps66
 go_wp2
 go_ret
 exact ⟨rfl, bl_ (Below.refl _ _) _⟩
theorem g1c (w : World) : Calls Tryz.prog 66 #[.int .i64 20] w fun e w' => e = .returned (.string { data := #[73, 83, 66] }) ∧ Below w.heap.size w w' := by
 go_enter Tryz.func66, Tryz.ntmps66
 go_wp2
 go_ret
 exact ⟨rfl, bl_ (Below.refl _ _) _⟩
theorem g1b (w : World) : Calls Tryz.prog 66 #[.int .i64 21] w fun e w' => e = .returned (.string { data := #[84, 76, 66, 73] }) ∧ Below w.heap.size w w' := by
 go_enter Tryz.func66, Tryz.ntmps66
 go_wp2
 go_ret
 exact ⟨rfl, bl_ (Below.refl _ _) _⟩
theorem g1a (w : World) : Calls Tryz.prog 66 #[.int .i64 22] w fun e w' => e = .returned (.string { data := #[69, 82, 69, 84] }) ∧ Below w.heap.size w w' := by
 go_enter Tryz.func66, Tryz.ntmps66
 go_wp2
 go_ret
 exact ⟨rfl, bl_ (Below.refl _ _) _⟩
theorem f1z (w : World) : Calls Tryz.prog 66 #[.int .i64 23] w fun e w' => e = .returned (.string { data := #[77, 82, 83] }) ∧ Below w.heap.size w w' := by
 go_enter Tryz.func66, Tryz.ntmps66
 go_wp2
 go_ret
 exact ⟨rfl, bl_ (Below.refl _ _) _⟩
theorem c1v (w : World) : Calls Tryz.prog 67 #[.int .i64 15] w fun e w' => e = .returned (.string { data := #[83, 89] }) ∧ Below w.heap.size w w' := by
 go_enter Tryz.func67, Tryz.ntmps67
 go_wp2
 go_ret
 exact ⟨rfl, bl_ (Below.refl _ _) _⟩
theorem c1x (w : World) : Calls Tryz.prog 67 #[.int .i64 13] w fun e w' => e = .returned (.string { data := #[76, 68] }) ∧ Below w.heap.size w w' := by
 go_enter Tryz.func67, Tryz.ntmps67
 go_wp2
 go_ret
 exact ⟨rfl, bl_ (Below.refl _ _) _⟩
theorem c1w (w : World) : Calls Tryz.prog 67 #[.int .i64 14] w fun e w' => e = .returned (.string { data := #[83, 84] }) ∧ Below w.heap.size w w' := by
 go_enter Tryz.func67, Tryz.ntmps67
 go_wp2
 go_ret
 exact ⟨rfl, bl_ (Below.refl _ _) _⟩
theorem c1y (w : World) : Calls Tryz.prog 67 #[.int .i64 11] w fun e w' => e = .returned (.string { data := #[73, 83, 72] }) ∧ Below w.heap.size w w' := by
 go_enter Tryz.func67, Tryz.ntmps67
 go_wp2
 go_ret
 exact ⟨rfl, bl_ (Below.refl _ _) _⟩
theorem l1d (w : World) : Calls Tryz.prog 67 #[.int .i64 9] w fun e w' => e = .returned (.string { data := #[73, 83, 72, 76, 68] }) ∧ Below w.heap.size w w' := by
 go_enter Tryz.func67, Tryz.ntmps67
 go_wp2
 go_ret
 exact ⟨rfl, bl_ (Below.refl _ _) _⟩
theorem c1z (w : World) : Calls Tryz.prog 67 #[.int .i64 10] w fun e w' => e = .returned (.string { data := #[73, 83, 72, 83, 84] }) ∧ Below w.heap.size w w' := by
 go_enter Tryz.func67, Tryz.ntmps67
 go_wp2
 go_ret
 exact ⟨rfl, bl_ (Below.refl _ _) _⟩
theorem h1m (w : World) : Calls Tryz.prog 68 #[.int .i64 0] w fun e w' => e = .returned (.string { data := #[86, 77, 65, 76, 76, 69, 49, 73, 83] }) ∧ Below w.heap.size w w' := by
 go_enter Tryz.func68, Tryz.ntmps68
 go_wp2
 go_ret
 exact ⟨rfl, bl_ (Below.refl _ _) _⟩
theorem h1l (w : World) : Calls Tryz.prog 68 #[.int .i64 1] w fun e w' => e = .returned (.string { data := #[86, 65, 69, 49, 73, 83] }) ∧ Below w.heap.size w w' := by
 go_enter Tryz.func68, Tryz.ntmps68
 go_wp2
 go_ret
 exact ⟨rfl, bl_ (Below.refl _ _) _⟩
theorem h1k (w : World) : Calls Tryz.prog 68 #[.int .i64 2] w fun e w' => e = .returned (.string { data := #[86, 65, 65, 69, 49, 73, 83] }) ∧ Below w.heap.size w w' := by
 go_enter Tryz.func68, Tryz.ntmps68
 go_wp2
 go_ret
 exact ⟨rfl, bl_ (Below.refl _ _) _⟩
theorem h1j (w : World) : Calls Tryz.prog 68 #[.int .i64 3] w fun e w' => e = .returned (.string { data := #[65, 83, 73, 68, 69, 49, 73, 83] }) ∧ Below w.heap.size w w' := by
 go_enter Tryz.func68, Tryz.ntmps68
 go_wp2
 go_ret
 exact ⟨rfl, bl_ (Below.refl _ _) _⟩
theorem h1h (w : World) : Calls Tryz.prog 68 #[.int .i64 4] w fun e w' => e = .returned (.string { data := #[86, 77, 65, 76, 76, 69, 49] }) ∧ Below w.heap.size w w' := by
 go_enter Tryz.func68, Tryz.ntmps68
 go_wp2
 go_ret
 exact ⟨rfl, bl_ (Below.refl _ _) _⟩
theorem h1g (w : World) : Calls Tryz.prog 68 #[.int .i64 5] w fun e w' => e = .returned (.string { data := #[86, 65, 69, 49] }) ∧ Below w.heap.size w w' := by
 go_enter Tryz.func68, Tryz.ntmps68
 go_wp2
 go_ret
 exact ⟨rfl, bl_ (Below.refl _ _) _⟩
theorem h1f (w : World) : Calls Tryz.prog 68 #[.int .i64 6] w fun e w' => e = .returned (.string { data := #[86, 65, 65, 69, 49] }) ∧ Below w.heap.size w w' := by
 go_enter Tryz.func68, Tryz.ntmps68
 go_wp2
 go_ret
 exact ⟨rfl, bl_ (Below.refl _ _) _⟩
theorem h1e (w : World) : Calls Tryz.prog 68 #[.int .i64 7] w fun e w' => e = .returned (.string { data := #[65, 83, 73, 68, 69, 49] }) ∧ Below w.heap.size w w' := by
 go_enter Tryz.func68, Tryz.ntmps68
 go_wp2
 go_ret
 exact ⟨rfl, bl_ (Below.refl _ _) _⟩
end
end Go.Proofs.YtmnojnopejhebaaGreat
