/- granuleref03.Right, exactly. -/
import Derived.Test.YtmnojnopejhebaaGreatMgag
import Derived.Test.YtmnojnopejhebaaGreatRows
namespace Go.Proofs.YtmnojnopejhebaaGreat
set_option linter.unusedVariables false
set_option linter.unusedSimpArgs false
set_option maxRecDepth 100000
set_option maxHeartbeats 25600000
section
open Go.RowKit
theorem d0a (n a b : Int) (w : World) :
  Calls Tryz.prog 110 #[.int .i64 n, .int .i64 a, .int .i64 b] w fun e w' => e = .returned (.bool (inB n a b)) ∧ w = w' := by
 have H : Hid (inB n a b = decide (a ≤ n ∧ n ≤ b)) := rfl
 by_cases h1 : a ≤ n <;> by_cases h2 : n ≤ b <;> (
  go_enter Tryz.func110, Tryz.ntmps110
  go_wp2
  go_ret
  refine ⟨a0l ?_, rfl⟩
  rw [H.out]
  simp [h1, h2])
theorem n1d (w : World) : Calls Tryz.prog 109 #[.int .i64 1] w fun e w' => e = .returned (.int .i64 0) ∧ w = w' := by
 go_enter Tryz.func109, Tryz.ntmps109
 go_wp2
 go_ret
 exact ⟨rfl, rfl⟩
theorem n1a (w : World) : Calls Tryz.prog 109 #[.int .i64 2] w fun e w' => e = .returned (.int .i64 11) ∧ w = w' := by
 go_enter Tryz.func109, Tryz.ntmps109
 go_wp2
 go_ret
 exact ⟨rfl, rfl⟩
theorem m1z (w : World) : Calls Tryz.prog 109 #[.int .i64 3] w fun e w' => e = .returned (.int .i64 11) ∧ w = w' := by
 go_enter Tryz.func109, Tryz.ntmps109
 go_wp2
 go_ret
 exact ⟨rfl, rfl⟩
theorem m1y (w : World) : Calls Tryz.prog 109 #[.int .i64 4] w fun e w' => e = .returned (.int .i64 3) ∧ w = w' := by
 go_enter Tryz.func109, Tryz.ntmps109
 go_wp2
 go_ret
 exact ⟨rfl, rfl⟩
theorem m1x (w : World) : Calls Tryz.prog 109 #[.int .i64 5] w fun e w' => e = .returned (.int .i64 3) ∧ w = w' := by
 go_enter Tryz.func109, Tryz.ntmps109
 go_wp2
 go_ret
 exact ⟨rfl, rfl⟩
theorem m1w (w : World) : Calls Tryz.prog 109 #[.int .i64 6] w fun e w' => e = .returned (.int .i64 25) ∧ w = w' := by
 go_enter Tryz.func109, Tryz.ntmps109
 go_wp2
 go_ret
 exact ⟨rfl, rfl⟩
theorem m1v (w : World) : Calls Tryz.prog 109 #[.int .i64 7] w fun e w' => e = .returned (.int .i64 11) ∧ w = w' := by
 go_enter Tryz.func109, Tryz.ntmps109
 go_wp2
 go_ret
 exact ⟨rfl, rfl⟩
theorem m1u (w : World) : Calls Tryz.prog 109 #[.int .i64 8] w fun e w' => e = .returned (.int .i64 7) ∧ w = w' := by
 go_enter Tryz.func109, Tryz.ntmps109
 go_wp2
 go_ret
 exact ⟨rfl, rfl⟩
theorem m1t (w : World) : Calls Tryz.prog 109 #[.int .i64 9] w fun e w' => e = .returned (.int .i64 7) ∧ w = w' := by
 go_enter Tryz.func109, Tryz.ntmps109
 go_wp2
 go_ret
 exact ⟨rfl, rfl⟩
theorem i1z (w : World) : Calls Tryz.prog 109 #[.int .i64 10] w fun e w' => e = .returned (.int .i64 7) ∧ w = w' := by
 go_enter Tryz.func109, Tryz.ntmps109
 go_wp2
 go_ret
 exact ⟨rfl, rfl⟩
theorem i1y (w : World) : Calls Tryz.prog 109 #[.int .i64 11] w fun e w' => e = .returned (.int .i64 7) ∧ w = w' := by
 go_enter Tryz.func109, Tryz.ntmps109
 go_wp2
 go_ret
 exact ⟨rfl, rfl⟩
theorem i1x (w : World) : Calls Tryz.prog 109 #[.int .i64 12] w fun e w' => e = .returned (.int .i64 7) ∧ w = w' := by
 go_enter Tryz.func109, Tryz.ntmps109
 go_wp2
 go_ret
 exact ⟨rfl, rfl⟩
theorem i1w (w : World) : Calls Tryz.prog 109 #[.int .i64 13] w fun e w' => e = .returned (.int .i64 7) ∧ w = w' := by
 go_enter Tryz.func109, Tryz.ntmps109
 go_wp2
 go_ret
 exact ⟨rfl, rfl⟩
theorem i1v (w : World) : Calls Tryz.prog 109 #[.int .i64 14] w fun e w' => e = .returned (.int .i64 8) ∧ w = w' := by
 go_enter Tryz.func109, Tryz.ntmps109
 go_wp2
 go_ret
 exact ⟨rfl, rfl⟩
theorem i1u (w : World) : Calls Tryz.prog 109 #[.int .i64 15] w fun e w' => e = .returned (.int .i64 9) ∧ w = w' := by
 go_enter Tryz.func109, Tryz.ntmps109
 go_wp2
 go_ret
 exact ⟨rfl, rfl⟩
theorem i1t (w : World) : Calls Tryz.prog 109 #[.int .i64 16] w fun e w' => e = .returned (.int .i64 9) ∧ w = w' := by
 go_enter Tryz.func109, Tryz.ntmps109
 go_wp2
 go_ret
 exact ⟨rfl, rfl⟩
theorem i1s (w : World) : Calls Tryz.prog 109 #[.int .i64 17] w fun e w' => e = .returned (.int .i64 24) ∧ w = w' := by
 go_enter Tryz.func109, Tryz.ntmps109
 go_wp2
 go_ret
 exact ⟨rfl, rfl⟩
theorem i1r (w : World) : Calls Tryz.prog 109 #[.int .i64 18] w fun e w' => e = .returned (.int .i64 16) ∧ w = w' := by
 go_enter Tryz.func109, Tryz.ntmps109
 go_wp2
 go_ret
 exact ⟨rfl, rfl⟩
theorem i1q (w : World) : Calls Tryz.prog 109 #[.int .i64 19] w fun e w' => e = .returned (.int .i64 16) ∧ w = w' := by
 go_enter Tryz.func109, Tryz.ntmps109
 go_wp2
 go_ret
 exact ⟨rfl, rfl⟩
theorem i1p (w : World) : Calls Tryz.prog 109 #[.int .i64 20] w fun e w' => e = .returned (.int .i64 0) ∧ w = w' := by
 go_enter Tryz.func109, Tryz.ntmps109
 go_wp2
 go_ret
 exact ⟨rfl, rfl⟩
theorem i1o (w : World) : Calls Tryz.prog 109 #[.int .i64 21] w fun e w' => e = .returned (.int .i64 17) ∧ w = w' := by
 go_enter Tryz.func109, Tryz.ntmps109
 go_wp2
 go_ret
 exact ⟨rfl, rfl⟩
theorem i1n (w : World) : Calls Tryz.prog 109 #[.int .i64 22] w fun e w' => e = .returned (.int .i64 0) ∧ w = w' := by
 go_enter Tryz.func109, Tryz.ntmps109
 go_wp2
 go_ret
 exact ⟨rfl, rfl⟩
theorem i1m (w : World) : Calls Tryz.prog 109 #[.int .i64 23] w fun e w' => e = .returned (.int .i64 17) ∧ w = w' := by
 go_enter Tryz.func109, Tryz.ntmps109
 go_wp2
 go_ret
 exact ⟨rfl, rfl⟩
theorem i1l (op : Int) (w : World) (h : opB op = false) : Calls Tryz.prog 109 #[.int .i64 op] w fun e w' => e = .returned (.int .i64 (-1)) ∧ w = w' := by
 have h' : ¬ (1 ≤ op ∧ op ≤ 23) := of_decide_eq_false h
 have e1 : (op == 1) = false := beq_eq_false_iff_ne.2 (by omega)
 have e2 : (op == 2) = false := beq_eq_false_iff_ne.2 (by omega)
 have e3 : (op == 3) = false := beq_eq_false_iff_ne.2 (by omega)
 have e4 : (op == 4) = false := beq_eq_false_iff_ne.2 (by omega)
 have e5 : (op == 5) = false := beq_eq_false_iff_ne.2 (by omega)
 have e6 : (op == 6) = false := beq_eq_false_iff_ne.2 (by omega)
 have e7 : (op == 7) = false := beq_eq_false_iff_ne.2 (by omega)
 have e8 : (op == 8) = false := beq_eq_false_iff_ne.2 (by omega)
 have e9 : (op == 9) = false := beq_eq_false_iff_ne.2 (by omega)
 have e10 : (op == 10) = false := beq_eq_false_iff_ne.2 (by omega)
 have e11 : (op == 11) = false := beq_eq_false_iff_ne.2 (by omega)
 have e12 : (op == 12) = false := beq_eq_false_iff_ne.2 (by omega)
 have e13 : (op == 13) = false := beq_eq_false_iff_ne.2 (by omega)
 have e14 : (op == 14) = false := beq_eq_false_iff_ne.2 (by omega)
 have e15 : (op == 15) = false := beq_eq_false_iff_ne.2 (by omega)
 have e16 : (op == 16) = false := beq_eq_false_iff_ne.2 (by omega)
 have e17 : (op == 17) = false := beq_eq_false_iff_ne.2 (by omega)
 have e18 : (op == 18) = false := beq_eq_false_iff_ne.2 (by omega)
 have e19 : (op == 19) = false := beq_eq_false_iff_ne.2 (by omega)
 have e20 : (op == 20) = false := beq_eq_false_iff_ne.2 (by omega)
 have e21 : (op == 21) = false := beq_eq_false_iff_ne.2 (by omega)
 have e22 : (op == 22) = false := beq_eq_false_iff_ne.2 (by omega)
 have e23 : (op == 23) = false := beq_eq_false_iff_ne.2 (by omega)
 have g1 : ((1 : Int) == op) = false := beq_eq_false_iff_ne.2 (by omega)
 have g2 : ((2 : Int) == op) = false := beq_eq_false_iff_ne.2 (by omega)
 have g3 : ((3 : Int) == op) = false := beq_eq_false_iff_ne.2 (by omega)
 have g4 : ((4 : Int) == op) = false := beq_eq_false_iff_ne.2 (by omega)
 have g5 : ((5 : Int) == op) = false := beq_eq_false_iff_ne.2 (by omega)
 have g6 : ((6 : Int) == op) = false := beq_eq_false_iff_ne.2 (by omega)
 have g7 : ((7 : Int) == op) = false := beq_eq_false_iff_ne.2 (by omega)
 have g8 : ((8 : Int) == op) = false := beq_eq_false_iff_ne.2 (by omega)
 have g9 : ((9 : Int) == op) = false := beq_eq_false_iff_ne.2 (by omega)
 have g10 : ((10 : Int) == op) = false := beq_eq_false_iff_ne.2 (by omega)
 have g11 : ((11 : Int) == op) = false := beq_eq_false_iff_ne.2 (by omega)
 have g12 : ((12 : Int) == op) = false := beq_eq_false_iff_ne.2 (by omega)
 have g13 : ((13 : Int) == op) = false := beq_eq_false_iff_ne.2 (by omega)
 have g14 : ((14 : Int) == op) = false := beq_eq_false_iff_ne.2 (by omega)
 have g15 : ((15 : Int) == op) = false := beq_eq_false_iff_ne.2 (by omega)
 have g16 : ((16 : Int) == op) = false := beq_eq_false_iff_ne.2 (by omega)
 have g17 : ((17 : Int) == op) = false := beq_eq_false_iff_ne.2 (by omega)
 have g18 : ((18 : Int) == op) = false := beq_eq_false_iff_ne.2 (by omega)
 have g19 : ((19 : Int) == op) = false := beq_eq_false_iff_ne.2 (by omega)
 have g20 : ((20 : Int) == op) = false := beq_eq_false_iff_ne.2 (by omega)
 have g21 : ((21 : Int) == op) = false := beq_eq_false_iff_ne.2 (by omega)
 have g22 : ((22 : Int) == op) = false := beq_eq_false_iff_ne.2 (by omega)
 have g23 : ((23 : Int) == op) = false := beq_eq_false_iff_ne.2 (by omega)
 clear h h'
 go_enter Tryz.func109, Tryz.ntmps109
 go_wp2
 go_ret
 exact ⟨rfl, rfl⟩
end
section
open Go.RowKit
theorem d1b (op d n m imm kind : Int) (w : World) (h : opB op = false) :
  Calls Tryz.prog 65 #[b0o op d n m imm kind] w fun e w' => e = .returned (.bool (d0g op d n m imm kind)) ∧ Below w.heap.size w w' := by
 have HX := h_ (t0f (show ¬ b0e op d n m imm kind from fun hp => (of_decide_eq_false h) hp.1.1))
 go_enter Tryz.func65, Tryz.ntmps65
 go_wp2_with (go_at_call 109; refine (i1l _ _ h).mono ?_; rintro e w' ⟨rfl, rfl⟩)
 go_ret
 exact ⟨by rw [HX.out]; rfl, bl_ (Below.refl _ _) _⟩
theorem h1r (d n m imm kind : Int) (w : World) :
  Calls Tryz.prog 65 #[b0o 1 d n m imm kind] w fun e w' => e = .returned (.bool (d0g 1 d n m imm kind)) ∧ Below w.heap.size w w' := by
 have T8 := h_ (a0j imm 8)
 have T4 := h_ (a0j kind 4)
 go_enter Tryz.func65, Tryz.ntmps65
 go_wp2_with (first | (go_at_call 109; refine (n1d _).mono ?_; rintro e w' ⟨rfl, rfl⟩) | (go_at_call 110; refine (d0a _ _ _ _).mono ?_; rintro e w' ⟨rfl, rfl⟩) | go_in)
 all_goals go_ret
 all_goals (
  refine ⟨a0l (b0n ?_), bl_ (Below.refl _ _) _⟩
  simp [inB, b0e, d0i, d0h, c0m, c0l] at *
  have t8 := T8.out
  have t4 := T4.out
  try omega)
theorem h1q (d n m imm kind : Int) (w : World) :
  Calls Tryz.prog 65 #[b0o 2 d n m imm kind] w fun e w' => e = .returned (.bool (d0g 2 d n m imm kind)) ∧ Below w.heap.size w w' := by
 have T8 := h_ (a0j imm 8)
 have T4 := h_ (a0j kind 4)
 go_enter Tryz.func65, Tryz.ntmps65
 go_wp2_with (first | (go_at_call 109; refine (n1a _).mono ?_; rintro e w' ⟨rfl, rfl⟩) | (go_at_call 110; refine (d0a _ _ _ _).mono ?_; rintro e w' ⟨rfl, rfl⟩) | go_in)
 all_goals go_ret
 all_goals (
  refine ⟨a0l (b0n ?_), bl_ (Below.refl _ _) _⟩
  simp [inB, b0e, d0i, d0h, c0m, c0l] at *
  have t8 := T8.out
  have t4 := T4.out
  try omega)
theorem h1p (d n m imm kind : Int) (w : World) :
  Calls Tryz.prog 65 #[b0o 3 d n m imm kind] w fun e w' => e = .returned (.bool (d0g 3 d n m imm kind)) ∧ Below w.heap.size w w' := by
 have T8 := h_ (a0j imm 8)
 have T4 := h_ (a0j kind 4)
 go_enter Tryz.func65, Tryz.ntmps65
 go_wp2_with (first | (go_at_call 109; refine (m1z _).mono ?_; rintro e w' ⟨rfl, rfl⟩) | (go_at_call 110; refine (d0a _ _ _ _).mono ?_; rintro e w' ⟨rfl, rfl⟩) | go_in)
 all_goals go_ret
 all_goals (
  refine ⟨a0l (b0n ?_), bl_ (Below.refl _ _) _⟩
  simp [inB, b0e, d0i, d0h, c0m, c0l] at *
  have t8 := T8.out
  have t4 := T4.out
  try omega)
theorem h1o (d n m imm kind : Int) (w : World) :
  Calls Tryz.prog 65 #[b0o 4 d n m imm kind] w fun e w' => e = .returned (.bool (d0g 4 d n m imm kind)) ∧ Below w.heap.size w w' := by
 have T8 := h_ (a0j imm 8)
 have T4 := h_ (a0j kind 4)
 go_enter Tryz.func65, Tryz.ntmps65
 go_wp2_with (first | (go_at_call 109; refine (m1y _).mono ?_; rintro e w' ⟨rfl, rfl⟩) | (go_at_call 110; refine (d0a _ _ _ _).mono ?_; rintro e w' ⟨rfl, rfl⟩) | go_in)
 all_goals go_ret
 all_goals (
  refine ⟨a0l (b0n ?_), bl_ (Below.refl _ _) _⟩
  simp [inB, b0e, d0i, d0h, c0m, c0l] at *
  have t8 := T8.out
  have t4 := T4.out
  try omega)
theorem h1n (d n m imm kind : Int) (w : World) :
  Calls Tryz.prog 65 #[b0o 5 d n m imm kind] w fun e w' => e = .returned (.bool (d0g 5 d n m imm kind)) ∧ Below w.heap.size w w' := by
 have T8 := h_ (a0j imm 8)
 have T4 := h_ (a0j kind 4)
 go_enter Tryz.func65, Tryz.ntmps65
 go_wp2_with (first | (go_at_call 109; refine (m1x _).mono ?_; rintro e w' ⟨rfl, rfl⟩) | (go_at_call 110; refine (d0a _ _ _ _).mono ?_; rintro e w' ⟨rfl, rfl⟩) | go_in)
 all_goals go_ret
 all_goals (
  refine ⟨a0l (b0n ?_), bl_ (Below.refl _ _) _⟩
  simp [inB, b0e, d0i, d0h, c0m, c0l] at *
  have t8 := T8.out
  have t4 := T4.out
  try omega)
theorem h1m (d n m imm kind : Int) (w : World) :
  Calls Tryz.prog 65 #[b0o 6 d n m imm kind] w fun e w' => e = .returned (.bool (d0g 6 d n m imm kind)) ∧ Below w.heap.size w w' := by
 have T8 := h_ (a0j imm 8)
 have T4 := h_ (a0j kind 4)
 go_enter Tryz.func65, Tryz.ntmps65
 go_wp2_with (first | (go_at_call 109; refine (m1w _).mono ?_; rintro e w' ⟨rfl, rfl⟩) | (go_at_call 110; refine (d0a _ _ _ _).mono ?_; rintro e w' ⟨rfl, rfl⟩) | go_in)
 all_goals go_ret
 all_goals (
  refine ⟨a0l (b0n ?_), bl_ (Below.refl _ _) _⟩
  simp [inB, b0e, d0i, d0h, c0m, c0l] at *
  have t8 := T8.out
  have t4 := T4.out
  try omega)
theorem h1l (d n m imm kind : Int) (w : World) :
  Calls Tryz.prog 65 #[b0o 7 d n m imm kind] w fun e w' => e = .returned (.bool (d0g 7 d n m imm kind)) ∧ Below w.heap.size w w' := by
 have T8 := h_ (a0j imm 8)
 have T4 := h_ (a0j kind 4)
 go_enter Tryz.func65, Tryz.ntmps65
 go_wp2_with (first | (go_at_call 109; refine (m1v _).mono ?_; rintro e w' ⟨rfl, rfl⟩) | (go_at_call 110; refine (d0a _ _ _ _).mono ?_; rintro e w' ⟨rfl, rfl⟩) | go_in)
 all_goals go_ret
 all_goals (
  refine ⟨a0l (b0n ?_), bl_ (Below.refl _ _) _⟩
  simp [inB, b0e, d0i, d0h, c0m, c0l] at *
  have t8 := T8.out
  have t4 := T4.out
  try omega)
theorem h1k (d n m imm kind : Int) (w : World) :
  Calls Tryz.prog 65 #[b0o 8 d n m imm kind] w fun e w' => e = .returned (.bool (d0g 8 d n m imm kind)) ∧ Below w.heap.size w w' := by
 have T8 := h_ (a0j imm 8)
 have T4 := h_ (a0j kind 4)
 go_enter Tryz.func65, Tryz.ntmps65
 go_wp2_with (first | (go_at_call 109; refine (m1u _).mono ?_; rintro e w' ⟨rfl, rfl⟩) | (go_at_call 110; refine (d0a _ _ _ _).mono ?_; rintro e w' ⟨rfl, rfl⟩) | go_in)
 all_goals go_ret
 all_goals (
  refine ⟨a0l (b0n ?_), bl_ (Below.refl _ _) _⟩
  simp [inB, b0e, d0i, d0h, c0m, c0l] at *
  have t8 := T8.out
  have t4 := T4.out
  try omega)
theorem h1j (d n m imm kind : Int) (w : World) :
  Calls Tryz.prog 65 #[b0o 9 d n m imm kind] w fun e w' => e = .returned (.bool (d0g 9 d n m imm kind)) ∧ Below w.heap.size w w' := by
 have T8 := h_ (a0j imm 8)
 have T4 := h_ (a0j kind 4)
 go_enter Tryz.func65, Tryz.ntmps65
 go_wp2_with (first | (go_at_call 109; refine (m1t _).mono ?_; rintro e w' ⟨rfl, rfl⟩) | (go_at_call 110; refine (d0a _ _ _ _).mono ?_; rintro e w' ⟨rfl, rfl⟩) | go_in)
 all_goals go_ret
 all_goals (
  refine ⟨a0l (b0n ?_), bl_ (Below.refl _ _) _⟩
  simp [inB, b0e, d0i, d0h, c0m, c0l] at *
  have t8 := T8.out
  have t4 := T4.out
  try omega)
theorem d1p (d n m imm kind : Int) (w : World) :
  Calls Tryz.prog 65 #[b0o 10 d n m imm kind] w fun e w' => e = .returned (.bool (d0g 10 d n m imm kind)) ∧ Below w.heap.size w w' := by
 have T8 := h_ (a0j imm 8)
 have T4 := h_ (a0j kind 4)
 go_enter Tryz.func65, Tryz.ntmps65
 go_wp2_with (first | (go_at_call 109; refine (i1z _).mono ?_; rintro e w' ⟨rfl, rfl⟩) | (go_at_call 110; refine (d0a _ _ _ _).mono ?_; rintro e w' ⟨rfl, rfl⟩) | go_in)
 all_goals go_ret
 all_goals (
  refine ⟨a0l (b0n ?_), bl_ (Below.refl _ _) _⟩
  simp [inB, b0e, d0i, d0h, c0m, c0l] at *
  have t8 := T8.out
  have t4 := T4.out
  try omega)
theorem d1o (d n m imm kind : Int) (w : World) :
  Calls Tryz.prog 65 #[b0o 11 d n m imm kind] w fun e w' => e = .returned (.bool (d0g 11 d n m imm kind)) ∧ Below w.heap.size w w' := by
 have T8 := h_ (a0j imm 8)
 have T4 := h_ (a0j kind 4)
 go_enter Tryz.func65, Tryz.ntmps65
 go_wp2_with (first | (go_at_call 109; refine (i1y _).mono ?_; rintro e w' ⟨rfl, rfl⟩) | (go_at_call 110; refine (d0a _ _ _ _).mono ?_; rintro e w' ⟨rfl, rfl⟩) | go_in)
 all_goals go_ret
 all_goals (
  refine ⟨a0l (b0n ?_), bl_ (Below.refl _ _) _⟩
  simp [inB, b0e, d0i, d0h, c0m, c0l] at *
  have t8 := T8.out
  have t4 := T4.out
  try omega)
theorem d1n (d n m imm kind : Int) (w : World) :
  Calls Tryz.prog 65 #[b0o 12 d n m imm kind] w fun e w' => e = .returned (.bool (d0g 12 d n m imm kind)) ∧ Below w.heap.size w w' := by
 have T8 := h_ (a0j imm 8)
 have T4 := h_ (a0j kind 4)
 go_enter Tryz.func65, Tryz.ntmps65
 go_wp2_with (first | (go_at_call 109; refine (i1x _).mono ?_; rintro e w' ⟨rfl, rfl⟩) | (go_at_call 110; refine (d0a _ _ _ _).mono ?_; rintro e w' ⟨rfl, rfl⟩) | go_in)
 all_goals go_ret
 all_goals (
  refine ⟨a0l (b0n ?_), bl_ (Below.refl _ _) _⟩
  simp [inB, b0e, d0i, d0h, c0m, c0l] at *
  have t8 := T8.out
  have t4 := T4.out
  try omega)
theorem d1m (d n m imm kind : Int) (w : World) :
  Calls Tryz.prog 65 #[b0o 13 d n m imm kind] w fun e w' => e = .returned (.bool (d0g 13 d n m imm kind)) ∧ Below w.heap.size w w' := by
 have T8 := h_ (a0j imm 8)
 have T4 := h_ (a0j kind 4)
 go_enter Tryz.func65, Tryz.ntmps65
 go_wp2_with (first | (go_at_call 109; refine (i1w _).mono ?_; rintro e w' ⟨rfl, rfl⟩) | (go_at_call 110; refine (d0a _ _ _ _).mono ?_; rintro e w' ⟨rfl, rfl⟩) | go_in)
 all_goals go_ret
 all_goals (
  refine ⟨a0l (b0n ?_), bl_ (Below.refl _ _) _⟩
  simp [inB, b0e, d0i, d0h, c0m, c0l] at *
  have t8 := T8.out
  have t4 := T4.out
  try omega)
theorem d1l (d n m imm kind : Int) (w : World) :
  Calls Tryz.prog 65 #[b0o 14 d n m imm kind] w fun e w' => e = .returned (.bool (d0g 14 d n m imm kind)) ∧ Below w.heap.size w w' := by
 have T8 := h_ (a0j imm 8)
 have T4 := h_ (a0j kind 4)
 go_enter Tryz.func65, Tryz.ntmps65
 go_wp2_with (first | (go_at_call 109; refine (i1v _).mono ?_; rintro e w' ⟨rfl, rfl⟩) | (go_at_call 110; refine (d0a _ _ _ _).mono ?_; rintro e w' ⟨rfl, rfl⟩) | go_in)
 all_goals go_ret
 all_goals (
  refine ⟨a0l (b0n ?_), bl_ (Below.refl _ _) _⟩
  simp [inB, b0e, d0i, d0h, c0m, c0l] at *
  have t8 := T8.out
  have t4 := T4.out
  try omega)
theorem d1k (d n m imm kind : Int) (w : World) :
  Calls Tryz.prog 65 #[b0o 15 d n m imm kind] w fun e w' => e = .returned (.bool (d0g 15 d n m imm kind)) ∧ Below w.heap.size w w' := by
 have T8 := h_ (a0j imm 8)
 have T4 := h_ (a0j kind 4)
 go_enter Tryz.func65, Tryz.ntmps65
 go_wp2_with (first | (go_at_call 109; refine (i1u _).mono ?_; rintro e w' ⟨rfl, rfl⟩) | (go_at_call 110; refine (d0a _ _ _ _).mono ?_; rintro e w' ⟨rfl, rfl⟩) | go_in)
 all_goals go_ret
 all_goals (
  refine ⟨a0l (b0n ?_), bl_ (Below.refl _ _) _⟩
  simp [inB, b0e, d0i, d0h, c0m, c0l] at *
  have t8 := T8.out
  have t4 := T4.out
  try omega)
theorem d1j (d n m imm kind : Int) (w : World) :
  Calls Tryz.prog 65 #[b0o 16 d n m imm kind] w fun e w' => e = .returned (.bool (d0g 16 d n m imm kind)) ∧ Below w.heap.size w w' := by
 have T8 := h_ (a0j imm 8)
 have T4 := h_ (a0j kind 4)
 go_enter Tryz.func65, Tryz.ntmps65
 go_wp2_with (first | (go_at_call 109; refine (i1t _).mono ?_; rintro e w' ⟨rfl, rfl⟩) | (go_at_call 110; refine (d0a _ _ _ _).mono ?_; rintro e w' ⟨rfl, rfl⟩) | go_in)
 all_goals go_ret
 all_goals (
  refine ⟨a0l (b0n ?_), bl_ (Below.refl _ _) _⟩
  simp [inB, b0e, d0i, d0h, c0m, c0l] at *
  have t8 := T8.out
  have t4 := T4.out
  try omega)
theorem d1i (d n m imm kind : Int) (w : World) :
  Calls Tryz.prog 65 #[b0o 17 d n m imm kind] w fun e w' => e = .returned (.bool (d0g 17 d n m imm kind)) ∧ Below w.heap.size w w' := by
 have T8 := h_ (a0j imm 8)
 have T4 := h_ (a0j kind 4)
 go_enter Tryz.func65, Tryz.ntmps65
 go_wp2_with (first | (go_at_call 109; refine (i1s _).mono ?_; rintro e w' ⟨rfl, rfl⟩) | (go_at_call 110; refine (d0a _ _ _ _).mono ?_; rintro e w' ⟨rfl, rfl⟩) | go_in)
 all_goals go_ret
 all_goals (
  refine ⟨a0l (b0n ?_), bl_ (Below.refl _ _) _⟩
  simp [inB, b0e, d0i, d0h, c0m, c0l] at *
  have t8 := T8.out
  have t4 := T4.out
  try omega)
theorem d1h (d n m imm kind : Int) (w : World) :
  Calls Tryz.prog 65 #[b0o 18 d n m imm kind] w fun e w' => e = .returned (.bool (d0g 18 d n m imm kind)) ∧ Below w.heap.size w w' := by
 have T8 := h_ (a0j imm 8)
 have T4 := h_ (a0j kind 4)
 go_enter Tryz.func65, Tryz.ntmps65
 go_wp2_with (first | (go_at_call 109; refine (i1r _).mono ?_; rintro e w' ⟨rfl, rfl⟩) | (go_at_call 110; refine (d0a _ _ _ _).mono ?_; rintro e w' ⟨rfl, rfl⟩) | go_in)
 all_goals go_ret
 all_goals (
  refine ⟨a0l (b0n ?_), bl_ (Below.refl _ _) _⟩
  simp [inB, b0e, d0i, d0h, c0m, c0l] at *
  have t8 := T8.out
  have t4 := T4.out
  try omega)
theorem d1g (d n m imm kind : Int) (w : World) :
  Calls Tryz.prog 65 #[b0o 19 d n m imm kind] w fun e w' => e = .returned (.bool (d0g 19 d n m imm kind)) ∧ Below w.heap.size w w' := by
 have T8 := h_ (a0j imm 8)
 have T4 := h_ (a0j kind 4)
 go_enter Tryz.func65, Tryz.ntmps65
 go_wp2_with (first | (go_at_call 109; refine (i1q _).mono ?_; rintro e w' ⟨rfl, rfl⟩) | (go_at_call 110; refine (d0a _ _ _ _).mono ?_; rintro e w' ⟨rfl, rfl⟩) | go_in)
 all_goals go_ret
 all_goals (
  refine ⟨a0l (b0n ?_), bl_ (Below.refl _ _) _⟩
  simp [inB, b0e, d0i, d0h, c0m, c0l] at *
  have t8 := T8.out
  have t4 := T4.out
  try omega)
theorem d1f (d n m imm kind : Int) (w : World) :
  Calls Tryz.prog 65 #[b0o 20 d n m imm kind] w fun e w' => e = .returned (.bool (d0g 20 d n m imm kind)) ∧ Below w.heap.size w w' := by
 have T8 := h_ (a0j imm 8)
 have T4 := h_ (a0j kind 4)
 go_enter Tryz.func65, Tryz.ntmps65
 go_wp2_with (first | (go_at_call 109; refine (i1p _).mono ?_; rintro e w' ⟨rfl, rfl⟩) | (go_at_call 110; refine (d0a _ _ _ _).mono ?_; rintro e w' ⟨rfl, rfl⟩) | go_in)
 all_goals go_ret
 all_goals (
  refine ⟨a0l (b0n ?_), bl_ (Below.refl _ _) _⟩
  simp [inB, b0e, d0i, d0h, c0m, c0l] at *
  have t8 := T8.out
  have t4 := T4.out
  try omega)
theorem d1e (d n m imm kind : Int) (w : World) :
  Calls Tryz.prog 65 #[b0o 21 d n m imm kind] w fun e w' => e = .returned (.bool (d0g 21 d n m imm kind)) ∧ Below w.heap.size w w' := by
 have T8 := h_ (a0j imm 8)
 have T4 := h_ (a0j kind 4)
 go_enter Tryz.func65, Tryz.ntmps65
 go_wp2_with (first | (go_at_call 109; refine (i1o _).mono ?_; rintro e w' ⟨rfl, rfl⟩) | (go_at_call 110; refine (d0a _ _ _ _).mono ?_; rintro e w' ⟨rfl, rfl⟩) | go_in)
 all_goals go_ret
 all_goals (
  refine ⟨a0l (b0n ?_), bl_ (Below.refl _ _) _⟩
  simp [inB, b0e, d0i, d0h, c0m, c0l] at *
  have t8 := T8.out
  have t4 := T4.out
  try omega)
theorem d1d (d n m imm kind : Int) (w : World) :
  Calls Tryz.prog 65 #[b0o 22 d n m imm kind] w fun e w' => e = .returned (.bool (d0g 22 d n m imm kind)) ∧ Below w.heap.size w w' := by
 have T8 := h_ (a0j imm 8)
 have T4 := h_ (a0j kind 4)
 go_enter Tryz.func65, Tryz.ntmps65
 go_wp2_with (first | (go_at_call 109; refine (i1n _).mono ?_; rintro e w' ⟨rfl, rfl⟩) | (go_at_call 110; refine (d0a _ _ _ _).mono ?_; rintro e w' ⟨rfl, rfl⟩) | go_in)
 all_goals go_ret
 all_goals (
  refine ⟨a0l (b0n ?_), bl_ (Below.refl _ _) _⟩
  simp [inB, b0e, d0i, d0h, c0m, c0l] at *
  have t8 := T8.out
  have t4 := T4.out
  try omega)
theorem d1c (d n m imm kind : Int) (w : World) :
  Calls Tryz.prog 65 #[b0o 23 d n m imm kind] w fun e w' => e = .returned (.bool (d0g 23 d n m imm kind)) ∧ Below w.heap.size w w' := by
 have T8 := h_ (a0j imm 8)
 have T4 := h_ (a0j kind 4)
 go_enter Tryz.func65, Tryz.ntmps65
 go_wp2_with (first | (go_at_call 109; refine (i1m _).mono ?_; rintro e w' ⟨rfl, rfl⟩) | (go_at_call 110; refine (d0a _ _ _ _).mono ?_; rintro e w' ⟨rfl, rfl⟩) | go_in)
 all_goals go_ret
 all_goals (
  refine ⟨a0l (b0n ?_), bl_ (Below.refl _ _) _⟩
  simp [inB, b0e, d0i, d0h, c0m, c0l] at *
  have t8 := T8.out
  have t4 := T4.out
  try omega)
theorem z0i (op d n m imm kind : Int) (w : World) :
  Calls Tryz.prog 65 #[b0o op d n m imm kind] w fun e w' => e = .returned (.bool (d0g op d n m imm kind)) ∧ Below w.heap.size w w' := by
 cases h : opB op
 ·exact d1b op d n m imm kind w h
 ·rcases k0l h with rfl | rfl | rfl | rfl | rfl | rfl | rfl | rfl | rfl | rfl | rfl | rfl | rfl | rfl | rfl | rfl | rfl | rfl | rfl | rfl | rfl | rfl | rfl
  ·exact h1r d n m imm kind w
  ·exact h1q d n m imm kind w
  ·exact h1p d n m imm kind w
  ·exact h1o d n m imm kind w
  ·exact h1n d n m imm kind w
  ·exact h1m d n m imm kind w
  ·exact h1l d n m imm kind w
  ·exact h1k d n m imm kind w
  ·exact h1j d n m imm kind w
  ·exact d1p d n m imm kind w
  ·exact d1o d n m imm kind w
  ·exact d1n d n m imm kind w
  ·exact d1m d n m imm kind w
  ·exact d1l d n m imm kind w
  ·exact d1k d n m imm kind w
  ·exact d1j d n m imm kind w
  ·exact d1i d n m imm kind w
  ·exact d1h d n m imm kind w
  ·exact d1g d n m imm kind w
  ·exact d1f d n m imm kind w
  ·exact d1e d n m imm kind w
  ·exact d1d d n m imm kind w
  ·exact d1c d n m imm kind w
end
end Go.Proofs.YtmnojnopejhebaaGreat
