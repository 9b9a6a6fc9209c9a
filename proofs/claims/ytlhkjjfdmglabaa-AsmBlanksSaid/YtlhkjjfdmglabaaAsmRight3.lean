/- granuleref03.Right, exactly. -/
import Derived.Test.YtlhkjjfdmglabaaRight3
namespace Go.Proofs.Ytlhkjjfdmglabaa
open Go.RowKit
set_option linter.unusedVariables false
set_option linter.unusedSimpArgs false

/-- Which instructions may be. -/
def rightA (op d n m : Int) : Prop := (1 ≤ op ∧ op ≤ 23) ∧ (0 ≤ d ∧ d ≤ 31) ∧ (0 ≤ n ∧ n ≤ 31) ∧ (0 ≤ m ∧ m ≤ 31)
def rightB (op d n m imm kind : Int) : Prop := (d = 0 ∨ op = 2 ∨ op = 3 ∨ op = 4 ∨ op = 5 ∨ op = 6 ∨ op = 7 ∨ op = 8 ∨ op = 9 ∨ op = 10 ∨ op = 11 ∨ op = 12 ∨ op = 13 ∨ op = 15 ∨ op = 16 ∨ op = 21 ∨ op = 23) ∧ (n = 0 ∨ op = 2 ∨ op = 3 ∨ op = 4 ∨ op = 5 ∨ op = 7 ∨ op = 8 ∨ op = 9 ∨ op = 10 ∨ op = 11 ∨ op = 12 ∨ op = 13) ∧ (m = 0 ∨ op = 8 ∨ op = 9 ∨ op = 10 ∨ op = 11 ∨ op = 12 ∨ op = 13) ∧ (imm = 0 ∨ op = 2 ∨ op = 3 ∨ op = 6 ∨ op = 7 ∨ op = 14 ∨ op = 15 ∨ op = 16 ∨ op = 17) ∧ (kind = 0 ∨ op = 6 ∨ op = 17 ∨ op = 18 ∨ op = 19 ∨ op = 21 ∨ op = 23)
def rightC (op imm kind : Int) : Prop := ((op = 2 ∨ op = 3) → 0 ≤ imm ∧ imm ≤ 32760 ∧ imm % 8 = 0) ∧ (op = 7 → 0 ≤ imm ∧ imm ≤ 4095) ∧ (op = 6 → 0 ≤ imm ∧ imm ≤ 65535 ∧ 0 ≤ kind ∧ kind ≤ 3) ∧
  (op = 14 → -33554432 ≤ imm ∧ imm ≤ 33554431) ∧ ((op = 15 ∨ op = 16) → -262144 ≤ imm ∧ imm ≤ 262143) ∧ (op = 17 → -262144 ≤ imm ∧ imm ≤ 262143 ∧ 0 ≤ kind ∧ kind ≤ 1)
def rightD (op d kind : Int) : Prop := ((op = 18 ∨ op = 19) → (9 ≤ kind ∧ kind ≤ 11) ∨ (13 ≤ kind ∧ kind ≤ 15)) ∧ (op = 21 → 0 ≤ kind ∧ kind ≤ 7 ∧ (¬ kind % 4 = 0 ∨ d = 31)) ∧ (op = 23 → 0 ≤ kind ∧ kind ≤ 2)
def rightP (op d n m imm kind : Int) : Prop := rightA op d n m ∧ rightB op d n m imm kind ∧ rightC op imm kind ∧ rightD op d kind
instance (op d n m : Int) : Decidable (rightA op d n m) := by unfold rightA; infer_instance
instance (op d n m imm kind : Int) : Decidable (rightB op d n m imm kind) := by unfold rightB; infer_instance
instance (op imm kind : Int) : Decidable (rightC op imm kind) := by unfold rightC; infer_instance
instance (op d kind : Int) : Decidable (rightD op d kind) := by unfold rightD; infer_instance
instance (op d n m imm kind : Int) : Decidable (rightP op d n m imm kind) := by unfold rightP; infer_instance
theorem tmod_iff (a : Int) (b : Nat) : a.tmod b = 0 ↔ a % b = 0 := by
  rw [← Int.dvd_iff_tmod_eq_zero, ← Int.dvd_iff_emod_eq_zero]
def rightI (op d n m imm kind : Int) : Bool := decide (rightP op d n m imm kind)
theorem right_yes {op d n m imm kind : Int} (h : rightP op d n m imm kind) : rightI op d n m imm kind = true := decide_eq_true h
theorem right_not {op d n m imm kind : Int} (h : ¬ rightP op d n m imm kind) : rightI op d n m imm kind = false := decide_eq_false h
theorem right_iff {op d n m imm kind : Int} {b : Bool} (h : b = true ↔ rightP op d n m imm kind) : b = rightI op d n m imm kind := by
  unfold rightI
  cases b with
  | true => exact (decide_eq_true (h.1 rfl)).symm
  | false => exact (decide_eq_false (fun hp => by cases h.2 hp)).symm

theorem right3_no (op d n m imm kind : Int) (w : World) (h : opB op = false) :
    Calls Try.prog 11 #[instrW op d n m imm kind] w fun e w' => e = .returned (.bool (rightI op d n m imm kind)) ∧ Below w.heap.size w w' := by
  have HX := Lib.hid (right_not (show ¬ rightP op d n m imm kind from fun hp => (of_decide_eq_false h) hp.1.1))
  go_enter Try.func11, Try.ntmps11
  go_wp2_with (go_at_call 27; refine (parts_no _ _ h).mono ?_; rintro e w' ⟨rfl, rfl⟩)
  go_ret
  exact ⟨by rw [HX.out]; rfl, below_alloc (Below.refl _ _) _⟩
set_option maxRecDepth 100000 in
set_option maxHeartbeats 1600000 in
theorem right3_1 (d n m imm kind : Int) (w : World) :
    Calls Try.prog 11 #[instrW 1 d n m imm kind] w fun e w' => e = .returned (.bool (rightI 1 d n m imm kind)) ∧ Below w.heap.size w w' := by
  have T8 := Lib.hid (tmod_iff imm 8)
  have T4 := Lib.hid (tmod_iff kind 4)
  go_enter Try.func11, Try.ntmps11
  go_wp2_with (first | (go_at_call 27; refine (parts_1 _).mono ?_; rintro e w' ⟨rfl, rfl⟩) | (go_at_call 28; refine (in3_any _ _ _ _).mono ?_; rintro e w' ⟨rfl, rfl⟩) | go_in)
  all_goals go_ret
  all_goals (
    refine ⟨ret_bool (right_iff ?_), below_alloc (Below.refl _ _) _⟩
    simp [inB, rightP, rightA, rightB, rightC, rightD] at *
    have t8 := T8.out
    have t4 := T4.out
    try omega)
set_option maxRecDepth 100000 in
set_option maxHeartbeats 1600000 in
theorem right3_2 (d n m imm kind : Int) (w : World) :
    Calls Try.prog 11 #[instrW 2 d n m imm kind] w fun e w' => e = .returned (.bool (rightI 2 d n m imm kind)) ∧ Below w.heap.size w w' := by
  have T8 := Lib.hid (tmod_iff imm 8)
  have T4 := Lib.hid (tmod_iff kind 4)
  go_enter Try.func11, Try.ntmps11
  go_wp2_with (first | (go_at_call 27; refine (parts_2 _).mono ?_; rintro e w' ⟨rfl, rfl⟩) | (go_at_call 28; refine (in3_any _ _ _ _).mono ?_; rintro e w' ⟨rfl, rfl⟩) | go_in)
  all_goals go_ret
  all_goals (
    refine ⟨ret_bool (right_iff ?_), below_alloc (Below.refl _ _) _⟩
    simp [inB, rightP, rightA, rightB, rightC, rightD] at *
    have t8 := T8.out
    have t4 := T4.out
    try omega)
set_option maxRecDepth 100000 in
set_option maxHeartbeats 1600000 in
theorem right3_3 (d n m imm kind : Int) (w : World) :
    Calls Try.prog 11 #[instrW 3 d n m imm kind] w fun e w' => e = .returned (.bool (rightI 3 d n m imm kind)) ∧ Below w.heap.size w w' := by
  have T8 := Lib.hid (tmod_iff imm 8)
  have T4 := Lib.hid (tmod_iff kind 4)
  go_enter Try.func11, Try.ntmps11
  go_wp2_with (first | (go_at_call 27; refine (parts_3 _).mono ?_; rintro e w' ⟨rfl, rfl⟩) | (go_at_call 28; refine (in3_any _ _ _ _).mono ?_; rintro e w' ⟨rfl, rfl⟩) | go_in)
  all_goals go_ret
  all_goals (
    refine ⟨ret_bool (right_iff ?_), below_alloc (Below.refl _ _) _⟩
    simp [inB, rightP, rightA, rightB, rightC, rightD] at *
    have t8 := T8.out
    have t4 := T4.out
    try omega)
set_option maxRecDepth 100000 in
set_option maxHeartbeats 1600000 in
theorem right3_4 (d n m imm kind : Int) (w : World) :
    Calls Try.prog 11 #[instrW 4 d n m imm kind] w fun e w' => e = .returned (.bool (rightI 4 d n m imm kind)) ∧ Below w.heap.size w w' := by
  have T8 := Lib.hid (tmod_iff imm 8)
  have T4 := Lib.hid (tmod_iff kind 4)
  go_enter Try.func11, Try.ntmps11
  go_wp2_with (first | (go_at_call 27; refine (parts_4 _).mono ?_; rintro e w' ⟨rfl, rfl⟩) | (go_at_call 28; refine (in3_any _ _ _ _).mono ?_; rintro e w' ⟨rfl, rfl⟩) | go_in)
  all_goals go_ret
  all_goals (
    refine ⟨ret_bool (right_iff ?_), below_alloc (Below.refl _ _) _⟩
    simp [inB, rightP, rightA, rightB, rightC, rightD] at *
    have t8 := T8.out
    have t4 := T4.out
    try omega)
set_option maxRecDepth 100000 in
set_option maxHeartbeats 1600000 in
theorem right3_5 (d n m imm kind : Int) (w : World) :
    Calls Try.prog 11 #[instrW 5 d n m imm kind] w fun e w' => e = .returned (.bool (rightI 5 d n m imm kind)) ∧ Below w.heap.size w w' := by
  have T8 := Lib.hid (tmod_iff imm 8)
  have T4 := Lib.hid (tmod_iff kind 4)
  go_enter Try.func11, Try.ntmps11
  go_wp2_with (first | (go_at_call 27; refine (parts_5 _).mono ?_; rintro e w' ⟨rfl, rfl⟩) | (go_at_call 28; refine (in3_any _ _ _ _).mono ?_; rintro e w' ⟨rfl, rfl⟩) | go_in)
  all_goals go_ret
  all_goals (
    refine ⟨ret_bool (right_iff ?_), below_alloc (Below.refl _ _) _⟩
    simp [inB, rightP, rightA, rightB, rightC, rightD] at *
    have t8 := T8.out
    have t4 := T4.out
    try omega)
set_option maxRecDepth 100000 in
set_option maxHeartbeats 1600000 in
theorem right3_6 (d n m imm kind : Int) (w : World) :
    Calls Try.prog 11 #[instrW 6 d n m imm kind] w fun e w' => e = .returned (.bool (rightI 6 d n m imm kind)) ∧ Below w.heap.size w w' := by
  have T8 := Lib.hid (tmod_iff imm 8)
  have T4 := Lib.hid (tmod_iff kind 4)
  go_enter Try.func11, Try.ntmps11
  go_wp2_with (first | (go_at_call 27; refine (parts_6 _).mono ?_; rintro e w' ⟨rfl, rfl⟩) | (go_at_call 28; refine (in3_any _ _ _ _).mono ?_; rintro e w' ⟨rfl, rfl⟩) | go_in)
  all_goals go_ret
  all_goals (
    refine ⟨ret_bool (right_iff ?_), below_alloc (Below.refl _ _) _⟩
    simp [inB, rightP, rightA, rightB, rightC, rightD] at *
    have t8 := T8.out
    have t4 := T4.out
    try omega)
set_option maxRecDepth 100000 in
set_option maxHeartbeats 1600000 in
theorem right3_7 (d n m imm kind : Int) (w : World) :
    Calls Try.prog 11 #[instrW 7 d n m imm kind] w fun e w' => e = .returned (.bool (rightI 7 d n m imm kind)) ∧ Below w.heap.size w w' := by
  have T8 := Lib.hid (tmod_iff imm 8)
  have T4 := Lib.hid (tmod_iff kind 4)
  go_enter Try.func11, Try.ntmps11
  go_wp2_with (first | (go_at_call 27; refine (parts_7 _).mono ?_; rintro e w' ⟨rfl, rfl⟩) | (go_at_call 28; refine (in3_any _ _ _ _).mono ?_; rintro e w' ⟨rfl, rfl⟩) | go_in)
  all_goals go_ret
  all_goals (
    refine ⟨ret_bool (right_iff ?_), below_alloc (Below.refl _ _) _⟩
    simp [inB, rightP, rightA, rightB, rightC, rightD] at *
    have t8 := T8.out
    have t4 := T4.out
    try omega)
set_option maxRecDepth 100000 in
set_option maxHeartbeats 1600000 in
theorem right3_8 (d n m imm kind : Int) (w : World) :
    Calls Try.prog 11 #[instrW 8 d n m imm kind] w fun e w' => e = .returned (.bool (rightI 8 d n m imm kind)) ∧ Below w.heap.size w w' := by
  have T8 := Lib.hid (tmod_iff imm 8)
  have T4 := Lib.hid (tmod_iff kind 4)
  go_enter Try.func11, Try.ntmps11
  go_wp2_with (first | (go_at_call 27; refine (parts_8 _).mono ?_; rintro e w' ⟨rfl, rfl⟩) | (go_at_call 28; refine (in3_any _ _ _ _).mono ?_; rintro e w' ⟨rfl, rfl⟩) | go_in)
  all_goals go_ret
  all_goals (
    refine ⟨ret_bool (right_iff ?_), below_alloc (Below.refl _ _) _⟩
    simp [inB, rightP, rightA, rightB, rightC, rightD] at *
    have t8 := T8.out
    have t4 := T4.out
    try omega)
set_option maxRecDepth 100000 in
set_option maxHeartbeats 1600000 in
theorem right3_9 (d n m imm kind : Int) (w : World) :
    Calls Try.prog 11 #[instrW 9 d n m imm kind] w fun e w' => e = .returned (.bool (rightI 9 d n m imm kind)) ∧ Below w.heap.size w w' := by
  have T8 := Lib.hid (tmod_iff imm 8)
  have T4 := Lib.hid (tmod_iff kind 4)
  go_enter Try.func11, Try.ntmps11
  go_wp2_with (first | (go_at_call 27; refine (parts_9 _).mono ?_; rintro e w' ⟨rfl, rfl⟩) | (go_at_call 28; refine (in3_any _ _ _ _).mono ?_; rintro e w' ⟨rfl, rfl⟩) | go_in)
  all_goals go_ret
  all_goals (
    refine ⟨ret_bool (right_iff ?_), below_alloc (Below.refl _ _) _⟩
    simp [inB, rightP, rightA, rightB, rightC, rightD] at *
    have t8 := T8.out
    have t4 := T4.out
    try omega)
set_option maxRecDepth 100000 in
set_option maxHeartbeats 1600000 in
theorem right3_10 (d n m imm kind : Int) (w : World) :
    Calls Try.prog 11 #[instrW 10 d n m imm kind] w fun e w' => e = .returned (.bool (rightI 10 d n m imm kind)) ∧ Below w.heap.size w w' := by
  have T8 := Lib.hid (tmod_iff imm 8)
  have T4 := Lib.hid (tmod_iff kind 4)
  go_enter Try.func11, Try.ntmps11
  go_wp2_with (first | (go_at_call 27; refine (parts_10 _).mono ?_; rintro e w' ⟨rfl, rfl⟩) | (go_at_call 28; refine (in3_any _ _ _ _).mono ?_; rintro e w' ⟨rfl, rfl⟩) | go_in)
  all_goals go_ret
  all_goals (
    refine ⟨ret_bool (right_iff ?_), below_alloc (Below.refl _ _) _⟩
    simp [inB, rightP, rightA, rightB, rightC, rightD] at *
    have t8 := T8.out
    have t4 := T4.out
    try omega)
set_option maxRecDepth 100000 in
set_option maxHeartbeats 1600000 in
theorem right3_11 (d n m imm kind : Int) (w : World) :
    Calls Try.prog 11 #[instrW 11 d n m imm kind] w fun e w' => e = .returned (.bool (rightI 11 d n m imm kind)) ∧ Below w.heap.size w w' := by
  have T8 := Lib.hid (tmod_iff imm 8)
  have T4 := Lib.hid (tmod_iff kind 4)
  go_enter Try.func11, Try.ntmps11
  go_wp2_with (first | (go_at_call 27; refine (parts_11 _).mono ?_; rintro e w' ⟨rfl, rfl⟩) | (go_at_call 28; refine (in3_any _ _ _ _).mono ?_; rintro e w' ⟨rfl, rfl⟩) | go_in)
  all_goals go_ret
  all_goals (
    refine ⟨ret_bool (right_iff ?_), below_alloc (Below.refl _ _) _⟩
    simp [inB, rightP, rightA, rightB, rightC, rightD] at *
    have t8 := T8.out
    have t4 := T4.out
    try omega)
set_option maxRecDepth 100000 in
set_option maxHeartbeats 1600000 in
theorem right3_12 (d n m imm kind : Int) (w : World) :
    Calls Try.prog 11 #[instrW 12 d n m imm kind] w fun e w' => e = .returned (.bool (rightI 12 d n m imm kind)) ∧ Below w.heap.size w w' := by
  have T8 := Lib.hid (tmod_iff imm 8)
  have T4 := Lib.hid (tmod_iff kind 4)
  go_enter Try.func11, Try.ntmps11
  go_wp2_with (first | (go_at_call 27; refine (parts_12 _).mono ?_; rintro e w' ⟨rfl, rfl⟩) | (go_at_call 28; refine (in3_any _ _ _ _).mono ?_; rintro e w' ⟨rfl, rfl⟩) | go_in)
  all_goals go_ret
  all_goals (
    refine ⟨ret_bool (right_iff ?_), below_alloc (Below.refl _ _) _⟩
    simp [inB, rightP, rightA, rightB, rightC, rightD] at *
    have t8 := T8.out
    have t4 := T4.out
    try omega)
set_option maxRecDepth 100000 in
set_option maxHeartbeats 1600000 in
theorem right3_13 (d n m imm kind : Int) (w : World) :
    Calls Try.prog 11 #[instrW 13 d n m imm kind] w fun e w' => e = .returned (.bool (rightI 13 d n m imm kind)) ∧ Below w.heap.size w w' := by
  have T8 := Lib.hid (tmod_iff imm 8)
  have T4 := Lib.hid (tmod_iff kind 4)
  go_enter Try.func11, Try.ntmps11
  go_wp2_with (first | (go_at_call 27; refine (parts_13 _).mono ?_; rintro e w' ⟨rfl, rfl⟩) | (go_at_call 28; refine (in3_any _ _ _ _).mono ?_; rintro e w' ⟨rfl, rfl⟩) | go_in)
  all_goals go_ret
  all_goals (
    refine ⟨ret_bool (right_iff ?_), below_alloc (Below.refl _ _) _⟩
    simp [inB, rightP, rightA, rightB, rightC, rightD] at *
    have t8 := T8.out
    have t4 := T4.out
    try omega)
set_option maxRecDepth 100000 in
set_option maxHeartbeats 1600000 in
theorem right3_14 (d n m imm kind : Int) (w : World) :
    Calls Try.prog 11 #[instrW 14 d n m imm kind] w fun e w' => e = .returned (.bool (rightI 14 d n m imm kind)) ∧ Below w.heap.size w w' := by
  have T8 := Lib.hid (tmod_iff imm 8)
  have T4 := Lib.hid (tmod_iff kind 4)
  go_enter Try.func11, Try.ntmps11
  go_wp2_with (first | (go_at_call 27; refine (parts_14 _).mono ?_; rintro e w' ⟨rfl, rfl⟩) | (go_at_call 28; refine (in3_any _ _ _ _).mono ?_; rintro e w' ⟨rfl, rfl⟩) | go_in)
  all_goals go_ret
  all_goals (
    refine ⟨ret_bool (right_iff ?_), below_alloc (Below.refl _ _) _⟩
    simp [inB, rightP, rightA, rightB, rightC, rightD] at *
    have t8 := T8.out
    have t4 := T4.out
    try omega)
set_option maxRecDepth 100000 in
set_option maxHeartbeats 1600000 in
theorem right3_15 (d n m imm kind : Int) (w : World) :
    Calls Try.prog 11 #[instrW 15 d n m imm kind] w fun e w' => e = .returned (.bool (rightI 15 d n m imm kind)) ∧ Below w.heap.size w w' := by
  have T8 := Lib.hid (tmod_iff imm 8)
  have T4 := Lib.hid (tmod_iff kind 4)
  go_enter Try.func11, Try.ntmps11
  go_wp2_with (first | (go_at_call 27; refine (parts_15 _).mono ?_; rintro e w' ⟨rfl, rfl⟩) | (go_at_call 28; refine (in3_any _ _ _ _).mono ?_; rintro e w' ⟨rfl, rfl⟩) | go_in)
  all_goals go_ret
  all_goals (
    refine ⟨ret_bool (right_iff ?_), below_alloc (Below.refl _ _) _⟩
    simp [inB, rightP, rightA, rightB, rightC, rightD] at *
    have t8 := T8.out
    have t4 := T4.out
    try omega)
set_option maxRecDepth 100000 in
set_option maxHeartbeats 1600000 in
theorem right3_16 (d n m imm kind : Int) (w : World) :
    Calls Try.prog 11 #[instrW 16 d n m imm kind] w fun e w' => e = .returned (.bool (rightI 16 d n m imm kind)) ∧ Below w.heap.size w w' := by
  have T8 := Lib.hid (tmod_iff imm 8)
  have T4 := Lib.hid (tmod_iff kind 4)
  go_enter Try.func11, Try.ntmps11
  go_wp2_with (first | (go_at_call 27; refine (parts_16 _).mono ?_; rintro e w' ⟨rfl, rfl⟩) | (go_at_call 28; refine (in3_any _ _ _ _).mono ?_; rintro e w' ⟨rfl, rfl⟩) | go_in)
  all_goals go_ret
  all_goals (
    refine ⟨ret_bool (right_iff ?_), below_alloc (Below.refl _ _) _⟩
    simp [inB, rightP, rightA, rightB, rightC, rightD] at *
    have t8 := T8.out
    have t4 := T4.out
    try omega)
set_option maxRecDepth 100000 in
set_option maxHeartbeats 1600000 in
theorem right3_17 (d n m imm kind : Int) (w : World) :
    Calls Try.prog 11 #[instrW 17 d n m imm kind] w fun e w' => e = .returned (.bool (rightI 17 d n m imm kind)) ∧ Below w.heap.size w w' := by
  have T8 := Lib.hid (tmod_iff imm 8)
  have T4 := Lib.hid (tmod_iff kind 4)
  go_enter Try.func11, Try.ntmps11
  go_wp2_with (first | (go_at_call 27; refine (parts_17 _).mono ?_; rintro e w' ⟨rfl, rfl⟩) | (go_at_call 28; refine (in3_any _ _ _ _).mono ?_; rintro e w' ⟨rfl, rfl⟩) | go_in)
  all_goals go_ret
  all_goals (
    refine ⟨ret_bool (right_iff ?_), below_alloc (Below.refl _ _) _⟩
    simp [inB, rightP, rightA, rightB, rightC, rightD] at *
    have t8 := T8.out
    have t4 := T4.out
    try omega)
set_option maxRecDepth 100000 in
set_option maxHeartbeats 1600000 in
theorem right3_18 (d n m imm kind : Int) (w : World) :
    Calls Try.prog 11 #[instrW 18 d n m imm kind] w fun e w' => e = .returned (.bool (rightI 18 d n m imm kind)) ∧ Below w.heap.size w w' := by
  have T8 := Lib.hid (tmod_iff imm 8)
  have T4 := Lib.hid (tmod_iff kind 4)
  go_enter Try.func11, Try.ntmps11
  go_wp2_with (first | (go_at_call 27; refine (parts_18 _).mono ?_; rintro e w' ⟨rfl, rfl⟩) | (go_at_call 28; refine (in3_any _ _ _ _).mono ?_; rintro e w' ⟨rfl, rfl⟩) | go_in)
  all_goals go_ret
  all_goals (
    refine ⟨ret_bool (right_iff ?_), below_alloc (Below.refl _ _) _⟩
    simp [inB, rightP, rightA, rightB, rightC, rightD] at *
    have t8 := T8.out
    have t4 := T4.out
    try omega)
set_option maxRecDepth 100000 in
set_option maxHeartbeats 1600000 in
theorem right3_19 (d n m imm kind : Int) (w : World) :
    Calls Try.prog 11 #[instrW 19 d n m imm kind] w fun e w' => e = .returned (.bool (rightI 19 d n m imm kind)) ∧ Below w.heap.size w w' := by
  have T8 := Lib.hid (tmod_iff imm 8)
  have T4 := Lib.hid (tmod_iff kind 4)
  go_enter Try.func11, Try.ntmps11
  go_wp2_with (first | (go_at_call 27; refine (parts_19 _).mono ?_; rintro e w' ⟨rfl, rfl⟩) | (go_at_call 28; refine (in3_any _ _ _ _).mono ?_; rintro e w' ⟨rfl, rfl⟩) | go_in)
  all_goals go_ret
  all_goals (
    refine ⟨ret_bool (right_iff ?_), below_alloc (Below.refl _ _) _⟩
    simp [inB, rightP, rightA, rightB, rightC, rightD] at *
    have t8 := T8.out
    have t4 := T4.out
    try omega)
set_option maxRecDepth 100000 in
set_option maxHeartbeats 1600000 in
theorem right3_20 (d n m imm kind : Int) (w : World) :
    Calls Try.prog 11 #[instrW 20 d n m imm kind] w fun e w' => e = .returned (.bool (rightI 20 d n m imm kind)) ∧ Below w.heap.size w w' := by
  have T8 := Lib.hid (tmod_iff imm 8)
  have T4 := Lib.hid (tmod_iff kind 4)
  go_enter Try.func11, Try.ntmps11
  go_wp2_with (first | (go_at_call 27; refine (parts_20 _).mono ?_; rintro e w' ⟨rfl, rfl⟩) | (go_at_call 28; refine (in3_any _ _ _ _).mono ?_; rintro e w' ⟨rfl, rfl⟩) | go_in)
  all_goals go_ret
  all_goals (
    refine ⟨ret_bool (right_iff ?_), below_alloc (Below.refl _ _) _⟩
    simp [inB, rightP, rightA, rightB, rightC, rightD] at *
    have t8 := T8.out
    have t4 := T4.out
    try omega)
set_option maxRecDepth 100000 in
set_option maxHeartbeats 1600000 in
theorem right3_21 (d n m imm kind : Int) (w : World) :
    Calls Try.prog 11 #[instrW 21 d n m imm kind] w fun e w' => e = .returned (.bool (rightI 21 d n m imm kind)) ∧ Below w.heap.size w w' := by
  have T8 := Lib.hid (tmod_iff imm 8)
  have T4 := Lib.hid (tmod_iff kind 4)
  go_enter Try.func11, Try.ntmps11
  go_wp2_with (first | (go_at_call 27; refine (parts_21 _).mono ?_; rintro e w' ⟨rfl, rfl⟩) | (go_at_call 28; refine (in3_any _ _ _ _).mono ?_; rintro e w' ⟨rfl, rfl⟩) | go_in)
  all_goals go_ret
  all_goals (
    refine ⟨ret_bool (right_iff ?_), below_alloc (Below.refl _ _) _⟩
    simp [inB, rightP, rightA, rightB, rightC, rightD] at *
    have t8 := T8.out
    have t4 := T4.out
    try omega)
set_option maxRecDepth 100000 in
set_option maxHeartbeats 1600000 in
theorem right3_22 (d n m imm kind : Int) (w : World) :
    Calls Try.prog 11 #[instrW 22 d n m imm kind] w fun e w' => e = .returned (.bool (rightI 22 d n m imm kind)) ∧ Below w.heap.size w w' := by
  have T8 := Lib.hid (tmod_iff imm 8)
  have T4 := Lib.hid (tmod_iff kind 4)
  go_enter Try.func11, Try.ntmps11
  go_wp2_with (first | (go_at_call 27; refine (parts_22 _).mono ?_; rintro e w' ⟨rfl, rfl⟩) | (go_at_call 28; refine (in3_any _ _ _ _).mono ?_; rintro e w' ⟨rfl, rfl⟩) | go_in)
  all_goals go_ret
  all_goals (
    refine ⟨ret_bool (right_iff ?_), below_alloc (Below.refl _ _) _⟩
    simp [inB, rightP, rightA, rightB, rightC, rightD] at *
    have t8 := T8.out
    have t4 := T4.out
    try omega)
set_option maxRecDepth 100000 in
set_option maxHeartbeats 1600000 in
theorem right3_23 (d n m imm kind : Int) (w : World) :
    Calls Try.prog 11 #[instrW 23 d n m imm kind] w fun e w' => e = .returned (.bool (rightI 23 d n m imm kind)) ∧ Below w.heap.size w w' := by
  have T8 := Lib.hid (tmod_iff imm 8)
  have T4 := Lib.hid (tmod_iff kind 4)
  go_enter Try.func11, Try.ntmps11
  go_wp2_with (first | (go_at_call 27; refine (parts_23 _).mono ?_; rintro e w' ⟨rfl, rfl⟩) | (go_at_call 28; refine (in3_any _ _ _ _).mono ?_; rintro e w' ⟨rfl, rfl⟩) | go_in)
  all_goals go_ret
  all_goals (
    refine ⟨ret_bool (right_iff ?_), below_alloc (Below.refl _ _) _⟩
    simp [inB, rightP, rightA, rightB, rightC, rightD] at *
    have t8 := T8.out
    have t4 := T4.out
    try omega)
theorem right3_any (op d n m imm kind : Int) (w : World) :
    Calls Try.prog 11 #[instrW op d n m imm kind] w fun e w' => e = .returned (.bool (rightI op d n m imm kind)) ∧ Below w.heap.size w w' := by
  cases h : opB op
  · exact right3_no op d n m imm kind w h
  · rcases opB_cases h with rfl | rfl | rfl | rfl | rfl | rfl | rfl | rfl | rfl | rfl | rfl | rfl | rfl | rfl | rfl | rfl | rfl | rfl | rfl | rfl | rfl | rfl | rfl
    · exact right3_1 d n m imm kind w
    · exact right3_2 d n m imm kind w
    · exact right3_3 d n m imm kind w
    · exact right3_4 d n m imm kind w
    · exact right3_5 d n m imm kind w
    · exact right3_6 d n m imm kind w
    · exact right3_7 d n m imm kind w
    · exact right3_8 d n m imm kind w
    · exact right3_9 d n m imm kind w
    · exact right3_10 d n m imm kind w
    · exact right3_11 d n m imm kind w
    · exact right3_12 d n m imm kind w
    · exact right3_13 d n m imm kind w
    · exact right3_14 d n m imm kind w
    · exact right3_15 d n m imm kind w
    · exact right3_16 d n m imm kind w
    · exact right3_17 d n m imm kind w
    · exact right3_18 d n m imm kind w
    · exact right3_19 d n m imm kind w
    · exact right3_20 d n m imm kind w
    · exact right3_21 d n m imm kind w
    · exact right3_22 d n m imm kind w
    · exact right3_23 d n m imm kind w
end Go.Proofs.Ytlhkjjfdmglabaa
