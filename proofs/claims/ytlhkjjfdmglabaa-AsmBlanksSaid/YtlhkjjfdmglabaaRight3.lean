/- Contracts of granuleref03.Parts, in, has, Right: what a right instruction keeps. -/
import Derived.Test.YtlhkjjfdmglabaaRows
import Derived.Test.YtlhkjjfdmglabaaBase
namespace Go.Proofs.Ytlhkjjfdmglabaa
open Go.RowKit

abbrev instrW (op d n m imm kind : Int) : Value := .agg #[.int .i64 op, .int .i64 d, .int .i64 n, .int .i64 m, .int .i64 imm, .int .i64 kind]
def inB (n a b : Int) : Bool := decide (a ≤ n ∧ n ≤ b)
theorem inB_true {n a b : Int} (h : inB n a b = true) : a ≤ n ∧ n ≤ b := of_decide_eq_true h

theorem in3_any (n a b : Int) (w : World) :
    Calls Try.prog 28 #[.int .i64 n, .int .i64 a, .int .i64 b] w fun e w' => e = .returned (.bool (inB n a b)) ∧ w = w' := by
  have H : Hid (inB n a b = decide (a ≤ n ∧ n ≤ b)) := rfl
  by_cases h1 : a ≤ n <;> by_cases h2 : n ≤ b <;> (
    go_enter Try.func28, Try.ntmps28
    go_wp2
    go_ret
    refine ⟨ret_bool ?_, rfl⟩
    rw [H.out]
    simp [h1, h2])

def opB (op : Int) : Bool := decide (1 ≤ op ∧ op ≤ 23)
theorem opB_cases {op : Int} (h : opB op = true) : op = 1 ∨ op = 2 ∨ op = 3 ∨ op = 4 ∨ op = 5 ∨ op = 6 ∨ op = 7 ∨ op = 8 ∨ op = 9 ∨ op = 10 ∨ op = 11 ∨ op = 12 ∨ op = 13 ∨ op = 14 ∨ op = 15 ∨ op = 16 ∨ op = 17 ∨ op = 18 ∨ op = 19 ∨ op = 20 ∨ op = 21 ∨ op = 22 ∨ op = 23 := by
  have := of_decide_eq_true h; omega

theorem parts_1 (w : World) : Calls Try.prog 27 #[.int .i64 1] w fun e w' => e = .returned (.int .i64 0) ∧ w = w' := by
  go_enter Try.func27, Try.ntmps27
  go_wp2
  go_ret
  exact ⟨rfl, rfl⟩
theorem parts_2 (w : World) : Calls Try.prog 27 #[.int .i64 2] w fun e w' => e = .returned (.int .i64 11) ∧ w = w' := by
  go_enter Try.func27, Try.ntmps27
  go_wp2
  go_ret
  exact ⟨rfl, rfl⟩
theorem parts_3 (w : World) : Calls Try.prog 27 #[.int .i64 3] w fun e w' => e = .returned (.int .i64 11) ∧ w = w' := by
  go_enter Try.func27, Try.ntmps27
  go_wp2
  go_ret
  exact ⟨rfl, rfl⟩
theorem parts_4 (w : World) : Calls Try.prog 27 #[.int .i64 4] w fun e w' => e = .returned (.int .i64 3) ∧ w = w' := by
  go_enter Try.func27, Try.ntmps27
  go_wp2
  go_ret
  exact ⟨rfl, rfl⟩
theorem parts_5 (w : World) : Calls Try.prog 27 #[.int .i64 5] w fun e w' => e = .returned (.int .i64 3) ∧ w = w' := by
  go_enter Try.func27, Try.ntmps27
  go_wp2
  go_ret
  exact ⟨rfl, rfl⟩
theorem parts_6 (w : World) : Calls Try.prog 27 #[.int .i64 6] w fun e w' => e = .returned (.int .i64 25) ∧ w = w' := by
  go_enter Try.func27, Try.ntmps27
  go_wp2
  go_ret
  exact ⟨rfl, rfl⟩
theorem parts_7 (w : World) : Calls Try.prog 27 #[.int .i64 7] w fun e w' => e = .returned (.int .i64 11) ∧ w = w' := by
  go_enter Try.func27, Try.ntmps27
  go_wp2
  go_ret
  exact ⟨rfl, rfl⟩
theorem parts_8 (w : World) : Calls Try.prog 27 #[.int .i64 8] w fun e w' => e = .returned (.int .i64 7) ∧ w = w' := by
  go_enter Try.func27, Try.ntmps27
  go_wp2
  go_ret
  exact ⟨rfl, rfl⟩
theorem parts_9 (w : World) : Calls Try.prog 27 #[.int .i64 9] w fun e w' => e = .returned (.int .i64 7) ∧ w = w' := by
  go_enter Try.func27, Try.ntmps27
  go_wp2
  go_ret
  exact ⟨rfl, rfl⟩
theorem parts_10 (w : World) : Calls Try.prog 27 #[.int .i64 10] w fun e w' => e = .returned (.int .i64 7) ∧ w = w' := by
  go_enter Try.func27, Try.ntmps27
  go_wp2
  go_ret
  exact ⟨rfl, rfl⟩
theorem parts_11 (w : World) : Calls Try.prog 27 #[.int .i64 11] w fun e w' => e = .returned (.int .i64 7) ∧ w = w' := by
  go_enter Try.func27, Try.ntmps27
  go_wp2
  go_ret
  exact ⟨rfl, rfl⟩
theorem parts_12 (w : World) : Calls Try.prog 27 #[.int .i64 12] w fun e w' => e = .returned (.int .i64 7) ∧ w = w' := by
  go_enter Try.func27, Try.ntmps27
  go_wp2
  go_ret
  exact ⟨rfl, rfl⟩
theorem parts_13 (w : World) : Calls Try.prog 27 #[.int .i64 13] w fun e w' => e = .returned (.int .i64 7) ∧ w = w' := by
  go_enter Try.func27, Try.ntmps27
  go_wp2
  go_ret
  exact ⟨rfl, rfl⟩
theorem parts_14 (w : World) : Calls Try.prog 27 #[.int .i64 14] w fun e w' => e = .returned (.int .i64 8) ∧ w = w' := by
  go_enter Try.func27, Try.ntmps27
  go_wp2
  go_ret
  exact ⟨rfl, rfl⟩
theorem parts_15 (w : World) : Calls Try.prog 27 #[.int .i64 15] w fun e w' => e = .returned (.int .i64 9) ∧ w = w' := by
  go_enter Try.func27, Try.ntmps27
  go_wp2
  go_ret
  exact ⟨rfl, rfl⟩
theorem parts_16 (w : World) : Calls Try.prog 27 #[.int .i64 16] w fun e w' => e = .returned (.int .i64 9) ∧ w = w' := by
  go_enter Try.func27, Try.ntmps27
  go_wp2
  go_ret
  exact ⟨rfl, rfl⟩
theorem parts_17 (w : World) : Calls Try.prog 27 #[.int .i64 17] w fun e w' => e = .returned (.int .i64 24) ∧ w = w' := by
  go_enter Try.func27, Try.ntmps27
  go_wp2
  go_ret
  exact ⟨rfl, rfl⟩
theorem parts_18 (w : World) : Calls Try.prog 27 #[.int .i64 18] w fun e w' => e = .returned (.int .i64 16) ∧ w = w' := by
  go_enter Try.func27, Try.ntmps27
  go_wp2
  go_ret
  exact ⟨rfl, rfl⟩
theorem parts_19 (w : World) : Calls Try.prog 27 #[.int .i64 19] w fun e w' => e = .returned (.int .i64 16) ∧ w = w' := by
  go_enter Try.func27, Try.ntmps27
  go_wp2
  go_ret
  exact ⟨rfl, rfl⟩
theorem parts_20 (w : World) : Calls Try.prog 27 #[.int .i64 20] w fun e w' => e = .returned (.int .i64 0) ∧ w = w' := by
  go_enter Try.func27, Try.ntmps27
  go_wp2
  go_ret
  exact ⟨rfl, rfl⟩
theorem parts_21 (w : World) : Calls Try.prog 27 #[.int .i64 21] w fun e w' => e = .returned (.int .i64 17) ∧ w = w' := by
  go_enter Try.func27, Try.ntmps27
  go_wp2
  go_ret
  exact ⟨rfl, rfl⟩
theorem parts_22 (w : World) : Calls Try.prog 27 #[.int .i64 22] w fun e w' => e = .returned (.int .i64 0) ∧ w = w' := by
  go_enter Try.func27, Try.ntmps27
  go_wp2
  go_ret
  exact ⟨rfl, rfl⟩
theorem parts_23 (w : World) : Calls Try.prog 27 #[.int .i64 23] w fun e w' => e = .returned (.int .i64 17) ∧ w = w' := by
  go_enter Try.func27, Try.ntmps27
  go_wp2
  go_ret
  exact ⟨rfl, rfl⟩
theorem parts_no (op : Int) (w : World) (h : opB op = false) : Calls Try.prog 27 #[.int .i64 op] w fun e w' => e = .returned (.int .i64 (-1)) ∧ w = w' := by
  have h' : ¬ (1 ≤ op ∧ op ≤ 23) := of_decide_eq_false h
  have e1 : (op == 1) = false := beq_eq_false_iff_ne.2 (by omega)
  have e2 : (op == 2) = false := beq_eq_false_iff_ne.2 (by omega)
  have e3 : (op == 3) = false := beq_eq_false_iff_ne.2 (by omega)
  have e4 : (op == 4) = false := beq_eq_false_iff_ne.2 (by omega)
  have e5 : (op == 5) = false := beq_eq_false_iff_ne.2 (by omega)
  have e6 : (op == 6) = false := beq_eq_false_iff_ne.2 (by omega)
  have e7 : (op == 7) = false := beq_eq_false_iff_ne.2 (by omega)
  have e8 : (op == 8) = false := beq_eq_false_iff_ne.2 (by omega)
  have e9 : (op == 9) = false := beq_eq_false_iff_ne.2 (by omega)
  have e10 : (op == 10) = false := beq_eq_false_iff_ne.2 (by omega)
  have e11 : (op == 11) = false := beq_eq_false_iff_ne.2 (by omega)
  have e12 : (op == 12) = false := beq_eq_false_iff_ne.2 (by omega)
  have e13 : (op == 13) = false := beq_eq_false_iff_ne.2 (by omega)
  have e14 : (op == 14) = false := beq_eq_false_iff_ne.2 (by omega)
  have e15 : (op == 15) = false := beq_eq_false_iff_ne.2 (by omega)
  have e16 : (op == 16) = false := beq_eq_false_iff_ne.2 (by omega)
  have e17 : (op == 17) = false := beq_eq_false_iff_ne.2 (by omega)
  have e18 : (op == 18) = false := beq_eq_false_iff_ne.2 (by omega)
  have e19 : (op == 19) = false := beq_eq_false_iff_ne.2 (by omega)
  have e20 : (op == 20) = false := beq_eq_false_iff_ne.2 (by omega)
  have e21 : (op == 21) = false := beq_eq_false_iff_ne.2 (by omega)
  have e22 : (op == 22) = false := beq_eq_false_iff_ne.2 (by omega)
  have e23 : (op == 23) = false := beq_eq_false_iff_ne.2 (by omega)
  have g1 : ((1 : Int) == op) = false := beq_eq_false_iff_ne.2 (by omega)
  have g2 : ((2 : Int) == op) = false := beq_eq_false_iff_ne.2 (by omega)
  have g3 : ((3 : Int) == op) = false := beq_eq_false_iff_ne.2 (by omega)
  have g4 : ((4 : Int) == op) = false := beq_eq_false_iff_ne.2 (by omega)
  have g5 : ((5 : Int) == op) = false := beq_eq_false_iff_ne.2 (by omega)
  have g6 : ((6 : Int) == op) = false := beq_eq_false_iff_ne.2 (by omega)
  have g7 : ((7 : Int) == op) = false := beq_eq_false_iff_ne.2 (by omega)
  have g8 : ((8 : Int) == op) = false := beq_eq_false_iff_ne.2 (by omega)
  have g9 : ((9 : Int) == op) = false := beq_eq_false_iff_ne.2 (by omega)
  have g10 : ((10 : Int) == op) = false := beq_eq_false_iff_ne.2 (by omega)
  have g11 : ((11 : Int) == op) = false := beq_eq_false_iff_ne.2 (by omega)
  have g12 : ((12 : Int) == op) = false := beq_eq_false_iff_ne.2 (by omega)
  have g13 : ((13 : Int) == op) = false := beq_eq_false_iff_ne.2 (by omega)
  have g14 : ((14 : Int) == op) = false := beq_eq_false_iff_ne.2 (by omega)
  have g15 : ((15 : Int) == op) = false := beq_eq_false_iff_ne.2 (by omega)
  have g16 : ((16 : Int) == op) = false := beq_eq_false_iff_ne.2 (by omega)
  have g17 : ((17 : Int) == op) = false := beq_eq_false_iff_ne.2 (by omega)
  have g18 : ((18 : Int) == op) = false := beq_eq_false_iff_ne.2 (by omega)
  have g19 : ((19 : Int) == op) = false := beq_eq_false_iff_ne.2 (by omega)
  have g20 : ((20 : Int) == op) = false := beq_eq_false_iff_ne.2 (by omega)
  have g21 : ((21 : Int) == op) = false := beq_eq_false_iff_ne.2 (by omega)
  have g22 : ((22 : Int) == op) = false := beq_eq_false_iff_ne.2 (by omega)
  have g23 : ((23 : Int) == op) = false := beq_eq_false_iff_ne.2 (by omega)
  clear h h'
  go_enter Try.func27, Try.ntmps27
  go_wp2
  go_ret
  exact ⟨rfl, rfl⟩

/-- What an instruction that is right keeps. -/
def RightP (op d n m imm kind : Int) : Prop :=
  opB op = true ∧ (0 ≤ d ∧ d ≤ 31) ∧ (0 ≤ n ∧ n ≤ 31) ∧ (0 ≤ m ∧ m ≤ 31) ∧
  (op = 6 → (0 ≤ imm ∧ imm ≤ 65535) ∧ (0 ≤ kind ∧ kind ≤ 3)) ∧ (op = 7 → 0 ≤ imm ∧ imm ≤ 4095) ∧ (op = 23 → 0 ≤ kind ∧ kind ≤ 2) ∧ (op = 17 → 0 ≤ kind ∧ kind ≤ 1) ∧ (-33554432 ≤ imm ∧ imm ≤ 33554431)

def SomeRight (op d n m imm kind : Int) (w : World) (e : Ending) (w' : World) : Prop := ∃ b : Bool, e = .returned (.bool b) ∧ (b = true → RightP op d n m imm kind) ∧ Below w.heap.size w w'
theorem SomeRight.no {op d n m imm kind : Int} {w w' : World} {e : Ending} (he : e = .returned (.bool false)) (h : Below w.heap.size w w') : SomeRight op d n m imm kind w e w' := ⟨false, he, (fun h => by cases h), h⟩

theorem right_no (op d n m imm kind : Int) (w : World) (h : opB op = false) :
    Calls Try.prog 11 #[instrW op d n m imm kind] w (SomeRight op d n m imm kind w) := by
  go_enter Try.func11, Try.ntmps11
  go_wp2_with (go_at_call 27; refine (parts_no _ _ h).mono ?_; rintro e w' ⟨rfl, rfl⟩)
  go_ret
  exact .no rfl (below_alloc (Below.refl _ _) _)

set_option maxRecDepth 100000 in
set_option maxHeartbeats 800000 in
theorem right_1 (d n m imm kind : Int) (w : World) :
    Calls Try.prog 11 #[instrW 1 d n m imm kind] w (SomeRight 1 d n m imm kind w) := by
  go_enter Try.func11, Try.ntmps11
  go_wp2_with (first | (go_at_call 27; refine (parts_1 _).mono ?_; rintro e w' ⟨rfl, rfl⟩) | (go_at_call 28; refine (in3_any _ _ _ _).mono ?_; rintro e w' ⟨rfl, rfl⟩) | go_in)
  all_goals go_ret
  all_goals first
    | exact .no rfl (below_alloc (Below.refl _ _) _)
    | (refine ⟨_, rfl, fun hb => ?_, below_alloc (Below.refl _ _) _⟩
       simp [inB] at *
       exact ⟨by decide, ⟨by omega, by omega⟩, ⟨by omega, by omega⟩, ⟨by omega, by omega⟩, fun h => by omega, fun h => by omega, fun h => by omega, fun h => by omega, ⟨by omega, by omega⟩⟩)

set_option maxRecDepth 100000 in
set_option maxHeartbeats 800000 in
theorem right_2 (d n m imm kind : Int) (w : World) :
    Calls Try.prog 11 #[instrW 2 d n m imm kind] w (SomeRight 2 d n m imm kind w) := by
  go_enter Try.func11, Try.ntmps11
  go_wp2_with (first | (go_at_call 27; refine (parts_2 _).mono ?_; rintro e w' ⟨rfl, rfl⟩) | (go_at_call 28; refine (in3_any _ _ _ _).mono ?_; rintro e w' ⟨rfl, rfl⟩) | go_in)
  all_goals go_ret
  all_goals first
    | exact .no rfl (below_alloc (Below.refl _ _) _)
    | (refine ⟨_, rfl, fun hb => ?_, below_alloc (Below.refl _ _) _⟩
       simp [inB] at *
       exact ⟨by decide, ⟨by omega, by omega⟩, ⟨by omega, by omega⟩, ⟨by omega, by omega⟩, fun h => by omega, fun h => by omega, fun h => by omega, fun h => by omega, ⟨by omega, by omega⟩⟩)

set_option maxRecDepth 100000 in
set_option maxHeartbeats 800000 in
theorem right_3 (d n m imm kind : Int) (w : World) :
    Calls Try.prog 11 #[instrW 3 d n m imm kind] w (SomeRight 3 d n m imm kind w) := by
  go_enter Try.func11, Try.ntmps11
  go_wp2_with (first | (go_at_call 27; refine (parts_3 _).mono ?_; rintro e w' ⟨rfl, rfl⟩) | (go_at_call 28; refine (in3_any _ _ _ _).mono ?_; rintro e w' ⟨rfl, rfl⟩) | go_in)
  all_goals go_ret
  all_goals first
    | exact .no rfl (below_alloc (Below.refl _ _) _)
    | (refine ⟨_, rfl, fun hb => ?_, below_alloc (Below.refl _ _) _⟩
       simp [inB] at *
       exact ⟨by decide, ⟨by omega, by omega⟩, ⟨by omega, by omega⟩, ⟨by omega, by omega⟩, fun h => by omega, fun h => by omega, fun h => by omega, fun h => by omega, ⟨by omega, by omega⟩⟩)

set_option maxRecDepth 100000 in
set_option maxHeartbeats 800000 in
theorem right_4 (d n m imm kind : Int) (w : World) :
    Calls Try.prog 11 #[instrW 4 d n m imm kind] w (SomeRight 4 d n m imm kind w) := by
  go_enter Try.func11, Try.ntmps11
  go_wp2_with (first | (go_at_call 27; refine (parts_4 _).mono ?_; rintro e w' ⟨rfl, rfl⟩) | (go_at_call 28; refine (in3_any _ _ _ _).mono ?_; rintro e w' ⟨rfl, rfl⟩) | go_in)
  all_goals go_ret
  all_goals first
    | exact .no rfl (below_alloc (Below.refl _ _) _)
    | (refine ⟨_, rfl, fun hb => ?_, below_alloc (Below.refl _ _) _⟩
       simp [inB] at *
       exact ⟨by decide, ⟨by omega, by omega⟩, ⟨by omega, by omega⟩, ⟨by omega, by omega⟩, fun h => by omega, fun h => by omega, fun h => by omega, fun h => by omega, ⟨by omega, by omega⟩⟩)

set_option maxRecDepth 100000 in
set_option maxHeartbeats 800000 in
theorem right_5 (d n m imm kind : Int) (w : World) :
    Calls Try.prog 11 #[instrW 5 d n m imm kind] w (SomeRight 5 d n m imm kind w) := by
  go_enter Try.func11, Try.ntmps11
  go_wp2_with (first | (go_at_call 27; refine (parts_5 _).mono ?_; rintro e w' ⟨rfl, rfl⟩) | (go_at_call 28; refine (in3_any _ _ _ _).mono ?_; rintro e w' ⟨rfl, rfl⟩) | go_in)
  all_goals go_ret
  all_goals first
    | exact .no rfl (below_alloc (Below.refl _ _) _)
    | (refine ⟨_, rfl, fun hb => ?_, below_alloc (Below.refl _ _) _⟩
       simp [inB] at *
       exact ⟨by decide, ⟨by omega, by omega⟩, ⟨by omega, by omega⟩, ⟨by omega, by omega⟩, fun h => by omega, fun h => by omega, fun h => by omega, fun h => by omega, ⟨by omega, by omega⟩⟩)

set_option maxRecDepth 100000 in
set_option maxHeartbeats 800000 in
theorem right_6 (d n m imm kind : Int) (w : World) :
    Calls Try.prog 11 #[instrW 6 d n m imm kind] w (SomeRight 6 d n m imm kind w) := by
  go_enter Try.func11, Try.ntmps11
  go_wp2_with (first | (go_at_call 27; refine (parts_6 _).mono ?_; rintro e w' ⟨rfl, rfl⟩) | (go_at_call 28; refine (in3_any _ _ _ _).mono ?_; rintro e w' ⟨rfl, rfl⟩) | go_in)
  all_goals go_ret
  all_goals first
    | exact .no rfl (below_alloc (Below.refl _ _) _)
    | (refine ⟨_, rfl, fun hb => ?_, below_alloc (Below.refl _ _) _⟩
       simp [inB] at *
       exact ⟨by decide, ⟨by omega, by omega⟩, ⟨by omega, by omega⟩, ⟨by omega, by omega⟩, fun h => by omega, fun h => by omega, fun h => by omega, fun h => by omega, ⟨by omega, by omega⟩⟩)

set_option maxRecDepth 100000 in
set_option maxHeartbeats 800000 in
theorem right_7 (d n m imm kind : Int) (w : World) :
    Calls Try.prog 11 #[instrW 7 d n m imm kind] w (SomeRight 7 d n m imm kind w) := by
  go_enter Try.func11, Try.ntmps11
  go_wp2_with (first | (go_at_call 27; refine (parts_7 _).mono ?_; rintro e w' ⟨rfl, rfl⟩) | (go_at_call 28; refine (in3_any _ _ _ _).mono ?_; rintro e w' ⟨rfl, rfl⟩) | go_in)
  all_goals go_ret
  all_goals first
    | exact .no rfl (below_alloc (Below.refl _ _) _)
    | (refine ⟨_, rfl, fun hb => ?_, below_alloc (Below.refl _ _) _⟩
       simp [inB] at *
       exact ⟨by decide, ⟨by omega, by omega⟩, ⟨by omega, by omega⟩, ⟨by omega, by omega⟩, fun h => by omega, fun h => by omega, fun h => by omega, fun h => by omega, ⟨by omega, by omega⟩⟩)

set_option maxRecDepth 100000 in
set_option maxHeartbeats 800000 in
theorem right_8 (d n m imm kind : Int) (w : World) :
    Calls Try.prog 11 #[instrW 8 d n m imm kind] w (SomeRight 8 d n m imm kind w) := by
  go_enter Try.func11, Try.ntmps11
  go_wp2_with (first | (go_at_call 27; refine (parts_8 _).mono ?_; rintro e w' ⟨rfl, rfl⟩) | (go_at_call 28; refine (in3_any _ _ _ _).mono ?_; rintro e w' ⟨rfl, rfl⟩) | go_in)
  all_goals go_ret
  all_goals first
    | exact .no rfl (below_alloc (Below.refl _ _) _)
    | (refine ⟨_, rfl, fun hb => ?_, below_alloc (Below.refl _ _) _⟩
       simp [inB] at *
       exact ⟨by decide, ⟨by omega, by omega⟩, ⟨by omega, by omega⟩, ⟨by omega, by omega⟩, fun h => by omega, fun h => by omega, fun h => by omega, fun h => by omega, ⟨by omega, by omega⟩⟩)

set_option maxRecDepth 100000 in
set_option maxHeartbeats 800000 in
theorem right_9 (d n m imm kind : Int) (w : World) :
    Calls Try.prog 11 #[instrW 9 d n m imm kind] w (SomeRight 9 d n m imm kind w) := by
  go_enter Try.func11, Try.ntmps11
  go_wp2_with (first | (go_at_call 27; refine (parts_9 _).mono ?_; rintro e w' ⟨rfl, rfl⟩) | (go_at_call 28; refine (in3_any _ _ _ _).mono ?_; rintro e w' ⟨rfl, rfl⟩) | go_in)
  all_goals go_ret
  all_goals first
    | exact .no rfl (below_alloc (Below.refl _ _) _)
    | (refine ⟨_, rfl, fun hb => ?_, below_alloc (Below.refl _ _) _⟩
       simp [inB] at *
       exact ⟨by decide, ⟨by omega, by omega⟩, ⟨by omega, by omega⟩, ⟨by omega, by omega⟩, fun h => by omega, fun h => by omega, fun h => by omega, fun h => by omega, ⟨by omega, by omega⟩⟩)

set_option maxRecDepth 100000 in
set_option maxHeartbeats 800000 in
theorem right_10 (d n m imm kind : Int) (w : World) :
    Calls Try.prog 11 #[instrW 10 d n m imm kind] w (SomeRight 10 d n m imm kind w) := by
  go_enter Try.func11, Try.ntmps11
  go_wp2_with (first | (go_at_call 27; refine (parts_10 _).mono ?_; rintro e w' ⟨rfl, rfl⟩) | (go_at_call 28; refine (in3_any _ _ _ _).mono ?_; rintro e w' ⟨rfl, rfl⟩) | go_in)
  all_goals go_ret
  all_goals first
    | exact .no rfl (below_alloc (Below.refl _ _) _)
    | (refine ⟨_, rfl, fun hb => ?_, below_alloc (Below.refl _ _) _⟩
       simp [inB] at *
       exact ⟨by decide, ⟨by omega, by omega⟩, ⟨by omega, by omega⟩, ⟨by omega, by omega⟩, fun h => by omega, fun h => by omega, fun h => by omega, fun h => by omega, ⟨by omega, by omega⟩⟩)

set_option maxRecDepth 100000 in
set_option maxHeartbeats 800000 in
theorem right_11 (d n m imm kind : Int) (w : World) :
    Calls Try.prog 11 #[instrW 11 d n m imm kind] w (SomeRight 11 d n m imm kind w) := by
  go_enter Try.func11, Try.ntmps11
  go_wp2_with (first | (go_at_call 27; refine (parts_11 _).mono ?_; rintro e w' ⟨rfl, rfl⟩) | (go_at_call 28; refine (in3_any _ _ _ _).mono ?_; rintro e w' ⟨rfl, rfl⟩) | go_in)
  all_goals go_ret
  all_goals first
    | exact .no rfl (below_alloc (Below.refl _ _) _)
    | (refine ⟨_, rfl, fun hb => ?_, below_alloc (Below.refl _ _) _⟩
       simp [inB] at *
       exact ⟨by decide, ⟨by omega, by omega⟩, ⟨by omega, by omega⟩, ⟨by omega, by omega⟩, fun h => by omega, fun h => by omega, fun h => by omega, fun h => by omega, ⟨by omega, by omega⟩⟩)

set_option maxRecDepth 100000 in
set_option maxHeartbeats 800000 in
theorem right_12 (d n m imm kind : Int) (w : World) :
    Calls Try.prog 11 #[instrW 12 d n m imm kind] w (SomeRight 12 d n m imm kind w) := by
  go_enter Try.func11, Try.ntmps11
  go_wp2_with (first | (go_at_call 27; refine (parts_12 _).mono ?_; rintro e w' ⟨rfl, rfl⟩) | (go_at_call 28; refine (in3_any _ _ _ _).mono ?_; rintro e w' ⟨rfl, rfl⟩) | go_in)
  all_goals go_ret
  all_goals first
    | exact .no rfl (below_alloc (Below.refl _ _) _)
    | (refine ⟨_, rfl, fun hb => ?_, below_alloc (Below.refl _ _) _⟩
       simp [inB] at *
       exact ⟨by decide, ⟨by omega, by omega⟩, ⟨by omega, by omega⟩, ⟨by omega, by omega⟩, fun h => by omega, fun h => by omega, fun h => by omega, fun h => by omega, ⟨by omega, by omega⟩⟩)

set_option maxRecDepth 100000 in
set_option maxHeartbeats 800000 in
theorem right_13 (d n m imm kind : Int) (w : World) :
    Calls Try.prog 11 #[instrW 13 d n m imm kind] w (SomeRight 13 d n m imm kind w) := by
  go_enter Try.func11, Try.ntmps11
  go_wp2_with (first | (go_at_call 27; refine (parts_13 _).mono ?_; rintro e w' ⟨rfl, rfl⟩) | (go_at_call 28; refine (in3_any _ _ _ _).mono ?_; rintro e w' ⟨rfl, rfl⟩) | go_in)
  all_goals go_ret
  all_goals first
    | exact .no rfl (below_alloc (Below.refl _ _) _)
    | (refine ⟨_, rfl, fun hb => ?_, below_alloc (Below.refl _ _) _⟩
       simp [inB] at *
       exact ⟨by decide, ⟨by omega, by omega⟩, ⟨by omega, by omega⟩, ⟨by omega, by omega⟩, fun h => by omega, fun h => by omega, fun h => by omega, fun h => by omega, ⟨by omega, by omega⟩⟩)

set_option maxRecDepth 100000 in
set_option maxHeartbeats 800000 in
theorem right_14 (d n m imm kind : Int) (w : World) :
    Calls Try.prog 11 #[instrW 14 d n m imm kind] w (SomeRight 14 d n m imm kind w) := by
  go_enter Try.func11, Try.ntmps11
  go_wp2_with (first | (go_at_call 27; refine (parts_14 _).mono ?_; rintro e w' ⟨rfl, rfl⟩) | (go_at_call 28; refine (in3_any _ _ _ _).mono ?_; rintro e w' ⟨rfl, rfl⟩) | go_in)
  all_goals go_ret
  all_goals first
    | exact .no rfl (below_alloc (Below.refl _ _) _)
    | (refine ⟨_, rfl, fun hb => ?_, below_alloc (Below.refl _ _) _⟩
       simp [inB] at *
       exact ⟨by decide, ⟨by omega, by omega⟩, ⟨by omega, by omega⟩, ⟨by omega, by omega⟩, fun h => by omega, fun h => by omega, fun h => by omega, fun h => by omega, ⟨by omega, by omega⟩⟩)

set_option maxRecDepth 100000 in
set_option maxHeartbeats 800000 in
theorem right_15 (d n m imm kind : Int) (w : World) :
    Calls Try.prog 11 #[instrW 15 d n m imm kind] w (SomeRight 15 d n m imm kind w) := by
  go_enter Try.func11, Try.ntmps11
  go_wp2_with (first | (go_at_call 27; refine (parts_15 _).mono ?_; rintro e w' ⟨rfl, rfl⟩) | (go_at_call 28; refine (in3_any _ _ _ _).mono ?_; rintro e w' ⟨rfl, rfl⟩) | go_in)
  all_goals go_ret
  all_goals first
    | exact .no rfl (below_alloc (Below.refl _ _) _)
    | (refine ⟨_, rfl, fun hb => ?_, below_alloc (Below.refl _ _) _⟩
       simp [inB] at *
       exact ⟨by decide, ⟨by omega, by omega⟩, ⟨by omega, by omega⟩, ⟨by omega, by omega⟩, fun h => by omega, fun h => by omega, fun h => by omega, fun h => by omega, ⟨by omega, by omega⟩⟩)

set_option maxRecDepth 100000 in
set_option maxHeartbeats 800000 in
theorem right_16 (d n m imm kind : Int) (w : World) :
    Calls Try.prog 11 #[instrW 16 d n m imm kind] w (SomeRight 16 d n m imm kind w) := by
  go_enter Try.func11, Try.ntmps11
  go_wp2_with (first | (go_at_call 27; refine (parts_16 _).mono ?_; rintro e w' ⟨rfl, rfl⟩) | (go_at_call 28; refine (in3_any _ _ _ _).mono ?_; rintro e w' ⟨rfl, rfl⟩) | go_in)
  all_goals go_ret
  all_goals first
    | exact .no rfl (below_alloc (Below.refl _ _) _)
    | (refine ⟨_, rfl, fun hb => ?_, below_alloc (Below.refl _ _) _⟩
       simp [inB] at *
       exact ⟨by decide, ⟨by omega, by omega⟩, ⟨by omega, by omega⟩, ⟨by omega, by omega⟩, fun h => by omega, fun h => by omega, fun h => by omega, fun h => by omega, ⟨by omega, by omega⟩⟩)

set_option maxRecDepth 100000 in
set_option maxHeartbeats 800000 in
theorem right_17 (d n m imm kind : Int) (w : World) :
    Calls Try.prog 11 #[instrW 17 d n m imm kind] w (SomeRight 17 d n m imm kind w) := by
  go_enter Try.func11, Try.ntmps11
  go_wp2_with (first | (go_at_call 27; refine (parts_17 _).mono ?_; rintro e w' ⟨rfl, rfl⟩) | (go_at_call 28; refine (in3_any _ _ _ _).mono ?_; rintro e w' ⟨rfl, rfl⟩) | go_in)
  all_goals go_ret
  all_goals first
    | exact .no rfl (below_alloc (Below.refl _ _) _)
    | (refine ⟨_, rfl, fun hb => ?_, below_alloc (Below.refl _ _) _⟩
       simp [inB] at *
       exact ⟨by decide, ⟨by omega, by omega⟩, ⟨by omega, by omega⟩, ⟨by omega, by omega⟩, fun h => by omega, fun h => by omega, fun h => by omega, fun h => by omega, ⟨by omega, by omega⟩⟩)

set_option maxRecDepth 100000 in
set_option maxHeartbeats 800000 in
theorem right_18 (d n m imm kind : Int) (w : World) :
    Calls Try.prog 11 #[instrW 18 d n m imm kind] w (SomeRight 18 d n m imm kind w) := by
  go_enter Try.func11, Try.ntmps11
  go_wp2_with (first | (go_at_call 27; refine (parts_18 _).mono ?_; rintro e w' ⟨rfl, rfl⟩) | (go_at_call 28; refine (in3_any _ _ _ _).mono ?_; rintro e w' ⟨rfl, rfl⟩) | go_in)
  all_goals go_ret
  all_goals first
    | exact .no rfl (below_alloc (Below.refl _ _) _)
    | (refine ⟨_, rfl, fun hb => ?_, below_alloc (Below.refl _ _) _⟩
       simp [inB] at *
       exact ⟨by decide, ⟨by omega, by omega⟩, ⟨by omega, by omega⟩, ⟨by omega, by omega⟩, fun h => by omega, fun h => by omega, fun h => by omega, fun h => by omega, ⟨by omega, by omega⟩⟩)

set_option maxRecDepth 100000 in
set_option maxHeartbeats 800000 in
theorem right_19 (d n m imm kind : Int) (w : World) :
    Calls Try.prog 11 #[instrW 19 d n m imm kind] w (SomeRight 19 d n m imm kind w) := by
  go_enter Try.func11, Try.ntmps11
  go_wp2_with (first | (go_at_call 27; refine (parts_19 _).mono ?_; rintro e w' ⟨rfl, rfl⟩) | (go_at_call 28; refine (in3_any _ _ _ _).mono ?_; rintro e w' ⟨rfl, rfl⟩) | go_in)
  all_goals go_ret
  all_goals first
    | exact .no rfl (below_alloc (Below.refl _ _) _)
    | (refine ⟨_, rfl, fun hb => ?_, below_alloc (Below.refl _ _) _⟩
       simp [inB] at *
       exact ⟨by decide, ⟨by omega, by omega⟩, ⟨by omega, by omega⟩, ⟨by omega, by omega⟩, fun h => by omega, fun h => by omega, fun h => by omega, fun h => by omega, ⟨by omega, by omega⟩⟩)

set_option maxRecDepth 100000 in
set_option maxHeartbeats 800000 in
theorem right_20 (d n m imm kind : Int) (w : World) :
    Calls Try.prog 11 #[instrW 20 d n m imm kind] w (SomeRight 20 d n m imm kind w) := by
  go_enter Try.func11, Try.ntmps11
  go_wp2_with (first | (go_at_call 27; refine (parts_20 _).mono ?_; rintro e w' ⟨rfl, rfl⟩) | (go_at_call 28; refine (in3_any _ _ _ _).mono ?_; rintro e w' ⟨rfl, rfl⟩) | go_in)
  all_goals go_ret
  all_goals first
    | exact .no rfl (below_alloc (Below.refl _ _) _)
    | (refine ⟨_, rfl, fun hb => ?_, below_alloc (Below.refl _ _) _⟩
       simp [inB] at *
       exact ⟨by decide, ⟨by omega, by omega⟩, ⟨by omega, by omega⟩, ⟨by omega, by omega⟩, fun h => by omega, fun h => by omega, fun h => by omega, fun h => by omega, ⟨by omega, by omega⟩⟩)

set_option maxRecDepth 100000 in
set_option maxHeartbeats 800000 in
theorem right_21 (d n m imm kind : Int) (w : World) :
    Calls Try.prog 11 #[instrW 21 d n m imm kind] w (SomeRight 21 d n m imm kind w) := by
  go_enter Try.func11, Try.ntmps11
  go_wp2_with (first | (go_at_call 27; refine (parts_21 _).mono ?_; rintro e w' ⟨rfl, rfl⟩) | (go_at_call 28; refine (in3_any _ _ _ _).mono ?_; rintro e w' ⟨rfl, rfl⟩) | go_in)
  all_goals go_ret
  all_goals first
    | exact .no rfl (below_alloc (Below.refl _ _) _)
    | (refine ⟨_, rfl, fun hb => ?_, below_alloc (Below.refl _ _) _⟩
       simp [inB] at *
       exact ⟨by decide, ⟨by omega, by omega⟩, ⟨by omega, by omega⟩, ⟨by omega, by omega⟩, fun h => by omega, fun h => by omega, fun h => by omega, fun h => by omega, ⟨by omega, by omega⟩⟩)

set_option maxRecDepth 100000 in
set_option maxHeartbeats 800000 in
theorem right_22 (d n m imm kind : Int) (w : World) :
    Calls Try.prog 11 #[instrW 22 d n m imm kind] w (SomeRight 22 d n m imm kind w) := by
  go_enter Try.func11, Try.ntmps11
  go_wp2_with (first | (go_at_call 27; refine (parts_22 _).mono ?_; rintro e w' ⟨rfl, rfl⟩) | (go_at_call 28; refine (in3_any _ _ _ _).mono ?_; rintro e w' ⟨rfl, rfl⟩) | go_in)
  all_goals go_ret
  all_goals first
    | exact .no rfl (below_alloc (Below.refl _ _) _)
    | (refine ⟨_, rfl, fun hb => ?_, below_alloc (Below.refl _ _) _⟩
       simp [inB] at *
       exact ⟨by decide, ⟨by omega, by omega⟩, ⟨by omega, by omega⟩, ⟨by omega, by omega⟩, fun h => by omega, fun h => by omega, fun h => by omega, fun h => by omega, ⟨by omega, by omega⟩⟩)

set_option maxRecDepth 100000 in
set_option maxHeartbeats 800000 in
theorem right_23 (d n m imm kind : Int) (w : World) :
    Calls Try.prog 11 #[instrW 23 d n m imm kind] w (SomeRight 23 d n m imm kind w) := by
  go_enter Try.func11, Try.ntmps11
  go_wp2_with (first | (go_at_call 27; refine (parts_23 _).mono ?_; rintro e w' ⟨rfl, rfl⟩) | (go_at_call 28; refine (in3_any _ _ _ _).mono ?_; rintro e w' ⟨rfl, rfl⟩) | go_in)
  all_goals go_ret
  all_goals first
    | exact .no rfl (below_alloc (Below.refl _ _) _)
    | (refine ⟨_, rfl, fun hb => ?_, below_alloc (Below.refl _ _) _⟩
       simp [inB] at *
       exact ⟨by decide, ⟨by omega, by omega⟩, ⟨by omega, by omega⟩, ⟨by omega, by omega⟩, fun h => by omega, fun h => by omega, fun h => by omega, fun h => by omega, ⟨by omega, by omega⟩⟩)

theorem right_any (op d n m imm kind : Int) (w : World) :
    Calls Try.prog 11 #[instrW op d n m imm kind] w (SomeRight op d n m imm kind w) := by
  cases h : opB op
  · exact right_no op d n m imm kind w h
  · rcases opB_cases h with rfl | rfl | rfl | rfl | rfl | rfl | rfl | rfl | rfl | rfl | rfl | rfl | rfl | rfl | rfl | rfl | rfl | rfl | rfl | rfl | rfl | rfl | rfl
    · exact right_1 d n m imm kind w
    · exact right_2 d n m imm kind w
    · exact right_3 d n m imm kind w
    · exact right_4 d n m imm kind w
    · exact right_5 d n m imm kind w
    · exact right_6 d n m imm kind w
    · exact right_7 d n m imm kind w
    · exact right_8 d n m imm kind w
    · exact right_9 d n m imm kind w
    · exact right_10 d n m imm kind w
    · exact right_11 d n m imm kind w
    · exact right_12 d n m imm kind w
    · exact right_13 d n m imm kind w
    · exact right_14 d n m imm kind w
    · exact right_15 d n m imm kind w
    · exact right_16 d n m imm kind w
    · exact right_17 d n m imm kind w
    · exact right_18 d n m imm kind w
    · exact right_19 d n m imm kind w
    · exact right_20 d n m imm kind w
    · exact right_21 d n m imm kind w
    · exact right_22 d n m imm kind w
    · exact right_23 d n m imm kind w

end Go.Proofs.Ytlhkjjfdmglabaa
